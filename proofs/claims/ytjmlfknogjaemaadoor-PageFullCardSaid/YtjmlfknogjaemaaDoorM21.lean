/- Page: what a page reads back to: the plain law, as the program goes. -/
import Derived.Test.YtjmlfknogjaemaaDoorM15
import Derived.Test.YtjmlfknogjaemaaDoorM4
import Derived.Test.YtjmlfknogjaemaaDoorProg
import Derived.KernelRfl
set_option linter.unusedVariables false
set_option linter.unusedSimpArgs false
set_option maxRecDepth 100000
namespace Go.Proofs.YtjmlfknogjaemaaDoor.Vc
open Go
namespace PG
/-- The thing that has a number. -/
def thingX (l : List ByteArray) (n : Int) : ByteArray × Bool := if n < 1 ∨ (l.length : Int) < n then (⟨#[]⟩, false) else (l.getD (n - 1).toNat ⟨#[]⟩, true)
abbrev Se := Int × Int
abbrev se0 : Se := (0, 0)
def keyAt (W : List Int) (i : Nat) : Int := W.getD (4 + 2 * i) 0
def numAt (W : List Int) (i : Nat) : Int := W.getD (4 + 2 * i + 1) 0
/-- Does what stands at a place of the table stand right? -/
def okAt (W : List Int) (t : Nat) (l : List ByteArray) (i : Nat) : Bool :=
  (decide (keyAt W i = 0) && decide (numAt W i = 0)) ||
  (decide (0 < keyAt W i) && decide (keyAt W i % 4 ≠ 0) && (thingX l (keyAt W i / 4)).2 && decide ((pgHash (keyAt W i) t + (lookP W (keyAt W i / 4) (keyAt W i % 4)).2 - 1) % t = i))
def seatedB (W : List Int) (t : Nat) (l : List ByteArray) : Bool := (List.range t).all (okAt W t l)
/-- The keys of a kind, as they stand in the first n places. -/
def rawS (W : List Int) (k : Int) (n : Nat) : List Se := (List.range n).filterMap fun i => if 0 < keyAt W i ∧ keyAt W i % 4 = k then some (keyAt W i / 4, numAt W i) else none
theorem rawS_succ (W : List Int) (k : Int) (n : Nat) : rawS W k (n + 1) = rawS W k n ++ if 0 < keyAt W n ∧ keyAt W n % 4 = k then [(keyAt W n / 4, numAt W n)] else [] := by
  unfold rawS
  rw [List.range_succ, List.filterMap_append]
  congr 1
  by_cases h : 0 < keyAt W n ∧ keyAt W n % 4 = k
  · simp [h]
  · simp [h]
theorem rawS_len (W : List Int) (k : Int) : ∀ n, (rawS W k n).length ≤ n
  | 0 => by simp [rawS]
  | n + 1 => by
    have := rawS_len W k n
    rw [rawS_succ]
    split <;> simp <;> omega
/-- Put in where it belongs, ahead of alike ones. -/
def insP (l : List Se) (s : Se) : List Se := l.filter (fun x => decide (x.1 < s.1)) ++ [s] ++ l.filter (fun x => decide (s.1 ≤ x.1))
def srt (l : List Se) : List Se := l.foldl insP []
theorem insP_perm (l : List Se) (s : Se) : (insP l s).Perm (s :: l) := by
  unfold insP
  have h : (l.filter (fun x => decide (x.1 < s.1)) ++ l.filter (fun x => decide (s.1 ≤ x.1))).Perm l := by
    have := List.filter_append_perm (fun x : Se => decide (x.1 < s.1)) l
    have e : (fun x : Se => !decide (x.1 < s.1)) = fun x => decide (s.1 ≤ x.1) := by
      funext x
      by_cases hx : x.1 < s.1
      · simp [hx]
      · simp [hx]; omega
    rw [e] at this
    exact this
  rw [List.append_assoc]
  refine List.perm_middle.trans ?_
  exact h.cons _
theorem srt_perm_aux : ∀ (l acc : List Se), (l.foldl insP acc).Perm (acc ++ l)
  | [], acc => by simp
  | s :: l, acc => by
    rw [List.foldl_cons]
    refine (srt_perm_aux l (insP acc s)).trans ?_
    refine ((insP_perm acc s).append_right l).trans ?_
    exact List.perm_middle.symm
theorem srt_perm (l : List Se) : (srt l).Perm l := by
  unfold srt
  exact srt_perm_aux l []
theorem insP_sorted {l : List Se} {s : Se} (h : l.Pairwise (fun x y => x.1 ≤ y.1)) : (insP l s).Pairwise (fun x y => x.1 ≤ y.1) := by
  unfold insP
  rw [List.append_assoc, List.pairwise_append]
  refine ⟨h.filter _, ?_, fun a ha b hb => ?_⟩
  · rw [List.singleton_append, List.pairwise_cons]
    exact ⟨fun b hb => by have := (List.mem_filter.1 hb).2; exact of_decide_eq_true this, h.filter _⟩
  · have h1 := of_decide_eq_true (List.mem_filter.1 ha).2
    rw [List.singleton_append] at hb
    rcases List.mem_cons.1 hb with rfl | hb
    · omega
    · have h2 := of_decide_eq_true (List.mem_filter.1 hb).2
      omega
theorem srt_sorted_aux : ∀ (l acc : List Se), acc.Pairwise (fun x y => x.1 ≤ y.1) → (l.foldl insP acc).Pairwise (fun x y => x.1 ≤ y.1)
  | [], acc, h => h
  | s :: l, acc, h => srt_sorted_aux l (insP acc s) (insP_sorted h)
theorem srt_sorted (l : List Se) : (srt l).Pairwise (fun x y => x.1 ≤ y.1) := srt_sorted_aux l [] List.Pairwise.nil
theorem srt_len (l : List Se) : (srt l).length = l.length := (srt_perm l).length_eq
/-- The seats of a kind. -/
def seatsP (W : List Int) (k : Int) (t : Nat) : List Se := srt (rawS W k t)
/-- The names of some seats, their classes numbered anew, and what each new number was. -/
def namedStep (l : List ByteArray) (s : List ByteArray × List Int × List Int) (p : Se) : List ByteArray × List Int × List Int :=
  if idxI s.2.2 p.2 < 0 then (s.1 ++ [(thingX l p.1).1], s.2.1 ++ [((s.2.2.length + 1 : Nat) : Int)], s.2.2 ++ [p.2])
  else (s.1 ++ [(thingX l p.1).1], s.2.1 ++ [idxI s.2.2 p.2 + 1], s.2.2)
def namedP (l : List ByteArray) (s : List Se) : List ByteArray × List Int × List Int := s.foldl (namedStep l) ([], [], [])
def wholeB (o : List Int) (n : Int) : Bool := (o.all fun k => decide (1 ≤ k ∧ k ≤ n)) && decide ((o.length : Int) = n)
/-- The seat that has a number. -/
def seatOf (a : List Se) (k : Int) : Option Se := a.find? fun p => decide (p.2 = k)
def listedB (a : List Se) : Bool := (List.range a.length).all fun i => (seatOf a ((i + 1 : Nat) : Int)).isSome
def listedP (l : List ByteArray) (a : List Se) : List ByteArray := (List.range a.length).map fun i => (thingX l ((seatOf a ((i + 1 : Nat) : Int)).getD se0).1).1
def maskP (W : List Int) (t : Nat) (c : Int) (x y : Int) : Int := W.getD (4 + 2 * (t : Int) + (x - 1) * c + (y - 1)).toNat 0
def masksP (W : List Int) (t : Nat) (c : Int) (rows cols : List Int) : List (List Int) := rows.map fun r => cols.map fun y => maskP W t c r y
def graphP (W : List Int) (t : Nat) (l : List ByteArray) : Gd :=
  let s := namedP l (seatsP W 1 t)
  let o := namedP l (seatsP W 2 t)
  (listedP l (seatsP W 3 t), s.1, o.1, s.2.1, o.2.1, masksP W t (W.getD 3 0) s.2.2 o.2.2, ())
def emptyG : Gd := ([], [], [], [], [], [], ())
/-- May the page be one? -/
def shapeB (W : List Int) (t : Nat) : Bool :=
  decide (1 ≤ W.getD 0 0 ∧ W.getD 0 0 ≤ 2147483647 ∧ 0 ≤ W.getD 2 0 ∧ W.getD 2 0 ≤ 64 ∧ 0 ≤ W.getD 3 0 ∧ W.getD 3 0 ≤ 64) && decide ((W.length : Int) = 4 + 2 * t + W.getD 2 0 * W.getD 3 0)
def goodB (W : List Int) (t : Nat) (l : List ByteArray) : Bool :=
  seatedB W t l && decide (tabN ((seatsP W 3 t).length + (seatsP W 1 t).length + (seatsP W 2 t).length) = t) && listedB (seatsP W 3 t) &&
  wholeB (namedP l (seatsP W 1 t)).2.2 (W.getD 2 0) && wholeB (namedP l (seatsP W 2 t)).2.2 (W.getD 3 0) &&
  ((graphP W t l |> gM).all fun r => r.all fun m => decide (0 ≤ m ∧ m ≤ 65535)) && validP (graphP W t l)
def readP (W : List Int) (l : List ByteArray) : Int × Gd × Int :=
  if tabP W ≠ 0 ∧ shapeB W (tabP W).toNat = true ∧ goodB W (tabP W).toNat l = true then (W.getD 0 0, graphP W (tabP W).toNat l, 0) else (0, emptyG, 120)
end PG
end Go.Proofs.YtjmlfknogjaemaaDoor.Vc
/- The plain statements of some functions, printed by vcgen.py. -/
set_option maxRecDepth 100000
set_option linter.unusedVariables false
namespace Go.Proofs.YtjmlfknogjaemaaDoor
open Go Go.Proofs.YtjmlfknogjaemaaDoor.Vc
theorem W14.mixed : Tryd.prog.follows .mixedOrders = true := by kernel_rfl
/-- gatehouse/page.listed -/
def f40.AL : Nat → Option Ann := fun r => match r with | 5 => some ⟨[(7, .slice), (18, .int .i64)], [1, 16, 17]⟩ | _ => none
def f40.AC : Nat → Option Ann := fun _ => none
def f40.VC (Aa0 : Option Addr) (na0 ca0 : Nat) (a1 : Nat) (w : World) (R : Value → World → Prop) : Prop :=
  Calls Tryd.prog 58 #[.slice Aa0 na0 ca0] w fun e_1 w_1 =>
  ∃ (A13 : Option Addr) (n13 c13 : Nat),
  e_1 = .returned (.slice A13 n13 c13) ∧
  Calls Tryd.prog 55 #[.slice A13 n13 c13, .func (.func 59) #[] #[]] w_1 fun e_2 w_2 =>
  e_2 = .returned (.tuple #[]) ∧
  ∃ I : Option Addr → Nat → Nat → Int → World → Nat → Prop,
  (∃ n, I none 0 0 0 w_2 n) ∧
  ∀ d : Env, ∀ (A7 : Option Addr) (n7 c7 : Nat) (x18 : Int) (w_3 : World) (r : Nat), I A7 n7 c7 x18 w_3 r →
  sel (decide ((x18 : Int) < ((n13 : Int) : Int))) (
  (0 : Int) ≤ x18 ∧ x18 < (n13 : Int) ∧
  needPtr A13 fun b21 o21 =>
  ∃ (x22_0 : Int),
  w_3.cell? ⟨b21, o21 + x18.toNat * 2, none⟩ = some (.int .i64 x22_0) ∧
  ∃ (x22_1 : Int),
  w_3.cell? ⟨b21, o21 + x18.toNat * 2 + 1, none⟩ = some (.int .i64 x22_1) ∧
  let w_4 : World := World.alloc w_3 (.cells #[.int .i64 0, .int .i64 0] 98);
  canStore w_4 w_3.heap.size 0 2 ∧
  let w_5 : World := setCs w_4 w_3.heap.size 0 [.int .i64 x22_0, .int .i64 x22_1];
  ∃ (x24 : Int),
  w_5.cell? ⟨w_3.heap.size, 1, none⟩ = some (.int .i64 x24) ∧
  let i26 : Int := IntKind.i64.wrap (x18 + 1);
  sel ((x24 : Int) != (i26 : Int)) (
  R (.tuple #[.slice none 0 0, .bool false]) w_5) (
  ∃ (x31 : Int),
  w_5.cell? ⟨w_3.heap.size, 0, none⟩ = some (.int .i64 x31) ∧
  Calls Tryd.prog 53 #[.pointer (some ⟨a1, 0, none⟩), .int .i64 x31] w_5 fun e_3 w_6 =>
  ∃ (s32_0 : ByteArray) (b32_1 : Bool),
  e_3 = .returned (.tuple #[.string s32_0, .bool b32_1]) ∧
  let w_7 : World := World.alloc w_6 (.cells #[.string s32_0] 9);
  ∃ (A38 : Option Addr) (n38 c38 : Nat),
  ∃ w_8 : World, (Builtin.append_ #[27, 27] 27 #[.slice A7 n7 c7, .slice (some ⟨w_6.heap.size, 0, none⟩) 1 1]).run Tryd.prog w_7 = .ok (.slice A38 n38 c38) w_8 ∧
  let i39 : Int := IntKind.i64.wrap (x18 + 1);
  ([.pointer (some ⟨a1, 0, none⟩), .slice A13 n13 c13, .int .i64 (n13 : Int)] : List Value) = ([.pointer (some ⟨a1, 0, none⟩), .slice A13 n13 c13, .int .i64 (n13 : Int)] : List Value) ∧ ∃ m, m < r ∧ I A38 n38 c38 i39 w_8 m)) (
  R (.tuple #[.slice A7 n7 c7, .bool true]) w_3)
theorem f40.eq (Aa0 : Option Addr) (na0 ca0 : Nat) (a1 : Nat) (w : World) (R : Value → World → Prop) : f40.VC Aa0 na0 ca0 a1 w R = funV Tryd.prog Tryd.f40 f40.AL f40.AC #[.slice Aa0 na0 ca0, .pointer (some ⟨a1, 0, none⟩)] w R := by kernel_rfl
theorem f40.calls {Aa0 : Option Addr} {na0 ca0 : Nat} {a1 : Nat} {w : World} {R : Value → World → Prop} (h : f40.VC Aa0 na0 ca0 a1 w R) : Calls Tryd.prog 40 #[.slice Aa0 na0 ca0, .pointer (some ⟨a1, 0, none⟩)] w fun e w' => ∃ v, e = .returned v ∧ R v w' :=
  funV_sound (fn := Tryd.f40) (AL := f40.AL) (AC := f40.AC) W14.mixed (by kernel_rfl) (by rw [← f40.eq Aa0 na0 ca0 a1]; exact h)

/-- gatehouse/page.classed -/
def f41.AL : Nat → Option Ann := fun r => match r with | 4 => some ⟨[(7, .slice), (8, .slice), (9, .slice), (17, .int .i64)], [1, 15, 16]⟩ | _ => none
def f41.AC : Nat → Option Ann := fun _ => none
def f41.VC (Aa0 : Option Addr) (na0 ca0 : Nat) (a1 : Nat) (w : World) (R : Value → World → Prop) : Prop :=
  ∃ I : Option Addr → Nat → Nat → Option Addr → Nat → Nat → Option Addr → Nat → Nat → Int → World → Nat → Prop,
  (∃ n, I none 0 0 none 0 0 none 0 0 0 w n) ∧
  ∀ d : Env, ∀ (A7 : Option Addr) (n7 c7 : Nat) (A8 : Option Addr) (n8 c8 : Nat) (A9 : Option Addr) (n9 c9 : Nat) (x17 : Int) (w_1 : World) (r : Nat), I A7 n7 c7 A8 n8 c8 A9 n9 c9 x17 w_1 r →
  sel (decide ((x17 : Int) < ((na0 : Int) : Int))) (
  (0 : Int) ≤ x17 ∧ x17 < (na0 : Int) ∧
  needPtr Aa0 fun b19 o19 =>
  ∃ (x20_0 : Int),
  w_1.cell? ⟨b19, o19 + x17.toNat * 2, none⟩ = some (.int .i64 x20_0) ∧
  ∃ (x20_1 : Int),
  w_1.cell? ⟨b19, o19 + x17.toNat * 2 + 1, none⟩ = some (.int .i64 x20_1) ∧
  let w_2 : World := World.alloc w_1 (.cells #[.int .i64 0, .int .i64 0] 98);
  canStore w_2 w_1.heap.size 0 2 ∧
  let w_3 : World := setCs w_2 w_1.heap.size 0 [.int .i64 x20_0, .int .i64 x20_1];
  ∃ (x24 : Int),
  w_3.cell? ⟨w_1.heap.size, 0, none⟩ = some (.int .i64 x24) ∧
  Calls Tryd.prog 53 #[.pointer (some ⟨a1, 0, none⟩), .int .i64 x24] w_3 fun e_1 w_4 =>
  ∃ (s25_0 : ByteArray) (b25_1 : Bool),
  e_1 = .returned (.tuple #[.string s25_0, .bool b25_1]) ∧
  let w_5 : World := World.alloc w_4 (.cells #[.string s25_0] 9);
  ∃ (A31 : Option Addr) (n31 c31 : Nat),
  ∃ w_6 : World, (Builtin.append_ #[27, 27] 27 #[.slice A7 n7 c7, .slice (some ⟨w_4.heap.size, 0, none⟩) 1 1]).run Tryd.prog w_5 = .ok (.slice A31 n31 c31) w_6 ∧
  ∃ (x34 : Int),
  w_6.cell? ⟨w_1.heap.size, 1, none⟩ = some (.int .i64 x34) ∧
  Calls Tryd.prog 60 #[.slice A9 n9 c9, .int .i64 x34] w_6 fun e_2 w_7 =>
  ∃ (x35 : Int),
  e_2 = .returned (.int .i64 x35) ∧
  sel (decide ((x35 : Int) < (0 : Int))) (
  ∃ (x42 : Int),
  w_7.cell? ⟨w_1.heap.size, 1, none⟩ = some (.int .i64 x42) ∧
  let w_8 : World := World.alloc w_7 (.cells #[.int .i64 x42] 3);
  ∃ (A44 : Option Addr) (n44 c44 : Nat),
  ∃ w_9 : World, (Builtin.append_ #[28, 28] 28 #[.slice A9 n9 c9, .slice (some ⟨w_7.heap.size, 0, none⟩) 1 1]).run Tryd.prog w_8 = .ok (.slice A44 n44 c44) w_9 ∧
  let i47 : Int := IntKind.i64.wrap ((n9 : Int) + 1);
  let w_10 : World := World.alloc w_9 (.cells #[.int .i64 i47] 3);
  ∃ (A49 : Option Addr) (n49 c49 : Nat),
  ∃ w_11 : World, (Builtin.append_ #[28, 28] 28 #[.slice A8 n8 c8, .slice (some ⟨w_9.heap.size, 0, none⟩) 1 1]).run Tryd.prog w_10 = .ok (.slice A49 n49 c49) w_11 ∧
  let i50 : Int := IntKind.i64.wrap (x17 + 1);
  ([.pointer (some ⟨a1, 0, none⟩), .slice Aa0 na0 ca0, .int .i64 (na0 : Int)] : List Value) = ([.pointer (some ⟨a1, 0, none⟩), .slice Aa0 na0 ca0, .int .i64 (na0 : Int)] : List Value) ∧ ∃ m, m < r ∧ I A31 n31 c31 A49 n49 c49 A44 n44 c44 i50 w_11 m) (
  let i47_1 : Int := IntKind.i64.wrap (x35 + 1);
  let w_12 : World := World.alloc w_7 (.cells #[.int .i64 i47_1] 3);
  ∃ (A49_1 : Option Addr) (n49_1 c49_1 : Nat),
  ∃ w_13 : World, (Builtin.append_ #[28, 28] 28 #[.slice A8 n8 c8, .slice (some ⟨w_7.heap.size, 0, none⟩) 1 1]).run Tryd.prog w_12 = .ok (.slice A49_1 n49_1 c49_1) w_13 ∧
  let i50_1 : Int := IntKind.i64.wrap (x17 + 1);
  ([.pointer (some ⟨a1, 0, none⟩), .slice Aa0 na0 ca0, .int .i64 (na0 : Int)] : List Value) = ([.pointer (some ⟨a1, 0, none⟩), .slice Aa0 na0 ca0, .int .i64 (na0 : Int)] : List Value) ∧ ∃ m, m < r ∧ I A31 n31 c31 A49_1 n49_1 c49_1 A9 n9 c9 i50_1 w_13 m)) (
  R (.tuple #[.slice A7 n7 c7, .slice A8 n8 c8, .slice A9 n9 c9]) w_1)
theorem f41.eq (Aa0 : Option Addr) (na0 ca0 : Nat) (a1 : Nat) (w : World) (R : Value → World → Prop) : f41.VC Aa0 na0 ca0 a1 w R = funV Tryd.prog Tryd.f41 f41.AL f41.AC #[.slice Aa0 na0 ca0, .pointer (some ⟨a1, 0, none⟩)] w R := by kernel_rfl
theorem f41.calls {Aa0 : Option Addr} {na0 ca0 : Nat} {a1 : Nat} {w : World} {R : Value → World → Prop} (h : f41.VC Aa0 na0 ca0 a1 w R) : Calls Tryd.prog 41 #[.slice Aa0 na0 ca0, .pointer (some ⟨a1, 0, none⟩)] w fun e w' => ∃ v, e = .returned v ∧ R v w' :=
  funV_sound (fn := Tryd.f41) (AL := f41.AL) (AC := f41.AC) W14.mixed (by kernel_rfl) (by rw [← f41.eq Aa0 na0 ca0 a1]; exact h)

/-- gatehouse/page.whole -/
def f42.AL : Nat → Option Ann := fun r => match r with | 2 => some ⟨[(9, .int .i64)], [0, 1, 7, 8]⟩ | _ => none
def f42.AC : Nat → Option Ann := fun _ => none
def f42.VC (Aa0 : Option Addr) (na0 ca0 : Nat) (xa1 : Int) (w : World) (R : Value → World → Prop) : Prop :=
  ∃ I : Int → World → Nat → Prop,
  (∃ n, I 0 w n) ∧
  ∀ d : Env, ∀ (x9 : Int) (w_1 : World) (r : Nat), I x9 w_1 r →
  sel (decide ((x9 : Int) < ((na0 : Int) : Int))) (
  (0 : Int) ≤ x9 ∧ x9 < (na0 : Int) ∧
  needPtr Aa0 fun b11 o11 =>
  ∃ (x12 : Int),
  w_1.cell? ⟨b11, o11 + x9.toNat * 1, none⟩ = some (.int .i64 x12) ∧
  sel (decide ((x12 : Int) < (1 : Int))) (
  R (.bool false) w_1) (
  sel (decide ((xa1 : Int) < (x12 : Int))) (
  R (.bool false) w_1) (
  let i20 : Int := IntKind.i64.wrap (x9 + 1);
  ([.slice Aa0 na0 ca0, .int .i64 xa1, .slice Aa0 na0 ca0, .int .i64 (na0 : Int)] : List Value) = ([.slice Aa0 na0 ca0, .int .i64 xa1, .slice Aa0 na0 ca0, .int .i64 (na0 : Int)] : List Value) ∧ ∃ m, m < r ∧ I i20 w_1 m))) (
  R (.bool (((na0 : Int) : Int) == (xa1 : Int))) w_1)
theorem f42.eq (Aa0 : Option Addr) (na0 ca0 : Nat) (xa1 : Int) (w : World) (R : Value → World → Prop) : f42.VC Aa0 na0 ca0 xa1 w R = funV Tryd.prog Tryd.f42 f42.AL f42.AC #[.slice Aa0 na0 ca0, .int .i64 xa1] w R := by kernel_rfl
theorem f42.calls {Aa0 : Option Addr} {na0 ca0 : Nat} {xa1 : Int} {w : World} {R : Value → World → Prop} (h : f42.VC Aa0 na0 ca0 xa1 w R) : Calls Tryd.prog 42 #[.slice Aa0 na0 ca0, .int .i64 xa1] w fun e w' => ∃ v, e = .returned v ∧ R v w' :=
  funV_sound (fn := Tryd.f42) (AL := f42.AL) (AC := f42.AC) W14.mixed (by kernel_rfl) (by rw [← f42.eq Aa0 na0 ca0 xa1]; exact h)

/-- gatehouse/page.sorted$1 -/
def f56.AL : Nat → Option Ann := fun _ => none
def f56.AC : Nat → Option Ann := fun _ => none
def f56.VC (xa0_0 : Int) (xa0_1 : Int) (xa1_0 : Int) (xa1_1 : Int) (w : World) (R : Value → World → Prop) : Prop :=
  let w_1 : World := World.alloc w (.cells #[.int .i64 xa0_0, .int .i64 xa0_1] 98);
  let w_2 : World := World.alloc w_1 (.cells #[.int .i64 xa1_0, .int .i64 xa1_1] 98);
  ∃ (x6 : Int),
  w_2.cell? ⟨w.heap.size, 0, none⟩ = some (.int .i64 x6) ∧
  ∃ (x8 : Int),
  w_2.cell? ⟨w_1.heap.size, 0, none⟩ = some (.int .i64 x8) ∧
  Calls Tryd.prog 57 #[.int .i64 x6, .int .i64 x8] w_2 fun e_1 w_3 =>
  ∃ (x9 : Int),
  e_1 = .returned (.int .i64 x9) ∧
  R (.int .i64 x9) w_3
theorem f56.eq (xa0_0 : Int) (xa0_1 : Int) (xa1_0 : Int) (xa1_1 : Int) (w : World) (R : Value → World → Prop) : f56.VC xa0_0 xa0_1 xa1_0 xa1_1 w R = funV Tryd.prog Tryd.f56 f56.AL f56.AC #[.agg #[.int .i64 xa0_0, .int .i64 xa0_1], .agg #[.int .i64 xa1_0, .int .i64 xa1_1]] w R := by kernel_rfl
theorem f56.calls {xa0_0 : Int} {xa0_1 : Int} {xa1_0 : Int} {xa1_1 : Int} {w : World} {R : Value → World → Prop} (h : f56.VC xa0_0 xa0_1 xa1_0 xa1_1 w R) : Calls Tryd.prog 56 #[.agg #[.int .i64 xa0_0, .int .i64 xa0_1], .agg #[.int .i64 xa1_0, .int .i64 xa1_1]] w fun e w' => ∃ v, e = .returned v ∧ R v w' :=
  funV_sound (fn := Tryd.f56) (AL := f56.AL) (AC := f56.AC) W14.mixed (by kernel_rfl) (by rw [← f56.eq xa0_0 xa0_1 xa1_0 xa1_1]; exact h)

/-- gatehouse/page.listed$1 -/
def f59.AL : Nat → Option Ann := fun _ => none
def f59.AC : Nat → Option Ann := fun _ => none
def f59.VC (xa0_0 : Int) (xa0_1 : Int) (xa1_0 : Int) (xa1_1 : Int) (w : World) (R : Value → World → Prop) : Prop :=
  let w_1 : World := World.alloc w (.cells #[.int .i64 xa0_0, .int .i64 xa0_1] 98);
  let w_2 : World := World.alloc w_1 (.cells #[.int .i64 xa1_0, .int .i64 xa1_1] 98);
  ∃ (x6 : Int),
  w_2.cell? ⟨w.heap.size, 1, none⟩ = some (.int .i64 x6) ∧
  ∃ (x8 : Int),
  w_2.cell? ⟨w_1.heap.size, 1, none⟩ = some (.int .i64 x8) ∧
  Calls Tryd.prog 57 #[.int .i64 x6, .int .i64 x8] w_2 fun e_1 w_3 =>
  ∃ (x9 : Int),
  e_1 = .returned (.int .i64 x9) ∧
  R (.int .i64 x9) w_3
theorem f59.eq (xa0_0 : Int) (xa0_1 : Int) (xa1_0 : Int) (xa1_1 : Int) (w : World) (R : Value → World → Prop) : f59.VC xa0_0 xa0_1 xa1_0 xa1_1 w R = funV Tryd.prog Tryd.f59 f59.AL f59.AC #[.agg #[.int .i64 xa0_0, .int .i64 xa0_1], .agg #[.int .i64 xa1_0, .int .i64 xa1_1]] w R := by kernel_rfl
theorem f59.calls {xa0_0 : Int} {xa0_1 : Int} {xa1_0 : Int} {xa1_1 : Int} {w : World} {R : Value → World → Prop} (h : f59.VC xa0_0 xa0_1 xa1_0 xa1_1 w R) : Calls Tryd.prog 59 #[.agg #[.int .i64 xa0_0, .int .i64 xa0_1], .agg #[.int .i64 xa1_0, .int .i64 xa1_1]] w fun e w' => ∃ v, e = .returned v ∧ R v w' :=
  funV_sound (fn := Tryd.f59) (AL := f59.AL) (AC := f59.AC) W14.mixed (by kernel_rfl) (by rw [← f59.eq xa0_0 xa0_1 xa1_0 xa1_1]; exact h)

/-- cmp.Compare[int] -/
def f57.AL : Nat → Option Ann := fun _ => none
def f57.AC : Nat → Option Ann := fun _ => none
def f57.VC (xa0 : Int) (xa1 : Int) (w : World) (R : Value → World → Prop) : Prop :=
  Calls Tryd.prog 68 #[.int .i64 xa0] w fun e_1 w_1 =>
  ∃ (b8 : Bool),
  e_1 = .returned (.bool b8) ∧
  Calls Tryd.prog 68 #[.int .i64 xa1] w_1 fun e_2 w_2 =>
  ∃ (b10 : Bool),
  e_2 = .returned (.bool b10) ∧
  sel b8 (
  sel b10 (
  R (.int .i64 0) w_2) (
  R (.int .i64 (-1)) w_2)) (
  sel b10 (
  R (.int .i64 1) w_2) (
  sel (decide ((xa0 : Int) < (xa1 : Int))) (
  R (.int .i64 (-1)) w_2) (
  sel (decide ((xa1 : Int) < (xa0 : Int))) (
  R (.int .i64 1) w_2) (
  R (.int .i64 0) w_2))))
theorem f57.eq (xa0 : Int) (xa1 : Int) (w : World) (R : Value → World → Prop) : f57.VC xa0 xa1 w R = funV Tryd.prog Tryd.f57 f57.AL f57.AC #[.int .i64 xa0, .int .i64 xa1] w R := by kernel_rfl
theorem f57.calls {xa0 : Int} {xa1 : Int} {w : World} {R : Value → World → Prop} (h : f57.VC xa0 xa1 w R) : Calls Tryd.prog 57 #[.int .i64 xa0, .int .i64 xa1] w fun e w' => ∃ v, e = .returned v ∧ R v w' :=
  funV_sound (fn := Tryd.f57) (AL := f57.AL) (AC := f57.AC) W14.mixed (by kernel_rfl) (by rw [← f57.eq xa0 xa1]; exact h)

/-- slices.Clone[[]gatehouse/page.seat,gatehouse/page.seat] -/
def f58.AL : Nat → Option Ann := fun _ => none
def f58.AC : Nat → Option Ann := fun _ => none
def f58.VC (Aa0 : Option Addr) (na0 ca0 : Nat) (w : World) (R : Value → World → Prop) : Prop :=
  sel (Option.isNone Aa0) (
  R (.slice none 0 0) w) (
  let w_1 : World := World.alloc w (.cells #[] 98);
  ∃ (A7 : Option Addr) (n7 c7 : Nat),
  ∃ w_2 : World, (Builtin.append_ #[67, 67] 67 #[.slice (some ⟨w.heap.size, 0, none⟩) 0 0, .slice Aa0 na0 ca0]).run Tryd.prog w_1 = .ok (.slice A7 n7 c7) w_2 ∧
  R (.slice A7 n7 c7) w_2)
theorem f58.eq (Aa0 : Option Addr) (na0 ca0 : Nat) (w : World) (R : Value → World → Prop) : f58.VC Aa0 na0 ca0 w R = funV Tryd.prog Tryd.f58 f58.AL f58.AC #[.slice Aa0 na0 ca0] w R := by kernel_rfl
theorem f58.calls {Aa0 : Option Addr} {na0 ca0 : Nat} {w : World} {R : Value → World → Prop} (h : f58.VC Aa0 na0 ca0 w R) : Calls Tryd.prog 58 #[.slice Aa0 na0 ca0] w fun e w' => ∃ v, e = .returned v ∧ R v w' :=
  funV_sound (fn := Tryd.f58) (AL := f58.AL) (AC := f58.AC) W14.mixed (by kernel_rfl) (by rw [← f58.eq Aa0 na0 ca0]; exact h)

/-- slices.Index[[]int,int] -/
def f60.AL : Nat → Option Ann := fun r => match r with | 2 => some ⟨[(8, .int .i64)], [0, 1, 7]⟩ | _ => none
def f60.AC : Nat → Option Ann := fun _ => none
def f60.VC (Aa0 : Option Addr) (na0 ca0 : Nat) (xa1 : Int) (w : World) (R : Value → World → Prop) : Prop :=
  ∃ I : Int → World → Nat → Prop,
  (∃ n, I 0 w n) ∧
  ∀ d : Env, ∀ (x8 : Int) (w_1 : World) (r : Nat), I x8 w_1 r →
  sel (decide ((x8 : Int) < ((na0 : Int) : Int))) (
  (0 : Int) ≤ x8 ∧ x8 < (na0 : Int) ∧
  needPtr Aa0 fun b14 o14 =>
  ∃ (x15 : Int),
  w_1.cell? ⟨b14, o14 + x8.toNat * 1, none⟩ = some (.int .i64 x15) ∧
  sel ((xa1 : Int) == (x15 : Int)) (
  R (.int .i64 x8) w_1) (
  let i18 : Int := IntKind.i64.wrap (x8 + 1);
  ([.slice Aa0 na0 ca0, .int .i64 xa1, .int .i64 (na0 : Int)] : List Value) = ([.slice Aa0 na0 ca0, .int .i64 xa1, .int .i64 (na0 : Int)] : List Value) ∧ ∃ m, m < r ∧ I i18 w_1 m)) (
  R (.int .i64 (-1)) w_1)
theorem f60.eq (Aa0 : Option Addr) (na0 ca0 : Nat) (xa1 : Int) (w : World) (R : Value → World → Prop) : f60.VC Aa0 na0 ca0 xa1 w R = funV Tryd.prog Tryd.f60 f60.AL f60.AC #[.slice Aa0 na0 ca0, .int .i64 xa1] w R := by kernel_rfl
theorem f60.calls {Aa0 : Option Addr} {na0 ca0 : Nat} {xa1 : Int} {w : World} {R : Value → World → Prop} (h : f60.VC Aa0 na0 ca0 xa1 w R) : Calls Tryd.prog 60 #[.slice Aa0 na0 ca0, .int .i64 xa1] w fun e w' => ∃ v, e = .returned v ∧ R v w' :=
  funV_sound (fn := Tryd.f60) (AL := f60.AL) (AC := f60.AC) W14.mixed (by kernel_rfl) (by rw [← f60.eq Aa0 na0 ca0 xa1]; exact h)

end Go.Proofs.YtjmlfknogjaemaaDoor
