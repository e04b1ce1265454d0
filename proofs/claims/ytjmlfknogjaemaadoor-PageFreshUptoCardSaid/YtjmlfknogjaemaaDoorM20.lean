/- Page: what a page reads back to: the plain law, as the program goes. -/
import Derived.Test.YtjmlfknogjaemaaDoorM15
import Derived.Test.YtjmlfknogjaemaaDoorM5
import Derived.Test.YtjmlfknogjaemaaDoorProg
import Derived.KernelRfl
set_option linter.unusedVariables false
set_option linter.unusedSimpArgs false
set_option maxRecDepth 100000
namespace Go.Proofs.YtjmlfknogjaemaaDoor.Vc
open Go
namespace PG
/-- The thing that has a number. -/
def thingX (l : List ByteArray) (n : Int) : ByteArray × Bool := if n < 1 ∨ (l.length : Int) < n then (⟨#[]⟩, false) else (l.getD (n - 1).toNat ⟨#[]⟩, true)
abbrev Se := Int × Int
abbrev se0 : Se := (0, 0)
def keyAt (W : List Int) (i : Nat) : Int := W.getD (4 + 2 * i) 0
def numAt (W : List Int) (i : Nat) : Int := W.getD (4 + 2 * i + 1) 0
/-- Does what stands at a place of the table stand right? -/
def okAt (W : List Int) (t : Nat) (l : List ByteArray) (i : Nat) : Bool :=
  (decide (keyAt W i = 0) && decide (numAt W i = 0)) ||
  (decide (0 < keyAt W i) && decide (keyAt W i % 4 ≠ 0) && (thingX l (keyAt W i / 4)).2 && decide ((pgHash (keyAt W i) t + (lookP W (keyAt W i / 4) (keyAt W i % 4)).2 - 1) % t = i))
def seatedB (W : List Int) (t : Nat) (l : List ByteArray) : Bool := (List.range t).all (okAt W t l)
/-- The keys of a kind, as they stand in the first n places. -/
def rawS (W : List Int) (k : Int) (n : Nat) : List Se := (List.range n).filterMap fun i => if 0 < keyAt W i ∧ keyAt W i % 4 = k then some (keyAt W i / 4, numAt W i) else none
theorem rawS_succ (W : List Int) (k : Int) (n : Nat) : rawS W k (n + 1) = rawS W k n ++ if 0 < keyAt W n ∧ keyAt W n % 4 = k then [(keyAt W n / 4, numAt W n)] else [] := by
  unfold rawS
  rw [List.range_succ, List.filterMap_append]
  congr 1
  by_cases h : 0 < keyAt W n ∧ keyAt W n % 4 = k
  · simp [h]
  · simp [h]
theorem rawS_len (W : List Int) (k : Int) : ∀ n, (rawS W k n).length ≤ n
  | 0 => by simp [rawS]
  | n + 1 => by
    have := rawS_len W k n
    rw [rawS_succ]
    split <;> simp <;> omega
/-- Put in where it belongs, ahead of alike ones. -/
def insP (l : List Se) (s : Se) : List Se := l.filter (fun x => decide (x.1 < s.1)) ++ [s] ++ l.filter (fun x => decide (s.1 ≤ x.1))
def srt (l : List Se) : List Se := l.foldl insP []
theorem insP_perm (l : List Se) (s : Se) : (insP l s).Perm (s :: l) := by
  unfold insP
  have h : (l.filter (fun x => decide (x.1 < s.1)) ++ l.filter (fun x => decide (s.1 ≤ x.1))).Perm l := by
    have := List.filter_append_perm (fun x : Se => decide (x.1 < s.1)) l
    have e : (fun x : Se => !decide (x.1 < s.1)) = fun x => decide (s.1 ≤ x.1) := by
      funext x
      by_cases hx : x.1 < s.1
      · simp [hx]
      · simp [hx]; omega
    rw [e] at this
    exact this
  rw [List.append_assoc]
  refine List.perm_middle.trans ?_
  exact h.cons _
theorem srt_perm_aux : ∀ (l acc : List Se), (l.foldl insP acc).Perm (acc ++ l)
  | [], acc => by simp
  | s :: l, acc => by
    rw [List.foldl_cons]
    refine (srt_perm_aux l (insP acc s)).trans ?_
    refine ((insP_perm acc s).append_right l).trans ?_
    exact List.perm_middle.symm
theorem srt_perm (l : List Se) : (srt l).Perm l := by
  unfold srt
  exact srt_perm_aux l []
theorem insP_sorted {l : List Se} {s : Se} (h : l.Pairwise (fun x y => x.1 ≤ y.1)) : (insP l s).Pairwise (fun x y => x.1 ≤ y.1) := by
  unfold insP
  rw [List.append_assoc, List.pairwise_append]
  refine ⟨h.filter _, ?_, fun a ha b hb => ?_⟩
  · rw [List.singleton_append, List.pairwise_cons]
    exact ⟨fun b hb => by have := (List.mem_filter.1 hb).2; exact of_decide_eq_true this, h.filter _⟩
  · have h1 := of_decide_eq_true (List.mem_filter.1 ha).2
    rw [List.singleton_append] at hb
    rcases List.mem_cons.1 hb with rfl | hb
    · omega
    · have h2 := of_decide_eq_true (List.mem_filter.1 hb).2
      omega
theorem srt_sorted_aux : ∀ (l acc : List Se), acc.Pairwise (fun x y => x.1 ≤ y.1) → (l.foldl insP acc).Pairwise (fun x y => x.1 ≤ y.1)
  | [], acc, h => h
  | s :: l, acc, h => srt_sorted_aux l (insP acc s) (insP_sorted h)
theorem srt_sorted (l : List Se) : (srt l).Pairwise (fun x y => x.1 ≤ y.1) := srt_sorted_aux l [] List.Pairwise.nil
theorem srt_len (l : List Se) : (srt l).length = l.length := (srt_perm l).length_eq
/-- The seats of a kind. -/
def seatsP (W : List Int) (k : Int) (t : Nat) : List Se := srt (rawS W k t)
/-- The names of some seats, their classes numbered anew, and what each new number was. -/
def namedStep (l : List ByteArray) (s : List ByteArray × List Int × List Int) (p : Se) : List ByteArray × List Int × List Int :=
  if idxI s.2.2 p.2 < 0 then (s.1 ++ [(thingX l p.1).1], s.2.1 ++ [((s.2.2.length + 1 : Nat) : Int)], s.2.2 ++ [p.2])
  else (s.1 ++ [(thingX l p.1).1], s.2.1 ++ [idxI s.2.2 p.2 + 1], s.2.2)
def namedP (l : List ByteArray) (s : List Se) : List ByteArray × List Int × List Int := s.foldl (namedStep l) ([], [], [])
def wholeB (o : List Int) (n : Int) : Bool := (o.all fun k => decide (1 ≤ k ∧ k ≤ n)) && decide ((o.length : Int) = n)
/-- The seat that has a number. -/
def seatOf (a : List Se) (k : Int) : Option Se := a.find? fun p => decide (p.2 = k)
def listedB (a : List Se) : Bool := (List.range a.length).all fun i => (seatOf a ((i + 1 : Nat) : Int)).isSome
def listedP (l : List ByteArray) (a : List Se) : List ByteArray := (List.range a.length).map fun i => (thingX l ((seatOf a ((i + 1 : Nat) : Int)).getD se0).1).1
def maskP (W : List Int) (t : Nat) (c : Int) (x y : Int) : Int := W.getD (4 + 2 * (t : Int) + (x - 1) * c + (y - 1)).toNat 0
def masksP (W : List Int) (t : Nat) (c : Int) (rows cols : List Int) : List (List Int) := rows.map fun r => cols.map fun y => maskP W t c r y
def graphP (W : List Int) (t : Nat) (l : List ByteArray) : Gd :=
  let s := namedP l (seatsP W 1 t)
  let o := namedP l (seatsP W 2 t)
  (listedP l (seatsP W 3 t), s.1, o.1, s.2.1, o.2.1, masksP W t (W.getD 3 0) s.2.2 o.2.2, ())
def emptyG : Gd := ([], [], [], [], [], [], ())
/-- May the page be one? -/
def shapeB (W : List Int) (t : Nat) : Bool :=
  decide (1 ≤ W.getD 0 0 ∧ W.getD 0 0 ≤ 2147483647 ∧ 0 ≤ W.getD 2 0 ∧ W.getD 2 0 ≤ 64 ∧ 0 ≤ W.getD 3 0 ∧ W.getD 3 0 ≤ 64) && decide ((W.length : Int) = 4 + 2 * t + W.getD 2 0 * W.getD 3 0)
def goodB (W : List Int) (t : Nat) (l : List ByteArray) : Bool :=
  seatedB W t l && decide (tabN ((seatsP W 3 t).length + (seatsP W 1 t).length + (seatsP W 2 t).length) = t) && listedB (seatsP W 3 t) &&
  wholeB (namedP l (seatsP W 1 t)).2.2 (W.getD 2 0) && wholeB (namedP l (seatsP W 2 t)).2.2 (W.getD 3 0) &&
  ((graphP W t l |> gM).all fun r => r.all fun m => decide (0 ≤ m ∧ m ≤ 65535)) && validP (graphP W t l)
def readP (W : List Int) (l : List ByteArray) : Int × Gd × Int :=
  if tabP W ≠ 0 ∧ shapeB W (tabP W).toNat = true ∧ goodB W (tabP W).toNat l = true then (W.getD 0 0, graphP W (tabP W).toNat l, 0) else (0, emptyG, 120)
end PG
end Go.Proofs.YtjmlfknogjaemaaDoor.Vc
/- The plain statements of some functions, printed by vcgen.py. -/
set_option maxRecDepth 100000
set_option maxHeartbeats 4000000
set_option linter.unusedVariables false
namespace Go.Proofs.YtjmlfknogjaemaaDoor
open Go Go.Proofs.YtjmlfknogjaemaaDoor.Vc
theorem W14.mixed : Tryd.prog.follows .mixedOrders = true := by kernel_rfl
/-- gatehouse/page.listed -/
def f40.AL : Nat → Option Ann := fun r => match r with | 5 => some ⟨[(7, .slice), (18, .int .i64)], [1, 16, 17]⟩ | _ => none
def f40.AC : Nat → Option Ann := fun _ => none
def f40.VC (Aa0 : Option Addr) (na0 ca0 : Nat) (a1 : Nat) (w : World) (R : Value → World → Prop) : Prop :=
  Calls Tryd.prog 58 #[.slice Aa0 na0 ca0] w fun b0 d0 =>
  ∃ g0 h0 i0,
  b0 = .returned (.slice g0 h0 i0) ∧
  Calls Tryd.prog 55 #[.slice g0 h0 i0, .func (.func 59) #[] #[]] d0 fun j0 k0 =>
  j0 = .returned (.tuple #[]) ∧
  ∃ p0 : Option Addr → Nat → Nat → Int → World → Nat → Prop,
  (∃ n, p0 none 0 0 0 k0 n) ∧
  ∀ q0 : Env, ∀ t0 u0 v0 x0 y0 z0, p0 t0 u0 v0 x0 y0 z0 →
  sel (decide ((x0 : Int) < ((h0 : Int) : Int))) (
  (0 : Int) ≤ x0 ∧ x0 < (h0 : Int) ∧
  needPtr g0 fun b1 d1 =>
  ∃ g1,
  y0.cell? ⟨b1, d1 + x0.toNat * 2, none⟩ = some (.int .i64 g1) ∧
  ∃ h1,
  y0.cell? ⟨b1, d1 + x0.toNat * 2 + 1, none⟩ = some (.int .i64 h1) ∧
  let i1 := World.alloc y0 (.cells #[.int .i64 0, .int .i64 0] 98);
  canStore i1 y0.heap.size 0 2 ∧
  let j1 := setCs i1 y0.heap.size 0 [.int .i64 g1, .int .i64 h1];
  ∃ k1,
  j1.cell? ⟨y0.heap.size, 1, none⟩ = some (.int .i64 k1) ∧
  let p1 : Int := IntKind.i64.wrap (x0 + 1);
  sel ((k1 : Int) != (p1 : Int)) (
  R (.tuple #[.slice none 0 0, .bool false]) j1) (
  ∃ q1,
  j1.cell? ⟨y0.heap.size, 0, none⟩ = some (.int .i64 q1) ∧
  Calls Tryd.prog 53 #[.pointer (some ⟨a1, 0, none⟩), .int .i64 q1] j1 fun t1 u1 =>
  ∃ v1 x1,
  t1 = .returned (.tuple #[.string v1, .bool x1]) ∧
  let y1 := World.alloc u1 (.cells #[.string v1] 9);
  ∃ z1 b2 d2,
  ∃ g2, (Builtin.append_ #[27, 27] 27 #[.slice t0 u0 v0, .slice (some ⟨u1.heap.size, 0, none⟩) 1 1]).run Tryd.prog y1 = .ok (.slice z1 b2 d2) g2 ∧
  let h2 : Int := IntKind.i64.wrap (x0 + 1);
  ([.pointer (some ⟨a1, 0, none⟩), .slice g0 h0 i0, .int .i64 (h0 : Int)] : List Value) = ([.pointer (some ⟨a1, 0, none⟩), .slice g0 h0 i0, .int .i64 (h0 : Int)] : List Value) ∧ ∃ m, m < z0 ∧ p0 z1 b2 d2 h2 g2 m)) (
  R (.tuple #[.slice t0 u0 v0, .bool true]) y0)
theorem f40.eq (Aa0 : Option Addr) (na0 ca0 : Nat) (a1 : Nat) (w : World) (R : Value → World → Prop) : f40.VC Aa0 na0 ca0 a1 w R = funV Tryd.prog Tryd.f40 f40.AL f40.AC #[.slice Aa0 na0 ca0, .pointer (some ⟨a1, 0, none⟩)] w R := by kernel_rfl
theorem f40.calls {Aa0 : Option Addr} {na0 ca0 : Nat} {a1 : Nat} {w : World} {R : Value → World → Prop} (h : f40.VC Aa0 na0 ca0 a1 w R) : Calls Tryd.prog 40 #[.slice Aa0 na0 ca0, .pointer (some ⟨a1, 0, none⟩)] w fun e w' => ∃ v, e = .returned v ∧ R v w' :=
  funV_sound (fn := Tryd.f40) (AL := f40.AL) (AC := f40.AC) W14.mixed (by kernel_rfl) (by rw [← f40.eq Aa0 na0 ca0 a1]; exact h)

/-- gatehouse/page.classed -/
def f41.AL : Nat → Option Ann := fun r => match r with | 4 => some ⟨[(7, .slice), (8, .slice), (9, .slice), (17, .int .i64)], [1, 15, 16]⟩ | _ => none
def f41.AC : Nat → Option Ann := fun _ => none
def f41.VC (Aa0 : Option Addr) (na0 ca0 : Nat) (a1 : Nat) (w : World) (R : Value → World → Prop) : Prop :=
  ∃ b0 : Option Addr → Nat → Nat → Option Addr → Nat → Nat → Option Addr → Nat → Nat → Int → World → Nat → Prop,
  (∃ n, b0 none 0 0 none 0 0 none 0 0 0 w n) ∧
  ∀ d0 : Env, ∀ g0 h0 i0 j0 k0 p0 q0 t0 u0 v0 x0 y0, b0 g0 h0 i0 j0 k0 p0 q0 t0 u0 v0 x0 y0 →
  sel (decide ((v0 : Int) < ((na0 : Int) : Int))) (
  (0 : Int) ≤ v0 ∧ v0 < (na0 : Int) ∧
  needPtr Aa0 fun z0 b1 =>
  ∃ d1,
  x0.cell? ⟨z0, b1 + v0.toNat * 2, none⟩ = some (.int .i64 d1) ∧
  ∃ g1,
  x0.cell? ⟨z0, b1 + v0.toNat * 2 + 1, none⟩ = some (.int .i64 g1) ∧
  let h1 := World.alloc x0 (.cells #[.int .i64 0, .int .i64 0] 98);
  canStore h1 x0.heap.size 0 2 ∧
  let i1 := setCs h1 x0.heap.size 0 [.int .i64 d1, .int .i64 g1];
  ∃ j1,
  i1.cell? ⟨x0.heap.size, 0, none⟩ = some (.int .i64 j1) ∧
  Calls Tryd.prog 53 #[.pointer (some ⟨a1, 0, none⟩), .int .i64 j1] i1 fun k1 p1 =>
  ∃ q1 t1,
  k1 = .returned (.tuple #[.string q1, .bool t1]) ∧
  let u1 := World.alloc p1 (.cells #[.string q1] 9);
  ∃ v1 x1 y1,
  ∃ z1, (Builtin.append_ #[27, 27] 27 #[.slice g0 h0 i0, .slice (some ⟨p1.heap.size, 0, none⟩) 1 1]).run Tryd.prog u1 = .ok (.slice v1 x1 y1) z1 ∧
  ∃ b2,
  z1.cell? ⟨x0.heap.size, 1, none⟩ = some (.int .i64 b2) ∧
  Calls Tryd.prog 60 #[.slice q0 t0 u0, .int .i64 b2] z1 fun d2 g2 =>
  ∃ h2,
  d2 = .returned (.int .i64 h2) ∧
  sel (decide ((h2 : Int) < (0 : Int))) (
  ∃ i2,
  g2.cell? ⟨x0.heap.size, 1, none⟩ = some (.int .i64 i2) ∧
  let j2 := World.alloc g2 (.cells #[.int .i64 i2] 3);
  ∃ k2 p2 q2,
  ∃ t2, (Builtin.append_ #[28, 28] 28 #[.slice q0 t0 u0, .slice (some ⟨g2.heap.size, 0, none⟩) 1 1]).run Tryd.prog j2 = .ok (.slice k2 p2 q2) t2 ∧
  let u2 : Int := IntKind.i64.wrap ((t0 : Int) + 1);
  let v2 := World.alloc t2 (.cells #[.int .i64 u2] 3);
  ∃ x2 y2 z2,
  ∃ b3, (Builtin.append_ #[28, 28] 28 #[.slice j0 k0 p0, .slice (some ⟨t2.heap.size, 0, none⟩) 1 1]).run Tryd.prog v2 = .ok (.slice x2 y2 z2) b3 ∧
  let d3 : Int := IntKind.i64.wrap (v0 + 1);
  ([.pointer (some ⟨a1, 0, none⟩), .slice Aa0 na0 ca0, .int .i64 (na0 : Int)] : List Value) = ([.pointer (some ⟨a1, 0, none⟩), .slice Aa0 na0 ca0, .int .i64 (na0 : Int)] : List Value) ∧ ∃ m, m < y0 ∧ b0 v1 x1 y1 x2 y2 z2 k2 p2 q2 d3 b3 m) (
  let g3 : Int := IntKind.i64.wrap (h2 + 1);
  let h3 := World.alloc g2 (.cells #[.int .i64 g3] 3);
  ∃ i3 j3 k3,
  ∃ p3, (Builtin.append_ #[28, 28] 28 #[.slice j0 k0 p0, .slice (some ⟨g2.heap.size, 0, none⟩) 1 1]).run Tryd.prog h3 = .ok (.slice i3 j3 k3) p3 ∧
  let q3 : Int := IntKind.i64.wrap (v0 + 1);
  ([.pointer (some ⟨a1, 0, none⟩), .slice Aa0 na0 ca0, .int .i64 (na0 : Int)] : List Value) = ([.pointer (some ⟨a1, 0, none⟩), .slice Aa0 na0 ca0, .int .i64 (na0 : Int)] : List Value) ∧ ∃ m, m < y0 ∧ b0 v1 x1 y1 i3 j3 k3 q0 t0 u0 q3 p3 m)) (
  R (.tuple #[.slice g0 h0 i0, .slice j0 k0 p0, .slice q0 t0 u0]) x0)
theorem f41.eq (Aa0 : Option Addr) (na0 ca0 : Nat) (a1 : Nat) (w : World) (R : Value → World → Prop) : f41.VC Aa0 na0 ca0 a1 w R = funV Tryd.prog Tryd.f41 f41.AL f41.AC #[.slice Aa0 na0 ca0, .pointer (some ⟨a1, 0, none⟩)] w R := by kernel_rfl
theorem f41.calls {Aa0 : Option Addr} {na0 ca0 : Nat} {a1 : Nat} {w : World} {R : Value → World → Prop} (h : f41.VC Aa0 na0 ca0 a1 w R) : Calls Tryd.prog 41 #[.slice Aa0 na0 ca0, .pointer (some ⟨a1, 0, none⟩)] w fun e w' => ∃ v, e = .returned v ∧ R v w' :=
  funV_sound (fn := Tryd.f41) (AL := f41.AL) (AC := f41.AC) W14.mixed (by kernel_rfl) (by rw [← f41.eq Aa0 na0 ca0 a1]; exact h)

/-- gatehouse/page.whole -/
def f42.AL : Nat → Option Ann := fun r => match r with | 2 => some ⟨[(9, .int .i64)], [0, 1, 7, 8]⟩ | _ => none
def f42.AC : Nat → Option Ann := fun _ => none
def f42.VC (Aa0 : Option Addr) (na0 ca0 : Nat) (xa1 : Int) (w : World) (R : Value → World → Prop) : Prop :=
  ∃ b0 : Int → World → Nat → Prop,
  (∃ n, b0 0 w n) ∧
  ∀ d0 : Env, ∀ g0 h0 i0, b0 g0 h0 i0 →
  sel (decide ((g0 : Int) < ((na0 : Int) : Int))) (
  (0 : Int) ≤ g0 ∧ g0 < (na0 : Int) ∧
  needPtr Aa0 fun j0 k0 =>
  ∃ p0,
  h0.cell? ⟨j0, k0 + g0.toNat * 1, none⟩ = some (.int .i64 p0) ∧
  sel (decide ((p0 : Int) < (1 : Int))) (
  R (.bool false) h0) (
  sel (decide ((xa1 : Int) < (p0 : Int))) (
  R (.bool false) h0) (
  let q0 : Int := IntKind.i64.wrap (g0 + 1);
  ([.slice Aa0 na0 ca0, .int .i64 xa1, .slice Aa0 na0 ca0, .int .i64 (na0 : Int)] : List Value) = ([.slice Aa0 na0 ca0, .int .i64 xa1, .slice Aa0 na0 ca0, .int .i64 (na0 : Int)] : List Value) ∧ ∃ m, m < i0 ∧ b0 q0 h0 m))) (
  R (.bool (((na0 : Int) : Int) == (xa1 : Int))) h0)
theorem f42.eq (Aa0 : Option Addr) (na0 ca0 : Nat) (xa1 : Int) (w : World) (R : Value → World → Prop) : f42.VC Aa0 na0 ca0 xa1 w R = funV Tryd.prog Tryd.f42 f42.AL f42.AC #[.slice Aa0 na0 ca0, .int .i64 xa1] w R := by kernel_rfl
theorem f42.calls {Aa0 : Option Addr} {na0 ca0 : Nat} {xa1 : Int} {w : World} {R : Value → World → Prop} (h : f42.VC Aa0 na0 ca0 xa1 w R) : Calls Tryd.prog 42 #[.slice Aa0 na0 ca0, .int .i64 xa1] w fun e w' => ∃ v, e = .returned v ∧ R v w' :=
  funV_sound (fn := Tryd.f42) (AL := f42.AL) (AC := f42.AC) W14.mixed (by kernel_rfl) (by rw [← f42.eq Aa0 na0 ca0 xa1]; exact h)

/-- gatehouse/page.sorted$1 -/
def f56.AL : Nat → Option Ann := fun _ => none
def f56.AC : Nat → Option Ann := fun _ => none
def f56.VC (xa0_0 : Int) (xa0_1 : Int) (xa1_0 : Int) (xa1_1 : Int) (w : World) (R : Value → World → Prop) : Prop :=
  let b0 := World.alloc w (.cells #[.int .i64 xa0_0, .int .i64 xa0_1] 98);
  let d0 := World.alloc b0 (.cells #[.int .i64 xa1_0, .int .i64 xa1_1] 98);
  ∃ g0,
  d0.cell? ⟨w.heap.size, 0, none⟩ = some (.int .i64 g0) ∧
  ∃ h0,
  d0.cell? ⟨b0.heap.size, 0, none⟩ = some (.int .i64 h0) ∧
  Calls Tryd.prog 57 #[.int .i64 g0, .int .i64 h0] d0 fun i0 j0 =>
  ∃ k0,
  i0 = .returned (.int .i64 k0) ∧
  R (.int .i64 k0) j0
theorem f56.eq (xa0_0 : Int) (xa0_1 : Int) (xa1_0 : Int) (xa1_1 : Int) (w : World) (R : Value → World → Prop) : f56.VC xa0_0 xa0_1 xa1_0 xa1_1 w R = funV Tryd.prog Tryd.f56 f56.AL f56.AC #[.agg #[.int .i64 xa0_0, .int .i64 xa0_1], .agg #[.int .i64 xa1_0, .int .i64 xa1_1]] w R := by kernel_rfl
theorem f56.calls {xa0_0 : Int} {xa0_1 : Int} {xa1_0 : Int} {xa1_1 : Int} {w : World} {R : Value → World → Prop} (h : f56.VC xa0_0 xa0_1 xa1_0 xa1_1 w R) : Calls Tryd.prog 56 #[.agg #[.int .i64 xa0_0, .int .i64 xa0_1], .agg #[.int .i64 xa1_0, .int .i64 xa1_1]] w fun e w' => ∃ v, e = .returned v ∧ R v w' :=
  funV_sound (fn := Tryd.f56) (AL := f56.AL) (AC := f56.AC) W14.mixed (by kernel_rfl) (by rw [← f56.eq xa0_0 xa0_1 xa1_0 xa1_1]; exact h)

/-- gatehouse/page.listed$1 -/
def f59.AL : Nat → Option Ann := fun _ => none
def f59.AC : Nat → Option Ann := fun _ => none
def f59.VC (xa0_0 : Int) (xa0_1 : Int) (xa1_0 : Int) (xa1_1 : Int) (w : World) (R : Value → World → Prop) : Prop :=
  let b0 := World.alloc w (.cells #[.int .i64 xa0_0, .int .i64 xa0_1] 98);
  let d0 := World.alloc b0 (.cells #[.int .i64 xa1_0, .int .i64 xa1_1] 98);
  ∃ g0,
  d0.cell? ⟨w.heap.size, 1, none⟩ = some (.int .i64 g0) ∧
  ∃ h0,
  d0.cell? ⟨b0.heap.size, 1, none⟩ = some (.int .i64 h0) ∧
  Calls Tryd.prog 57 #[.int .i64 g0, .int .i64 h0] d0 fun i0 j0 =>
  ∃ k0,
  i0 = .returned (.int .i64 k0) ∧
  R (.int .i64 k0) j0
theorem f59.eq (xa0_0 : Int) (xa0_1 : Int) (xa1_0 : Int) (xa1_1 : Int) (w : World) (R : Value → World → Prop) : f59.VC xa0_0 xa0_1 xa1_0 xa1_1 w R = funV Tryd.prog Tryd.f59 f59.AL f59.AC #[.agg #[.int .i64 xa0_0, .int .i64 xa0_1], .agg #[.int .i64 xa1_0, .int .i64 xa1_1]] w R := by kernel_rfl
theorem f59.calls {xa0_0 : Int} {xa0_1 : Int} {xa1_0 : Int} {xa1_1 : Int} {w : World} {R : Value → World → Prop} (h : f59.VC xa0_0 xa0_1 xa1_0 xa1_1 w R) : Calls Tryd.prog 59 #[.agg #[.int .i64 xa0_0, .int .i64 xa0_1], .agg #[.int .i64 xa1_0, .int .i64 xa1_1]] w fun e w' => ∃ v, e = .returned v ∧ R v w' :=
  funV_sound (fn := Tryd.f59) (AL := f59.AL) (AC := f59.AC) W14.mixed (by kernel_rfl) (by rw [← f59.eq xa0_0 xa0_1 xa1_0 xa1_1]; exact h)

/-- cmp.Compare[int] -/
def f57.AL : Nat → Option Ann := fun _ => none
def f57.AC : Nat → Option Ann := fun _ => none
def f57.VC (xa0 : Int) (xa1 : Int) (w : World) (R : Value → World → Prop) : Prop :=
  Calls Tryd.prog 68 #[.int .i64 xa0] w fun b0 d0 =>
  ∃ g0,
  b0 = .returned (.bool g0) ∧
  Calls Tryd.prog 68 #[.int .i64 xa1] d0 fun h0 i0 =>
  ∃ j0,
  h0 = .returned (.bool j0) ∧
  sel g0 (
  sel j0 (
  R (.int .i64 0) i0) (
  R (.int .i64 (-1)) i0)) (
  sel j0 (
  R (.int .i64 1) i0) (
  sel (decide ((xa0 : Int) < (xa1 : Int))) (
  R (.int .i64 (-1)) i0) (
  sel (decide ((xa1 : Int) < (xa0 : Int))) (
  R (.int .i64 1) i0) (
  R (.int .i64 0) i0))))
theorem f57.eq (xa0 : Int) (xa1 : Int) (w : World) (R : Value → World → Prop) : f57.VC xa0 xa1 w R = funV Tryd.prog Tryd.f57 f57.AL f57.AC #[.int .i64 xa0, .int .i64 xa1] w R := by kernel_rfl
theorem f57.calls {xa0 : Int} {xa1 : Int} {w : World} {R : Value → World → Prop} (h : f57.VC xa0 xa1 w R) : Calls Tryd.prog 57 #[.int .i64 xa0, .int .i64 xa1] w fun e w' => ∃ v, e = .returned v ∧ R v w' :=
  funV_sound (fn := Tryd.f57) (AL := f57.AL) (AC := f57.AC) W14.mixed (by kernel_rfl) (by rw [← f57.eq xa0 xa1]; exact h)

/-- slices.Clone[[]gatehouse/page.seat,gatehouse/page.seat] -/
def f58.AL : Nat → Option Ann := fun _ => none
def f58.AC : Nat → Option Ann := fun _ => none
def f58.VC (Aa0 : Option Addr) (na0 ca0 : Nat) (w : World) (R : Value → World → Prop) : Prop :=
  sel (Option.isNone Aa0) (
  R (.slice none 0 0) w) (
  let b0 := World.alloc w (.cells #[] 98);
  ∃ d0 g0 h0,
  ∃ i0, (Builtin.append_ #[67, 67] 67 #[.slice (some ⟨w.heap.size, 0, none⟩) 0 0, .slice Aa0 na0 ca0]).run Tryd.prog b0 = .ok (.slice d0 g0 h0) i0 ∧
  R (.slice d0 g0 h0) i0)
theorem f58.eq (Aa0 : Option Addr) (na0 ca0 : Nat) (w : World) (R : Value → World → Prop) : f58.VC Aa0 na0 ca0 w R = funV Tryd.prog Tryd.f58 f58.AL f58.AC #[.slice Aa0 na0 ca0] w R := by kernel_rfl
theorem f58.calls {Aa0 : Option Addr} {na0 ca0 : Nat} {w : World} {R : Value → World → Prop} (h : f58.VC Aa0 na0 ca0 w R) : Calls Tryd.prog 58 #[.slice Aa0 na0 ca0] w fun e w' => ∃ v, e = .returned v ∧ R v w' :=
  funV_sound (fn := Tryd.f58) (AL := f58.AL) (AC := f58.AC) W14.mixed (by kernel_rfl) (by rw [← f58.eq Aa0 na0 ca0]; exact h)

/-- slices.Index[[]int,int] -/
def f60.AL : Nat → Option Ann := fun r => match r with | 2 => some ⟨[(8, .int .i64)], [0, 1, 7]⟩ | _ => none
def f60.AC : Nat → Option Ann := fun _ => none
def f60.VC (Aa0 : Option Addr) (na0 ca0 : Nat) (xa1 : Int) (w : World) (R : Value → World → Prop) : Prop :=
  ∃ b0 : Int → World → Nat → Prop,
  (∃ n, b0 0 w n) ∧
  ∀ d0 : Env, ∀ g0 h0 i0, b0 g0 h0 i0 →
  sel (decide ((g0 : Int) < ((na0 : Int) : Int))) (
  (0 : Int) ≤ g0 ∧ g0 < (na0 : Int) ∧
  needPtr Aa0 fun j0 k0 =>
  ∃ p0,
  h0.cell? ⟨j0, k0 + g0.toNat * 1, none⟩ = some (.int .i64 p0) ∧
  sel ((xa1 : Int) == (p0 : Int)) (
  R (.int .i64 g0) h0) (
  let q0 : Int := IntKind.i64.wrap (g0 + 1);
  ([.slice Aa0 na0 ca0, .int .i64 xa1, .int .i64 (na0 : Int)] : List Value) = ([.slice Aa0 na0 ca0, .int .i64 xa1, .int .i64 (na0 : Int)] : List Value) ∧ ∃ m, m < i0 ∧ b0 q0 h0 m)) (
  R (.int .i64 (-1)) h0)
theorem f60.eq (Aa0 : Option Addr) (na0 ca0 : Nat) (xa1 : Int) (w : World) (R : Value → World → Prop) : f60.VC Aa0 na0 ca0 xa1 w R = funV Tryd.prog Tryd.f60 f60.AL f60.AC #[.slice Aa0 na0 ca0, .int .i64 xa1] w R := by kernel_rfl
theorem f60.calls {Aa0 : Option Addr} {na0 ca0 : Nat} {xa1 : Int} {w : World} {R : Value → World → Prop} (h : f60.VC Aa0 na0 ca0 xa1 w R) : Calls Tryd.prog 60 #[.slice Aa0 na0 ca0, .int .i64 xa1] w fun e w' => ∃ v, e = .returned v ∧ R v w' :=
  funV_sound (fn := Tryd.f60) (AL := f60.AL) (AC := f60.AC) W14.mixed (by kernel_rfl) (by rw [← f60.eq Aa0 na0 ca0 xa1]; exact h)

end Go.Proofs.YtjmlfknogjaemaaDoor
