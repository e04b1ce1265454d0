/- Page: room for names: the program's and the document's count; the document's table. -/
import Derived.Test.YtjmlfknogjaemaaDoorM16
import Derived.Test.YtjmlfknogjaemaaDoorM5
import Derived.Test.YtjmlfknogjaemaaDoorProg
import Derived.KernelRfl
set_option linter.unusedVariables false
set_option linter.unusedSimpArgs false
set_option maxRecDepth 10000
namespace Go.Proofs.YtjmlfknogjaemaaDoor
open Go Go.Proofs.YtjmlfknogjaemaaDoor.Vc
namespace PG
open Vc.PG NI
/-- An index that is there. -/
def IdxAt (w : World) (x : Nat) (l : List ByteArray) : Prop := ∃ F, (idxC x l).holds w F
def RefAt (w : World) (x : Nat) (l : List ByteArray) : Prop := ∃ F, (refI 81 x l).holds w F
theorem IdxAt.fr {w w' : World} {x : Nat} {l : List ByteArray} (h : IdxAt w x l) (hf : Fr [] w w') : IdxAt w' x l := by
  obtain ⟨F, hF⟩ := h
  exact ⟨F, (idxC x l).fr hF hf (by simp)⟩
theorem RefAt.fr {w w' : World} {x : Nat} {l : List ByteArray} (h : RefAt w x l) (hf : Fr [] w w') : RefAt w' x l := by
  obtain ⟨F, hF⟩ := h
  exact ⟨F, (refI 81 x l).fr hF hf (by simp)⟩
theorem findE {w : World} {x : Nat} {l : List ByteArray} (h : IdxAt w x l) (s : ByteArray) : Calls Tryd.prog 10 #[.pointer (some ⟨x, 0, none⟩), .string s] w fun e w' => e = .returned (.tuple #[.int .i64 (IX.num l s : Int), .bool (decide (IX.num l s ≠ 0))]) ∧ w' = w := by
  obtain ⟨F, hF⟩ := h
  obtain ⟨y, hS⟩ := openI (St.start1 hF)
  refine Calls.mono (f10.calls (R := fun v w' => v = .tuple #[.int .i64 (IX.num l s : Int), .bool (decide (IX.num l s ≠ 0))] ∧ w' = w) ⟨_, (hS.blk 0 rfl).cell rfl, _, _, _, lookI (hS.mapIs 1 rfl) s, rfl, rfl⟩) ?_
  rintro e w' ⟨v, rfl, rfl, rfl⟩; exact ⟨rfl, rfl⟩
theorem lenE {w : World} {x : Nat} {l : List ByteArray} (h : IdxAt w x l) : Calls Tryd.prog 11 #[.pointer (some ⟨x, 0, none⟩)] w fun e w' => e = .returned (.int .i64 (l.length : Int)) ∧ w' = w := by
  obtain ⟨F, hF⟩ := h
  obtain ⟨y, hS⟩ := openI (St.start1 hF)
  have hn := hS.slLen 2 rfl
  rw [List.length_map] at hn
  refine Calls.mono (f11.calls (R := fun v w' => v = .int .i64 (l.length : Int) ∧ w' = w) ⟨_, _, _, (hS.blk 0 rfl).cell rfl, by rw [← hn], rfl⟩) ?_
  rintro e w' ⟨v, rfl, rfl, rfl⟩; exact ⟨rfl, rfl⟩
theorem keysB {K V : Type} [DecidableEq K] {l : List (K × V)} {k : K} {v : V} : (GM.put l k v).map (·.1) = if memB (l.map (·.1)) k = true then l.map (·.1) else l.map (·.1) ++ [k] := by
  unfold GM.put
  cases hx : GM.idx l k with
  | some j =>
    unfold GM.idx at hx
    obtain ⟨hj, hk, _⟩ := List.findIdx?_eq_some_iff_getElem.mp hx
    have hk : (l.map (·.1))[j] = k := by simpa using hk
    rw [if_pos ((memB_iff _ _).2 (by rw [← hk]; exact List.getElem_mem hj))]
    dsimp only
    rw [List.map_set]
    apply List.ext_getElem (by simp)
    intro q h1 h2
    rw [List.getElem_set]
    split
    · rename_i h; subst h; exact hk.symm
    · rfl
  | none =>
    unfold GM.idx at hx
    rw [List.findIdx?_eq_none_iff] at hx
    rw [if_neg (fun hm => by have := hx k ((memB_iff _ _).1 hm); simp at this)]
    simp
theorem wantGo_app (l : List ByteArray) : ∀ (a b acc : List ByteArray), wantGo l (a ++ b) acc = wantGo l b (wantGo l a acc)
  | [], b, acc => rfl
  | s :: a, b, acc => by
    rw [List.cons_append, wantGo, wantGo]
    split
    · exact wantGo_app l a b _
    · exact wantGo_app l a b _
theorem wantGo_mem (l : List ByteArray) (s : ByteArray) : ∀ (ns acc : List ByteArray), s ∈ wantGo l ns acc ↔ s ∈ acc ∨ (s ∈ ns ∧ IX.num l s = 0)
  | [], acc => by simp [wantGo]
  | t :: ns, acc => by
    rw [wantGo]
    split
    · rename_i h
      rw [wantGo_mem l s ns, List.mem_append, List.mem_singleton, List.mem_cons]
      constructor
      · rintro ((h1 | h1) | h1)
        · exact .inl h1
        · exact .inr ⟨.inl h1, by rw [h1]; exact h.1⟩
        · exact .inr ⟨.inr h1.1, h1.2⟩
      · rintro (h1 | ⟨h1 | h1, h2⟩)
        · exact .inl (.inl h1)
        · exact .inl (.inr h1)
        · exact .inr ⟨h1, h2⟩
    · rename_i h
      rw [wantGo_mem l s ns, List.mem_cons]
      constructor
      · rintro (h1 | h1)
        · exact .inl h1
        · exact .inr ⟨.inr h1.1, h1.2⟩
      · rintro (h1 | ⟨h1 | h1, h2⟩)
        · exact .inl h1
        · subst h1
          refine .inl (Classical.byContradiction fun hn => h ⟨h2, ?_⟩)
          cases hm : memB acc s with
          | false => rfl
          | true => exact absurd ((memB_iff _ _).1 hm) hn
        · exact .inr ⟨h1, h2⟩
def preN (g : Gd) : Nat → List ByteArray
  | 0 => []
  | 1 => gA g
  | 2 => gA g ++ gS g
  | _ => names g
theorem index136 (x y z : Value) (w : World) : (Instr.index 91 (.agg #[x, y, z]) (.int .i64 0)).run Tryd.prog w = .ok x w ∧ (Instr.index 91 (.agg #[x, y, z]) (.int .i64 1)).run Tryd.prog w = .ok y w ∧ (Instr.index 91 (.agg #[x, y, z]) (.int .i64 2)).run Tryd.prog w = .ok z w := by
  refine ⟨?_, ?_, ?_⟩ <;> kernel_rfl
abbrev mpS (r : Nat) (l : List (ByteArray × Int)) : Chunk := Chunk.map encS encN r l
theorem roomC {w : World} {v : GV} {g : Gd} {x : Nat} {l : List ByteArray} (h : InG w v g) (hI : IdxAt w x l) (hl : l.length ≤ 1048576) (hbig : v.a.2.1 ≤ 1100000 ∧ v.s.2.1 ≤ 1100000 ∧ v.o.2.1 ≤ 1100000) :
    Calls Tryd.prog 25 #[v.v, .pointer (some ⟨x, 0, none⟩)] w fun e w' => e = .returned (.bool (decide (l.length + freshN l g ≤ 1048576))) ∧ Fr [] w w' := by
  refine Calls.mono (f25.calls (R := fun u w' => u = .bool (decide (l.length + freshN l g ≤ 1048576)) ∧ Fr [] w w') ?_) ?_
  · dsimp only [f25.VC]
    have hS := ((St.start w).alloc v.cells 32).mapNew (encK := encS) (encV := encN)
    generalize (World.alloc w (.cells v.cells 32)).heap.size = mp at *
    generalize World.alloc (World.alloc w (.cells v.cells 32)) (.map #[] 0) = w1 at *
    generalize w.heap.size = b at *
    have la := h.a.1.1
    have ls := h.s.1.1
    have lo := h.o.1.1
    refine ⟨_, _, _, (hS.blk 1 rfl).cell rfl, _, _, _, (hS.blk 1 rfl).cell rfl, _, _, _, (hS.blk 1 rfl).cell rfl, fun y w' r => ∃ i : Nat, y = (i : Int) ∧ i + r = 3 ∧ ∃ m, St [] w w' [mpS mp m, Chunk.blk b v.cells 32] ∧ m.map (·.1) = wantGo l (preN g i) [], ⟨3, 0, rfl, rfl, [], hS, rfl⟩, ?_⟩
    rintro d y w2 r ⟨i, rfl, hir, m, hS, hm⟩
    refine sel_of (fun hd => ?_) (fun hd => ?_)
    · have hi : i < 3 := by have := of_decide_eq_true hd; omega
      obtain ⟨A, n, c, li, hX, hn, hidx, hpre⟩ : ∃ (A : Option Addr) (n c : Nat) (li : List ByteArray), InX w A n li ∧ n ≤ 1100000 ∧ (∀ w', (Instr.index 91 (.agg #[v.a.v, v.s.v, v.o.v]) (.int .i64 (i : Int))).run Tryd.prog w' = .ok (.slice A n c) w') ∧ preN g (i + 1) = preN g i ++ li := by
        obtain rfl | rfl | rfl : i = 0 ∨ i = 1 ∨ i = 2 := by omega
        · exact ⟨_, _, _, _, h.a.1, by omega, fun w' => (index136 _ _ _ w').1, rfl⟩
        · exact ⟨_, _, _, _, h.s.1, by omega, fun w' => (index136 _ _ _ w').2.1, rfl⟩
        · exact ⟨_, _, _, _, h.o.1, by omega, fun w' => (index136 _ _ _ w').2.2, rfl⟩
      have hnl := hX.1
      refine ⟨_, _, _, hidx, fun y w' q => ∃ j : Nat, y = (j : Int) ∧ j + q = n ∧ ∃ m, St [] w w' [mpS mp m, Chunk.blk b v.cells 32] ∧ m.map (·.1) = wantGo l (preN g i ++ li.take j) [], ⟨n, 0, rfl, by omega, m, hS, by rw [List.take_zero, List.append_nil]; exact hm⟩, ?_⟩
      rintro d y w3 q ⟨j, rfl, hjq, m, hS, hm⟩
      refine sel_of (fun hd => ?_) (fun hd => ?_)
      · have hj : j < n := by have := of_decide_eq_true hd; omega
        refine ⟨by omega, by omega, InX.need (hX.fr hS.frame) rfl hj ?_⟩
        refine Calls.mono (findE (hI.fr hS.frame) _) ?_
        rintro _ w4 ⟨rfl, e4⟩
        rw [e4, inc j 1100000 (by omega) (by omega)]
        have et : li.take (j + 1) = li.take j ++ [li.getD j ByteArray.empty] := by
          rw [List.take_succ_eq_append_getElem (by omega)]; simp [List.getD_eq_getElem?_getD, show j < li.length by omega]
        have eg : wantGo l (preN g i ++ li.take (j + 1)) [] = if IX.num l (li.getD j ByteArray.empty) = 0 ∧ memB (wantGo l (preN g i ++ li.take j) []) (li.getD j ByteArray.empty) = false then wantGo l (preN g i ++ li.take j) [] ++ [li.getD j ByteArray.empty] else wantGo l (preN g i ++ li.take j) [] := by
          rw [et, ← List.append_assoc, wantGo_app, wantGo]; rfl
        generalize li.getD j ByteArray.empty = s at *
        refine ⟨_, _, rfl, sel_of (fun h0 => ?_) (fun h0 => ?_)⟩
        · have h0 : IX.num l s = 0 := by simpa using h0
          obtain ⟨ti, i1, i2, i3, i4⟩ := info3
          have hlk := GM.look (d := (0 : Int)) under120 keyS i1 i2 (hS.mapIs 0 rfl) s false
          obtain ⟨w7, hup, hS7⟩ := hS.mapUpd 0 rfl under120 keyS s (IntKind.i64.wrap (GM.get 0 m s + 1))
          refine ⟨_, _, hlk, _, hup, rfl, q - 1, by omega, j + 1, rfl, by omega, _, hS7, ?_⟩
          rw [keysB, eg, ← hm]
          cases hmb : memB (m.map (·.1)) s with
          | false => rw [if_neg (by simp), if_pos ⟨h0, rfl⟩]
          | true => rw [if_pos rfl, if_neg (by simp)]
        · have h0 : IX.num l s ≠ 0 := by simpa using h0
          refine ⟨rfl, q - 1, by omega, j + 1, rfl, by omega, _, hS, ?_⟩
          rw [eg, if_neg (fun hh => h0 hh.1), hm]
      · have hj : j = n := by have := of_decide_eq_false hd; omega
        rw [inc i 100 (by omega) (by omega)]
        rw [List.take_of_length_le (by omega)] at hm
        exact ⟨rfl, r - 1, by omega, i + 1, rfl, by omega, _, hS, by rw [hpre]; exact hm⟩
    · have hi : i = 3 := by have := of_decide_eq_false hd; omega
      subst hi
      refine ⟨_, _, GM.len under120 (hS.mapIs 0 rfl), ?_⟩
      refine Calls.mono (lenE (hI.fr hS.frame)) ?_
      rintro _ w3 ⟨rfl, e3⟩
      rw [e3]
      refine ⟨_, rfl, ?_, hS.frame⟩
      rw [i64_id (by omega) (by omega)]
      have e : m.length = freshN l g := by
        have := congrArg List.length hm
        rw [List.length_map] at this
        exact this
      rw [e]
      congr 1
      rw [Bool.eq_iff_iff, decide_eq_true_iff, decide_eq_true_iff]
      omega
  · rintro e w' ⟨v, rfl, rfl, h⟩; exact ⟨rfl, h⟩
abbrev txs (v : Value) (l : List ByteArray) : Chunk := Chunk.ls encS 9 v l
end PG
end Go.Proofs.YtjmlfknogjaemaaDoor
/- The plain statements of some functions, printed by vcgen.py. -/
set_option maxRecDepth 100000
set_option maxHeartbeats 4000000
set_option linter.unusedVariables false
namespace Go.Proofs.YtjmlfknogjaemaaDoor
open Go Go.Proofs.YtjmlfknogjaemaaDoor.Vc
theorem W10.mixed : Tryd.prog.follows .mixedOrders = true := by kernel_rfl
/-- gatehouse/page.Lay$1 -/
def f28.AL : Nat → Option Ann := fun r => match r with | 1 => some ⟨[(15, .int .i64)], [1, 2, 3, 4, 5, 13, 14]⟩ | 5 => some ⟨[(12, .int .i64)], [1, 2, 3, 4, 5, 9, 11, 13, 14, 15]⟩ | _ => none
def f28.AC : Nat → Option Ann := fun _ => none
def f28.VC (Aa0 : Option Addr) (na0 ca0 : Nat) (xa1 : Int) (a2 : Nat) (cap2 : Array Value) (a3 : Nat) (a4 : Nat) (a5 : Nat) (w : World) (R : Value → World → Prop) : Prop :=
  ∃ b0 : Int → World → Nat → Prop,
  (∃ n, b0 0 w n) ∧
  ∀ d0 : Env, ∀ g0 h0 i0, b0 g0 h0 i0 →
  sel (decide ((g0 : Int) < ((na0 : Int) : Int))) (
  (0 : Int) ≤ g0 ∧ g0 < (na0 : Int) ∧
  needPtr Aa0 fun j0 k0 =>
  ∃ p0,
  h0.cell? ⟨j0, k0 + g0.toNat * 1, none⟩ = some (.string p0) ∧
  ∃ q0,
  h0.cell? ⟨a3, 0, none⟩ = some (.pointer q0) ∧
  Calls Tryd.prog 7 #[.pointer q0, .string p0] h0 fun t0 u0 =>
  ∃ v0,
  t0 = .returned (.int .i64 v0) ∧
  (0 : Int) ≤ 2 ∧
  let x0 : Int := shlI .i64 v0 2;
  let y0 : Int := bitsI .or .i64 x0 xa1;
  ∃ z0,
  u0.cell? ⟨a4, 0, none⟩ = some (.int .i64 z0) ∧
  Calls Tryd.prog 22 #[.int .i64 y0, .int .i64 z0] u0 fun b1 d1 =>
  ∃ g1,
  b1 = .returned (.int .i64 g1) ∧
  ∃ h1 : Int → World → Nat → Prop,
  (∃ n, h1 g1 d1 n) ∧
  ∀ i1 : Env, ∀ j1 k1 p1, h1 j1 k1 p1 →
  ∃ q1 t1 u1,
  k1.cell? ⟨a5, 0, none⟩ = some (.slice q1 t1 u1) ∧
  let v1 : Int := IntKind.i64.wrap (2 * j1);
  let x1 : Int := IntKind.i64.wrap (4 + v1);
  (0 : Int) ≤ x1 ∧ x1 < (t1 : Int) ∧
  needPtr q1 fun y1 z1 =>
  ∃ b2,
  k1.cell? ⟨y1, z1 + x1.toNat * 1, none⟩ = some (.int .i64 b2) ∧
  sel ((b2 : Int) != (0 : Int)) (
  let d2 : Int := IntKind.i64.wrap (j1 + 1);
  ∃ g2,
  k1.cell? ⟨a4, 0, none⟩ = some (.int .i64 g2) ∧
  let h2 : Int := IntKind.i64.wrap (g2 - 1);
  let i2 : Int := bitsI .and .i64 d2 h2;
  ([.int .i64 xa1, .func (.func a2) #[] cap2, .pointer (some ⟨a3, 0, none⟩), .pointer (some ⟨a4, 0, none⟩), .pointer (some ⟨a5, 0, none⟩), .int .i64 g0, .int .i64 y0, .slice Aa0 na0 ca0, .int .i64 (na0 : Int), .int .i64 g0] : List Value) = ([.int .i64 xa1, .func (.func a2) #[] cap2, .pointer (some ⟨a3, 0, none⟩), .pointer (some ⟨a4, 0, none⟩), .pointer (some ⟨a5, 0, none⟩), .int .i64 g0, .int .i64 y0, .slice Aa0 na0 ca0, .int .i64 (na0 : Int), .int .i64 g0] : List Value) ∧ ∃ m, m < p1 ∧ h1 i2 k1 m) (
  let j2 : Int := IntKind.i64.wrap (2 * j1);
  let k2 : Int := IntKind.i64.wrap (4 + j2);
  let p2 : Int := IntKind.i64.wrap (2 * j1);
  let q2 : Int := IntKind.i64.wrap (4 + p2);
  let t2 : Int := IntKind.i64.wrap (q2 + 1);
  (∃ u2 v2 x2,
  k1.cell? ⟨a5, 0, none⟩ = some (.slice u2 v2 x2) ∧
  (∃ y2 z2 b3,
  k1.cell? ⟨a5, 0, none⟩ = some (.slice y2 z2 b3) ∧
  callT Tryd.prog (.func (.func a2) #[] cap2) #[.int .i64 g0] k1.drew fun d3 g3 =>
  ∃ h3,
  d3 = .returned (.int .i64 h3) ∧
  (0 : Int) ≤ k2 ∧ k2 < (v2 : Int) ∧
  needPtr u2 fun i3 j3 =>
  canStore g3 i3 (j3 + k2.toNat * 1) 1 ∧
  let k3 := setCs g3 i3 (j3 + k2.toNat * 1) [.int .i64 y0];
  (0 : Int) ≤ t2 ∧ t2 < (z2 : Int) ∧
  needPtr y2 fun p3 q3 =>
  canStore k3 p3 (q3 + t2.toNat * 1) 1 ∧
  let t3 := setCs k3 p3 (q3 + t2.toNat * 1) [.int .i64 h3];
  let u3 : Int := IntKind.i64.wrap (g0 + 1);
  ([.int .i64 xa1, .func (.func a2) #[] cap2, .pointer (some ⟨a3, 0, none⟩), .pointer (some ⟨a4, 0, none⟩), .pointer (some ⟨a5, 0, none⟩), .slice Aa0 na0 ca0, .int .i64 (na0 : Int)] : List Value) = ([.int .i64 xa1, .func (.func a2) #[] cap2, .pointer (some ⟨a3, 0, none⟩), .pointer (some ⟨a4, 0, none⟩), .pointer (some ⟨a5, 0, none⟩), .slice Aa0 na0 ca0, .int .i64 (na0 : Int)] : List Value) ∧ ∃ m, m < i0 ∧ b0 u3 t3 m) ∧
  (callT Tryd.prog (.func (.func a2) #[] cap2) #[.int .i64 g0] k1.drew fun v3 x3 =>
  ∃ y3,
  v3 = .returned (.int .i64 y3) ∧
  (0 : Int) ≤ k2 ∧ k2 < (v2 : Int) ∧
  needPtr u2 fun z3 b4 =>
  (∃ d4 g4 h4,
  x3.cell? ⟨a5, 0, none⟩ = some (.slice d4 g4 h4) ∧
  canStore x3 z3 (b4 + k2.toNat * 1) 1 ∧
  let i4 := setCs x3 z3 (b4 + k2.toNat * 1) [.int .i64 y0];
  (0 : Int) ≤ t2 ∧ t2 < (g4 : Int) ∧
  needPtr d4 fun j4 k4 =>
  canStore i4 j4 (k4 + t2.toNat * 1) 1 ∧
  let p4 := setCs i4 j4 (k4 + t2.toNat * 1) [.int .i64 y3];
  let q4 : Int := IntKind.i64.wrap (g0 + 1);
  ([.int .i64 xa1, .func (.func a2) #[] cap2, .pointer (some ⟨a3, 0, none⟩), .pointer (some ⟨a4, 0, none⟩), .pointer (some ⟨a5, 0, none⟩), .slice Aa0 na0 ca0, .int .i64 (na0 : Int)] : List Value) = ([.int .i64 xa1, .func (.func a2) #[] cap2, .pointer (some ⟨a3, 0, none⟩), .pointer (some ⟨a4, 0, none⟩), .pointer (some ⟨a5, 0, none⟩), .slice Aa0 na0 ca0, .int .i64 (na0 : Int)] : List Value) ∧ ∃ m, m < i0 ∧ b0 q4 p4 m) ∧
  (canStore x3 z3 (b4 + k2.toNat * 1) 1 ∧
  let t4 := setCs x3 z3 (b4 + k2.toNat * 1) [.int .i64 y0];
  ∃ u4 v4 x4,
  t4.cell? ⟨a5, 0, none⟩ = some (.slice u4 v4 x4) ∧
  (0 : Int) ≤ t2 ∧ t2 < (v4 : Int) ∧
  needPtr u4 fun y4 z4 =>
  canStore t4 y4 (z4 + t2.toNat * 1) 1 ∧
  let b5 := setCs t4 y4 (z4 + t2.toNat * 1) [.int .i64 y3];
  let d5 : Int := IntKind.i64.wrap (g0 + 1);
  ([.int .i64 xa1, .func (.func a2) #[] cap2, .pointer (some ⟨a3, 0, none⟩), .pointer (some ⟨a4, 0, none⟩), .pointer (some ⟨a5, 0, none⟩), .slice Aa0 na0 ca0, .int .i64 (na0 : Int)] : List Value) = ([.int .i64 xa1, .func (.func a2) #[] cap2, .pointer (some ⟨a3, 0, none⟩), .pointer (some ⟨a4, 0, none⟩), .pointer (some ⟨a5, 0, none⟩), .slice Aa0 na0 ca0, .int .i64 (na0 : Int)] : List Value) ∧ ∃ m, m < i0 ∧ b0 d5 b5 m) ∧ True) ∧ True) ∧
  (∃ g5 h5 i5,
  k1.cell? ⟨a5, 0, none⟩ = some (.slice g5 h5 i5) ∧
  (∃ j5 k5 p5,
  k1.cell? ⟨a5, 0, none⟩ = some (.slice j5 k5 p5) ∧
  callT Tryd.prog (.func (.func a2) #[] cap2) #[.int .i64 g0] k1.drew fun q5 t5 =>
  ∃ u5,
  q5 = .returned (.int .i64 u5) ∧
  (0 : Int) ≤ k2 ∧ k2 < (k5 : Int) ∧
  needPtr j5 fun v5 x5 =>
  canStore t5 v5 (x5 + k2.toNat * 1) 1 ∧
  let y5 := setCs t5 v5 (x5 + k2.toNat * 1) [.int .i64 y0];
  (0 : Int) ≤ t2 ∧ t2 < (h5 : Int) ∧
  needPtr g5 fun z5 b6 =>
  canStore y5 z5 (b6 + t2.toNat * 1) 1 ∧
  let d6 := setCs y5 z5 (b6 + t2.toNat * 1) [.int .i64 u5];
  let g6 : Int := IntKind.i64.wrap (g0 + 1);
  ([.int .i64 xa1, .func (.func a2) #[] cap2, .pointer (some ⟨a3, 0, none⟩), .pointer (some ⟨a4, 0, none⟩), .pointer (some ⟨a5, 0, none⟩), .slice Aa0 na0 ca0, .int .i64 (na0 : Int)] : List Value) = ([.int .i64 xa1, .func (.func a2) #[] cap2, .pointer (some ⟨a3, 0, none⟩), .pointer (some ⟨a4, 0, none⟩), .pointer (some ⟨a5, 0, none⟩), .slice Aa0 na0 ca0, .int .i64 (na0 : Int)] : List Value) ∧ ∃ m, m < i0 ∧ b0 g6 d6 m) ∧
  (callT Tryd.prog (.func (.func a2) #[] cap2) #[.int .i64 g0] k1.drew fun h6 i6 =>
  ∃ j6,
  h6 = .returned (.int .i64 j6) ∧
  ∃ k6 p6 q6,
  i6.cell? ⟨a5, 0, none⟩ = some (.slice k6 p6 q6) ∧
  (0 : Int) ≤ k2 ∧ k2 < (p6 : Int) ∧
  needPtr k6 fun t6 u6 =>
  canStore i6 t6 (u6 + k2.toNat * 1) 1 ∧
  let v6 := setCs i6 t6 (u6 + k2.toNat * 1) [.int .i64 y0];
  (0 : Int) ≤ t2 ∧ t2 < (h5 : Int) ∧
  needPtr g5 fun x6 y6 =>
  canStore v6 x6 (y6 + t2.toNat * 1) 1 ∧
  let z6 := setCs v6 x6 (y6 + t2.toNat * 1) [.int .i64 j6];
  let b7 : Int := IntKind.i64.wrap (g0 + 1);
  ([.int .i64 xa1, .func (.func a2) #[] cap2, .pointer (some ⟨a3, 0, none⟩), .pointer (some ⟨a4, 0, none⟩), .pointer (some ⟨a5, 0, none⟩), .slice Aa0 na0 ca0, .int .i64 (na0 : Int)] : List Value) = ([.int .i64 xa1, .func (.func a2) #[] cap2, .pointer (some ⟨a3, 0, none⟩), .pointer (some ⟨a4, 0, none⟩), .pointer (some ⟨a5, 0, none⟩), .slice Aa0 na0 ca0, .int .i64 (na0 : Int)] : List Value) ∧ ∃ m, m < i0 ∧ b0 b7 z6 m) ∧ True) ∧
  (callT Tryd.prog (.func (.func a2) #[] cap2) #[.int .i64 g0] k1.drew fun d7 g7 =>
  ∃ h7,
  d7 = .returned (.int .i64 h7) ∧
  ∃ i7 j7 k7,
  g7.cell? ⟨a5, 0, none⟩ = some (.slice i7 j7 k7) ∧
  (0 : Int) ≤ k2 ∧ k2 < (j7 : Int) ∧
  needPtr i7 fun p7 q7 =>
  (∃ t7 u7 v7,
  g7.cell? ⟨a5, 0, none⟩ = some (.slice t7 u7 v7) ∧
  canStore g7 p7 (q7 + k2.toNat * 1) 1 ∧
  let x7 := setCs g7 p7 (q7 + k2.toNat * 1) [.int .i64 y0];
  (0 : Int) ≤ t2 ∧ t2 < (u7 : Int) ∧
  needPtr t7 fun y7 z7 =>
  canStore x7 y7 (z7 + t2.toNat * 1) 1 ∧
  let b8 := setCs x7 y7 (z7 + t2.toNat * 1) [.int .i64 h7];
  let d8 : Int := IntKind.i64.wrap (g0 + 1);
  ([.int .i64 xa1, .func (.func a2) #[] cap2, .pointer (some ⟨a3, 0, none⟩), .pointer (some ⟨a4, 0, none⟩), .pointer (some ⟨a5, 0, none⟩), .slice Aa0 na0 ca0, .int .i64 (na0 : Int)] : List Value) = ([.int .i64 xa1, .func (.func a2) #[] cap2, .pointer (some ⟨a3, 0, none⟩), .pointer (some ⟨a4, 0, none⟩), .pointer (some ⟨a5, 0, none⟩), .slice Aa0 na0 ca0, .int .i64 (na0 : Int)] : List Value) ∧ ∃ m, m < i0 ∧ b0 d8 b8 m) ∧
  (canStore g7 p7 (q7 + k2.toNat * 1) 1 ∧
  let g8 := setCs g7 p7 (q7 + k2.toNat * 1) [.int .i64 y0];
  ∃ h8 i8 j8,
  g8.cell? ⟨a5, 0, none⟩ = some (.slice h8 i8 j8) ∧
  (0 : Int) ≤ t2 ∧ t2 < (i8 : Int) ∧
  needPtr h8 fun k8 p8 =>
  canStore g8 k8 (p8 + t2.toNat * 1) 1 ∧
  let q8 := setCs g8 k8 (p8 + t2.toNat * 1) [.int .i64 h7];
  let t8 : Int := IntKind.i64.wrap (g0 + 1);
  ([.int .i64 xa1, .func (.func a2) #[] cap2, .pointer (some ⟨a3, 0, none⟩), .pointer (some ⟨a4, 0, none⟩), .pointer (some ⟨a5, 0, none⟩), .slice Aa0 na0 ca0, .int .i64 (na0 : Int)] : List Value) = ([.int .i64 xa1, .func (.func a2) #[] cap2, .pointer (some ⟨a3, 0, none⟩), .pointer (some ⟨a4, 0, none⟩), .pointer (some ⟨a5, 0, none⟩), .slice Aa0 na0 ca0, .int .i64 (na0 : Int)] : List Value) ∧ ∃ m, m < i0 ∧ b0 t8 q8 m) ∧ True) ∧ True)) (
  R (.tuple #[]) h0)
theorem f28.eq (Aa0 : Option Addr) (na0 ca0 : Nat) (xa1 : Int) (a2 : Nat) (cap2 : Array Value) (a3 : Nat) (a4 : Nat) (a5 : Nat) (w : World) (R : Value → World → Prop) : f28.VC Aa0 na0 ca0 xa1 a2 cap2 a3 a4 a5 w R = funV Tryd.prog Tryd.f28 f28.AL f28.AC #[.slice Aa0 na0 ca0, .int .i64 xa1, .func (.func a2) #[] cap2, .pointer (some ⟨a3, 0, none⟩), .pointer (some ⟨a4, 0, none⟩), .pointer (some ⟨a5, 0, none⟩)] w R := by kernel_rfl
theorem f28.calls {Aa0 : Option Addr} {na0 ca0 : Nat} {xa1 : Int} {a2 : Nat} {cap2 : Array Value} {a3 : Nat} {a4 : Nat} {a5 : Nat} {w : World} {R : Value → World → Prop} (h : f28.VC Aa0 na0 ca0 xa1 a2 cap2 a3 a4 a5 w R) : Calls Tryd.prog 28 #[.slice Aa0 na0 ca0, .int .i64 xa1, .func (.func a2) #[] cap2, .pointer (some ⟨a3, 0, none⟩), .pointer (some ⟨a4, 0, none⟩), .pointer (some ⟨a5, 0, none⟩)] w fun e w' => ∃ v, e = .returned v ∧ R v w' :=
  funV_sound (fn := Tryd.f28) (AL := f28.AL) (AC := f28.AC) W10.mixed (by kernel_rfl) (by rw [← f28.eq Aa0 na0 ca0 xa1 a2 cap2 a3 a4 a5]; exact h)

end Go.Proofs.YtjmlfknogjaemaaDoor
/- Page: a key is put into a table: the document's and the program's. -/
set_option linter.unusedVariables false
set_option linter.unusedSimpArgs false
set_option maxRecDepth 10000
namespace Go.Proofs.YtjmlfknogjaemaaDoor
open Go Go.Proofs.YtjmlfknogjaemaaDoor.Vc
namespace PG
open Vc.PG NI
abbrev ints (v : Value) (l : List Int) : Chunk := Chunk.ls encN 3 v l
/-- A search for an empty place goes on. -/
theorem free_step {Z : List Pz} (h : fullN Z < Z.length) {f j r : Nat} (hjr : j + r = Z.length) (hno : ∀ n, n < j → (Z.getD ((f + n) % Z.length) pz0).1 ≠ 0) : 0 < r := by
  obtain ⟨n, hn, he⟩ := empty_of h f
  rcases Nat.eq_zero_or_pos r with h0 | h0
  · exact absurd he (hno n (by omega))
  · exact h0
theorem num_le (l : List ByteArray) (s : ByteArray) : IX.num l s ≤ l.length := by
  unfold IX.num
  cases hx : l.findIdx? (fun x => decide (x = s)) with
  | none => simp
  | some j =>
    obtain ⟨hj, _⟩ := List.findIdx?_eq_some_iff_getElem.mp hx
    exact hj
theorem ofN_le {l : List ByteArray} (h : l.length ≤ 1048576) (s : ByteArray) : IX.ofN l s ≤ 1048576 := by
  have := num_le l s
  unfold IX.ofN
  split
  · split
    · omega
    · omega
  · omega
theorem ens_take {l : List ByteArray} {k : Int} {n : List Int} (hl : l.length = n.length) {i : Nat} (hi : i < l.length) : (ensOf l k n).take (i + 1) = (ensOf l k n).take i ++ [(l.getD i ByteArray.empty, k, n.getD i 0)] := by
  have h1 : i < (ensOf l k n).length := by simp [ensOf]; omega
  rw [List.take_succ_eq_append_getElem h1]
  congr 2
  simp [ensOf, List.getD_eq_getElem?_getD, hi, show i < n.length by omega]
theorem layGo_snoc (es : List En) (e : En) (s : List ByteArray × List Pz) : layGo (es ++ [e]) s = layStep (layGo es s) e := by
  simp [layGo, List.foldl_append]
abbrev pgK (a5 a4 a3 x : Nat) (P : Sl) (t : Nat) (W : List Int) (l : List ByteArray) (L : List Chunk) : List Chunk :=
  Chunk.blk a5 #[P.v] 28 :: ints P.v W :: Chunk.blk a4 #[.int .i64 (t : Int)] 3 :: Chunk.blk a3 #[.pointer (some ⟨x, 0, none⟩)] 23 :: idxC x l :: L
theorem putC {S : List Nat} {w0 w : World} {L : List Chunk} {a5 a4 a3 x t f n c : Nat} {cap : Array Value} {P : Sl} {hd : List Int} {Z : List Pz} {l names : List ByteArray} {nums : List Int} {k : Nat} {A : Option Addr}
    (h : St S w0 w (pgK a5 a4 a3 x P t (pageZ hd Z) l L)) (hhd : hd.length = 4) (hZ : Z.length = t) (hp : powB (t : Int) = true) (ht : t ≤ 512) (hfull : fullN Z + names.length < t) (hl : l.length ≤ 1048576) (hk : 1 ≤ k ∧ k < 4)
    (hT : ∀ w', Fr S w0 w' → InX w' A n names) (hnl : names.length = nums.length)
    (hnum : ∀ w' l' W' i, St S w0 w' (pgK a5 a4 a3 x P t W' l' L) → i < n → callT Tryd.prog (.func (.func f) #[] cap) #[.int .i64 (i : Int)] w' fun e w'' => e = .returned (.int .i64 (nums.getD i 0)) ∧ w'' = w') :
    Calls Tryd.prog 28 #[.slice A n c, .int .i64 (k : Int), .func (.func f) #[] cap, .pointer (some ⟨a3, 0, none⟩), .pointer (some ⟨a4, 0, none⟩), .pointer (some ⟨a5, 0, none⟩)] w fun e w' => e = .returned (.tuple #[]) ∧
      St S w0 w' (pgK a5 a4 a3 x P t (pageZ hd (layGo (ensOf names k nums) (l, Z)).2) (layGo (ensOf names k nums) (l, Z)).1 L) := by
  refine Calls.mono (f28.calls (R := fun v w' => v = .tuple #[] ∧ St S w0 w' (pgK a5 a4 a3 x P t (pageZ hd (layGo (ensOf names k nums) (l, Z)).2) (layGo (ensOf names k nums) (l, Z)).1 L)) ?_) ?_
  · dsimp only [f28.VC]
    have hn := (hT w h.frame).1
    refine ⟨fun y w' r => ∃ i : Nat, y = (i : Int) ∧ i + r = n ∧ ∃ li Zi, layGo ((ensOf names k nums).take i) (l, Z) = (li, Zi) ∧ St S w0 w' (pgK a5 a4 a3 x P t (pageZ hd Zi) li L) ∧ Zi.length = t ∧ fullN Zi = fullN Z + i ∧ li.length ≤ 1048576, ⟨n, 0, rfl, by omega, l, Z, rfl, h, hZ, rfl, hl⟩, ?_⟩
    rintro d y w1 r ⟨i, rfl, hir, li, Zi, hgo, hS, hZi, hfi, hli⟩
    refine sel_of (fun hd' => ?_) (fun hd' => ?_)
    · have hi : i < n := by have := of_decide_eq_true hd'; omega
      have hst := layGo_snoc ((ensOf names k nums).take i) (names.getD i ByteArray.empty, (k : Int), nums.getD i 0) (l, Z)
      rw [← ens_take hnl (by omega), hgo] at hst
      refine ⟨by omega, by omega, InX.need (hT w1 hS.frame) rfl hi ?_⟩
      generalize names.getD i ByteArray.empty = s at *
      refine ⟨_, (hS.blk 3 rfl).cell rfl, ?_⟩
      refine Calls.mono (NI.of hS 4 rfl hli s) ?_
      rintro _ w2 ⟨rfl, hS⟩
      have hS : St S w0 w2 (pgK a5 a4 a3 x P t (pageZ hd Zi) (IX.of li s) L) := hS
      have hof := ofN_le hli s
      have hkey := key_or hof hk.2
      refine ⟨_, rfl, by omega, ?_⟩
      rw [hkey]
      unfold layStep at hst
      dsimp only at hst
      have hkz : ((IX.ofN li s * 4 + k : Nat) : Int) = (IX.ofN li s : Int) * 4 + (k : Int) := by omega
      rw [← hkz] at hst
      have hk0 : ((IX.ofN li s * 4 + k : Nat) : Int) ≠ 0 := by omega
      generalize ((IX.ofN li s * 4 + k : Nat) : Int) = key at *
      refine ⟨_, (hS.blk 2 rfl).cell rfl, ?_⟩
      refine Calls.mono (hashP w2 key t (by omega)) ?_
      rintro _ w3 ⟨rfl, hf3⟩
      have hS := hS.go hf3
      have hfl := kfirst_lt key (t := t) (by omega)
      have hfe := kfirst_eq key (t := t)
      have hfz : fullN Zi < Zi.length := by omega
      have hpl : placeZ Zi key = freeAt Zi (kfirst key t) 0 t := by unfold placeZ; rw [hZi]
      obtain ⟨hp1, hp2⟩ := place_empty hfz key
      rw [← hfe]
      generalize kfirst key t = ff at *
      have hPn := hS.lsLen 1 rfl
      rw [pageZ_len hhd, hZi] at hPn
      refine ⟨_, rfl, fun y w' r => w' = w3 ∧ ∃ j : Nat, y = (((ff + j) % t : Nat) : Int) ∧ j + r = t ∧ freeAt Zi ff j r = placeZ Zi key ∧ ∀ n, n < j → (Zi.getD ((ff + n) % t) pz0).1 ≠ 0, ⟨t, rfl, 0, by rw [Nat.add_zero, Nat.mod_eq_of_lt hfl], by omega, hpl.symm, fun n hn => by omega⟩, ?_⟩
      rintro d y w4 q ⟨rfl, j, rfl, hjq, hgo2, hno⟩
      have hq := free_step hfz (f := ff) (j := j) (r := q) (by omega) (by rw [hZi]; exact hno)
      obtain ⟨q, rfl⟩ : ∃ q', q = q' + 1 := ⟨q - 1, by omega⟩
      have hm : (ff + j) % t < t := Nat.mod_lt _ (by omega)
      rw [freeAt, hZi] at hgo2
      obtain ⟨g, hg, hc⟩ := hS.lsGet 0 1 rfl (by omega)
      have hcc := hc _ (show 4 + 2 * ((ff + j) % t) < P.2.1 by omega)
      rw [pageZ_fst hhd (by omega)] at hcc
      have e1 : IntKind.i64.wrap (4 + IntKind.i64.wrap (2 * (((ff + j) % t : Nat) : Int))) = ((4 + 2 * ((ff + j) % t) : Nat) : Int) := by rw [i64_id (x := 2 * _) (by omega) (by omega), i64_id (by omega) (by omega)]; omega
      have e2 : IntKind.i64.wrap (((4 + 2 * ((ff + j) % t) : Nat) : Int) + 1) = ((4 + 2 * ((ff + j) % t) + 1 : Nat) : Int) := by rw [i64_id (by omega) (by omega)]; omega
      rw [e1, e2]
      refine ⟨_, _, _, (hS.blk 0 rfl).cell rfl, by omega, by omega, needPtr_of hg ⟨_, by rw [Nat.mul_one, Int.toNat_natCast, Nat.zero_add]; exact hcc, sel_of (fun hd2 => ?_) (fun hd2 => ?_)⟩⟩
      · have hd2 : (Zi.getD ((ff + j) % t) pz0).1 ≠ 0 := bne_iff_ne.1 hd2
        rw [if_neg hd2] at hgo2
        have e3 : bitsI .and .i64 (IntKind.i64.wrap ((((ff + j) % t : Nat) : Int) + 1)) (IntKind.i64.wrap ((t : Int) - 1)) = (((ff + (j + 1)) % t : Nat) : Int) := by
          rw [i64_id (x := (((ff + j) % t : Nat) : Int) + 1) (by omega) (by omega), i64_id (x := (t : Int) - 1) (by omega) (by omega)]
          have := and_pow (t := t) (a := (ff + j) % t + 1) hp ht (by omega)
          rw [show (((ff + j) % t : Nat) : Int) + 1 = (((ff + j) % t + 1 : Nat) : Int) by omega, this]
          congr 1
          rw [show ff + (j + 1) = ff + j + 1 by omega, Nat.add_mod (ff + j) 1 t, Nat.add_mod ((ff + j) % t) 1 t, Nat.mod_mod]
        refine ⟨_, (hS.blk 2 rfl).cell rfl, ?_⟩
        rw [e3]
        refine ⟨rfl, q, by omega, rfl, j + 1, rfl, by omega, hgo2, fun n hn => ?_⟩
        rcases Nat.lt_or_ge n j with h1 | h1
        · exact hno n h1
        · have : n = j := by omega
          subst this; exact hd2
      · have hd2 : (Zi.getD ((ff + j) % t) pz0).1 = 0 := bne_eq_false_iff_eq.1 hd2
        rw [if_pos hd2] at hgo2
        rw [hgo2] at hm ⊢
        have hfull2 := putZ_full hfz hk0 (nums.getD i 0)
        have hcall := hnum w4.drew _ _ i hS.drew hi
        have hSd := hS.drew
        obtain ⟨g1, hg1, hc1, hS1⟩ := hSd.lsSet 1 rfl (k := 4 + 2 * placeZ Zi key) (by rw [pageZ_len hhd]; omega) key
        obtain ⟨g2, hg2, hc2, hS2⟩ := hS1.lsSet 1 rfl (k := 4 + 2 * placeZ Zi key + 1) (by rw [List.length_set, pageZ_len hhd]; omega) (nums.getD i 0)
        rw [hg1] at hg2
        injection hg2 with hg2
        injection hg2 with hg2 _ _
        subst hg2
        have hS2 : St S w0 (setCs (setCs w4.drew g1 (4 + 2 * placeZ Zi key) [encN key]) g1 (4 + 2 * placeZ Zi key + 1) [encN (nums.getD i 0)]) (pgK a5 a4 a3 x P t (((pageZ hd Zi).set (4 + 2 * placeZ Zi key) key).set (4 + 2 * placeZ Zi key + 1) (nums.getD i 0)) (IX.of li s) L) := hS2
        rw [show ((pageZ hd Zi).set (4 + 2 * placeZ Zi key) key).set (4 + 2 * placeZ Zi key + 1) (nums.getD i 0) = pageZ hd (putZ Zi key (nums.getD i 0)) from pageZ_set hhd Zi (placeZ Zi key) (key, nums.getD i 0)] at hS2
        have e3 : 0 + ((4 + 2 * placeZ Zi key : Nat) : Int).toNat * 1 = 4 + 2 * placeZ Zi key := by rw [Int.toNat_natCast]; omega
        have e4 : 0 + ((4 + 2 * placeZ Zi key + 1 : Nat) : Int).toNat * 1 = 4 + 2 * placeZ Zi key + 1 := by rw [Int.toNat_natCast]; omega
        have e5 := inc i 1000000 (by omega) (by omega)
        have b1 : (0 : Int) ≤ ((4 + 2 * placeZ Zi key : Nat) : Int) := by omega
        have b2 : ((4 + 2 * placeZ Zi key : Nat) : Int) < (P.2.1 : Int) := by omega
        have b3 : (0 : Int) ≤ ((4 + 2 * placeZ Zi key + 1 : Nat) : Int) := by omega
        have b4 : ((4 + 2 * placeZ Zi key + 1 : Nat) : Int) < (P.2.1 : Int) := by omega
        have hfin : ∃ m, m < r ∧ ∃ i' : Nat, IntKind.i64.wrap ((i : Int) + 1) = (i' : Int) ∧ i' + m = n ∧ ∃ li' Zi', layGo ((ensOf names k nums).take i') (l, Z) = (li', Zi') ∧ St S w0 (setCs (setCs w4.drew g1 (4 + 2 * placeZ Zi key) [encN key]) g1 (4 + 2 * placeZ Zi key + 1) [encN (nums.getD i 0)]) (pgK a5 a4 a3 x P t (pageZ hd Zi') li' L) ∧ Zi'.length = t ∧ fullN Zi' = fullN Z + i' ∧ li'.length ≤ 1048576 :=
          ⟨r - 1, by omega, i + 1, e5, by omega, _, _, hst, hS2, by rw [putZ_len, hZi], by omega, of_le hli s⟩
        have hloadP : w4.cell? ⟨a5, 0, none⟩ = some P.v := (hS.blk 0 rfl).cell rfl
        have hloadD : w4.drew.cell? ⟨a5, 0, none⟩ = some P.v := (hSd.blk 0 rfl).cell rfl
        have hload1 : (setCs w4.drew g1 (4 + 2 * placeZ Zi key) [encN key]).cell? ⟨a5, 0, none⟩ = some P.v := (hS1.blk 0 rfl).cell rfl
        repeat' (first
          | exact trivial
          | exact ⟨rfl, hfin⟩
          | refine ⟨_, _, _, hloadP, ?_⟩
          | refine ⟨_, _, _, hloadD, ?_⟩
          | refine ⟨_, _, _, hload1, ?_⟩
          | (refine callT_mono hcall ?_
             rintro _ _ ⟨rfl, rfl⟩
             refine ⟨_, rfl, ?_⟩)
          | refine ⟨b1, b2, needPtr_of hg1 ?_⟩
          | refine ⟨b3, b4, needPtr_of hg1 ?_⟩
          | (rw [e3]; refine ⟨hc1, ?_⟩)
          | (rw [e4]; refine ⟨hc2, ?_⟩)
          | refine And.intro ?_ ?_
          | fail)
    · have hi : i = n := by have := of_decide_eq_false hd'; omega
      rw [List.take_of_length_le (by simp [ensOf]; omega)] at hgo
      rw [hgo]
      exact ⟨rfl, hS⟩
  · rintro e w' ⟨v, rfl, rfl, h⟩; exact ⟨rfl, h⟩
end PG
end Go.Proofs.YtjmlfknogjaemaaDoor

/- Page: Lay, as the document does it. -/
set_option linter.unusedVariables false
set_option linter.unusedSimpArgs false
set_option maxRecDepth 10000
namespace Go.Proofs.YtjmlfknogjaemaaDoor
open Go Go.Proofs.YtjmlfknogjaemaaDoor.Vc
namespace PG
open Vc.PG NI
theorem layStep_len (s : List ByteArray × List Pz) (e : En) : (layStep s e).2.length = s.2.length := putZ_len _ _ _
theorem layGo_inv : ∀ (es : List En) (s : List ByteArray × List Pz), (∀ e ∈ es, 1 ≤ e.2.1) → fullN s.2 + es.length ≤ s.2.length → s.1.length ≤ 1048576 →
    fullN (layGo es s).2 = fullN s.2 + es.length ∧ (layGo es s).2.length = s.2.length ∧ (layGo es s).1.length ≤ 1048576
  | [], s, _, _, h => ⟨rfl, rfl, h⟩
  | e :: es, s, hk, hf, hl => by
    have h1 : fullN (layStep s e).2 = fullN s.2 + 1 := by
      refine putZ_full ?_ ?_ _
      · simp at hf; omega
      · have := hk e (by simp); omega
    have h2 := layStep_len s e
    have h3 := layGo_inv es (layStep s e) (fun x hx => hk x (by simp [hx])) (by simp at hf; omega) (of_le hl e.1)
    have e0 : layGo (e :: es) s = layGo es (layStep s e) := rfl
    rw [e0]
    refine ⟨by rw [h3.1, h1]; simp; omega, by rw [h3.2.1, h2], h3.2.2⟩
theorem ens_kind {l : List ByteArray} {k : Int} {n : List Int} (hk : 1 ≤ k) : ∀ e ∈ ensOf l k n, 1 ≤ e.2.1 := by
  intro e he
  obtain ⟨p, _, rfl⟩ := List.mem_map.1 he
  exact hk
theorem ens_len {l : List ByteArray} {k : Int} {n : List Int} (h : l.length = n.length) : (ensOf l k n).length = l.length := by simp [ensOf, h]
theorem under26 : Tryd.prog.underlying 28 = some (.slice 3) := by kernel_rfl
theorem appI {S : List Nat} {w0 w : World} {L : List Chunk} (h : St S w0 w L) (i : Nat) {A : Option Addr} {n c : Nat} {l : List Int} (hi : L[i]? = some (ints (.slice A n c) l)) (a : Int) (hl : l.length ≤ 4000000) :
    ∃ A' n' c' w', (Builtin.append_ #[28, 28] 28 #[.slice A n c, .slice (some ⟨w.heap.size, 0, Option.none⟩) 1 1]).run Tryd.prog (World.alloc w (.cells #[.int .i64 a] 3)) = .ok (.slice A' n' c') w' ∧ St S w0 w' (L.set i (ints (.slice A' n' c') (l ++ [a]))) := by
  obtain ⟨ti, i1, i2, i3, i4⟩ := info3
  obtain ⟨g', cap', w', h1, h2⟩ := h.app (enc := encN) (P := Tryd.prog) (t := 28) (ty := 28) (fun _ => rfl) under26 i1 i2 i3 rfl (by omega) i hi a (by omega)
  exact ⟨_, _, _, w', h1, h2⟩
theorem ls_of_blk {α : Type} {enc : α → Value} {e : TypeId} {b : Nat} {l : List α} (hm : l.length ≤ maxLen) {w : World} {F : List Nat} (h : (Chunk.blk b (l.map enc).toArray e).holds w F) : (Chunk.ls enc e (.slice (some ⟨b, 0, none⟩) l.length l.length) l).holds w F := by
  refine .inr ⟨b, l.length, by simp, h.1, (l.map enc).toArray, h.2, by simp, by simp, hm, by simp, fun i hi j hj => ?_⟩
  have : j = 0 := by omega
  subst this
  simp at hi
  simp [List.getD_eq_getElem?_getD, hi]
theorem take_snoc {α : Type} (d : α) (l : List α) (j : Nat) (h : j < l.length) : l.take (j + 1) = l.take j ++ [l.getD j d] := by
  rw [List.take_succ_eq_append_getElem h]
  simp [List.getD_eq_getElem?_getD, h]
theorem row_len {g : Gd} (h : validP g = true) {i : Nat} (hi : i < topOf (gF g)) : ((gM g).getD i []).length = topOf (gN g) := by
  obtain ⟨p1, p2, p3, p4, p5, p6, p7, p8, p9⟩ := valid_parts h
  exact (((shaped_iff _ _ _ _).1 p7).2 i hi).1
end PG
end Go.Proofs.YtjmlfknogjaemaaDoor
