/- One thing more on a list of things of one cell. -/
import Derived.Test.YtjmlfknogjaemaaDoorM8
import Derived.Test.YtjmlfknogjaemaaDoorM5
import Derived.Test.YtjmlfknogjaemaaDoorProg
import Derived.KernelRfl
import Derived.Test.YtjmlfknogjaemaaDoorM11
set_option linter.unusedVariables false
set_option linter.unusedSimpArgs false
namespace Go.Proofs.YtjmlfknogjaemaaDoor.Vc
open Go
/-- A list of things of one cell. -/
abbrev Chunk.ls {α : Type} (enc : α → Value) (e : TypeId) (v : Value) (l : List α) : Chunk := Chunk.sl e 1 v (l.map fun a => [enc a])
theorem St.app {α : Type} {enc : α → Value} (henc : ∀ a, (enc a).oneCell' = true) {P : Program} {t ty e : TypeId} {ti : TypeInfo} {z : Value} (ht : P.underlying t = some (.slice e)) (hti : P.info? e = some ti) (hz : ti.zero = some z) (hsize : ti.size = 1) (hzs : z.cells.size = 1) (hb : ti.bytes ≤ 1000)
    {S : List Nat} {w0 w : World} {L : List Chunk} (h : St S w0 w L) (i : Nat) {A : Option Addr} {n c : Nat} {l : List α} (hi : L[i]? = some (Chunk.ls enc e (.slice A n c) l)) (a : α) (hl : l.length ≤ 40000000) :
    ∃ g' cap' w', (Builtin.append_ #[t, t] ty #[.slice A n c, .slice (some ⟨w.heap.size, 0, Option.none⟩) 1 1]).run P (World.alloc w (.cells #[enc a] e)) = .ok (.slice (some ⟨g', 0, Option.none⟩) (l.length + 1) cap') w' ∧
      St S w0 w' (L.set i (Chunk.ls enc e (.slice (some ⟨g', 0, Option.none⟩) (l.length + 1) cap') (l ++ [a]))) := by
  have h2 := h.alloc #[enc a] e
  have el : (l.map fun a => [enc a]).length = l.length := by simp
  obtain ⟨g', cap', w3, hrun, h3⟩ := h2.append (P := P) (t := t) (ty := ty) (r := [enc a]) (i + 1) ht hti hz hsize hzs (by decide) (by simpa using hi) (h2.blk 0 rfl) rfl rfl (by intro u hu; simp at hu; subst hu; exact henc a) (by rw [el]; have := Nat.mul_le_mul (show l.length + 1 ≤ 40000001 by omega) hb; omega) (by rw [el]; simp [maxLen]; omega)
  rw [el] at hrun h3
  refine ⟨g', cap', w3, hrun, ?_⟩
  have h4 := h3.tail
  rw [show (l.map fun a => [enc a]) ++ [[enc a]] = (l ++ [a]).map (fun a => [enc a]) by simp] at h4
  exact h4
theorem St.lsLen {α : Type} {enc : α → Value} {S : List Nat} {w0 w : World} {L : List Chunk} (h : St S w0 w L) (i : Nat) {e : TypeId} {A : Option Addr} {n c : Nat} {l : List α} (hi : L[i]? = some (Chunk.ls enc e (.slice A n c) l)) : n = l.length := by
  have := h.slLen i hi
  rwa [List.length_map] at this
theorem St.lsGet {α : Type} (d : α) {enc : α → Value} {S : List Nat} {w0 w : World} {L : List Chunk} (h : St S w0 w L) (i : Nat) {e : TypeId} {A : Option Addr} {n c : Nat} {l : List α} (hi : L[i]? = some (Chunk.ls enc e (.slice A n c) l)) (hp : 0 < n) :
    ∃ g, A = some ⟨g, 0, Option.none⟩ ∧ ∀ q, q < n → w.cell? ⟨g, q, Option.none⟩ = some (enc (l.getD q d)) := by
  have hn := h.lsLen i hi
  obtain ⟨g, hg, hc⟩ := h.slGet i hi (by simp; omega)
  refine ⟨g, hg, fun q hq => ?_⟩
  have := hc q 0 (enc (l.getD q d)) (by simp; omega) (by decide) (by simp [List.getD_eq_getElem?_getD, show q < l.length by omega])
  simpa using this
/-- A thing of the list is written. -/
theorem St.lsSet {α : Type} {enc : α → Value} {S : List Nat} {w0 w : World} {L : List Chunk} (h : St S w0 w L) (i : Nat) {e : TypeId} {A : Option Addr} {n c : Nat} {l : List α} (hi : L[i]? = some (Chunk.ls enc e (.slice A n c) l)) {k : Nat} (hk : k < l.length) (a : α) :
    ∃ g, A = some ⟨g, 0, Option.none⟩ ∧ canStore w g k 1 ∧ St S w0 (setCs w g k [enc a]) (L.set i (Chunk.ls enc e (.slice A n c) (l.set k a))) := by
  obtain ⟨g, hg, hs⟩ := h.slSet i hi (k := k) (by simpa using hk)
  obtain ⟨h1, h2⟩ := hs [enc a] rfl
  rw [Nat.mul_one] at h1 h2
  refine ⟨g, hg, h1, ?_⟩
  rw [show (l.map fun a => [enc a]).set k [enc a] = (l.set k a).map (fun a => [enc a]) by rw [List.map_set]] at h2
  exact h2
end Go.Proofs.YtjmlfknogjaemaaDoor.Vc
/- The plain statements of some functions, printed by vcgen.py. -/
set_option maxRecDepth 100000
set_option maxHeartbeats 4000000
set_option linter.unusedVariables false
namespace Go.Proofs.YtjmlfknogjaemaaDoor
open Go Go.Proofs.YtjmlfknogjaemaaDoor.Vc
theorem W6.mixed : Tryd.prog.follows .mixedOrders = true := by kernel_rfl
/-- gatehouse/gatehouseref11.Valid -/
def f12.AL : Nat → Option Ann := fun r => match r with | 14 => some ⟨[(11, .int .i64)], [1, 6, 8]⟩ | 17 => some ⟨[(12, .int .i64)], [1, 6, 8, 11]⟩ | 23 => some ⟨[(14, .int .i64)], [1, 8]⟩ | 26 => some ⟨[(15, .int .i64)], [1, 8, 14]⟩ | _ => none
def f12.AC : Nat → Option Ann := fun _ => none
def f12.VC (Aa0_0 : Option Addr) (na0_0 ca0_0 : Nat) (Aa0_1 : Option Addr) (na0_1 ca0_1 : Nat) (Aa0_2 : Option Addr) (na0_2 ca0_2 : Nat) (Aa0_3 : Option Addr) (na0_3 ca0_3 : Nat) (Aa0_4 : Option Addr) (na0_4 ca0_4 : Nat) (Aa0_5 : Option Addr) (na0_5 ca0_5 : Nat) (w : World) (R : Value → World → Prop) : Prop :=
  let b0 := World.alloc w (.cells #[.slice Aa0_0 na0_0 ca0_0, .slice Aa0_1 na0_1 ca0_1, .slice Aa0_2 na0_2 ca0_2, .slice Aa0_3 na0_3 ca0_3, .slice Aa0_4 na0_4 ca0_4, .slice Aa0_5 na0_5 ca0_5] 32);
  ∃ d0 g0 h0,
  b0.cell? ⟨w.heap.size, 0, none⟩ = some (.slice d0 g0 h0) ∧
  sel (decide ((16 : Int) < ((g0 : Int) : Int))) (
  R (.bool false) b0) (
  ∃ i0 j0 k0,
  b0.cell? ⟨w.heap.size, 1, none⟩ = some (.slice i0 j0 k0) ∧
  sel (decide ((64 : Int) < ((j0 : Int) : Int))) (
  R (.bool false) b0) (
  ∃ p0 q0 t0,
  b0.cell? ⟨w.heap.size, 2, none⟩ = some (.slice p0 q0 t0) ∧
  sel (decide ((64 : Int) < ((q0 : Int) : Int))) (
  R (.bool false) b0) (
  ∃ u0 v0 x0,
  b0.cell? ⟨w.heap.size, 3, none⟩ = some (.slice u0 v0 x0) ∧
  ∃ y0 z0 b1,
  b0.cell? ⟨w.heap.size, 1, none⟩ = some (.slice y0 z0 b1) ∧
  sel (((v0 : Int) : Int) != ((z0 : Int) : Int)) (
  R (.bool false) b0) (
  ∃ d1 g1 h1,
  b0.cell? ⟨w.heap.size, 4, none⟩ = some (.slice d1 g1 h1) ∧
  ∃ i1 j1 k1,
  b0.cell? ⟨w.heap.size, 2, none⟩ = some (.slice i1 j1 k1) ∧
  sel (((g1 : Int) : Int) != ((j1 : Int) : Int)) (
  R (.bool false) b0) (
  ∃ p1 q1 t1,
  b0.cell? ⟨w.heap.size, 0, none⟩ = some (.slice p1 q1 t1) ∧
  Calls Tryd.prog 32 #[.slice p1 q1 t1] b0 fun u1 v1 =>
  ∃ x1,
  u1 = .returned (.bool x1) ∧
  ∃ y1 z1 b2,
  v1.cell? ⟨w.heap.size, 1, none⟩ = some (.slice y1 z1 b2) ∧
  Calls Tryd.prog 32 #[.slice y1 z1 b2] v1 fun d2 g2 =>
  ∃ h2,
  d2 = .returned (.bool h2) ∧
  ∃ i2 j2 k2,
  g2.cell? ⟨w.heap.size, 2, none⟩ = some (.slice i2 j2 k2) ∧
  Calls Tryd.prog 32 #[.slice i2 j2 k2] g2 fun p2 q2 =>
  ∃ t2,
  p2 = .returned (.bool t2) ∧
  ∃ u2 v2 x2,
  q2.cell? ⟨w.heap.size, 3, none⟩ = some (.slice u2 v2 x2) ∧
  Calls Tryd.prog 33 #[.slice u2 v2 x2] q2 fun y2 z2 =>
  ∃ b3 d3,
  y2 = .returned (.tuple #[.int .i64 b3, .bool d3]) ∧
  ∃ g3 h3 i3,
  z2.cell? ⟨w.heap.size, 4, none⟩ = some (.slice g3 h3 i3) ∧
  Calls Tryd.prog 33 #[.slice g3 h3 i3] z2 fun j3 k3 =>
  ∃ p3 q3,
  j3 = .returned (.tuple #[.int .i64 p3, .bool q3]) ∧
  sel x1 (
  R (.bool false) k3) (
  sel h2 (
  R (.bool false) k3) (
  sel t2 (
  R (.bool false) k3) (
  sel (!d3) (
  R (.bool false) k3) (
  sel (!q3) (
  R (.bool false) k3) (
  ∃ t3 u3 v3,
  k3.cell? ⟨w.heap.size, 0, none⟩ = some (.slice t3 u3 v3) ∧
  ∃ x3 y3 z3,
  k3.cell? ⟨w.heap.size, 1, none⟩ = some (.slice x3 y3 z3) ∧
  ∃ b4 d4 g4,
  k3.cell? ⟨w.heap.size, 2, none⟩ = some (.slice b4 d4 g4) ∧
  ∃ h4 i4 j4,
  k3.cell? ⟨w.heap.size, 3, none⟩ = some (.slice h4 i4 j4) ∧
  ∃ k4 p4 q4,
  k3.cell? ⟨w.heap.size, 4, none⟩ = some (.slice k4 p4 q4) ∧
  ∃ t4 u4 v4,
  k3.cell? ⟨w.heap.size, 5, none⟩ = some (.slice t4 u4 v4) ∧
  Calls Tryd.prog 34 #[.agg #[.slice t3 u3 v3, .slice x3 y3 z3, .slice b4 d4 g4, .slice h4 i4 j4, .slice k4 p4 q4, .slice t4 u4 v4], .int .i64 b3, .int .i64 p3] k3 fun x4 y4 =>
  ∃ z4,
  x4 = .returned (.bool z4) ∧
  sel (!z4) (
  R (.bool false) y4) (
  ∃ b5 : Int → World → Nat → Prop,
  (∃ n, b5 0 y4 n) ∧
  ∀ d5 : Env, ∀ g5 h5 i5, b5 g5 h5 i5 →
  sel (decide ((g5 : Int) < (b3 : Int))) (
  ∃ j5 : Int → World → Nat → Prop,
  (∃ n, j5 0 h5 n) ∧
  ∀ k5 : Env, ∀ p5 q5 t5, j5 p5 q5 t5 →
  sel (decide ((p5 : Int) < (g5 : Int))) (
  ∃ u5 v5 x5,
  q5.cell? ⟨w.heap.size, 5, none⟩ = some (.slice u5 v5 x5) ∧
  (0 : Int) ≤ g5 ∧ g5 < (v5 : Int) ∧
  needPtr u5 fun y5 z5 =>
  ∃ b6 d6 g6,
  q5.cell? ⟨y5, z5 + g5.toNat * 1, none⟩ = some (.slice b6 d6 g6) ∧
  ∃ h6 i6 j6,
  q5.cell? ⟨w.heap.size, 5, none⟩ = some (.slice h6 i6 j6) ∧
  (0 : Int) ≤ p5 ∧ p5 < (i6 : Int) ∧
  needPtr h6 fun k6 p6 =>
  ∃ q6 t6 u6,
  q5.cell? ⟨k6, p6 + p5.toNat * 1, none⟩ = some (.slice q6 t6 u6) ∧
  Calls Tryd.prog 35 #[.slice b6 d6 g6, .slice q6 t6 u6] q5.drew fun v6 x6 =>
  ∃ y6,
  v6 = .returned (.bool y6) ∧
  sel y6 (
  R (.bool false) x6) (
  let z6 : Int := IntKind.i64.wrap (p5 + 1);
  ([.pointer (some ⟨w.heap.size, 0, none⟩), .int .i64 b3, .int .i64 p3, .int .i64 g5] : List Value) = ([.pointer (some ⟨w.heap.size, 0, none⟩), .int .i64 b3, .int .i64 p3, .int .i64 g5] : List Value) ∧ ∃ m, m < t5 ∧ j5 z6 x6 m)) (
  let b7 : Int := IntKind.i64.wrap (g5 + 1);
  ([.pointer (some ⟨w.heap.size, 0, none⟩), .int .i64 b3, .int .i64 p3] : List Value) = ([.pointer (some ⟨w.heap.size, 0, none⟩), .int .i64 b3, .int .i64 p3] : List Value) ∧ ∃ m, m < i5 ∧ b5 b7 q5 m)) (
  ∃ d7 : Int → World → Nat → Prop,
  (∃ n, d7 0 h5 n) ∧
  ∀ g7 : Env, ∀ h7 i7 j7, d7 h7 i7 j7 →
  sel (decide ((h7 : Int) < (p3 : Int))) (
  ∃ k7 : Int → World → Nat → Prop,
  (∃ n, k7 0 i7 n) ∧
  ∀ p7 : Env, ∀ q7 t7 u7, k7 q7 t7 u7 →
  sel (decide ((q7 : Int) < (h7 : Int))) (
  ∃ v7 x7 y7,
  t7.cell? ⟨w.heap.size, 5, none⟩ = some (.slice v7 x7 y7) ∧
  (Calls Tryd.prog 36 #[.slice v7 x7 y7, .int .i64 h7] t7.drew fun z7 b8 =>
  ∃ d8 g8 h8,
  z7 = .returned (.slice d8 g8 h8) ∧
  ∃ i8 j8 k8,
  b8.cell? ⟨w.heap.size, 5, none⟩ = some (.slice i8 j8 k8) ∧
  Calls Tryd.prog 36 #[.slice i8 j8 k8, .int .i64 q7] b8 fun p8 q8 =>
  ∃ t8 u8 v8,
  p8 = .returned (.slice t8 u8 v8) ∧
  Calls Tryd.prog 35 #[.slice d8 g8 h8, .slice t8 u8 v8] q8 fun x8 y8 =>
  ∃ z8,
  x8 = .returned (.bool z8) ∧
  sel z8 (
  R (.bool false) y8) (
  let b9 : Int := IntKind.i64.wrap (q7 + 1);
  ([.pointer (some ⟨w.heap.size, 0, none⟩), .int .i64 p3, .int .i64 h7] : List Value) = ([.pointer (some ⟨w.heap.size, 0, none⟩), .int .i64 p3, .int .i64 h7] : List Value) ∧ ∃ m, m < u7 ∧ k7 b9 y8 m)) ∧
  (∃ d9 g9 h9,
  t7.cell? ⟨w.heap.size, 5, none⟩ = some (.slice d9 g9 h9) ∧
  Calls Tryd.prog 36 #[.slice v7 x7 y7, .int .i64 h7] t7.drew fun i9 j9 =>
  ∃ k9 p9 q9,
  i9 = .returned (.slice k9 p9 q9) ∧
  Calls Tryd.prog 36 #[.slice d9 g9 h9, .int .i64 q7] j9 fun t9 u9 =>
  ∃ v9 x9 y9,
  t9 = .returned (.slice v9 x9 y9) ∧
  Calls Tryd.prog 35 #[.slice k9 p9 q9, .slice v9 x9 y9] u9 fun z9 bA =>
  ∃ dA,
  z9 = .returned (.bool dA) ∧
  sel dA (
  R (.bool false) bA) (
  let gA : Int := IntKind.i64.wrap (q7 + 1);
  ([.pointer (some ⟨w.heap.size, 0, none⟩), .int .i64 p3, .int .i64 h7] : List Value) = ([.pointer (some ⟨w.heap.size, 0, none⟩), .int .i64 p3, .int .i64 h7] : List Value) ∧ ∃ m, m < u7 ∧ k7 gA bA m)) ∧ True) (
  let hA : Int := IntKind.i64.wrap (h7 + 1);
  ([.pointer (some ⟨w.heap.size, 0, none⟩), .int .i64 p3] : List Value) = ([.pointer (some ⟨w.heap.size, 0, none⟩), .int .i64 p3] : List Value) ∧ ∃ m, m < j7 ∧ d7 hA t7 m)) (
  R (.bool true) i7)))))))))))))
theorem f12.eq (Aa0_0 : Option Addr) (na0_0 ca0_0 : Nat) (Aa0_1 : Option Addr) (na0_1 ca0_1 : Nat) (Aa0_2 : Option Addr) (na0_2 ca0_2 : Nat) (Aa0_3 : Option Addr) (na0_3 ca0_3 : Nat) (Aa0_4 : Option Addr) (na0_4 ca0_4 : Nat) (Aa0_5 : Option Addr) (na0_5 ca0_5 : Nat) (w : World) (R : Value → World → Prop) : f12.VC Aa0_0 na0_0 ca0_0 Aa0_1 na0_1 ca0_1 Aa0_2 na0_2 ca0_2 Aa0_3 na0_3 ca0_3 Aa0_4 na0_4 ca0_4 Aa0_5 na0_5 ca0_5 w R = funV Tryd.prog Tryd.f12 f12.AL f12.AC #[.agg #[.slice Aa0_0 na0_0 ca0_0, .slice Aa0_1 na0_1 ca0_1, .slice Aa0_2 na0_2 ca0_2, .slice Aa0_3 na0_3 ca0_3, .slice Aa0_4 na0_4 ca0_4, .slice Aa0_5 na0_5 ca0_5]] w R := by kernel_rfl
theorem f12.calls {Aa0_0 : Option Addr} {na0_0 ca0_0 : Nat} {Aa0_1 : Option Addr} {na0_1 ca0_1 : Nat} {Aa0_2 : Option Addr} {na0_2 ca0_2 : Nat} {Aa0_3 : Option Addr} {na0_3 ca0_3 : Nat} {Aa0_4 : Option Addr} {na0_4 ca0_4 : Nat} {Aa0_5 : Option Addr} {na0_5 ca0_5 : Nat} {w : World} {R : Value → World → Prop} (h : f12.VC Aa0_0 na0_0 ca0_0 Aa0_1 na0_1 ca0_1 Aa0_2 na0_2 ca0_2 Aa0_3 na0_3 ca0_3 Aa0_4 na0_4 ca0_4 Aa0_5 na0_5 ca0_5 w R) : Calls Tryd.prog 12 #[.agg #[.slice Aa0_0 na0_0 ca0_0, .slice Aa0_1 na0_1 ca0_1, .slice Aa0_2 na0_2 ca0_2, .slice Aa0_3 na0_3 ca0_3, .slice Aa0_4 na0_4 ca0_4, .slice Aa0_5 na0_5 ca0_5]] w fun e w' => ∃ v, e = .returned v ∧ R v w' :=
  funV_sound (fn := Tryd.f12) (AL := f12.AL) (AC := f12.AC) W6.mixed (by kernel_rfl) (by rw [← f12.eq Aa0_0 na0_0 ca0_0 Aa0_1 na0_1 ca0_1 Aa0_2 na0_2 ca0_2 Aa0_3 na0_3 ca0_3 Aa0_4 na0_4 ca0_4 Aa0_5 na0_5 ca0_5]; exact h)

end Go.Proofs.YtjmlfknogjaemaaDoor
/- Page: graphs that are read; the document's column, shaped, Valid. -/
set_option linter.unusedVariables false
set_option linter.unusedSimpArgs false
set_option maxRecDepth 10000
namespace Go.Proofs.YtjmlfknogjaemaaDoor
open Go Go.Proofs.YtjmlfknogjaemaaDoor.Vc
namespace PG
open Vc.PG NI
/-- Masks that are read. -/
def InM (w : World) (A : Option Addr) (n : Nat) (M : List (List Int)) : Prop := n = M.length ∧ (0 < n → ∃ b o, A = some ⟨b, o, none⟩ ∧ ∀ i, i < n → ∃ B k c, w.cell? ⟨b, o + i, none⟩ = some (.slice B k c) ∧ InU w B k (M.getD i []))
abbrev Sl := Option Addr × Nat × Nat
structure GV where
  a : Sl
  s : Sl
  o : Sl
  f : Sl
  n : Sl
  m : Sl
abbrev Sl.v (x : Sl) : Value := .slice x.1 x.2.1 x.2.2
abbrev GV.cells (v : GV) : Array Value := #[v.a.v, v.s.v, v.o.v, v.f.v, v.n.v, v.m.v]
abbrev GV.v (v : GV) : Value := .agg v.cells
/-- A graph that is read. -/
structure InG (w : World) (v : GV) (g : Gd) : Prop where
  a : InX w v.a.1 v.a.2.1 (gA g) ∧ v.a.2.1 ≤ v.a.2.2
  s : InX w v.s.1 v.s.2.1 (gS g) ∧ v.s.2.1 ≤ v.s.2.2
  o : InX w v.o.1 v.o.2.1 (gO g) ∧ v.o.2.1 ≤ v.o.2.2
  f : InW w v.f.1 v.f.2.1 (gF g) ∧ v.f.2.1 ≤ v.f.2.2
  n : InW w v.n.1 v.n.2.1 (gN g) ∧ v.n.2.1 ≤ v.n.2.2
  m : InM w v.m.1 v.m.2.1 (gM g) ∧ v.m.2.1 ≤ v.m.2.2
  u : ∀ r ∈ gM g, ∀ x ∈ r, 0 ≤ x ∧ x < 65536
theorem InU.fr {w w' : World} {A : Option Addr} {n : Nat} {W : List Int} (h : InU w A n W) (hf : Fr [] w w') : InU w' A n W := by
  refine ⟨h.1, fun hn => ?_⟩
  obtain ⟨b, o, rfl, h2⟩ := h.2 hn
  exact ⟨b, o, rfl, fun i hi => hf.cell (h2 i hi)⟩
theorem InM.fr {w w' : World} {A : Option Addr} {n : Nat} {W : List (List Int)} (h : InM w A n W) (hf : Fr [] w w') : InM w' A n W := by
  refine ⟨h.1, fun hn => ?_⟩
  obtain ⟨b, o, rfl, h2⟩ := h.2 hn
  refine ⟨b, o, rfl, fun i hi => ?_⟩
  obtain ⟨B, k, c, h3, h4⟩ := h2 i hi
  exact ⟨B, k, c, hf.cell h3, h4.fr hf⟩
theorem InG.fr {w w' : World} {v : GV} {g : Gd} (h : InG w v g) (hf : Fr [] w w') : InG w' v g :=
  ⟨⟨h.a.1.fr hf, h.a.2⟩, ⟨h.s.1.fr hf, h.s.2⟩, ⟨h.o.1.fr hf, h.o.2⟩, ⟨h.f.1.fr hf, h.f.2⟩, ⟨h.n.1.fr hf, h.n.2⟩, ⟨h.m.1.fr hf, h.m.2⟩, h.u⟩
theorem InM.need {w : World} {A : Option Addr} {n : Nat} {M : List (List Int)} (h : InM w A n M) {i : Int} {q : Nat} (h0 : i = (q : Int)) (h1 : q < n) {K : Option Addr → Nat → Nat → Prop} (hk : ∀ B k c, InU w B k (M.getD q []) → K B k c) :
    needPtr A fun b o => ∃ B k c, w.cell? ⟨b, o + i.toNat * 1, none⟩ = some (.slice B k c) ∧ K B k c := by
  obtain ⟨b, o, rfl, h2⟩ := h.2 (by omega)
  obtain ⟨B, k, c, h3, h4⟩ := h2 q h1
  refine needPtr_of rfl ⟨B, k, c, ?_, hk B k c h4⟩
  rw [Nat.mul_one, h0, Int.toNat_natCast]
  exact h3
abbrev encU (x : Int) : Value := .int .u16 x
abbrev slU (v : Value) (l : List Int) : Chunk := Chunk.ls encU 59 v l
theorem under82 : Tryd.prog.underlying 29 = some (.slice 59) := by kernel_rfl
theorem info79 : ∃ i, Tryd.prog.info? 59 = some i ∧ i.zero = some (.int .u16 0) ∧ i.size = 1 ∧ i.bytes = 2 := ⟨Tryd.prog.types[59]!, by kernel_rfl, by kernel_rfl, by kernel_rfl, by kernel_rfl⟩
theorem St.inU {S : List Nat} {w0 w : World} {L : List Chunk} (h : St S w0 w L) (i : Nat) {A : Option Addr} {n c : Nat} {l : List Int} (hi : L[i]? = some (slU (.slice A n c) l)) : InU w A n l := by
  refine ⟨h.lsLen i hi, fun hn => ?_⟩
  obtain ⟨g, hg, hc⟩ := h.lsGet 0 i hi hn
  exact ⟨g, 0, hg, fun q hq => by rw [Nat.zero_add]; exact hc q hq⟩
theorem columnR {w : World} {A : Option Addr} {n c : Nat} {M : List (List Int)} (h : InM w A n M) (hn : n ≤ 1000000) {y : Nat} (hy : ∀ r ∈ M, y < r.length) :
    Calls Tryd.prog 36 #[.slice A n c, .int .i64 (y : Int)] w fun e w' => ∃ B m d, e = .returned (.slice B m d) ∧ St [] w w' [slU (.slice B m d) (col M y)] := by
  refine Calls.mono (f36.calls (R := fun v w' => ∃ B m d, v = .slice B m d ∧ St [] w w' [slU (.slice B m d) (col M y)]) ?_) ?_
  · dsimp only [f36.VC]
    have hl := h.1
    refine ⟨fun B m d x w' r => ∃ i : Nat, x = (i : Int) ∧ i + r = n ∧ St [] w w' [slU (.slice B m d) (col (M.take i) y)], ⟨n, 0, rfl, by omega, by rw [List.take_zero]; exact (St.start w).nil 59 1⟩, ?_⟩
    rintro d B m k x w1 r ⟨i, rfl, hir, hS⟩
    refine sel_of (fun hd => ?_) (fun hd => ?_)
    · have hi : i < n := by have := of_decide_eq_true hd; omega
      refine ⟨by omega, by omega, InM.need (h.fr hS.frame) rfl hi fun B' k' c' hU => ?_⟩
      have hyl : y < (M.getD i []).length := by
        have : i < M.length := by omega
        rw [List.getD_eq_getElem?_getD, List.getElem?_eq_getElem this]
        exact hy _ (List.getElem_mem this)
      refine ⟨by omega, by have := hU.1; omega, hU.need rfl (by have := hU.1; omega) ?_⟩
      obtain ⟨ti, i1, i2, i3, i4⟩ := info79
      obtain ⟨g', cap', w3, hrun, hS3⟩ := hS.app (enc := encU) (P := Tryd.prog) (t := 29) (ty := 29) (fun _ => rfl) under82 i1 i2 i3 rfl (by omega) 0 rfl ((M.getD i []).getD y 0) (by simp [col]; omega)
      rw [inc i n (by omega) (by omega)]
      refine ⟨_, _, _, _, hrun, rfl, r - 1, by omega, i + 1, rfl, by omega, ?_⟩
      have e : col (M.take (i + 1)) y = col (M.take i) y ++ [(M.getD i []).getD y 0] := by
        have : i < M.length := by omega
        unfold col
        rw [List.take_succ_eq_append_getElem this, List.map_append]
        simp [List.getD_eq_getElem?_getD, this]
      rw [e]
      exact hS3
    · have hi : i = n := by have := of_decide_eq_false hd; omega
      refine ⟨_, _, _, rfl, ?_⟩
      rw [List.take_of_length_le (by omega)] at hS
      exact hS
  · rintro e w' ⟨v, rfl, B, m, d, rfl, h⟩; exact ⟨_, _, _, rfl, h⟩
theorem pow_le {b : Nat} (h : b ≤ 16) : (2 : Int) ^ b ≤ 65536 := by
  have : (2 : Nat) ^ b ≤ 2 ^ 16 := Nat.pow_le_pow_right (by omega) h
  have h2 : ((2 ^ b : Nat) : Int) ≤ ((2 ^ 16 : Nat) : Int) := by omega
  simpa using h2
theorem shapedR {w : World} {v : GV} {g : Gd} (h : InG w v g) (hb : (gA g).length ≤ 16) (n m : Nat) (hn : n ≤ 100000) (hm : m ≤ 100000) :
    Calls Tryd.prog 34 #[v.v, .int .i64 (n : Int), .int .i64 (m : Int)] w fun e w' => e = .returned (.bool (shapedB (gM g) n m (gA g).length)) ∧ Fr [] w w' := by
  refine Calls.mono (f34.calls (R := fun v w' => v = .bool (shapedB (gM g) n m (gA g).length) ∧ Fr [] w w') ?_) ?_
  · dsimp only [f34.VC]
    have hS := (St.start w).alloc v.cells 32
    have h1 := h.fr hS.frame
    generalize hbb : w.heap.size = b at *
    generalize World.alloc w (.cells v.cells 32) = w1 at *
    refine ⟨_, _, _, (hS.blk 0 rfl).cell rfl, sel_of (fun hd => ?_) (fun hd => ?_)⟩
    · have hd : (v.m.2.1 : Int) ≠ (n : Int) := bne_iff_ne.1 hd
      have := h.m.1.1
      refine ⟨?_, hS.frame⟩
      unfold shapedB
      rw [decide_eq_false (by omega), Bool.false_and]
    · have hd : (v.m.2.1 : Int) = (n : Int) := bne_eq_false_iff_eq.1 hd
      have hml := h.m.1.1
      have hal := h.a.1.1
      have e0 : shapedB (gM g) n m (gA g).length = (gM g).all fun r => decide (r.length = m) && r.all fun x => decide (x < 2 ^ (gA g).length) := by
        unfold shapedB
        rw [decide_eq_true (by omega), Bool.true_and]
      rw [e0]
      refine ⟨fun x y w' r => w' = w1 ∧ ∃ i : Nat, y = (i : Int) ∧ x = 2 ^ i ∧ i + r = (gA g).length, ⟨(gA g).length, rfl, 0, rfl, by simp, by omega⟩, ?_⟩
      rintro d x y w2 r ⟨rfl, i, rfl, rfl, hir⟩
      refine ⟨_, _, _, (hS.blk 0 rfl).cell rfl, sel_of (fun hd => ?_) (fun hd => ?_)⟩
      · have hi : i < (gA g).length := by have := of_decide_eq_true hd; omega
        have hp := pow_le (b := i) (by omega)
        have hp2 : (0 : Int) ≤ 2 ^ i := Int.le_of_lt (Int.pow_pos (by omega))
        rw [inc i 16 (by omega) (by omega), i64_id (by omega) (by omega)]
        exact ⟨rfl, r - 1, by omega, rfl, i + 1, rfl, by rw [Int.pow_succ]; omega, by omega⟩
      · have hi : i = (gA g).length := by have := of_decide_eq_false hd; omega
        subst hi
        generalize (2 : Int) ^ (gA g).length = P at *
        refine ⟨fun x w' r => w' = w2 ∧ ∃ i : Nat, x = (i : Int) ∧ i + r = n ∧ ((gM g).drop i).all (fun r => decide (r.length = m) && r.all fun x => decide (x < P)) = (gM g).all (fun r => decide (r.length = m) && r.all fun x => decide (x < P)), ⟨n, rfl, 0, rfl, by omega, by simp⟩, ?_⟩
        rintro d x w3 r ⟨rfl, i, rfl, hir, hgo⟩
        refine sel_of (fun hd => ?_) (fun hd => ?_)
        · have hi : i < n := by have := of_decide_eq_true hd; omega
          rw [drop_cons [] (gM g) i (by omega), List.all_cons] at hgo
          refine ⟨_, _, _, (hS.blk 0 rfl).cell rfl, by omega, by omega, InM.need h1.m.1 rfl (by omega) fun B k c hU => sel_of (fun h2 => ?_) (fun h2 => ?_)⟩
          · have h2 : (k : Int) ≠ (m : Int) := bne_iff_ne.1 h2
            have := hU.1
            rw [decide_eq_false (by omega), Bool.false_and, Bool.false_and] at hgo
            rw [← hgo]; exact ⟨rfl, hS.frame⟩
          · have h2 : (k : Int) = (m : Int) := bne_eq_false_iff_eq.1 h2
            have hk := hU.1
            rw [decide_eq_true (by omega), Bool.true_and] at hgo
            refine ⟨fun x w' q => w' = w3 ∧ ∃ j : Nat, x = (j : Int) ∧ j + q = m ∧ (((gM g).getD i []).drop j).all (fun x => decide (x < P)) = ((gM g).getD i []).all (fun x => decide (x < P)), ⟨m, rfl, 0, rfl, by omega, by simp⟩, ?_⟩
            rintro d x w4 q ⟨rfl, j, rfl, hjq, hgo2⟩
            refine sel_of (fun hd => ?_) (fun hd => ?_)
            · have hj : j < m := by have := of_decide_eq_true hd; omega
              rw [drop_cons 0 ((gM g).getD i []) j (by omega), List.all_cons] at hgo2
              refine ⟨_, _, _, (hS.blk 0 rfl).cell rfl, by omega, by omega, InM.need h1.m.1 rfl (by omega) fun B k c hU => ⟨by omega, by have := hU.1; omega, hU.need rfl (by have := hU.1; omega) ?_⟩⟩
              have hu : 0 ≤ ((gM g).getD i []).getD j 0 ∧ ((gM g).getD i []).getD j 0 < 65536 := by
                refine h.u ((gM g).getD i []) ?_ _ ?_
                · exact (mem_getD [] _ _).2 ⟨i, by omega, rfl⟩
                · exact (mem_getD 0 _ _).2 ⟨j, by omega, rfl⟩
              rw [i64_id (x := ((gM g).getD i []).getD j 0) (by omega) (by omega)]
              refine sel_of (fun h3 => ?_) (fun h3 => ?_)
              · have h3 := of_decide_eq_true h3
                rw [decide_eq_false (by omega), Bool.false_and] at hgo2
                rw [← hgo2, Bool.false_and] at hgo
                rw [← hgo]; exact ⟨rfl, hS.frame⟩
              · have h3 := of_decide_eq_false h3
                rw [decide_eq_true (by omega), Bool.true_and] at hgo2
                rw [inc j 100000 (by omega) (by omega)]
                exact ⟨rfl, q - 1, by omega, rfl, j + 1, rfl, by omega, hgo2⟩
            · have hj : j = m := by have := of_decide_eq_false hd; omega
              rw [List.drop_of_length_le (by omega), List.all_nil] at hgo2
              rw [← hgo2, Bool.true_and] at hgo
              rw [inc i 100000 (by omega) (by omega)]
              exact ⟨rfl, r - 1, by omega, rfl, i + 1, rfl, by omega, hgo⟩
        · have hi : i = n := by have := of_decide_eq_false hd; omega
          rw [List.drop_of_length_le (by omega), List.all_nil] at hgo
          rw [← hgo]; exact ⟨rfl, hS.frame⟩
  · rintro e w' ⟨v, rfl, rfl, h⟩; exact ⟨rfl, h⟩
end PG
end Go.Proofs.YtjmlfknogjaemaaDoor
/- Page: which graphs the document calls valid. -/
set_option linter.unusedVariables false
set_option linter.unusedSimpArgs false
set_option maxRecDepth 10000
namespace Go.Proofs.YtjmlfknogjaemaaDoor
open Go Go.Proofs.YtjmlfknogjaemaaDoor.Vc
namespace PG
open Vc.PG NI
theorem valid_lens {g : Gd} (h : ¬ ((gA g).length ≤ 16 ∧ (gS g).length ≤ 64 ∧ (gO g).length ≤ 64 ∧ (gF g).length = (gS g).length ∧ (gN g).length = (gO g).length)) : validP g = false := by
  unfold validP; rw [decide_eq_false h]; rfl
theorem valid_twice {g : Gd} (h : ¬ ((gA g).Nodup ∧ (gS g).Nodup ∧ (gO g).Nodup)) : validP g = false := by
  unfold validP; rw [decide_eq_false h, Bool.and_false]; rfl
theorem valid_none {g : Gd} (h : great (gF g) 0 = none ∨ great (gN g) 0 = none) : validP g = false := by
  unfold validP
  rcases h with h | h
  · rw [h, Bool.and_false]
  · rw [h]; cases great (gF g) 0 <;> exact Bool.and_false _
theorem valid_eq {g : Gd} {n m : Nat} (h1 : (gA g).length ≤ 16 ∧ (gS g).length ≤ 64 ∧ (gO g).length ≤ 64 ∧ (gF g).length = (gS g).length ∧ (gN g).length = (gO g).length) (h2 : (gA g).Nodup ∧ (gS g).Nodup ∧ (gO g).Nodup) (h3 : great (gF g) 0 = some n) (h4 : great (gN g) 0 = some m) :
    validP g = (shapedB (gM g) n m (gA g).length && decide ((gM g).Nodup) && decide (((List.range m).map (col (gM g))).Nodup)) := by
  unfold validP; rw [decide_eq_true h1, decide_eq_true h2, h3, h4]; rfl
theorem shaped_len {M : List (List Int)} {n m b : Nat} (h : shapedB M n m b = true) : M.length = n ∧ ∀ r ∈ M, r.length = m := by
  unfold shapedB at h
  rw [Bool.and_eq_true, decide_eq_true_iff, List.all_eq_true] at h
  refine ⟨h.1, fun r hr => ?_⟩
  have := h.2 r hr
  rw [Bool.and_eq_true, decide_eq_true_iff] at this
  exact this.1
theorem cols_getD (M : List (List Int)) (m : Nat) {i : Nat} (hi : i < m) : ((List.range m).map (col M)).getD i [] = col M i := by
  simp [List.getD_eq_getElem?_getD, hi]
theorem validR {w : World} {v : GV} {g : Gd} (h : InG w v g) (hbig : v.a.2.1 ≤ 1100000 ∧ v.s.2.1 ≤ 1100000 ∧ v.o.2.1 ≤ 1100000) :
    Calls Tryd.prog 12 #[v.v] w fun e w' => e = .returned (.bool (validP g)) ∧ Fr [] w w' := by
  refine Calls.mono (f12.calls (R := fun v w' => v = .bool (validP g) ∧ Fr [] w w') ?_) ?_
  · dsimp only [f12.VC]
    have hS := (St.start w).alloc v.cells 32
    have hg := h.fr hS.frame
    generalize hbb : w.heap.size = b at *
    generalize World.alloc w (.cells v.cells 32) = w1 at *
    have la := h.a.1.1
    have ls := h.s.1.1
    have lo := h.o.1.1
    have lf := h.f.1.1
    have ln := h.n.1.1
    have lm := h.m.1.1
    refine ⟨_, _, _, (hS.blk 0 rfl).cell rfl, sel_of (fun h1 => ⟨?_, hS.frame⟩) (fun h1 => ⟨_, _, _, (hS.blk 0 rfl).cell rfl, sel_of (fun h2 => ⟨?_, hS.frame⟩) (fun h2 => ⟨_, _, _, (hS.blk 0 rfl).cell rfl, sel_of (fun h3 => ⟨?_, hS.frame⟩) (fun h3 => ⟨_, _, _, (hS.blk 0 rfl).cell rfl, _, _, _, (hS.blk 0 rfl).cell rfl, sel_of (fun h4 => ⟨?_, hS.frame⟩) (fun h4 => ⟨_, _, _, (hS.blk 0 rfl).cell rfl, _, _, _, (hS.blk 0 rfl).cell rfl, sel_of (fun h5 => ⟨?_, hS.frame⟩) (fun h5 => ?_)⟩)⟩)⟩)⟩)⟩
    · have h1 := of_decide_eq_true h1
      rw [valid_lens (by omega)]
    · have h2 := of_decide_eq_true h2
      rw [valid_lens (by omega)]
    · have h3 := of_decide_eq_true h3
      rw [valid_lens (by omega)]
    · have h4 : (v.f.2.1 : Int) ≠ (v.s.2.1 : Int) := bne_iff_ne.1 h4
      rw [valid_lens (by omega)]
    · have h5 : (v.n.2.1 : Int) ≠ (v.o.2.1 : Int) := bne_iff_ne.1 h5
      rw [valid_lens (by omega)]
    have h1 := of_decide_eq_false h1
    have h2 := of_decide_eq_false h2
    have h3 := of_decide_eq_false h3
    have h4 : (v.f.2.1 : Int) = (v.s.2.1 : Int) := bne_eq_false_iff_eq.1 h4
    have h5 : (v.n.2.1 : Int) = (v.o.2.1 : Int) := bne_eq_false_iff_eq.1 h5
    have hlens : (gA g).length ≤ 16 ∧ (gS g).length ≤ 64 ∧ (gO g).length ≤ 64 ∧ (gF g).length = (gS g).length ∧ (gN g).length = (gO g).length := by omega
    refine ⟨_, _, _, (hS.blk 0 rfl).cell rfl, ?_⟩
    refine Calls.mono (hS.step0 (twiceR hg.a.1 (by omega))) ?_
    rintro _ w2 ⟨rfl, hS⟩
    refine ⟨_, rfl, _, _, _, (hS.blk 0 rfl).cell rfl, ?_⟩
    refine Calls.mono (hS.step0 (twiceR (h.fr hS.frame).s.1 (by omega))) ?_
    rintro _ w3 ⟨rfl, hS⟩
    refine ⟨_, rfl, _, _, _, (hS.blk 0 rfl).cell rfl, ?_⟩
    refine Calls.mono (hS.step0 (twiceR (h.fr hS.frame).o.1 (by omega))) ?_
    rintro _ w4 ⟨rfl, hS⟩
    refine ⟨_, rfl, _, _, _, (hS.blk 0 rfl).cell rfl, ?_⟩
    refine Calls.mono (greatR (h.fr hS.frame).f.1 (by omega)) ?_
    rintro _ w5 ⟨rfl, e5⟩
    rw [e5]
    refine ⟨_, _, rfl, _, _, _, (hS.blk 0 rfl).cell rfl, ?_⟩
    refine Calls.mono (greatR (h.fr hS.frame).n.1 (by omega)) ?_
    rintro _ w6 ⟨rfl, e6⟩
    rw [e6]
    clear e5 e6 w5 w6
    refine ⟨_, _, rfl, sel_of (fun t1 => ⟨?_, hS.frame⟩) (fun t1 => sel_of (fun t2 => ⟨?_, hS.frame⟩) (fun t2 => sel_of (fun t3 => ⟨?_, hS.frame⟩) (fun t3 => sel_of (fun t4 => ⟨?_, hS.frame⟩) (fun t4 => sel_of (fun t5 => ⟨?_, hS.frame⟩) (fun t5 => ?_)))))⟩
    · have t1 := of_decide_eq_true t1
      rw [valid_twice (fun hh => t1 hh.1)]
    · have t2 := of_decide_eq_true t2
      rw [valid_twice (fun hh => t2 hh.2.1)]
    · have t3 := of_decide_eq_true t3
      rw [valid_twice (fun hh => t3 hh.2.2)]
    · rw [valid_none (.inl (by simpa using t4))]
    · rw [valid_none (.inr (by simpa using t5))]
    have t1 : (gA g).Nodup := by simpa using of_decide_eq_false t1
    have t2 : (gS g).Nodup := by simpa using of_decide_eq_false t2
    have t3 : (gO g).Nodup := by simpa using of_decide_eq_false t3
    obtain ⟨n, hn⟩ : ∃ n, great (gF g) 0 = some n := Option.isSome_iff_exists.1 (by simpa using t4)
    obtain ⟨m, hm⟩ : ∃ m, great (gN g) 0 = some m := Option.isSome_iff_exists.1 (by simpa using t5)
    have hnl := great_le _ _ _ hn
    have hml := great_le _ _ _ hm
    rw [valid_eq hlens ⟨t1, t2, t3⟩ hn hm, hn, hm]
    clear t4 t5
    dsimp only [Option.getD_some]
    refine ⟨_, _, _, (hS.blk 0 rfl).cell rfl, _, _, _, (hS.blk 0 rfl).cell rfl, _, _, _, (hS.blk 0 rfl).cell rfl, _, _, _, (hS.blk 0 rfl).cell rfl, _, _, _, (hS.blk 0 rfl).cell rfl, _, _, _, (hS.blk 0 rfl).cell rfl, ?_⟩
    refine Calls.mono (hS.step0 (shapedR (h.fr hS.frame) (by omega) n m (by omega) (by omega))) ?_
    rintro _ w7 ⟨rfl, hS⟩
    refine ⟨_, rfl, sel_of (fun t6 => ⟨?_, hS.frame⟩) (fun t6 => ?_)⟩
    · have t6 : shapedB (gM g) n m (gA g).length = false := by simpa using t6
      rw [t6]; rfl
    have t6 : shapedB (gM g) n m (gA g).length = true := by simpa using t6
    obtain ⟨q1, q2⟩ := shaped_len t6
    rw [t6, Bool.true_and]
    refine ⟨fun x w' r => ∃ i : Nat, x = (i : Int) ∧ i + r = n ∧ St [] w w' [Chunk.blk b v.cells 32] ∧ ∀ a c, a < c → c < i → (gM g).getD a [] ≠ (gM g).getD c [], ⟨n, 0, rfl, by omega, hS, fun a c _ hc => by omega⟩, ?_⟩
    rintro d x w8 r ⟨i, rfl, hir, hS, hno⟩
    refine sel_of (fun hd => ?_) (fun hd => ?_)
    · have hi : i < n := by have := of_decide_eq_true hd; omega
      refine ⟨fun x w' q => ∃ j : Nat, x = (j : Int) ∧ j + q = i ∧ St [] w w' [Chunk.blk b v.cells 32] ∧ ∀ a, a < j → (gM g).getD a [] ≠ (gM g).getD i [], ⟨i, 0, rfl, by omega, hS, fun a ha => by omega⟩, ?_⟩
      rintro d x w9 q ⟨j, rfl, hjq, hS, hno2⟩
      refine sel_of (fun hd => ?_) (fun hd => ?_)
      · have hj : j < i := by have := of_decide_eq_true hd; omega
        refine ⟨_, _, _, (hS.blk 0 rfl).cell rfl, by omega, by omega, InM.need (h.fr hS.frame).m.1 rfl (by omega) fun B k c hU => ⟨_, _, _, (hS.blk 0 rfl).cell rfl, by omega, by omega, InM.need (h.fr hS.frame).m.1 rfl (by omega) fun B' k' c' hU' => ?_⟩⟩
        have hk : k ≤ 1000000 := by
          have := hU.1
          have := q2 _ ((mem_getD [] _ _).2 ⟨i, by omega, rfl⟩)
          omega
        refine Calls.mono (hS.drew.step0 (equalR (hU.fr (Fr.refl [] w9).drew) (hU'.fr (Fr.refl [] w9).drew) (by omega))) ?_
        rintro _ w10 ⟨rfl, hS⟩
        refine ⟨_, rfl, sel_of (fun hs => ⟨?_, hS.frame⟩) (fun hs => ?_)⟩
        · have hs := of_decide_eq_true hs
          rw [decide_eq_false (fun hnd => (nodup_getD [] (gM g)).1 hnd j i hj (by omega) hs.symm), Bool.false_and]
        · have hs := of_decide_eq_false hs
          rw [inc j 100000 (by omega) (by omega)]
          refine ⟨rfl, q - 1, by omega, j + 1, rfl, by omega, hS, fun a ha => ?_⟩
          rcases Nat.lt_or_ge a j with h1 | h1
          · exact hno2 a h1
          · have : a = j := by omega
            subst this; exact fun he => hs he.symm
      · have hj : j = i := by have := of_decide_eq_false hd; omega
        rw [inc i 100000 (by omega) (by omega)]
        refine ⟨rfl, r - 1, by omega, i + 1, rfl, by omega, hS, fun a c hac hc => ?_⟩
        rcases Nat.lt_or_ge c i with h1 | h1
        · exact hno a c hac h1
        · have : c = i := by omega
          subst this; exact hno2 a (by omega)
    · have hi : i = n := by have := of_decide_eq_false hd; omega
      rw [decide_eq_true ((nodup_getD [] (gM g)).2 fun a c hac hc => hno a c hac (by omega)), Bool.true_and]
      clear hno hir hi hd
      refine ⟨fun x w' r => ∃ i : Nat, x = (i : Int) ∧ i + r = m ∧ St [] w w' [Chunk.blk b v.cells 32] ∧ ∀ a c, a < c → c < i → col (gM g) a ≠ col (gM g) c, ⟨m, 0, rfl, by omega, hS, fun a c _ hc => by omega⟩, ?_⟩
      rintro d x w8 r ⟨i, rfl, hir, hS, hno⟩
      refine sel_of (fun hd => ?_) (fun hd => ?_)
      · have hi : i < m := by have := of_decide_eq_true hd; omega
        refine ⟨fun x w' q => ∃ j : Nat, x = (j : Int) ∧ j + q = i ∧ St [] w w' [Chunk.blk b v.cells 32] ∧ ∀ a, a < j → col (gM g) a ≠ col (gM g) i, ⟨i, 0, rfl, by omega, hS, fun a ha => by omega⟩, ?_⟩
        rintro d x w9 q ⟨j, rfl, hjq, hS, hno2⟩
        refine sel_of (fun hd => ?_) (fun hd => ?_)
        · have hj : j < i := by have := of_decide_eq_true hd; omega
          have hcl : (col (gM g) i).length ≤ 1000000 := by unfold col; rw [List.length_map]; omega
          have fin : ∀ w10, St [] w w10 [Chunk.blk b v.cells 32] → ∀ bb, bb = decide (col (gM g) i = col (gM g) j) → sel bb (Value.bool false = .bool (decide (((List.range m).map (col (gM g))).Nodup)) ∧ Fr [] w w10) (([.pointer (some ⟨b, 0, none⟩), .int .i64 (m : Int), .int .i64 (i : Int)] : List Value) = ([.pointer (some ⟨b, 0, none⟩), .int .i64 (m : Int), .int .i64 (i : Int)] : List Value) ∧ ∃ q', q' < q ∧ ∃ j' : Nat, IntKind.i64.wrap ((j : Int) + 1) = (j' : Int) ∧ j' + q' = i ∧ St [] w w10 [Chunk.blk b v.cells 32] ∧ ∀ a, a < j' → col (gM g) a ≠ col (gM g) i) := by
            rintro w10 hS bb rfl
            refine sel_of (fun hs => ⟨?_, hS.frame⟩) (fun hs => ?_)
            · have hs := of_decide_eq_true hs
              rw [decide_eq_false fun hnd => ?_]
              have := (nodup_getD [] _).1 hnd j i hj (by simp; omega)
              rw [cols_getD _ _ (by omega), cols_getD _ _ (by omega)] at this
              exact this hs.symm
            · have hs := of_decide_eq_false hs
              rw [inc j 100000 (by omega) (by omega)]
              refine ⟨rfl, q - 1, by omega, j + 1, rfl, by omega, hS, fun a ha => ?_⟩
              rcases Nat.lt_or_ge a j with h1 | h1
              · exact hno2 a h1
              · have : a = j := by omega
                subst this; exact fun he => hs he.symm
          have two : Calls Tryd.prog 36 #[v.m.v, .int .i64 (i : Int)] w9.drew fun e w13 => ∃ B1 n1 c1, e = .returned (.slice B1 n1 c1) ∧ St [] w w13 [slU (.slice B1 n1 c1) (col (gM g) i), Chunk.blk b v.cells 32] := by
            refine Calls.mono (columnR (h.fr hS.drew.frame).m.1 (by omega) (y := i) (fun r hr => by rw [q2 r hr]; omega)) ?_
            rintro _ w13 ⟨B1, n1, c1, rfl, hC⟩
            exact ⟨_, _, _, rfl, hS.drew.gone hC⟩
          have three : ∀ w13 B1 n1 c1, St [] w w13 [slU (.slice B1 n1 c1) (col (gM g) i), Chunk.blk b v.cells 32] → Calls Tryd.prog 36 #[v.m.v, .int .i64 (j : Int)] w13 fun e w14 => ∃ B2 n2 c2, e = .returned (.slice B2 n2 c2) ∧ Calls Tryd.prog 35 #[.slice B1 n1 c1, .slice B2 n2 c2] w14 fun e w15 => ∃ bb, e = .returned (.bool bb) ∧ bb = decide (col (gM g) i = col (gM g) j) ∧ St [] w w15 [Chunk.blk b v.cells 32] := by
            intro w13 B1 n1 c1 hS
            refine Calls.mono (columnR (h.fr hS.frame).m.1 (by omega) (y := j) (fun r hr => by rw [q2 r hr]; omega)) ?_
            rintro _ w14 ⟨B2, n2, c2, rfl, hC⟩
            have hS := hS.gone hC
            refine ⟨_, _, _, rfl, ?_⟩
            refine Calls.mono (hS.step0 (equalR (St.inU hS 1 rfl) (St.inU hS 0 rfl) (by have := (St.inU hS 1 rfl).1; omega))) ?_
            rintro _ w15 ⟨rfl, hS⟩
            exact ⟨_, rfl, rfl, hS.tail.tail⟩
          refine ⟨_, _, _, (hS.blk 0 rfl).cell rfl, ?_, ?_, trivial⟩
          · refine Calls.mono two ?_
            rintro _ w13 ⟨B1, n1, c1, rfl, hS⟩
            refine ⟨_, _, _, rfl, _, _, _, (hS.blk 1 rfl).cell rfl, ?_⟩
            refine Calls.mono (three _ _ _ _ hS) ?_
            rintro _ w14 ⟨B2, n2, c2, rfl, h56⟩
            refine ⟨_, _, _, rfl, Calls.mono h56 ?_⟩
            rintro _ w15 ⟨bb, rfl, hbb, hS⟩
            exact ⟨_, rfl, fin _ hS _ hbb⟩
          · refine ⟨_, _, _, (hS.blk 0 rfl).cell rfl, ?_⟩
            refine Calls.mono two ?_
            rintro _ w13 ⟨B1, n1, c1, rfl, hS⟩
            refine ⟨_, _, _, rfl, ?_⟩
            refine Calls.mono (three _ _ _ _ hS) ?_
            rintro _ w14 ⟨B2, n2, c2, rfl, h56⟩
            refine ⟨_, _, _, rfl, Calls.mono h56 ?_⟩
            rintro _ w15 ⟨bb, rfl, hbb, hS⟩
            exact ⟨_, rfl, fin _ hS _ hbb⟩
        · have hj : j = i := by have := of_decide_eq_false hd; omega
          rw [inc i 100000 (by omega) (by omega)]
          refine ⟨rfl, r - 1, by omega, i + 1, rfl, by omega, hS, fun a c hac hc => ?_⟩
          rcases Nat.lt_or_ge c i with h1 | h1
          · exact hno a c hac h1
          · have : c = i := by omega
            subst this; exact hno2 a (by omega)
      · have hi : i = m := by have := of_decide_eq_false hd; omega
        refine ⟨?_, hS.frame⟩
        rw [decide_eq_true ((nodup_getD [] _).2 fun a c hac hc => ?_)]
        simp only [List.length_map, List.length_range] at hc
        rw [cols_getD _ _ (by omega), cols_getD _ _ (by omega)]
        exact hno a c hac (by omega)
  · rintro e w' ⟨v, rfl, rfl, h⟩; exact ⟨rfl, h⟩
end PG
end Go.Proofs.YtjmlfknogjaemaaDoor
