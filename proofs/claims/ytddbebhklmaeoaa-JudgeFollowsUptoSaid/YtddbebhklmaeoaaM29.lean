/- The plain statements of some functions, printed by vcgen.py. -/
import Derived.Test.YtddbebhklmaeoaaM5
import Derived.Test.YtddbebhklmaeoaaProg
import Derived.KernelRfl
import Derived.Test.YtddbebhklmaeoaaM26
import Derived.Test.YtddbebhklmaeoaaM28
set_option maxRecDepth 100000
set_option maxHeartbeats 4000000
set_option linter.unusedVariables false
namespace Go.Proofs.Ytddbebhklmaeoaa
open Go Go.Proofs.Ytddbebhklmaeoaa.Vc
theorem W8.mixed : Try.prog.follows .mixedOrders = true := by kernel_rfl
/-- gatehouse/gatehouselaw27.JudgeFollows -/
def f4.AL : Nat → Option Ann := fun r => match r with | 3 => some ⟨[(7, .bool), (8, .int .i64)], [1, 2, 3]⟩ | _ => none
def f4.AC : Nat → Option Ann := fun _ => none
def f4.VC (Aa0_0 : Option Addr) (na0_0 ca0_0 : Nat) (Aa0_1 : Option Addr) (na0_1 ca0_1 : Nat) (Aa0_2 : Option Addr) (na0_2 ca0_2 : Nat) (Aa0_3 : Option Addr) (na0_3 ca0_3 : Nat) (Aa0_4 : Option Addr) (na0_4 ca0_4 : Nat) (Aa0_5 : Option Addr) (na0_5 ca0_5 : Nat) (Aa0_6 : Option Addr) (na0_6 ca0_6 : Nat) (Aa0_7 : Option Addr) (na0_7 ca0_7 : Nat) (Aa0_8 : Option Addr) (na0_8 ca0_8 : Nat) (Aa0_9 : Option Addr) (na0_9 ca0_9 : Nat) (Aa0_10 : Option Addr) (na0_10 ca0_10 : Nat) (Aa1 : Option Addr) (na1 ca1 : Nat) (Aa2 : Option Addr) (na2 ca2 : Nat) (w : World) (R : Value → World → Prop) : Prop :=
  let b0 := World.alloc w (.cells #[.slice Aa0_0 na0_0 ca0_0, .slice Aa0_1 na0_1 ca0_1, .slice Aa0_2 na0_2 ca0_2, .slice Aa0_3 na0_3 ca0_3, .slice Aa0_4 na0_4 ca0_4, .slice Aa0_5 na0_5 ca0_5, .slice Aa0_6 na0_6 ca0_6, .slice Aa0_7 na0_7 ca0_7, .slice Aa0_8 na0_8 ca0_8, .slice Aa0_9 na0_9 ca0_9, .slice Aa0_10 na0_10 ca0_10] 28);
  Calls Try.prog 7 #[] b0 fun d0 g0 =>
  ∃ h0,
  d0 = .returned (.bool h0) ∧
  ∃ i0 : Bool → Int → World → Nat → Prop,
  (∃ n, i0 h0 0 g0 n) ∧
  ∀ j0 : Env, ∀ k0 p0 q0 t0, i0 k0 p0 q0 t0 →
  sel (decide ((p0 : Int) < ((na2 : Int) : Int))) (
  sel k0 (
  (0 : Int) ≤ p0 ∧ p0 < (na2 : Int) ∧
  needPtr Aa2 fun u0 v0 =>
  ∃ x0 y0 z0,
  q0.cell? ⟨u0, v0 + p0.toNat * 1, none⟩ = some (.slice x0 y0 z0) ∧
  Calls Try.prog 15 #[.slice x0 y0 z0] q0 fun b1 d1 =>
  ∃ g1 h1 i1,
  b1 = .returned (.slice g1 h1 i1) ∧
  ∃ j1 k1 p1,
  d1.cell? ⟨w.heap.size, 0, none⟩ = some (.slice j1 k1 p1) ∧
  ∃ q1 t1 u1,
  d1.cell? ⟨w.heap.size, 1, none⟩ = some (.slice q1 t1 u1) ∧
  ∃ v1 x1 y1,
  d1.cell? ⟨w.heap.size, 2, none⟩ = some (.slice v1 x1 y1) ∧
  ∃ z1 b2 d2,
  d1.cell? ⟨w.heap.size, 3, none⟩ = some (.slice z1 b2 d2) ∧
  ∃ g2 h2 i2,
  d1.cell? ⟨w.heap.size, 4, none⟩ = some (.slice g2 h2 i2) ∧
  ∃ j2 k2 p2,
  d1.cell? ⟨w.heap.size, 5, none⟩ = some (.slice j2 k2 p2) ∧
  ∃ q2 t2 u2,
  d1.cell? ⟨w.heap.size, 6, none⟩ = some (.slice q2 t2 u2) ∧
  ∃ v2 x2 y2,
  d1.cell? ⟨w.heap.size, 7, none⟩ = some (.slice v2 x2 y2) ∧
  ∃ z2 b3 d3,
  d1.cell? ⟨w.heap.size, 8, none⟩ = some (.slice z2 b3 d3) ∧
  ∃ g3 h3 i3,
  d1.cell? ⟨w.heap.size, 9, none⟩ = some (.slice g3 h3 i3) ∧
  ∃ j3 k3 p3,
  d1.cell? ⟨w.heap.size, 10, none⟩ = some (.slice j3 k3 p3) ∧
  Calls Try.prog 10 #[.agg #[.slice j1 k1 p1, .slice q1 t1 u1, .slice v1 x1 y1, .slice z1 b2 d2, .slice g2 h2 i2, .slice j2 k2 p2, .slice q2 t2 u2, .slice v2 x2 y2, .slice z2 b3 d3, .slice g3 h3 i3, .slice j3 k3 p3]] d1 fun q3 t3 =>
  ∃ u3 v3 x3 y3 z3 b4 d4 g4 h4 i4 j4 k4 p4 q4 t4 u4 v4 x4 y4 z4 b5 d5 g5 h5 i5 j5 k5 p5 q5 t5 u5 v5 x5,
  q3 = .returned (.agg #[.slice u3 v3 x3, .slice y3 z3 b4, .slice d4 g4 h4, .slice i4 j4 k4, .slice p4 q4 t4, .slice u4 v4 x4, .slice y4 z4 b5, .slice d5 g5 h5, .slice i5 j5 k5, .slice p5 q5 t5, .slice u5 v5 x5]) ∧
  Calls Try.prog 9 #[.slice Aa1 na1 ca1] t3 fun y5 z5 =>
  ∃ b6 d6 g6,
  y5 = .returned (.slice b6 d6 g6) ∧
  Calls Try.prog 16 #[.agg #[.slice u3 v3 x3, .slice y3 z3 b4, .slice d4 g4 h4, .slice i4 j4 k4, .slice p4 q4 t4, .slice u4 v4 x4, .slice y4 z4 b5, .slice d5 g5 h5, .slice i5 j5 k5, .slice p5 q5 t5, .slice u5 v5 x5], .slice b6 d6 g6, .slice g1 h1 i1] z5 fun h6 i6 =>
  ∃ j6,
  h6 = .returned (.bool j6) ∧
  (0 : Int) ≤ p0 ∧ p0 < (na2 : Int) ∧
  needPtr Aa2 fun k6 p6 =>
  ∃ q6 t6 u6,
  i6.cell? ⟨w.heap.size, 0, none⟩ = some (.slice q6 t6 u6) ∧
  ∃ v6 x6 y6,
  i6.cell? ⟨w.heap.size, 1, none⟩ = some (.slice v6 x6 y6) ∧
  ∃ z6 b7 d7,
  i6.cell? ⟨w.heap.size, 2, none⟩ = some (.slice z6 b7 d7) ∧
  ∃ g7 h7 i7,
  i6.cell? ⟨w.heap.size, 3, none⟩ = some (.slice g7 h7 i7) ∧
  ∃ j7 k7 p7,
  i6.cell? ⟨w.heap.size, 4, none⟩ = some (.slice j7 k7 p7) ∧
  ∃ q7 t7 u7,
  i6.cell? ⟨w.heap.size, 5, none⟩ = some (.slice q7 t7 u7) ∧
  ∃ v7 x7 y7,
  i6.cell? ⟨w.heap.size, 6, none⟩ = some (.slice v7 x7 y7) ∧
  ∃ z7 b8 d8,
  i6.cell? ⟨w.heap.size, 7, none⟩ = some (.slice z7 b8 d8) ∧
  ∃ g8 h8 i8,
  i6.cell? ⟨w.heap.size, 8, none⟩ = some (.slice g8 h8 i8) ∧
  ∃ j8 k8 p8,
  i6.cell? ⟨w.heap.size, 9, none⟩ = some (.slice j8 k8 p8) ∧
  ∃ q8 t8 u8,
  i6.cell? ⟨w.heap.size, 10, none⟩ = some (.slice q8 t8 u8) ∧
  ∃ v8 x8 y8,
  i6.cell? ⟨k6, p6 + p0.toNat * 1, none⟩ = some (.slice v8 x8 y8) ∧
  Calls Try.prog 17 #[.agg #[.slice q6 t6 u6, .slice v6 x6 y6, .slice z6 b7 d7, .slice g7 h7 i7, .slice j7 k7 p7, .slice q7 t7 u7, .slice v7 x7 y7, .slice z7 b8 d8, .slice g8 h8 i8, .slice j8 k8 p8, .slice q8 t8 u8], .slice Aa1 na1 ca1, .slice v8 x8 y8] i6.drew fun z8 b9 =>
  ∃ d9,
  z8 = .returned (.bool d9) ∧
  sel (j6 == d9) (
  (0 : Int) ≤ p0 ∧ p0 < (na2 : Int) ∧
  needPtr Aa2 fun g9 h9 =>
  ∃ i9 j9 k9,
  b9.cell? ⟨g9, h9 + p0.toNat * 1, none⟩ = some (.slice i9 j9 k9) ∧
  Calls Try.prog 12 #[.slice g1 h1 i1, .slice i9 j9 k9] b9 fun p9 q9 =>
  ∃ t9,
  p9 = .returned (.bool t9) ∧
  let u9 : Int := IntKind.i64.wrap (p0 + 1);
  ([.slice Aa1 na1 ca1, .slice Aa2 na2 ca2, .pointer (some ⟨w.heap.size, 0, none⟩)] : List Value) = ([.slice Aa1 na1 ca1, .slice Aa2 na2 ca2, .pointer (some ⟨w.heap.size, 0, none⟩)] : List Value) ∧ ∃ m, m < t0 ∧ i0 t9 u9 q9 m) (
  let v9 : Int := IntKind.i64.wrap (p0 + 1);
  ([.slice Aa1 na1 ca1, .slice Aa2 na2 ca2, .pointer (some ⟨w.heap.size, 0, none⟩)] : List Value) = ([.slice Aa1 na1 ca1, .slice Aa2 na2 ca2, .pointer (some ⟨w.heap.size, 0, none⟩)] : List Value) ∧ ∃ m, m < t0 ∧ i0 false v9 b9 m)) (
  R (.bool k0) q0)) (
  R (.bool k0) q0)
theorem f4.eq (Aa0_0 : Option Addr) (na0_0 ca0_0 : Nat) (Aa0_1 : Option Addr) (na0_1 ca0_1 : Nat) (Aa0_2 : Option Addr) (na0_2 ca0_2 : Nat) (Aa0_3 : Option Addr) (na0_3 ca0_3 : Nat) (Aa0_4 : Option Addr) (na0_4 ca0_4 : Nat) (Aa0_5 : Option Addr) (na0_5 ca0_5 : Nat) (Aa0_6 : Option Addr) (na0_6 ca0_6 : Nat) (Aa0_7 : Option Addr) (na0_7 ca0_7 : Nat) (Aa0_8 : Option Addr) (na0_8 ca0_8 : Nat) (Aa0_9 : Option Addr) (na0_9 ca0_9 : Nat) (Aa0_10 : Option Addr) (na0_10 ca0_10 : Nat) (Aa1 : Option Addr) (na1 ca1 : Nat) (Aa2 : Option Addr) (na2 ca2 : Nat) (w : World) (R : Value → World → Prop) : f4.VC Aa0_0 na0_0 ca0_0 Aa0_1 na0_1 ca0_1 Aa0_2 na0_2 ca0_2 Aa0_3 na0_3 ca0_3 Aa0_4 na0_4 ca0_4 Aa0_5 na0_5 ca0_5 Aa0_6 na0_6 ca0_6 Aa0_7 na0_7 ca0_7 Aa0_8 na0_8 ca0_8 Aa0_9 na0_9 ca0_9 Aa0_10 na0_10 ca0_10 Aa1 na1 ca1 Aa2 na2 ca2 w R = funV Try.prog Try.f4 f4.AL f4.AC #[.agg #[.slice Aa0_0 na0_0 ca0_0, .slice Aa0_1 na0_1 ca0_1, .slice Aa0_2 na0_2 ca0_2, .slice Aa0_3 na0_3 ca0_3, .slice Aa0_4 na0_4 ca0_4, .slice Aa0_5 na0_5 ca0_5, .slice Aa0_6 na0_6 ca0_6, .slice Aa0_7 na0_7 ca0_7, .slice Aa0_8 na0_8 ca0_8, .slice Aa0_9 na0_9 ca0_9, .slice Aa0_10 na0_10 ca0_10], .slice Aa1 na1 ca1, .slice Aa2 na2 ca2] w R := by kernel_rfl
theorem f4.calls {Aa0_0 : Option Addr} {na0_0 ca0_0 : Nat} {Aa0_1 : Option Addr} {na0_1 ca0_1 : Nat} {Aa0_2 : Option Addr} {na0_2 ca0_2 : Nat} {Aa0_3 : Option Addr} {na0_3 ca0_3 : Nat} {Aa0_4 : Option Addr} {na0_4 ca0_4 : Nat} {Aa0_5 : Option Addr} {na0_5 ca0_5 : Nat} {Aa0_6 : Option Addr} {na0_6 ca0_6 : Nat} {Aa0_7 : Option Addr} {na0_7 ca0_7 : Nat} {Aa0_8 : Option Addr} {na0_8 ca0_8 : Nat} {Aa0_9 : Option Addr} {na0_9 ca0_9 : Nat} {Aa0_10 : Option Addr} {na0_10 ca0_10 : Nat} {Aa1 : Option Addr} {na1 ca1 : Nat} {Aa2 : Option Addr} {na2 ca2 : Nat} {w : World} {R : Value → World → Prop} (h : f4.VC Aa0_0 na0_0 ca0_0 Aa0_1 na0_1 ca0_1 Aa0_2 na0_2 ca0_2 Aa0_3 na0_3 ca0_3 Aa0_4 na0_4 ca0_4 Aa0_5 na0_5 ca0_5 Aa0_6 na0_6 ca0_6 Aa0_7 na0_7 ca0_7 Aa0_8 na0_8 ca0_8 Aa0_9 na0_9 ca0_9 Aa0_10 na0_10 ca0_10 Aa1 na1 ca1 Aa2 na2 ca2 w R) : Calls Try.prog 4 #[.agg #[.slice Aa0_0 na0_0 ca0_0, .slice Aa0_1 na0_1 ca0_1, .slice Aa0_2 na0_2 ca0_2, .slice Aa0_3 na0_3 ca0_3, .slice Aa0_4 na0_4 ca0_4, .slice Aa0_5 na0_5 ca0_5, .slice Aa0_6 na0_6 ca0_6, .slice Aa0_7 na0_7 ca0_7, .slice Aa0_8 na0_8 ca0_8, .slice Aa0_9 na0_9 ca0_9, .slice Aa0_10 na0_10 ca0_10], .slice Aa1 na1 ca1, .slice Aa2 na2 ca2] w fun e w' => ∃ v, e = .returned v ∧ R v w' :=
  funV_sound (fn := Try.f4) (AL := f4.AL) (AC := f4.AC) W8.mixed (by kernel_rfl) (by rw [← f4.eq Aa0_0 na0_0 ca0_0 Aa0_1 na0_1 ca0_1 Aa0_2 na0_2 ca0_2 Aa0_3 na0_3 ca0_3 Aa0_4 na0_4 ca0_4 Aa0_5 na0_5 ca0_5 Aa0_6 na0_6 ca0_6 Aa0_7 na0_7 ca0_7 Aa0_8 na0_8 ca0_8 Aa0_9 na0_9 ca0_9 Aa0_10 na0_10 ca0_10 Aa1 na1 ca1 Aa2 na2 ca2]; exact h)

end Go.Proofs.Ytddbebhklmaeoaa
/- JudgeFollows: the walk. -/
set_option linter.unusedVariables false
set_option linter.unusedSimpArgs false
set_option maxRecDepth 10000
namespace Go.Proofs.Ytddbebhklmaeoaa
open Go Go.Proofs.Ytddbebhklmaeoaa.Vc
namespace JG
open Vc.PG JD
/-- What awake comes to. -/
def Awakes : Prop := ∀ w : World, Calls Try.prog 7 #[] w fun e w' => e = .returned (.bool true) ∧ Fr [] w w'
theorem lawFollows (haw : Awakes) {w : World} {v : PV} {x y : Sl} {p : PolD} {l : List CalD} {os : List (List Int)} (hp : InP w v p) (hc0 : RdL calT w x l) (hy : RdL (.sl (.int .i64)) w y os) (sp : SmallP p) (sc : SmallC l) (hn : os.length ≤ 1100000) (ho : ∀ o ∈ os, o.length ≤ 1100000) :
    Calls Try.prog 4 #[v.v, x.v, y.v] w fun e w' => e = .returned (.bool true) ∧ Fr [] w w' := by
  refine Calls.mono (f4.calls (R := fun e w' => e = .bool true ∧ Fr [] w w') ?_) ?_
  · dsimp only [f4.VC]
    have hyl : y.2.1 = os.length := hy.1
    have hS := (St.start w).alloc v.cells 28
    generalize World.alloc w (.cells v.cells 28) = w1 at *
    generalize w.heap.size = b1 at *
    refine Calls.mono (hS.step0 (haw w1)) ?_
    rintro _ w2 ⟨rfl, hS⟩
    refine ⟨_, rfl, fun b i w' r => b = true ∧ St [] w w' [Chunk.blk b1 v.cells 28] ∧ ∃ k : Nat, i = (k : Int) ∧ k + r = y.2.1, ⟨y.2.1, rfl, hS, 0, rfl, by omega⟩, ?_⟩
    clear hS
    rintro d b i w3 r ⟨rfl, hS, k, rfl, hk⟩
    refine sel_of (fun hd => sel_true rfl ?_) (fun hd => ⟨rfl, hS.frame⟩)
    have hi : k < y.2.1 := by have := of_decide_eq_true hd; omega
    obtain ⟨b, o, hA, hc⟩ := RdL.lists hy (by omega)
    obtain ⟨s, hs, hcs⟩ := hc k hi
    have hmem : os.getD k [] ∈ os := (mem_getD [] _ _).2 ⟨k, by omega, rfl⟩
    have hol := ho _ hmem
    generalize os.getD k [] = ord at *
    refine ⟨by omega, by omega, needPtr_of hA ⟨_, _, _, hS.frame.cell hcs, Calls.mono (twinI (hs.fr hS.frame) (by omega)) ?_⟩⟩
    rintro _ w4 ⟨z, rfl, hf4⟩
    have hS4 := hS.gone hf4
    have hB := hS4.blk 1 rfl
    refine ⟨_, _, _, rfl, _, _, _, hB.cell rfl, _, _, _, hB.cell rfl, _, _, _, hB.cell rfl, _, _, _, hB.cell rfl, _, _, _, hB.cell rfl, _, _, _, hB.cell rfl, _, _, _, hB.cell rfl, _, _, _, hB.cell rfl, _, _, _, hB.cell rfl, _, _, _, hB.cell rfl, _, _, _, hB.cell rfl, Calls.mono (copyR (hp.fr hS4.frame) sp) ?_⟩
    rintro _ w5 ⟨u, rfl, hf5⟩
    have hS5 := hS4.gone hf5
    refine ⟨_, _, _, _, _, _, _, _, _, _, _, _, _, _, _, _, _, _, _, _, _, _, _, _, _, _, _, _, _, _, _, _, _, rfl, Calls.mono (twinR (hc0.fr hS5.frame) sc) ?_⟩
    rintro _ w6 ⟨zc, rows, rfl, hf6⟩
    have hS6 : St [] w w6 [Chunk.sl 39 19 zc.v rows, Chunk.keep fun w => CRows w rows l, kP u p, Chunk.ls encI 3 z.v ord, Chunk.blk b1 v.cells 28] := hS5.gone hf6
    have hu : InP w6 u p := hS6.says 2 rfl
    obtain ⟨F, hF, _⟩ := hS6.at 0 rfl
    have hzc := crows_read hF (hS6.says 1 rfl)
    obtain ⟨F2, hF2, _⟩ := hS6.at 3 rfl
    have hz := ints_read hF2 hs.fine
    refine ⟨_, _, _, rfl, Calls.mono (followsC hu hzc hz sp sc (by omega)) ?_⟩
    rintro _ w7 ⟨m, rfl, hm, hf7⟩
    have hS7 := hS6.go hf7
    have hB := hS7.blk 4 rfl
    refine ⟨_, rfl, by omega, by omega, needPtr_of hA ⟨_, _, _, hB.cell rfl, _, _, _, hB.cell rfl, _, _, _, hB.cell rfl, _, _, _, hB.cell rfl, _, _, _, hB.cell rfl, _, _, _, hB.cell rfl, _, _, _, hB.cell rfl, _, _, _, hB.cell rfl, _, _, _, hB.cell rfl, _, _, _, hB.cell rfl, _, _, _, hB.cell rfl, _, _, _, hS7.frame.cell hcs, Calls.mono (step0' hS7.drew (R := fun m => Fol p l ord m) (followsR (hp.fr hS7.drew.frame) (hc0.fr hS7.drew.frame) (hs.fr hS7.drew.frame) sp sc (by omega))) ?_⟩⟩
    rintro _ w8 ⟨m', rfl, hm', hS8⟩
    have hmm : (m == m') = true := by
      have : m = true ↔ m' = true := hm.trans hm'.symm
      cases m <;> cases m' <;> simp_all
    refine ⟨_, rfl, sel_true hmm ⟨by omega, by omega, needPtr_of hA ⟨_, _, _, hS8.frame.cell hcs, Calls.mono (hS8.step0 (intsSame (l := ord) (k := ord) ?_ (hs.fr hS8.frame) (by omega))) ?_⟩⟩⟩
    · obtain ⟨F3, hF3, _⟩ := hS8.at 3 rfl
      exact ints_read hF3 hs.fine
    · rintro _ w9 ⟨rfl, hS9⟩
      rw [inc k y.2.1 (by omega) (by omega)]
      exact ⟨_, rfl, rfl, r - 1, by omega, decide_eq_true rfl, hS9.sel [4] (by decide) _ rfl, k + 1, rfl, by omega⟩
  · rintro e w' ⟨v, rfl, rfl, h⟩; exact ⟨rfl, h⟩
end JG
end Go.Proofs.Ytddbebhklmaeoaa
/- The plain statements of some functions, printed by vcgen.py. -/
set_option maxRecDepth 100000
set_option maxHeartbeats 4000000
set_option linter.unusedVariables false
namespace Go.Proofs.Ytddbebhklmaeoaa
open Go Go.Proofs.Ytddbebhklmaeoaa.Vc
end Go.Proofs.Ytddbebhklmaeoaa
/- JudgeWrong: the walk. -/
set_option linter.unusedVariables false
set_option linter.unusedSimpArgs false
set_option maxRecDepth 10000
namespace Go.Proofs.Ytddbebhklmaeoaa
open Go Go.Proofs.Ytddbebhklmaeoaa.Vc
namespace JG
open Vc.PG JD
abbrev nilPV : PV := ⟨nilS, nilS, nilS, nilS, nilS, nilS, nilS, nilS, nilS, nilS, nilS⟩
theorem nil_pol {w : World} : InP w nilPV noP := ⟨RdL.nil _ _, RdL.nil _ _, RdL.nil _ _, RdL.nil _ _, RdL.nil _ _, RdL.nil _ _, RdL.nil _ _, RdL.nil _ _, RdL.nil _ _, RdL.nil _ _, RdL.nil _ _⟩
theorem CRows.fr {w w' : World} {rows : List (List Value)} {l : List CalD} (h : CRows w rows l) (hf : Fr [] w w') : CRows w' rows l := ⟨h.1, fun q hq => (h.2 q hq).fr hf⟩
end JG
end Go.Proofs.Ytddbebhklmaeoaa
/- What the statements begin with: the small histories, by the plain law. -/
set_option linter.unusedVariables false
set_option linter.unusedSimpArgs false
set_option maxRecDepth 10000
namespace Go.Proofs.Ytddbebhklmaeoaa
open Go Go.Proofs.Ytddbebhklmaeoaa.Vc
namespace JG
open Vc.PG JD
abbrev noT : TriD := (⟨#[]⟩, ⟨#[]⟩, ⟨#[]⟩, ())
abbrev cW : CalD := (0, 3, true, false, false, openP, noT, ())
abbrev cY : CalD := (1, 2, false, false, true, noP, entT, ())
abbrev cN : CalD := (4, 5, false, false, false, noP, entT, ())
theorem smallY : SmallC [cW, cY] := ⟨by simp, fun c hc => by
  rcases List.mem_cons.1 hc with rfl | hc
  · exact open_small
  · rw [List.mem_singleton.1 hc]; exact ⟨by decide, by decide, by decide, by decide, by decide, by decide, by decide, by decide, by decide, by decide, by decide, fun r hr => by cases hr⟩⟩
theorem smallN : SmallC [cW, cN] := ⟨by simp, fun c hc => by
  rcases List.mem_cons.1 hc with rfl | hc
  · exact open_small
  · rw [List.mem_singleton.1 hc]; exact ⟨by decide, by decide, by decide, by decide, by decide, by decide, by decide, by decide, by decide, by decide, by decide, fun r hr => by cases hr⟩⟩
theorem fitsY1 : (histOf shutP [cW, cY]).fits 0 1 = true := by
  show (allowsB geF ltF openP entT == true) = true
  rw [open_allows]; rfl
theorem fitsY2 : (histOf shutP [cW, cY]).fits (-1) 1 = false := by
  show (allowsB geF ltF shutP entT == true) = false
  rw [shut_allows]; rfl
theorem fitsN1 : (histOf shutP [cW, cN]).fits 0 1 = false := by
  show (allowsB geF ltF openP entT == false) = false
  rw [open_allows]; rfl
theorem two {k n : Nat} (hn : n = 2) (h : k < n) : k = 0 ∨ k = 1 := by omega
theorem ansY : ansP shutP [cW, cY] = some [0, 1] := by
  unfold ansP
  rw [if_pos (show fitE [cW, cY] = 0 from rfl)]
  have h1 : JL.step (histOf shutP [cW, cY]) (0, -1) 0 = some (1, 0) := rfl
  have h2 : JL.step (histOf shutP [cW, cY]) (1, 0) 1 = some (3, 0) := by
    unfold JL.step
    rw [if_neg (show ¬ (Nat.testBit 1 1 = true) by decide), if_neg (show ¬ (JL.late (histOf shutP [cW, cY]) (1, 0) 1 = true) by decide)]
    rw [if_neg (by rw [fitsY1]; simp)]
    rfl
  refine JL.path_first (k := 0) rfl (by show 0 < 2; decide) (fun i hi => absurd hi (Nat.not_lt_zero i)) h1 ?_
  refine JL.path_first (k := 1) rfl (by show 1 < 2; decide) (fun i hi z hz => ?_) h2 (JL.path_whole rfl)
  have : i = 0 := by omega
  subst this
  cases hz
theorem ansN : ansP shutP [cW, cN] = none := by
  unfold ansP
  rw [if_pos (show fitE [cW, cN] = 0 from rfl)]
  refine JL.path_none rfl fun k hk z hz => ?_
  rcases two rfl hk with rfl | rfl
  · have : z = (1, 0) := by
      have h1 : JL.step (histOf shutP [cW, cN]) (0, -1) 0 = some (1, 0) := rfl
      rw [h1] at hz; injection hz with hz; exact hz.symm
    subst this
    refine JL.path_none rfl fun k hk z hz => ?_
    rcases two rfl hk with rfl | rfl
    · cases hz
    · exfalso
      obtain ⟨_, _, h, _⟩ := JL.step_some hz
      rcases h with h | h
      · cases h
      · rw [show ((1, 0) : JL.State).2 = 0 from rfl, fitsN1] at h; cases h
  · cases hz
theorem folY {m : Bool} (h : Fol shutP [cW, cY] [0, 1] m) : m = true := by
  refine h.2 ⟨rfl, ?_, ?_, ?_⟩
  · intro i hi
    rcases two rfl hi with rfl | rfl
    · exact ⟨by decide, by decide, by decide, .inl rfl⟩
    · exact ⟨by decide, by decide, by decide, .inr fitsY1⟩
  · intro i hi j hj
    rcases two rfl hi with rfl | rfl
    · have : j = 0 := by omega
      subst this; decide
    · rcases two rfl (show j < 2 by omega) with rfl | rfl <;> decide
  · intro k hk _
    rcases two rfl hk with rfl | rfl <;> decide
theorem folN {m : Bool} (h : Fol shutP [cW, cY] [1, 0] m) : m = false := by
  cases m with
  | false => rfl
  | true =>
    obtain ⟨_, hr, _⟩ := h.1 rfl
    obtain ⟨_, _, _, h4⟩ := hr 0 (by decide)
    rcases h4 with h4 | h4
    · cases h4
    · have h4 : (histOf shutP [cW, cY]).fits (-1) 1 = true := h4
      rw [fitsY2] at h4; cases h4
theorem still_blk {w : World} {b : Nat} {T : TypeId} {vs : List Value} (h : Blk w b vs.toArray T) : stillC w b vs 0 := stillC_of fun i hi => by
  rw [List.getElem?_eq_getElem hi]
  exact h.cell (by simp [hi])
theorem calls_rd {w : World} {b : Nat} {u : PV} {c : CalD} {d : CalD} (hB : Blk w b (calV c u ++ calV d nilPV).toArray 39) (hu : InP w u (cPol c)) (hd : cPol d = noP) (w1 : (Lit.int .i64 c.1).wf = true) (w2 : (Lit.int .i64 c.2.1).wf = true) (w3 : (Lit.int .i64 d.1).wf = true) (w4 : (Lit.int .i64 d.2.1).wf = true) :
    RdL calT w (some ⟨b, 0, none⟩, 2, 2) [c, d] :=
  rdl_blk (e := calT) [calV c u, calV d nilPV] [c, d] (by simpa using hB) (fun r hr => by
    rcases List.mem_cons.1 hr with rfl | hr
    · rfl
    · rw [List.mem_singleton.1 hr]; rfl) rfl (by simp [maxLen]) (fun q hq => by
    rcases two rfl hq with rfl | rfl
    · exact rd_call.2 ⟨u, rfl, hu, w1, w2⟩
    · exact rd_call.2 ⟨nilPV, rfl, (show InP w nilPV (cPol d) by rw [hd]; exact nil_pol), w3, w4⟩)
theorem ints_rd {w : World} {b : Nat} {x y : Int} (hB : Blk w b #[.int .i64 x, .int .i64 y] 3) (w1 : (Lit.int .i64 x).wf = true) (w2 : (Lit.int .i64 y).wf = true) : RdL (.int .i64) w (some ⟨b, 0, none⟩, 2, 2) [x, y] :=
  rdl_blk (e := .int .i64) [[.int .i64 x], [.int .i64 y]] [x, y] (by simpa using hB) (fun r hr => by
    rcases List.mem_cons.1 hr with rfl | hr
    · rfl
    · rw [List.mem_singleton.1 hr]; rfl) rfl (by simp [maxLen]) (fun q hq => by
    rcases two rfl hq with rfl | rfl
    · exact ⟨rfl, w1⟩
    · exact ⟨rfl, w2⟩)
theorem putEv1 : Vc.putA (evC 0 false) 8 [.bool true] = evC 0 true := by kernel_rfl
theorem putEv2 : Vc.putA (evC 0 true) 6 [.int .i64 11] = evC 11 true := by kernel_rfl
end JG
end Go.Proofs.Ytddbebhklmaeoaa
