/- The plain statements of some functions, printed by vcgen.py. -/
import Derived.Test.YtddbebhklmaeoaaM5
import Derived.Test.YtddbebhklmaeoaaProg
import Derived.KernelRfl
set_option maxRecDepth 100000
set_option maxHeartbeats 4000000
set_option linter.unusedVariables false
namespace Go.Proofs.Ytddbebhklmaeoaa
open Go Go.Proofs.Ytddbebhklmaeoaa.Vc
theorem W7.mixed : Try.prog.follows .mixedOrders = true := by kernel_rfl
/-- gatehouse/gatehouselaw27.awake -/
def f7.AL : Nat → Option Ann := fun _ => none
def f7.AC : Nat → Option Ann := fun r => match r with | 5 => some ⟨[(4, .slice), (5, .bool), (6, .int .i64)], [1, 2, 3]⟩ | 6 => some ⟨[(7, .slice), (8, .bool), (9, .int .i64)], [1, 2, 4, 5, 6]⟩ | 7 => some ⟨[(10, .bool)], [4, 5, 6, 7, 8, 9]⟩ | 8 => some ⟨[(11, .blk)], [4, 5, 6, 7, 8, 9, 10]⟩ | 9 => some ⟨[(12, .slice)], [4, 5, 6, 7, 8, 9, 10, 11]⟩ | 10 => some ⟨[(13, .int .i8)], [4, 5, 6, 7, 8, 9, 10, 11, 12]⟩ | 12 => some ⟨[], [4, 5, 6, 7, 8, 9, 10, 11, 12, 13]⟩ | 13 => some ⟨[(14, .int .i8)], [4, 5, 6, 7, 8, 9, 10, 13]⟩ | 2000004 => some ⟨[(22, .any), (25, .slice)], [1, 2, 3]⟩ | 2000005 => some ⟨[(31, .any), (34, .slice)], [1, 2, 4, 5, 6]⟩ | 2000006 => some ⟨[(39, .any), (42, .slice), (43, .slice)], [1, 2, 4, 5, 6, 7, 8, 9]⟩ | 3000004 => some ⟨[], [0, 1, 2, 3]⟩ | 3000005 => some ⟨[], [0, 1, 2, 3]⟩ | 3000006 => some ⟨[], [0, 1, 2, 3, 4]⟩ | 4000006 => some ⟨[(45, .bool)], [1, 2, 4, 5, 6, 7, 8, 9]⟩ | 5000006 => some ⟨[], [0, 1, 2, 3, 4, 5, 6]⟩ | 6000006 => some ⟨[(46, .any), (49, .slice), (50, .slice)], [4, 5, 6, 7, 8, 9, 45]⟩ | 7000006 => some ⟨[], [0, 1, 2, 3, 4, 5, 6, 7, 8, 9, 10, 11]⟩ | _ => none
def f7.VC  (w : World) (R : Value → World → Prop) : Prop :=
  Calls Try.prog 22 #[] w fun b0 d0 =>
  ∃ g0 h0 i0 j0 k0 p0 q0 t0 u0 v0 x0 y0 z0 b1 d1 g1 h1 i1 j1 k1 p1 q1 t1 u1 v1 x1 y1 z1 b2 d2 g2 h2 i2,
  b0 = .returned (.agg #[.slice g0 h0 i0, .slice j0 k0 p0, .slice q0 t0 u0, .slice v0 x0 y0, .slice z0 b1 d1, .slice g1 h1 i1, .slice j1 k1 p1, .slice q1 t1 u1, .slice v1 x1 y1, .slice z1 b2 d2, .slice g2 h2 i2]) ∧
  let j2 := World.alloc d0 (.cells #[.int .i64 0, .int .i64 0, .bool false, .bool false, .bool false, .slice none 0 0, .slice none 0 0, .slice none 0 0, .slice none 0 0, .slice none 0 0, .slice none 0 0, .slice none 0 0, .slice none 0 0, .slice none 0 0, .slice none 0 0, .slice none 0 0, .string ⟨#[]⟩, .string ⟨#[]⟩, .string ⟨#[]⟩] 39);
  canStore j2 d0.heap.size 0 19 ∧
  let k2 := setCs j2 d0.heap.size 0 [.int .i64 0, .int .i64 3, .bool true, .bool false, .bool false, .slice g0 h0 i0, .slice j0 k0 p0, .slice q0 t0 u0, .slice v0 x0 y0, .slice z0 b1 d1, .slice g1 h1 i1, .slice j1 k1 p1, .slice q1 t1 u1, .slice v1 x1 y1, .slice z1 b2 d2, .slice g2 h2 i2, .string ⟨#[]⟩, .string ⟨#[]⟩, .string ⟨#[]⟩];
  Calls Try.prog 23 #[] k2 fun p2 q2 =>
  ∃ t2 u2 v2,
  p2 = .returned (.agg #[.string t2, .string u2, .string v2]) ∧
  let x2 := World.alloc q2 (.cells #[.int .i64 0, .int .i64 0, .bool false, .bool false, .bool false, .slice none 0 0, .slice none 0 0, .slice none 0 0, .slice none 0 0, .slice none 0 0, .slice none 0 0, .slice none 0 0, .slice none 0 0, .slice none 0 0, .slice none 0 0, .slice none 0 0, .string ⟨#[]⟩, .string ⟨#[]⟩, .string ⟨#[]⟩] 39);
  canStore x2 q2.heap.size 0 19 ∧
  let y2 := setCs x2 q2.heap.size 0 [.int .i64 1, .int .i64 2, .bool false, .bool false, .bool true, .slice none 0 0, .slice none 0 0, .slice none 0 0, .slice none 0 0, .slice none 0 0, .slice none 0 0, .slice none 0 0, .slice none 0 0, .slice none 0 0, .slice none 0 0, .slice none 0 0, .string t2, .string u2, .string v2];
  Calls Try.prog 23 #[] y2 fun z2 b3 =>
  ∃ d3 g3 h3,
  z2 = .returned (.agg #[.string d3, .string g3, .string h3]) ∧
  let i3 := World.alloc b3 (.cells #[.int .i64 0, .int .i64 0, .bool false, .bool false, .bool false, .slice none 0 0, .slice none 0 0, .slice none 0 0, .slice none 0 0, .slice none 0 0, .slice none 0 0, .slice none 0 0, .slice none 0 0, .slice none 0 0, .slice none 0 0, .slice none 0 0, .string ⟨#[]⟩, .string ⟨#[]⟩, .string ⟨#[]⟩] 39);
  canStore i3 b3.heap.size 0 19 ∧
  let j3 := setCs i3 b3.heap.size 0 [.int .i64 4, .int .i64 5, .bool false, .bool false, .bool false, .slice none 0 0, .slice none 0 0, .slice none 0 0, .slice none 0 0, .slice none 0 0, .slice none 0 0, .slice none 0 0, .slice none 0 0, .slice none 0 0, .slice none 0 0, .slice none 0 0, .string d3, .string g3, .string h3];
  ∃ k3 : Option Addr → Nat → Nat → Bool → Int → World → Prop,
  (∃ p3 : Value → Option Addr → Nat → Nat → World → Prop,
  (∃ q3,
  j3.cell? ⟨d0.heap.size, 0, none⟩ = some (.int .i64 q3) ∧
  ∃ t3,
  j3.cell? ⟨d0.heap.size, 1, none⟩ = some (.int .i64 t3) ∧
  ∃ u3,
  j3.cell? ⟨d0.heap.size, 2, none⟩ = some (.bool u3) ∧
  ∃ v3,
  j3.cell? ⟨d0.heap.size, 3, none⟩ = some (.bool v3) ∧
  ∃ x3,
  j3.cell? ⟨d0.heap.size, 4, none⟩ = some (.bool x3) ∧
  ∃ y3 z3 b4,
  j3.cell? ⟨d0.heap.size, 5, none⟩ = some (.slice y3 z3 b4) ∧
  ∃ d4 g4 h4,
  j3.cell? ⟨d0.heap.size, 6, none⟩ = some (.slice d4 g4 h4) ∧
  ∃ i4 j4 k4,
  j3.cell? ⟨d0.heap.size, 7, none⟩ = some (.slice i4 j4 k4) ∧
  ∃ p4 q4 t4,
  j3.cell? ⟨d0.heap.size, 8, none⟩ = some (.slice p4 q4 t4) ∧
  ∃ u4 v4 x4,
  j3.cell? ⟨d0.heap.size, 9, none⟩ = some (.slice u4 v4 x4) ∧
  ∃ y4 z4 b5,
  j3.cell? ⟨d0.heap.size, 10, none⟩ = some (.slice y4 z4 b5) ∧
  ∃ d5 g5 h5,
  j3.cell? ⟨d0.heap.size, 11, none⟩ = some (.slice d5 g5 h5) ∧
  ∃ i5 j5 k5,
  j3.cell? ⟨d0.heap.size, 12, none⟩ = some (.slice i5 j5 k5) ∧
  ∃ p5 q5 t5,
  j3.cell? ⟨d0.heap.size, 13, none⟩ = some (.slice p5 q5 t5) ∧
  ∃ u5 v5 x5,
  j3.cell? ⟨d0.heap.size, 14, none⟩ = some (.slice u5 v5 x5) ∧
  ∃ y5 z5 b6,
  j3.cell? ⟨d0.heap.size, 15, none⟩ = some (.slice y5 z5 b6) ∧
  ∃ d6,
  j3.cell? ⟨d0.heap.size, 16, none⟩ = some (.string d6) ∧
  ∃ g6,
  j3.cell? ⟨d0.heap.size, 17, none⟩ = some (.string g6) ∧
  ∃ h6,
  j3.cell? ⟨d0.heap.size, 18, none⟩ = some (.string h6) ∧
  ∃ i6,
  j3.cell? ⟨q2.heap.size, 0, none⟩ = some (.int .i64 i6) ∧
  ∃ j6,
  j3.cell? ⟨q2.heap.size, 1, none⟩ = some (.int .i64 j6) ∧
  ∃ k6,
  j3.cell? ⟨q2.heap.size, 2, none⟩ = some (.bool k6) ∧
  ∃ p6,
  j3.cell? ⟨q2.heap.size, 3, none⟩ = some (.bool p6) ∧
  ∃ q6,
  j3.cell? ⟨q2.heap.size, 4, none⟩ = some (.bool q6) ∧
  ∃ t6 u6 v6,
  j3.cell? ⟨q2.heap.size, 5, none⟩ = some (.slice t6 u6 v6) ∧
  ∃ x6 y6 z6,
  j3.cell? ⟨q2.heap.size, 6, none⟩ = some (.slice x6 y6 z6) ∧
  ∃ b7 d7 g7,
  j3.cell? ⟨q2.heap.size, 7, none⟩ = some (.slice b7 d7 g7) ∧
  ∃ h7 i7 j7,
  j3.cell? ⟨q2.heap.size, 8, none⟩ = some (.slice h7 i7 j7) ∧
  ∃ k7 p7 q7,
  j3.cell? ⟨q2.heap.size, 9, none⟩ = some (.slice k7 p7 q7) ∧
  ∃ t7 u7 v7,
  j3.cell? ⟨q2.heap.size, 10, none⟩ = some (.slice t7 u7 v7) ∧
  ∃ x7 y7 z7,
  j3.cell? ⟨q2.heap.size, 11, none⟩ = some (.slice x7 y7 z7) ∧
  ∃ b8 d8 g8,
  j3.cell? ⟨q2.heap.size, 12, none⟩ = some (.slice b8 d8 g8) ∧
  ∃ h8 i8 j8,
  j3.cell? ⟨q2.heap.size, 13, none⟩ = some (.slice h8 i8 j8) ∧
  ∃ k8 p8 q8,
  j3.cell? ⟨q2.heap.size, 14, none⟩ = some (.slice k8 p8 q8) ∧
  ∃ t8 u8 v8,
  j3.cell? ⟨q2.heap.size, 15, none⟩ = some (.slice t8 u8 v8) ∧
  ∃ x8,
  j3.cell? ⟨q2.heap.size, 16, none⟩ = some (.string x8) ∧
  ∃ y8,
  j3.cell? ⟨q2.heap.size, 17, none⟩ = some (.string y8) ∧
  ∃ z8,
  j3.cell? ⟨q2.heap.size, 18, none⟩ = some (.string z8) ∧
  (Calls Try.prog 24 #[] j3.drew fun b9 d9 =>
  ∃ g9 h9 i9 j9 k9 p9 q9 t9 u9 v9 x9 y9 z9 bA dA gA hA iA jA kA pA qA tA uA vA xA yA zA bB dB gB hB iB,
  b9 = .returned (.agg #[.slice g9 h9 i9, .slice j9 k9 p9, .slice q9 t9 u9, .slice v9 x9 y9, .slice z9 bA dA, .slice gA hA iA, .slice jA kA pA, .slice qA tA uA, .slice vA xA yA, .slice zA bB dB, .slice gB hB iB]) ∧
  (stillC d9 q2.heap.size [.int .i64 i6, .int .i64 j6, .bool k6, .bool p6, .bool q6, .slice t6 u6 v6, .slice x6 y6 z6, .slice b7 d7 g7, .slice h7 i7 j7, .slice k7 p7 q7, .slice t7 u7 v7, .slice x7 y7 z7, .slice b8 d8 g8, .slice h8 i8 j8, .slice k8 p8 q8, .slice t8 u8 v8, .string x8, .string y8, .string z8] 0 ∧ stillC d9 d0.heap.size [.int .i64 q3, .int .i64 t3, .bool u3, .bool v3, .bool x3, .slice y3 z3 b4, .slice d4 g4 h4, .slice i4 j4 k4, .slice p4 q4 t4, .slice u4 v4 x4, .slice y4 z4 b5, .slice d5 g5 h5, .slice i5 j5 k5, .slice p5 q5 t5, .slice u5 v5 x5, .slice y5 z5 b6, .string d6, .string g6, .string h6] 0 ∧ True) ∧
  let jB := World.alloc d9 (.cells #[.int .i64 q3, .int .i64 t3, .bool u3, .bool v3, .bool x3, .slice y3 z3 b4, .slice d4 g4 h4, .slice i4 j4 k4, .slice p4 q4 t4, .slice u4 v4 x4, .slice y4 z4 b5, .slice d5 g5 h5, .slice i5 j5 k5, .slice p5 q5 t5, .slice u5 v5 x5, .slice y5 z5 b6, .string d6, .string g6, .string h6, .int .i64 i6, .int .i64 j6, .bool k6, .bool p6, .bool q6, .slice t6 u6 v6, .slice x6 y6 z6, .slice b7 d7 g7, .slice h7 i7 j7, .slice k7 p7 q7, .slice t7 u7 v7, .slice x7 y7 z7, .slice b8 d8 g8, .slice h8 i8 j8, .slice k8 p8 q8, .slice t8 u8 v8, .string x8, .string y8, .string z8] 39);
  (stillC jB q2.heap.size [.int .i64 i6, .int .i64 j6, .bool k6, .bool p6, .bool q6, .slice t6 u6 v6, .slice x6 y6 z6, .slice b7 d7 g7, .slice h7 i7 j7, .slice k7 p7 q7, .slice t7 u7 v7, .slice x7 y7 z7, .slice b8 d8 g8, .slice h8 i8 j8, .slice k8 p8 q8, .slice t8 u8 v8, .string x8, .string y8, .string z8] 0 ∧ stillC jB d0.heap.size [.int .i64 q3, .int .i64 t3, .bool u3, .bool v3, .bool x3, .slice y3 z3 b4, .slice d4 g4 h4, .slice i4 j4 k4, .slice p4 q4 t4, .slice u4 v4 x4, .slice y4 z4 b5, .slice d5 g5 h5, .slice i5 j5 k5, .slice p5 q5 t5, .slice u5 v5 x5, .slice y5 z5 b6, .string d6, .string g6, .string h6] 0 ∧ True) ∧
  ([.pointer (some ⟨d0.heap.size, 0, none⟩), .pointer (some ⟨q2.heap.size, 0, none⟩), .pointer (some ⟨b3.heap.size, 0, none⟩)] : List Value) = ([.pointer (some ⟨d0.heap.size, 0, none⟩), .pointer (some ⟨q2.heap.size, 0, none⟩), .pointer (some ⟨b3.heap.size, 0, none⟩)] : List Value) ∧ p3 (.agg #[.slice g9 h9 i9, .slice j9 k9 p9, .slice q9 t9 u9, .slice v9 x9 y9, .slice z9 bA dA, .slice gA hA iA, .slice jA kA pA, .slice qA tA uA, .slice vA xA yA, .slice zA bB dB, .slice gB hB iB]) (some ⟨d9.heap.size, 0, none⟩) 2 2 jB) ∧
  (let kB := World.alloc j3.drew (.cells #[.int .i64 q3, .int .i64 t3, .bool u3, .bool v3, .bool x3, .slice y3 z3 b4, .slice d4 g4 h4, .slice i4 j4 k4, .slice p4 q4 t4, .slice u4 v4 x4, .slice y4 z4 b5, .slice d5 g5 h5, .slice i5 j5 k5, .slice p5 q5 t5, .slice u5 v5 x5, .slice y5 z5 b6, .string d6, .string g6, .string h6, .int .i64 i6, .int .i64 j6, .bool k6, .bool p6, .bool q6, .slice t6 u6 v6, .slice x6 y6 z6, .slice b7 d7 g7, .slice h7 i7 j7, .slice k7 p7 q7, .slice t7 u7 v7, .slice x7 y7 z7, .slice b8 d8 g8, .slice h8 i8 j8, .slice k8 p8 q8, .slice t8 u8 v8, .string x8, .string y8, .string z8] 39);
  (stillC kB q2.heap.size [.int .i64 i6, .int .i64 j6, .bool k6, .bool p6, .bool q6, .slice t6 u6 v6, .slice x6 y6 z6, .slice b7 d7 g7, .slice h7 i7 j7, .slice k7 p7 q7, .slice t7 u7 v7, .slice x7 y7 z7, .slice b8 d8 g8, .slice h8 i8 j8, .slice k8 p8 q8, .slice t8 u8 v8, .string x8, .string y8, .string z8] 0 ∧ stillC kB d0.heap.size [.int .i64 q3, .int .i64 t3, .bool u3, .bool v3, .bool x3, .slice y3 z3 b4, .slice d4 g4 h4, .slice i4 j4 k4, .slice p4 q4 t4, .slice u4 v4 x4, .slice y4 z4 b5, .slice d5 g5 h5, .slice i5 j5 k5, .slice p5 q5 t5, .slice u5 v5 x5, .slice y5 z5 b6, .string d6, .string g6, .string h6] 0 ∧ True) ∧
  Calls Try.prog 24 #[] kB fun pB qB =>
  ∃ tB uB vB xB yB zB bC dC gC hC iC jC kC pC qC tC uC vC xC yC zC bD dD gD hD iD jD kD pD qD tD uD vD,
  pB = .returned (.agg #[.slice tB uB vB, .slice xB yB zB, .slice bC dC gC, .slice hC iC jC, .slice kC pC qC, .slice tC uC vC, .slice xC yC zC, .slice bD dD gD, .slice hD iD jD, .slice kD pD qD, .slice tD uD vD]) ∧
  (stillC qB q2.heap.size [.int .i64 i6, .int .i64 j6, .bool k6, .bool p6, .bool q6, .slice t6 u6 v6, .slice x6 y6 z6, .slice b7 d7 g7, .slice h7 i7 j7, .slice k7 p7 q7, .slice t7 u7 v7, .slice x7 y7 z7, .slice b8 d8 g8, .slice h8 i8 j8, .slice k8 p8 q8, .slice t8 u8 v8, .string x8, .string y8, .string z8] 0 ∧ stillC qB d0.heap.size [.int .i64 q3, .int .i64 t3, .bool u3, .bool v3, .bool x3, .slice y3 z3 b4, .slice d4 g4 h4, .slice i4 j4 k4, .slice p4 q4 t4, .slice u4 v4 x4, .slice y4 z4 b5, .slice d5 g5 h5, .slice i5 j5 k5, .slice p5 q5 t5, .slice u5 v5 x5, .slice y5 z5 b6, .string d6, .string g6, .string h6] 0 ∧ True) ∧
  ([.pointer (some ⟨d0.heap.size, 0, none⟩), .pointer (some ⟨q2.heap.size, 0, none⟩), .pointer (some ⟨b3.heap.size, 0, none⟩)] : List Value) = ([.pointer (some ⟨d0.heap.size, 0, none⟩), .pointer (some ⟨q2.heap.size, 0, none⟩), .pointer (some ⟨b3.heap.size, 0, none⟩)] : List Value) ∧ p3 (.agg #[.slice tB uB vB, .slice xB yB zB, .slice bC dC gC, .slice hC iC jC, .slice kC pC qC, .slice tC uC vC, .slice xC yC zC, .slice bD dD gD, .slice hD iD jD, .slice kD pD qD, .slice tD uD vD]) (some ⟨j3.heap.size, 0, none⟩) 2 2 qB) ∧ True) ∧
  ∀ xD : Env, ∀ yD zD bE dE gE, p3 yD zD bE dE gE →
  Calls Try.prog 11 #[yD, .slice zD bE dE] gE fun hE iE =>
  ∃ jE kE pE qE tE,
  hE = .returned (.tuple #[.slice jE kE pE, .bool qE, .int .i64 tE]) ∧
  (True) ∧
  ([.pointer (some ⟨d0.heap.size, 0, none⟩), .pointer (some ⟨q2.heap.size, 0, none⟩), .pointer (some ⟨b3.heap.size, 0, none⟩)] : List Value) = ([.pointer (some ⟨d0.heap.size, 0, none⟩), .pointer (some ⟨q2.heap.size, 0, none⟩), .pointer (some ⟨b3.heap.size, 0, none⟩)] : List Value) ∧ k3 jE kE pE qE tE iE) ∧
  ∀ uE : Env, ∀ vE xE yE zE bF dF, k3 vE xE yE zE bF dF →
  ∃ gF : Option Addr → Nat → Nat → Bool → Int → World → Prop,
  (∃ hF : Value → Option Addr → Nat → Nat → World → Prop,
  (∃ iF,
  dF.cell? ⟨d0.heap.size, 0, none⟩ = some (.int .i64 iF) ∧
  ∃ jF,
  dF.cell? ⟨d0.heap.size, 1, none⟩ = some (.int .i64 jF) ∧
  ∃ kF,
  dF.cell? ⟨d0.heap.size, 2, none⟩ = some (.bool kF) ∧
  ∃ pF,
  dF.cell? ⟨d0.heap.size, 3, none⟩ = some (.bool pF) ∧
  ∃ qF,
  dF.cell? ⟨d0.heap.size, 4, none⟩ = some (.bool qF) ∧
  ∃ tF uF vF,
  dF.cell? ⟨d0.heap.size, 5, none⟩ = some (.slice tF uF vF) ∧
  ∃ xF yF zF,
  dF.cell? ⟨d0.heap.size, 6, none⟩ = some (.slice xF yF zF) ∧
  ∃ bG dG gG,
  dF.cell? ⟨d0.heap.size, 7, none⟩ = some (.slice bG dG gG) ∧
  ∃ hG iG jG,
  dF.cell? ⟨d0.heap.size, 8, none⟩ = some (.slice hG iG jG) ∧
  ∃ kG pG qG,
  dF.cell? ⟨d0.heap.size, 9, none⟩ = some (.slice kG pG qG) ∧
  ∃ tG uG vG,
  dF.cell? ⟨d0.heap.size, 10, none⟩ = some (.slice tG uG vG) ∧
  ∃ xG yG zG,
  dF.cell? ⟨d0.heap.size, 11, none⟩ = some (.slice xG yG zG) ∧
  ∃ bH dH gH,
  dF.cell? ⟨d0.heap.size, 12, none⟩ = some (.slice bH dH gH) ∧
  ∃ hH iH jH,
  dF.cell? ⟨d0.heap.size, 13, none⟩ = some (.slice hH iH jH) ∧
  ∃ kH pH qH,
  dF.cell? ⟨d0.heap.size, 14, none⟩ = some (.slice kH pH qH) ∧
  ∃ tH uH vH,
  dF.cell? ⟨d0.heap.size, 15, none⟩ = some (.slice tH uH vH) ∧
  ∃ xH,
  dF.cell? ⟨d0.heap.size, 16, none⟩ = some (.string xH) ∧
  ∃ yH,
  dF.cell? ⟨d0.heap.size, 17, none⟩ = some (.string yH) ∧
  ∃ zH,
  dF.cell? ⟨d0.heap.size, 18, none⟩ = some (.string zH) ∧
  ∃ bI,
  dF.cell? ⟨b3.heap.size, 0, none⟩ = some (.int .i64 bI) ∧
  ∃ dI,
  dF.cell? ⟨b3.heap.size, 1, none⟩ = some (.int .i64 dI) ∧
  ∃ gI,
  dF.cell? ⟨b3.heap.size, 2, none⟩ = some (.bool gI) ∧
  ∃ hI,
  dF.cell? ⟨b3.heap.size, 3, none⟩ = some (.bool hI) ∧
  ∃ iI,
  dF.cell? ⟨b3.heap.size, 4, none⟩ = some (.bool iI) ∧
  ∃ jI kI pI,
  dF.cell? ⟨b3.heap.size, 5, none⟩ = some (.slice jI kI pI) ∧
  ∃ qI tI uI,
  dF.cell? ⟨b3.heap.size, 6, none⟩ = some (.slice qI tI uI) ∧
  ∃ vI xI yI,
  dF.cell? ⟨b3.heap.size, 7, none⟩ = some (.slice vI xI yI) ∧
  ∃ zI bJ dJ,
  dF.cell? ⟨b3.heap.size, 8, none⟩ = some (.slice zI bJ dJ) ∧
  ∃ gJ hJ iJ,
  dF.cell? ⟨b3.heap.size, 9, none⟩ = some (.slice gJ hJ iJ) ∧
  ∃ jJ kJ pJ,
  dF.cell? ⟨b3.heap.size, 10, none⟩ = some (.slice jJ kJ pJ) ∧
  ∃ qJ tJ uJ,
  dF.cell? ⟨b3.heap.size, 11, none⟩ = some (.slice qJ tJ uJ) ∧
  ∃ vJ xJ yJ,
  dF.cell? ⟨b3.heap.size, 12, none⟩ = some (.slice vJ xJ yJ) ∧
  ∃ zJ bK dK,
  dF.cell? ⟨b3.heap.size, 13, none⟩ = some (.slice zJ bK dK) ∧
  ∃ gK hK iK,
  dF.cell? ⟨b3.heap.size, 14, none⟩ = some (.slice gK hK iK) ∧
  ∃ jK kK pK,
  dF.cell? ⟨b3.heap.size, 15, none⟩ = some (.slice jK kK pK) ∧
  ∃ qK,
  dF.cell? ⟨b3.heap.size, 16, none⟩ = some (.string qK) ∧
  ∃ tK,
  dF.cell? ⟨b3.heap.size, 17, none⟩ = some (.string tK) ∧
  ∃ uK,
  dF.cell? ⟨b3.heap.size, 18, none⟩ = some (.string uK) ∧
  (Calls Try.prog 24 #[] dF.drew fun vK xK =>
  ∃ yK zK bL dL gL hL iL jL kL pL qL tL uL vL xL yL zL bM dM gM hM iM jM kM pM qM tM uM vM xM yM zM bN,
  vK = .returned (.agg #[.slice yK zK bL, .slice dL gL hL, .slice iL jL kL, .slice pL qL tL, .slice uL vL xL, .slice yL zL bM, .slice dM gM hM, .slice iM jM kM, .slice pM qM tM, .slice uM vM xM, .slice yM zM bN]) ∧
  (stillC xK b3.heap.size [.int .i64 bI, .int .i64 dI, .bool gI, .bool hI, .bool iI, .slice jI kI pI, .slice qI tI uI, .slice vI xI yI, .slice zI bJ dJ, .slice gJ hJ iJ, .slice jJ kJ pJ, .slice qJ tJ uJ, .slice vJ xJ yJ, .slice zJ bK dK, .slice gK hK iK, .slice jK kK pK, .string qK, .string tK, .string uK] 0 ∧ stillC xK d0.heap.size [.int .i64 iF, .int .i64 jF, .bool kF, .bool pF, .bool qF, .slice tF uF vF, .slice xF yF zF, .slice bG dG gG, .slice hG iG jG, .slice kG pG qG, .slice tG uG vG, .slice xG yG zG, .slice bH dH gH, .slice hH iH jH, .slice kH pH qH, .slice tH uH vH, .string xH, .string yH, .string zH] 0 ∧ True) ∧
  let dN := World.alloc xK (.cells #[.int .i64 iF, .int .i64 jF, .bool kF, .bool pF, .bool qF, .slice tF uF vF, .slice xF yF zF, .slice bG dG gG, .slice hG iG jG, .slice kG pG qG, .slice tG uG vG, .slice xG yG zG, .slice bH dH gH, .slice hH iH jH, .slice kH pH qH, .slice tH uH vH, .string xH, .string yH, .string zH, .int .i64 bI, .int .i64 dI, .bool gI, .bool hI, .bool iI, .slice jI kI pI, .slice qI tI uI, .slice vI xI yI, .slice zI bJ dJ, .slice gJ hJ iJ, .slice jJ kJ pJ, .slice qJ tJ uJ, .slice vJ xJ yJ, .slice zJ bK dK, .slice gK hK iK, .slice jK kK pK, .string qK, .string tK, .string uK] 39);
  (stillC dN b3.heap.size [.int .i64 bI, .int .i64 dI, .bool gI, .bool hI, .bool iI, .slice jI kI pI, .slice qI tI uI, .slice vI xI yI, .slice zI bJ dJ, .slice gJ hJ iJ, .slice jJ kJ pJ, .slice qJ tJ uJ, .slice vJ xJ yJ, .slice zJ bK dK, .slice gK hK iK, .slice jK kK pK, .string qK, .string tK, .string uK] 0 ∧ stillC dN d0.heap.size [.int .i64 iF, .int .i64 jF, .bool kF, .bool pF, .bool qF, .slice tF uF vF, .slice xF yF zF, .slice bG dG gG, .slice hG iG jG, .slice kG pG qG, .slice tG uG vG, .slice xG yG zG, .slice bH dH gH, .slice hH iH jH, .slice kH pH qH, .slice tH uH vH, .string xH, .string yH, .string zH] 0 ∧ True) ∧
  ([.pointer (some ⟨d0.heap.size, 0, none⟩), .pointer (some ⟨q2.heap.size, 0, none⟩), .slice vE xE yE, .bool zE, .int .i64 bF] : List Value) = ([.pointer (some ⟨d0.heap.size, 0, none⟩), .pointer (some ⟨q2.heap.size, 0, none⟩), .slice vE xE yE, .bool zE, .int .i64 bF] : List Value) ∧ hF (.agg #[.slice yK zK bL, .slice dL gL hL, .slice iL jL kL, .slice pL qL tL, .slice uL vL xL, .slice yL zL bM, .slice dM gM hM, .slice iM jM kM, .slice pM qM tM, .slice uM vM xM, .slice yM zM bN]) (some ⟨xK.heap.size, 0, none⟩) 2 2 dN) ∧
  (let gN := World.alloc dF.drew (.cells #[.int .i64 iF, .int .i64 jF, .bool kF, .bool pF, .bool qF, .slice tF uF vF, .slice xF yF zF, .slice bG dG gG, .slice hG iG jG, .slice kG pG qG, .slice tG uG vG, .slice xG yG zG, .slice bH dH gH, .slice hH iH jH, .slice kH pH qH, .slice tH uH vH, .string xH, .string yH, .string zH, .int .i64 bI, .int .i64 dI, .bool gI, .bool hI, .bool iI, .slice jI kI pI, .slice qI tI uI, .slice vI xI yI, .slice zI bJ dJ, .slice gJ hJ iJ, .slice jJ kJ pJ, .slice qJ tJ uJ, .slice vJ xJ yJ, .slice zJ bK dK, .slice gK hK iK, .slice jK kK pK, .string qK, .string tK, .string uK] 39);
  (stillC gN b3.heap.size [.int .i64 bI, .int .i64 dI, .bool gI, .bool hI, .bool iI, .slice jI kI pI, .slice qI tI uI, .slice vI xI yI, .slice zI bJ dJ, .slice gJ hJ iJ, .slice jJ kJ pJ, .slice qJ tJ uJ, .slice vJ xJ yJ, .slice zJ bK dK, .slice gK hK iK, .slice jK kK pK, .string qK, .string tK, .string uK] 0 ∧ stillC gN d0.heap.size [.int .i64 iF, .int .i64 jF, .bool kF, .bool pF, .bool qF, .slice tF uF vF, .slice xF yF zF, .slice bG dG gG, .slice hG iG jG, .slice kG pG qG, .slice tG uG vG, .slice xG yG zG, .slice bH dH gH, .slice hH iH jH, .slice kH pH qH, .slice tH uH vH, .string xH, .string yH, .string zH] 0 ∧ True) ∧
  Calls Try.prog 24 #[] gN fun hN iN =>
  ∃ jN kN pN qN tN uN vN xN yN zN bP dP gP hP iP jP kP pP qP tP uP vP xP yP zP bQ dQ gQ hQ iQ jQ kQ pQ,
  hN = .returned (.agg #[.slice jN kN pN, .slice qN tN uN, .slice vN xN yN, .slice zN bP dP, .slice gP hP iP, .slice jP kP pP, .slice qP tP uP, .slice vP xP yP, .slice zP bQ dQ, .slice gQ hQ iQ, .slice jQ kQ pQ]) ∧
  (stillC iN b3.heap.size [.int .i64 bI, .int .i64 dI, .bool gI, .bool hI, .bool iI, .slice jI kI pI, .slice qI tI uI, .slice vI xI yI, .slice zI bJ dJ, .slice gJ hJ iJ, .slice jJ kJ pJ, .slice qJ tJ uJ, .slice vJ xJ yJ, .slice zJ bK dK, .slice gK hK iK, .slice jK kK pK, .string qK, .string tK, .string uK] 0 ∧ stillC iN d0.heap.size [.int .i64 iF, .int .i64 jF, .bool kF, .bool pF, .bool qF, .slice tF uF vF, .slice xF yF zF, .slice bG dG gG, .slice hG iG jG, .slice kG pG qG, .slice tG uG vG, .slice xG yG zG, .slice bH dH gH, .slice hH iH jH, .slice kH pH qH, .slice tH uH vH, .string xH, .string yH, .string zH] 0 ∧ True) ∧
  ([.pointer (some ⟨d0.heap.size, 0, none⟩), .pointer (some ⟨q2.heap.size, 0, none⟩), .slice vE xE yE, .bool zE, .int .i64 bF] : List Value) = ([.pointer (some ⟨d0.heap.size, 0, none⟩), .pointer (some ⟨q2.heap.size, 0, none⟩), .slice vE xE yE, .bool zE, .int .i64 bF] : List Value) ∧ hF (.agg #[.slice jN kN pN, .slice qN tN uN, .slice vN xN yN, .slice zN bP dP, .slice gP hP iP, .slice jP kP pP, .slice qP tP uP, .slice vP xP yP, .slice zP bQ dQ, .slice gQ hQ iQ, .slice jQ kQ pQ]) (some ⟨dF.heap.size, 0, none⟩) 2 2 iN) ∧ True) ∧
  ∀ qQ : Env, ∀ tQ uQ vQ xQ yQ, hF tQ uQ vQ xQ yQ →
  Calls Try.prog 11 #[tQ, .slice uQ vQ xQ] yQ fun zQ bR =>
  ∃ dR gR hR iR jR,
  zQ = .returned (.tuple #[.slice dR gR hR, .bool iR, .int .i64 jR]) ∧
  (True) ∧
  ([.pointer (some ⟨d0.heap.size, 0, none⟩), .pointer (some ⟨q2.heap.size, 0, none⟩), .slice vE xE yE, .bool zE, .int .i64 bF] : List Value) = ([.pointer (some ⟨d0.heap.size, 0, none⟩), .pointer (some ⟨q2.heap.size, 0, none⟩), .slice vE xE yE, .bool zE, .int .i64 bF] : List Value) ∧ gF dR gR hR iR jR bR) ∧
  ∀ kR : Env, ∀ pR qR tR uR vR xR, gF pR qR tR uR vR xR →
  ∃ yR : Bool → World → Prop,
  (∃ zR : Value → Option Addr → Nat → Nat → Option Addr → Nat → Nat → World → Prop,
  (∃ bS,
  xR.cell? ⟨d0.heap.size, 0, none⟩ = some (.int .i64 bS) ∧
  ∃ dS,
  xR.cell? ⟨d0.heap.size, 1, none⟩ = some (.int .i64 dS) ∧
  ∃ gS,
  xR.cell? ⟨d0.heap.size, 2, none⟩ = some (.bool gS) ∧
  ∃ hS,
  xR.cell? ⟨d0.heap.size, 3, none⟩ = some (.bool hS) ∧
  ∃ iS,
  xR.cell? ⟨d0.heap.size, 4, none⟩ = some (.bool iS) ∧
  ∃ jS kS pS,
  xR.cell? ⟨d0.heap.size, 5, none⟩ = some (.slice jS kS pS) ∧
  ∃ qS tS uS,
  xR.cell? ⟨d0.heap.size, 6, none⟩ = some (.slice qS tS uS) ∧
  ∃ vS xS yS,
  xR.cell? ⟨d0.heap.size, 7, none⟩ = some (.slice vS xS yS) ∧
  ∃ zS bT dT,
  xR.cell? ⟨d0.heap.size, 8, none⟩ = some (.slice zS bT dT) ∧
  ∃ gT hT iT,
  xR.cell? ⟨d0.heap.size, 9, none⟩ = some (.slice gT hT iT) ∧
  ∃ jT kT pT,
  xR.cell? ⟨d0.heap.size, 10, none⟩ = some (.slice jT kT pT) ∧
  ∃ qT tT uT,
  xR.cell? ⟨d0.heap.size, 11, none⟩ = some (.slice qT tT uT) ∧
  ∃ vT xT yT,
  xR.cell? ⟨d0.heap.size, 12, none⟩ = some (.slice vT xT yT) ∧
  ∃ zT bU dU,
  xR.cell? ⟨d0.heap.size, 13, none⟩ = some (.slice zT bU dU) ∧
  ∃ gU hU iU,
  xR.cell? ⟨d0.heap.size, 14, none⟩ = some (.slice gU hU iU) ∧
  ∃ jU kU pU,
  xR.cell? ⟨d0.heap.size, 15, none⟩ = some (.slice jU kU pU) ∧
  ∃ qU,
  xR.cell? ⟨d0.heap.size, 16, none⟩ = some (.string qU) ∧
  ∃ tU,
  xR.cell? ⟨d0.heap.size, 17, none⟩ = some (.string tU) ∧
  ∃ uU,
  xR.cell? ⟨d0.heap.size, 18, none⟩ = some (.string uU) ∧
  ∃ vU,
  xR.cell? ⟨q2.heap.size, 0, none⟩ = some (.int .i64 vU) ∧
  ∃ xU,
  xR.cell? ⟨q2.heap.size, 1, none⟩ = some (.int .i64 xU) ∧
  ∃ yU,
  xR.cell? ⟨q2.heap.size, 2, none⟩ = some (.bool yU) ∧
  ∃ zU,
  xR.cell? ⟨q2.heap.size, 3, none⟩ = some (.bool zU) ∧
  ∃ bV,
  xR.cell? ⟨q2.heap.size, 4, none⟩ = some (.bool bV) ∧
  ∃ dV gV hV,
  xR.cell? ⟨q2.heap.size, 5, none⟩ = some (.slice dV gV hV) ∧
  ∃ iV jV kV,
  xR.cell? ⟨q2.heap.size, 6, none⟩ = some (.slice iV jV kV) ∧
  ∃ pV qV tV,
  xR.cell? ⟨q2.heap.size, 7, none⟩ = some (.slice pV qV tV) ∧
  ∃ uV vV xV,
  xR.cell? ⟨q2.heap.size, 8, none⟩ = some (.slice uV vV xV) ∧
  ∃ yV zV bW,
  xR.cell? ⟨q2.heap.size, 9, none⟩ = some (.slice yV zV bW) ∧
  ∃ dW gW hW,
  xR.cell? ⟨q2.heap.size, 10, none⟩ = some (.slice dW gW hW) ∧
  ∃ iW jW kW,
  xR.cell? ⟨q2.heap.size, 11, none⟩ = some (.slice iW jW kW) ∧
  ∃ pW qW tW,
  xR.cell? ⟨q2.heap.size, 12, none⟩ = some (.slice pW qW tW) ∧
  ∃ uW vW xW,
  xR.cell? ⟨q2.heap.size, 13, none⟩ = some (.slice uW vW xW) ∧
  ∃ yW zW bX,
  xR.cell? ⟨q2.heap.size, 14, none⟩ = some (.slice yW zW bX) ∧
  ∃ dX gX hX,
  xR.cell? ⟨q2.heap.size, 15, none⟩ = some (.slice dX gX hX) ∧
  ∃ iX,
  xR.cell? ⟨q2.heap.size, 16, none⟩ = some (.string iX) ∧
  ∃ jX,
  xR.cell? ⟨q2.heap.size, 17, none⟩ = some (.string jX) ∧
  ∃ kX,
  xR.cell? ⟨q2.heap.size, 18, none⟩ = some (.string kX) ∧
  (Calls Try.prog 24 #[] xR.drew fun pX qX =>
  ∃ tX uX vX xX yX zX bY dY gY hY iY jY kY pY qY tY uY vY xY yY zY bZ dZ gZ hZ iZ jZ kZ pZ qZ tZ uZ vZ,
  pX = .returned (.agg #[.slice tX uX vX, .slice xX yX zX, .slice bY dY gY, .slice hY iY jY, .slice kY pY qY, .slice tY uY vY, .slice xY yY zY, .slice bZ dZ gZ, .slice hZ iZ jZ, .slice kZ pZ qZ, .slice tZ uZ vZ]) ∧
  (stillC qX q2.heap.size [.int .i64 vU, .int .i64 xU, .bool yU, .bool zU, .bool bV, .slice dV gV hV, .slice iV jV kV, .slice pV qV tV, .slice uV vV xV, .slice yV zV bW, .slice dW gW hW, .slice iW jW kW, .slice pW qW tW, .slice uW vW xW, .slice yW zW bX, .slice dX gX hX, .string iX, .string jX, .string kX] 0 ∧ stillC qX d0.heap.size [.int .i64 bS, .int .i64 dS, .bool gS, .bool hS, .bool iS, .slice jS kS pS, .slice qS tS uS, .slice vS xS yS, .slice zS bT dT, .slice gT hT iT, .slice jT kT pT, .slice qT tT uT, .slice vT xT yT, .slice zT bU dU, .slice gU hU iU, .slice jU kU pU, .string qU, .string tU, .string uU] 0 ∧ True) ∧
  (let xZ := World.alloc qX (.cells #[.int .i64 bS, .int .i64 dS, .bool gS, .bool hS, .bool iS, .slice jS kS pS, .slice qS tS uS, .slice vS xS yS, .slice zS bT dT, .slice gT hT iT, .slice jT kT pT, .slice qT tT uT, .slice vT xT yT, .slice zT bU dU, .slice gU hU iU, .slice jU kU pU, .string qU, .string tU, .string uU, .int .i64 vU, .int .i64 xU, .bool yU, .bool zU, .bool bV, .slice dV gV hV, .slice iV jV kV, .slice pV qV tV, .slice uV vV xV, .slice yV zV bW, .slice dW gW hW, .slice iW jW kW, .slice pW qW tW, .slice uW vW xW, .slice yW zW bX, .slice dX gX hX, .string iX, .string jX, .string kX] 39);
  (stillC xZ q2.heap.size [.int .i64 vU, .int .i64 xU, .bool yU, .bool zU, .bool bV, .slice dV gV hV, .slice iV jV kV, .slice pV qV tV, .slice uV vV xV, .slice yV zV bW, .slice dW gW hW, .slice iW jW kW, .slice pW qW tW, .slice uW vW xW, .slice yW zW bX, .slice dX gX hX, .string iX, .string jX, .string kX] 0 ∧ stillC xZ d0.heap.size [.int .i64 bS, .int .i64 dS, .bool gS, .bool hS, .bool iS, .slice jS kS pS, .slice qS tS uS, .slice vS xS yS, .slice zS bT dT, .slice gT hT iT, .slice jT kT pT, .slice qT tT uT, .slice vT xT yT, .slice zT bU dU, .slice gU hU iU, .slice jU kU pU, .string qU, .string tU, .string uU] 0 ∧ True) ∧
  let yZ := World.alloc xZ (.cells #[.int .i64 0, .int .i64 1] 3);
  (stillC yZ q2.heap.size [.int .i64 vU, .int .i64 xU, .bool yU, .bool zU, .bool bV, .slice dV gV hV, .slice iV jV kV, .slice pV qV tV, .slice uV vV xV, .slice yV zV bW, .slice dW gW hW, .slice iW jW kW, .slice pW qW tW, .slice uW vW xW, .slice yW zW bX, .slice dX gX hX, .string iX, .string jX, .string kX] 0 ∧ stillC yZ d0.heap.size [.int .i64 bS, .int .i64 dS, .bool gS, .bool hS, .bool iS, .slice jS kS pS, .slice qS tS uS, .slice vS xS yS, .slice zS bT dT, .slice gT hT iT, .slice jT kT pT, .slice qT tT uT, .slice vT xT yT, .slice zT bU dU, .slice gU hU iU, .slice jU kU pU, .string qU, .string tU, .string uU] 0 ∧ True) ∧
  ([.pointer (some ⟨d0.heap.size, 0, none⟩), .pointer (some ⟨q2.heap.size, 0, none⟩), .slice vE xE yE, .bool zE, .int .i64 bF, .slice pR qR tR, .bool uR, .int .i64 vR] : List Value) = ([.pointer (some ⟨d0.heap.size, 0, none⟩), .pointer (some ⟨q2.heap.size, 0, none⟩), .slice vE xE yE, .bool zE, .int .i64 bF, .slice pR qR tR, .bool uR, .int .i64 vR] : List Value) ∧ zR (.agg #[.slice tX uX vX, .slice xX yX zX, .slice bY dY gY, .slice hY iY jY, .slice kY pY qY, .slice tY uY vY, .slice xY yY zY, .slice bZ dZ gZ, .slice hZ iZ jZ, .slice kZ pZ qZ, .slice tZ uZ vZ]) (some ⟨qX.heap.size, 0, none⟩) 2 2 (some ⟨xZ.heap.size, 0, none⟩) 2 2 yZ) ∧
  (let zZ := World.alloc qX (.cells #[.int .i64 0, .int .i64 1] 3);
  (stillC zZ q2.heap.size [.int .i64 vU, .int .i64 xU, .bool yU, .bool zU, .bool bV, .slice dV gV hV, .slice iV jV kV, .slice pV qV tV, .slice uV vV xV, .slice yV zV bW, .slice dW gW hW, .slice iW jW kW, .slice pW qW tW, .slice uW vW xW, .slice yW zW bX, .slice dX gX hX, .string iX, .string jX, .string kX] 0 ∧ stillC zZ d0.heap.size [.int .i64 bS, .int .i64 dS, .bool gS, .bool hS, .bool iS, .slice jS kS pS, .slice qS tS uS, .slice vS xS yS, .slice zS bT dT, .slice gT hT iT, .slice jT kT pT, .slice qT tT uT, .slice vT xT yT, .slice zT bU dU, .slice gU hU iU, .slice jU kU pU, .string qU, .string tU, .string uU] 0 ∧ True) ∧
  let b00 := World.alloc zZ (.cells #[.int .i64 bS, .int .i64 dS, .bool gS, .bool hS, .bool iS, .slice jS kS pS, .slice qS tS uS, .slice vS xS yS, .slice zS bT dT, .slice gT hT iT, .slice jT kT pT, .slice qT tT uT, .slice vT xT yT, .slice zT bU dU, .slice gU hU iU, .slice jU kU pU, .string qU, .string tU, .string uU, .int .i64 vU, .int .i64 xU, .bool yU, .bool zU, .bool bV, .slice dV gV hV, .slice iV jV kV, .slice pV qV tV, .slice uV vV xV, .slice yV zV bW, .slice dW gW hW, .slice iW jW kW, .slice pW qW tW, .slice uW vW xW, .slice yW zW bX, .slice dX gX hX, .string iX, .string jX, .string kX] 39);
  (stillC b00 q2.heap.size [.int .i64 vU, .int .i64 xU, .bool yU, .bool zU, .bool bV, .slice dV gV hV, .slice iV jV kV, .slice pV qV tV, .slice uV vV xV, .slice yV zV bW, .slice dW gW hW, .slice iW jW kW, .slice pW qW tW, .slice uW vW xW, .slice yW zW bX, .slice dX gX hX, .string iX, .string jX, .string kX] 0 ∧ stillC b00 d0.heap.size [.int .i64 bS, .int .i64 dS, .bool gS, .bool hS, .bool iS, .slice jS kS pS, .slice qS tS uS, .slice vS xS yS, .slice zS bT dT, .slice gT hT iT, .slice jT kT pT, .slice qT tT uT, .slice vT xT yT, .slice zT bU dU, .slice gU hU iU, .slice jU kU pU, .string qU, .string tU, .string uU] 0 ∧ True) ∧
  ([.pointer (some ⟨d0.heap.size, 0, none⟩), .pointer (some ⟨q2.heap.size, 0, none⟩), .slice vE xE yE, .bool zE, .int .i64 bF, .slice pR qR tR, .bool uR, .int .i64 vR] : List Value) = ([.pointer (some ⟨d0.heap.size, 0, none⟩), .pointer (some ⟨q2.heap.size, 0, none⟩), .slice vE xE yE, .bool zE, .int .i64 bF, .slice pR qR tR, .bool uR, .int .i64 vR] : List Value) ∧ zR (.agg #[.slice tX uX vX, .slice xX yX zX, .slice bY dY gY, .slice hY iY jY, .slice kY pY qY, .slice tY uY vY, .slice xY yY zY, .slice bZ dZ gZ, .slice hZ iZ jZ, .slice kZ pZ qZ, .slice tZ uZ vZ]) (some ⟨zZ.heap.size, 0, none⟩) 2 2 (some ⟨qX.heap.size, 0, none⟩) 2 2 b00) ∧ True) ∧
  (let d00 := World.alloc xR.drew (.cells #[.int .i64 bS, .int .i64 dS, .bool gS, .bool hS, .bool iS, .slice jS kS pS, .slice qS tS uS, .slice vS xS yS, .slice zS bT dT, .slice gT hT iT, .slice jT kT pT, .slice qT tT uT, .slice vT xT yT, .slice zT bU dU, .slice gU hU iU, .slice jU kU pU, .string qU, .string tU, .string uU, .int .i64 vU, .int .i64 xU, .bool yU, .bool zU, .bool bV, .slice dV gV hV, .slice iV jV kV, .slice pV qV tV, .slice uV vV xV, .slice yV zV bW, .slice dW gW hW, .slice iW jW kW, .slice pW qW tW, .slice uW vW xW, .slice yW zW bX, .slice dX gX hX, .string iX, .string jX, .string kX] 39);
  (stillC d00 q2.heap.size [.int .i64 vU, .int .i64 xU, .bool yU, .bool zU, .bool bV, .slice dV gV hV, .slice iV jV kV, .slice pV qV tV, .slice uV vV xV, .slice yV zV bW, .slice dW gW hW, .slice iW jW kW, .slice pW qW tW, .slice uW vW xW, .slice yW zW bX, .slice dX gX hX, .string iX, .string jX, .string kX] 0 ∧ stillC d00 d0.heap.size [.int .i64 bS, .int .i64 dS, .bool gS, .bool hS, .bool iS, .slice jS kS pS, .slice qS tS uS, .slice vS xS yS, .slice zS bT dT, .slice gT hT iT, .slice jT kT pT, .slice qT tT uT, .slice vT xT yT, .slice zT bU dU, .slice gU hU iU, .slice jU kU pU, .string qU, .string tU, .string uU] 0 ∧ True) ∧
  (Calls Try.prog 24 #[] d00 fun g00 h00 =>
  ∃ i00 j00 k00 p00 q00 t00 u00 v00 x00 y00 z00 b01 d01 g01 h01 i01 j01 k01 p01 q01 t01 u01 v01 x01 y01 z01 b02 d02 g02 h02 i02 j02 k02,
  g00 = .returned (.agg #[.slice i00 j00 k00, .slice p00 q00 t00, .slice u00 v00 x00, .slice y00 z00 b01, .slice d01 g01 h01, .slice i01 j01 k01, .slice p01 q01 t01, .slice u01 v01 x01, .slice y01 z01 b02, .slice d02 g02 h02, .slice i02 j02 k02]) ∧
  (stillC h00 q2.heap.size [.int .i64 vU, .int .i64 xU, .bool yU, .bool zU, .bool bV, .slice dV gV hV, .slice iV jV kV, .slice pV qV tV, .slice uV vV xV, .slice yV zV bW, .slice dW gW hW, .slice iW jW kW, .slice pW qW tW, .slice uW vW xW, .slice yW zW bX, .slice dX gX hX, .string iX, .string jX, .string kX] 0 ∧ stillC h00 d0.heap.size [.int .i64 bS, .int .i64 dS, .bool gS, .bool hS, .bool iS, .slice jS kS pS, .slice qS tS uS, .slice vS xS yS, .slice zS bT dT, .slice gT hT iT, .slice jT kT pT, .slice qT tT uT, .slice vT xT yT, .slice zT bU dU, .slice gU hU iU, .slice jU kU pU, .string qU, .string tU, .string uU] 0 ∧ True) ∧
  let p02 := World.alloc h00 (.cells #[.int .i64 0, .int .i64 1] 3);
  (stillC p02 q2.heap.size [.int .i64 vU, .int .i64 xU, .bool yU, .bool zU, .bool bV, .slice dV gV hV, .slice iV jV kV, .slice pV qV tV, .slice uV vV xV, .slice yV zV bW, .slice dW gW hW, .slice iW jW kW, .slice pW qW tW, .slice uW vW xW, .slice yW zW bX, .slice dX gX hX, .string iX, .string jX, .string kX] 0 ∧ stillC p02 d0.heap.size [.int .i64 bS, .int .i64 dS, .bool gS, .bool hS, .bool iS, .slice jS kS pS, .slice qS tS uS, .slice vS xS yS, .slice zS bT dT, .slice gT hT iT, .slice jT kT pT, .slice qT tT uT, .slice vT xT yT, .slice zT bU dU, .slice gU hU iU, .slice jU kU pU, .string qU, .string tU, .string uU] 0 ∧ True) ∧
  ([.pointer (some ⟨d0.heap.size, 0, none⟩), .pointer (some ⟨q2.heap.size, 0, none⟩), .slice vE xE yE, .bool zE, .int .i64 bF, .slice pR qR tR, .bool uR, .int .i64 vR] : List Value) = ([.pointer (some ⟨d0.heap.size, 0, none⟩), .pointer (some ⟨q2.heap.size, 0, none⟩), .slice vE xE yE, .bool zE, .int .i64 bF, .slice pR qR tR, .bool uR, .int .i64 vR] : List Value) ∧ zR (.agg #[.slice i00 j00 k00, .slice p00 q00 t00, .slice u00 v00 x00, .slice y00 z00 b01, .slice d01 g01 h01, .slice i01 j01 k01, .slice p01 q01 t01, .slice u01 v01 x01, .slice y01 z01 b02, .slice d02 g02 h02, .slice i02 j02 k02]) (some ⟨xR.heap.size, 0, none⟩) 2 2 (some ⟨h00.heap.size, 0, none⟩) 2 2 p02) ∧
  (let q02 := World.alloc d00 (.cells #[.int .i64 0, .int .i64 1] 3);
  (stillC q02 q2.heap.size [.int .i64 vU, .int .i64 xU, .bool yU, .bool zU, .bool bV, .slice dV gV hV, .slice iV jV kV, .slice pV qV tV, .slice uV vV xV, .slice yV zV bW, .slice dW gW hW, .slice iW jW kW, .slice pW qW tW, .slice uW vW xW, .slice yW zW bX, .slice dX gX hX, .string iX, .string jX, .string kX] 0 ∧ stillC q02 d0.heap.size [.int .i64 bS, .int .i64 dS, .bool gS, .bool hS, .bool iS, .slice jS kS pS, .slice qS tS uS, .slice vS xS yS, .slice zS bT dT, .slice gT hT iT, .slice jT kT pT, .slice qT tT uT, .slice vT xT yT, .slice zT bU dU, .slice gU hU iU, .slice jU kU pU, .string qU, .string tU, .string uU] 0 ∧ True) ∧
  Calls Try.prog 24 #[] q02 fun t02 u02 =>
  ∃ v02 x02 y02 z02 b03 d03 g03 h03 i03 j03 k03 p03 q03 t03 u03 v03 x03 y03 z03 b04 d04 g04 h04 i04 j04 k04 p04 q04 t04 u04 v04 x04 y04,
  t02 = .returned (.agg #[.slice v02 x02 y02, .slice z02 b03 d03, .slice g03 h03 i03, .slice j03 k03 p03, .slice q03 t03 u03, .slice v03 x03 y03, .slice z03 b04 d04, .slice g04 h04 i04, .slice j04 k04 p04, .slice q04 t04 u04, .slice v04 x04 y04]) ∧
  (stillC u02 q2.heap.size [.int .i64 vU, .int .i64 xU, .bool yU, .bool zU, .bool bV, .slice dV gV hV, .slice iV jV kV, .slice pV qV tV, .slice uV vV xV, .slice yV zV bW, .slice dW gW hW, .slice iW jW kW, .slice pW qW tW, .slice uW vW xW, .slice yW zW bX, .slice dX gX hX, .string iX, .string jX, .string kX] 0 ∧ stillC u02 d0.heap.size [.int .i64 bS, .int .i64 dS, .bool gS, .bool hS, .bool iS, .slice jS kS pS, .slice qS tS uS, .slice vS xS yS, .slice zS bT dT, .slice gT hT iT, .slice jT kT pT, .slice qT tT uT, .slice vT xT yT, .slice zT bU dU, .slice gU hU iU, .slice jU kU pU, .string qU, .string tU, .string uU] 0 ∧ True) ∧
  ([.pointer (some ⟨d0.heap.size, 0, none⟩), .pointer (some ⟨q2.heap.size, 0, none⟩), .slice vE xE yE, .bool zE, .int .i64 bF, .slice pR qR tR, .bool uR, .int .i64 vR] : List Value) = ([.pointer (some ⟨d0.heap.size, 0, none⟩), .pointer (some ⟨q2.heap.size, 0, none⟩), .slice vE xE yE, .bool zE, .int .i64 bF, .slice pR qR tR, .bool uR, .int .i64 vR] : List Value) ∧ zR (.agg #[.slice v02 x02 y02, .slice z02 b03 d03, .slice g03 h03 i03, .slice j03 k03 p03, .slice q03 t03 u03, .slice v03 x03 y03, .slice z03 b04 d04, .slice g04 h04 i04, .slice j04 k04 p04, .slice q04 t04 u04, .slice v04 x04 y04]) (some ⟨xR.heap.size, 0, none⟩) 2 2 (some ⟨d00.heap.size, 0, none⟩) 2 2 u02) ∧ True) ∧
  (let z04 := World.alloc xR.drew (.cells #[.int .i64 0, .int .i64 1] 3);
  (stillC z04 q2.heap.size [.int .i64 vU, .int .i64 xU, .bool yU, .bool zU, .bool bV, .slice dV gV hV, .slice iV jV kV, .slice pV qV tV, .slice uV vV xV, .slice yV zV bW, .slice dW gW hW, .slice iW jW kW, .slice pW qW tW, .slice uW vW xW, .slice yW zW bX, .slice dX gX hX, .string iX, .string jX, .string kX] 0 ∧ stillC z04 d0.heap.size [.int .i64 bS, .int .i64 dS, .bool gS, .bool hS, .bool iS, .slice jS kS pS, .slice qS tS uS, .slice vS xS yS, .slice zS bT dT, .slice gT hT iT, .slice jT kT pT, .slice qT tT uT, .slice vT xT yT, .slice zT bU dU, .slice gU hU iU, .slice jU kU pU, .string qU, .string tU, .string uU] 0 ∧ True) ∧
  (Calls Try.prog 24 #[] z04 fun b05 d05 =>
  ∃ g05 h05 i05 j05 k05 p05 q05 t05 u05 v05 x05 y05 z05 b06 d06 g06 h06 i06 j06 k06 p06 q06 t06 u06 v06 x06 y06 z06 b07 d07 g07 h07 i07,
  b05 = .returned (.agg #[.slice g05 h05 i05, .slice j05 k05 p05, .slice q05 t05 u05, .slice v05 x05 y05, .slice z05 b06 d06, .slice g06 h06 i06, .slice j06 k06 p06, .slice q06 t06 u06, .slice v06 x06 y06, .slice z06 b07 d07, .slice g07 h07 i07]) ∧
  (stillC d05 q2.heap.size [.int .i64 vU, .int .i64 xU, .bool yU, .bool zU, .bool bV, .slice dV gV hV, .slice iV jV kV, .slice pV qV tV, .slice uV vV xV, .slice yV zV bW, .slice dW gW hW, .slice iW jW kW, .slice pW qW tW, .slice uW vW xW, .slice yW zW bX, .slice dX gX hX, .string iX, .string jX, .string kX] 0 ∧ stillC d05 d0.heap.size [.int .i64 bS, .int .i64 dS, .bool gS, .bool hS, .bool iS, .slice jS kS pS, .slice qS tS uS, .slice vS xS yS, .slice zS bT dT, .slice gT hT iT, .slice jT kT pT, .slice qT tT uT, .slice vT xT yT, .slice zT bU dU, .slice gU hU iU, .slice jU kU pU, .string qU, .string tU, .string uU] 0 ∧ True) ∧
  let j07 := World.alloc d05 (.cells #[.int .i64 bS, .int .i64 dS, .bool gS, .bool hS, .bool iS, .slice jS kS pS, .slice qS tS uS, .slice vS xS yS, .slice zS bT dT, .slice gT hT iT, .slice jT kT pT, .slice qT tT uT, .slice vT xT yT, .slice zT bU dU, .slice gU hU iU, .slice jU kU pU, .string qU, .string tU, .string uU, .int .i64 vU, .int .i64 xU, .bool yU, .bool zU, .bool bV, .slice dV gV hV, .slice iV jV kV, .slice pV qV tV, .slice uV vV xV, .slice yV zV bW, .slice dW gW hW, .slice iW jW kW, .slice pW qW tW, .slice uW vW xW, .slice yW zW bX, .slice dX gX hX, .string iX, .string jX, .string kX] 39);
  (stillC j07 q2.heap.size [.int .i64 vU, .int .i64 xU, .bool yU, .bool zU, .bool bV, .slice dV gV hV, .slice iV jV kV, .slice pV qV tV, .slice uV vV xV, .slice yV zV bW, .slice dW gW hW, .slice iW jW kW, .slice pW qW tW, .slice uW vW xW, .slice yW zW bX, .slice dX gX hX, .string iX, .string jX, .string kX] 0 ∧ stillC j07 d0.heap.size [.int .i64 bS, .int .i64 dS, .bool gS, .bool hS, .bool iS, .slice jS kS pS, .slice qS tS uS, .slice vS xS yS, .slice zS bT dT, .slice gT hT iT, .slice jT kT pT, .slice qT tT uT, .slice vT xT yT, .slice zT bU dU, .slice gU hU iU, .slice jU kU pU, .string qU, .string tU, .string uU] 0 ∧ True) ∧
  ([.pointer (some ⟨d0.heap.size, 0, none⟩), .pointer (some ⟨q2.heap.size, 0, none⟩), .slice vE xE yE, .bool zE, .int .i64 bF, .slice pR qR tR, .bool uR, .int .i64 vR] : List Value) = ([.pointer (some ⟨d0.heap.size, 0, none⟩), .pointer (some ⟨q2.heap.size, 0, none⟩), .slice vE xE yE, .bool zE, .int .i64 bF, .slice pR qR tR, .bool uR, .int .i64 vR] : List Value) ∧ zR (.agg #[.slice g05 h05 i05, .slice j05 k05 p05, .slice q05 t05 u05, .slice v05 x05 y05, .slice z05 b06 d06, .slice g06 h06 i06, .slice j06 k06 p06, .slice q06 t06 u06, .slice v06 x06 y06, .slice z06 b07 d07, .slice g07 h07 i07]) (some ⟨d05.heap.size, 0, none⟩) 2 2 (some ⟨xR.heap.size, 0, none⟩) 2 2 j07) ∧
  (let k07 := World.alloc z04 (.cells #[.int .i64 bS, .int .i64 dS, .bool gS, .bool hS, .bool iS, .slice jS kS pS, .slice qS tS uS, .slice vS xS yS, .slice zS bT dT, .slice gT hT iT, .slice jT kT pT, .slice qT tT uT, .slice vT xT yT, .slice zT bU dU, .slice gU hU iU, .slice jU kU pU, .string qU, .string tU, .string uU, .int .i64 vU, .int .i64 xU, .bool yU, .bool zU, .bool bV, .slice dV gV hV, .slice iV jV kV, .slice pV qV tV, .slice uV vV xV, .slice yV zV bW, .slice dW gW hW, .slice iW jW kW, .slice pW qW tW, .slice uW vW xW, .slice yW zW bX, .slice dX gX hX, .string iX, .string jX, .string kX] 39);
  (stillC k07 q2.heap.size [.int .i64 vU, .int .i64 xU, .bool yU, .bool zU, .bool bV, .slice dV gV hV, .slice iV jV kV, .slice pV qV tV, .slice uV vV xV, .slice yV zV bW, .slice dW gW hW, .slice iW jW kW, .slice pW qW tW, .slice uW vW xW, .slice yW zW bX, .slice dX gX hX, .string iX, .string jX, .string kX] 0 ∧ stillC k07 d0.heap.size [.int .i64 bS, .int .i64 dS, .bool gS, .bool hS, .bool iS, .slice jS kS pS, .slice qS tS uS, .slice vS xS yS, .slice zS bT dT, .slice gT hT iT, .slice jT kT pT, .slice qT tT uT, .slice vT xT yT, .slice zT bU dU, .slice gU hU iU, .slice jU kU pU, .string qU, .string tU, .string uU] 0 ∧ True) ∧
  Calls Try.prog 24 #[] k07 fun p07 q07 =>
  ∃ t07 u07 v07 x07 y07 z07 b08 d08 g08 h08 i08 j08 k08 p08 q08 t08 u08 v08 x08 y08 z08 b09 d09 g09 h09 i09 j09 k09 p09 q09 t09 u09 v09,
  p07 = .returned (.agg #[.slice t07 u07 v07, .slice x07 y07 z07, .slice b08 d08 g08, .slice h08 i08 j08, .slice k08 p08 q08, .slice t08 u08 v08, .slice x08 y08 z08, .slice b09 d09 g09, .slice h09 i09 j09, .slice k09 p09 q09, .slice t09 u09 v09]) ∧
  (stillC q07 q2.heap.size [.int .i64 vU, .int .i64 xU, .bool yU, .bool zU, .bool bV, .slice dV gV hV, .slice iV jV kV, .slice pV qV tV, .slice uV vV xV, .slice yV zV bW, .slice dW gW hW, .slice iW jW kW, .slice pW qW tW, .slice uW vW xW, .slice yW zW bX, .slice dX gX hX, .string iX, .string jX, .string kX] 0 ∧ stillC q07 d0.heap.size [.int .i64 bS, .int .i64 dS, .bool gS, .bool hS, .bool iS, .slice jS kS pS, .slice qS tS uS, .slice vS xS yS, .slice zS bT dT, .slice gT hT iT, .slice jT kT pT, .slice qT tT uT, .slice vT xT yT, .slice zT bU dU, .slice gU hU iU, .slice jU kU pU, .string qU, .string tU, .string uU] 0 ∧ True) ∧
  ([.pointer (some ⟨d0.heap.size, 0, none⟩), .pointer (some ⟨q2.heap.size, 0, none⟩), .slice vE xE yE, .bool zE, .int .i64 bF, .slice pR qR tR, .bool uR, .int .i64 vR] : List Value) = ([.pointer (some ⟨d0.heap.size, 0, none⟩), .pointer (some ⟨q2.heap.size, 0, none⟩), .slice vE xE yE, .bool zE, .int .i64 bF, .slice pR qR tR, .bool uR, .int .i64 vR] : List Value) ∧ zR (.agg #[.slice t07 u07 v07, .slice x07 y07 z07, .slice b08 d08 g08, .slice h08 i08 j08, .slice k08 p08 q08, .slice t08 u08 v08, .slice x08 y08 z08, .slice b09 d09 g09, .slice h09 i09 j09, .slice k09 p09 q09, .slice t09 u09 v09]) (some ⟨z04.heap.size, 0, none⟩) 2 2 (some ⟨xR.heap.size, 0, none⟩) 2 2 q07) ∧ True) ∧ True) ∧
  ∀ x09 : Env, ∀ y09 z09 b0A d0A g0A h0A i0A j0A, zR y09 z09 b0A d0A g0A h0A i0A j0A →
  ∃ k0A : Bool → World → Prop,
  (Calls Try.prog 16 #[y09, .slice z09 b0A d0A, .slice g0A h0A i0A] j0A fun p0A q0A =>
  ∃ t0A,
  p0A = .returned (.bool t0A) ∧
  (True) ∧
  ([.pointer (some ⟨d0.heap.size, 0, none⟩), .pointer (some ⟨q2.heap.size, 0, none⟩), .slice vE xE yE, .bool zE, .int .i64 bF, .slice pR qR tR, .bool uR, .int .i64 vR] : List Value) = ([.pointer (some ⟨d0.heap.size, 0, none⟩), .pointer (some ⟨q2.heap.size, 0, none⟩), .slice vE xE yE, .bool zE, .int .i64 bF, .slice pR qR tR, .bool uR, .int .i64 vR] : List Value) ∧ k0A t0A q0A) ∧
  ∀ u0A : Env, ∀ v0A x0A, k0A v0A x0A →
  ∃ y0A : Value → Option Addr → Nat → Nat → Option Addr → Nat → Nat → World → Prop,
  (sel v0A (
  ∃ z0A,
  x0A.cell? ⟨d0.heap.size, 0, none⟩ = some (.int .i64 z0A) ∧
  ∃ b0B,
  x0A.cell? ⟨d0.heap.size, 1, none⟩ = some (.int .i64 b0B) ∧
  ∃ d0B,
  x0A.cell? ⟨d0.heap.size, 2, none⟩ = some (.bool d0B) ∧
  ∃ g0B,
  x0A.cell? ⟨d0.heap.size, 3, none⟩ = some (.bool g0B) ∧
  ∃ h0B,
  x0A.cell? ⟨d0.heap.size, 4, none⟩ = some (.bool h0B) ∧
  ∃ i0B j0B k0B,
  x0A.cell? ⟨d0.heap.size, 5, none⟩ = some (.slice i0B j0B k0B) ∧
  ∃ p0B q0B t0B,
  x0A.cell? ⟨d0.heap.size, 6, none⟩ = some (.slice p0B q0B t0B) ∧
  ∃ u0B v0B x0B,
  x0A.cell? ⟨d0.heap.size, 7, none⟩ = some (.slice u0B v0B x0B) ∧
  ∃ y0B z0B b0C,
  x0A.cell? ⟨d0.heap.size, 8, none⟩ = some (.slice y0B z0B b0C) ∧
  ∃ d0C g0C h0C,
  x0A.cell? ⟨d0.heap.size, 9, none⟩ = some (.slice d0C g0C h0C) ∧
  ∃ i0C j0C k0C,
  x0A.cell? ⟨d0.heap.size, 10, none⟩ = some (.slice i0C j0C k0C) ∧
  ∃ p0C q0C t0C,
  x0A.cell? ⟨d0.heap.size, 11, none⟩ = some (.slice p0C q0C t0C) ∧
  ∃ u0C v0C x0C,
  x0A.cell? ⟨d0.heap.size, 12, none⟩ = some (.slice u0C v0C x0C) ∧
  ∃ y0C z0C b0D,
  x0A.cell? ⟨d0.heap.size, 13, none⟩ = some (.slice y0C z0C b0D) ∧
  ∃ d0D g0D h0D,
  x0A.cell? ⟨d0.heap.size, 14, none⟩ = some (.slice d0D g0D h0D) ∧
  ∃ i0D j0D k0D,
  x0A.cell? ⟨d0.heap.size, 15, none⟩ = some (.slice i0D j0D k0D) ∧
  ∃ p0D,
  x0A.cell? ⟨d0.heap.size, 16, none⟩ = some (.string p0D) ∧
  ∃ q0D,
  x0A.cell? ⟨d0.heap.size, 17, none⟩ = some (.string q0D) ∧
  ∃ t0D,
  x0A.cell? ⟨d0.heap.size, 18, none⟩ = some (.string t0D) ∧
  ∃ u0D,
  x0A.cell? ⟨q2.heap.size, 0, none⟩ = some (.int .i64 u0D) ∧
  ∃ v0D,
  x0A.cell? ⟨q2.heap.size, 1, none⟩ = some (.int .i64 v0D) ∧
  ∃ x0D,
  x0A.cell? ⟨q2.heap.size, 2, none⟩ = some (.bool x0D) ∧
  ∃ y0D,
  x0A.cell? ⟨q2.heap.size, 3, none⟩ = some (.bool y0D) ∧
  ∃ z0D,
  x0A.cell? ⟨q2.heap.size, 4, none⟩ = some (.bool z0D) ∧
  ∃ b0E d0E g0E,
  x0A.cell? ⟨q2.heap.size, 5, none⟩ = some (.slice b0E d0E g0E) ∧
  ∃ h0E i0E j0E,
  x0A.cell? ⟨q2.heap.size, 6, none⟩ = some (.slice h0E i0E j0E) ∧
  ∃ k0E p0E q0E,
  x0A.cell? ⟨q2.heap.size, 7, none⟩ = some (.slice k0E p0E q0E) ∧
  ∃ t0E u0E v0E,
  x0A.cell? ⟨q2.heap.size, 8, none⟩ = some (.slice t0E u0E v0E) ∧
  ∃ x0E y0E z0E,
  x0A.cell? ⟨q2.heap.size, 9, none⟩ = some (.slice x0E y0E z0E) ∧
  ∃ b0F d0F g0F,
  x0A.cell? ⟨q2.heap.size, 10, none⟩ = some (.slice b0F d0F g0F) ∧
  ∃ h0F i0F j0F,
  x0A.cell? ⟨q2.heap.size, 11, none⟩ = some (.slice h0F i0F j0F) ∧
  ∃ k0F p0F q0F,
  x0A.cell? ⟨q2.heap.size, 12, none⟩ = some (.slice k0F p0F q0F) ∧
  ∃ t0F u0F v0F,
  x0A.cell? ⟨q2.heap.size, 13, none⟩ = some (.slice t0F u0F v0F) ∧
  ∃ x0F y0F z0F,
  x0A.cell? ⟨q2.heap.size, 14, none⟩ = some (.slice x0F y0F z0F) ∧
  ∃ b0G d0G g0G,
  x0A.cell? ⟨q2.heap.size, 15, none⟩ = some (.slice b0G d0G g0G) ∧
  ∃ h0G,
  x0A.cell? ⟨q2.heap.size, 16, none⟩ = some (.string h0G) ∧
  ∃ i0G,
  x0A.cell? ⟨q2.heap.size, 17, none⟩ = some (.string i0G) ∧
  ∃ j0G,
  x0A.cell? ⟨q2.heap.size, 18, none⟩ = some (.string j0G) ∧
  (Calls Try.prog 24 #[] x0A fun k0G p0G =>
  ∃ q0G t0G u0G v0G x0G y0G z0G b0H d0H g0H h0H i0H j0H k0H p0H q0H t0H u0H v0H x0H y0H z0H b0I d0I g0I h0I i0I j0I k0I p0I q0I t0I u0I,
  k0G = .returned (.agg #[.slice q0G t0G u0G, .slice v0G x0G y0G, .slice z0G b0H d0H, .slice g0H h0H i0H, .slice j0H k0H p0H, .slice q0H t0H u0H, .slice v0H x0H y0H, .slice z0H b0I d0I, .slice g0I h0I i0I, .slice j0I k0I p0I, .slice q0I t0I u0I]) ∧
  (stillC p0G q2.heap.size [.int .i64 u0D, .int .i64 v0D, .bool x0D, .bool y0D, .bool z0D, .slice b0E d0E g0E, .slice h0E i0E j0E, .slice k0E p0E q0E, .slice t0E u0E v0E, .slice x0E y0E z0E, .slice b0F d0F g0F, .slice h0F i0F j0F, .slice k0F p0F q0F, .slice t0F u0F v0F, .slice x0F y0F z0F, .slice b0G d0G g0G, .string h0G, .string i0G, .string j0G] 0 ∧ stillC p0G d0.heap.size [.int .i64 z0A, .int .i64 b0B, .bool d0B, .bool g0B, .bool h0B, .slice i0B j0B k0B, .slice p0B q0B t0B, .slice u0B v0B x0B, .slice y0B z0B b0C, .slice d0C g0C h0C, .slice i0C j0C k0C, .slice p0C q0C t0C, .slice u0C v0C x0C, .slice y0C z0C b0D, .slice d0D g0D h0D, .slice i0D j0D k0D, .string p0D, .string q0D, .string t0D] 0 ∧ True) ∧
  (let v0I := World.alloc p0G (.cells #[.int .i64 z0A, .int .i64 b0B, .bool d0B, .bool g0B, .bool h0B, .slice i0B j0B k0B, .slice p0B q0B t0B, .slice u0B v0B x0B, .slice y0B z0B b0C, .slice d0C g0C h0C, .slice i0C j0C k0C, .slice p0C q0C t0C, .slice u0C v0C x0C, .slice y0C z0C b0D, .slice d0D g0D h0D, .slice i0D j0D k0D, .string p0D, .string q0D, .string t0D, .int .i64 u0D, .int .i64 v0D, .bool x0D, .bool y0D, .bool z0D, .slice b0E d0E g0E, .slice h0E i0E j0E, .slice k0E p0E q0E, .slice t0E u0E v0E, .slice x0E y0E z0E, .slice b0F d0F g0F, .slice h0F i0F j0F, .slice k0F p0F q0F, .slice t0F u0F v0F, .slice x0F y0F z0F, .slice b0G d0G g0G, .string h0G, .string i0G, .string j0G] 39);
  (stillC v0I q2.heap.size [.int .i64 u0D, .int .i64 v0D, .bool x0D, .bool y0D, .bool z0D, .slice b0E d0E g0E, .slice h0E i0E j0E, .slice k0E p0E q0E, .slice t0E u0E v0E, .slice x0E y0E z0E, .slice b0F d0F g0F, .slice h0F i0F j0F, .slice k0F p0F q0F, .slice t0F u0F v0F, .slice x0F y0F z0F, .slice b0G d0G g0G, .string h0G, .string i0G, .string j0G] 0 ∧ stillC v0I d0.heap.size [.int .i64 z0A, .int .i64 b0B, .bool d0B, .bool g0B, .bool h0B, .slice i0B j0B k0B, .slice p0B q0B t0B, .slice u0B v0B x0B, .slice y0B z0B b0C, .slice d0C g0C h0C, .slice i0C j0C k0C, .slice p0C q0C t0C, .slice u0C v0C x0C, .slice y0C z0C b0D, .slice d0D g0D h0D, .slice i0D j0D k0D, .string p0D, .string q0D, .string t0D] 0 ∧ True) ∧
  let x0I := World.alloc v0I (.cells #[.int .i64 1, .int .i64 0] 3);
  (stillC x0I q2.heap.size [.int .i64 u0D, .int .i64 v0D, .bool x0D, .bool y0D, .bool z0D, .slice b0E d0E g0E, .slice h0E i0E j0E, .slice k0E p0E q0E, .slice t0E u0E v0E, .slice x0E y0E z0E, .slice b0F d0F g0F, .slice h0F i0F j0F, .slice k0F p0F q0F, .slice t0F u0F v0F, .slice x0F y0F z0F, .slice b0G d0G g0G, .string h0G, .string i0G, .string j0G] 0 ∧ stillC x0I d0.heap.size [.int .i64 z0A, .int .i64 b0B, .bool d0B, .bool g0B, .bool h0B, .slice i0B j0B k0B, .slice p0B q0B t0B, .slice u0B v0B x0B, .slice y0B z0B b0C, .slice d0C g0C h0C, .slice i0C j0C k0C, .slice p0C q0C t0C, .slice u0C v0C x0C, .slice y0C z0C b0D, .slice d0D g0D h0D, .slice i0D j0D k0D, .string p0D, .string q0D, .string t0D] 0 ∧ True) ∧
  ([.slice vE xE yE, .bool zE, .int .i64 bF, .slice pR qR tR, .bool uR, .int .i64 vR, .bool true] : List Value) = ([.slice vE xE yE, .bool zE, .int .i64 bF, .slice pR qR tR, .bool uR, .int .i64 vR, .bool v0A] : List Value) ∧ y0A (.agg #[.slice q0G t0G u0G, .slice v0G x0G y0G, .slice z0G b0H d0H, .slice g0H h0H i0H, .slice j0H k0H p0H, .slice q0H t0H u0H, .slice v0H x0H y0H, .slice z0H b0I d0I, .slice g0I h0I i0I, .slice j0I k0I p0I, .slice q0I t0I u0I]) (some ⟨p0G.heap.size, 0, none⟩) 2 2 (some ⟨v0I.heap.size, 0, none⟩) 2 2 x0I) ∧
  (let y0I := World.alloc p0G (.cells #[.int .i64 1, .int .i64 0] 3);
  (stillC y0I q2.heap.size [.int .i64 u0D, .int .i64 v0D, .bool x0D, .bool y0D, .bool z0D, .slice b0E d0E g0E, .slice h0E i0E j0E, .slice k0E p0E q0E, .slice t0E u0E v0E, .slice x0E y0E z0E, .slice b0F d0F g0F, .slice h0F i0F j0F, .slice k0F p0F q0F, .slice t0F u0F v0F, .slice x0F y0F z0F, .slice b0G d0G g0G, .string h0G, .string i0G, .string j0G] 0 ∧ stillC y0I d0.heap.size [.int .i64 z0A, .int .i64 b0B, .bool d0B, .bool g0B, .bool h0B, .slice i0B j0B k0B, .slice p0B q0B t0B, .slice u0B v0B x0B, .slice y0B z0B b0C, .slice d0C g0C h0C, .slice i0C j0C k0C, .slice p0C q0C t0C, .slice u0C v0C x0C, .slice y0C z0C b0D, .slice d0D g0D h0D, .slice i0D j0D k0D, .string p0D, .string q0D, .string t0D] 0 ∧ True) ∧
  let z0I := World.alloc y0I (.cells #[.int .i64 z0A, .int .i64 b0B, .bool d0B, .bool g0B, .bool h0B, .slice i0B j0B k0B, .slice p0B q0B t0B, .slice u0B v0B x0B, .slice y0B z0B b0C, .slice d0C g0C h0C, .slice i0C j0C k0C, .slice p0C q0C t0C, .slice u0C v0C x0C, .slice y0C z0C b0D, .slice d0D g0D h0D, .slice i0D j0D k0D, .string p0D, .string q0D, .string t0D, .int .i64 u0D, .int .i64 v0D, .bool x0D, .bool y0D, .bool z0D, .slice b0E d0E g0E, .slice h0E i0E j0E, .slice k0E p0E q0E, .slice t0E u0E v0E, .slice x0E y0E z0E, .slice b0F d0F g0F, .slice h0F i0F j0F, .slice k0F p0F q0F, .slice t0F u0F v0F, .slice x0F y0F z0F, .slice b0G d0G g0G, .string h0G, .string i0G, .string j0G] 39);
  (stillC z0I q2.heap.size [.int .i64 u0D, .int .i64 v0D, .bool x0D, .bool y0D, .bool z0D, .slice b0E d0E g0E, .slice h0E i0E j0E, .slice k0E p0E q0E, .slice t0E u0E v0E, .slice x0E y0E z0E, .slice b0F d0F g0F, .slice h0F i0F j0F, .slice k0F p0F q0F, .slice t0F u0F v0F, .slice x0F y0F z0F, .slice b0G d0G g0G, .string h0G, .string i0G, .string j0G] 0 ∧ stillC z0I d0.heap.size [.int .i64 z0A, .int .i64 b0B, .bool d0B, .bool g0B, .bool h0B, .slice i0B j0B k0B, .slice p0B q0B t0B, .slice u0B v0B x0B, .slice y0B z0B b0C, .slice d0C g0C h0C, .slice i0C j0C k0C, .slice p0C q0C t0C, .slice u0C v0C x0C, .slice y0C z0C b0D, .slice d0D g0D h0D, .slice i0D j0D k0D, .string p0D, .string q0D, .string t0D] 0 ∧ True) ∧
  ([.slice vE xE yE, .bool zE, .int .i64 bF, .slice pR qR tR, .bool uR, .int .i64 vR, .bool true] : List Value) = ([.slice vE xE yE, .bool zE, .int .i64 bF, .slice pR qR tR, .bool uR, .int .i64 vR, .bool v0A] : List Value) ∧ y0A (.agg #[.slice q0G t0G u0G, .slice v0G x0G y0G, .slice z0G b0H d0H, .slice g0H h0H i0H, .slice j0H k0H p0H, .slice q0H t0H u0H, .slice v0H x0H y0H, .slice z0H b0I d0I, .slice g0I h0I i0I, .slice j0I k0I p0I, .slice q0I t0I u0I]) (some ⟨y0I.heap.size, 0, none⟩) 2 2 (some ⟨p0G.heap.size, 0, none⟩) 2 2 z0I) ∧ True) ∧
  (let b0J := World.alloc x0A (.cells #[.int .i64 z0A, .int .i64 b0B, .bool d0B, .bool g0B, .bool h0B, .slice i0B j0B k0B, .slice p0B q0B t0B, .slice u0B v0B x0B, .slice y0B z0B b0C, .slice d0C g0C h0C, .slice i0C j0C k0C, .slice p0C q0C t0C, .slice u0C v0C x0C, .slice y0C z0C b0D, .slice d0D g0D h0D, .slice i0D j0D k0D, .string p0D, .string q0D, .string t0D, .int .i64 u0D, .int .i64 v0D, .bool x0D, .bool y0D, .bool z0D, .slice b0E d0E g0E, .slice h0E i0E j0E, .slice k0E p0E q0E, .slice t0E u0E v0E, .slice x0E y0E z0E, .slice b0F d0F g0F, .slice h0F i0F j0F, .slice k0F p0F q0F, .slice t0F u0F v0F, .slice x0F y0F z0F, .slice b0G d0G g0G, .string h0G, .string i0G, .string j0G] 39);
  (stillC b0J q2.heap.size [.int .i64 u0D, .int .i64 v0D, .bool x0D, .bool y0D, .bool z0D, .slice b0E d0E g0E, .slice h0E i0E j0E, .slice k0E p0E q0E, .slice t0E u0E v0E, .slice x0E y0E z0E, .slice b0F d0F g0F, .slice h0F i0F j0F, .slice k0F p0F q0F, .slice t0F u0F v0F, .slice x0F y0F z0F, .slice b0G d0G g0G, .string h0G, .string i0G, .string j0G] 0 ∧ stillC b0J d0.heap.size [.int .i64 z0A, .int .i64 b0B, .bool d0B, .bool g0B, .bool h0B, .slice i0B j0B k0B, .slice p0B q0B t0B, .slice u0B v0B x0B, .slice y0B z0B b0C, .slice d0C g0C h0C, .slice i0C j0C k0C, .slice p0C q0C t0C, .slice u0C v0C x0C, .slice y0C z0C b0D, .slice d0D g0D h0D, .slice i0D j0D k0D, .string p0D, .string q0D, .string t0D] 0 ∧ True) ∧
  (Calls Try.prog 24 #[] b0J fun d0J g0J =>
  ∃ h0J i0J j0J k0J p0J q0J t0J u0J v0J x0J y0J z0J b0K d0K g0K h0K i0K j0K k0K p0K q0K t0K u0K v0K x0K y0K z0K b0L d0L g0L h0L i0L j0L,
  d0J = .returned (.agg #[.slice h0J i0J j0J, .slice k0J p0J q0J, .slice t0J u0J v0J, .slice x0J y0J z0J, .slice b0K d0K g0K, .slice h0K i0K j0K, .slice k0K p0K q0K, .slice t0K u0K v0K, .slice x0K y0K z0K, .slice b0L d0L g0L, .slice h0L i0L j0L]) ∧
  (stillC g0J q2.heap.size [.int .i64 u0D, .int .i64 v0D, .bool x0D, .bool y0D, .bool z0D, .slice b0E d0E g0E, .slice h0E i0E j0E, .slice k0E p0E q0E, .slice t0E u0E v0E, .slice x0E y0E z0E, .slice b0F d0F g0F, .slice h0F i0F j0F, .slice k0F p0F q0F, .slice t0F u0F v0F, .slice x0F y0F z0F, .slice b0G d0G g0G, .string h0G, .string i0G, .string j0G] 0 ∧ stillC g0J d0.heap.size [.int .i64 z0A, .int .i64 b0B, .bool d0B, .bool g0B, .bool h0B, .slice i0B j0B k0B, .slice p0B q0B t0B, .slice u0B v0B x0B, .slice y0B z0B b0C, .slice d0C g0C h0C, .slice i0C j0C k0C, .slice p0C q0C t0C, .slice u0C v0C x0C, .slice y0C z0C b0D, .slice d0D g0D h0D, .slice i0D j0D k0D, .string p0D, .string q0D, .string t0D] 0 ∧ True) ∧
  let k0L := World.alloc g0J (.cells #[.int .i64 1, .int .i64 0] 3);
  (stillC k0L q2.heap.size [.int .i64 u0D, .int .i64 v0D, .bool x0D, .bool y0D, .bool z0D, .slice b0E d0E g0E, .slice h0E i0E j0E, .slice k0E p0E q0E, .slice t0E u0E v0E, .slice x0E y0E z0E, .slice b0F d0F g0F, .slice h0F i0F j0F, .slice k0F p0F q0F, .slice t0F u0F v0F, .slice x0F y0F z0F, .slice b0G d0G g0G, .string h0G, .string i0G, .string j0G] 0 ∧ stillC k0L d0.heap.size [.int .i64 z0A, .int .i64 b0B, .bool d0B, .bool g0B, .bool h0B, .slice i0B j0B k0B, .slice p0B q0B t0B, .slice u0B v0B x0B, .slice y0B z0B b0C, .slice d0C g0C h0C, .slice i0C j0C k0C, .slice p0C q0C t0C, .slice u0C v0C x0C, .slice y0C z0C b0D, .slice d0D g0D h0D, .slice i0D j0D k0D, .string p0D, .string q0D, .string t0D] 0 ∧ True) ∧
  ([.slice vE xE yE, .bool zE, .int .i64 bF, .slice pR qR tR, .bool uR, .int .i64 vR, .bool true] : List Value) = ([.slice vE xE yE, .bool zE, .int .i64 bF, .slice pR qR tR, .bool uR, .int .i64 vR, .bool v0A] : List Value) ∧ y0A (.agg #[.slice h0J i0J j0J, .slice k0J p0J q0J, .slice t0J u0J v0J, .slice x0J y0J z0J, .slice b0K d0K g0K, .slice h0K i0K j0K, .slice k0K p0K q0K, .slice t0K u0K v0K, .slice x0K y0K z0K, .slice b0L d0L g0L, .slice h0L i0L j0L]) (some ⟨x0A.heap.size, 0, none⟩) 2 2 (some ⟨g0J.heap.size, 0, none⟩) 2 2 k0L) ∧
  (let p0L := World.alloc b0J (.cells #[.int .i64 1, .int .i64 0] 3);
  (stillC p0L q2.heap.size [.int .i64 u0D, .int .i64 v0D, .bool x0D, .bool y0D, .bool z0D, .slice b0E d0E g0E, .slice h0E i0E j0E, .slice k0E p0E q0E, .slice t0E u0E v0E, .slice x0E y0E z0E, .slice b0F d0F g0F, .slice h0F i0F j0F, .slice k0F p0F q0F, .slice t0F u0F v0F, .slice x0F y0F z0F, .slice b0G d0G g0G, .string h0G, .string i0G, .string j0G] 0 ∧ stillC p0L d0.heap.size [.int .i64 z0A, .int .i64 b0B, .bool d0B, .bool g0B, .bool h0B, .slice i0B j0B k0B, .slice p0B q0B t0B, .slice u0B v0B x0B, .slice y0B z0B b0C, .slice d0C g0C h0C, .slice i0C j0C k0C, .slice p0C q0C t0C, .slice u0C v0C x0C, .slice y0C z0C b0D, .slice d0D g0D h0D, .slice i0D j0D k0D, .string p0D, .string q0D, .string t0D] 0 ∧ True) ∧
  Calls Try.prog 24 #[] p0L fun q0L t0L =>
  ∃ u0L v0L x0L y0L z0L b0M d0M g0M h0M i0M j0M k0M p0M q0M t0M u0M v0M x0M y0M z0M b0N d0N g0N h0N i0N j0N k0N p0N q0N t0N u0N v0N x0N,
  q0L = .returned (.agg #[.slice u0L v0L x0L, .slice y0L z0L b0M, .slice d0M g0M h0M, .slice i0M j0M k0M, .slice p0M q0M t0M, .slice u0M v0M x0M, .slice y0M z0M b0N, .slice d0N g0N h0N, .slice i0N j0N k0N, .slice p0N q0N t0N, .slice u0N v0N x0N]) ∧
  (stillC t0L q2.heap.size [.int .i64 u0D, .int .i64 v0D, .bool x0D, .bool y0D, .bool z0D, .slice b0E d0E g0E, .slice h0E i0E j0E, .slice k0E p0E q0E, .slice t0E u0E v0E, .slice x0E y0E z0E, .slice b0F d0F g0F, .slice h0F i0F j0F, .slice k0F p0F q0F, .slice t0F u0F v0F, .slice x0F y0F z0F, .slice b0G d0G g0G, .string h0G, .string i0G, .string j0G] 0 ∧ stillC t0L d0.heap.size [.int .i64 z0A, .int .i64 b0B, .bool d0B, .bool g0B, .bool h0B, .slice i0B j0B k0B, .slice p0B q0B t0B, .slice u0B v0B x0B, .slice y0B z0B b0C, .slice d0C g0C h0C, .slice i0C j0C k0C, .slice p0C q0C t0C, .slice u0C v0C x0C, .slice y0C z0C b0D, .slice d0D g0D h0D, .slice i0D j0D k0D, .string p0D, .string q0D, .string t0D] 0 ∧ True) ∧
  ([.slice vE xE yE, .bool zE, .int .i64 bF, .slice pR qR tR, .bool uR, .int .i64 vR, .bool true] : List Value) = ([.slice vE xE yE, .bool zE, .int .i64 bF, .slice pR qR tR, .bool uR, .int .i64 vR, .bool v0A] : List Value) ∧ y0A (.agg #[.slice u0L v0L x0L, .slice y0L z0L b0M, .slice d0M g0M h0M, .slice i0M j0M k0M, .slice p0M q0M t0M, .slice u0M v0M x0M, .slice y0M z0M b0N, .slice d0N g0N h0N, .slice i0N j0N k0N, .slice p0N q0N t0N, .slice u0N v0N x0N]) (some ⟨x0A.heap.size, 0, none⟩) 2 2 (some ⟨b0J.heap.size, 0, none⟩) 2 2 t0L) ∧ True) ∧
  (let y0N := World.alloc x0A (.cells #[.int .i64 1, .int .i64 0] 3);
  (stillC y0N q2.heap.size [.int .i64 u0D, .int .i64 v0D, .bool x0D, .bool y0D, .bool z0D, .slice b0E d0E g0E, .slice h0E i0E j0E, .slice k0E p0E q0E, .slice t0E u0E v0E, .slice x0E y0E z0E, .slice b0F d0F g0F, .slice h0F i0F j0F, .slice k0F p0F q0F, .slice t0F u0F v0F, .slice x0F y0F z0F, .slice b0G d0G g0G, .string h0G, .string i0G, .string j0G] 0 ∧ stillC y0N d0.heap.size [.int .i64 z0A, .int .i64 b0B, .bool d0B, .bool g0B, .bool h0B, .slice i0B j0B k0B, .slice p0B q0B t0B, .slice u0B v0B x0B, .slice y0B z0B b0C, .slice d0C g0C h0C, .slice i0C j0C k0C, .slice p0C q0C t0C, .slice u0C v0C x0C, .slice y0C z0C b0D, .slice d0D g0D h0D, .slice i0D j0D k0D, .string p0D, .string q0D, .string t0D] 0 ∧ True) ∧
  (Calls Try.prog 24 #[] y0N fun z0N b0P =>
  ∃ d0P g0P h0P i0P j0P k0P p0P q0P t0P u0P v0P x0P y0P z0P b0Q d0Q g0Q h0Q i0Q j0Q k0Q p0Q q0Q t0Q u0Q v0Q x0Q y0Q z0Q b0R d0R g0R h0R,
  z0N = .returned (.agg #[.slice d0P g0P h0P, .slice i0P j0P k0P, .slice p0P q0P t0P, .slice u0P v0P x0P, .slice y0P z0P b0Q, .slice d0Q g0Q h0Q, .slice i0Q j0Q k0Q, .slice p0Q q0Q t0Q, .slice u0Q v0Q x0Q, .slice y0Q z0Q b0R, .slice d0R g0R h0R]) ∧
  (stillC b0P q2.heap.size [.int .i64 u0D, .int .i64 v0D, .bool x0D, .bool y0D, .bool z0D, .slice b0E d0E g0E, .slice h0E i0E j0E, .slice k0E p0E q0E, .slice t0E u0E v0E, .slice x0E y0E z0E, .slice b0F d0F g0F, .slice h0F i0F j0F, .slice k0F p0F q0F, .slice t0F u0F v0F, .slice x0F y0F z0F, .slice b0G d0G g0G, .string h0G, .string i0G, .string j0G] 0 ∧ stillC b0P d0.heap.size [.int .i64 z0A, .int .i64 b0B, .bool d0B, .bool g0B, .bool h0B, .slice i0B j0B k0B, .slice p0B q0B t0B, .slice u0B v0B x0B, .slice y0B z0B b0C, .slice d0C g0C h0C, .slice i0C j0C k0C, .slice p0C q0C t0C, .slice u0C v0C x0C, .slice y0C z0C b0D, .slice d0D g0D h0D, .slice i0D j0D k0D, .string p0D, .string q0D, .string t0D] 0 ∧ True) ∧
  let i0R := World.alloc b0P (.cells #[.int .i64 z0A, .int .i64 b0B, .bool d0B, .bool g0B, .bool h0B, .slice i0B j0B k0B, .slice p0B q0B t0B, .slice u0B v0B x0B, .slice y0B z0B b0C, .slice d0C g0C h0C, .slice i0C j0C k0C, .slice p0C q0C t0C, .slice u0C v0C x0C, .slice y0C z0C b0D, .slice d0D g0D h0D, .slice i0D j0D k0D, .string p0D, .string q0D, .string t0D, .int .i64 u0D, .int .i64 v0D, .bool x0D, .bool y0D, .bool z0D, .slice b0E d0E g0E, .slice h0E i0E j0E, .slice k0E p0E q0E, .slice t0E u0E v0E, .slice x0E y0E z0E, .slice b0F d0F g0F, .slice h0F i0F j0F, .slice k0F p0F q0F, .slice t0F u0F v0F, .slice x0F y0F z0F, .slice b0G d0G g0G, .string h0G, .string i0G, .string j0G] 39);
  (stillC i0R q2.heap.size [.int .i64 u0D, .int .i64 v0D, .bool x0D, .bool y0D, .bool z0D, .slice b0E d0E g0E, .slice h0E i0E j0E, .slice k0E p0E q0E, .slice t0E u0E v0E, .slice x0E y0E z0E, .slice b0F d0F g0F, .slice h0F i0F j0F, .slice k0F p0F q0F, .slice t0F u0F v0F, .slice x0F y0F z0F, .slice b0G d0G g0G, .string h0G, .string i0G, .string j0G] 0 ∧ stillC i0R d0.heap.size [.int .i64 z0A, .int .i64 b0B, .bool d0B, .bool g0B, .bool h0B, .slice i0B j0B k0B, .slice p0B q0B t0B, .slice u0B v0B x0B, .slice y0B z0B b0C, .slice d0C g0C h0C, .slice i0C j0C k0C, .slice p0C q0C t0C, .slice u0C v0C x0C, .slice y0C z0C b0D, .slice d0D g0D h0D, .slice i0D j0D k0D, .string p0D, .string q0D, .string t0D] 0 ∧ True) ∧
  ([.slice vE xE yE, .bool zE, .int .i64 bF, .slice pR qR tR, .bool uR, .int .i64 vR, .bool true] : List Value) = ([.slice vE xE yE, .bool zE, .int .i64 bF, .slice pR qR tR, .bool uR, .int .i64 vR, .bool v0A] : List Value) ∧ y0A (.agg #[.slice d0P g0P h0P, .slice i0P j0P k0P, .slice p0P q0P t0P, .slice u0P v0P x0P, .slice y0P z0P b0Q, .slice d0Q g0Q h0Q, .slice i0Q j0Q k0Q, .slice p0Q q0Q t0Q, .slice u0Q v0Q x0Q, .slice y0Q z0Q b0R, .slice d0R g0R h0R]) (some ⟨b0P.heap.size, 0, none⟩) 2 2 (some ⟨x0A.heap.size, 0, none⟩) 2 2 i0R) ∧
  (let j0R := World.alloc y0N (.cells #[.int .i64 z0A, .int .i64 b0B, .bool d0B, .bool g0B, .bool h0B, .slice i0B j0B k0B, .slice p0B q0B t0B, .slice u0B v0B x0B, .slice y0B z0B b0C, .slice d0C g0C h0C, .slice i0C j0C k0C, .slice p0C q0C t0C, .slice u0C v0C x0C, .slice y0C z0C b0D, .slice d0D g0D h0D, .slice i0D j0D k0D, .string p0D, .string q0D, .string t0D, .int .i64 u0D, .int .i64 v0D, .bool x0D, .bool y0D, .bool z0D, .slice b0E d0E g0E, .slice h0E i0E j0E, .slice k0E p0E q0E, .slice t0E u0E v0E, .slice x0E y0E z0E, .slice b0F d0F g0F, .slice h0F i0F j0F, .slice k0F p0F q0F, .slice t0F u0F v0F, .slice x0F y0F z0F, .slice b0G d0G g0G, .string h0G, .string i0G, .string j0G] 39);
  (stillC j0R q2.heap.size [.int .i64 u0D, .int .i64 v0D, .bool x0D, .bool y0D, .bool z0D, .slice b0E d0E g0E, .slice h0E i0E j0E, .slice k0E p0E q0E, .slice t0E u0E v0E, .slice x0E y0E z0E, .slice b0F d0F g0F, .slice h0F i0F j0F, .slice k0F p0F q0F, .slice t0F u0F v0F, .slice x0F y0F z0F, .slice b0G d0G g0G, .string h0G, .string i0G, .string j0G] 0 ∧ stillC j0R d0.heap.size [.int .i64 z0A, .int .i64 b0B, .bool d0B, .bool g0B, .bool h0B, .slice i0B j0B k0B, .slice p0B q0B t0B, .slice u0B v0B x0B, .slice y0B z0B b0C, .slice d0C g0C h0C, .slice i0C j0C k0C, .slice p0C q0C t0C, .slice u0C v0C x0C, .slice y0C z0C b0D, .slice d0D g0D h0D, .slice i0D j0D k0D, .string p0D, .string q0D, .string t0D] 0 ∧ True) ∧
  Calls Try.prog 24 #[] j0R fun k0R p0R =>
  ∃ q0R t0R u0R v0R x0R y0R z0R b0S d0S g0S h0S i0S j0S k0S p0S q0S t0S u0S v0S x0S y0S z0S b0T d0T g0T h0T i0T j0T k0T p0T q0T t0T u0T,
  k0R = .returned (.agg #[.slice q0R t0R u0R, .slice v0R x0R y0R, .slice z0R b0S d0S, .slice g0S h0S i0S, .slice j0S k0S p0S, .slice q0S t0S u0S, .slice v0S x0S y0S, .slice z0S b0T d0T, .slice g0T h0T i0T, .slice j0T k0T p0T, .slice q0T t0T u0T]) ∧
  (stillC p0R q2.heap.size [.int .i64 u0D, .int .i64 v0D, .bool x0D, .bool y0D, .bool z0D, .slice b0E d0E g0E, .slice h0E i0E j0E, .slice k0E p0E q0E, .slice t0E u0E v0E, .slice x0E y0E z0E, .slice b0F d0F g0F, .slice h0F i0F j0F, .slice k0F p0F q0F, .slice t0F u0F v0F, .slice x0F y0F z0F, .slice b0G d0G g0G, .string h0G, .string i0G, .string j0G] 0 ∧ stillC p0R d0.heap.size [.int .i64 z0A, .int .i64 b0B, .bool d0B, .bool g0B, .bool h0B, .slice i0B j0B k0B, .slice p0B q0B t0B, .slice u0B v0B x0B, .slice y0B z0B b0C, .slice d0C g0C h0C, .slice i0C j0C k0C, .slice p0C q0C t0C, .slice u0C v0C x0C, .slice y0C z0C b0D, .slice d0D g0D h0D, .slice i0D j0D k0D, .string p0D, .string q0D, .string t0D] 0 ∧ True) ∧
  ([.slice vE xE yE, .bool zE, .int .i64 bF, .slice pR qR tR, .bool uR, .int .i64 vR, .bool true] : List Value) = ([.slice vE xE yE, .bool zE, .int .i64 bF, .slice pR qR tR, .bool uR, .int .i64 vR, .bool v0A] : List Value) ∧ y0A (.agg #[.slice q0R t0R u0R, .slice v0R x0R y0R, .slice z0R b0S d0S, .slice g0S h0S i0S, .slice j0S k0S p0S, .slice q0S t0S u0S, .slice v0S x0S y0S, .slice z0S b0T d0T, .slice g0T h0T i0T, .slice j0T k0T p0T, .slice q0T t0T u0T]) (some ⟨y0N.heap.size, 0, none⟩) 2 2 (some ⟨x0A.heap.size, 0, none⟩) 2 2 p0R) ∧ True) ∧ True) (
  ([.slice vE xE yE, .bool zE, .int .i64 bF, .slice pR qR tR, .bool uR, .int .i64 vR, .bool false] : List Value) = ([.slice vE xE yE, .bool zE, .int .i64 bF, .slice pR qR tR, .bool uR, .int .i64 vR, .bool v0A] : List Value) ∧ False)) ∧
  ∀ v0T : Env, ∀ x0T y0T z0T b0U d0U g0U h0U i0U, y0A x0T y0T z0T b0U d0U g0U h0U i0U →
  sel v0A (
  Calls Try.prog 16 #[x0T, .slice y0T z0T b0U, .slice d0U g0U h0U] i0U fun j0U k0U =>
  ∃ p0U,
  j0U = .returned (.bool p0U) ∧
  (True) ∧
  ([.slice vE xE yE, .bool zE, .int .i64 bF, .slice pR qR tR, .bool uR, .int .i64 vR] : List Value) = ([.slice vE xE yE, .bool zE, .int .i64 bF, .slice pR qR tR, .bool uR, .int .i64 vR] : List Value) ∧ yR (!p0U) k0U) (
  ([.slice vE xE yE, .bool zE, .int .i64 bF, .slice pR qR tR, .bool uR, .int .i64 vR] : List Value) = ([.slice vE xE yE, .bool zE, .int .i64 bF, .slice pR qR tR, .bool uR, .int .i64 vR] : List Value) ∧ yR false i0U)) ∧
  ∀ q0U : Env, ∀ t0U u0U, yR t0U u0U →
  ∃ v0U : Nat → Nat → World → Prop,
  (let x0U := World.alloc u0U (.cells #[.int .i64 0, .int .i64 0, .int .i8 3, .int .i64 0, .int .i64 4, .int .i64 2, .int .i64 0, .int .i64 0, .bool false, .int .i64 7, .bool false, .bool false] 59);
  Calls Try.prog 22 #[] x0U fun y0U z0U =>
  ∃ b0V d0V g0V h0V i0V j0V k0V p0V q0V t0V u0V v0V x0V y0V z0V b0W d0W g0W h0W i0W j0W k0W p0W q0W t0W u0W v0W x0W y0W z0W b0X d0X g0X,
  y0U = .returned (.agg #[.slice b0V d0V g0V, .slice h0V i0V j0V, .slice k0V p0V q0V, .slice t0V u0V v0V, .slice x0V y0V z0V, .slice b0W d0W g0W, .slice h0W i0W j0W, .slice k0W p0W q0W, .slice t0W u0W v0W, .slice x0W y0W z0W, .slice b0X d0X g0X]) ∧
  let h0X := World.alloc z0U (.cells #[.int .i64 7, .int .i64 0, .int .i64 0, .int .i64 (-1), .int .i64 (-1), .slice b0V d0V g0V, .slice h0V i0V j0V, .slice k0V p0V q0V, .slice t0V u0V v0V, .slice x0V y0V z0V, .slice b0W d0W g0W, .slice h0W i0W j0W, .slice k0W p0W q0W, .slice t0W u0W v0W, .slice x0W y0W z0W, .slice b0X d0X g0X] 62);
  let i0X := World.alloc h0X (.cells #[.int .i64 0, .slice none 0 0, .slice none 0 0, .slice none 0 0, .slice none 0 0, .slice none 0 0, .slice none 0 0, .slice none 0 0, .string ⟨#[]⟩, .int .i64 0] 67);
  canStore i0X h0X.heap.size 0 10 ∧
  let j0X := setCs i0X h0X.heap.size 0 [.int .i64 0, .slice (some ⟨u0U.heap.size, 0, none⟩) 1 1, .slice none 0 0, .slice none 0 0, .slice (some ⟨z0U.heap.size, 0, none⟩) 1 1, .slice none 0 0, .slice none 0 0, .slice none 0 0, .string ⟨#[]⟩, .int .i64 0];
  ([.slice vE xE yE, .bool zE, .int .i64 bF, .slice pR qR tR, .bool uR, .int .i64 vR, .bool t0U] : List Value) = ([.slice vE xE yE, .bool zE, .int .i64 bF, .slice pR qR tR, .bool uR, .int .i64 vR, .bool t0U] : List Value) ∧ v0U h0X.heap.size 0 j0X) ∧
  ∀ k0X : Env, ∀ p0X q0X t0X, v0U p0X q0X t0X →
  ∃ u0X : Option Addr → Nat → Nat → World → Prop,
  (Calls Try.prog 23 #[] t0X fun v0X x0X =>
  ∃ y0X z0X b0Y,
  v0X = .returned (.agg #[.string y0X, .string z0X, .string b0Y]) ∧
  let d0Y := World.alloc x0X (.cells #[.int .i8 3, .string y0X, .string z0X, .string b0Y, .string ⟨#[]⟩, .slice none 0 0] 70);
  let g0Y := World.alloc d0Y (.cells #[.slice (some ⟨x0X.heap.size, 0, none⟩) 1 1] 71);
  ([.slice vE xE yE, .bool zE, .int .i64 bF, .slice pR qR tR, .bool uR, .int .i64 vR, .bool t0U, .pointer (some ⟨p0X, q0X, none⟩)] : List Value) = ([.slice vE xE yE, .bool zE, .int .i64 bF, .slice pR qR tR, .bool uR, .int .i64 vR, .bool t0U, .pointer (some ⟨p0X, q0X, none⟩)] : List Value) ∧ u0X (some ⟨d0Y.heap.size, 0, none⟩) 1 1 g0Y) ∧
  ∀ h0Y : Env, ∀ i0Y j0Y k0Y p0Y, u0X i0Y j0Y k0Y p0Y →
  ∃ q0Y : Int → World → Prop,
  (∃ t0Y,
  p0Y.cell? ⟨p0X, q0X, none⟩ = some (.int .i64 t0Y) ∧
  ∃ u0Y v0Y x0Y,
  p0Y.cell? ⟨p0X, q0X + 1, none⟩ = some (.slice u0Y v0Y x0Y) ∧
  ∃ y0Y z0Y b0Z,
  p0Y.cell? ⟨p0X, q0X + 1 + 1, none⟩ = some (.slice y0Y z0Y b0Z) ∧
  ∃ d0Z g0Z h0Z,
  p0Y.cell? ⟨p0X, q0X + 1 + 1 + 1, none⟩ = some (.slice d0Z g0Z h0Z) ∧
  ∃ i0Z j0Z k0Z,
  p0Y.cell? ⟨p0X, q0X + 1 + 1 + 1 + 1, none⟩ = some (.slice i0Z j0Z k0Z) ∧
  ∃ p0Z q0Z t0Z,
  p0Y.cell? ⟨p0X, q0X + 1 + 1 + 1 + 1 + 1, none⟩ = some (.slice p0Z q0Z t0Z) ∧
  ∃ u0Z v0Z x0Z,
  p0Y.cell? ⟨p0X, q0X + 1 + 1 + 1 + 1 + 1 + 1, none⟩ = some (.slice u0Z v0Z x0Z) ∧
  ∃ y0Z z0Z b10,
  p0Y.cell? ⟨p0X, q0X + 1 + 1 + 1 + 1 + 1 + 1 + 1, none⟩ = some (.slice y0Z z0Z b10) ∧
  ∃ d10,
  p0Y.cell? ⟨p0X, q0X + 1 + 1 + 1 + 1 + 1 + 1 + 1 + 1, none⟩ = some (.string d10) ∧
  ∃ g10,
  p0Y.cell? ⟨p0X, q0X + 1 + 1 + 1 + 1 + 1 + 1 + 1 + 1 + 1, none⟩ = some (.int .i64 g10) ∧
  Calls Try.prog 25 #[.slice i0Y j0Y k0Y, .agg #[.int .i64 t0Y, .slice u0Y v0Y x0Y, .slice y0Y z0Y b0Z, .slice d0Z g0Z h0Z, .slice i0Z j0Z k0Z, .slice p0Z q0Z t0Z, .slice u0Z v0Z x0Z, .slice y0Z z0Z b10, .string d10, .int .i64 g10]] p0Y fun h10 i10 =>
  ∃ j10,
  h10 = .returned (.int .i8 j10) ∧
  ([.slice vE xE yE, .bool zE, .int .i64 bF, .slice pR qR tR, .bool uR, .int .i64 vR, .bool t0U, .pointer (some ⟨p0X, q0X, none⟩), .slice i0Y j0Y k0Y] : List Value) = ([.slice vE xE yE, .bool zE, .int .i64 bF, .slice pR qR tR, .bool uR, .int .i64 vR, .bool t0U, .pointer (some ⟨p0X, q0X, none⟩), .slice i0Y j0Y k0Y] : List Value) ∧ q0Y j10 i10) ∧
  ∀ k10 : Env, ∀ p10 q10, q0Y p10 q10 →
  ∃ t10 u10 v10,
  q10.cell? ⟨p0X, q0X + 1, none⟩ = some (.slice t10 u10 v10) ∧
  (0 : Int) ≤ 0 ∧ 0 < (u10 : Int) ∧
  needPtr t10 fun x10 y10 =>
  canStore q10 x10 (y10 + 8) 1 ∧
  let z10 := setCs q10 x10 (y10 + 8) [.bool true];
  ∃ b11 : World → Prop,
  (∃ d11 g11 h11,
  z10.cell? ⟨p0X, q0X + 1, none⟩ = some (.slice d11 g11 h11) ∧
  (0 : Int) ≤ 0 ∧ 0 < (g11 : Int) ∧
  needPtr d11 fun i11 j11 =>
  canStore z10 i11 (j11 + 6) 1 ∧
  let k11 := setCs z10 i11 (j11 + 6) [.int .i64 11];
  ([.slice vE xE yE, .bool zE, .int .i64 bF, .slice pR qR tR, .bool uR, .int .i64 vR, .bool t0U, .pointer (some ⟨p0X, q0X, none⟩), .slice i0Y j0Y k0Y, .int .i8 p10] : List Value) = ([.slice vE xE yE, .bool zE, .int .i64 bF, .slice pR qR tR, .bool uR, .int .i64 vR, .bool t0U, .pointer (some ⟨p0X, q0X, none⟩), .slice i0Y j0Y k0Y, .int .i8 p10] : List Value) ∧ b11 k11) ∧
  ∀ p11 : Env, ∀ q11, b11 q11 →
  ∃ t11 : Int → World → Prop,
  (∃ u11,
  q11.cell? ⟨p0X, q0X, none⟩ = some (.int .i64 u11) ∧
  ∃ v11 x11 y11,
  q11.cell? ⟨p0X, q0X + 1, none⟩ = some (.slice v11 x11 y11) ∧
  ∃ z11 b12 d12,
  q11.cell? ⟨p0X, q0X + 1 + 1, none⟩ = some (.slice z11 b12 d12) ∧
  ∃ g12 h12 i12,
  q11.cell? ⟨p0X, q0X + 1 + 1 + 1, none⟩ = some (.slice g12 h12 i12) ∧
  ∃ j12 k12 p12,
  q11.cell? ⟨p0X, q0X + 1 + 1 + 1 + 1, none⟩ = some (.slice j12 k12 p12) ∧
  ∃ q12 t12 u12,
  q11.cell? ⟨p0X, q0X + 1 + 1 + 1 + 1 + 1, none⟩ = some (.slice q12 t12 u12) ∧
  ∃ v12 x12 y12,
  q11.cell? ⟨p0X, q0X + 1 + 1 + 1 + 1 + 1 + 1, none⟩ = some (.slice v12 x12 y12) ∧
  ∃ z12 b13 d13,
  q11.cell? ⟨p0X, q0X + 1 + 1 + 1 + 1 + 1 + 1 + 1, none⟩ = some (.slice z12 b13 d13) ∧
  ∃ g13,
  q11.cell? ⟨p0X, q0X + 1 + 1 + 1 + 1 + 1 + 1 + 1 + 1, none⟩ = some (.string g13) ∧
  ∃ h13,
  q11.cell? ⟨p0X, q0X + 1 + 1 + 1 + 1 + 1 + 1 + 1 + 1 + 1, none⟩ = some (.int .i64 h13) ∧
  Calls Try.prog 25 #[.slice i0Y j0Y k0Y, .agg #[.int .i64 u11, .slice v11 x11 y11, .slice z11 b12 d12, .slice g12 h12 i12, .slice j12 k12 p12, .slice q12 t12 u12, .slice v12 x12 y12, .slice z12 b13 d13, .string g13, .int .i64 h13]] q11 fun i13 j13 =>
  ∃ k13,
  i13 = .returned (.int .i8 k13) ∧
  ([.slice vE xE yE, .bool zE, .int .i64 bF, .slice pR qR tR, .bool uR, .int .i64 vR, .bool t0U, .int .i8 p10] : List Value) = ([.slice vE xE yE, .bool zE, .int .i64 bF, .slice pR qR tR, .bool uR, .int .i64 vR, .bool t0U, .int .i8 p10] : List Value) ∧ t11 k13 j13) ∧
  ∀ p13 : Env, ∀ q13 t13, t11 q13 t13 →
  sel zE (
  sel ((bF : Int) == (0 : Int)) (
  sel (((xE : Int) : Int) == (2 : Int)) (
  (0 : Int) ≤ 0 ∧ 0 < (xE : Int) ∧
  needPtr vE fun u13 v13 =>
  ∃ x13,
  t13.cell? ⟨u13, v13, none⟩ = some (.int .i64 x13) ∧
  sel ((x13 : Int) == (0 : Int)) (
  (0 : Int) ≤ 1 ∧ 1 < (xE : Int) ∧
  needPtr vE fun y13 z13 =>
  ∃ b14,
  t13.cell? ⟨y13, z13 + 1, none⟩ = some (.int .i64 b14) ∧
  sel ((b14 : Int) == (1 : Int)) (
  sel (!uR) (
  sel ((vR : Int) == (0 : Int)) (
  sel (((qR : Int) : Int) == (0 : Int)) (
  sel t0U (
  sel ((p10 : Int) == (1 : Int)) (
  R (.bool ((q13 : Int) == (0 : Int))) t13) (
  R (.bool false) t13)) (
  R (.bool false) t13)) (
  R (.bool false) t13)) (
  R (.bool false) t13)) (
  R (.bool false) t13)) (
  R (.bool false) t13)) (
  R (.bool false) t13)) (
  R (.bool false) t13)) (
  R (.bool false) t13)) (
  R (.bool false) t13)
theorem f7.eq  (w : World) (R : Value → World → Prop) : f7.VC  w R = funV Try.prog Try.f7 f7.AL f7.AC #[] w R := by kernel_rfl
theorem f7.calls {w : World} {R : Value → World → Prop} (h : f7.VC  w R) : Calls Try.prog 7 #[] w fun e w' => ∃ v, e = .returned v ∧ R v w' :=
  funV_sound (fn := Try.f7) (AL := f7.AL) (AC := f7.AC) W7.mixed (by kernel_rfl) (by rw [← f7.eq ]; exact h)

end Go.Proofs.Ytddbebhklmaeoaa
