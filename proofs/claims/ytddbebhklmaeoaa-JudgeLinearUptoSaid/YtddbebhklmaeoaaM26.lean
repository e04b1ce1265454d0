/- The plain statements of some functions, printed by vcgen.py. -/
import Derived.Test.YtddbebhklmaeoaaM5
import Derived.Test.YtddbebhklmaeoaaProg
import Derived.KernelRfl
set_option maxRecDepth 100000
set_option maxHeartbeats 4000000
set_option linter.unusedVariables false
namespace Go.Proofs.Ytddbebhklmaeoaa
open Go Go.Proofs.Ytddbebhklmaeoaa.Vc
theorem W5.mixed : Try.prog.follows .mixedOrders = true := by kernel_rfl
/-- gatehouse/judge.Follows -/
def f16.AL : Nat → Option Ann := fun r => match r with | 6 => some ⟨[(26, .int .i64)], [1, 2, 7, 8, 24, 25]⟩ | 19 => some ⟨[(12, .int .i64), (81, .int .i64)], [1, 7, 79, 80]⟩ | 26 => some ⟨[(110, .int .i64)], [7, 108, 109]⟩ | _ => none
def f16.AC : Nat → Option Ann := fun r => match r with | 13 => some ⟨[(55, .bool)], [1, 2, 7, 8, 11, 24, 25, 26]⟩ | 1000012 => some ⟨[], []⟩ | _ => none
def f16.VC (Aa0_0 : Option Addr) (na0_0 ca0_0 : Nat) (Aa0_1 : Option Addr) (na0_1 ca0_1 : Nat) (Aa0_2 : Option Addr) (na0_2 ca0_2 : Nat) (Aa0_3 : Option Addr) (na0_3 ca0_3 : Nat) (Aa0_4 : Option Addr) (na0_4 ca0_4 : Nat) (Aa0_5 : Option Addr) (na0_5 ca0_5 : Nat) (Aa0_6 : Option Addr) (na0_6 ca0_6 : Nat) (Aa0_7 : Option Addr) (na0_7 ca0_7 : Nat) (Aa0_8 : Option Addr) (na0_8 ca0_8 : Nat) (Aa0_9 : Option Addr) (na0_9 ca0_9 : Nat) (Aa0_10 : Option Addr) (na0_10 ca0_10 : Nat) (Aa1 : Option Addr) (na1 ca1 : Nat) (Aa2 : Option Addr) (na2 ca2 : Nat) (w : World) (R : Value → World → Prop) : Prop :=
  let b0 := World.alloc w (.cells #[.slice Aa0_0 na0_0 ca0_0, .slice Aa0_1 na0_1 ca0_1, .slice Aa0_2 na0_2 ca0_2, .slice Aa0_3 na0_3 ca0_3, .slice Aa0_4 na0_4 ca0_4, .slice Aa0_5 na0_5 ca0_5, .slice Aa0_6 na0_6 ca0_6, .slice Aa0_7 na0_7 ca0_7, .slice Aa0_8 na0_8 ca0_8, .slice Aa0_9 na0_9 ca0_9, .slice Aa0_10 na0_10 ca0_10] 28);
  Calls Try.prog 35 #[.slice Aa1 na1 ca1] b0 fun d0 g0 =>
  ∃ h0,
  d0 = .returned (.bool h0) ∧
  sel (!h0) (
  R (.bool false) g0) (
  ∃ i0 j0 k0,
  ∃ p0, (Instr.makeSlice 31 (.int .i64 (na1 : Int)) (.int .i64 (na1 : Int))).run Try.prog g0 = .ok (.slice i0 j0 k0) p0 ∧
  ∃ q0 t0 u0,
  p0.cell? ⟨w.heap.size, 0, none⟩ = some (.slice q0 t0 u0) ∧
  ∃ v0 x0 y0,
  p0.cell? ⟨w.heap.size, 1, none⟩ = some (.slice v0 x0 y0) ∧
  ∃ z0 b1 d1,
  p0.cell? ⟨w.heap.size, 2, none⟩ = some (.slice z0 b1 d1) ∧
  ∃ g1 h1 i1,
  p0.cell? ⟨w.heap.size, 3, none⟩ = some (.slice g1 h1 i1) ∧
  ∃ j1 k1 p1,
  p0.cell? ⟨w.heap.size, 4, none⟩ = some (.slice j1 k1 p1) ∧
  ∃ q1 t1 u1,
  p0.cell? ⟨w.heap.size, 5, none⟩ = some (.slice q1 t1 u1) ∧
  ∃ v1 x1 y1,
  p0.cell? ⟨w.heap.size, 6, none⟩ = some (.slice v1 x1 y1) ∧
  ∃ z1 b2 d2,
  p0.cell? ⟨w.heap.size, 7, none⟩ = some (.slice z1 b2 d2) ∧
  ∃ g2 h2 i2,
  p0.cell? ⟨w.heap.size, 8, none⟩ = some (.slice g2 h2 i2) ∧
  ∃ j2 k2 p2,
  p0.cell? ⟨w.heap.size, 9, none⟩ = some (.slice j2 k2 p2) ∧
  ∃ q2 t2 u2,
  p0.cell? ⟨w.heap.size, 10, none⟩ = some (.slice q2 t2 u2) ∧
  let v2 := World.alloc p0 (.cells #[.slice none 0 0, .slice none 0 0, .slice none 0 0, .slice none 0 0, .slice none 0 0, .slice none 0 0, .slice none 0 0, .slice none 0 0, .slice none 0 0, .slice none 0 0, .slice none 0 0] 28);
  canStore v2 p0.heap.size 0 11 ∧
  let x2 := setCs v2 p0.heap.size 0 [.slice q0 t0 u0, .slice v0 x0 y0, .slice z0 b1 d1, .slice g1 h1 i1, .slice j1 k1 p1, .slice q1 t1 u1, .slice v1 x1 y1, .slice z1 b2 d2, .slice g2 h2 i2, .slice j2 k2 p2, .slice q2 t2 u2];
  ∃ y2 : Int → World → Nat → Prop,
  (∃ n, y2 0 x2 n) ∧
  ∀ z2 : Env, ∀ b3 d3 g3, y2 b3 d3 g3 →
  sel (decide ((b3 : Int) < ((na2 : Int) : Int))) (
  (0 : Int) ≤ b3 ∧ b3 < (na2 : Int) ∧
  needPtr Aa2 fun h3 i3 =>
  ∃ j3,
  d3.cell? ⟨h3, i3 + b3.toNat * 1, none⟩ = some (.int .i64 j3) ∧
  sel (decide ((j3 : Int) < (0 : Int))) (
  R (.bool false) d3) (
  sel (decide (((na1 : Int) : Int) ≤ (j3 : Int))) (
  R (.bool false) d3) (
  (0 : Int) ≤ j3 ∧ j3 < (j0 : Int) ∧
  needPtr i0 fun k3 p3 =>
  ∃ q3,
  d3.cell? ⟨k3, p3 + j3.toNat * 1, none⟩ = some (.int .i64 q3) ∧
  sel ((q3 : Int) != (0 : Int)) (
  R (.bool false) d3) (
  let t3 : Int := IntKind.i64.wrap (b3 + 1);
  (0 : Int) ≤ j3 ∧ j3 < (j0 : Int) ∧
  needPtr i0 fun u3 v3 =>
  canStore d3 u3 (v3 + j3.toNat * 1) 1 ∧
  let x3 := setCs d3 u3 (v3 + j3.toNat * 1) [.int .i64 t3];
  (0 : Int) ≤ j3 ∧ j3 < (na1 : Int) ∧
  needPtr Aa1 fun y3 z3 =>
  ∃ b4,
  x3.cell? ⟨y3, z3 + j3.toNat * 19, none⟩ = some (.int .i64 b4) ∧
  ∃ d4,
  x3.cell? ⟨y3, z3 + j3.toNat * 19 + 1, none⟩ = some (.int .i64 d4) ∧
  ∃ g4,
  x3.cell? ⟨y3, z3 + j3.toNat * 19 + 1 + 1, none⟩ = some (.bool g4) ∧
  ∃ h4,
  x3.cell? ⟨y3, z3 + j3.toNat * 19 + 1 + 1 + 1, none⟩ = some (.bool h4) ∧
  ∃ i4,
  x3.cell? ⟨y3, z3 + j3.toNat * 19 + 1 + 1 + 1 + 1, none⟩ = some (.bool i4) ∧
  ∃ j4 k4 p4,
  x3.cell? ⟨y3, z3 + j3.toNat * 19 + 1 + 1 + 1 + 1 + 1, none⟩ = some (.slice j4 k4 p4) ∧
  ∃ q4 t4 u4,
  x3.cell? ⟨y3, z3 + j3.toNat * 19 + 1 + 1 + 1 + 1 + 1 + 1, none⟩ = some (.slice q4 t4 u4) ∧
  ∃ v4 x4 y4,
  x3.cell? ⟨y3, z3 + j3.toNat * 19 + 1 + 1 + 1 + 1 + 1 + 1 + 1, none⟩ = some (.slice v4 x4 y4) ∧
  ∃ z4 b5 d5,
  x3.cell? ⟨y3, z3 + j3.toNat * 19 + 1 + 1 + 1 + 1 + 1 + 1 + 1 + 1, none⟩ = some (.slice z4 b5 d5) ∧
  ∃ g5 h5 i5,
  x3.cell? ⟨y3, z3 + j3.toNat * 19 + 1 + 1 + 1 + 1 + 1 + 1 + 1 + 1 + 1, none⟩ = some (.slice g5 h5 i5) ∧
  ∃ j5 k5 p5,
  x3.cell? ⟨y3, z3 + j3.toNat * 19 + 1 + 1 + 1 + 1 + 1 + 1 + 1 + 1 + 1 + 1, none⟩ = some (.slice j5 k5 p5) ∧
  ∃ q5 t5 u5,
  x3.cell? ⟨y3, z3 + j3.toNat * 19 + 1 + 1 + 1 + 1 + 1 + 1 + 1 + 1 + 1 + 1 + 1, none⟩ = some (.slice q5 t5 u5) ∧
  ∃ v5 x5 y5,
  x3.cell? ⟨y3, z3 + j3.toNat * 19 + 1 + 1 + 1 + 1 + 1 + 1 + 1 + 1 + 1 + 1 + 1 + 1, none⟩ = some (.slice v5 x5 y5) ∧
  ∃ z5 b6 d6,
  x3.cell? ⟨y3, z3 + j3.toNat * 19 + 1 + 1 + 1 + 1 + 1 + 1 + 1 + 1 + 1 + 1 + 1 + 1 + 1, none⟩ = some (.slice z5 b6 d6) ∧
  ∃ g6 h6 i6,
  x3.cell? ⟨y3, z3 + j3.toNat * 19 + 1 + 1 + 1 + 1 + 1 + 1 + 1 + 1 + 1 + 1 + 1 + 1 + 1 + 1, none⟩ = some (.slice g6 h6 i6) ∧
  ∃ j6 k6 p6,
  x3.cell? ⟨y3, z3 + j3.toNat * 19 + 1 + 1 + 1 + 1 + 1 + 1 + 1 + 1 + 1 + 1 + 1 + 1 + 1 + 1 + 1, none⟩ = some (.slice j6 k6 p6) ∧
  ∃ q6,
  x3.cell? ⟨y3, z3 + j3.toNat * 19 + 1 + 1 + 1 + 1 + 1 + 1 + 1 + 1 + 1 + 1 + 1 + 1 + 1 + 1 + 1 + 1, none⟩ = some (.string q6) ∧
  ∃ t6,
  x3.cell? ⟨y3, z3 + j3.toNat * 19 + 1 + 1 + 1 + 1 + 1 + 1 + 1 + 1 + 1 + 1 + 1 + 1 + 1 + 1 + 1 + 1 + 1, none⟩ = some (.string t6) ∧
  ∃ u6,
  x3.cell? ⟨y3, z3 + j3.toNat * 19 + 1 + 1 + 1 + 1 + 1 + 1 + 1 + 1 + 1 + 1 + 1 + 1 + 1 + 1 + 1 + 1 + 1 + 1, none⟩ = some (.string u6) ∧
  let v6 := World.alloc x3 (.cells #[.int .i64 0, .int .i64 0, .bool false, .bool false, .bool false, .slice none 0 0, .slice none 0 0, .slice none 0 0, .slice none 0 0, .slice none 0 0, .slice none 0 0, .slice none 0 0, .slice none 0 0, .slice none 0 0, .slice none 0 0, .slice none 0 0, .string ⟨#[]⟩, .string ⟨#[]⟩, .string ⟨#[]⟩] 39);
  canStore v6 x3.heap.size 0 19 ∧
  let x6 := setCs v6 x3.heap.size 0 [.int .i64 b4, .int .i64 d4, .bool g4, .bool h4, .bool i4, .slice j4 k4 p4, .slice q4 t4 u4, .slice v4 x4 y4, .slice z4 b5 d5, .slice g5 h5 i5, .slice j5 k5 p5, .slice q5 t5 u5, .slice v5 x5 y5, .slice z5 b6 d6, .slice g6 h6 i6, .slice j6 k6 p6, .string q6, .string t6, .string u6];
  ∃ y6 : Bool → World → Prop,
  (∃ z6,
  x6.cell? ⟨x3.heap.size, 2, none⟩ = some (.bool z6) ∧
  sel (!z6) (
  ∃ b7 d7 g7,
  x6.cell? ⟨p0.heap.size, 0, none⟩ = some (.slice b7 d7 g7) ∧
  ∃ h7 i7 j7,
  x6.cell? ⟨p0.heap.size, 1, none⟩ = some (.slice h7 i7 j7) ∧
  ∃ k7 p7 q7,
  x6.cell? ⟨p0.heap.size, 2, none⟩ = some (.slice k7 p7 q7) ∧
  ∃ t7 u7 v7,
  x6.cell? ⟨p0.heap.size, 3, none⟩ = some (.slice t7 u7 v7) ∧
  ∃ x7 y7 z7,
  x6.cell? ⟨p0.heap.size, 4, none⟩ = some (.slice x7 y7 z7) ∧
  ∃ b8 d8 g8,
  x6.cell? ⟨p0.heap.size, 5, none⟩ = some (.slice b8 d8 g8) ∧
  ∃ h8 i8 j8,
  x6.cell? ⟨p0.heap.size, 6, none⟩ = some (.slice h8 i8 j8) ∧
  ∃ k8 p8 q8,
  x6.cell? ⟨p0.heap.size, 7, none⟩ = some (.slice k8 p8 q8) ∧
  ∃ t8 u8 v8,
  x6.cell? ⟨p0.heap.size, 8, none⟩ = some (.slice t8 u8 v8) ∧
  ∃ x8 y8 z8,
  x6.cell? ⟨p0.heap.size, 9, none⟩ = some (.slice x8 y8 z8) ∧
  ∃ b9 d9 g9,
  x6.cell? ⟨p0.heap.size, 10, none⟩ = some (.slice b9 d9 g9) ∧
  ∃ h9,
  x6.cell? ⟨x3.heap.size, 16, none⟩ = some (.string h9) ∧
  ∃ i9,
  x6.cell? ⟨x3.heap.size, 17, none⟩ = some (.string i9) ∧
  ∃ j9,
  x6.cell? ⟨x3.heap.size, 18, none⟩ = some (.string j9) ∧
  ∃ k9,
  x6.cell? ⟨x3.heap.size, 4, none⟩ = some (.bool k9) ∧
  Calls Try.prog 19 #[.agg #[.slice b7 d7 g7, .slice h7 i7 j7, .slice k7 p7 q7, .slice t7 u7 v7, .slice x7 y7 z7, .slice b8 d8 g8, .slice h8 i8 j8, .slice k8 p8 q8, .slice t8 u8 v8, .slice x8 y8 z8, .slice b9 d9 g9], .agg #[.string h9, .string i9, .string j9]] x6.drew fun p9 q9 =>
  ∃ t9,
  p9 = .returned (.bool t9) ∧
  (q9.cell? ⟨x3.heap.size, 4, none⟩ = some (.bool k9) ∧ (q9.cell? ⟨x3.heap.size, 16, none⟩ = some (.string h9) ∧ q9.cell? ⟨x3.heap.size, 17, none⟩ = some (.string i9) ∧ q9.cell? ⟨x3.heap.size, 18, none⟩ = some (.string j9) ∧ True) ∧ (q9.cell? ⟨p0.heap.size, 0, none⟩ = some (.slice b7 d7 g7) ∧ q9.cell? ⟨p0.heap.size, 1, none⟩ = some (.slice h7 i7 j7) ∧ q9.cell? ⟨p0.heap.size, 2, none⟩ = some (.slice k7 p7 q7) ∧ q9.cell? ⟨p0.heap.size, 3, none⟩ = some (.slice t7 u7 v7) ∧ q9.cell? ⟨p0.heap.size, 4, none⟩ = some (.slice x7 y7 z7) ∧ q9.cell? ⟨p0.heap.size, 5, none⟩ = some (.slice b8 d8 g8) ∧ q9.cell? ⟨p0.heap.size, 6, none⟩ = some (.slice h8 i8 j8) ∧ q9.cell? ⟨p0.heap.size, 7, none⟩ = some (.slice k8 p8 q8) ∧ q9.cell? ⟨p0.heap.size, 8, none⟩ = some (.slice t8 u8 v8) ∧ q9.cell? ⟨p0.heap.size, 9, none⟩ = some (.slice x8 y8 z8) ∧ q9.cell? ⟨p0.heap.size, 10, none⟩ = some (.slice b9 d9 g9) ∧ True) ∧ q9.cell? ⟨x3.heap.size, 2, none⟩ = some (.bool z6) ∧ True) ∧
  ([.slice Aa1 na1 ca1, .slice Aa2 na2 ca2, .slice i0 j0 k0, .pointer (some ⟨p0.heap.size, 0, none⟩), .pointer (some ⟨x3.heap.size, 0, none⟩), .slice Aa2 na2 ca2, .int .i64 (na2 : Int), .int .i64 b3] : List Value) = ([.slice Aa1 na1 ca1, .slice Aa2 na2 ca2, .slice i0 j0 k0, .pointer (some ⟨p0.heap.size, 0, none⟩), .pointer (some ⟨x3.heap.size, 0, none⟩), .slice Aa2 na2 ca2, .int .i64 (na2 : Int), .int .i64 b3] : List Value) ∧ y6 (!(t9 == k9)) q9) (
  ([.slice Aa1 na1 ca1, .slice Aa2 na2 ca2, .slice i0 j0 k0, .pointer (some ⟨p0.heap.size, 0, none⟩), .pointer (some ⟨x3.heap.size, 0, none⟩), .slice Aa2 na2 ca2, .int .i64 (na2 : Int), .int .i64 b3] : List Value) = ([.slice Aa1 na1 ca1, .slice Aa2 na2 ca2, .slice i0 j0 k0, .pointer (some ⟨p0.heap.size, 0, none⟩), .pointer (some ⟨x3.heap.size, 0, none⟩), .slice Aa2 na2 ca2, .int .i64 (na2 : Int), .int .i64 b3] : List Value) ∧ y6 false x6.drew)) ∧
  ∀ u9 : Env, ∀ v9 x9, y6 v9 x9 →
  sel v9 (
  R (.bool false) x9) (
  ∃ y9,
  x9.cell? ⟨x3.heap.size, 2, none⟩ = some (.bool y9) ∧
  sel y9 (
  ∃ z9,
  x9.cell? ⟨x3.heap.size, 3, none⟩ = some (.bool z9) ∧
  sel (!z9) (
  ∃ bA dA gA,
  x9.cell? ⟨x3.heap.size, 5, none⟩ = some (.slice bA dA gA) ∧
  ∃ hA iA jA,
  x9.cell? ⟨x3.heap.size, 6, none⟩ = some (.slice hA iA jA) ∧
  ∃ kA pA qA,
  x9.cell? ⟨x3.heap.size, 7, none⟩ = some (.slice kA pA qA) ∧
  ∃ tA uA vA,
  x9.cell? ⟨x3.heap.size, 8, none⟩ = some (.slice tA uA vA) ∧
  ∃ xA yA zA,
  x9.cell? ⟨x3.heap.size, 9, none⟩ = some (.slice xA yA zA) ∧
  ∃ bB dB gB,
  x9.cell? ⟨x3.heap.size, 10, none⟩ = some (.slice bB dB gB) ∧
  ∃ hB iB jB,
  x9.cell? ⟨x3.heap.size, 11, none⟩ = some (.slice hB iB jB) ∧
  ∃ kB pB qB,
  x9.cell? ⟨x3.heap.size, 12, none⟩ = some (.slice kB pB qB) ∧
  ∃ tB uB vB,
  x9.cell? ⟨x3.heap.size, 13, none⟩ = some (.slice tB uB vB) ∧
  ∃ xB yB zB,
  x9.cell? ⟨x3.heap.size, 14, none⟩ = some (.slice xB yB zB) ∧
  ∃ bC dC gC,
  x9.cell? ⟨x3.heap.size, 15, none⟩ = some (.slice bC dC gC) ∧
  canStore x9 p0.heap.size 0 11 ∧
  let hC := setCs x9 p0.heap.size 0 [.slice bA dA gA, .slice hA iA jA, .slice kA pA qA, .slice tA uA vA, .slice xA yA zA, .slice bB dB gB, .slice hB iB jB, .slice kB pB qB, .slice tB uB vB, .slice xB yB zB, .slice bC dC gC];
  let iC : Int := IntKind.i64.wrap (b3 + 1);
  ([.slice Aa1 na1 ca1, .slice Aa2 na2 ca2, .slice i0 j0 k0, .pointer (some ⟨p0.heap.size, 0, none⟩), .slice Aa2 na2 ca2, .int .i64 (na2 : Int)] : List Value) = ([.slice Aa1 na1 ca1, .slice Aa2 na2 ca2, .slice i0 j0 k0, .pointer (some ⟨p0.heap.size, 0, none⟩), .slice Aa2 na2 ca2, .int .i64 (na2 : Int)] : List Value) ∧ ∃ m, m < g3 ∧ y2 iC hC m) (
  let jC : Int := IntKind.i64.wrap (b3 + 1);
  ([.slice Aa1 na1 ca1, .slice Aa2 na2 ca2, .slice i0 j0 k0, .pointer (some ⟨p0.heap.size, 0, none⟩), .slice Aa2 na2 ca2, .int .i64 (na2 : Int)] : List Value) = ([.slice Aa1 na1 ca1, .slice Aa2 na2 ca2, .slice i0 j0 k0, .pointer (some ⟨p0.heap.size, 0, none⟩), .slice Aa2 na2 ca2, .int .i64 (na2 : Int)] : List Value) ∧ ∃ m, m < g3 ∧ y2 jC x9 m)) (
  let kC : Int := IntKind.i64.wrap (b3 + 1);
  ([.slice Aa1 na1 ca1, .slice Aa2 na2 ca2, .slice i0 j0 k0, .pointer (some ⟨p0.heap.size, 0, none⟩), .slice Aa2 na2 ca2, .int .i64 (na2 : Int)] : List Value) = ([.slice Aa1 na1 ca1, .slice Aa2 na2 ca2, .slice i0 j0 k0, .pointer (some ⟨p0.heap.size, 0, none⟩), .slice Aa2 na2 ca2, .int .i64 (na2 : Int)] : List Value) ∧ ∃ m, m < g3 ∧ y2 kC x9 m)))))) (
  ∃ pC : Int → Int → World → Nat → Prop,
  (∃ n, pC 0 0 d3 n) ∧
  ∀ qC : Env, ∀ tC uC vC xC, pC tC uC vC xC →
  sel (decide ((uC : Int) < ((na2 : Int) : Int))) (
  (0 : Int) ≤ uC ∧ uC < (na2 : Int) ∧
  needPtr Aa2 fun yC zC =>
  ∃ bD,
  vC.cell? ⟨yC, zC + uC.toNat * 1, none⟩ = some (.int .i64 bD) ∧
  (0 : Int) ≤ bD ∧ bD < (na1 : Int) ∧
  needPtr Aa1 fun dD gD =>
  ∃ hD,
  vC.cell? ⟨dD, gD + bD.toNat * 19, none⟩ = some (.int .i64 hD) ∧
  ∃ iD,
  ∃ jD, (Builtin.max_ #[3, 3] 3 #[.int .i64 tC, .int .i64 hD]).run Try.prog vC = .ok (.int .i64 iD) jD ∧
  (0 : Int) ≤ bD ∧ bD < (na1 : Int) ∧
  needPtr Aa1 fun kD pD =>
  ∃ qD,
  jD.cell? ⟨kD, pD + bD.toNat * 19 + 1, none⟩ = some (.int .i64 qD) ∧
  sel (decide ((0 : Int) ≤ (qD : Int))) (
  (0 : Int) ≤ bD ∧ bD < (na1 : Int) ∧
  needPtr Aa1 fun tD uD =>
  ∃ vD,
  jD.cell? ⟨tD, uD + bD.toNat * 19 + 1, none⟩ = some (.int .i64 vD) ∧
  sel (decide ((vD : Int) < (iD : Int))) (
  R (.bool false) jD) (
  let xD : Int := IntKind.i64.wrap (uC + 1);
  ([.slice Aa1 na1 ca1, .slice i0 j0 k0, .slice Aa2 na2 ca2, .int .i64 (na2 : Int)] : List Value) = ([.slice Aa1 na1 ca1, .slice i0 j0 k0, .slice Aa2 na2 ca2, .int .i64 (na2 : Int)] : List Value) ∧ ∃ m, m < xC ∧ pC iD xD jD m)) (
  let yD : Int := IntKind.i64.wrap (uC + 1);
  ([.slice Aa1 na1 ca1, .slice i0 j0 k0, .slice Aa2 na2 ca2, .int .i64 (na2 : Int)] : List Value) = ([.slice Aa1 na1 ca1, .slice i0 j0 k0, .slice Aa2 na2 ca2, .int .i64 (na2 : Int)] : List Value) ∧ ∃ m, m < xC ∧ pC iD yD jD m)) (
  ∃ zD : Int → World → Nat → Prop,
  (∃ n, zD 0 vC n) ∧
  ∀ bE : Env, ∀ dE gE hE, zD dE gE hE →
  sel (decide ((dE : Int) < ((na1 : Int) : Int))) (
  (0 : Int) ≤ dE ∧ dE < (na1 : Int) ∧
  needPtr Aa1 fun iE jE =>
  ∃ kE,
  gE.cell? ⟨iE, jE + dE.toNat * 19, none⟩ = some (.int .i64 kE) ∧
  ∃ pE,
  gE.cell? ⟨iE, jE + dE.toNat * 19 + 1, none⟩ = some (.int .i64 pE) ∧
  ∃ qE,
  gE.cell? ⟨iE, jE + dE.toNat * 19 + 1 + 1, none⟩ = some (.bool qE) ∧
  ∃ tE,
  gE.cell? ⟨iE, jE + dE.toNat * 19 + 1 + 1 + 1, none⟩ = some (.bool tE) ∧
  ∃ uE,
  gE.cell? ⟨iE, jE + dE.toNat * 19 + 1 + 1 + 1 + 1, none⟩ = some (.bool uE) ∧
  ∃ vE xE yE,
  gE.cell? ⟨iE, jE + dE.toNat * 19 + 1 + 1 + 1 + 1 + 1, none⟩ = some (.slice vE xE yE) ∧
  ∃ zE bF dF,
  gE.cell? ⟨iE, jE + dE.toNat * 19 + 1 + 1 + 1 + 1 + 1 + 1, none⟩ = some (.slice zE bF dF) ∧
  ∃ gF hF iF,
  gE.cell? ⟨iE, jE + dE.toNat * 19 + 1 + 1 + 1 + 1 + 1 + 1 + 1, none⟩ = some (.slice gF hF iF) ∧
  ∃ jF kF pF,
  gE.cell? ⟨iE, jE + dE.toNat * 19 + 1 + 1 + 1 + 1 + 1 + 1 + 1 + 1, none⟩ = some (.slice jF kF pF) ∧
  ∃ qF tF uF,
  gE.cell? ⟨iE, jE + dE.toNat * 19 + 1 + 1 + 1 + 1 + 1 + 1 + 1 + 1 + 1, none⟩ = some (.slice qF tF uF) ∧
  ∃ vF xF yF,
  gE.cell? ⟨iE, jE + dE.toNat * 19 + 1 + 1 + 1 + 1 + 1 + 1 + 1 + 1 + 1 + 1, none⟩ = some (.slice vF xF yF) ∧
  ∃ zF bG dG,
  gE.cell? ⟨iE, jE + dE.toNat * 19 + 1 + 1 + 1 + 1 + 1 + 1 + 1 + 1 + 1 + 1 + 1, none⟩ = some (.slice zF bG dG) ∧
  ∃ gG hG iG,
  gE.cell? ⟨iE, jE + dE.toNat * 19 + 1 + 1 + 1 + 1 + 1 + 1 + 1 + 1 + 1 + 1 + 1 + 1, none⟩ = some (.slice gG hG iG) ∧
  ∃ jG kG pG,
  gE.cell? ⟨iE, jE + dE.toNat * 19 + 1 + 1 + 1 + 1 + 1 + 1 + 1 + 1 + 1 + 1 + 1 + 1 + 1, none⟩ = some (.slice jG kG pG) ∧
  ∃ qG tG uG,
  gE.cell? ⟨iE, jE + dE.toNat * 19 + 1 + 1 + 1 + 1 + 1 + 1 + 1 + 1 + 1 + 1 + 1 + 1 + 1 + 1, none⟩ = some (.slice qG tG uG) ∧
  ∃ vG xG yG,
  gE.cell? ⟨iE, jE + dE.toNat * 19 + 1 + 1 + 1 + 1 + 1 + 1 + 1 + 1 + 1 + 1 + 1 + 1 + 1 + 1 + 1, none⟩ = some (.slice vG xG yG) ∧
  ∃ zG,
  gE.cell? ⟨iE, jE + dE.toNat * 19 + 1 + 1 + 1 + 1 + 1 + 1 + 1 + 1 + 1 + 1 + 1 + 1 + 1 + 1 + 1 + 1, none⟩ = some (.string zG) ∧
  ∃ bH,
  gE.cell? ⟨iE, jE + dE.toNat * 19 + 1 + 1 + 1 + 1 + 1 + 1 + 1 + 1 + 1 + 1 + 1 + 1 + 1 + 1 + 1 + 1 + 1, none⟩ = some (.string bH) ∧
  ∃ dH,
  gE.cell? ⟨iE, jE + dE.toNat * 19 + 1 + 1 + 1 + 1 + 1 + 1 + 1 + 1 + 1 + 1 + 1 + 1 + 1 + 1 + 1 + 1 + 1 + 1, none⟩ = some (.string dH) ∧
  let gH := World.alloc gE (.cells #[.int .i64 0, .int .i64 0, .bool false, .bool false, .bool false, .slice none 0 0, .slice none 0 0, .slice none 0 0, .slice none 0 0, .slice none 0 0, .slice none 0 0, .slice none 0 0, .slice none 0 0, .slice none 0 0, .slice none 0 0, .slice none 0 0, .string ⟨#[]⟩, .string ⟨#[]⟩, .string ⟨#[]⟩] 39);
  canStore gH gE.heap.size 0 19 ∧
  let hH := setCs gH gE.heap.size 0 [.int .i64 kE, .int .i64 pE, .bool qE, .bool tE, .bool uE, .slice vE xE yE, .slice zE bF dF, .slice gF hF iF, .slice jF kF pF, .slice qF tF uF, .slice vF xF yF, .slice zF bG dG, .slice gG hG iG, .slice jG kG pG, .slice qG tG uG, .slice vG xG yG, .string zG, .string bH, .string dH];
  ∃ iH,
  hH.cell? ⟨gE.heap.size, 1, none⟩ = some (.int .i64 iH) ∧
  sel (decide ((0 : Int) ≤ (iH : Int))) (
  (0 : Int) ≤ dE ∧ dE < (j0 : Int) ∧
  needPtr i0 fun jH kH =>
  ∃ pH,
  hH.cell? ⟨jH, kH + dE.toNat * 1, none⟩ = some (.int .i64 pH) ∧
  sel ((pH : Int) == (0 : Int)) (
  R (.bool false) hH) (
  let qH : Int := IntKind.i64.wrap (dE + 1);
  ([.slice i0 j0 k0, .slice Aa1 na1 ca1, .int .i64 (na1 : Int)] : List Value) = ([.slice i0 j0 k0, .slice Aa1 na1 ca1, .int .i64 (na1 : Int)] : List Value) ∧ ∃ m, m < hE ∧ zD qH hH m)) (
  let tH : Int := IntKind.i64.wrap (dE + 1);
  ([.slice i0 j0 k0, .slice Aa1 na1 ca1, .int .i64 (na1 : Int)] : List Value) = ([.slice i0 j0 k0, .slice Aa1 na1 ca1, .int .i64 (na1 : Int)] : List Value) ∧ ∃ m, m < hE ∧ zD tH hH m)) (
  R (.bool true) gE))))
theorem f16.eq (Aa0_0 : Option Addr) (na0_0 ca0_0 : Nat) (Aa0_1 : Option Addr) (na0_1 ca0_1 : Nat) (Aa0_2 : Option Addr) (na0_2 ca0_2 : Nat) (Aa0_3 : Option Addr) (na0_3 ca0_3 : Nat) (Aa0_4 : Option Addr) (na0_4 ca0_4 : Nat) (Aa0_5 : Option Addr) (na0_5 ca0_5 : Nat) (Aa0_6 : Option Addr) (na0_6 ca0_6 : Nat) (Aa0_7 : Option Addr) (na0_7 ca0_7 : Nat) (Aa0_8 : Option Addr) (na0_8 ca0_8 : Nat) (Aa0_9 : Option Addr) (na0_9 ca0_9 : Nat) (Aa0_10 : Option Addr) (na0_10 ca0_10 : Nat) (Aa1 : Option Addr) (na1 ca1 : Nat) (Aa2 : Option Addr) (na2 ca2 : Nat) (w : World) (R : Value → World → Prop) : f16.VC Aa0_0 na0_0 ca0_0 Aa0_1 na0_1 ca0_1 Aa0_2 na0_2 ca0_2 Aa0_3 na0_3 ca0_3 Aa0_4 na0_4 ca0_4 Aa0_5 na0_5 ca0_5 Aa0_6 na0_6 ca0_6 Aa0_7 na0_7 ca0_7 Aa0_8 na0_8 ca0_8 Aa0_9 na0_9 ca0_9 Aa0_10 na0_10 ca0_10 Aa1 na1 ca1 Aa2 na2 ca2 w R = funV Try.prog Try.f16 f16.AL f16.AC #[.agg #[.slice Aa0_0 na0_0 ca0_0, .slice Aa0_1 na0_1 ca0_1, .slice Aa0_2 na0_2 ca0_2, .slice Aa0_3 na0_3 ca0_3, .slice Aa0_4 na0_4 ca0_4, .slice Aa0_5 na0_5 ca0_5, .slice Aa0_6 na0_6 ca0_6, .slice Aa0_7 na0_7 ca0_7, .slice Aa0_8 na0_8 ca0_8, .slice Aa0_9 na0_9 ca0_9, .slice Aa0_10 na0_10 ca0_10], .slice Aa1 na1 ca1, .slice Aa2 na2 ca2] w R := by kernel_rfl
theorem f16.calls {Aa0_0 : Option Addr} {na0_0 ca0_0 : Nat} {Aa0_1 : Option Addr} {na0_1 ca0_1 : Nat} {Aa0_2 : Option Addr} {na0_2 ca0_2 : Nat} {Aa0_3 : Option Addr} {na0_3 ca0_3 : Nat} {Aa0_4 : Option Addr} {na0_4 ca0_4 : Nat} {Aa0_5 : Option Addr} {na0_5 ca0_5 : Nat} {Aa0_6 : Option Addr} {na0_6 ca0_6 : Nat} {Aa0_7 : Option Addr} {na0_7 ca0_7 : Nat} {Aa0_8 : Option Addr} {na0_8 ca0_8 : Nat} {Aa0_9 : Option Addr} {na0_9 ca0_9 : Nat} {Aa0_10 : Option Addr} {na0_10 ca0_10 : Nat} {Aa1 : Option Addr} {na1 ca1 : Nat} {Aa2 : Option Addr} {na2 ca2 : Nat} {w : World} {R : Value → World → Prop} (h : f16.VC Aa0_0 na0_0 ca0_0 Aa0_1 na0_1 ca0_1 Aa0_2 na0_2 ca0_2 Aa0_3 na0_3 ca0_3 Aa0_4 na0_4 ca0_4 Aa0_5 na0_5 ca0_5 Aa0_6 na0_6 ca0_6 Aa0_7 na0_7 ca0_7 Aa0_8 na0_8 ca0_8 Aa0_9 na0_9 ca0_9 Aa0_10 na0_10 ca0_10 Aa1 na1 ca1 Aa2 na2 ca2 w R) : Calls Try.prog 16 #[.agg #[.slice Aa0_0 na0_0 ca0_0, .slice Aa0_1 na0_1 ca0_1, .slice Aa0_2 na0_2 ca0_2, .slice Aa0_3 na0_3 ca0_3, .slice Aa0_4 na0_4 ca0_4, .slice Aa0_5 na0_5 ca0_5, .slice Aa0_6 na0_6 ca0_6, .slice Aa0_7 na0_7 ca0_7, .slice Aa0_8 na0_8 ca0_8, .slice Aa0_9 na0_9 ca0_9, .slice Aa0_10 na0_10 ca0_10], .slice Aa1 na1 ca1, .slice Aa2 na2 ca2] w fun e w' => ∃ v, e = .returned v ∧ R v w' :=
  funV_sound (fn := Try.f16) (AL := f16.AL) (AC := f16.AC) W5.mixed (by kernel_rfl) (by rw [← f16.eq Aa0_0 na0_0 ca0_0 Aa0_1 na0_1 ca0_1 Aa0_2 na0_2 ca0_2 Aa0_3 na0_3 ca0_3 Aa0_4 na0_4 ca0_4 Aa0_5 na0_5 ca0_5 Aa0_6 na0_6 ca0_6 Aa0_7 na0_7 ca0_7 Aa0_8 na0_8 ca0_8 Aa0_9 na0_9 ca0_9 Aa0_10 na0_10 ca0_10 Aa1 na1 ca1 Aa2 na2 ca2]; exact h)

/-- gatehouse/gatehouseref27.tabled -/
def f27.AL : Nat → Option Ann := fun r => match r with | 3 => some ⟨[(6, .int .i64)], [1, 2, 5]⟩ | 10 => some ⟨[(8, .slice), (9, .int .i64)], [1, 2, 5, 6, 7]⟩ | _ => none
def f27.AC : Nat → Option Ann := fun r => match r with | 8 => some ⟨[], [1, 2, 5, 6, 7]⟩ | 14 => some ⟨[(50, .bool)], [1, 2, 5, 6, 7, 8, 9, 10]⟩ | 15 => some ⟨[(10, .bool)], [1, 2, 5, 6, 7, 8, 9]⟩ | _ => none
def f27.VC (Aa0_0 : Option Addr) (na0_0 ca0_0 : Nat) (Aa0_1 : Option Addr) (na0_1 ca0_1 : Nat) (Aa0_2 : Option Addr) (na0_2 ca0_2 : Nat) (Aa0_3 : Option Addr) (na0_3 ca0_3 : Nat) (Aa0_4 : Option Addr) (na0_4 ca0_4 : Nat) (Aa0_5 : Option Addr) (na0_5 ca0_5 : Nat) (Aa0_6 : Option Addr) (na0_6 ca0_6 : Nat) (Aa0_7 : Option Addr) (na0_7 ca0_7 : Nat) (Aa0_8 : Option Addr) (na0_8 ca0_8 : Nat) (Aa0_9 : Option Addr) (na0_9 ca0_9 : Nat) (Aa0_10 : Option Addr) (na0_10 ca0_10 : Nat) (Aa1 : Option Addr) (na1 ca1 : Nat) (w : World) (R : Value → World → Prop) : Prop :=
  let b0 := World.alloc w (.cells #[.slice Aa0_0 na0_0 ca0_0, .slice Aa0_1 na0_1 ca0_1, .slice Aa0_2 na0_2 ca0_2, .slice Aa0_3 na0_3 ca0_3, .slice Aa0_4 na0_4 ca0_4, .slice Aa0_5 na0_5 ca0_5, .slice Aa0_6 na0_6 ca0_6, .slice Aa0_7 na0_7 ca0_7, .slice Aa0_8 na0_8 ca0_8, .slice Aa0_9 na0_9 ca0_9, .slice Aa0_10 na0_10 ca0_10] 28);
  let d0 := World.alloc b0 (.cells #[.slice Aa1 na1 ca1, .slice none 0 0] 117);
  ∃ g0 : Int → World → Nat → Prop,
  (∃ n, g0 (-1) d0 n) ∧
  ∀ h0 : Env, ∀ i0 j0 k0, g0 i0 j0 k0 →
  sel (decide ((i0 : Int) < ((na1 : Int) : Int))) (
  ∃ p0 q0 t0,
  j0.cell? ⟨w.heap.size, 0, none⟩ = some (.slice p0 q0 t0) ∧
  ∃ u0 v0 x0,
  j0.cell? ⟨w.heap.size, 1, none⟩ = some (.slice u0 v0 x0) ∧
  ∃ y0 z0 b1,
  j0.cell? ⟨w.heap.size, 2, none⟩ = some (.slice y0 z0 b1) ∧
  ∃ d1 g1 h1,
  j0.cell? ⟨w.heap.size, 3, none⟩ = some (.slice d1 g1 h1) ∧
  ∃ i1 j1 k1,
  j0.cell? ⟨w.heap.size, 4, none⟩ = some (.slice i1 j1 k1) ∧
  ∃ p1 q1 t1,
  j0.cell? ⟨w.heap.size, 5, none⟩ = some (.slice p1 q1 t1) ∧
  ∃ u1 v1 x1,
  j0.cell? ⟨w.heap.size, 6, none⟩ = some (.slice u1 v1 x1) ∧
  ∃ y1 z1 b2,
  j0.cell? ⟨w.heap.size, 7, none⟩ = some (.slice y1 z1 b2) ∧
  ∃ d2 g2 h2,
  j0.cell? ⟨w.heap.size, 8, none⟩ = some (.slice d2 g2 h2) ∧
  ∃ i2 j2 k2,
  j0.cell? ⟨w.heap.size, 9, none⟩ = some (.slice i2 j2 k2) ∧
  ∃ p2 q2 t2,
  j0.cell? ⟨w.heap.size, 10, none⟩ = some (.slice p2 q2 t2) ∧
  let u2 := World.alloc j0 (.cells #[.slice none 0 0, .slice none 0 0, .slice none 0 0, .slice none 0 0, .slice none 0 0, .slice none 0 0, .slice none 0 0, .slice none 0 0, .slice none 0 0, .slice none 0 0, .slice none 0 0] 28);
  canStore u2 j0.heap.size 0 11 ∧
  let v2 := setCs u2 j0.heap.size 0 [.slice p0 q0 t0, .slice u0 v0 x0, .slice y0 z0 b1, .slice d1 g1 h1, .slice i1 j1 k1, .slice p1 q1 t1, .slice u1 v1 x1, .slice y1 z1 b2, .slice d2 g2 h2, .slice i2 j2 k2, .slice p2 q2 t2];
  ∃ x2 : World → Prop,
  (sel (decide ((0 : Int) ≤ (i0 : Int))) (
  (0 : Int) ≤ i0 ∧ i0 < (na1 : Int) ∧
  needPtr Aa1 fun y2 z2 =>
  ∃ b3 d3 g3,
  v2.cell? ⟨y2, z2 + i0.toNat * 19 + 5, none⟩ = some (.slice b3 d3 g3) ∧
  ∃ h3 i3 j3,
  v2.cell? ⟨y2, z2 + i0.toNat * 19 + 5 + 1, none⟩ = some (.slice h3 i3 j3) ∧
  ∃ k3 p3 q3,
  v2.cell? ⟨y2, z2 + i0.toNat * 19 + 5 + 1 + 1, none⟩ = some (.slice k3 p3 q3) ∧
  ∃ t3 u3 v3,
  v2.cell? ⟨y2, z2 + i0.toNat * 19 + 5 + 1 + 1 + 1, none⟩ = some (.slice t3 u3 v3) ∧
  ∃ x3 y3 z3,
  v2.cell? ⟨y2, z2 + i0.toNat * 19 + 5 + 1 + 1 + 1 + 1, none⟩ = some (.slice x3 y3 z3) ∧
  ∃ b4 d4 g4,
  v2.cell? ⟨y2, z2 + i0.toNat * 19 + 5 + 1 + 1 + 1 + 1 + 1, none⟩ = some (.slice b4 d4 g4) ∧
  ∃ h4 i4 j4,
  v2.cell? ⟨y2, z2 + i0.toNat * 19 + 5 + 1 + 1 + 1 + 1 + 1 + 1, none⟩ = some (.slice h4 i4 j4) ∧
  ∃ k4 p4 q4,
  v2.cell? ⟨y2, z2 + i0.toNat * 19 + 5 + 1 + 1 + 1 + 1 + 1 + 1 + 1, none⟩ = some (.slice k4 p4 q4) ∧
  ∃ t4 u4 v4,
  v2.cell? ⟨y2, z2 + i0.toNat * 19 + 5 + 1 + 1 + 1 + 1 + 1 + 1 + 1 + 1, none⟩ = some (.slice t4 u4 v4) ∧
  ∃ x4 y4 z4,
  v2.cell? ⟨y2, z2 + i0.toNat * 19 + 5 + 1 + 1 + 1 + 1 + 1 + 1 + 1 + 1 + 1, none⟩ = some (.slice x4 y4 z4) ∧
  ∃ b5 d5 g5,
  v2.cell? ⟨y2, z2 + i0.toNat * 19 + 5 + 1 + 1 + 1 + 1 + 1 + 1 + 1 + 1 + 1 + 1, none⟩ = some (.slice b5 d5 g5) ∧
  canStore v2 j0.heap.size 0 11 ∧
  let h5 := setCs v2 j0.heap.size 0 [.slice b3 d3 g3, .slice h3 i3 j3, .slice k3 p3 q3, .slice t3 u3 v3, .slice x3 y3 z3, .slice b4 d4 g4, .slice h4 i4 j4, .slice k4 p4 q4, .slice t4 u4 v4, .slice x4 y4 z4, .slice b5 d5 g5];
  ([.slice Aa1 na1 ca1, .pointer (some ⟨w.heap.size, 0, none⟩), .pointer (some ⟨b0.heap.size, 0, none⟩), .int .i64 i0, .pointer (some ⟨j0.heap.size, 0, none⟩)] : List Value) = ([.slice Aa1 na1 ca1, .pointer (some ⟨w.heap.size, 0, none⟩), .pointer (some ⟨b0.heap.size, 0, none⟩), .int .i64 i0, .pointer (some ⟨j0.heap.size, 0, none⟩)] : List Value) ∧ x2 h5) (
  ([.slice Aa1 na1 ca1, .pointer (some ⟨w.heap.size, 0, none⟩), .pointer (some ⟨b0.heap.size, 0, none⟩), .int .i64 i0, .pointer (some ⟨j0.heap.size, 0, none⟩)] : List Value) = ([.slice Aa1 na1 ca1, .pointer (some ⟨w.heap.size, 0, none⟩), .pointer (some ⟨b0.heap.size, 0, none⟩), .int .i64 i0, .pointer (some ⟨j0.heap.size, 0, none⟩)] : List Value) ∧ x2 v2)) ∧
  ∀ i5 : Env, ∀ j5, x2 j5 →
  ∃ k5 : Option Addr → Nat → Nat → Int → World → Nat → Prop,
  (∃ n, k5 none 0 0 0 j5 n) ∧
  ∀ p5 : Env, ∀ q5 t5 u5 v5 x5 y5, k5 q5 t5 u5 v5 x5 y5 →
  sel (decide ((v5 : Int) < ((na1 : Int) : Int))) (
  ∃ z5 : Bool → World → Prop,
  (∃ b6 : Bool → World → Prop,
  ((0 : Int) ≤ v5 ∧ v5 < (na1 : Int) ∧
  needPtr Aa1 fun d6 g6 =>
  ∃ h6,
  x5.cell? ⟨d6, g6 + v5.toNat * 19 + 2, none⟩ = some (.bool h6) ∧
  sel (!h6) (
  sel (decide ((i0 : Int) < (0 : Int))) (
  ([.slice Aa1 na1 ca1, .pointer (some ⟨w.heap.size, 0, none⟩), .pointer (some ⟨b0.heap.size, 0, none⟩), .int .i64 i0, .pointer (some ⟨j0.heap.size, 0, none⟩), .slice q5 t5 u5, .int .i64 v5, .bool false] : List Value) = ([.slice Aa1 na1 ca1, .pointer (some ⟨w.heap.size, 0, none⟩), .pointer (some ⟨b0.heap.size, 0, none⟩), .int .i64 i0, .pointer (some ⟨j0.heap.size, 0, none⟩), .slice q5 t5 u5, .int .i64 v5, .bool false] : List Value) ∧ b6 true x5) (
  (0 : Int) ≤ i0 ∧ i0 < (na1 : Int) ∧
  needPtr Aa1 fun i6 j6 =>
  ∃ k6,
  x5.cell? ⟨i6, j6 + i0.toNat * 19, none⟩ = some (.int .i64 k6) ∧
  ∃ p6,
  x5.cell? ⟨i6, j6 + i0.toNat * 19 + 1, none⟩ = some (.int .i64 p6) ∧
  ∃ q6,
  x5.cell? ⟨i6, j6 + i0.toNat * 19 + 1 + 1, none⟩ = some (.bool q6) ∧
  ∃ t6,
  x5.cell? ⟨i6, j6 + i0.toNat * 19 + 1 + 1 + 1, none⟩ = some (.bool t6) ∧
  ∃ u6,
  x5.cell? ⟨i6, j6 + i0.toNat * 19 + 1 + 1 + 1 + 1, none⟩ = some (.bool u6) ∧
  ∃ v6 x6 y6,
  x5.cell? ⟨i6, j6 + i0.toNat * 19 + 1 + 1 + 1 + 1 + 1, none⟩ = some (.slice v6 x6 y6) ∧
  ∃ z6 b7 d7,
  x5.cell? ⟨i6, j6 + i0.toNat * 19 + 1 + 1 + 1 + 1 + 1 + 1, none⟩ = some (.slice z6 b7 d7) ∧
  ∃ g7 h7 i7,
  x5.cell? ⟨i6, j6 + i0.toNat * 19 + 1 + 1 + 1 + 1 + 1 + 1 + 1, none⟩ = some (.slice g7 h7 i7) ∧
  ∃ j7 k7 p7,
  x5.cell? ⟨i6, j6 + i0.toNat * 19 + 1 + 1 + 1 + 1 + 1 + 1 + 1 + 1, none⟩ = some (.slice j7 k7 p7) ∧
  ∃ q7 t7 u7,
  x5.cell? ⟨i6, j6 + i0.toNat * 19 + 1 + 1 + 1 + 1 + 1 + 1 + 1 + 1 + 1, none⟩ = some (.slice q7 t7 u7) ∧
  ∃ v7 x7 y7,
  x5.cell? ⟨i6, j6 + i0.toNat * 19 + 1 + 1 + 1 + 1 + 1 + 1 + 1 + 1 + 1 + 1, none⟩ = some (.slice v7 x7 y7) ∧
  ∃ z7 b8 d8,
  x5.cell? ⟨i6, j6 + i0.toNat * 19 + 1 + 1 + 1 + 1 + 1 + 1 + 1 + 1 + 1 + 1 + 1, none⟩ = some (.slice z7 b8 d8) ∧
  ∃ g8 h8 i8,
  x5.cell? ⟨i6, j6 + i0.toNat * 19 + 1 + 1 + 1 + 1 + 1 + 1 + 1 + 1 + 1 + 1 + 1 + 1, none⟩ = some (.slice g8 h8 i8) ∧
  ∃ j8 k8 p8,
  x5.cell? ⟨i6, j6 + i0.toNat * 19 + 1 + 1 + 1 + 1 + 1 + 1 + 1 + 1 + 1 + 1 + 1 + 1 + 1, none⟩ = some (.slice j8 k8 p8) ∧
  ∃ q8 t8 u8,
  x5.cell? ⟨i6, j6 + i0.toNat * 19 + 1 + 1 + 1 + 1 + 1 + 1 + 1 + 1 + 1 + 1 + 1 + 1 + 1 + 1, none⟩ = some (.slice q8 t8 u8) ∧
  ∃ v8 x8 y8,
  x5.cell? ⟨i6, j6 + i0.toNat * 19 + 1 + 1 + 1 + 1 + 1 + 1 + 1 + 1 + 1 + 1 + 1 + 1 + 1 + 1 + 1, none⟩ = some (.slice v8 x8 y8) ∧
  ∃ z8,
  x5.cell? ⟨i6, j6 + i0.toNat * 19 + 1 + 1 + 1 + 1 + 1 + 1 + 1 + 1 + 1 + 1 + 1 + 1 + 1 + 1 + 1 + 1, none⟩ = some (.string z8) ∧
  ∃ b9,
  x5.cell? ⟨i6, j6 + i0.toNat * 19 + 1 + 1 + 1 + 1 + 1 + 1 + 1 + 1 + 1 + 1 + 1 + 1 + 1 + 1 + 1 + 1 + 1, none⟩ = some (.string b9) ∧
  ∃ d9,
  x5.cell? ⟨i6, j6 + i0.toNat * 19 + 1 + 1 + 1 + 1 + 1 + 1 + 1 + 1 + 1 + 1 + 1 + 1 + 1 + 1 + 1 + 1 + 1 + 1, none⟩ = some (.string d9) ∧
  Calls Try.prog 54 #[.agg #[.int .i64 k6, .int .i64 p6, .bool q6, .bool t6, .bool u6, .slice v6 x6 y6, .slice z6 b7 d7, .slice g7 h7 i7, .slice j7 k7 p7, .slice q7 t7 u7, .slice v7 x7 y7, .slice z7 b8 d8, .slice g8 h8 i8, .slice j8 k8 p8, .slice q8 t8 u8, .slice v8 x8 y8, .string z8, .string b9, .string d9]] x5 fun g9 h9 =>
  ∃ i9,
  g9 = .returned (.bool i9) ∧
  ([.slice Aa1 na1 ca1, .pointer (some ⟨w.heap.size, 0, none⟩), .pointer (some ⟨b0.heap.size, 0, none⟩), .int .i64 i0, .pointer (some ⟨j0.heap.size, 0, none⟩), .slice q5 t5 u5, .int .i64 v5, .bool false] : List Value) = ([.slice Aa1 na1 ca1, .pointer (some ⟨w.heap.size, 0, none⟩), .pointer (some ⟨b0.heap.size, 0, none⟩), .int .i64 i0, .pointer (some ⟨j0.heap.size, 0, none⟩), .slice q5 t5 u5, .int .i64 v5, .bool false] : List Value) ∧ b6 i9 h9)) (
  ([.slice Aa1 na1 ca1, .pointer (some ⟨w.heap.size, 0, none⟩), .pointer (some ⟨b0.heap.size, 0, none⟩), .int .i64 i0, .pointer (some ⟨j0.heap.size, 0, none⟩), .slice q5 t5 u5, .int .i64 v5, .bool false] : List Value) = ([.slice Aa1 na1 ca1, .pointer (some ⟨w.heap.size, 0, none⟩), .pointer (some ⟨b0.heap.size, 0, none⟩), .int .i64 i0, .pointer (some ⟨j0.heap.size, 0, none⟩), .slice q5 t5 u5, .int .i64 v5, .bool false] : List Value) ∧ b6 false x5)) ∧
  ∀ j9 : Env, ∀ k9 p9, b6 k9 p9 →
  sel k9 (
  (0 : Int) ≤ v5 ∧ v5 < (na1 : Int) ∧
  needPtr Aa1 fun q9 t9 =>
  ∃ u9 v9 x9,
  p9.cell? ⟨j0.heap.size, 0, none⟩ = some (.slice u9 v9 x9) ∧
  ∃ y9 z9 bA,
  p9.cell? ⟨j0.heap.size, 1, none⟩ = some (.slice y9 z9 bA) ∧
  ∃ dA gA hA,
  p9.cell? ⟨j0.heap.size, 2, none⟩ = some (.slice dA gA hA) ∧
  ∃ iA jA kA,
  p9.cell? ⟨j0.heap.size, 3, none⟩ = some (.slice iA jA kA) ∧
  ∃ pA qA tA,
  p9.cell? ⟨j0.heap.size, 4, none⟩ = some (.slice pA qA tA) ∧
  ∃ uA vA xA,
  p9.cell? ⟨j0.heap.size, 5, none⟩ = some (.slice uA vA xA) ∧
  ∃ yA zA bB,
  p9.cell? ⟨j0.heap.size, 6, none⟩ = some (.slice yA zA bB) ∧
  ∃ dB gB hB,
  p9.cell? ⟨j0.heap.size, 7, none⟩ = some (.slice dB gB hB) ∧
  ∃ iB jB kB,
  p9.cell? ⟨j0.heap.size, 8, none⟩ = some (.slice iB jB kB) ∧
  ∃ pB qB tB,
  p9.cell? ⟨j0.heap.size, 9, none⟩ = some (.slice pB qB tB) ∧
  ∃ uB vB xB,
  p9.cell? ⟨j0.heap.size, 10, none⟩ = some (.slice uB vB xB) ∧
  ∃ yB,
  p9.cell? ⟨q9, t9 + v5.toNat * 19 + 16, none⟩ = some (.string yB) ∧
  ∃ zB,
  p9.cell? ⟨q9, t9 + v5.toNat * 19 + 16 + 1, none⟩ = some (.string zB) ∧
  ∃ bC,
  p9.cell? ⟨q9, t9 + v5.toNat * 19 + 16 + 1 + 1, none⟩ = some (.string bC) ∧
  Calls Try.prog 55 #[.agg #[.slice u9 v9 x9, .slice y9 z9 bA, .slice dA gA hA, .slice iA jA kA, .slice pA qA tA, .slice uA vA xA, .slice yA zA bB, .slice dB gB hB, .slice iB jB kB, .slice pB qB tB, .slice uB vB xB], .agg #[.string yB, .string zB, .string bC]] p9.drew fun dC gC =>
  ∃ hC,
  dC = .returned (.bool hC) ∧
  ([.slice Aa1 na1 ca1, .pointer (some ⟨w.heap.size, 0, none⟩), .pointer (some ⟨b0.heap.size, 0, none⟩), .int .i64 i0, .pointer (some ⟨j0.heap.size, 0, none⟩), .slice q5 t5 u5, .int .i64 v5] : List Value) = ([.slice Aa1 na1 ca1, .pointer (some ⟨w.heap.size, 0, none⟩), .pointer (some ⟨b0.heap.size, 0, none⟩), .int .i64 i0, .pointer (some ⟨j0.heap.size, 0, none⟩), .slice q5 t5 u5, .int .i64 v5] : List Value) ∧ z5 hC gC) (
  ([.slice Aa1 na1 ca1, .pointer (some ⟨w.heap.size, 0, none⟩), .pointer (some ⟨b0.heap.size, 0, none⟩), .int .i64 i0, .pointer (some ⟨j0.heap.size, 0, none⟩), .slice q5 t5 u5, .int .i64 v5] : List Value) = ([.slice Aa1 na1 ca1, .pointer (some ⟨w.heap.size, 0, none⟩), .pointer (some ⟨b0.heap.size, 0, none⟩), .int .i64 i0, .pointer (some ⟨j0.heap.size, 0, none⟩), .slice q5 t5 u5, .int .i64 v5] : List Value) ∧ z5 false p9)) ∧
  ∀ iC : Env, ∀ jC kC, z5 jC kC →
  let pC := World.alloc kC (.cells #[.bool jC] 4);
  ∃ qC tC uC,
  ∃ vC, (Builtin.append_ #[81, 81] 81 #[.slice q5 t5 u5, .slice (some ⟨kC.heap.size, 0, none⟩) 1 1]).run Try.prog pC = .ok (.slice qC tC uC) vC ∧
  let xC : Int := IntKind.i64.wrap (v5 + 1);
  ([.slice Aa1 na1 ca1, .pointer (some ⟨w.heap.size, 0, none⟩), .pointer (some ⟨b0.heap.size, 0, none⟩), .int .i64 i0, .pointer (some ⟨j0.heap.size, 0, none⟩)] : List Value) = ([.slice Aa1 na1 ca1, .pointer (some ⟨w.heap.size, 0, none⟩), .pointer (some ⟨b0.heap.size, 0, none⟩), .int .i64 i0, .pointer (some ⟨j0.heap.size, 0, none⟩)] : List Value) ∧ ∃ m, m < y5 ∧ k5 qC tC uC xC vC m) (
  ∃ yC zC bD,
  x5.cell? ⟨b0.heap.size, 1, none⟩ = some (.slice yC zC bD) ∧
  let dD := World.alloc x5 (.cells #[.slice q5 t5 u5] 81);
  ∃ gD hD iD,
  ∃ jD, (Builtin.append_ #[77, 77] 77 #[.slice yC zC bD, .slice (some ⟨x5.heap.size, 0, none⟩) 1 1]).run Try.prog dD = .ok (.slice gD hD iD) jD ∧
  canStore jD b0.heap.size 1 1 ∧
  let kD := setCs jD b0.heap.size 1 [.slice gD hD iD];
  let pD : Int := IntKind.i64.wrap (i0 + 1);
  ([.slice Aa1 na1 ca1, .pointer (some ⟨w.heap.size, 0, none⟩), .pointer (some ⟨b0.heap.size, 0, none⟩)] : List Value) = ([.slice Aa1 na1 ca1, .pointer (some ⟨w.heap.size, 0, none⟩), .pointer (some ⟨b0.heap.size, 0, none⟩)] : List Value) ∧ ∃ m, m < k0 ∧ g0 pD kD m)) (
  R (.pointer (some ⟨b0.heap.size, 0, none⟩)) j0)
theorem f27.eq (Aa0_0 : Option Addr) (na0_0 ca0_0 : Nat) (Aa0_1 : Option Addr) (na0_1 ca0_1 : Nat) (Aa0_2 : Option Addr) (na0_2 ca0_2 : Nat) (Aa0_3 : Option Addr) (na0_3 ca0_3 : Nat) (Aa0_4 : Option Addr) (na0_4 ca0_4 : Nat) (Aa0_5 : Option Addr) (na0_5 ca0_5 : Nat) (Aa0_6 : Option Addr) (na0_6 ca0_6 : Nat) (Aa0_7 : Option Addr) (na0_7 ca0_7 : Nat) (Aa0_8 : Option Addr) (na0_8 ca0_8 : Nat) (Aa0_9 : Option Addr) (na0_9 ca0_9 : Nat) (Aa0_10 : Option Addr) (na0_10 ca0_10 : Nat) (Aa1 : Option Addr) (na1 ca1 : Nat) (w : World) (R : Value → World → Prop) : f27.VC Aa0_0 na0_0 ca0_0 Aa0_1 na0_1 ca0_1 Aa0_2 na0_2 ca0_2 Aa0_3 na0_3 ca0_3 Aa0_4 na0_4 ca0_4 Aa0_5 na0_5 ca0_5 Aa0_6 na0_6 ca0_6 Aa0_7 na0_7 ca0_7 Aa0_8 na0_8 ca0_8 Aa0_9 na0_9 ca0_9 Aa0_10 na0_10 ca0_10 Aa1 na1 ca1 w R = funV Try.prog Try.f27 f27.AL f27.AC #[.agg #[.slice Aa0_0 na0_0 ca0_0, .slice Aa0_1 na0_1 ca0_1, .slice Aa0_2 na0_2 ca0_2, .slice Aa0_3 na0_3 ca0_3, .slice Aa0_4 na0_4 ca0_4, .slice Aa0_5 na0_5 ca0_5, .slice Aa0_6 na0_6 ca0_6, .slice Aa0_7 na0_7 ca0_7, .slice Aa0_8 na0_8 ca0_8, .slice Aa0_9 na0_9 ca0_9, .slice Aa0_10 na0_10 ca0_10], .slice Aa1 na1 ca1] w R := by kernel_rfl
theorem f27.calls {Aa0_0 : Option Addr} {na0_0 ca0_0 : Nat} {Aa0_1 : Option Addr} {na0_1 ca0_1 : Nat} {Aa0_2 : Option Addr} {na0_2 ca0_2 : Nat} {Aa0_3 : Option Addr} {na0_3 ca0_3 : Nat} {Aa0_4 : Option Addr} {na0_4 ca0_4 : Nat} {Aa0_5 : Option Addr} {na0_5 ca0_5 : Nat} {Aa0_6 : Option Addr} {na0_6 ca0_6 : Nat} {Aa0_7 : Option Addr} {na0_7 ca0_7 : Nat} {Aa0_8 : Option Addr} {na0_8 ca0_8 : Nat} {Aa0_9 : Option Addr} {na0_9 ca0_9 : Nat} {Aa0_10 : Option Addr} {na0_10 ca0_10 : Nat} {Aa1 : Option Addr} {na1 ca1 : Nat} {w : World} {R : Value → World → Prop} (h : f27.VC Aa0_0 na0_0 ca0_0 Aa0_1 na0_1 ca0_1 Aa0_2 na0_2 ca0_2 Aa0_3 na0_3 ca0_3 Aa0_4 na0_4 ca0_4 Aa0_5 na0_5 ca0_5 Aa0_6 na0_6 ca0_6 Aa0_7 na0_7 ca0_7 Aa0_8 na0_8 ca0_8 Aa0_9 na0_9 ca0_9 Aa0_10 na0_10 ca0_10 Aa1 na1 ca1 w R) : Calls Try.prog 27 #[.agg #[.slice Aa0_0 na0_0 ca0_0, .slice Aa0_1 na0_1 ca0_1, .slice Aa0_2 na0_2 ca0_2, .slice Aa0_3 na0_3 ca0_3, .slice Aa0_4 na0_4 ca0_4, .slice Aa0_5 na0_5 ca0_5, .slice Aa0_6 na0_6 ca0_6, .slice Aa0_7 na0_7 ca0_7, .slice Aa0_8 na0_8 ca0_8, .slice Aa0_9 na0_9 ca0_9, .slice Aa0_10 na0_10 ca0_10], .slice Aa1 na1 ca1] w fun e w' => ∃ v, e = .returned v ∧ R v w' :=
  funV_sound (fn := Try.f27) (AL := f27.AL) (AC := f27.AC) W5.mixed (by kernel_rfl) (by rw [← f27.eq Aa0_0 na0_0 ca0_0 Aa0_1 na0_1 ca0_1 Aa0_2 na0_2 ca0_2 Aa0_3 na0_3 ca0_3 Aa0_4 na0_4 ca0_4 Aa0_5 na0_5 ca0_5 Aa0_6 na0_6 ca0_6 Aa0_7 na0_7 ca0_7 Aa0_8 na0_8 ca0_8 Aa0_9 na0_9 ca0_9 Aa0_10 na0_10 ca0_10 Aa1 na1 ca1]; exact h)

/-- (*gatehouse/gatehouseref27.Table).leads -/
def f28.AL : Nat → Option Ann := fun r => match r with | 4 => some ⟨[(4, .slice), (5, .int .i64)], [0, 3]⟩ | 8 => some ⟨[(6, .slice), (7, .int .i64)], [0, 3, 4, 5]⟩ | 13 => some ⟨[(8, .int .i64)], [0, 3, 4]⟩ | 16 => some ⟨[(9, .int .i64)], [0, 3, 4, 8]⟩ | 21 => some ⟨[(11, .bool), (12, .int .i64)], [0, 3, 4, 8, 9, 10]⟩ | _ => none
def f28.AC : Nat → Option Ann := fun r => match r with | 17 => some ⟨[], [0, 3, 4, 8, 9]⟩ | _ => none
def f28.VC (a0 : Nat) (w : World) (R : Value → World → Prop) : Prop :=
  ∃ b0 d0 g0,
  w.cell? ⟨a0, 0, none⟩ = some (.slice b0 d0 g0) ∧
  ∃ h0 : Option Addr → Nat → Nat → Int → World → Nat → Prop,
  (∃ n, h0 none 0 0 0 w n) ∧
  ∀ i0 : Env, ∀ j0 k0 p0 q0 t0 u0, h0 j0 k0 p0 q0 t0 u0 →
  Calls Try.prog 56 #[.int .i64 (d0 : Int)] t0 fun v0 x0 =>
  ∃ y0,
  v0 = .returned (.int .i64 y0) ∧
  sel (decide ((q0 : Int) < (y0 : Int))) (
  ∃ z0 : Option Addr → Nat → Nat → Int → World → Nat → Prop,
  (∃ n, z0 none 0 0 0 x0 n) ∧
  ∀ b1 : Env, ∀ d1 g1 h1 i1 j1 k1, z0 d1 g1 h1 i1 j1 k1 →
  sel (decide ((i1 : Int) ≤ ((d0 : Int) : Int))) (
  let p1 := World.alloc j1 (.cells #[.bool false] 4);
  ∃ q1 t1 u1,
  ∃ v1, (Builtin.append_ #[81, 81] 81 #[.slice d1 g1 h1, .slice (some ⟨j1.heap.size, 0, none⟩) 1 1]).run Try.prog p1 = .ok (.slice q1 t1 u1) v1 ∧
  let x1 : Int := IntKind.i64.wrap (i1 + 1);
  ([.pointer (some ⟨a0, 0, none⟩), .int .i64 (d0 : Int), .slice j0 k0 p0, .int .i64 q0] : List Value) = ([.pointer (some ⟨a0, 0, none⟩), .int .i64 (d0 : Int), .slice j0 k0 p0, .int .i64 q0] : List Value) ∧ ∃ m, m < k1 ∧ z0 q1 t1 u1 x1 v1 m) (
  let y1 := World.alloc j1 (.cells #[.slice d1 g1 h1] 81);
  ∃ z1 b2 d2,
  ∃ g2, (Builtin.append_ #[77, 77] 77 #[.slice j0 k0 p0, .slice (some ⟨j1.heap.size, 0, none⟩) 1 1]).run Try.prog y1 = .ok (.slice z1 b2 d2) g2 ∧
  let h2 : Int := IntKind.i64.wrap (q0 + 1);
  ([.pointer (some ⟨a0, 0, none⟩), .int .i64 (d0 : Int)] : List Value) = ([.pointer (some ⟨a0, 0, none⟩), .int .i64 (d0 : Int)] : List Value) ∧ ∃ m, m < u0 ∧ h0 z1 b2 d2 h2 g2 m)) (
  Calls Try.prog 56 #[.int .i64 (d0 : Int)] x0 fun i2 j2 =>
  ∃ k2,
  i2 = .returned (.int .i64 k2) ∧
  let p2 : Int := IntKind.i64.wrap (k2 - 1);
  ∃ q2 : Int → World → Nat → Prop,
  (∃ n, q2 p2 j2 n) ∧
  ∀ t2 : Env, ∀ u2 v2 x2, q2 u2 v2 x2 →
  sel (decide ((0 : Int) ≤ (u2 : Int))) (
  ∃ y2 : Int → World → Nat → Prop,
  (∃ n, y2 (-1) v2 n) ∧
  ∀ z2 : Env, ∀ b3 d3 g3, y2 b3 d3 g3 →
  sel (decide ((b3 : Int) < ((d0 : Int) : Int))) (
  ∃ h3 : World → Prop,
  (let i3 := World.alloc d3 (.cells #[.int .i64 0, .int .i64 0] 80);
  canStore i3 d3.heap.size 0 2 ∧
  let j3 := setCs i3 d3.heap.size 0 [.int .i64 u2, .int .i64 b3];
  ∃ k3,
  j3.cell? ⟨d3.heap.size, 0, none⟩ = some (.int .i64 k3) ∧
  ∃ p3,
  j3.cell? ⟨d3.heap.size, 1, none⟩ = some (.int .i64 p3) ∧
  Calls Try.prog 29 #[.pointer (some ⟨a0, 0, none⟩), .agg #[.int .i64 k3, .int .i64 p3]] j3 fun q3 t3 =>
  ∃ u3,
  q3 = .returned (.bool u3) ∧
  ∃ v3 : Bool → Int → World → Nat → Prop,
  (∃ n, v3 u3 0 t3 n) ∧
  ∀ x3 : Env, ∀ y3 z3 b4 d4, v3 y3 z3 b4 d4 →
  sel (decide ((z3 : Int) < ((d0 : Int) : Int))) (
  sel (!y3) (
  ∃ g4,
  b4.cell? ⟨d3.heap.size, 0, none⟩ = some (.int .i64 g4) ∧
  ∃ h4,
  b4.cell? ⟨d3.heap.size, 1, none⟩ = some (.int .i64 h4) ∧
  Calls Try.prog 30 #[.pointer (some ⟨a0, 0, none⟩), .agg #[.int .i64 g4, .int .i64 h4], .int .i64 z3] b4 fun i4 j4 =>
  ∃ k4 p4 q4,
  i4 = .returned (.tuple #[.agg #[.int .i64 k4, .int .i64 p4], .bool q4]) ∧
  let t4 := World.alloc j4 (.cells #[.int .i64 0, .int .i64 0] 80);
  canStore t4 j4.heap.size 0 2 ∧
  let u4 := setCs t4 j4.heap.size 0 [.int .i64 k4, .int .i64 p4];
  sel q4 (
  ∃ v4,
  u4.cell? ⟨j4.heap.size, 0, none⟩ = some (.int .i64 v4) ∧
  (0 : Int) ≤ v4 ∧ v4 < (k0 : Int) ∧
  needPtr j0 fun x4 y4 =>
  ∃ z4 b5 d5,
  u4.cell? ⟨x4, y4 + v4.toNat * 1, none⟩ = some (.slice z4 b5 d5) ∧
  ∃ g5,
  u4.cell? ⟨j4.heap.size, 1, none⟩ = some (.int .i64 g5) ∧
  let h5 : Int := IntKind.i64.wrap (g5 + 1);
  (0 : Int) ≤ h5 ∧ h5 < (b5 : Int) ∧
  needPtr z4 fun i5 j5 =>
  ∃ k5,
  u4.cell? ⟨i5, j5 + h5.toNat * 1, none⟩ = some (.bool k5) ∧
  let p5 : Int := IntKind.i64.wrap (z3 + 1);
  ([.pointer (some ⟨a0, 0, none⟩), .int .i64 (d0 : Int), .slice j0 k0 p0, .int .i64 u2, .int .i64 b3, .pointer (some ⟨d3.heap.size, 0, none⟩)] : List Value) = ([.pointer (some ⟨a0, 0, none⟩), .int .i64 (d0 : Int), .slice j0 k0 p0, .int .i64 u2, .int .i64 b3, .pointer (some ⟨d3.heap.size, 0, none⟩)] : List Value) ∧ ∃ m, m < d4 ∧ v3 k5 p5 u4.drew m) (
  let q5 : Int := IntKind.i64.wrap (z3 + 1);
  ([.pointer (some ⟨a0, 0, none⟩), .int .i64 (d0 : Int), .slice j0 k0 p0, .int .i64 u2, .int .i64 b3, .pointer (some ⟨d3.heap.size, 0, none⟩)] : List Value) = ([.pointer (some ⟨a0, 0, none⟩), .int .i64 (d0 : Int), .slice j0 k0 p0, .int .i64 u2, .int .i64 b3, .pointer (some ⟨d3.heap.size, 0, none⟩)] : List Value) ∧ ∃ m, m < d4 ∧ v3 false q5 u4.drew m)) (
  (0 : Int) ≤ u2 ∧ u2 < (k0 : Int) ∧
  needPtr j0 fun t5 u5 =>
  ∃ v5 x5 y5,
  b4.cell? ⟨t5, u5 + u2.toNat * 1, none⟩ = some (.slice v5 x5 y5) ∧
  let z5 : Int := IntKind.i64.wrap (b3 + 1);
  (0 : Int) ≤ z5 ∧ z5 < (x5 : Int) ∧
  needPtr v5 fun b6 d6 =>
  canStore b4 b6 (d6 + z5.toNat * 1) 1 ∧
  let g6 := setCs b4 b6 (d6 + z5.toNat * 1) [.bool y3];
  ([.pointer (some ⟨a0, 0, none⟩), .int .i64 (d0 : Int), .slice j0 k0 p0, .int .i64 u2, .int .i64 b3] : List Value) = ([.pointer (some ⟨a0, 0, none⟩), .int .i64 (d0 : Int), .slice j0 k0 p0, .int .i64 u2, .int .i64 b3] : List Value) ∧ h3 g6)) (
  (0 : Int) ≤ u2 ∧ u2 < (k0 : Int) ∧
  needPtr j0 fun h6 i6 =>
  ∃ j6 k6 p6,
  b4.cell? ⟨h6, i6 + u2.toNat * 1, none⟩ = some (.slice j6 k6 p6) ∧
  let q6 : Int := IntKind.i64.wrap (b3 + 1);
  (0 : Int) ≤ q6 ∧ q6 < (k6 : Int) ∧
  needPtr j6 fun t6 u6 =>
  canStore b4 t6 (u6 + q6.toNat * 1) 1 ∧
  let v6 := setCs b4 t6 (u6 + q6.toNat * 1) [.bool y3];
  ([.pointer (some ⟨a0, 0, none⟩), .int .i64 (d0 : Int), .slice j0 k0 p0, .int .i64 u2, .int .i64 b3] : List Value) = ([.pointer (some ⟨a0, 0, none⟩), .int .i64 (d0 : Int), .slice j0 k0 p0, .int .i64 u2, .int .i64 b3] : List Value) ∧ h3 v6)) ∧
  ∀ x6 : Env, ∀ y6, h3 y6 →
  let z6 : Int := IntKind.i64.wrap (b3 + 1);
  ([.pointer (some ⟨a0, 0, none⟩), .int .i64 (d0 : Int), .slice j0 k0 p0, .int .i64 u2] : List Value) = ([.pointer (some ⟨a0, 0, none⟩), .int .i64 (d0 : Int), .slice j0 k0 p0, .int .i64 u2] : List Value) ∧ ∃ m, m < g3 ∧ y2 z6 y6 m) (
  let b7 : Int := IntKind.i64.wrap (u2 - 1);
  ([.pointer (some ⟨a0, 0, none⟩), .int .i64 (d0 : Int), .slice j0 k0 p0] : List Value) = ([.pointer (some ⟨a0, 0, none⟩), .int .i64 (d0 : Int), .slice j0 k0 p0] : List Value) ∧ ∃ m, m < x2 ∧ q2 b7 d3 m)) (
  R (.slice j0 k0 p0) v2))
theorem f28.eq (a0 : Nat) (w : World) (R : Value → World → Prop) : f28.VC a0 w R = funV Try.prog Try.f28 f28.AL f28.AC #[.pointer (some ⟨a0, 0, none⟩)] w R := by kernel_rfl
theorem f28.calls {a0 : Nat} {w : World} {R : Value → World → Prop} (h : f28.VC a0 w R) : Calls Try.prog 28 #[.pointer (some ⟨a0, 0, none⟩)] w fun e w' => ∃ v, e = .returned v ∧ R v w' :=
  funV_sound (fn := Try.f28) (AL := f28.AL) (AC := f28.AC) W5.mixed (by kernel_rfl) (by rw [← f28.eq a0]; exact h)

end Go.Proofs.Ytddbebhklmaeoaa
