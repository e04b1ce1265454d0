/- The plain statements of some functions, printed by vcgen.py. -/
import Derived.Test.YtddbebhklmaeoaaM5
import Derived.Test.YtddbebhklmaeoaaProg
import Derived.KernelRfl
set_option maxRecDepth 100000
set_option maxHeartbeats 4000000
set_option linter.unusedVariables false
namespace Go.Proofs.Ytddbebhklmaeoaa
open Go Go.Proofs.Ytddbebhklmaeoaa.Vc
theorem W5.mixed : Try.prog.follows .mixedOrders = true := by kernel_rfl
/-- gatehouse/judge.Follows -/
def f16.AL : Nat → Option Ann := fun r => match r with | 6 => some ⟨[(26, .int .i64)], [1, 2, 7, 8, 24, 25]⟩ | 19 => some ⟨[(12, .int .i64), (81, .int .i64)], [1, 7, 79, 80]⟩ | 26 => some ⟨[(110, .int .i64)], [7, 108, 109]⟩ | _ => none
def f16.AC : Nat → Option Ann := fun r => match r with | 13 => some ⟨[(55, .bool)], [1, 2, 7, 8, 11, 24, 25, 26]⟩ | 1000012 => some ⟨[], []⟩ | _ => none
def f16.VC (Aa0_0 : Option Addr) (na0_0 ca0_0 : Nat) (Aa0_1 : Option Addr) (na0_1 ca0_1 : Nat) (Aa0_2 : Option Addr) (na0_2 ca0_2 : Nat) (Aa0_3 : Option Addr) (na0_3 ca0_3 : Nat) (Aa0_4 : Option Addr) (na0_4 ca0_4 : Nat) (Aa0_5 : Option Addr) (na0_5 ca0_5 : Nat) (Aa0_6 : Option Addr) (na0_6 ca0_6 : Nat) (Aa0_7 : Option Addr) (na0_7 ca0_7 : Nat) (Aa0_8 : Option Addr) (na0_8 ca0_8 : Nat) (Aa0_9 : Option Addr) (na0_9 ca0_9 : Nat) (Aa0_10 : Option Addr) (na0_10 ca0_10 : Nat) (Aa1 : Option Addr) (na1 ca1 : Nat) (Aa2 : Option Addr) (na2 ca2 : Nat) (w : World) (R : Value → World → Prop) : Prop :=
  let b0 := World.alloc w (.cells #[.slice Aa0_0 na0_0 ca0_0, .slice Aa0_1 na0_1 ca0_1, .slice Aa0_2 na0_2 ca0_2, .slice Aa0_3 na0_3 ca0_3, .slice Aa0_4 na0_4 ca0_4, .slice Aa0_5 na0_5 ca0_5, .slice Aa0_6 na0_6 ca0_6, .slice Aa0_7 na0_7 ca0_7, .slice Aa0_8 na0_8 ca0_8, .slice Aa0_9 na0_9 ca0_9, .slice Aa0_10 na0_10 ca0_10] 28);
  Calls Try.prog 35 #[.slice Aa1 na1 ca1] b0 fun d0 g0 =>
  ∃ h0,
  d0 = .returned (.bool h0) ∧
  sel (!h0) (
  R (.bool false) g0) (
  ∃ i0 j0 k0,
  ∃ p0, (Instr.makeSlice 31 (.int .i64 (na1 : Int)) (.int .i64 (na1 : Int))).run Try.prog g0 = .ok (.slice i0 j0 k0) p0 ∧
  ∃ q0 t0 u0,
  p0.cell? ⟨w.heap.size, 0, none⟩ = some (.slice q0 t0 u0) ∧
  ∃ v0 x0 y0,
  p0.cell? ⟨w.heap.size, 1, none⟩ = some (.slice v0 x0 y0) ∧
  ∃ z0 b1 d1,
  p0.cell? ⟨w.heap.size, 2, none⟩ = some (.slice z0 b1 d1) ∧
  ∃ g1 h1 i1,
  p0.cell? ⟨w.heap.size, 3, none⟩ = some (.slice g1 h1 i1) ∧
  ∃ j1 k1 p1,
  p0.cell? ⟨w.heap.size, 4, none⟩ = some (.slice j1 k1 p1) ∧
  ∃ q1 t1 u1,
  p0.cell? ⟨w.heap.size, 5, none⟩ = some (.slice q1 t1 u1) ∧
  ∃ v1 x1 y1,
  p0.cell? ⟨w.heap.size, 6, none⟩ = some (.slice v1 x1 y1) ∧
  ∃ z1 b2 d2,
  p0.cell? ⟨w.heap.size, 7, none⟩ = some (.slice z1 b2 d2) ∧
  ∃ g2 h2 i2,
  p0.cell? ⟨w.heap.size, 8, none⟩ = some (.slice g2 h2 i2) ∧
  ∃ j2 k2 p2,
  p0.cell? ⟨w.heap.size, 9, none⟩ = some (.slice j2 k2 p2) ∧
  ∃ q2 t2 u2,
  p0.cell? ⟨w.heap.size, 10, none⟩ = some (.slice q2 t2 u2) ∧
  let v2 := World.alloc p0 (.cells #[.slice none 0 0, .slice none 0 0, .slice none 0 0, .slice none 0 0, .slice none 0 0, .slice none 0 0, .slice none 0 0, .slice none 0 0, .slice none 0 0, .slice none 0 0, .slice none 0 0] 28);
  canStore v2 p0.heap.size 0 11 ∧
  let x2 := setCs v2 p0.heap.size 0 [.slice q0 t0 u0, .slice v0 x0 y0, .slice z0 b1 d1, .slice g1 h1 i1, .slice j1 k1 p1, .slice q1 t1 u1, .slice v1 x1 y1, .slice z1 b2 d2, .slice g2 h2 i2, .slice j2 k2 p2, .slice q2 t2 u2];
  ∃ y2 : Int → World → Nat → Prop,
  (∃ n, y2 0 x2 n) ∧
  ∀ z2 : Env, ∀ b3 d3 g3, y2 b3 d3 g3 →
  sel (decide ((b3 : Int) < ((na2 : Int) : Int))) (
  (0 : Int) ≤ b3 ∧ b3 < (na2 : Int) ∧
  needPtr Aa2 fun h3 i3 =>
  ∃ j3,
  d3.cell? ⟨h3, i3 + b3.toNat * 1, none⟩ = some (.int .i64 j3) ∧
  sel (decide ((j3 : Int) < (0 : Int))) (
  R (.bool false) d3) (
  sel (decide (((na1 : Int) : Int) ≤ (j3 : Int))) (
  R (.bool false) d3) (
  (0 : Int) ≤ j3 ∧ j3 < (j0 : Int) ∧
  needPtr i0 fun k3 p3 =>
  ∃ q3,
  d3.cell? ⟨k3, p3 + j3.toNat * 1, none⟩ = some (.int .i64 q3) ∧
  sel ((q3 : Int) != (0 : Int)) (
  R (.bool false) d3) (
  let t3 : Int := IntKind.i64.wrap (b3 + 1);
  (0 : Int) ≤ j3 ∧ j3 < (j0 : Int) ∧
  needPtr i0 fun u3 v3 =>
  canStore d3 u3 (v3 + j3.toNat * 1) 1 ∧
  let x3 := setCs d3 u3 (v3 + j3.toNat * 1) [.int .i64 t3];
  (0 : Int) ≤ j3 ∧ j3 < (na1 : Int) ∧
  needPtr Aa1 fun y3 z3 =>
  ∃ b4,
  x3.cell? ⟨y3, z3 + j3.toNat * 19, none⟩ = some (.int .i64 b4) ∧
  ∃ d4,
  x3.cell? ⟨y3, z3 + j3.toNat * 19 + 1, none⟩ = some (.int .i64 d4) ∧
  ∃ g4,
  x3.cell? ⟨y3, z3 + j3.toNat * 19 + 1 + 1, none⟩ = some (.bool g4) ∧
  ∃ h4,
  x3.cell? ⟨y3, z3 + j3.toNat * 19 + 1 + 1 + 1, none⟩ = some (.bool h4) ∧
  ∃ i4,
  x3.cell? ⟨y3, z3 + j3.toNat * 19 + 1 + 1 + 1 + 1, none⟩ = some (.bool i4) ∧
  ∃ j4 k4 p4,
  x3.cell? ⟨y3, z3 + j3.toNat * 19 + 1 + 1 + 1 + 1 + 1, none⟩ = some (.slice j4 k4 p4) ∧
  ∃ q4 t4 u4,
  x3.cell? ⟨y3, z3 + j3.toNat * 19 + 1 + 1 + 1 + 1 + 1 + 1, none⟩ = some (.slice q4 t4 u4) ∧
  ∃ v4 x4 y4,
  x3.cell? ⟨y3, z3 + j3.toNat * 19 + 1 + 1 + 1 + 1 + 1 + 1 + 1, none⟩ = some (.slice v4 x4 y4) ∧
  ∃ z4 b5 d5,
  x3.cell? ⟨y3, z3 + j3.toNat * 19 + 1 + 1 + 1 + 1 + 1 + 1 + 1 + 1, none⟩ = some (.slice z4 b5 d5) ∧
  ∃ g5 h5 i5,
  x3.cell? ⟨y3, z3 + j3.toNat * 19 + 1 + 1 + 1 + 1 + 1 + 1 + 1 + 1 + 1, none⟩ = some (.slice g5 h5 i5) ∧
  ∃ j5 k5 p5,
  x3.cell? ⟨y3, z3 + j3.toNat * 19 + 1 + 1 + 1 + 1 + 1 + 1 + 1 + 1 + 1 + 1, none⟩ = some (.slice j5 k5 p5) ∧
  ∃ q5 t5 u5,
  x3.cell? ⟨y3, z3 + j3.toNat * 19 + 1 + 1 + 1 + 1 + 1 + 1 + 1 + 1 + 1 + 1 + 1, none⟩ = some (.slice q5 t5 u5) ∧
  ∃ v5 x5 y5,
  x3.cell? ⟨y3, z3 + j3.toNat * 19 + 1 + 1 + 1 + 1 + 1 + 1 + 1 + 1 + 1 + 1 + 1 + 1, none⟩ = some (.slice v5 x5 y5) ∧
  ∃ z5 b6 d6,
  x3.cell? ⟨y3, z3 + j3.toNat * 19 + 1 + 1 + 1 + 1 + 1 + 1 + 1 + 1 + 1 + 1 + 1 + 1 + 1, none⟩ = some (.slice z5 b6 d6) ∧
  ∃ g6 h6 i6,
  x3.cell? ⟨y3, z3 + j3.toNat * 19 + 1 + 1 + 1 + 1 + 1 + 1 + 1 + 1 + 1 + 1 + 1 + 1 + 1 + 1, none⟩ = some (.slice g6 h6 i6) ∧
  ∃ j6 k6 p6,
  x3.cell? ⟨y3, z3 + j3.toNat * 19 + 1 + 1 + 1 + 1 + 1 + 1 + 1 + 1 + 1 + 1 + 1 + 1 + 1 + 1 + 1, none⟩ = some (.slice j6 k6 p6) ∧
  ∃ q6,
  x3.cell? ⟨y3, z3 + j3.toNat * 19 + 1 + 1 + 1 + 1 + 1 + 1 + 1 + 1 + 1 + 1 + 1 + 1 + 1 + 1 + 1 + 1, none⟩ = some (.string q6) ∧
  ∃ t6,
  x3.cell? ⟨y3, z3 + j3.toNat * 19 + 1 + 1 + 1 + 1 + 1 + 1 + 1 + 1 + 1 + 1 + 1 + 1 + 1 + 1 + 1 + 1 + 1, none⟩ = some (.string t6) ∧
  ∃ u6,
  x3.cell? ⟨y3, z3 + j3.toNat * 19 + 1 + 1 + 1 + 1 + 1 + 1 + 1 + 1 + 1 + 1 + 1 + 1 + 1 + 1 + 1 + 1 + 1 + 1, none⟩ = some (.string u6) ∧
  let v6 := World.alloc x3 (.cells #[.int .i64 0, .int .i64 0, .bool false, .bool false, .bool false, .slice none 0 0, .slice none 0 0, .slice none 0 0, .slice none 0 0, .slice none 0 0, .slice none 0 0, .slice none 0 0, .slice none 0 0, .slice none 0 0, .slice none 0 0, .slice none 0 0, .string ⟨#[]⟩, .string ⟨#[]⟩, .string ⟨#[]⟩] 39);
  canStore v6 x3.heap.size 0 19 ∧
  let x6 := setCs v6 x3.heap.size 0 [.int .i64 b4, .int .i64 d4, .bool g4, .bool h4, .bool i4, .slice j4 k4 p4, .slice q4 t4 u4, .slice v4 x4 y4, .slice z4 b5 d5, .slice g5 h5 i5, .slice j5 k5 p5, .slice q5 t5 u5, .slice v5 x5 y5, .slice z5 b6 d6, .slice g6 h6 i6, .slice j6 k6 p6, .string q6, .string t6, .string u6];
  ∃ y6 : Bool → World → Prop,
  (∃ z6,
  x6.cell? ⟨x3.heap.size, 2, none⟩ = some (.bool z6) ∧
  sel (!z6) (
  ∃ b7 d7 g7,
  x6.cell? ⟨p0.heap.size, 0, none⟩ = some (.slice b7 d7 g7) ∧
  ∃ h7 i7 j7,
  x6.cell? ⟨p0.heap.size, 1, none⟩ = some (.slice h7 i7 j7) ∧
  ∃ k7 p7 q7,
  x6.cell? ⟨p0.heap.size, 2, none⟩ = some (.slice k7 p7 q7) ∧
  ∃ t7 u7 v7,
  x6.cell? ⟨p0.heap.size, 3, none⟩ = some (.slice t7 u7 v7) ∧
  ∃ x7 y7 z7,
  x6.cell? ⟨p0.heap.size, 4, none⟩ = some (.slice x7 y7 z7) ∧
  ∃ b8 d8 g8,
  x6.cell? ⟨p0.heap.size, 5, none⟩ = some (.slice b8 d8 g8) ∧
  ∃ h8 i8 j8,
  x6.cell? ⟨p0.heap.size, 6, none⟩ = some (.slice h8 i8 j8) ∧
  ∃ k8 p8 q8,
  x6.cell? ⟨p0.heap.size, 7, none⟩ = some (.slice k8 p8 q8) ∧
  ∃ t8 u8 v8,
  x6.cell? ⟨p0.heap.size, 8, none⟩ = some (.slice t8 u8 v8) ∧
  ∃ x8 y8 z8,
  x6.cell? ⟨p0.heap.size, 9, none⟩ = some (.slice x8 y8 z8) ∧
  ∃ b9 d9 g9,
  x6.cell? ⟨p0.heap.size, 10, none⟩ = some (.slice b9 d9 g9) ∧
  ∃ h9,
  x6.cell? ⟨x3.heap.size, 16, none⟩ = some (.string h9) ∧
  ∃ i9,
  x6.cell? ⟨x3.heap.size, 17, none⟩ = some (.string i9) ∧
  ∃ j9,
  x6.cell? ⟨x3.heap.size, 18, none⟩ = some (.string j9) ∧
  ∃ k9,
  x6.cell? ⟨x3.heap.size, 4, none⟩ = some (.bool k9) ∧
  Calls Try.prog 19 #[.agg #[.slice b7 d7 g7, .slice h7 i7 j7, .slice k7 p7 q7, .slice t7 u7 v7, .slice x7 y7 z7, .slice b8 d8 g8, .slice h8 i8 j8, .slice k8 p8 q8, .slice t8 u8 v8, .slice x8 y8 z8, .slice b9 d9 g9], .agg #[.string h9, .string i9, .string j9]] x6.drew fun p9 q9 =>
  ∃ t9,
  p9 = .returned (.bool t9) ∧
  (q9.cell? ⟨x3.heap.size, 4, none⟩ = some (.bool k9) ∧ (q9.cell? ⟨x3.heap.size, 16, none⟩ = some (.string h9) ∧ q9.cell? ⟨x3.heap.size, 17, none⟩ = some (.string i9) ∧ q9.cell? ⟨x3.heap.size, 18, none⟩ = some (.string j9) ∧ True) ∧ (q9.cell? ⟨p0.heap.size, 0, none⟩ = some (.slice b7 d7 g7) ∧ q9.cell? ⟨p0.heap.size, 1, none⟩ = some (.slice h7 i7 j7) ∧ q9.cell? ⟨p0.heap.size, 2, none⟩ = some (.slice k7 p7 q7) ∧ q9.cell? ⟨p0.heap.size, 3, none⟩ = some (.slice t7 u7 v7) ∧ q9.cell? ⟨p0.heap.size, 4, none⟩ = some (.slice x7 y7 z7) ∧ q9.cell? ⟨p0.heap.size, 5, none⟩ = some (.slice b8 d8 g8) ∧ q9.cell? ⟨p0.heap.size, 6, none⟩ = some (.slice h8 i8 j8) ∧ q9.cell? ⟨p0.heap.size, 7, none⟩ = some (.slice k8 p8 q8) ∧ q9.cell? ⟨p0.heap.size, 8, none⟩ = some (.slice t8 u8 v8) ∧ q9.cell? ⟨p0.heap.size, 9, none⟩ = some (.slice x8 y8 z8) ∧ q9.cell? ⟨p0.heap.size, 10, none⟩ = some (.slice b9 d9 g9) ∧ True) ∧ q9.cell? ⟨x3.heap.size, 2, none⟩ = some (.bool z6) ∧ True) ∧
  ([.slice Aa1 na1 ca1, .slice Aa2 na2 ca2, .slice i0 j0 k0, .pointer (some ⟨p0.heap.size, 0, none⟩), .pointer (some ⟨x3.heap.size, 0, none⟩), .slice Aa2 na2 ca2, .int .i64 (na2 : Int), .int .i64 b3] : List Value) = ([.slice Aa1 na1 ca1, .slice Aa2 na2 ca2, .slice i0 j0 k0, .pointer (some ⟨p0.heap.size, 0, none⟩), .pointer (some ⟨x3.heap.size, 0, none⟩), .slice Aa2 na2 ca2, .int .i64 (na2 : Int), .int .i64 b3] : List Value) ∧ y6 (!(t9 == k9)) q9) (
  ([.slice Aa1 na1 ca1, .slice Aa2 na2 ca2, .slice i0 j0 k0, .pointer (some ⟨p0.heap.size, 0, none⟩), .pointer (some ⟨x3.heap.size, 0, none⟩), .slice Aa2 na2 ca2, .int .i64 (na2 : Int), .int .i64 b3] : List Value) = ([.slice Aa1 na1 ca1, .slice Aa2 na2 ca2, .slice i0 j0 k0, .pointer (some ⟨p0.heap.size, 0, none⟩), .pointer (some ⟨x3.heap.size, 0, none⟩), .slice Aa2 na2 ca2, .int .i64 (na2 : Int), .int .i64 b3] : List Value) ∧ y6 false x6.drew)) ∧
  ∀ u9 : Env, ∀ v9 x9, y6 v9 x9 →
  sel v9 (
  R (.bool false) x9) (
  ∃ y9,
  x9.cell? ⟨x3.heap.size, 2, none⟩ = some (.bool y9) ∧
  sel y9 (
  ∃ z9,
  x9.cell? ⟨x3.heap.size, 3, none⟩ = some (.bool z9) ∧
  sel (!z9) (
  ∃ bA dA gA,
  x9.cell? ⟨x3.heap.size, 5, none⟩ = some (.slice bA dA gA) ∧
  ∃ hA iA jA,
  x9.cell? ⟨x3.heap.size, 6, none⟩ = some (.slice hA iA jA) ∧
  ∃ kA pA qA,
  x9.cell? ⟨x3.heap.size, 7, none⟩ = some (.slice kA pA qA) ∧
  ∃ tA uA vA,
  x9.cell? ⟨x3.heap.size, 8, none⟩ = some (.slice tA uA vA) ∧
  ∃ xA yA zA,
  x9.cell? ⟨x3.heap.size, 9, none⟩ = some (.slice xA yA zA) ∧
  ∃ bB dB gB,
  x9.cell? ⟨x3.heap.size, 10, none⟩ = some (.slice bB dB gB) ∧
  ∃ hB iB jB,
  x9.cell? ⟨x3.heap.size, 11, none⟩ = some (.slice hB iB jB) ∧
  ∃ kB pB qB,
  x9.cell? ⟨x3.heap.size, 12, none⟩ = some (.slice kB pB qB) ∧
  ∃ tB uB vB,
  x9.cell? ⟨x3.heap.size, 13, none⟩ = some (.slice tB uB vB) ∧
  ∃ xB yB zB,
  x9.cell? ⟨x3.heap.size, 14, none⟩ = some (.slice xB yB zB) ∧
  ∃ bC dC gC,
  x9.cell? ⟨x3.heap.size, 15, none⟩ = some (.slice bC dC gC) ∧
  canStore x9 p0.heap.size 0 11 ∧
  let hC := setCs x9 p0.heap.size 0 [.slice bA dA gA, .slice hA iA jA, .slice kA pA qA, .slice tA uA vA, .slice xA yA zA, .slice bB dB gB, .slice hB iB jB, .slice kB pB qB, .slice tB uB vB, .slice xB yB zB, .slice bC dC gC];
  let iC : Int := IntKind.i64.wrap (b3 + 1);
  ([.slice Aa1 na1 ca1, .slice Aa2 na2 ca2, .slice i0 j0 k0, .pointer (some ⟨p0.heap.size, 0, none⟩), .slice Aa2 na2 ca2, .int .i64 (na2 : Int)] : List Value) = ([.slice Aa1 na1 ca1, .slice Aa2 na2 ca2, .slice i0 j0 k0, .pointer (some ⟨p0.heap.size, 0, none⟩), .slice Aa2 na2 ca2, .int .i64 (na2 : Int)] : List Value) ∧ ∃ m, m < g3 ∧ y2 iC hC m) (
  let jC : Int := IntKind.i64.wrap (b3 + 1);
  ([.slice Aa1 na1 ca1, .slice Aa2 na2 ca2, .slice i0 j0 k0, .pointer (some ⟨p0.heap.size, 0, none⟩), .slice Aa2 na2 ca2, .int .i64 (na2 : Int)] : List Value) = ([.slice Aa1 na1 ca1, .slice Aa2 na2 ca2, .slice i0 j0 k0, .pointer (some ⟨p0.heap.size, 0, none⟩), .slice Aa2 na2 ca2, .int .i64 (na2 : Int)] : List Value) ∧ ∃ m, m < g3 ∧ y2 jC x9 m)) (
  let kC : Int := IntKind.i64.wrap (b3 + 1);
  ([.slice Aa1 na1 ca1, .slice Aa2 na2 ca2, .slice i0 j0 k0, .pointer (some ⟨p0.heap.size, 0, none⟩), .slice Aa2 na2 ca2, .int .i64 (na2 : Int)] : List Value) = ([.slice Aa1 na1 ca1, .slice Aa2 na2 ca2, .slice i0 j0 k0, .pointer (some ⟨p0.heap.size, 0, none⟩), .slice Aa2 na2 ca2, .int .i64 (na2 : Int)] : List Value) ∧ ∃ m, m < g3 ∧ y2 kC x9 m)))))) (
  ∃ pC : Int → Int → World → Nat → Prop,
  (∃ n, pC 0 0 d3 n) ∧
  ∀ qC : Env, ∀ tC uC vC xC, pC tC uC vC xC →
  sel (decide ((uC : Int) < ((na2 : Int) : Int))) (
  (0 : Int) ≤ uC ∧ uC < (na2 : Int) ∧
  needPtr Aa2 fun yC zC =>
  ∃ bD,
  vC.cell? ⟨yC, zC + uC.toNat * 1, none⟩ = some (.int .i64 bD) ∧
  (0 : Int) ≤ bD ∧ bD < (na1 : Int) ∧
  needPtr Aa1 fun dD gD =>
  ∃ hD,
  vC.cell? ⟨dD, gD + bD.toNat * 19, none⟩ = some (.int .i64 hD) ∧
  ∃ iD,
  ∃ jD, (Builtin.max_ #[3, 3] 3 #[.int .i64 tC, .int .i64 hD]).run Try.prog vC = .ok (.int .i64 iD) jD ∧
  (0 : Int) ≤ bD ∧ bD < (na1 : Int) ∧
  needPtr Aa1 fun kD pD =>
  ∃ qD,
  jD.cell? ⟨kD, pD + bD.toNat * 19 + 1, none⟩ = some (.int .i64 qD) ∧
  sel (decide ((0 : Int) ≤ (qD : Int))) (
  (0 : Int) ≤ bD ∧ bD < (na1 : Int) ∧
  needPtr Aa1 fun tD uD =>
  ∃ vD,
  jD.cell? ⟨tD, uD + bD.toNat * 19 + 1, none⟩ = some (.int .i64 vD) ∧
  sel (decide ((vD : Int) < (iD : Int))) (
  R (.bool false) jD) (
  let xD : Int := IntKind.i64.wrap (uC + 1);
  ([.slice Aa1 na1 ca1, .slice i0 j0 k0, .slice Aa2 na2 ca2, .int .i64 (na2 : Int)] : List Value) = ([.slice Aa1 na1 ca1, .slice i0 j0 k0, .slice Aa2 na2 ca2, .int .i64 (na2 : Int)] : List Value) ∧ ∃ m, m < xC ∧ pC iD xD jD m)) (
  let yD : Int := IntKind.i64.wrap (uC + 1);
  ([.slice Aa1 na1 ca1, .slice i0 j0 k0, .slice Aa2 na2 ca2, .int .i64 (na2 : Int)] : List Value) = ([.slice Aa1 na1 ca1, .slice i0 j0 k0, .slice Aa2 na2 ca2, .int .i64 (na2 : Int)] : List Value) ∧ ∃ m, m < xC ∧ pC iD yD jD m)) (
  ∃ zD : Int → World → Nat → Prop,
  (∃ n, zD 0 vC n) ∧
  ∀ bE : Env, ∀ dE gE hE, zD dE gE hE →
  sel (decide ((dE : Int) < ((na1 : Int) : Int))) (
  (0 : Int) ≤ dE ∧ dE < (na1 : Int) ∧
  needPtr Aa1 fun iE jE =>
  ∃ kE,
  gE.cell? ⟨iE, jE + dE.toNat * 19, none⟩ = some (.int .i64 kE) ∧
  ∃ pE,
  gE.cell? ⟨iE, jE + dE.toNat * 19 + 1, none⟩ = some (.int .i64 pE) ∧
  ∃ qE,
  gE.cell? ⟨iE, jE + dE.toNat * 19 + 1 + 1, none⟩ = some (.bool qE) ∧
  ∃ tE,
  gE.cell? ⟨iE, jE + dE.toNat * 19 + 1 + 1 + 1, none⟩ = some (.bool tE) ∧
  ∃ uE,
  gE.cell? ⟨iE, jE + dE.toNat * 19 + 1 + 1 + 1 + 1, none⟩ = some (.bool uE) ∧
  ∃ vE xE yE,
  gE.cell? ⟨iE, jE + dE.toNat * 19 + 1 + 1 + 1 + 1 + 1, none⟩ = some (.slice vE xE yE) ∧
  ∃ zE bF dF,
  gE.cell? ⟨iE, jE + dE.toNat * 19 + 1 + 1 + 1 + 1 + 1 + 1, none⟩ = some (.slice zE bF dF) ∧
  ∃ gF hF iF,
  gE.cell? ⟨iE, jE + dE.toNat * 19 + 1 + 1 + 1 + 1 + 1 + 1 + 1, none⟩ = some (.slice gF hF iF) ∧
  ∃ jF kF pF,
  gE.cell? ⟨iE, jE + dE.toNat * 19 + 1 + 1 + 1 + 1 + 1 + 1 + 1 + 1, none⟩ = some (.slice jF kF pF) ∧
  ∃ qF tF uF,
  gE.cell? ⟨iE, jE + dE.toNat * 19 + 1 + 1 + 1 + 1 + 1 + 1 + 1 + 1 + 1, none⟩ = some (.slice qF tF uF) ∧
  ∃ vF xF yF,
  gE.cell? ⟨iE, jE + dE.toNat * 19 + 1 + 1 + 1 + 1 + 1 + 1 + 1 + 1 + 1 + 1, none⟩ = some (.slice vF xF yF) ∧
  ∃ zF bG dG,
  gE.cell? ⟨iE, jE + dE.toNat * 19 + 1 + 1 + 1 + 1 + 1 + 1 + 1 + 1 + 1 + 1 + 1, none⟩ = some (.slice zF bG dG) ∧
  ∃ gG hG iG,
  gE.cell? ⟨iE, jE + dE.toNat * 19 + 1 + 1 + 1 + 1 + 1 + 1 + 1 + 1 + 1 + 1 + 1 + 1, none⟩ = some (.slice gG hG iG) ∧
  ∃ jG kG pG,
  gE.cell? ⟨iE, jE + dE.toNat * 19 + 1 + 1 + 1 + 1 + 1 + 1 + 1 + 1 + 1 + 1 + 1 + 1 + 1, none⟩ = some (.slice jG kG pG) ∧
  ∃ qG tG uG,
  gE.cell? ⟨iE, jE + dE.toNat * 19 + 1 + 1 + 1 + 1 + 1 + 1 + 1 + 1 + 1 + 1 + 1 + 1 + 1 + 1, none⟩ = some (.slice qG tG uG) ∧
  ∃ vG xG yG,
  gE.cell? ⟨iE, jE + dE.toNat * 19 + 1 + 1 + 1 + 1 + 1 + 1 + 1 + 1 + 1 + 1 + 1 + 1 + 1 + 1 + 1, none⟩ = some (.slice vG xG yG) ∧
  ∃ zG,
  gE.cell? ⟨iE, jE + dE.toNat * 19 + 1 + 1 + 1 + 1 + 1 + 1 + 1 + 1 + 1 + 1 + 1 + 1 + 1 + 1 + 1 + 1, none⟩ = some (.string zG) ∧
  ∃ bH,
  gE.cell? ⟨iE, jE + dE.toNat * 19 + 1 + 1 + 1 + 1 + 1 + 1 + 1 + 1 + 1 + 1 + 1 + 1 + 1 + 1 + 1 + 1 + 1, none⟩ = some (.string bH) ∧
  ∃ dH,
  gE.cell? ⟨iE, jE + dE.toNat * 19 + 1 + 1 + 1 + 1 + 1 + 1 + 1 + 1 + 1 + 1 + 1 + 1 + 1 + 1 + 1 + 1 + 1 + 1, none⟩ = some (.string dH) ∧
  let gH := World.alloc gE (.cells #[.int .i64 0, .int .i64 0, .bool false, .bool false, .bool false, .slice none 0 0, .slice none 0 0, .slice none 0 0, .slice none 0 0, .slice none 0 0, .slice none 0 0, .slice none 0 0, .slice none 0 0, .slice none 0 0, .slice none 0 0, .slice none 0 0, .string ⟨#[]⟩, .string ⟨#[]⟩, .string ⟨#[]⟩] 39);
  canStore gH gE.heap.size 0 19 ∧
  let hH := setCs gH gE.heap.size 0 [.int .i64 kE, .int .i64 pE, .bool qE, .bool tE, .bool uE, .slice vE xE yE, .slice zE bF dF, .slice gF hF iF, .slice jF kF pF, .slice qF tF uF, .slice vF xF yF, .slice zF bG dG, .slice gG hG iG, .slice jG kG pG, .slice qG tG uG, .slice vG xG yG, .string zG, .string bH, .string dH];
  ∃ iH,
  hH.cell? ⟨gE.heap.size, 1, none⟩ = some (.int .i64 iH) ∧
  sel (decide ((0 : Int) ≤ (iH : Int))) (
  (0 : Int) ≤ dE ∧ dE < (j0 : Int) ∧
  needPtr i0 fun jH kH =>
  ∃ pH,
  hH.cell? ⟨jH, kH + dE.toNat * 1, none⟩ = some (.int .i64 pH) ∧
  sel ((pH : Int) == (0 : Int)) (
  R (.bool false) hH) (
  let qH : Int := IntKind.i64.wrap (dE + 1);
  ([.slice i0 j0 k0, .slice Aa1 na1 ca1, .int .i64 (na1 : Int)] : List Value) = ([.slice i0 j0 k0, .slice Aa1 na1 ca1, .int .i64 (na1 : Int)] : List Value) ∧ ∃ m, m < hE ∧ zD qH hH m)) (
  let tH : Int := IntKind.i64.wrap (dE + 1);
  ([.slice i0 j0 k0, .slice Aa1 na1 ca1, .int .i64 (na1 : Int)] : List Value) = ([.slice i0 j0 k0, .slice Aa1 na1 ca1, .int .i64 (na1 : Int)] : List Value) ∧ ∃ m, m < hE ∧ zD tH hH m)) (
  R (.bool true) gE))))
theorem f16.eq (Aa0_0 : Option Addr) (na0_0 ca0_0 : Nat) (Aa0_1 : Option Addr) (na0_1 ca0_1 : Nat) (Aa0_2 : Option Addr) (na0_2 ca0_2 : Nat) (Aa0_3 : Option Addr) (na0_3 ca0_3 : Nat) (Aa0_4 : Option Addr) (na0_4 ca0_4 : Nat) (Aa0_5 : Option Addr) (na0_5 ca0_5 : Nat) (Aa0_6 : Option Addr) (na0_6 ca0_6 : Nat) (Aa0_7 : Option Addr) (na0_7 ca0_7 : Nat) (Aa0_8 : Option Addr) (na0_8 ca0_8 : Nat) (Aa0_9 : Option Addr) (na0_9 ca0_9 : Nat) (Aa0_10 : Option Addr) (na0_10 ca0_10 : Nat) (Aa1 : Option Addr) (na1 ca1 : Nat) (Aa2 : Option Addr) (na2 ca2 : Nat) (w : World) (R : Value → World → Prop) : f16.VC Aa0_0 na0_0 ca0_0 Aa0_1 na0_1 ca0_1 Aa0_2 na0_2 ca0_2 Aa0_3 na0_3 ca0_3 Aa0_4 na0_4 ca0_4 Aa0_5 na0_5 ca0_5 Aa0_6 na0_6 ca0_6 Aa0_7 na0_7 ca0_7 Aa0_8 na0_8 ca0_8 Aa0_9 na0_9 ca0_9 Aa0_10 na0_10 ca0_10 Aa1 na1 ca1 Aa2 na2 ca2 w R = funV Try.prog Try.f16 f16.AL f16.AC #[.agg #[.slice Aa0_0 na0_0 ca0_0, .slice Aa0_1 na0_1 ca0_1, .slice Aa0_2 na0_2 ca0_2, .slice Aa0_3 na0_3 ca0_3, .slice Aa0_4 na0_4 ca0_4, .slice Aa0_5 na0_5 ca0_5, .slice Aa0_6 na0_6 ca0_6, .slice Aa0_7 na0_7 ca0_7, .slice Aa0_8 na0_8 ca0_8, .slice Aa0_9 na0_9 ca0_9, .slice Aa0_10 na0_10 ca0_10], .slice Aa1 na1 ca1, .slice Aa2 na2 ca2] w R := by kernel_rfl
theorem f16.calls {Aa0_0 : Option Addr} {na0_0 ca0_0 : Nat} {Aa0_1 : Option Addr} {na0_1 ca0_1 : Nat} {Aa0_2 : Option Addr} {na0_2 ca0_2 : Nat} {Aa0_3 : Option Addr} {na0_3 ca0_3 : Nat} {Aa0_4 : Option Addr} {na0_4 ca0_4 : Nat} {Aa0_5 : Option Addr} {na0_5 ca0_5 : Nat} {Aa0_6 : Option Addr} {na0_6 ca0_6 : Nat} {Aa0_7 : Option Addr} {na0_7 ca0_7 : Nat} {Aa0_8 : Option Addr} {na0_8 ca0_8 : Nat} {Aa0_9 : Option Addr} {na0_9 ca0_9 : Nat} {Aa0_10 : Option Addr} {na0_10 ca0_10 : Nat} {Aa1 : Option Addr} {na1 ca1 : Nat} {Aa2 : Option Addr} {na2 ca2 : Nat} {w : World} {R : Value → World → Prop} (h : f16.VC Aa0_0 na0_0 ca0_0 Aa0_1 na0_1 ca0_1 Aa0_2 na0_2 ca0_2 Aa0_3 na0_3 ca0_3 Aa0_4 na0_4 ca0_4 Aa0_5 na0_5 ca0_5 Aa0_6 na0_6 ca0_6 Aa0_7 na0_7 ca0_7 Aa0_8 na0_8 ca0_8 Aa0_9 na0_9 ca0_9 Aa0_10 na0_10 ca0_10 Aa1 na1 ca1 Aa2 na2 ca2 w R) : Calls Try.prog 16 #[.agg #[.slice Aa0_0 na0_0 ca0_0, .slice Aa0_1 na0_1 ca0_1, .slice Aa0_2 na0_2 ca0_2, .slice Aa0_3 na0_3 ca0_3, .slice Aa0_4 na0_4 ca0_4, .slice Aa0_5 na0_5 ca0_5, .slice Aa0_6 na0_6 ca0_6, .slice Aa0_7 na0_7 ca0_7, .slice Aa0_8 na0_8 ca0_8, .slice Aa0_9 na0_9 ca0_9, .slice Aa0_10 na0_10 ca0_10], .slice Aa1 na1 ca1, .slice Aa2 na2 ca2] w fun e w' => ∃ v, e = .returned v ∧ R v w' :=
  funV_sound (fn := Try.f16) (AL := f16.AL) (AC := f16.AC) W5.mixed (by kernel_rfl) (by rw [← f16.eq Aa0_0 na0_0 ca0_0 Aa0_1 na0_1 ca0_1 Aa0_2 na0_2 ca0_2 Aa0_3 na0_3 ca0_3 Aa0_4 na0_4 ca0_4 Aa0_5 na0_5 ca0_5 Aa0_6 na0_6 ca0_6 Aa0_7 na0_7 ca0_7 Aa0_8 na0_8 ca0_8 Aa0_9 na0_9 ca0_9 Aa0_10 na0_10 ca0_10 Aa1 na1 ca1 Aa2 na2 ca2]; exact h)

/-- gatehouse/gatehouselaw27.answers -/
def f20.AL : Nat → Option Ann := fun r => match r with | 3 => some ⟨[(8, .int .i64)], [1, 2, 7]⟩ | 7 => some ⟨[(10, .int .i64)], [1, 2, 7, 8, 9]⟩ | _ => none
def f20.AC : Nat → Option Ann := fun r => match r with | 1000010 => some ⟨[], []⟩ | 1000015 => some ⟨[], []⟩ | _ => none
def f20.VC (Aa0_0 : Option Addr) (na0_0 ca0_0 : Nat) (Aa0_1 : Option Addr) (na0_1 ca0_1 : Nat) (Aa0_2 : Option Addr) (na0_2 ca0_2 : Nat) (Aa0_3 : Option Addr) (na0_3 ca0_3 : Nat) (Aa0_4 : Option Addr) (na0_4 ca0_4 : Nat) (Aa0_5 : Option Addr) (na0_5 ca0_5 : Nat) (Aa0_6 : Option Addr) (na0_6 ca0_6 : Nat) (Aa0_7 : Option Addr) (na0_7 ca0_7 : Nat) (Aa0_8 : Option Addr) (na0_8 ca0_8 : Nat) (Aa0_9 : Option Addr) (na0_9 ca0_9 : Nat) (Aa0_10 : Option Addr) (na0_10 ca0_10 : Nat) (Aa1 : Option Addr) (na1 ca1 : Nat) (Aa2 : Option Addr) (na2 ca2 : Nat) (w : World) (R : Value → World → Prop) : Prop :=
  let b0 := World.alloc w (.cells #[.slice Aa0_0 na0_0 ca0_0, .slice Aa0_1 na0_1 ca0_1, .slice Aa0_2 na0_2 ca0_2, .slice Aa0_3 na0_3 ca0_3, .slice Aa0_4 na0_4 ca0_4, .slice Aa0_5 na0_5 ca0_5, .slice Aa0_6 na0_6 ca0_6, .slice Aa0_7 na0_7 ca0_7, .slice Aa0_8 na0_8 ca0_8, .slice Aa0_9 na0_9 ca0_9, .slice Aa0_10 na0_10 ca0_10] 28);
  ∃ d0 g0 h0,
  b0.cell? ⟨w.heap.size, 0, none⟩ = some (.slice d0 g0 h0) ∧
  ∃ i0 j0 k0,
  b0.cell? ⟨w.heap.size, 1, none⟩ = some (.slice i0 j0 k0) ∧
  ∃ p0 q0 t0,
  b0.cell? ⟨w.heap.size, 2, none⟩ = some (.slice p0 q0 t0) ∧
  ∃ u0 v0 x0,
  b0.cell? ⟨w.heap.size, 3, none⟩ = some (.slice u0 v0 x0) ∧
  ∃ y0 z0 b1,
  b0.cell? ⟨w.heap.size, 4, none⟩ = some (.slice y0 z0 b1) ∧
  ∃ d1 g1 h1,
  b0.cell? ⟨w.heap.size, 5, none⟩ = some (.slice d1 g1 h1) ∧
  ∃ i1 j1 k1,
  b0.cell? ⟨w.heap.size, 6, none⟩ = some (.slice i1 j1 k1) ∧
  ∃ p1 q1 t1,
  b0.cell? ⟨w.heap.size, 7, none⟩ = some (.slice p1 q1 t1) ∧
  ∃ u1 v1 x1,
  b0.cell? ⟨w.heap.size, 8, none⟩ = some (.slice u1 v1 x1) ∧
  ∃ y1 z1 b2,
  b0.cell? ⟨w.heap.size, 9, none⟩ = some (.slice y1 z1 b2) ∧
  ∃ d2 g2 h2,
  b0.cell? ⟨w.heap.size, 10, none⟩ = some (.slice d2 g2 h2) ∧
  let i2 := World.alloc b0 (.cells #[.slice none 0 0, .slice none 0 0, .slice none 0 0, .slice none 0 0, .slice none 0 0, .slice none 0 0, .slice none 0 0, .slice none 0 0, .slice none 0 0, .slice none 0 0, .slice none 0 0] 28);
  canStore i2 b0.heap.size 0 11 ∧
  let j2 := setCs i2 b0.heap.size 0 [.slice d0 g0 h0, .slice i0 j0 k0, .slice p0 q0 t0, .slice u0 v0 x0, .slice y0 z0 b1, .slice d1 g1 h1, .slice i1 j1 k1, .slice p1 q1 t1, .slice u1 v1 x1, .slice y1 z1 b2, .slice d2 g2 h2];
  ∃ k2 : Int → World → Nat → Prop,
  (∃ n, k2 0 j2 n) ∧
  ∀ p2 : Env, ∀ q2 t2 u2, k2 q2 t2 u2 →
  sel (decide ((q2 : Int) < ((na2 : Int) : Int))) (
  (0 : Int) ≤ q2 ∧ q2 < (na2 : Int) ∧
  needPtr Aa2 fun v2 x2 =>
  ∃ y2,
  t2.cell? ⟨v2, x2 + q2.toNat * 1, none⟩ = some (.int .i64 y2) ∧
  (0 : Int) ≤ y2 ∧ y2 < (na1 : Int) ∧
  needPtr Aa1 fun z2 b3 =>
  ∃ d3,
  t2.cell? ⟨z2, b3 + y2.toNat * 19, none⟩ = some (.int .i64 d3) ∧
  ∃ g3,
  t2.cell? ⟨z2, b3 + y2.toNat * 19 + 1, none⟩ = some (.int .i64 g3) ∧
  ∃ h3,
  t2.cell? ⟨z2, b3 + y2.toNat * 19 + 1 + 1, none⟩ = some (.bool h3) ∧
  ∃ i3,
  t2.cell? ⟨z2, b3 + y2.toNat * 19 + 1 + 1 + 1, none⟩ = some (.bool i3) ∧
  ∃ j3,
  t2.cell? ⟨z2, b3 + y2.toNat * 19 + 1 + 1 + 1 + 1, none⟩ = some (.bool j3) ∧
  ∃ k3 p3 q3,
  t2.cell? ⟨z2, b3 + y2.toNat * 19 + 1 + 1 + 1 + 1 + 1, none⟩ = some (.slice k3 p3 q3) ∧
  ∃ t3 u3 v3,
  t2.cell? ⟨z2, b3 + y2.toNat * 19 + 1 + 1 + 1 + 1 + 1 + 1, none⟩ = some (.slice t3 u3 v3) ∧
  ∃ x3 y3 z3,
  t2.cell? ⟨z2, b3 + y2.toNat * 19 + 1 + 1 + 1 + 1 + 1 + 1 + 1, none⟩ = some (.slice x3 y3 z3) ∧
  ∃ b4 d4 g4,
  t2.cell? ⟨z2, b3 + y2.toNat * 19 + 1 + 1 + 1 + 1 + 1 + 1 + 1 + 1, none⟩ = some (.slice b4 d4 g4) ∧
  ∃ h4 i4 j4,
  t2.cell? ⟨z2, b3 + y2.toNat * 19 + 1 + 1 + 1 + 1 + 1 + 1 + 1 + 1 + 1, none⟩ = some (.slice h4 i4 j4) ∧
  ∃ k4 p4 q4,
  t2.cell? ⟨z2, b3 + y2.toNat * 19 + 1 + 1 + 1 + 1 + 1 + 1 + 1 + 1 + 1 + 1, none⟩ = some (.slice k4 p4 q4) ∧
  ∃ t4 u4 v4,
  t2.cell? ⟨z2, b3 + y2.toNat * 19 + 1 + 1 + 1 + 1 + 1 + 1 + 1 + 1 + 1 + 1 + 1, none⟩ = some (.slice t4 u4 v4) ∧
  ∃ x4 y4 z4,
  t2.cell? ⟨z2, b3 + y2.toNat * 19 + 1 + 1 + 1 + 1 + 1 + 1 + 1 + 1 + 1 + 1 + 1 + 1, none⟩ = some (.slice x4 y4 z4) ∧
  ∃ b5 d5 g5,
  t2.cell? ⟨z2, b3 + y2.toNat * 19 + 1 + 1 + 1 + 1 + 1 + 1 + 1 + 1 + 1 + 1 + 1 + 1 + 1, none⟩ = some (.slice b5 d5 g5) ∧
  ∃ h5 i5 j5,
  t2.cell? ⟨z2, b3 + y2.toNat * 19 + 1 + 1 + 1 + 1 + 1 + 1 + 1 + 1 + 1 + 1 + 1 + 1 + 1 + 1, none⟩ = some (.slice h5 i5 j5) ∧
  ∃ k5 p5 q5,
  t2.cell? ⟨z2, b3 + y2.toNat * 19 + 1 + 1 + 1 + 1 + 1 + 1 + 1 + 1 + 1 + 1 + 1 + 1 + 1 + 1 + 1, none⟩ = some (.slice k5 p5 q5) ∧
  ∃ t5,
  t2.cell? ⟨z2, b3 + y2.toNat * 19 + 1 + 1 + 1 + 1 + 1 + 1 + 1 + 1 + 1 + 1 + 1 + 1 + 1 + 1 + 1 + 1, none⟩ = some (.string t5) ∧
  ∃ u5,
  t2.cell? ⟨z2, b3 + y2.toNat * 19 + 1 + 1 + 1 + 1 + 1 + 1 + 1 + 1 + 1 + 1 + 1 + 1 + 1 + 1 + 1 + 1 + 1, none⟩ = some (.string u5) ∧
  ∃ v5,
  t2.cell? ⟨z2, b3 + y2.toNat * 19 + 1 + 1 + 1 + 1 + 1 + 1 + 1 + 1 + 1 + 1 + 1 + 1 + 1 + 1 + 1 + 1 + 1 + 1, none⟩ = some (.string v5) ∧
  let x5 := World.alloc t2 (.cells #[.int .i64 0, .int .i64 0, .bool false, .bool false, .bool false, .slice none 0 0, .slice none 0 0, .slice none 0 0, .slice none 0 0, .slice none 0 0, .slice none 0 0, .slice none 0 0, .slice none 0 0, .slice none 0 0, .slice none 0 0, .slice none 0 0, .string ⟨#[]⟩, .string ⟨#[]⟩, .string ⟨#[]⟩] 39);
  canStore x5 t2.heap.size 0 19 ∧
  let y5 := setCs x5 t2.heap.size 0 [.int .i64 d3, .int .i64 g3, .bool h3, .bool i3, .bool j3, .slice k3 p3 q3, .slice t3 u3 v3, .slice x3 y3 z3, .slice b4 d4 g4, .slice h4 i4 j4, .slice k4 p4 q4, .slice t4 u4 v4, .slice x4 y4 z4, .slice b5 d5 g5, .slice h5 i5 j5, .slice k5 p5 q5, .string t5, .string u5, .string v5];
  let z5 : Int := IntKind.i64.wrap (q2 + 1);
  ∃ b6 : Int → World → Nat → Prop,
  (∃ n, b6 z5 y5 n) ∧
  ∀ d6 : Env, ∀ g6 h6 i6, b6 g6 h6 i6 →
  sel (decide ((g6 : Int) < ((na2 : Int) : Int))) (
  (0 : Int) ≤ g6 ∧ g6 < (na2 : Int) ∧
  needPtr Aa2 fun j6 k6 =>
  ∃ p6,
  h6.cell? ⟨j6, k6 + g6.toNat * 1, none⟩ = some (.int .i64 p6) ∧
  (0 : Int) ≤ p6 ∧ p6 < (na1 : Int) ∧
  needPtr Aa1 fun q6 t6 =>
  ∃ u6,
  h6.cell? ⟨q6, t6 + p6.toNat * 19, none⟩ = some (.int .i64 u6) ∧
  ∃ v6,
  h6.cell? ⟨q6, t6 + p6.toNat * 19 + 1, none⟩ = some (.int .i64 v6) ∧
  ∃ x6,
  h6.cell? ⟨q6, t6 + p6.toNat * 19 + 1 + 1, none⟩ = some (.bool x6) ∧
  ∃ y6,
  h6.cell? ⟨q6, t6 + p6.toNat * 19 + 1 + 1 + 1, none⟩ = some (.bool y6) ∧
  ∃ z6,
  h6.cell? ⟨q6, t6 + p6.toNat * 19 + 1 + 1 + 1 + 1, none⟩ = some (.bool z6) ∧
  ∃ b7 d7 g7,
  h6.cell? ⟨q6, t6 + p6.toNat * 19 + 1 + 1 + 1 + 1 + 1, none⟩ = some (.slice b7 d7 g7) ∧
  ∃ h7 i7 j7,
  h6.cell? ⟨q6, t6 + p6.toNat * 19 + 1 + 1 + 1 + 1 + 1 + 1, none⟩ = some (.slice h7 i7 j7) ∧
  ∃ k7 p7 q7,
  h6.cell? ⟨q6, t6 + p6.toNat * 19 + 1 + 1 + 1 + 1 + 1 + 1 + 1, none⟩ = some (.slice k7 p7 q7) ∧
  ∃ t7 u7 v7,
  h6.cell? ⟨q6, t6 + p6.toNat * 19 + 1 + 1 + 1 + 1 + 1 + 1 + 1 + 1, none⟩ = some (.slice t7 u7 v7) ∧
  ∃ x7 y7 z7,
  h6.cell? ⟨q6, t6 + p6.toNat * 19 + 1 + 1 + 1 + 1 + 1 + 1 + 1 + 1 + 1, none⟩ = some (.slice x7 y7 z7) ∧
  ∃ b8 d8 g8,
  h6.cell? ⟨q6, t6 + p6.toNat * 19 + 1 + 1 + 1 + 1 + 1 + 1 + 1 + 1 + 1 + 1, none⟩ = some (.slice b8 d8 g8) ∧
  ∃ h8 i8 j8,
  h6.cell? ⟨q6, t6 + p6.toNat * 19 + 1 + 1 + 1 + 1 + 1 + 1 + 1 + 1 + 1 + 1 + 1, none⟩ = some (.slice h8 i8 j8) ∧
  ∃ k8 p8 q8,
  h6.cell? ⟨q6, t6 + p6.toNat * 19 + 1 + 1 + 1 + 1 + 1 + 1 + 1 + 1 + 1 + 1 + 1 + 1, none⟩ = some (.slice k8 p8 q8) ∧
  ∃ t8 u8 v8,
  h6.cell? ⟨q6, t6 + p6.toNat * 19 + 1 + 1 + 1 + 1 + 1 + 1 + 1 + 1 + 1 + 1 + 1 + 1 + 1, none⟩ = some (.slice t8 u8 v8) ∧
  ∃ x8 y8 z8,
  h6.cell? ⟨q6, t6 + p6.toNat * 19 + 1 + 1 + 1 + 1 + 1 + 1 + 1 + 1 + 1 + 1 + 1 + 1 + 1 + 1, none⟩ = some (.slice x8 y8 z8) ∧
  ∃ b9 d9 g9,
  h6.cell? ⟨q6, t6 + p6.toNat * 19 + 1 + 1 + 1 + 1 + 1 + 1 + 1 + 1 + 1 + 1 + 1 + 1 + 1 + 1 + 1, none⟩ = some (.slice b9 d9 g9) ∧
  ∃ h9,
  h6.cell? ⟨q6, t6 + p6.toNat * 19 + 1 + 1 + 1 + 1 + 1 + 1 + 1 + 1 + 1 + 1 + 1 + 1 + 1 + 1 + 1 + 1, none⟩ = some (.string h9) ∧
  ∃ i9,
  h6.cell? ⟨q6, t6 + p6.toNat * 19 + 1 + 1 + 1 + 1 + 1 + 1 + 1 + 1 + 1 + 1 + 1 + 1 + 1 + 1 + 1 + 1 + 1, none⟩ = some (.string i9) ∧
  ∃ j9,
  h6.cell? ⟨q6, t6 + p6.toNat * 19 + 1 + 1 + 1 + 1 + 1 + 1 + 1 + 1 + 1 + 1 + 1 + 1 + 1 + 1 + 1 + 1 + 1 + 1, none⟩ = some (.string j9) ∧
  let k9 := World.alloc h6 (.cells #[.int .i64 0, .int .i64 0, .bool false, .bool false, .bool false, .slice none 0 0, .slice none 0 0, .slice none 0 0, .slice none 0 0, .slice none 0 0, .slice none 0 0, .slice none 0 0, .slice none 0 0, .slice none 0 0, .slice none 0 0, .slice none 0 0, .string ⟨#[]⟩, .string ⟨#[]⟩, .string ⟨#[]⟩] 39);
  canStore k9 h6.heap.size 0 19 ∧
  let p9 := setCs k9 h6.heap.size 0 [.int .i64 u6, .int .i64 v6, .bool x6, .bool y6, .bool z6, .slice b7 d7 g7, .slice h7 i7 j7, .slice k7 p7 q7, .slice t7 u7 v7, .slice x7 y7 z7, .slice b8 d8 g8, .slice h8 i8 j8, .slice k8 p8 q8, .slice t8 u8 v8, .slice x8 y8 z8, .slice b9 d9 g9, .string h9, .string i9, .string j9];
  (0 : Int) ≤ g6 ∧ g6 < (na2 : Int) ∧
  needPtr Aa2 fun q9 t9 =>
  (0 : Int) ≤ q2 ∧ q2 < (na2 : Int) ∧
  needPtr Aa2 fun u9 v9 =>
  ∃ x9,
  p9.cell? ⟨q9, t9 + g6.toNat * 1, none⟩ = some (.int .i64 x9) ∧
  ∃ y9,
  p9.cell? ⟨u9, v9 + q2.toNat * 1, none⟩ = some (.int .i64 y9) ∧
  sel ((x9 : Int) == (y9 : Int)) (
  R (.bool false) p9.drew) (
  ∃ z9,
  p9.cell? ⟨h6.heap.size, 1, none⟩ = some (.int .i64 z9) ∧
  sel (decide ((0 : Int) ≤ (z9 : Int))) (
  ∃ bA,
  p9.cell? ⟨h6.heap.size, 1, none⟩ = some (.int .i64 bA) ∧
  ∃ dA,
  p9.cell? ⟨t2.heap.size, 0, none⟩ = some (.int .i64 dA) ∧
  sel (decide ((bA : Int) < (dA : Int))) (
  R (.bool false) p9.drew) (
  let gA : Int := IntKind.i64.wrap (g6 + 1);
  ([.slice Aa1 na1 ca1, .slice Aa2 na2 ca2, .pointer (some ⟨b0.heap.size, 0, none⟩), .int .i64 q2, .pointer (some ⟨t2.heap.size, 0, none⟩)] : List Value) = ([.slice Aa1 na1 ca1, .slice Aa2 na2 ca2, .pointer (some ⟨b0.heap.size, 0, none⟩), .int .i64 q2, .pointer (some ⟨t2.heap.size, 0, none⟩)] : List Value) ∧ ∃ m, m < i6 ∧ b6 gA p9.drew m)) (
  let hA : Int := IntKind.i64.wrap (g6 + 1);
  ([.slice Aa1 na1 ca1, .slice Aa2 na2 ca2, .pointer (some ⟨b0.heap.size, 0, none⟩), .int .i64 q2, .pointer (some ⟨t2.heap.size, 0, none⟩)] : List Value) = ([.slice Aa1 na1 ca1, .slice Aa2 na2 ca2, .pointer (some ⟨b0.heap.size, 0, none⟩), .int .i64 q2, .pointer (some ⟨t2.heap.size, 0, none⟩)] : List Value) ∧ ∃ m, m < i6 ∧ b6 hA p9.drew m))) (
  ∃ iA,
  h6.cell? ⟨t2.heap.size, 2, none⟩ = some (.bool iA) ∧
  sel iA (
  ∃ jA,
  h6.cell? ⟨t2.heap.size, 3, none⟩ = some (.bool jA) ∧
  sel (!jA) (
  ∃ kA pA qA,
  h6.cell? ⟨t2.heap.size, 5, none⟩ = some (.slice kA pA qA) ∧
  ∃ tA uA vA,
  h6.cell? ⟨t2.heap.size, 6, none⟩ = some (.slice tA uA vA) ∧
  ∃ xA yA zA,
  h6.cell? ⟨t2.heap.size, 7, none⟩ = some (.slice xA yA zA) ∧
  ∃ bB dB gB,
  h6.cell? ⟨t2.heap.size, 8, none⟩ = some (.slice bB dB gB) ∧
  ∃ hB iB jB,
  h6.cell? ⟨t2.heap.size, 9, none⟩ = some (.slice hB iB jB) ∧
  ∃ kB pB qB,
  h6.cell? ⟨t2.heap.size, 10, none⟩ = some (.slice kB pB qB) ∧
  ∃ tB uB vB,
  h6.cell? ⟨t2.heap.size, 11, none⟩ = some (.slice tB uB vB) ∧
  ∃ xB yB zB,
  h6.cell? ⟨t2.heap.size, 12, none⟩ = some (.slice xB yB zB) ∧
  ∃ bC dC gC,
  h6.cell? ⟨t2.heap.size, 13, none⟩ = some (.slice bC dC gC) ∧
  ∃ hC iC jC,
  h6.cell? ⟨t2.heap.size, 14, none⟩ = some (.slice hC iC jC) ∧
  ∃ kC pC qC,
  h6.cell? ⟨t2.heap.size, 15, none⟩ = some (.slice kC pC qC) ∧
  canStore h6 b0.heap.size 0 11 ∧
  let tC := setCs h6 b0.heap.size 0 [.slice kA pA qA, .slice tA uA vA, .slice xA yA zA, .slice bB dB gB, .slice hB iB jB, .slice kB pB qB, .slice tB uB vB, .slice xB yB zB, .slice bC dC gC, .slice hC iC jC, .slice kC pC qC];
  let uC : Int := IntKind.i64.wrap (q2 + 1);
  ([.slice Aa1 na1 ca1, .slice Aa2 na2 ca2, .pointer (some ⟨b0.heap.size, 0, none⟩)] : List Value) = ([.slice Aa1 na1 ca1, .slice Aa2 na2 ca2, .pointer (some ⟨b0.heap.size, 0, none⟩)] : List Value) ∧ ∃ m, m < u2 ∧ k2 uC tC m) (
  let vC : Int := IntKind.i64.wrap (q2 + 1);
  ([.slice Aa1 na1 ca1, .slice Aa2 na2 ca2, .pointer (some ⟨b0.heap.size, 0, none⟩)] : List Value) = ([.slice Aa1 na1 ca1, .slice Aa2 na2 ca2, .pointer (some ⟨b0.heap.size, 0, none⟩)] : List Value) ∧ ∃ m, m < u2 ∧ k2 vC h6 m)) (
  ∃ xC yC zC,
  h6.cell? ⟨b0.heap.size, 0, none⟩ = some (.slice xC yC zC) ∧
  ∃ bD dD gD,
  h6.cell? ⟨b0.heap.size, 1, none⟩ = some (.slice bD dD gD) ∧
  ∃ hD iD jD,
  h6.cell? ⟨b0.heap.size, 2, none⟩ = some (.slice hD iD jD) ∧
  ∃ kD pD qD,
  h6.cell? ⟨b0.heap.size, 3, none⟩ = some (.slice kD pD qD) ∧
  ∃ tD uD vD,
  h6.cell? ⟨b0.heap.size, 4, none⟩ = some (.slice tD uD vD) ∧
  ∃ xD yD zD,
  h6.cell? ⟨b0.heap.size, 5, none⟩ = some (.slice xD yD zD) ∧
  ∃ bE dE gE,
  h6.cell? ⟨b0.heap.size, 6, none⟩ = some (.slice bE dE gE) ∧
  ∃ hE iE jE,
  h6.cell? ⟨b0.heap.size, 7, none⟩ = some (.slice hE iE jE) ∧
  ∃ kE pE qE,
  h6.cell? ⟨b0.heap.size, 8, none⟩ = some (.slice kE pE qE) ∧
  ∃ tE uE vE,
  h6.cell? ⟨b0.heap.size, 9, none⟩ = some (.slice tE uE vE) ∧
  ∃ xE yE zE,
  h6.cell? ⟨b0.heap.size, 10, none⟩ = some (.slice xE yE zE) ∧
  ∃ bF,
  h6.cell? ⟨t2.heap.size, 16, none⟩ = some (.string bF) ∧
  ∃ dF,
  h6.cell? ⟨t2.heap.size, 17, none⟩ = some (.string dF) ∧
  ∃ gF,
  h6.cell? ⟨t2.heap.size, 18, none⟩ = some (.string gF) ∧
  ∃ hF,
  h6.cell? ⟨t2.heap.size, 4, none⟩ = some (.bool hF) ∧
  Calls Try.prog 10 #[.agg #[.slice xC yC zC, .slice bD dD gD, .slice hD iD jD, .slice kD pD qD, .slice tD uD vD, .slice xD yD zD, .slice bE dE gE, .slice hE iE jE, .slice kE pE qE, .slice tE uE vE, .slice xE yE zE]] h6.drew fun iF jF =>
  ∃ kF pF qF tF uF vF xF yF zF bG dG gG hG iG jG kG pG qG tG uG vG xG yG zG bH dH gH hH iH jH kH pH qH,
  iF = .returned (.agg #[.slice kF pF qF, .slice tF uF vF, .slice xF yF zF, .slice bG dG gG, .slice hG iG jG, .slice kG pG qG, .slice tG uG vG, .slice xG yG zG, .slice bH dH gH, .slice hH iH jH, .slice kH pH qH]) ∧
  (jF.cell? ⟨t2.heap.size, 4, none⟩ = some (.bool hF) ∧ (jF.cell? ⟨t2.heap.size, 16, none⟩ = some (.string bF) ∧ jF.cell? ⟨t2.heap.size, 17, none⟩ = some (.string dF) ∧ jF.cell? ⟨t2.heap.size, 18, none⟩ = some (.string gF) ∧ True) ∧ (jF.cell? ⟨b0.heap.size, 0, none⟩ = some (.slice xC yC zC) ∧ jF.cell? ⟨b0.heap.size, 1, none⟩ = some (.slice bD dD gD) ∧ jF.cell? ⟨b0.heap.size, 2, none⟩ = some (.slice hD iD jD) ∧ jF.cell? ⟨b0.heap.size, 3, none⟩ = some (.slice kD pD qD) ∧ jF.cell? ⟨b0.heap.size, 4, none⟩ = some (.slice tD uD vD) ∧ jF.cell? ⟨b0.heap.size, 5, none⟩ = some (.slice xD yD zD) ∧ jF.cell? ⟨b0.heap.size, 6, none⟩ = some (.slice bE dE gE) ∧ jF.cell? ⟨b0.heap.size, 7, none⟩ = some (.slice hE iE jE) ∧ jF.cell? ⟨b0.heap.size, 8, none⟩ = some (.slice kE pE qE) ∧ jF.cell? ⟨b0.heap.size, 9, none⟩ = some (.slice tE uE vE) ∧ jF.cell? ⟨b0.heap.size, 10, none⟩ = some (.slice xE yE zE) ∧ True) ∧ True) ∧
  Calls Try.prog 19 #[.agg #[.slice kF pF qF, .slice tF uF vF, .slice xF yF zF, .slice bG dG gG, .slice hG iG jG, .slice kG pG qG, .slice tG uG vG, .slice xG yG zG, .slice bH dH gH, .slice hH iH jH, .slice kH pH qH], .agg #[.string bF, .string dF, .string gF]] jF fun tH uH =>
  ∃ vH,
  tH = .returned (.bool vH) ∧
  (uH.cell? ⟨t2.heap.size, 4, none⟩ = some (.bool hF) ∧ (uH.cell? ⟨t2.heap.size, 16, none⟩ = some (.string bF) ∧ uH.cell? ⟨t2.heap.size, 17, none⟩ = some (.string dF) ∧ uH.cell? ⟨t2.heap.size, 18, none⟩ = some (.string gF) ∧ True) ∧ (uH.cell? ⟨b0.heap.size, 0, none⟩ = some (.slice xC yC zC) ∧ uH.cell? ⟨b0.heap.size, 1, none⟩ = some (.slice bD dD gD) ∧ uH.cell? ⟨b0.heap.size, 2, none⟩ = some (.slice hD iD jD) ∧ uH.cell? ⟨b0.heap.size, 3, none⟩ = some (.slice kD pD qD) ∧ uH.cell? ⟨b0.heap.size, 4, none⟩ = some (.slice tD uD vD) ∧ uH.cell? ⟨b0.heap.size, 5, none⟩ = some (.slice xD yD zD) ∧ uH.cell? ⟨b0.heap.size, 6, none⟩ = some (.slice bE dE gE) ∧ uH.cell? ⟨b0.heap.size, 7, none⟩ = some (.slice hE iE jE) ∧ uH.cell? ⟨b0.heap.size, 8, none⟩ = some (.slice kE pE qE) ∧ uH.cell? ⟨b0.heap.size, 9, none⟩ = some (.slice tE uE vE) ∧ uH.cell? ⟨b0.heap.size, 10, none⟩ = some (.slice xE yE zE) ∧ True) ∧ True) ∧
  sel (!(vH == hF)) (
  R (.bool false) uH) (
  let xH : Int := IntKind.i64.wrap (q2 + 1);
  ([.slice Aa1 na1 ca1, .slice Aa2 na2 ca2, .pointer (some ⟨b0.heap.size, 0, none⟩)] : List Value) = ([.slice Aa1 na1 ca1, .slice Aa2 na2 ca2, .pointer (some ⟨b0.heap.size, 0, none⟩)] : List Value) ∧ ∃ m, m < u2 ∧ k2 xH uH m)))) (
  R (.bool true) t2)
theorem f20.eq (Aa0_0 : Option Addr) (na0_0 ca0_0 : Nat) (Aa0_1 : Option Addr) (na0_1 ca0_1 : Nat) (Aa0_2 : Option Addr) (na0_2 ca0_2 : Nat) (Aa0_3 : Option Addr) (na0_3 ca0_3 : Nat) (Aa0_4 : Option Addr) (na0_4 ca0_4 : Nat) (Aa0_5 : Option Addr) (na0_5 ca0_5 : Nat) (Aa0_6 : Option Addr) (na0_6 ca0_6 : Nat) (Aa0_7 : Option Addr) (na0_7 ca0_7 : Nat) (Aa0_8 : Option Addr) (na0_8 ca0_8 : Nat) (Aa0_9 : Option Addr) (na0_9 ca0_9 : Nat) (Aa0_10 : Option Addr) (na0_10 ca0_10 : Nat) (Aa1 : Option Addr) (na1 ca1 : Nat) (Aa2 : Option Addr) (na2 ca2 : Nat) (w : World) (R : Value → World → Prop) : f20.VC Aa0_0 na0_0 ca0_0 Aa0_1 na0_1 ca0_1 Aa0_2 na0_2 ca0_2 Aa0_3 na0_3 ca0_3 Aa0_4 na0_4 ca0_4 Aa0_5 na0_5 ca0_5 Aa0_6 na0_6 ca0_6 Aa0_7 na0_7 ca0_7 Aa0_8 na0_8 ca0_8 Aa0_9 na0_9 ca0_9 Aa0_10 na0_10 ca0_10 Aa1 na1 ca1 Aa2 na2 ca2 w R = funV Try.prog Try.f20 f20.AL f20.AC #[.agg #[.slice Aa0_0 na0_0 ca0_0, .slice Aa0_1 na0_1 ca0_1, .slice Aa0_2 na0_2 ca0_2, .slice Aa0_3 na0_3 ca0_3, .slice Aa0_4 na0_4 ca0_4, .slice Aa0_5 na0_5 ca0_5, .slice Aa0_6 na0_6 ca0_6, .slice Aa0_7 na0_7 ca0_7, .slice Aa0_8 na0_8 ca0_8, .slice Aa0_9 na0_9 ca0_9, .slice Aa0_10 na0_10 ca0_10], .slice Aa1 na1 ca1, .slice Aa2 na2 ca2] w R := by kernel_rfl
theorem f20.calls {Aa0_0 : Option Addr} {na0_0 ca0_0 : Nat} {Aa0_1 : Option Addr} {na0_1 ca0_1 : Nat} {Aa0_2 : Option Addr} {na0_2 ca0_2 : Nat} {Aa0_3 : Option Addr} {na0_3 ca0_3 : Nat} {Aa0_4 : Option Addr} {na0_4 ca0_4 : Nat} {Aa0_5 : Option Addr} {na0_5 ca0_5 : Nat} {Aa0_6 : Option Addr} {na0_6 ca0_6 : Nat} {Aa0_7 : Option Addr} {na0_7 ca0_7 : Nat} {Aa0_8 : Option Addr} {na0_8 ca0_8 : Nat} {Aa0_9 : Option Addr} {na0_9 ca0_9 : Nat} {Aa0_10 : Option Addr} {na0_10 ca0_10 : Nat} {Aa1 : Option Addr} {na1 ca1 : Nat} {Aa2 : Option Addr} {na2 ca2 : Nat} {w : World} {R : Value → World → Prop} (h : f20.VC Aa0_0 na0_0 ca0_0 Aa0_1 na0_1 ca0_1 Aa0_2 na0_2 ca0_2 Aa0_3 na0_3 ca0_3 Aa0_4 na0_4 ca0_4 Aa0_5 na0_5 ca0_5 Aa0_6 na0_6 ca0_6 Aa0_7 na0_7 ca0_7 Aa0_8 na0_8 ca0_8 Aa0_9 na0_9 ca0_9 Aa0_10 na0_10 ca0_10 Aa1 na1 ca1 Aa2 na2 ca2 w R) : Calls Try.prog 20 #[.agg #[.slice Aa0_0 na0_0 ca0_0, .slice Aa0_1 na0_1 ca0_1, .slice Aa0_2 na0_2 ca0_2, .slice Aa0_3 na0_3 ca0_3, .slice Aa0_4 na0_4 ca0_4, .slice Aa0_5 na0_5 ca0_5, .slice Aa0_6 na0_6 ca0_6, .slice Aa0_7 na0_7 ca0_7, .slice Aa0_8 na0_8 ca0_8, .slice Aa0_9 na0_9 ca0_9, .slice Aa0_10 na0_10 ca0_10], .slice Aa1 na1 ca1, .slice Aa2 na2 ca2] w fun e w' => ∃ v, e = .returned v ∧ R v w' :=
  funV_sound (fn := Try.f20) (AL := f20.AL) (AC := f20.AC) W5.mixed (by kernel_rfl) (by rw [← f20.eq Aa0_0 na0_0 ca0_0 Aa0_1 na0_1 ca0_1 Aa0_2 na0_2 ca0_2 Aa0_3 na0_3 ca0_3 Aa0_4 na0_4 ca0_4 Aa0_5 na0_5 ca0_5 Aa0_6 na0_6 ca0_6 Aa0_7 na0_7 ca0_7 Aa0_8 na0_8 ca0_8 Aa0_9 na0_9 ca0_9 Aa0_10 na0_10 ca0_10 Aa1 na1 ca1 Aa2 na2 ca2]; exact h)

end Go.Proofs.Ytddbebhklmaeoaa
