/- The plain statements of some functions, printed by vcgen.py. -/
import Derived.Test.YtddbebhklmaeoaaM5
import Derived.Test.YtddbebhklmaeoaaProg
import Derived.KernelRfl
set_option maxRecDepth 100000
set_option maxHeartbeats 4000000
set_option linter.unusedVariables false
namespace Go.Proofs.Ytddbebhklmaeoaa
open Go Go.Proofs.Ytddbebhklmaeoaa.Vc
theorem W11.mixed : Try.prog.follows .mixedOrders = true := by kernel_rfl
/-- gatehouse/gatehouselaw27.JudgeMade -/
def f5.AL : Nat → Option Ann := fun r => match r with | 6 => some ⟨[(8, .slice), (9, .slice), (11, .int .i64)], [1, 2, 3, 7, 10]⟩ | 27 => some ⟨[(18, .int .i64)], [3, 8, 9, 15]⟩ | 32 => some ⟨[(19, .int .i64)], [3, 8, 9, 15]⟩ | 36 => some ⟨[(20, .bool), (21, .int .i64)], [3, 8, 9, 15, 19]⟩ | _ => none
def f5.AC : Nat → Option Ann := fun r => match r with | 14 => some ⟨[(13, .int .i64), (14, .int .i64)], [1, 2, 3, 7, 8, 9, 10, 11, 12]⟩ | 16 => some ⟨[], [1, 2, 3, 7, 8, 9, 10, 11, 12, 14]⟩ | 18 => some ⟨[], [1, 2, 3, 7, 8, 9, 10, 11, 12]⟩ | 20 => some ⟨[], [1, 2, 3, 7, 8, 9, 10, 11, 12]⟩ | 21 => some ⟨[], [1, 2, 3, 7, 8, 9, 10, 11, 12]⟩ | 23 => some ⟨[(8, .slice), (9, .slice)], [3, 7]⟩ | 2000020 => some ⟨[(83, .bool), (85, .any), (87, .any)], [1, 2, 3, 7, 8, 9, 10, 11, 12]⟩ | 3000020 => some ⟨[], [0, 1, 2, 3, 4, 5, 6, 7]⟩ | _ => none
def f5.VC (Aa0_0 : Option Addr) (na0_0 ca0_0 : Nat) (Aa0_1 : Option Addr) (na0_1 ca0_1 : Nat) (Aa0_2 : Option Addr) (na0_2 ca0_2 : Nat) (Aa0_3 : Option Addr) (na0_3 ca0_3 : Nat) (Aa0_4 : Option Addr) (na0_4 ca0_4 : Nat) (Aa0_5 : Option Addr) (na0_5 ca0_5 : Nat) (Aa0_6 : Option Addr) (na0_6 ca0_6 : Nat) (Aa0_7 : Option Addr) (na0_7 ca0_7 : Nat) (Aa0_8 : Option Addr) (na0_8 ca0_8 : Nat) (Aa0_9 : Option Addr) (na0_9 ca0_9 : Nat) (Aa0_10 : Option Addr) (na0_10 ca0_10 : Nat) (Aa1 : Option Addr) (na1 ca1 : Nat) (Aa2 : Option Addr) (na2 ca2 : Nat) (w : World) (R : Value → World → Prop) : Prop :=
  let b0 := World.alloc w (.cells #[.slice Aa0_0 na0_0 ca0_0, .slice Aa0_1 na0_1 ca0_1, .slice Aa0_2 na0_2 ca0_2, .slice Aa0_3 na0_3 ca0_3, .slice Aa0_4 na0_4 ca0_4, .slice Aa0_5 na0_5 ca0_5, .slice Aa0_6 na0_6 ca0_6, .slice Aa0_7 na0_7 ca0_7, .slice Aa0_8 na0_8 ca0_8, .slice Aa0_9 na0_9 ca0_9, .slice Aa0_10 na0_10 ca0_10] 28);
  Calls Try.prog 7 #[] b0 fun d0 g0 =>
  ∃ h0,
  d0 = .returned (.bool h0) ∧
  ∃ i0 j0 k0,
  g0.cell? ⟨w.heap.size, 0, none⟩ = some (.slice i0 j0 k0) ∧
  ∃ p0 q0 t0,
  g0.cell? ⟨w.heap.size, 1, none⟩ = some (.slice p0 q0 t0) ∧
  ∃ u0 v0 x0,
  g0.cell? ⟨w.heap.size, 2, none⟩ = some (.slice u0 v0 x0) ∧
  ∃ y0 z0 b1,
  g0.cell? ⟨w.heap.size, 3, none⟩ = some (.slice y0 z0 b1) ∧
  ∃ d1 g1 h1,
  g0.cell? ⟨w.heap.size, 4, none⟩ = some (.slice d1 g1 h1) ∧
  ∃ i1 j1 k1,
  g0.cell? ⟨w.heap.size, 5, none⟩ = some (.slice i1 j1 k1) ∧
  ∃ p1 q1 t1,
  g0.cell? ⟨w.heap.size, 6, none⟩ = some (.slice p1 q1 t1) ∧
  ∃ u1 v1 x1,
  g0.cell? ⟨w.heap.size, 7, none⟩ = some (.slice u1 v1 x1) ∧
  ∃ y1 z1 b2,
  g0.cell? ⟨w.heap.size, 8, none⟩ = some (.slice y1 z1 b2) ∧
  ∃ d2 g2 h2,
  g0.cell? ⟨w.heap.size, 9, none⟩ = some (.slice d2 g2 h2) ∧
  ∃ i2 j2 k2,
  g0.cell? ⟨w.heap.size, 10, none⟩ = some (.slice i2 j2 k2) ∧
  let p2 := World.alloc g0 (.cells #[.slice none 0 0, .slice none 0 0, .slice none 0 0, .slice none 0 0, .slice none 0 0, .slice none 0 0, .slice none 0 0, .slice none 0 0, .slice none 0 0, .slice none 0 0, .slice none 0 0] 28);
  canStore p2 g0.heap.size 0 11 ∧
  let q2 := setCs p2 g0.heap.size 0 [.slice i0 j0 k0, .slice p0 q0 t0, .slice u0 v0 x0, .slice y0 z0 b1, .slice d1 g1 h1, .slice i1 j1 k1, .slice p1 q1 t1, .slice u1 v1 x1, .slice y1 z1 b2, .slice d2 g2 h2, .slice i2 j2 k2];
  ∃ t2 : Option Addr → Nat → Nat → Option Addr → Nat → Nat → World → Prop,
  (∃ u2 : Option Addr → Nat → Nat → Option Addr → Nat → Nat → Int → World → Nat → Prop,
  (∃ n, u2 none 0 0 none 0 0 0 q2 n) ∧
  ∀ v2 : Env, ∀ x2 y2 z2 b3 d3 g3 h3 i3 j3, u2 x2 y2 z2 b3 d3 g3 h3 i3 j3 →
  sel (decide ((h3 : Int) < ((na1 : Int) : Int))) (
  sel (decide ((h3 : Int) < (12 : Int))) (
  (0 : Int) ≤ h3 ∧ h3 < (na1 : Int) ∧
  needPtr Aa1 fun k3 p3 =>
  ∃ q3,
  i3.cell? ⟨k3, p3 + h3.toNat * 19, none⟩ = some (.int .i64 q3) ∧
  ∃ t3,
  i3.cell? ⟨k3, p3 + h3.toNat * 19 + 1, none⟩ = some (.int .i64 t3) ∧
  ∃ u3,
  i3.cell? ⟨k3, p3 + h3.toNat * 19 + 1 + 1, none⟩ = some (.bool u3) ∧
  ∃ v3,
  i3.cell? ⟨k3, p3 + h3.toNat * 19 + 1 + 1 + 1, none⟩ = some (.bool v3) ∧
  ∃ x3,
  i3.cell? ⟨k3, p3 + h3.toNat * 19 + 1 + 1 + 1 + 1, none⟩ = some (.bool x3) ∧
  ∃ y3 z3 b4,
  i3.cell? ⟨k3, p3 + h3.toNat * 19 + 1 + 1 + 1 + 1 + 1, none⟩ = some (.slice y3 z3 b4) ∧
  ∃ d4 g4 h4,
  i3.cell? ⟨k3, p3 + h3.toNat * 19 + 1 + 1 + 1 + 1 + 1 + 1, none⟩ = some (.slice d4 g4 h4) ∧
  ∃ i4 j4 k4,
  i3.cell? ⟨k3, p3 + h3.toNat * 19 + 1 + 1 + 1 + 1 + 1 + 1 + 1, none⟩ = some (.slice i4 j4 k4) ∧
  ∃ p4 q4 t4,
  i3.cell? ⟨k3, p3 + h3.toNat * 19 + 1 + 1 + 1 + 1 + 1 + 1 + 1 + 1, none⟩ = some (.slice p4 q4 t4) ∧
  ∃ u4 v4 x4,
  i3.cell? ⟨k3, p3 + h3.toNat * 19 + 1 + 1 + 1 + 1 + 1 + 1 + 1 + 1 + 1, none⟩ = some (.slice u4 v4 x4) ∧
  ∃ y4 z4 b5,
  i3.cell? ⟨k3, p3 + h3.toNat * 19 + 1 + 1 + 1 + 1 + 1 + 1 + 1 + 1 + 1 + 1, none⟩ = some (.slice y4 z4 b5) ∧
  ∃ d5 g5 h5,
  i3.cell? ⟨k3, p3 + h3.toNat * 19 + 1 + 1 + 1 + 1 + 1 + 1 + 1 + 1 + 1 + 1 + 1, none⟩ = some (.slice d5 g5 h5) ∧
  ∃ i5 j5 k5,
  i3.cell? ⟨k3, p3 + h3.toNat * 19 + 1 + 1 + 1 + 1 + 1 + 1 + 1 + 1 + 1 + 1 + 1 + 1, none⟩ = some (.slice i5 j5 k5) ∧
  ∃ p5 q5 t5,
  i3.cell? ⟨k3, p3 + h3.toNat * 19 + 1 + 1 + 1 + 1 + 1 + 1 + 1 + 1 + 1 + 1 + 1 + 1 + 1, none⟩ = some (.slice p5 q5 t5) ∧
  ∃ u5 v5 x5,
  i3.cell? ⟨k3, p3 + h3.toNat * 19 + 1 + 1 + 1 + 1 + 1 + 1 + 1 + 1 + 1 + 1 + 1 + 1 + 1 + 1, none⟩ = some (.slice u5 v5 x5) ∧
  ∃ y5 z5 b6,
  i3.cell? ⟨k3, p3 + h3.toNat * 19 + 1 + 1 + 1 + 1 + 1 + 1 + 1 + 1 + 1 + 1 + 1 + 1 + 1 + 1 + 1, none⟩ = some (.slice y5 z5 b6) ∧
  ∃ d6,
  i3.cell? ⟨k3, p3 + h3.toNat * 19 + 1 + 1 + 1 + 1 + 1 + 1 + 1 + 1 + 1 + 1 + 1 + 1 + 1 + 1 + 1 + 1, none⟩ = some (.string d6) ∧
  ∃ g6,
  i3.cell? ⟨k3, p3 + h3.toNat * 19 + 1 + 1 + 1 + 1 + 1 + 1 + 1 + 1 + 1 + 1 + 1 + 1 + 1 + 1 + 1 + 1 + 1, none⟩ = some (.string g6) ∧
  ∃ h6,
  i3.cell? ⟨k3, p3 + h3.toNat * 19 + 1 + 1 + 1 + 1 + 1 + 1 + 1 + 1 + 1 + 1 + 1 + 1 + 1 + 1 + 1 + 1 + 1 + 1, none⟩ = some (.string h6) ∧
  let i6 := World.alloc i3 (.cells #[.int .i64 0, .int .i64 0, .bool false, .bool false, .bool false, .slice none 0 0, .slice none 0 0, .slice none 0 0, .slice none 0 0, .slice none 0 0, .slice none 0 0, .slice none 0 0, .slice none 0 0, .slice none 0 0, .slice none 0 0, .slice none 0 0, .string ⟨#[]⟩, .string ⟨#[]⟩, .string ⟨#[]⟩] 39);
  canStore i6 i3.heap.size 0 19 ∧
  let j6 := setCs i6 i3.heap.size 0 [.int .i64 q3, .int .i64 t3, .bool u3, .bool v3, .bool x3, .slice y3 z3 b4, .slice d4 g4 h4, .slice i4 j4 k4, .slice p4 q4 t4, .slice u4 v4 x4, .slice y4 z4 b5, .slice d5 g5 h5, .slice i5 j5 k5, .slice p5 q5 t5, .slice u5 v5 x5, .slice y5 z5 b6, .string d6, .string g6, .string h6];
  ∃ k6 : Int → Int → World → Prop,
  (sel (decide ((h3 : Int) < ((na2 : Int) : Int))) (
  (0 : Int) ≤ h3 ∧ h3 < (na2 : Int) ∧
  needPtr Aa2 fun p6 q6 =>
  (0 : Int) ≤ 0 ∧ 0 < (2 : Int) ∧
  ∃ t6,
  j6.cell? ⟨p6, q6 + h3.toNat * 2, none⟩ = some (.int .i64 t6) ∧
  Calls Try.prog 18 #[.int .i64 t6, .int .i64 40] j6 fun u6 v6 =>
  ∃ x6,
  u6 = .returned (.int .i64 x6) ∧
  (0 : Int) ≤ h3 ∧ h3 < (na2 : Int) ∧
  needPtr Aa2 fun y6 z6 =>
  (0 : Int) ≤ 1 ∧ 1 < (2 : Int) ∧
  ∃ b7,
  v6.cell? ⟨y6, z6 + h3.toNat * 2 + 1, none⟩ = some (.int .i64 b7) ∧
  Calls Try.prog 18 #[.int .i64 b7, .int .i64 40] v6 fun d7 g7 =>
  ∃ h7,
  d7 = .returned (.int .i64 h7) ∧
  ([.slice Aa1 na1 ca1, .slice Aa2 na2 ca2, .pointer (some ⟨w.heap.size, 0, none⟩), .bool h0, .slice x2 y2 z2, .slice b3 d3 g3, .pointer (some ⟨g0.heap.size, 0, none⟩), .int .i64 h3, .pointer (some ⟨i3.heap.size, 0, none⟩)] : List Value) = ([.slice Aa1 na1 ca1, .slice Aa2 na2 ca2, .pointer (some ⟨w.heap.size, 0, none⟩), .bool h0, .slice x2 y2 z2, .slice b3 d3 g3, .pointer (some ⟨g0.heap.size, 0, none⟩), .int .i64 h3, .pointer (some ⟨i3.heap.size, 0, none⟩)] : List Value) ∧ k6 x6 h7 g7) (
  ([.slice Aa1 na1 ca1, .slice Aa2 na2 ca2, .pointer (some ⟨w.heap.size, 0, none⟩), .bool h0, .slice x2 y2 z2, .slice b3 d3 g3, .pointer (some ⟨g0.heap.size, 0, none⟩), .int .i64 h3, .pointer (some ⟨i3.heap.size, 0, none⟩)] : List Value) = ([.slice Aa1 na1 ca1, .slice Aa2 na2 ca2, .pointer (some ⟨w.heap.size, 0, none⟩), .bool h0, .slice x2 y2 z2, .slice b3 d3 g3, .pointer (some ⟨g0.heap.size, 0, none⟩), .int .i64 h3, .pointer (some ⟨i3.heap.size, 0, none⟩)] : List Value) ∧ k6 0 0 j6)) ∧
  ∀ i7 : Env, ∀ j7 k7 p7, k6 j7 k7 p7 →
  let q7 : Int := IntKind.i64.wrap (10 * h3);
  let t7 : Int := IntKind.i64.wrap (100 + q7);
  let u7 : Int := IntKind.i64.wrap (t7 - j7);
  canStore p7 i3.heap.size 0 1 ∧
  let v7 := setCs p7 i3.heap.size 0 [.int .i64 u7];
  ∃ x7 : World → Prop,
  (let y7 : Int := IntKind.i64.wrap (10 * h3);
  let z7 : Int := IntKind.i64.wrap (100 + y7);
  let b8 : Int := IntKind.i64.wrap (z7 + k7);
  canStore v7 i3.heap.size 1 1 ∧
  let d8 := setCs v7 i3.heap.size 1 [.int .i64 b8];
  ([.slice Aa1 na1 ca1, .slice Aa2 na2 ca2, .pointer (some ⟨w.heap.size, 0, none⟩), .bool h0, .slice x2 y2 z2, .slice b3 d3 g3, .pointer (some ⟨g0.heap.size, 0, none⟩), .int .i64 h3, .pointer (some ⟨i3.heap.size, 0, none⟩), .int .i64 k7] : List Value) = ([.slice Aa1 na1 ca1, .slice Aa2 na2 ca2, .pointer (some ⟨w.heap.size, 0, none⟩), .bool h0, .slice x2 y2 z2, .slice b3 d3 g3, .pointer (some ⟨g0.heap.size, 0, none⟩), .int .i64 h3, .pointer (some ⟨i3.heap.size, 0, none⟩), .int .i64 k7] : List Value) ∧ x7 d8) ∧
  ∀ g8 : Env, ∀ h8, x7 h8 →
  ∃ i8 : World → Prop,
  (sel ((k7 : Int) == (39 : Int)) (
  canStore h8 i3.heap.size 1 1 ∧
  let j8 := setCs h8 i3.heap.size 1 [.int .i64 (-1)];
  ([.slice Aa1 na1 ca1, .slice Aa2 na2 ca2, .pointer (some ⟨w.heap.size, 0, none⟩), .bool h0, .slice x2 y2 z2, .slice b3 d3 g3, .pointer (some ⟨g0.heap.size, 0, none⟩), .int .i64 h3, .pointer (some ⟨i3.heap.size, 0, none⟩)] : List Value) = ([.slice Aa1 na1 ca1, .slice Aa2 na2 ca2, .pointer (some ⟨w.heap.size, 0, none⟩), .bool h0, .slice x2 y2 z2, .slice b3 d3 g3, .pointer (some ⟨g0.heap.size, 0, none⟩), .int .i64 h3, .pointer (some ⟨i3.heap.size, 0, none⟩)] : List Value) ∧ i8 j8) (
  ([.slice Aa1 na1 ca1, .slice Aa2 na2 ca2, .pointer (some ⟨w.heap.size, 0, none⟩), .bool h0, .slice x2 y2 z2, .slice b3 d3 g3, .pointer (some ⟨g0.heap.size, 0, none⟩), .int .i64 h3, .pointer (some ⟨i3.heap.size, 0, none⟩)] : List Value) = ([.slice Aa1 na1 ca1, .slice Aa2 na2 ca2, .pointer (some ⟨w.heap.size, 0, none⟩), .bool h0, .slice x2 y2 z2, .slice b3 d3 g3, .pointer (some ⟨g0.heap.size, 0, none⟩), .int .i64 h3, .pointer (some ⟨i3.heap.size, 0, none⟩)] : List Value) ∧ i8 h8)) ∧
  ∀ k8 : Env, ∀ p8, i8 p8 →
  ∃ q8 : World → Prop,
  (∃ t8,
  p8.cell? ⟨i3.heap.size, 2, none⟩ = some (.bool t8) ∧
  sel t8 (
  ∃ u8,
  p8.cell? ⟨i3.heap.size, 3, none⟩ = some (.bool u8) ∧
  sel (!u8) (
  ∃ v8 x8 y8,
  p8.cell? ⟨i3.heap.size, 5, none⟩ = some (.slice v8 x8 y8) ∧
  ∃ z8 b9 d9,
  p8.cell? ⟨i3.heap.size, 6, none⟩ = some (.slice z8 b9 d9) ∧
  ∃ g9 h9 i9,
  p8.cell? ⟨i3.heap.size, 7, none⟩ = some (.slice g9 h9 i9) ∧
  ∃ j9 k9 p9,
  p8.cell? ⟨i3.heap.size, 8, none⟩ = some (.slice j9 k9 p9) ∧
  ∃ q9 t9 u9,
  p8.cell? ⟨i3.heap.size, 9, none⟩ = some (.slice q9 t9 u9) ∧
  ∃ v9 x9 y9,
  p8.cell? ⟨i3.heap.size, 10, none⟩ = some (.slice v9 x9 y9) ∧
  ∃ z9 bA dA,
  p8.cell? ⟨i3.heap.size, 11, none⟩ = some (.slice z9 bA dA) ∧
  ∃ gA hA iA,
  p8.cell? ⟨i3.heap.size, 12, none⟩ = some (.slice gA hA iA) ∧
  ∃ jA kA pA,
  p8.cell? ⟨i3.heap.size, 13, none⟩ = some (.slice jA kA pA) ∧
  ∃ qA tA uA,
  p8.cell? ⟨i3.heap.size, 14, none⟩ = some (.slice qA tA uA) ∧
  ∃ vA xA yA,
  p8.cell? ⟨i3.heap.size, 15, none⟩ = some (.slice vA xA yA) ∧
  canStore p8 g0.heap.size 0 11 ∧
  let zA := setCs p8 g0.heap.size 0 [.slice v8 x8 y8, .slice z8 b9 d9, .slice g9 h9 i9, .slice j9 k9 p9, .slice q9 t9 u9, .slice v9 x9 y9, .slice z9 bA dA, .slice gA hA iA, .slice jA kA pA, .slice qA tA uA, .slice vA xA yA];
  ([.slice Aa1 na1 ca1, .slice Aa2 na2 ca2, .pointer (some ⟨w.heap.size, 0, none⟩), .bool h0, .slice x2 y2 z2, .slice b3 d3 g3, .pointer (some ⟨g0.heap.size, 0, none⟩), .int .i64 h3, .pointer (some ⟨i3.heap.size, 0, none⟩)] : List Value) = ([.slice Aa1 na1 ca1, .slice Aa2 na2 ca2, .pointer (some ⟨w.heap.size, 0, none⟩), .bool h0, .slice x2 y2 z2, .slice b3 d3 g3, .pointer (some ⟨g0.heap.size, 0, none⟩), .int .i64 h3, .pointer (some ⟨i3.heap.size, 0, none⟩)] : List Value) ∧ q8 zA) (
  ([.slice Aa1 na1 ca1, .slice Aa2 na2 ca2, .pointer (some ⟨w.heap.size, 0, none⟩), .bool h0, .slice x2 y2 z2, .slice b3 d3 g3, .pointer (some ⟨g0.heap.size, 0, none⟩), .int .i64 h3, .pointer (some ⟨i3.heap.size, 0, none⟩)] : List Value) = ([.slice Aa1 na1 ca1, .slice Aa2 na2 ca2, .pointer (some ⟨w.heap.size, 0, none⟩), .bool h0, .slice x2 y2 z2, .slice b3 d3 g3, .pointer (some ⟨g0.heap.size, 0, none⟩), .int .i64 h3, .pointer (some ⟨i3.heap.size, 0, none⟩)] : List Value) ∧ q8 p8)) (
  ([.slice Aa1 na1 ca1, .slice Aa2 na2 ca2, .pointer (some ⟨w.heap.size, 0, none⟩), .bool h0, .slice x2 y2 z2, .slice b3 d3 g3, .pointer (some ⟨g0.heap.size, 0, none⟩), .int .i64 h3, .pointer (some ⟨i3.heap.size, 0, none⟩)] : List Value) = ([.slice Aa1 na1 ca1, .slice Aa2 na2 ca2, .pointer (some ⟨w.heap.size, 0, none⟩), .bool h0, .slice x2 y2 z2, .slice b3 d3 g3, .pointer (some ⟨g0.heap.size, 0, none⟩), .int .i64 h3, .pointer (some ⟨i3.heap.size, 0, none⟩)] : List Value) ∧ q8 p8)) ∧
  ∀ bB : Env, ∀ dB, q8 dB →
  ∃ gB : World → Prop,
  (∃ hB : Bool → Value → Value → World → Prop,
  (∃ iB,
  dB.cell? ⟨i3.heap.size, 2, none⟩ = some (.bool iB) ∧
  sel (!iB) (
  ∃ jB kB pB,
  dB.cell? ⟨g0.heap.size, 0, none⟩ = some (.slice jB kB pB) ∧
  ∃ qB tB uB,
  dB.cell? ⟨g0.heap.size, 1, none⟩ = some (.slice qB tB uB) ∧
  ∃ vB xB yB,
  dB.cell? ⟨g0.heap.size, 2, none⟩ = some (.slice vB xB yB) ∧
  ∃ zB bC dC,
  dB.cell? ⟨g0.heap.size, 3, none⟩ = some (.slice zB bC dC) ∧
  ∃ gC hC iC,
  dB.cell? ⟨g0.heap.size, 4, none⟩ = some (.slice gC hC iC) ∧
  ∃ jC kC pC,
  dB.cell? ⟨g0.heap.size, 5, none⟩ = some (.slice jC kC pC) ∧
  ∃ qC tC uC,
  dB.cell? ⟨g0.heap.size, 6, none⟩ = some (.slice qC tC uC) ∧
  ∃ vC xC yC,
  dB.cell? ⟨g0.heap.size, 7, none⟩ = some (.slice vC xC yC) ∧
  ∃ zC bD dD,
  dB.cell? ⟨g0.heap.size, 8, none⟩ = some (.slice zC bD dD) ∧
  ∃ gD hD iD,
  dB.cell? ⟨g0.heap.size, 9, none⟩ = some (.slice gD hD iD) ∧
  ∃ jD kD pD,
  dB.cell? ⟨g0.heap.size, 10, none⟩ = some (.slice jD kD pD) ∧
  ∃ qD,
  dB.cell? ⟨i3.heap.size, 16, none⟩ = some (.string qD) ∧
  ∃ tD,
  dB.cell? ⟨i3.heap.size, 17, none⟩ = some (.string tD) ∧
  ∃ uD,
  dB.cell? ⟨i3.heap.size, 18, none⟩ = some (.string uD) ∧
  Calls Try.prog 10 #[.agg #[.slice jB kB pB, .slice qB tB uB, .slice vB xB yB, .slice zB bC dC, .slice gC hC iC, .slice jC kC pC, .slice qC tC uC, .slice vC xC yC, .slice zC bD dD, .slice gD hD iD, .slice jD kD pD]] dB.drew fun vD xD =>
  ∃ yD zD bE dE gE hE iE jE kE pE qE tE uE vE xE yE zE bF dF gF hF iF jF kF pF qF tF uF vF xF yF zF bG,
  vD = .returned (.agg #[.slice yD zD bE, .slice dE gE hE, .slice iE jE kE, .slice pE qE tE, .slice uE vE xE, .slice yE zE bF, .slice dF gF hF, .slice iF jF kF, .slice pF qF tF, .slice uF vF xF, .slice yF zF bG]) ∧
  (stillC xD i3.heap.size [.string qD, .string tD, .string uD] 16 ∧ stillC xD g0.heap.size [.slice jB kB pB, .slice qB tB uB, .slice vB xB yB, .slice zB bC dC, .slice gC hC iC, .slice jC kC pC, .slice qC tC uC, .slice vC xC yC, .slice zC bD dD, .slice gD hD iD, .slice jD kD pD] 0 ∧ xD.cell? ⟨i3.heap.size, 2, none⟩ = some (.bool iB) ∧ True) ∧
  ([.slice Aa1 na1 ca1, .slice Aa2 na2 ca2, .pointer (some ⟨w.heap.size, 0, none⟩), .bool h0, .slice x2 y2 z2, .slice b3 d3 g3, .pointer (some ⟨g0.heap.size, 0, none⟩), .int .i64 h3, .pointer (some ⟨i3.heap.size, 0, none⟩)] : List Value) = ([.slice Aa1 na1 ca1, .slice Aa2 na2 ca2, .pointer (some ⟨w.heap.size, 0, none⟩), .bool h0, .slice x2 y2 z2, .slice b3 d3 g3, .pointer (some ⟨g0.heap.size, 0, none⟩), .int .i64 h3, .pointer (some ⟨i3.heap.size, 0, none⟩)] : List Value) ∧ hB true (.agg #[.slice yD zD bE, .slice dE gE hE, .slice iE jE kE, .slice pE qE tE, .slice uE vE xE, .slice yE zE bF, .slice dF gF hF, .slice iF jF kF, .slice pF qF tF, .slice uF vF xF, .slice yF zF bG]) (.agg #[.string qD, .string tD, .string uD]) xD) (
  ([.slice Aa1 na1 ca1, .slice Aa2 na2 ca2, .pointer (some ⟨w.heap.size, 0, none⟩), .bool h0, .slice x2 y2 z2, .slice b3 d3 g3, .pointer (some ⟨g0.heap.size, 0, none⟩), .int .i64 h3, .pointer (some ⟨i3.heap.size, 0, none⟩)] : List Value) = ([.slice Aa1 na1 ca1, .slice Aa2 na2 ca2, .pointer (some ⟨w.heap.size, 0, none⟩), .bool h0, .slice x2 y2 z2, .slice b3 d3 g3, .pointer (some ⟨g0.heap.size, 0, none⟩), .int .i64 h3, .pointer (some ⟨i3.heap.size, 0, none⟩)] : List Value) ∧ hB false (.tuple #[]) (.tuple #[]) dB.drew)) ∧
  ∀ dG : Env, ∀ gG hG iG jG, hB gG hG iG jG →
  sel gG (
  Calls Try.prog 19 #[hG, iG] jG fun kG pG =>
  ∃ qG,
  kG = .returned (.bool qG) ∧
  (True) ∧
  canStore pG i3.heap.size 4 1 ∧
  let tG := setCs pG i3.heap.size 4 [.bool qG];
  (True) ∧
  ([.slice Aa1 na1 ca1, .slice Aa2 na2 ca2, .pointer (some ⟨w.heap.size, 0, none⟩), .bool h0, .slice x2 y2 z2, .slice b3 d3 g3, .pointer (some ⟨g0.heap.size, 0, none⟩), .int .i64 h3, .pointer (some ⟨i3.heap.size, 0, none⟩)] : List Value) = ([.slice Aa1 na1 ca1, .slice Aa2 na2 ca2, .pointer (some ⟨w.heap.size, 0, none⟩), .bool h0, .slice x2 y2 z2, .slice b3 d3 g3, .pointer (some ⟨g0.heap.size, 0, none⟩), .int .i64 h3, .pointer (some ⟨i3.heap.size, 0, none⟩)] : List Value) ∧ gB tG) (
  canStore jG i3.heap.size 4 1 ∧
  let uG := setCs jG i3.heap.size 4 [.bool false];
  (True) ∧
  ([.slice Aa1 na1 ca1, .slice Aa2 na2 ca2, .pointer (some ⟨w.heap.size, 0, none⟩), .bool h0, .slice x2 y2 z2, .slice b3 d3 g3, .pointer (some ⟨g0.heap.size, 0, none⟩), .int .i64 h3, .pointer (some ⟨i3.heap.size, 0, none⟩)] : List Value) = ([.slice Aa1 na1 ca1, .slice Aa2 na2 ca2, .pointer (some ⟨w.heap.size, 0, none⟩), .bool h0, .slice x2 y2 z2, .slice b3 d3 g3, .pointer (some ⟨g0.heap.size, 0, none⟩), .int .i64 h3, .pointer (some ⟨i3.heap.size, 0, none⟩)] : List Value) ∧ gB uG)) ∧
  ∀ vG : Env, ∀ xG, gB xG →
  ∃ yG,
  xG.cell? ⟨i3.heap.size, 0, none⟩ = some (.int .i64 yG) ∧
  ∃ zG,
  xG.cell? ⟨i3.heap.size, 1, none⟩ = some (.int .i64 zG) ∧
  ∃ bH,
  xG.cell? ⟨i3.heap.size, 2, none⟩ = some (.bool bH) ∧
  ∃ dH,
  xG.cell? ⟨i3.heap.size, 3, none⟩ = some (.bool dH) ∧
  ∃ gH,
  xG.cell? ⟨i3.heap.size, 4, none⟩ = some (.bool gH) ∧
  ∃ hH iH jH,
  xG.cell? ⟨i3.heap.size, 5, none⟩ = some (.slice hH iH jH) ∧
  ∃ kH pH qH,
  xG.cell? ⟨i3.heap.size, 6, none⟩ = some (.slice kH pH qH) ∧
  ∃ tH uH vH,
  xG.cell? ⟨i3.heap.size, 7, none⟩ = some (.slice tH uH vH) ∧
  ∃ xH yH zH,
  xG.cell? ⟨i3.heap.size, 8, none⟩ = some (.slice xH yH zH) ∧
  ∃ bI dI gI,
  xG.cell? ⟨i3.heap.size, 9, none⟩ = some (.slice bI dI gI) ∧
  ∃ hI iI jI,
  xG.cell? ⟨i3.heap.size, 10, none⟩ = some (.slice hI iI jI) ∧
  ∃ kI pI qI,
  xG.cell? ⟨i3.heap.size, 11, none⟩ = some (.slice kI pI qI) ∧
  ∃ tI uI vI,
  xG.cell? ⟨i3.heap.size, 12, none⟩ = some (.slice tI uI vI) ∧
  ∃ xI yI zI,
  xG.cell? ⟨i3.heap.size, 13, none⟩ = some (.slice xI yI zI) ∧
  ∃ bJ dJ gJ,
  xG.cell? ⟨i3.heap.size, 14, none⟩ = some (.slice bJ dJ gJ) ∧
  ∃ hJ iJ jJ,
  xG.cell? ⟨i3.heap.size, 15, none⟩ = some (.slice hJ iJ jJ) ∧
  ∃ kJ,
  xG.cell? ⟨i3.heap.size, 16, none⟩ = some (.string kJ) ∧
  ∃ pJ,
  xG.cell? ⟨i3.heap.size, 17, none⟩ = some (.string pJ) ∧
  ∃ qJ,
  xG.cell? ⟨i3.heap.size, 18, none⟩ = some (.string qJ) ∧
  let tJ := World.alloc xG (.cells #[.int .i64 yG, .int .i64 zG, .bool bH, .bool dH, .bool gH, .slice hH iH jH, .slice kH pH qH, .slice tH uH vH, .slice xH yH zH, .slice bI dI gI, .slice hI iI jI, .slice kI pI qI, .slice tI uI vI, .slice xI yI zI, .slice bJ dJ gJ, .slice hJ iJ jJ, .string kJ, .string pJ, .string qJ] 39);
  ∃ uJ vJ xJ,
  ∃ yJ, (Builtin.append_ #[29, 29] 29 #[.slice x2 y2 z2, .slice (some ⟨xG.heap.size, 0, none⟩) 1 1]).run Try.prog tJ = .ok (.slice uJ vJ xJ) yJ ∧
  let zJ := World.alloc yJ (.cells #[.int .i64 h3] 3);
  ∃ bK dK gK,
  ∃ hK, (Builtin.append_ #[31, 31] 31 #[.slice b3 d3 g3, .slice (some ⟨yJ.heap.size, 0, none⟩) 1 1]).run Try.prog zJ = .ok (.slice bK dK gK) hK ∧
  let iK : Int := IntKind.i64.wrap (h3 + 1);
  ([.slice Aa1 na1 ca1, .slice Aa2 na2 ca2, .pointer (some ⟨w.heap.size, 0, none⟩), .bool h0, .pointer (some ⟨g0.heap.size, 0, none⟩)] : List Value) = ([.slice Aa1 na1 ca1, .slice Aa2 na2 ca2, .pointer (some ⟨w.heap.size, 0, none⟩), .bool h0, .pointer (some ⟨g0.heap.size, 0, none⟩)] : List Value) ∧ ∃ m, m < j3 ∧ u2 uJ vJ xJ bK dK gK iK hK m) (
  ([.pointer (some ⟨w.heap.size, 0, none⟩), .bool h0] : List Value) = ([.pointer (some ⟨w.heap.size, 0, none⟩), .bool h0] : List Value) ∧ t2 x2 y2 z2 b3 d3 g3 i3)) (
  ([.pointer (some ⟨w.heap.size, 0, none⟩), .bool h0] : List Value) = ([.pointer (some ⟨w.heap.size, 0, none⟩), .bool h0] : List Value) ∧ t2 x2 y2 z2 b3 d3 g3 i3)) ∧
  ∀ jK : Env, ∀ kK pK qK tK uK vK xK, t2 kK pK qK tK uK vK xK →
  ∃ yK zK bL,
  xK.cell? ⟨w.heap.size, 0, none⟩ = some (.slice yK zK bL) ∧
  ∃ dL gL hL,
  xK.cell? ⟨w.heap.size, 1, none⟩ = some (.slice dL gL hL) ∧
  ∃ iL jL kL,
  xK.cell? ⟨w.heap.size, 2, none⟩ = some (.slice iL jL kL) ∧
  ∃ pL qL tL,
  xK.cell? ⟨w.heap.size, 3, none⟩ = some (.slice pL qL tL) ∧
  ∃ uL vL xL,
  xK.cell? ⟨w.heap.size, 4, none⟩ = some (.slice uL vL xL) ∧
  ∃ yL zL bM,
  xK.cell? ⟨w.heap.size, 5, none⟩ = some (.slice yL zL bM) ∧
  ∃ dM gM hM,
  xK.cell? ⟨w.heap.size, 6, none⟩ = some (.slice dM gM hM) ∧
  ∃ iM jM kM,
  xK.cell? ⟨w.heap.size, 7, none⟩ = some (.slice iM jM kM) ∧
  ∃ pM qM tM,
  xK.cell? ⟨w.heap.size, 8, none⟩ = some (.slice pM qM tM) ∧
  ∃ uM vM xM,
  xK.cell? ⟨w.heap.size, 9, none⟩ = some (.slice uM vM xM) ∧
  ∃ yM zM bN,
  xK.cell? ⟨w.heap.size, 10, none⟩ = some (.slice yM zM bN) ∧
  Calls Try.prog 10 #[.agg #[.slice yK zK bL, .slice dL gL hL, .slice iL jL kL, .slice pL qL tL, .slice uL vL xL, .slice yL zL bM, .slice dM gM hM, .slice iM jM kM, .slice pM qM tM, .slice uM vM xM, .slice yM zM bN]] xK fun dN gN =>
  ∃ hN iN jN kN pN qN tN uN vN xN yN zN bP dP gP hP iP jP kP pP qP tP uP vP xP yP zP bQ dQ gQ hQ iQ jQ,
  dN = .returned (.agg #[.slice hN iN jN, .slice kN pN qN, .slice tN uN vN, .slice xN yN zN, .slice bP dP gP, .slice hP iP jP, .slice kP pP qP, .slice tP uP vP, .slice xP yP zP, .slice bQ dQ gQ, .slice hQ iQ jQ]) ∧
  Calls Try.prog 9 #[.slice kK pK qK] gN fun kQ pQ =>
  ∃ qQ tQ uQ,
  kQ = .returned (.slice qQ tQ uQ) ∧
  Calls Try.prog 11 #[.agg #[.slice hN iN jN, .slice kN pN qN, .slice tN uN vN, .slice xN yN zN, .slice bP dP gP, .slice hP iP jP, .slice kP pP qP, .slice tP uP vP, .slice xP yP zP, .slice bQ dQ gQ, .slice hQ iQ jQ], .slice qQ tQ uQ] pQ fun vQ xQ =>
  ∃ yQ zQ bR dR gR,
  vQ = .returned (.tuple #[.slice yQ zQ bR, .bool dR, .int .i64 gR]) ∧
  sel (!h0) (
  R (.bool false) xQ) (
  sel (!dR) (
  R (.bool false) xQ) (
  sel ((gR : Int) != (0 : Int)) (
  R (.bool false) xQ) (
  ∃ hR : Int → World → Nat → Prop,
  (∃ n, hR 0 xQ n) ∧
  ∀ iR : Env, ∀ jR kR pR, hR jR kR pR →
  sel (decide ((jR : Int) < ((zQ : Int) : Int))) (
  (0 : Int) ≤ jR ∧ jR < (zQ : Int) ∧
  needPtr yQ fun qR tR =>
  ∃ uR,
  kR.cell? ⟨qR, tR + jR.toNat * 1, none⟩ = some (.int .i64 uR) ∧
  sel (decide ((uR : Int) < (0 : Int))) (
  R (.bool false) kR) (
  (0 : Int) ≤ jR ∧ jR < (zQ : Int) ∧
  needPtr yQ fun vR xR =>
  ∃ yR,
  kR.cell? ⟨vR, xR + jR.toNat * 1, none⟩ = some (.int .i64 yR) ∧
  sel (decide (((pK : Int) : Int) ≤ (yR : Int))) (
  R (.bool false) kR) (
  let zR : Int := IntKind.i64.wrap (jR + 1);
  ([.pointer (some ⟨w.heap.size, 0, none⟩), .slice kK pK qK, .slice tK uK vK, .slice yQ zQ bR] : List Value) = ([.pointer (some ⟨w.heap.size, 0, none⟩), .slice kK pK qK, .slice tK uK vK, .slice yQ zQ bR] : List Value) ∧ ∃ m, m < pR ∧ hR zR kR m))) (
  ∃ bS : Int → World → Nat → Prop,
  (∃ n, bS 0 kR n) ∧
  ∀ dS : Env, ∀ gS hS iS, bS gS hS iS →
  sel (decide ((gS : Int) < ((pK : Int) : Int))) (
  (0 : Int) ≤ gS ∧ gS < (pK : Int) ∧
  needPtr kK fun jS kS =>
  ∃ pS,
  hS.cell? ⟨jS, kS + gS.toNat * 19 + 1, none⟩ = some (.int .i64 pS) ∧
  ∃ qS : Bool → Int → World → Nat → Prop,
  (∃ n, qS (decide ((pS : Int) < (0 : Int))) 0 hS n) ∧
  ∀ tS : Env, ∀ uS vS xS yS, qS uS vS xS yS →
  sel (decide ((vS : Int) < ((zQ : Int) : Int))) (
  sel uS (
  let zS : Int := IntKind.i64.wrap (vS + 1);
  ([.pointer (some ⟨w.heap.size, 0, none⟩), .slice kK pK qK, .slice tK uK vK, .slice yQ zQ bR, .int .i64 gS] : List Value) = ([.pointer (some ⟨w.heap.size, 0, none⟩), .slice kK pK qK, .slice tK uK vK, .slice yQ zQ bR, .int .i64 gS] : List Value) ∧ ∃ m, m < yS ∧ qS true zS xS m) (
  (0 : Int) ≤ vS ∧ vS < (zQ : Int) ∧
  needPtr yQ fun bT dT =>
  ∃ gT,
  xS.cell? ⟨bT, dT + vS.toNat * 1, none⟩ = some (.int .i64 gT) ∧
  let hT : Int := IntKind.i64.wrap (vS + 1);
  ([.pointer (some ⟨w.heap.size, 0, none⟩), .slice kK pK qK, .slice tK uK vK, .slice yQ zQ bR, .int .i64 gS] : List Value) = ([.pointer (some ⟨w.heap.size, 0, none⟩), .slice kK pK qK, .slice tK uK vK, .slice yQ zQ bR, .int .i64 gS] : List Value) ∧ ∃ m, m < yS ∧ qS ((gT : Int) == (gS : Int)) hT xS m)) (
  sel (!uS) (
  R (.bool false) xS) (
  let iT : Int := IntKind.i64.wrap (gS + 1);
  ([.pointer (some ⟨w.heap.size, 0, none⟩), .slice kK pK qK, .slice tK uK vK, .slice yQ zQ bR] : List Value) = ([.pointer (some ⟨w.heap.size, 0, none⟩), .slice kK pK qK, .slice tK uK vK, .slice yQ zQ bR] : List Value) ∧ ∃ m, m < iS ∧ bS iT xS m))) (
  ∃ jT kT pT,
  hS.cell? ⟨w.heap.size, 0, none⟩ = some (.slice jT kT pT) ∧
  ∃ qT tT uT,
  hS.cell? ⟨w.heap.size, 1, none⟩ = some (.slice qT tT uT) ∧
  ∃ vT xT yT,
  hS.cell? ⟨w.heap.size, 2, none⟩ = some (.slice vT xT yT) ∧
  ∃ zT bU dU,
  hS.cell? ⟨w.heap.size, 3, none⟩ = some (.slice zT bU dU) ∧
  ∃ gU hU iU,
  hS.cell? ⟨w.heap.size, 4, none⟩ = some (.slice gU hU iU) ∧
  ∃ jU kU pU,
  hS.cell? ⟨w.heap.size, 5, none⟩ = some (.slice jU kU pU) ∧
  ∃ qU tU uU,
  hS.cell? ⟨w.heap.size, 6, none⟩ = some (.slice qU tU uU) ∧
  ∃ vU xU yU,
  hS.cell? ⟨w.heap.size, 7, none⟩ = some (.slice vU xU yU) ∧
  ∃ zU bV dV,
  hS.cell? ⟨w.heap.size, 8, none⟩ = some (.slice zU bV dV) ∧
  ∃ gV hV iV,
  hS.cell? ⟨w.heap.size, 9, none⟩ = some (.slice gV hV iV) ∧
  ∃ jV kV pV,
  hS.cell? ⟨w.heap.size, 10, none⟩ = some (.slice jV kV pV) ∧
  Calls Try.prog 20 #[.agg #[.slice jT kT pT, .slice qT tT uT, .slice vT xT yT, .slice zT bU dU, .slice gU hU iU, .slice jU kU pU, .slice qU tU uU, .slice vU xU yU, .slice zU bV dV, .slice gV hV iV, .slice jV kV pV], .slice kK pK qK, .slice yQ zQ bR] hS fun qV tV =>
  ∃ uV,
  qV = .returned (.bool uV) ∧
  ∃ vV xV yV,
  tV.cell? ⟨w.heap.size, 0, none⟩ = some (.slice vV xV yV) ∧
  ∃ zV bW dW,
  tV.cell? ⟨w.heap.size, 1, none⟩ = some (.slice zV bW dW) ∧
  ∃ gW hW iW,
  tV.cell? ⟨w.heap.size, 2, none⟩ = some (.slice gW hW iW) ∧
  ∃ jW kW pW,
  tV.cell? ⟨w.heap.size, 3, none⟩ = some (.slice jW kW pW) ∧
  ∃ qW tW uW,
  tV.cell? ⟨w.heap.size, 4, none⟩ = some (.slice qW tW uW) ∧
  ∃ vW xW yW,
  tV.cell? ⟨w.heap.size, 5, none⟩ = some (.slice vW xW yW) ∧
  ∃ zW bX dX,
  tV.cell? ⟨w.heap.size, 6, none⟩ = some (.slice zW bX dX) ∧
  ∃ gX hX iX,
  tV.cell? ⟨w.heap.size, 7, none⟩ = some (.slice gX hX iX) ∧
  ∃ jX kX pX,
  tV.cell? ⟨w.heap.size, 8, none⟩ = some (.slice jX kX pX) ∧
  ∃ qX tX uX,
  tV.cell? ⟨w.heap.size, 9, none⟩ = some (.slice qX tX uX) ∧
  ∃ vX xX yX,
  tV.cell? ⟨w.heap.size, 10, none⟩ = some (.slice vX xX yX) ∧
  Calls Try.prog 10 #[.agg #[.slice vV xV yV, .slice zV bW dW, .slice gW hW iW, .slice jW kW pW, .slice qW tW uW, .slice vW xW yW, .slice zW bX dX, .slice gX hX iX, .slice jX kX pX, .slice qX tX uX, .slice vX xX yX]] tV fun zX bY =>
  ∃ dY gY hY iY jY kY pY qY tY uY vY xY yY zY bZ dZ gZ hZ iZ jZ kZ pZ qZ tZ uZ vZ xZ yZ zZ b00 d00 g00 h00,
  zX = .returned (.agg #[.slice dY gY hY, .slice iY jY kY, .slice pY qY tY, .slice uY vY xY, .slice yY zY bZ, .slice dZ gZ hZ, .slice iZ jZ kZ, .slice pZ qZ tZ, .slice uZ vZ xZ, .slice yZ zZ b00, .slice d00 g00 h00]) ∧
  Calls Try.prog 9 #[.slice kK pK qK] bY fun i00 j00 =>
  ∃ k00 p00 q00,
  i00 = .returned (.slice k00 p00 q00) ∧
  Calls Try.prog 16 #[.agg #[.slice dY gY hY, .slice iY jY kY, .slice pY qY tY, .slice uY vY xY, .slice yY zY bZ, .slice dZ gZ hZ, .slice iZ jZ kZ, .slice pZ qZ tZ, .slice uZ vZ xZ, .slice yZ zZ b00, .slice d00 g00 h00], .slice k00 p00 q00, .slice yQ zQ bR] j00 fun t00 u00 =>
  ∃ v00,
  t00 = .returned (.bool v00) ∧
  sel v00 (
  ∃ x00 y00 z00,
  u00.cell? ⟨w.heap.size, 0, none⟩ = some (.slice x00 y00 z00) ∧
  ∃ b01 d01 g01,
  u00.cell? ⟨w.heap.size, 1, none⟩ = some (.slice b01 d01 g01) ∧
  ∃ h01 i01 j01,
  u00.cell? ⟨w.heap.size, 2, none⟩ = some (.slice h01 i01 j01) ∧
  ∃ k01 p01 q01,
  u00.cell? ⟨w.heap.size, 3, none⟩ = some (.slice k01 p01 q01) ∧
  ∃ t01 u01 v01,
  u00.cell? ⟨w.heap.size, 4, none⟩ = some (.slice t01 u01 v01) ∧
  ∃ x01 y01 z01,
  u00.cell? ⟨w.heap.size, 5, none⟩ = some (.slice x01 y01 z01) ∧
  ∃ b02 d02 g02,
  u00.cell? ⟨w.heap.size, 6, none⟩ = some (.slice b02 d02 g02) ∧
  ∃ h02 i02 j02,
  u00.cell? ⟨w.heap.size, 7, none⟩ = some (.slice h02 i02 j02) ∧
  ∃ k02 p02 q02,
  u00.cell? ⟨w.heap.size, 8, none⟩ = some (.slice k02 p02 q02) ∧
  ∃ t02 u02 v02,
  u00.cell? ⟨w.heap.size, 9, none⟩ = some (.slice t02 u02 v02) ∧
  ∃ x02 y02 z02,
  u00.cell? ⟨w.heap.size, 10, none⟩ = some (.slice x02 y02 z02) ∧
  Calls Try.prog 10 #[.agg #[.slice x00 y00 z00, .slice b01 d01 g01, .slice h01 i01 j01, .slice k01 p01 q01, .slice t01 u01 v01, .slice x01 y01 z01, .slice b02 d02 g02, .slice h02 i02 j02, .slice k02 p02 q02, .slice t02 u02 v02, .slice x02 y02 z02]] u00 fun b03 d03 =>
  ∃ g03 h03 i03 j03 k03 p03 q03 t03 u03 v03 x03 y03 z03 b04 d04 g04 h04 i04 j04 k04 p04 q04 t04 u04 v04 x04 y04 z04 b05 d05 g05 h05 i05,
  b03 = .returned (.agg #[.slice g03 h03 i03, .slice j03 k03 p03, .slice q03 t03 u03, .slice v03 x03 y03, .slice z03 b04 d04, .slice g04 h04 i04, .slice j04 k04 p04, .slice q04 t04 u04, .slice v04 x04 y04, .slice z04 b05 d05, .slice g05 h05 i05]) ∧
  Calls Try.prog 9 #[.slice kK pK qK] d03 fun j05 k05 =>
  ∃ p05 q05 t05,
  j05 = .returned (.slice p05 q05 t05) ∧
  Calls Try.prog 16 #[.agg #[.slice g03 h03 i03, .slice j03 k03 p03, .slice q03 t03 u03, .slice v03 x03 y03, .slice z03 b04 d04, .slice g04 h04 i04, .slice j04 k04 p04, .slice q04 t04 u04, .slice v04 x04 y04, .slice z04 b05 d05, .slice g05 h05 i05], .slice p05 q05 t05, .slice tK uK vK] k05 fun u05 v05 =>
  ∃ x05,
  u05 = .returned (.bool x05) ∧
  sel uV (
  sel x05 (
  Calls Try.prog 21 #[.slice tK uK vK, .slice yQ zQ bR] v05 fun y05 z05 =>
  ∃ b06,
  y05 = .returned (.bool b06) ∧
  R (.bool (!b06)) z05) (
  R (.bool false) v05)) (
  R (.bool false) v05)) (
  sel uV (
  R (.bool false) u00) (
  R (.bool false) u00)))))))
theorem f5.eq (Aa0_0 : Option Addr) (na0_0 ca0_0 : Nat) (Aa0_1 : Option Addr) (na0_1 ca0_1 : Nat) (Aa0_2 : Option Addr) (na0_2 ca0_2 : Nat) (Aa0_3 : Option Addr) (na0_3 ca0_3 : Nat) (Aa0_4 : Option Addr) (na0_4 ca0_4 : Nat) (Aa0_5 : Option Addr) (na0_5 ca0_5 : Nat) (Aa0_6 : Option Addr) (na0_6 ca0_6 : Nat) (Aa0_7 : Option Addr) (na0_7 ca0_7 : Nat) (Aa0_8 : Option Addr) (na0_8 ca0_8 : Nat) (Aa0_9 : Option Addr) (na0_9 ca0_9 : Nat) (Aa0_10 : Option Addr) (na0_10 ca0_10 : Nat) (Aa1 : Option Addr) (na1 ca1 : Nat) (Aa2 : Option Addr) (na2 ca2 : Nat) (w : World) (R : Value → World → Prop) : f5.VC Aa0_0 na0_0 ca0_0 Aa0_1 na0_1 ca0_1 Aa0_2 na0_2 ca0_2 Aa0_3 na0_3 ca0_3 Aa0_4 na0_4 ca0_4 Aa0_5 na0_5 ca0_5 Aa0_6 na0_6 ca0_6 Aa0_7 na0_7 ca0_7 Aa0_8 na0_8 ca0_8 Aa0_9 na0_9 ca0_9 Aa0_10 na0_10 ca0_10 Aa1 na1 ca1 Aa2 na2 ca2 w R = funV Try.prog Try.f5 f5.AL f5.AC #[.agg #[.slice Aa0_0 na0_0 ca0_0, .slice Aa0_1 na0_1 ca0_1, .slice Aa0_2 na0_2 ca0_2, .slice Aa0_3 na0_3 ca0_3, .slice Aa0_4 na0_4 ca0_4, .slice Aa0_5 na0_5 ca0_5, .slice Aa0_6 na0_6 ca0_6, .slice Aa0_7 na0_7 ca0_7, .slice Aa0_8 na0_8 ca0_8, .slice Aa0_9 na0_9 ca0_9, .slice Aa0_10 na0_10 ca0_10], .slice Aa1 na1 ca1, .slice Aa2 na2 ca2] w R := by kernel_rfl
theorem f5.calls {Aa0_0 : Option Addr} {na0_0 ca0_0 : Nat} {Aa0_1 : Option Addr} {na0_1 ca0_1 : Nat} {Aa0_2 : Option Addr} {na0_2 ca0_2 : Nat} {Aa0_3 : Option Addr} {na0_3 ca0_3 : Nat} {Aa0_4 : Option Addr} {na0_4 ca0_4 : Nat} {Aa0_5 : Option Addr} {na0_5 ca0_5 : Nat} {Aa0_6 : Option Addr} {na0_6 ca0_6 : Nat} {Aa0_7 : Option Addr} {na0_7 ca0_7 : Nat} {Aa0_8 : Option Addr} {na0_8 ca0_8 : Nat} {Aa0_9 : Option Addr} {na0_9 ca0_9 : Nat} {Aa0_10 : Option Addr} {na0_10 ca0_10 : Nat} {Aa1 : Option Addr} {na1 ca1 : Nat} {Aa2 : Option Addr} {na2 ca2 : Nat} {w : World} {R : Value → World → Prop} (h : f5.VC Aa0_0 na0_0 ca0_0 Aa0_1 na0_1 ca0_1 Aa0_2 na0_2 ca0_2 Aa0_3 na0_3 ca0_3 Aa0_4 na0_4 ca0_4 Aa0_5 na0_5 ca0_5 Aa0_6 na0_6 ca0_6 Aa0_7 na0_7 ca0_7 Aa0_8 na0_8 ca0_8 Aa0_9 na0_9 ca0_9 Aa0_10 na0_10 ca0_10 Aa1 na1 ca1 Aa2 na2 ca2 w R) : Calls Try.prog 5 #[.agg #[.slice Aa0_0 na0_0 ca0_0, .slice Aa0_1 na0_1 ca0_1, .slice Aa0_2 na0_2 ca0_2, .slice Aa0_3 na0_3 ca0_3, .slice Aa0_4 na0_4 ca0_4, .slice Aa0_5 na0_5 ca0_5, .slice Aa0_6 na0_6 ca0_6, .slice Aa0_7 na0_7 ca0_7, .slice Aa0_8 na0_8 ca0_8, .slice Aa0_9 na0_9 ca0_9, .slice Aa0_10 na0_10 ca0_10], .slice Aa1 na1 ca1, .slice Aa2 na2 ca2] w fun e w' => ∃ v, e = .returned v ∧ R v w' :=
  funV_sound (fn := Try.f5) (AL := f5.AL) (AC := f5.AC) W11.mixed (by kernel_rfl) (by rw [← f5.eq Aa0_0 na0_0 ca0_0 Aa0_1 na0_1 ca0_1 Aa0_2 na0_2 ca0_2 Aa0_3 na0_3 ca0_3 Aa0_4 na0_4 ca0_4 Aa0_5 na0_5 ca0_5 Aa0_6 na0_6 ca0_6 Aa0_7 na0_7 ca0_7 Aa0_8 na0_8 ca0_8 Aa0_9 na0_9 ca0_9 Aa0_10 na0_10 ca0_10 Aa1 na1 ca1 Aa2 na2 ca2]; exact h)

end Go.Proofs.Ytddbebhklmaeoaa
