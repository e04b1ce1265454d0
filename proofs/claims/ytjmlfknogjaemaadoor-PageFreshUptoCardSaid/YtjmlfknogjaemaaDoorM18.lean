/- The plain statements of some functions, printed by vcgen.py. -/
import Derived.Test.YtjmlfknogjaemaaDoorM5
import Derived.Test.YtjmlfknogjaemaaDoorProg
import Derived.KernelRfl
set_option maxRecDepth 100000
set_option maxHeartbeats 4000000
set_option linter.unusedVariables false
namespace Go.Proofs.YtjmlfknogjaemaaDoor
open Go Go.Proofs.YtjmlfknogjaemaaDoor.Vc
theorem W12.mixed : Tryd.prog.follows .mixedOrders = true := by kernel_rfl
/-- gatehouse/page.Lay -/
def f9.AL : Nat → Option Ann := fun r => match r with | 17 => some ⟨[(71, .int .i64)], [9, 69, 70]⟩ | 20 => some ⟨[(77, .int .i64)], [9, 69, 70, 71, 75, 76]⟩ | _ => none
def f9.AC : Nat → Option Ann := fun r => match r with | 9 => some ⟨[], [0, 4, 5]⟩ | 10 => some ⟨[(8, .blk)], [0, 4, 5]⟩ | 11 => some ⟨[(9, .blk)], [0, 4, 5, 8]⟩ | 12 => some ⟨[], [4, 5, 8, 9]⟩ | 13 => some ⟨[(10, .fn)], [4, 9]⟩ | 14 => some ⟨[], [4, 9, 10]⟩ | 15 => some ⟨[], [4, 9, 10]⟩ | 16 => some ⟨[], [4, 9]⟩ | _ => none
def f9.VC (xa0 : Int) (Aa1_0 : Option Addr) (na1_0 ca1_0 : Nat) (Aa1_1 : Option Addr) (na1_1 ca1_1 : Nat) (Aa1_2 : Option Addr) (na1_2 ca1_2 : Nat) (Aa1_3 : Option Addr) (na1_3 ca1_3 : Nat) (Aa1_4 : Option Addr) (na1_4 ca1_4 : Nat) (Aa1_5 : Option Addr) (na1_5 ca1_5 : Nat) (a2 : Option Addr) (w : World) (R : Value → World → Prop) : Prop :=
  let b0 := World.alloc w (.cells #[.slice Aa1_0 na1_0 ca1_0, .slice Aa1_1 na1_1 ca1_1, .slice Aa1_2 na1_2 ca1_2, .slice Aa1_3 na1_3 ca1_3, .slice Aa1_4 na1_4 ca1_4, .slice Aa1_5 na1_5 ca1_5] 32);
  let d0 := World.alloc b0 (.cells #[.pointer a2] 23);
  ∃ g0 : World → Prop,
  (∃ h0,
  d0.cell? ⟨b0.heap.size, 0, none⟩ = some (.pointer h0) ∧
  sel (Option.isNone h0) (
  R (.tuple #[.slice none 0 0, .int .i64 2]) d0) (
  sel (decide ((xa0 : Int) < (1 : Int))) (
  R (.tuple #[.slice none 0 0, .int .i64 3]) d0) (
  sel (decide ((2147483647 : Int) < (xa0 : Int))) (
  R (.tuple #[.slice none 0 0, .int .i64 3]) d0) (
  ∃ i0 j0 k0,
  d0.cell? ⟨w.heap.size, 0, none⟩ = some (.slice i0 j0 k0) ∧
  ∃ p0 q0 t0,
  d0.cell? ⟨w.heap.size, 1, none⟩ = some (.slice p0 q0 t0) ∧
  ∃ u0 v0 x0,
  d0.cell? ⟨w.heap.size, 2, none⟩ = some (.slice u0 v0 x0) ∧
  ∃ y0 z0 b1,
  d0.cell? ⟨w.heap.size, 3, none⟩ = some (.slice y0 z0 b1) ∧
  ∃ d1 g1 h1,
  d0.cell? ⟨w.heap.size, 4, none⟩ = some (.slice d1 g1 h1) ∧
  ∃ i1 j1 k1,
  d0.cell? ⟨w.heap.size, 5, none⟩ = some (.slice i1 j1 k1) ∧
  Calls Tryd.prog 24 #[.agg #[.slice i0 j0 k0, .slice p0 q0 t0, .slice u0 v0 x0, .slice y0 z0 b1, .slice d1 g1 h1, .slice i1 j1 k1]] d0 fun p1 q1 =>
  ∃ t1,
  p1 = .returned (.bool t1) ∧
  sel (!t1) (
  R (.tuple #[.slice none 0 0, .int .i64 120]) q1) (
  ∃ u1 v1 x1,
  q1.cell? ⟨w.heap.size, 0, none⟩ = some (.slice u1 v1 x1) ∧
  ∃ y1 z1 b2,
  q1.cell? ⟨w.heap.size, 1, none⟩ = some (.slice y1 z1 b2) ∧
  ∃ d2 g2 h2,
  q1.cell? ⟨w.heap.size, 2, none⟩ = some (.slice d2 g2 h2) ∧
  ∃ i2 j2 k2,
  q1.cell? ⟨w.heap.size, 3, none⟩ = some (.slice i2 j2 k2) ∧
  ∃ p2 q2 t2,
  q1.cell? ⟨w.heap.size, 4, none⟩ = some (.slice p2 q2 t2) ∧
  ∃ u2 v2 x2,
  q1.cell? ⟨w.heap.size, 5, none⟩ = some (.slice u2 v2 x2) ∧
  ∃ y2,
  q1.cell? ⟨b0.heap.size, 0, none⟩ = some (.pointer y2) ∧
  Calls Tryd.prog 25 #[.agg #[.slice u1 v1 x1, .slice y1 z1 b2, .slice d2 g2 h2, .slice i2 j2 k2, .slice p2 q2 t2, .slice u2 v2 x2], .pointer y2] q1 fun z2 b3 =>
  ∃ d3,
  z2 = .returned (.bool d3) ∧
  sel (!d3) (
  R (.tuple #[.slice none 0 0, .int .i64 4]) b3) (
  ([.int .i64 xa0, .pointer (some ⟨w.heap.size, 0, none⟩), .pointer (some ⟨b0.heap.size, 0, none⟩)] : List Value) = ([.int .i64 xa0, .pointer (some ⟨w.heap.size, 0, none⟩), .pointer (some ⟨b0.heap.size, 0, none⟩)] : List Value) ∧ g0 b3)))))) ∧
  ∀ g3 : Env, ∀ h3, g0 h3 →
  ∃ i3 : Nat → Nat → World → Prop,
  (∃ j3 k3 p3,
  h3.cell? ⟨w.heap.size, 0, none⟩ = some (.slice j3 k3 p3) ∧
  ∃ q3 t3 u3,
  h3.cell? ⟨w.heap.size, 1, none⟩ = some (.slice q3 t3 u3) ∧
  ∃ v3 x3 y3,
  h3.cell? ⟨w.heap.size, 2, none⟩ = some (.slice v3 x3 y3) ∧
  ∃ z3 b4 d4,
  h3.cell? ⟨w.heap.size, 3, none⟩ = some (.slice z3 b4 d4) ∧
  ∃ g4 h4 i4,
  h3.cell? ⟨w.heap.size, 4, none⟩ = some (.slice g4 h4 i4) ∧
  ∃ j4 k4 p4,
  h3.cell? ⟨w.heap.size, 5, none⟩ = some (.slice j4 k4 p4) ∧
  Calls Tryd.prog 26 #[.agg #[.slice j3 k3 p3, .slice q3 t3 u3, .slice v3 x3 y3, .slice z3 b4 d4, .slice g4 h4 i4, .slice j4 k4 p4]] h3 fun q4 t4 =>
  ∃ u4,
  q4 = .returned (.int .i64 u4) ∧
  let v4 := World.alloc t4 (.cells #[.int .i64 0] 3);
  canStore v4 t4.heap.size 0 1 ∧
  let x4 := setCs v4 t4.heap.size 0 [.int .i64 u4];
  ([.int .i64 xa0, .pointer (some ⟨w.heap.size, 0, none⟩), .pointer (some ⟨b0.heap.size, 0, none⟩)] : List Value) = ([.int .i64 xa0, .pointer (some ⟨w.heap.size, 0, none⟩), .pointer (some ⟨b0.heap.size, 0, none⟩)] : List Value) ∧ i3 t4.heap.size 0 x4) ∧
  ∀ y4 : Env, ∀ z4 b5 d5, i3 z4 b5 d5 →
  ∃ g5 : Nat → Nat → World → Prop,
  (∃ h5 i5 j5,
  d5.cell? ⟨w.heap.size, 0, none⟩ = some (.slice h5 i5 j5) ∧
  ∃ k5 p5 q5,
  d5.cell? ⟨w.heap.size, 1, none⟩ = some (.slice k5 p5 q5) ∧
  ∃ t5 u5 v5,
  d5.cell? ⟨w.heap.size, 2, none⟩ = some (.slice t5 u5 v5) ∧
  ∃ x5 y5 z5,
  d5.cell? ⟨w.heap.size, 3, none⟩ = some (.slice x5 y5 z5) ∧
  ∃ b6 d6 g6,
  d5.cell? ⟨w.heap.size, 4, none⟩ = some (.slice b6 d6 g6) ∧
  ∃ h6 i6 j6,
  d5.cell? ⟨w.heap.size, 5, none⟩ = some (.slice h6 i6 j6) ∧
  (∃ k6,
  d5.cell? ⟨z4, b5, none⟩ = some (.int .i64 k6) ∧
  let p6 : Int := IntKind.i64.wrap (2 * k6);
  let q6 : Int := IntKind.i64.wrap (4 + p6);
  (Calls Tryd.prog 19 #[.agg #[.slice h5 i5 j5, .slice k5 p5 q5, .slice t5 u5 v5, .slice x5 y5 z5, .slice b6 d6 g6, .slice h6 i6 j6]] d5.drew fun t6 u6 =>
  ∃ v6,
  t6 = .returned (.int .i64 v6) ∧
  (∃ x6 y6 z6,
  ∃ b7, (Instr.makeSlice 28 (.int .i64 q6) (.int .i64 v6)).run Tryd.prog u6 = .ok (.slice x6 y6 z6) b7 ∧
  let d7 := World.alloc b7 (.cells #[.slice none 0 0] 28);
  canStore d7 b7.heap.size 0 1 ∧
  let g7 := setCs d7 b7.heap.size 0 [.slice x6 y6 z6];
  ([.int .i64 xa0, .pointer (some ⟨w.heap.size, 0, none⟩), .pointer (some ⟨b0.heap.size, 0, none⟩), .pointer (some ⟨z4, b5, none⟩)] : List Value) = ([.int .i64 xa0, .pointer (some ⟨w.heap.size, 0, none⟩), .pointer (some ⟨b0.heap.size, 0, none⟩), .pointer (some ⟨z4, b5, none⟩)] : List Value) ∧ g5 b7.heap.size 0 g7) ∧
  (let h7 := World.alloc u6 (.cells #[.slice none 0 0] 28);
  ∃ i7 j7 k7,
  ∃ p7, (Instr.makeSlice 28 (.int .i64 q6) (.int .i64 v6)).run Tryd.prog h7 = .ok (.slice i7 j7 k7) p7 ∧
  canStore p7 u6.heap.size 0 1 ∧
  let q7 := setCs p7 u6.heap.size 0 [.slice i7 j7 k7];
  ([.int .i64 xa0, .pointer (some ⟨w.heap.size, 0, none⟩), .pointer (some ⟨b0.heap.size, 0, none⟩), .pointer (some ⟨z4, b5, none⟩)] : List Value) = ([.int .i64 xa0, .pointer (some ⟨w.heap.size, 0, none⟩), .pointer (some ⟨b0.heap.size, 0, none⟩), .pointer (some ⟨z4, b5, none⟩)] : List Value) ∧ g5 u6.heap.size 0 q7) ∧ True) ∧
  (let t7 := World.alloc d5.drew (.cells #[.slice none 0 0] 28);
  Calls Tryd.prog 19 #[.agg #[.slice h5 i5 j5, .slice k5 p5 q5, .slice t5 u5 v5, .slice x5 y5 z5, .slice b6 d6 g6, .slice h6 i6 j6]] t7 fun u7 v7 =>
  ∃ x7,
  u7 = .returned (.int .i64 x7) ∧
  ∃ y7 z7 b8,
  ∃ d8, (Instr.makeSlice 28 (.int .i64 q6) (.int .i64 x7)).run Tryd.prog v7 = .ok (.slice y7 z7 b8) d8 ∧
  canStore d8 d5.heap.size 0 1 ∧
  let g8 := setCs d8 d5.heap.size 0 [.slice y7 z7 b8];
  ([.int .i64 xa0, .pointer (some ⟨w.heap.size, 0, none⟩), .pointer (some ⟨b0.heap.size, 0, none⟩), .pointer (some ⟨z4, b5, none⟩)] : List Value) = ([.int .i64 xa0, .pointer (some ⟨w.heap.size, 0, none⟩), .pointer (some ⟨b0.heap.size, 0, none⟩), .pointer (some ⟨z4, b5, none⟩)] : List Value) ∧ g5 d5.heap.size 0 g8) ∧ True) ∧
  (Calls Tryd.prog 19 #[.agg #[.slice h5 i5 j5, .slice k5 p5 q5, .slice t5 u5 v5, .slice x5 y5 z5, .slice b6 d6 g6, .slice h6 i6 j6]] d5.drew fun h8 i8 =>
  ∃ j8,
  h8 = .returned (.int .i64 j8) ∧
  ∃ k8,
  i8.cell? ⟨z4, b5, none⟩ = some (.int .i64 k8) ∧
  let p8 : Int := IntKind.i64.wrap (2 * k8);
  let q8 : Int := IntKind.i64.wrap (4 + p8);
  (∃ t8 u8 v8,
  ∃ x8, (Instr.makeSlice 28 (.int .i64 q8) (.int .i64 j8)).run Tryd.prog i8 = .ok (.slice t8 u8 v8) x8 ∧
  let y8 := World.alloc x8 (.cells #[.slice none 0 0] 28);
  canStore y8 x8.heap.size 0 1 ∧
  let z8 := setCs y8 x8.heap.size 0 [.slice t8 u8 v8];
  ([.int .i64 xa0, .pointer (some ⟨w.heap.size, 0, none⟩), .pointer (some ⟨b0.heap.size, 0, none⟩), .pointer (some ⟨z4, b5, none⟩)] : List Value) = ([.int .i64 xa0, .pointer (some ⟨w.heap.size, 0, none⟩), .pointer (some ⟨b0.heap.size, 0, none⟩), .pointer (some ⟨z4, b5, none⟩)] : List Value) ∧ g5 x8.heap.size 0 z8) ∧
  (let b9 := World.alloc i8 (.cells #[.slice none 0 0] 28);
  ∃ d9 g9 h9,
  ∃ i9, (Instr.makeSlice 28 (.int .i64 q8) (.int .i64 j8)).run Tryd.prog b9 = .ok (.slice d9 g9 h9) i9 ∧
  canStore i9 i8.heap.size 0 1 ∧
  let j9 := setCs i9 i8.heap.size 0 [.slice d9 g9 h9];
  ([.int .i64 xa0, .pointer (some ⟨w.heap.size, 0, none⟩), .pointer (some ⟨b0.heap.size, 0, none⟩), .pointer (some ⟨z4, b5, none⟩)] : List Value) = ([.int .i64 xa0, .pointer (some ⟨w.heap.size, 0, none⟩), .pointer (some ⟨b0.heap.size, 0, none⟩), .pointer (some ⟨z4, b5, none⟩)] : List Value) ∧ g5 i8.heap.size 0 j9) ∧ True) ∧
  (let k9 := World.alloc d5.drew (.cells #[.slice none 0 0] 28);
  (∃ p9,
  k9.cell? ⟨z4, b5, none⟩ = some (.int .i64 p9) ∧
  let q9 : Int := IntKind.i64.wrap (2 * p9);
  let t9 : Int := IntKind.i64.wrap (4 + q9);
  Calls Tryd.prog 19 #[.agg #[.slice h5 i5 j5, .slice k5 p5 q5, .slice t5 u5 v5, .slice x5 y5 z5, .slice b6 d6 g6, .slice h6 i6 j6]] k9 fun u9 v9 =>
  ∃ x9,
  u9 = .returned (.int .i64 x9) ∧
  ∃ y9 z9 bA,
  ∃ dA, (Instr.makeSlice 28 (.int .i64 t9) (.int .i64 x9)).run Tryd.prog v9 = .ok (.slice y9 z9 bA) dA ∧
  canStore dA d5.heap.size 0 1 ∧
  let gA := setCs dA d5.heap.size 0 [.slice y9 z9 bA];
  ([.int .i64 xa0, .pointer (some ⟨w.heap.size, 0, none⟩), .pointer (some ⟨b0.heap.size, 0, none⟩), .pointer (some ⟨z4, b5, none⟩)] : List Value) = ([.int .i64 xa0, .pointer (some ⟨w.heap.size, 0, none⟩), .pointer (some ⟨b0.heap.size, 0, none⟩), .pointer (some ⟨z4, b5, none⟩)] : List Value) ∧ g5 d5.heap.size 0 gA) ∧
  (Calls Tryd.prog 19 #[.agg #[.slice h5 i5 j5, .slice k5 p5 q5, .slice t5 u5 v5, .slice x5 y5 z5, .slice b6 d6 g6, .slice h6 i6 j6]] k9 fun hA iA =>
  ∃ jA,
  hA = .returned (.int .i64 jA) ∧
  ∃ kA,
  iA.cell? ⟨z4, b5, none⟩ = some (.int .i64 kA) ∧
  let pA : Int := IntKind.i64.wrap (2 * kA);
  let qA : Int := IntKind.i64.wrap (4 + pA);
  ∃ tA uA vA,
  ∃ xA, (Instr.makeSlice 28 (.int .i64 qA) (.int .i64 jA)).run Tryd.prog iA = .ok (.slice tA uA vA) xA ∧
  canStore xA d5.heap.size 0 1 ∧
  let yA := setCs xA d5.heap.size 0 [.slice tA uA vA];
  ([.int .i64 xa0, .pointer (some ⟨w.heap.size, 0, none⟩), .pointer (some ⟨b0.heap.size, 0, none⟩), .pointer (some ⟨z4, b5, none⟩)] : List Value) = ([.int .i64 xa0, .pointer (some ⟨w.heap.size, 0, none⟩), .pointer (some ⟨b0.heap.size, 0, none⟩), .pointer (some ⟨z4, b5, none⟩)] : List Value) ∧ g5 d5.heap.size 0 yA) ∧ True) ∧ True) ∧
  ∀ zA : Env, ∀ bB dB gB, g5 bB dB gB →
  ∃ hB : World → Prop,
  (∃ iB jB kB,
  gB.cell? ⟨w.heap.size, 3, none⟩ = some (.slice iB jB kB) ∧
  (∃ pB qB tB,
  gB.cell? ⟨bB, dB, none⟩ = some (.slice pB qB tB) ∧
  (∃ uB,
  gB.cell? ⟨z4, b5, none⟩ = some (.int .i64 uB) ∧
  (Calls Tryd.prog 27 #[.slice iB jB kB] gB.drew fun vB xB =>
  ∃ yB,
  vB = .returned (.int .i64 yB) ∧
  ∃ zB bC dC,
  xB.cell? ⟨w.heap.size, 4, none⟩ = some (.slice zB bC dC) ∧
  Calls Tryd.prog 27 #[.slice zB bC dC] xB fun gC hC =>
  ∃ iC,
  gC = .returned (.int .i64 iC) ∧
  let jC := World.alloc hC (.cells #[.int .i64 xa0, .int .i64 uB, .int .i64 yB, .int .i64 iC] 3);
  ∃ kC,
  ∃ pC, (Builtin.copy_ #[28, 28] 3 #[.slice pB qB tB, .slice (some ⟨hC.heap.size, 0, none⟩) 4 4]).run Tryd.prog jC = .ok (.int .i64 kC) pC ∧
  ([.pointer (some ⟨w.heap.size, 0, none⟩), .pointer (some ⟨b0.heap.size, 0, none⟩), .pointer (some ⟨z4, b5, none⟩), .pointer (some ⟨bB, dB, none⟩)] : List Value) = ([.pointer (some ⟨w.heap.size, 0, none⟩), .pointer (some ⟨b0.heap.size, 0, none⟩), .pointer (some ⟨z4, b5, none⟩), .pointer (some ⟨bB, dB, none⟩)] : List Value) ∧ hB pC) ∧
  (∃ qC tC uC,
  gB.cell? ⟨w.heap.size, 4, none⟩ = some (.slice qC tC uC) ∧
  Calls Tryd.prog 27 #[.slice iB jB kB] gB.drew fun vC xC =>
  ∃ yC,
  vC = .returned (.int .i64 yC) ∧
  Calls Tryd.prog 27 #[.slice qC tC uC] xC fun zC bD =>
  ∃ dD,
  zC = .returned (.int .i64 dD) ∧
  let gD := World.alloc bD (.cells #[.int .i64 xa0, .int .i64 uB, .int .i64 yC, .int .i64 dD] 3);
  ∃ hD,
  ∃ iD, (Builtin.copy_ #[28, 28] 3 #[.slice pB qB tB, .slice (some ⟨bD.heap.size, 0, none⟩) 4 4]).run Tryd.prog gD = .ok (.int .i64 hD) iD ∧
  ([.pointer (some ⟨w.heap.size, 0, none⟩), .pointer (some ⟨b0.heap.size, 0, none⟩), .pointer (some ⟨z4, b5, none⟩), .pointer (some ⟨bB, dB, none⟩)] : List Value) = ([.pointer (some ⟨w.heap.size, 0, none⟩), .pointer (some ⟨b0.heap.size, 0, none⟩), .pointer (some ⟨z4, b5, none⟩), .pointer (some ⟨bB, dB, none⟩)] : List Value) ∧ hB iD) ∧ True) ∧
  (Calls Tryd.prog 27 #[.slice iB jB kB] gB.drew fun jD kD =>
  ∃ pD,
  jD = .returned (.int .i64 pD) ∧
  ∃ qD tD uD,
  kD.cell? ⟨w.heap.size, 4, none⟩ = some (.slice qD tD uD) ∧
  (∃ vD,
  kD.cell? ⟨z4, b5, none⟩ = some (.int .i64 vD) ∧
  Calls Tryd.prog 27 #[.slice qD tD uD] kD fun xD yD =>
  ∃ zD,
  xD = .returned (.int .i64 zD) ∧
  let bE := World.alloc yD (.cells #[.int .i64 xa0, .int .i64 vD, .int .i64 pD, .int .i64 zD] 3);
  ∃ dE,
  ∃ gE, (Builtin.copy_ #[28, 28] 3 #[.slice pB qB tB, .slice (some ⟨yD.heap.size, 0, none⟩) 4 4]).run Tryd.prog bE = .ok (.int .i64 dE) gE ∧
  ([.pointer (some ⟨w.heap.size, 0, none⟩), .pointer (some ⟨b0.heap.size, 0, none⟩), .pointer (some ⟨z4, b5, none⟩), .pointer (some ⟨bB, dB, none⟩)] : List Value) = ([.pointer (some ⟨w.heap.size, 0, none⟩), .pointer (some ⟨b0.heap.size, 0, none⟩), .pointer (some ⟨z4, b5, none⟩), .pointer (some ⟨bB, dB, none⟩)] : List Value) ∧ hB gE) ∧
  (Calls Tryd.prog 27 #[.slice qD tD uD] kD fun hE iE =>
  ∃ jE,
  hE = .returned (.int .i64 jE) ∧
  ∃ kE,
  iE.cell? ⟨z4, b5, none⟩ = some (.int .i64 kE) ∧
  let pE := World.alloc iE (.cells #[.int .i64 xa0, .int .i64 kE, .int .i64 pD, .int .i64 jE] 3);
  ∃ qE,
  ∃ tE, (Builtin.copy_ #[28, 28] 3 #[.slice pB qB tB, .slice (some ⟨iE.heap.size, 0, none⟩) 4 4]).run Tryd.prog pE = .ok (.int .i64 qE) tE ∧
  ([.pointer (some ⟨w.heap.size, 0, none⟩), .pointer (some ⟨b0.heap.size, 0, none⟩), .pointer (some ⟨z4, b5, none⟩), .pointer (some ⟨bB, dB, none⟩)] : List Value) = ([.pointer (some ⟨w.heap.size, 0, none⟩), .pointer (some ⟨b0.heap.size, 0, none⟩), .pointer (some ⟨z4, b5, none⟩), .pointer (some ⟨bB, dB, none⟩)] : List Value) ∧ hB tE) ∧ True) ∧
  (∃ uE vE xE,
  gB.cell? ⟨w.heap.size, 4, none⟩ = some (.slice uE vE xE) ∧
  (∃ yE,
  gB.cell? ⟨z4, b5, none⟩ = some (.int .i64 yE) ∧
  Calls Tryd.prog 27 #[.slice iB jB kB] gB.drew fun zE bF =>
  ∃ dF,
  zE = .returned (.int .i64 dF) ∧
  Calls Tryd.prog 27 #[.slice uE vE xE] bF fun gF hF =>
  ∃ iF,
  gF = .returned (.int .i64 iF) ∧
  let jF := World.alloc hF (.cells #[.int .i64 xa0, .int .i64 yE, .int .i64 dF, .int .i64 iF] 3);
  ∃ kF,
  ∃ pF, (Builtin.copy_ #[28, 28] 3 #[.slice pB qB tB, .slice (some ⟨hF.heap.size, 0, none⟩) 4 4]).run Tryd.prog jF = .ok (.int .i64 kF) pF ∧
  ([.pointer (some ⟨w.heap.size, 0, none⟩), .pointer (some ⟨b0.heap.size, 0, none⟩), .pointer (some ⟨z4, b5, none⟩), .pointer (some ⟨bB, dB, none⟩)] : List Value) = ([.pointer (some ⟨w.heap.size, 0, none⟩), .pointer (some ⟨b0.heap.size, 0, none⟩), .pointer (some ⟨z4, b5, none⟩), .pointer (some ⟨bB, dB, none⟩)] : List Value) ∧ hB pF) ∧
  (Calls Tryd.prog 27 #[.slice iB jB kB] gB.drew fun qF tF =>
  ∃ uF,
  qF = .returned (.int .i64 uF) ∧
  (∃ vF,
  tF.cell? ⟨z4, b5, none⟩ = some (.int .i64 vF) ∧
  Calls Tryd.prog 27 #[.slice uE vE xE] tF fun xF yF =>
  ∃ zF,
  xF = .returned (.int .i64 zF) ∧
  let bG := World.alloc yF (.cells #[.int .i64 xa0, .int .i64 vF, .int .i64 uF, .int .i64 zF] 3);
  ∃ dG,
  ∃ gG, (Builtin.copy_ #[28, 28] 3 #[.slice pB qB tB, .slice (some ⟨yF.heap.size, 0, none⟩) 4 4]).run Tryd.prog bG = .ok (.int .i64 dG) gG ∧
  ([.pointer (some ⟨w.heap.size, 0, none⟩), .pointer (some ⟨b0.heap.size, 0, none⟩), .pointer (some ⟨z4, b5, none⟩), .pointer (some ⟨bB, dB, none⟩)] : List Value) = ([.pointer (some ⟨w.heap.size, 0, none⟩), .pointer (some ⟨b0.heap.size, 0, none⟩), .pointer (some ⟨z4, b5, none⟩), .pointer (some ⟨bB, dB, none⟩)] : List Value) ∧ hB gG) ∧
  (Calls Tryd.prog 27 #[.slice uE vE xE] tF fun hG iG =>
  ∃ jG,
  hG = .returned (.int .i64 jG) ∧
  ∃ kG,
  iG.cell? ⟨z4, b5, none⟩ = some (.int .i64 kG) ∧
  let pG := World.alloc iG (.cells #[.int .i64 xa0, .int .i64 kG, .int .i64 uF, .int .i64 jG] 3);
  ∃ qG,
  ∃ tG, (Builtin.copy_ #[28, 28] 3 #[.slice pB qB tB, .slice (some ⟨iG.heap.size, 0, none⟩) 4 4]).run Tryd.prog pG = .ok (.int .i64 qG) tG ∧
  ([.pointer (some ⟨w.heap.size, 0, none⟩), .pointer (some ⟨b0.heap.size, 0, none⟩), .pointer (some ⟨z4, b5, none⟩), .pointer (some ⟨bB, dB, none⟩)] : List Value) = ([.pointer (some ⟨w.heap.size, 0, none⟩), .pointer (some ⟨b0.heap.size, 0, none⟩), .pointer (some ⟨z4, b5, none⟩), .pointer (some ⟨bB, dB, none⟩)] : List Value) ∧ hB tG) ∧ True) ∧ True) ∧ True) ∧
  (∃ uG,
  gB.cell? ⟨z4, b5, none⟩ = some (.int .i64 uG) ∧
  (∃ vG xG yG,
  gB.cell? ⟨bB, dB, none⟩ = some (.slice vG xG yG) ∧
  (Calls Tryd.prog 27 #[.slice iB jB kB] gB.drew fun zG bH =>
  ∃ dH,
  zG = .returned (.int .i64 dH) ∧
  ∃ gH hH iH,
  bH.cell? ⟨w.heap.size, 4, none⟩ = some (.slice gH hH iH) ∧
  Calls Tryd.prog 27 #[.slice gH hH iH] bH fun jH kH =>
  ∃ pH,
  jH = .returned (.int .i64 pH) ∧
  let qH := World.alloc kH (.cells #[.int .i64 xa0, .int .i64 uG, .int .i64 dH, .int .i64 pH] 3);
  ∃ tH,
  ∃ uH, (Builtin.copy_ #[28, 28] 3 #[.slice vG xG yG, .slice (some ⟨kH.heap.size, 0, none⟩) 4 4]).run Tryd.prog qH = .ok (.int .i64 tH) uH ∧
  ([.pointer (some ⟨w.heap.size, 0, none⟩), .pointer (some ⟨b0.heap.size, 0, none⟩), .pointer (some ⟨z4, b5, none⟩), .pointer (some ⟨bB, dB, none⟩)] : List Value) = ([.pointer (some ⟨w.heap.size, 0, none⟩), .pointer (some ⟨b0.heap.size, 0, none⟩), .pointer (some ⟨z4, b5, none⟩), .pointer (some ⟨bB, dB, none⟩)] : List Value) ∧ hB uH) ∧
  (∃ vH xH yH,
  gB.cell? ⟨w.heap.size, 4, none⟩ = some (.slice vH xH yH) ∧
  Calls Tryd.prog 27 #[.slice iB jB kB] gB.drew fun zH bI =>
  ∃ dI,
  zH = .returned (.int .i64 dI) ∧
  Calls Tryd.prog 27 #[.slice vH xH yH] bI fun gI hI =>
  ∃ iI,
  gI = .returned (.int .i64 iI) ∧
  let jI := World.alloc hI (.cells #[.int .i64 xa0, .int .i64 uG, .int .i64 dI, .int .i64 iI] 3);
  ∃ kI,
  ∃ pI, (Builtin.copy_ #[28, 28] 3 #[.slice vG xG yG, .slice (some ⟨hI.heap.size, 0, none⟩) 4 4]).run Tryd.prog jI = .ok (.int .i64 kI) pI ∧
  ([.pointer (some ⟨w.heap.size, 0, none⟩), .pointer (some ⟨b0.heap.size, 0, none⟩), .pointer (some ⟨z4, b5, none⟩), .pointer (some ⟨bB, dB, none⟩)] : List Value) = ([.pointer (some ⟨w.heap.size, 0, none⟩), .pointer (some ⟨b0.heap.size, 0, none⟩), .pointer (some ⟨z4, b5, none⟩), .pointer (some ⟨bB, dB, none⟩)] : List Value) ∧ hB pI) ∧ True) ∧
  (Calls Tryd.prog 27 #[.slice iB jB kB] gB.drew fun qI tI =>
  ∃ uI,
  qI = .returned (.int .i64 uI) ∧
  ∃ vI xI yI,
  tI.cell? ⟨w.heap.size, 4, none⟩ = some (.slice vI xI yI) ∧
  (∃ zI bJ dJ,
  tI.cell? ⟨bB, dB, none⟩ = some (.slice zI bJ dJ) ∧
  Calls Tryd.prog 27 #[.slice vI xI yI] tI fun gJ hJ =>
  ∃ iJ,
  gJ = .returned (.int .i64 iJ) ∧
  let jJ := World.alloc hJ (.cells #[.int .i64 xa0, .int .i64 uG, .int .i64 uI, .int .i64 iJ] 3);
  ∃ kJ,
  ∃ pJ, (Builtin.copy_ #[28, 28] 3 #[.slice zI bJ dJ, .slice (some ⟨hJ.heap.size, 0, none⟩) 4 4]).run Tryd.prog jJ = .ok (.int .i64 kJ) pJ ∧
  ([.pointer (some ⟨w.heap.size, 0, none⟩), .pointer (some ⟨b0.heap.size, 0, none⟩), .pointer (some ⟨z4, b5, none⟩), .pointer (some ⟨bB, dB, none⟩)] : List Value) = ([.pointer (some ⟨w.heap.size, 0, none⟩), .pointer (some ⟨b0.heap.size, 0, none⟩), .pointer (some ⟨z4, b5, none⟩), .pointer (some ⟨bB, dB, none⟩)] : List Value) ∧ hB pJ) ∧
  (Calls Tryd.prog 27 #[.slice vI xI yI] tI fun qJ tJ =>
  ∃ uJ,
  qJ = .returned (.int .i64 uJ) ∧
  ∃ vJ xJ yJ,
  tJ.cell? ⟨bB, dB, none⟩ = some (.slice vJ xJ yJ) ∧
  let zJ := World.alloc tJ (.cells #[.int .i64 xa0, .int .i64 uG, .int .i64 uI, .int .i64 uJ] 3);
  ∃ bK,
  ∃ dK, (Builtin.copy_ #[28, 28] 3 #[.slice vJ xJ yJ, .slice (some ⟨tJ.heap.size, 0, none⟩) 4 4]).run Tryd.prog zJ = .ok (.int .i64 bK) dK ∧
  ([.pointer (some ⟨w.heap.size, 0, none⟩), .pointer (some ⟨b0.heap.size, 0, none⟩), .pointer (some ⟨z4, b5, none⟩), .pointer (some ⟨bB, dB, none⟩)] : List Value) = ([.pointer (some ⟨w.heap.size, 0, none⟩), .pointer (some ⟨b0.heap.size, 0, none⟩), .pointer (some ⟨z4, b5, none⟩), .pointer (some ⟨bB, dB, none⟩)] : List Value) ∧ hB dK) ∧ True) ∧
  (∃ gK hK iK,
  gB.cell? ⟨w.heap.size, 4, none⟩ = some (.slice gK hK iK) ∧
  (∃ jK kK pK,
  gB.cell? ⟨bB, dB, none⟩ = some (.slice jK kK pK) ∧
  Calls Tryd.prog 27 #[.slice iB jB kB] gB.drew fun qK tK =>
  ∃ uK,
  qK = .returned (.int .i64 uK) ∧
  Calls Tryd.prog 27 #[.slice gK hK iK] tK fun vK xK =>
  ∃ yK,
  vK = .returned (.int .i64 yK) ∧
  let zK := World.alloc xK (.cells #[.int .i64 xa0, .int .i64 uG, .int .i64 uK, .int .i64 yK] 3);
  ∃ bL,
  ∃ dL, (Builtin.copy_ #[28, 28] 3 #[.slice jK kK pK, .slice (some ⟨xK.heap.size, 0, none⟩) 4 4]).run Tryd.prog zK = .ok (.int .i64 bL) dL ∧
  ([.pointer (some ⟨w.heap.size, 0, none⟩), .pointer (some ⟨b0.heap.size, 0, none⟩), .pointer (some ⟨z4, b5, none⟩), .pointer (some ⟨bB, dB, none⟩)] : List Value) = ([.pointer (some ⟨w.heap.size, 0, none⟩), .pointer (some ⟨b0.heap.size, 0, none⟩), .pointer (some ⟨z4, b5, none⟩), .pointer (some ⟨bB, dB, none⟩)] : List Value) ∧ hB dL) ∧
  (Calls Tryd.prog 27 #[.slice iB jB kB] gB.drew fun gL hL =>
  ∃ iL,
  gL = .returned (.int .i64 iL) ∧
  (∃ jL kL pL,
  hL.cell? ⟨bB, dB, none⟩ = some (.slice jL kL pL) ∧
  Calls Tryd.prog 27 #[.slice gK hK iK] hL fun qL tL =>
  ∃ uL,
  qL = .returned (.int .i64 uL) ∧
  let vL := World.alloc tL (.cells #[.int .i64 xa0, .int .i64 uG, .int .i64 iL, .int .i64 uL] 3);
  ∃ xL,
  ∃ yL, (Builtin.copy_ #[28, 28] 3 #[.slice jL kL pL, .slice (some ⟨tL.heap.size, 0, none⟩) 4 4]).run Tryd.prog vL = .ok (.int .i64 xL) yL ∧
  ([.pointer (some ⟨w.heap.size, 0, none⟩), .pointer (some ⟨b0.heap.size, 0, none⟩), .pointer (some ⟨z4, b5, none⟩), .pointer (some ⟨bB, dB, none⟩)] : List Value) = ([.pointer (some ⟨w.heap.size, 0, none⟩), .pointer (some ⟨b0.heap.size, 0, none⟩), .pointer (some ⟨z4, b5, none⟩), .pointer (some ⟨bB, dB, none⟩)] : List Value) ∧ hB yL) ∧
  (Calls Tryd.prog 27 #[.slice gK hK iK] hL fun zL bM =>
  ∃ dM,
  zL = .returned (.int .i64 dM) ∧
  ∃ gM hM iM,
  bM.cell? ⟨bB, dB, none⟩ = some (.slice gM hM iM) ∧
  let jM := World.alloc bM (.cells #[.int .i64 xa0, .int .i64 uG, .int .i64 iL, .int .i64 dM] 3);
  ∃ kM,
  ∃ pM, (Builtin.copy_ #[28, 28] 3 #[.slice gM hM iM, .slice (some ⟨bM.heap.size, 0, none⟩) 4 4]).run Tryd.prog jM = .ok (.int .i64 kM) pM ∧
  ([.pointer (some ⟨w.heap.size, 0, none⟩), .pointer (some ⟨b0.heap.size, 0, none⟩), .pointer (some ⟨z4, b5, none⟩), .pointer (some ⟨bB, dB, none⟩)] : List Value) = ([.pointer (some ⟨w.heap.size, 0, none⟩), .pointer (some ⟨b0.heap.size, 0, none⟩), .pointer (some ⟨z4, b5, none⟩), .pointer (some ⟨bB, dB, none⟩)] : List Value) ∧ hB pM) ∧ True) ∧ True) ∧ True) ∧
  (Calls Tryd.prog 27 #[.slice iB jB kB] gB.drew fun qM tM =>
  ∃ uM,
  qM = .returned (.int .i64 uM) ∧
  ∃ vM xM yM,
  tM.cell? ⟨w.heap.size, 4, none⟩ = some (.slice vM xM yM) ∧
  (∃ zM bN dN,
  tM.cell? ⟨bB, dB, none⟩ = some (.slice zM bN dN) ∧
  (∃ gN,
  tM.cell? ⟨z4, b5, none⟩ = some (.int .i64 gN) ∧
  Calls Tryd.prog 27 #[.slice vM xM yM] tM fun hN iN =>
  ∃ jN,
  hN = .returned (.int .i64 jN) ∧
  let kN := World.alloc iN (.cells #[.int .i64 xa0, .int .i64 gN, .int .i64 uM, .int .i64 jN] 3);
  ∃ pN,
  ∃ qN, (Builtin.copy_ #[28, 28] 3 #[.slice zM bN dN, .slice (some ⟨iN.heap.size, 0, none⟩) 4 4]).run Tryd.prog kN = .ok (.int .i64 pN) qN ∧
  ([.pointer (some ⟨w.heap.size, 0, none⟩), .pointer (some ⟨b0.heap.size, 0, none⟩), .pointer (some ⟨z4, b5, none⟩), .pointer (some ⟨bB, dB, none⟩)] : List Value) = ([.pointer (some ⟨w.heap.size, 0, none⟩), .pointer (some ⟨b0.heap.size, 0, none⟩), .pointer (some ⟨z4, b5, none⟩), .pointer (some ⟨bB, dB, none⟩)] : List Value) ∧ hB qN) ∧
  (Calls Tryd.prog 27 #[.slice vM xM yM] tM fun tN uN =>
  ∃ vN,
  tN = .returned (.int .i64 vN) ∧
  ∃ xN,
  uN.cell? ⟨z4, b5, none⟩ = some (.int .i64 xN) ∧
  let yN := World.alloc uN (.cells #[.int .i64 xa0, .int .i64 xN, .int .i64 uM, .int .i64 vN] 3);
  ∃ zN,
  ∃ bP, (Builtin.copy_ #[28, 28] 3 #[.slice zM bN dN, .slice (some ⟨uN.heap.size, 0, none⟩) 4 4]).run Tryd.prog yN = .ok (.int .i64 zN) bP ∧
  ([.pointer (some ⟨w.heap.size, 0, none⟩), .pointer (some ⟨b0.heap.size, 0, none⟩), .pointer (some ⟨z4, b5, none⟩), .pointer (some ⟨bB, dB, none⟩)] : List Value) = ([.pointer (some ⟨w.heap.size, 0, none⟩), .pointer (some ⟨b0.heap.size, 0, none⟩), .pointer (some ⟨z4, b5, none⟩), .pointer (some ⟨bB, dB, none⟩)] : List Value) ∧ hB bP) ∧ True) ∧
  (∃ dP,
  tM.cell? ⟨z4, b5, none⟩ = some (.int .i64 dP) ∧
  (∃ gP hP iP,
  tM.cell? ⟨bB, dB, none⟩ = some (.slice gP hP iP) ∧
  Calls Tryd.prog 27 #[.slice vM xM yM] tM fun jP kP =>
  ∃ pP,
  jP = .returned (.int .i64 pP) ∧
  let qP := World.alloc kP (.cells #[.int .i64 xa0, .int .i64 dP, .int .i64 uM, .int .i64 pP] 3);
  ∃ tP,
  ∃ uP, (Builtin.copy_ #[28, 28] 3 #[.slice gP hP iP, .slice (some ⟨kP.heap.size, 0, none⟩) 4 4]).run Tryd.prog qP = .ok (.int .i64 tP) uP ∧
  ([.pointer (some ⟨w.heap.size, 0, none⟩), .pointer (some ⟨b0.heap.size, 0, none⟩), .pointer (some ⟨z4, b5, none⟩), .pointer (some ⟨bB, dB, none⟩)] : List Value) = ([.pointer (some ⟨w.heap.size, 0, none⟩), .pointer (some ⟨b0.heap.size, 0, none⟩), .pointer (some ⟨z4, b5, none⟩), .pointer (some ⟨bB, dB, none⟩)] : List Value) ∧ hB uP) ∧
  (Calls Tryd.prog 27 #[.slice vM xM yM] tM fun vP xP =>
  ∃ yP,
  vP = .returned (.int .i64 yP) ∧
  ∃ zP bQ dQ,
  xP.cell? ⟨bB, dB, none⟩ = some (.slice zP bQ dQ) ∧
  let gQ := World.alloc xP (.cells #[.int .i64 xa0, .int .i64 dP, .int .i64 uM, .int .i64 yP] 3);
  ∃ hQ,
  ∃ iQ, (Builtin.copy_ #[28, 28] 3 #[.slice zP bQ dQ, .slice (some ⟨xP.heap.size, 0, none⟩) 4 4]).run Tryd.prog gQ = .ok (.int .i64 hQ) iQ ∧
  ([.pointer (some ⟨w.heap.size, 0, none⟩), .pointer (some ⟨b0.heap.size, 0, none⟩), .pointer (some ⟨z4, b5, none⟩), .pointer (some ⟨bB, dB, none⟩)] : List Value) = ([.pointer (some ⟨w.heap.size, 0, none⟩), .pointer (some ⟨b0.heap.size, 0, none⟩), .pointer (some ⟨z4, b5, none⟩), .pointer (some ⟨bB, dB, none⟩)] : List Value) ∧ hB iQ) ∧ True) ∧
  (Calls Tryd.prog 27 #[.slice vM xM yM] tM fun jQ kQ =>
  ∃ pQ,
  jQ = .returned (.int .i64 pQ) ∧
  ∃ qQ tQ uQ,
  kQ.cell? ⟨bB, dB, none⟩ = some (.slice qQ tQ uQ) ∧
  ∃ vQ,
  kQ.cell? ⟨z4, b5, none⟩ = some (.int .i64 vQ) ∧
  let xQ := World.alloc kQ (.cells #[.int .i64 xa0, .int .i64 vQ, .int .i64 uM, .int .i64 pQ] 3);
  ∃ yQ,
  ∃ zQ, (Builtin.copy_ #[28, 28] 3 #[.slice qQ tQ uQ, .slice (some ⟨kQ.heap.size, 0, none⟩) 4 4]).run Tryd.prog xQ = .ok (.int .i64 yQ) zQ ∧
  ([.pointer (some ⟨w.heap.size, 0, none⟩), .pointer (some ⟨b0.heap.size, 0, none⟩), .pointer (some ⟨z4, b5, none⟩), .pointer (some ⟨bB, dB, none⟩)] : List Value) = ([.pointer (some ⟨w.heap.size, 0, none⟩), .pointer (some ⟨b0.heap.size, 0, none⟩), .pointer (some ⟨z4, b5, none⟩), .pointer (some ⟨bB, dB, none⟩)] : List Value) ∧ hB zQ) ∧ True) ∧
  (∃ bR dR gR,
  gB.cell? ⟨w.heap.size, 4, none⟩ = some (.slice bR dR gR) ∧
  (∃ hR iR jR,
  gB.cell? ⟨bB, dB, none⟩ = some (.slice hR iR jR) ∧
  (∃ kR,
  gB.cell? ⟨z4, b5, none⟩ = some (.int .i64 kR) ∧
  Calls Tryd.prog 27 #[.slice iB jB kB] gB.drew fun pR qR =>
  ∃ tR,
  pR = .returned (.int .i64 tR) ∧
  Calls Tryd.prog 27 #[.slice bR dR gR] qR fun uR vR =>
  ∃ xR,
  uR = .returned (.int .i64 xR) ∧
  let yR := World.alloc vR (.cells #[.int .i64 xa0, .int .i64 kR, .int .i64 tR, .int .i64 xR] 3);
  ∃ zR,
  ∃ bS, (Builtin.copy_ #[28, 28] 3 #[.slice hR iR jR, .slice (some ⟨vR.heap.size, 0, none⟩) 4 4]).run Tryd.prog yR = .ok (.int .i64 zR) bS ∧
  ([.pointer (some ⟨w.heap.size, 0, none⟩), .pointer (some ⟨b0.heap.size, 0, none⟩), .pointer (some ⟨z4, b5, none⟩), .pointer (some ⟨bB, dB, none⟩)] : List Value) = ([.pointer (some ⟨w.heap.size, 0, none⟩), .pointer (some ⟨b0.heap.size, 0, none⟩), .pointer (some ⟨z4, b5, none⟩), .pointer (some ⟨bB, dB, none⟩)] : List Value) ∧ hB bS) ∧
  (Calls Tryd.prog 27 #[.slice iB jB kB] gB.drew fun dS gS =>
  ∃ hS,
  dS = .returned (.int .i64 hS) ∧
  (∃ iS,
  gS.cell? ⟨z4, b5, none⟩ = some (.int .i64 iS) ∧
  Calls Tryd.prog 27 #[.slice bR dR gR] gS fun jS kS =>
  ∃ pS,
  jS = .returned (.int .i64 pS) ∧
  let qS := World.alloc kS (.cells #[.int .i64 xa0, .int .i64 iS, .int .i64 hS, .int .i64 pS] 3);
  ∃ tS,
  ∃ uS, (Builtin.copy_ #[28, 28] 3 #[.slice hR iR jR, .slice (some ⟨kS.heap.size, 0, none⟩) 4 4]).run Tryd.prog qS = .ok (.int .i64 tS) uS ∧
  ([.pointer (some ⟨w.heap.size, 0, none⟩), .pointer (some ⟨b0.heap.size, 0, none⟩), .pointer (some ⟨z4, b5, none⟩), .pointer (some ⟨bB, dB, none⟩)] : List Value) = ([.pointer (some ⟨w.heap.size, 0, none⟩), .pointer (some ⟨b0.heap.size, 0, none⟩), .pointer (some ⟨z4, b5, none⟩), .pointer (some ⟨bB, dB, none⟩)] : List Value) ∧ hB uS) ∧
  (Calls Tryd.prog 27 #[.slice bR dR gR] gS fun vS xS =>
  ∃ yS,
  vS = .returned (.int .i64 yS) ∧
  ∃ zS,
  xS.cell? ⟨z4, b5, none⟩ = some (.int .i64 zS) ∧
  let bT := World.alloc xS (.cells #[.int .i64 xa0, .int .i64 zS, .int .i64 hS, .int .i64 yS] 3);
  ∃ dT,
  ∃ gT, (Builtin.copy_ #[28, 28] 3 #[.slice hR iR jR, .slice (some ⟨xS.heap.size, 0, none⟩) 4 4]).run Tryd.prog bT = .ok (.int .i64 dT) gT ∧
  ([.pointer (some ⟨w.heap.size, 0, none⟩), .pointer (some ⟨b0.heap.size, 0, none⟩), .pointer (some ⟨z4, b5, none⟩), .pointer (some ⟨bB, dB, none⟩)] : List Value) = ([.pointer (some ⟨w.heap.size, 0, none⟩), .pointer (some ⟨b0.heap.size, 0, none⟩), .pointer (some ⟨z4, b5, none⟩), .pointer (some ⟨bB, dB, none⟩)] : List Value) ∧ hB gT) ∧ True) ∧ True) ∧
  (∃ hT,
  gB.cell? ⟨z4, b5, none⟩ = some (.int .i64 hT) ∧
  (∃ iT jT kT,
  gB.cell? ⟨bB, dB, none⟩ = some (.slice iT jT kT) ∧
  Calls Tryd.prog 27 #[.slice iB jB kB] gB.drew fun pT qT =>
  ∃ tT,
  pT = .returned (.int .i64 tT) ∧
  Calls Tryd.prog 27 #[.slice bR dR gR] qT fun uT vT =>
  ∃ xT,
  uT = .returned (.int .i64 xT) ∧
  let yT := World.alloc vT (.cells #[.int .i64 xa0, .int .i64 hT, .int .i64 tT, .int .i64 xT] 3);
  ∃ zT,
  ∃ bU, (Builtin.copy_ #[28, 28] 3 #[.slice iT jT kT, .slice (some ⟨vT.heap.size, 0, none⟩) 4 4]).run Tryd.prog yT = .ok (.int .i64 zT) bU ∧
  ([.pointer (some ⟨w.heap.size, 0, none⟩), .pointer (some ⟨b0.heap.size, 0, none⟩), .pointer (some ⟨z4, b5, none⟩), .pointer (some ⟨bB, dB, none⟩)] : List Value) = ([.pointer (some ⟨w.heap.size, 0, none⟩), .pointer (some ⟨b0.heap.size, 0, none⟩), .pointer (some ⟨z4, b5, none⟩), .pointer (some ⟨bB, dB, none⟩)] : List Value) ∧ hB bU) ∧
  (Calls Tryd.prog 27 #[.slice iB jB kB] gB.drew fun dU gU =>
  ∃ hU,
  dU = .returned (.int .i64 hU) ∧
  (∃ iU jU kU,
  gU.cell? ⟨bB, dB, none⟩ = some (.slice iU jU kU) ∧
  Calls Tryd.prog 27 #[.slice bR dR gR] gU fun pU qU =>
  ∃ tU,
  pU = .returned (.int .i64 tU) ∧
  let uU := World.alloc qU (.cells #[.int .i64 xa0, .int .i64 hT, .int .i64 hU, .int .i64 tU] 3);
  ∃ vU,
  ∃ xU, (Builtin.copy_ #[28, 28] 3 #[.slice iU jU kU, .slice (some ⟨qU.heap.size, 0, none⟩) 4 4]).run Tryd.prog uU = .ok (.int .i64 vU) xU ∧
  ([.pointer (some ⟨w.heap.size, 0, none⟩), .pointer (some ⟨b0.heap.size, 0, none⟩), .pointer (some ⟨z4, b5, none⟩), .pointer (some ⟨bB, dB, none⟩)] : List Value) = ([.pointer (some ⟨w.heap.size, 0, none⟩), .pointer (some ⟨b0.heap.size, 0, none⟩), .pointer (some ⟨z4, b5, none⟩), .pointer (some ⟨bB, dB, none⟩)] : List Value) ∧ hB xU) ∧
  (Calls Tryd.prog 27 #[.slice bR dR gR] gU fun yU zU =>
  ∃ bV,
  yU = .returned (.int .i64 bV) ∧
  ∃ dV gV hV,
  zU.cell? ⟨bB, dB, none⟩ = some (.slice dV gV hV) ∧
  let iV := World.alloc zU (.cells #[.int .i64 xa0, .int .i64 hT, .int .i64 hU, .int .i64 bV] 3);
  ∃ jV,
  ∃ kV, (Builtin.copy_ #[28, 28] 3 #[.slice dV gV hV, .slice (some ⟨zU.heap.size, 0, none⟩) 4 4]).run Tryd.prog iV = .ok (.int .i64 jV) kV ∧
  ([.pointer (some ⟨w.heap.size, 0, none⟩), .pointer (some ⟨b0.heap.size, 0, none⟩), .pointer (some ⟨z4, b5, none⟩), .pointer (some ⟨bB, dB, none⟩)] : List Value) = ([.pointer (some ⟨w.heap.size, 0, none⟩), .pointer (some ⟨b0.heap.size, 0, none⟩), .pointer (some ⟨z4, b5, none⟩), .pointer (some ⟨bB, dB, none⟩)] : List Value) ∧ hB kV) ∧ True) ∧ True) ∧
  (Calls Tryd.prog 27 #[.slice iB jB kB] gB.drew fun pV qV =>
  ∃ tV,
  pV = .returned (.int .i64 tV) ∧
  (∃ uV vV xV,
  qV.cell? ⟨bB, dB, none⟩ = some (.slice uV vV xV) ∧
  (∃ yV,
  qV.cell? ⟨z4, b5, none⟩ = some (.int .i64 yV) ∧
  Calls Tryd.prog 27 #[.slice bR dR gR] qV fun zV bW =>
  ∃ dW,
  zV = .returned (.int .i64 dW) ∧
  let gW := World.alloc bW (.cells #[.int .i64 xa0, .int .i64 yV, .int .i64 tV, .int .i64 dW] 3);
  ∃ hW,
  ∃ iW, (Builtin.copy_ #[28, 28] 3 #[.slice uV vV xV, .slice (some ⟨bW.heap.size, 0, none⟩) 4 4]).run Tryd.prog gW = .ok (.int .i64 hW) iW ∧
  ([.pointer (some ⟨w.heap.size, 0, none⟩), .pointer (some ⟨b0.heap.size, 0, none⟩), .pointer (some ⟨z4, b5, none⟩), .pointer (some ⟨bB, dB, none⟩)] : List Value) = ([.pointer (some ⟨w.heap.size, 0, none⟩), .pointer (some ⟨b0.heap.size, 0, none⟩), .pointer (some ⟨z4, b5, none⟩), .pointer (some ⟨bB, dB, none⟩)] : List Value) ∧ hB iW) ∧
  (Calls Tryd.prog 27 #[.slice bR dR gR] qV fun jW kW =>
  ∃ pW,
  jW = .returned (.int .i64 pW) ∧
  ∃ qW,
  kW.cell? ⟨z4, b5, none⟩ = some (.int .i64 qW) ∧
  let tW := World.alloc kW (.cells #[.int .i64 xa0, .int .i64 qW, .int .i64 tV, .int .i64 pW] 3);
  ∃ uW,
  ∃ vW, (Builtin.copy_ #[28, 28] 3 #[.slice uV vV xV, .slice (some ⟨kW.heap.size, 0, none⟩) 4 4]).run Tryd.prog tW = .ok (.int .i64 uW) vW ∧
  ([.pointer (some ⟨w.heap.size, 0, none⟩), .pointer (some ⟨b0.heap.size, 0, none⟩), .pointer (some ⟨z4, b5, none⟩), .pointer (some ⟨bB, dB, none⟩)] : List Value) = ([.pointer (some ⟨w.heap.size, 0, none⟩), .pointer (some ⟨b0.heap.size, 0, none⟩), .pointer (some ⟨z4, b5, none⟩), .pointer (some ⟨bB, dB, none⟩)] : List Value) ∧ hB vW) ∧ True) ∧
  (∃ xW,
  qV.cell? ⟨z4, b5, none⟩ = some (.int .i64 xW) ∧
  (∃ yW zW bX,
  qV.cell? ⟨bB, dB, none⟩ = some (.slice yW zW bX) ∧
  Calls Tryd.prog 27 #[.slice bR dR gR] qV fun dX gX =>
  ∃ hX,
  dX = .returned (.int .i64 hX) ∧
  let iX := World.alloc gX (.cells #[.int .i64 xa0, .int .i64 xW, .int .i64 tV, .int .i64 hX] 3);
  ∃ jX,
  ∃ kX, (Builtin.copy_ #[28, 28] 3 #[.slice yW zW bX, .slice (some ⟨gX.heap.size, 0, none⟩) 4 4]).run Tryd.prog iX = .ok (.int .i64 jX) kX ∧
  ([.pointer (some ⟨w.heap.size, 0, none⟩), .pointer (some ⟨b0.heap.size, 0, none⟩), .pointer (some ⟨z4, b5, none⟩), .pointer (some ⟨bB, dB, none⟩)] : List Value) = ([.pointer (some ⟨w.heap.size, 0, none⟩), .pointer (some ⟨b0.heap.size, 0, none⟩), .pointer (some ⟨z4, b5, none⟩), .pointer (some ⟨bB, dB, none⟩)] : List Value) ∧ hB kX) ∧
  (Calls Tryd.prog 27 #[.slice bR dR gR] qV fun pX qX =>
  ∃ tX,
  pX = .returned (.int .i64 tX) ∧
  ∃ uX vX xX,
  qX.cell? ⟨bB, dB, none⟩ = some (.slice uX vX xX) ∧
  let yX := World.alloc qX (.cells #[.int .i64 xa0, .int .i64 xW, .int .i64 tV, .int .i64 tX] 3);
  ∃ zX,
  ∃ bY, (Builtin.copy_ #[28, 28] 3 #[.slice uX vX xX, .slice (some ⟨qX.heap.size, 0, none⟩) 4 4]).run Tryd.prog yX = .ok (.int .i64 zX) bY ∧
  ([.pointer (some ⟨w.heap.size, 0, none⟩), .pointer (some ⟨b0.heap.size, 0, none⟩), .pointer (some ⟨z4, b5, none⟩), .pointer (some ⟨bB, dB, none⟩)] : List Value) = ([.pointer (some ⟨w.heap.size, 0, none⟩), .pointer (some ⟨b0.heap.size, 0, none⟩), .pointer (some ⟨z4, b5, none⟩), .pointer (some ⟨bB, dB, none⟩)] : List Value) ∧ hB bY) ∧ True) ∧
  (Calls Tryd.prog 27 #[.slice bR dR gR] qV fun dY gY =>
  ∃ hY,
  dY = .returned (.int .i64 hY) ∧
  ∃ iY jY kY,
  gY.cell? ⟨bB, dB, none⟩ = some (.slice iY jY kY) ∧
  ∃ pY,
  gY.cell? ⟨z4, b5, none⟩ = some (.int .i64 pY) ∧
  let qY := World.alloc gY (.cells #[.int .i64 xa0, .int .i64 pY, .int .i64 tV, .int .i64 hY] 3);
  ∃ tY,
  ∃ uY, (Builtin.copy_ #[28, 28] 3 #[.slice iY jY kY, .slice (some ⟨gY.heap.size, 0, none⟩) 4 4]).run Tryd.prog qY = .ok (.int .i64 tY) uY ∧
  ([.pointer (some ⟨w.heap.size, 0, none⟩), .pointer (some ⟨b0.heap.size, 0, none⟩), .pointer (some ⟨z4, b5, none⟩), .pointer (some ⟨bB, dB, none⟩)] : List Value) = ([.pointer (some ⟨w.heap.size, 0, none⟩), .pointer (some ⟨b0.heap.size, 0, none⟩), .pointer (some ⟨z4, b5, none⟩), .pointer (some ⟨bB, dB, none⟩)] : List Value) ∧ hB uY) ∧ True) ∧ True) ∧ True) ∧
  ∀ vY : Env, ∀ xY, hB xY →
  ∃ yY : FuncId → Array Value → Array Value → World → Prop,
  (([.pointer (some ⟨w.heap.size, 0, none⟩), .pointer (some ⟨bB, dB, none⟩)] : List Value) = ([.pointer (some ⟨w.heap.size, 0, none⟩), .pointer (some ⟨bB, dB, none⟩)] : List Value) ∧ yY 28 (#[]) (#[.pointer (some ⟨b0.heap.size, 0, none⟩), .pointer (some ⟨z4, b5, none⟩), .pointer (some ⟨bB, dB, none⟩)]) xY) ∧
  ∀ zY : Env, ∀ bZ dZ gZ hZ, yY bZ dZ gZ hZ →
  ∃ iZ : World → Prop,
  (∃ jZ kZ pZ,
  hZ.cell? ⟨w.heap.size, 0, none⟩ = some (.slice jZ kZ pZ) ∧
  callT Tryd.prog (.func (.func bZ) dZ gZ) #[.slice jZ kZ pZ, .int .i64 3, .func (.func 29) #[] #[]] hZ fun qZ tZ =>
  qZ = .returned (.tuple #[]) ∧
  ([.pointer (some ⟨w.heap.size, 0, none⟩), .pointer (some ⟨bB, dB, none⟩), .func (.func bZ) dZ gZ] : List Value) = ([.pointer (some ⟨w.heap.size, 0, none⟩), .pointer (some ⟨bB, dB, none⟩), .func (.func bZ) dZ gZ] : List Value) ∧ iZ tZ) ∧
  ∀ uZ : Env, ∀ vZ, iZ vZ →
  ∃ xZ : World → Prop,
  (∃ yZ zZ b00,
  vZ.cell? ⟨w.heap.size, 1, none⟩ = some (.slice yZ zZ b00) ∧
  callT Tryd.prog (.func (.func bZ) dZ gZ) #[.slice yZ zZ b00, .int .i64 1, .func (.func 30) #[] #[.pointer (some ⟨w.heap.size, 0, none⟩)]] vZ fun d00 g00 =>
  d00 = .returned (.tuple #[]) ∧
  ([.pointer (some ⟨w.heap.size, 0, none⟩), .pointer (some ⟨bB, dB, none⟩), .func (.func bZ) dZ gZ] : List Value) = ([.pointer (some ⟨w.heap.size, 0, none⟩), .pointer (some ⟨bB, dB, none⟩), .func (.func bZ) dZ gZ] : List Value) ∧ xZ g00) ∧
  ∀ h00 : Env, ∀ i00, xZ i00 →
  ∃ j00 : World → Prop,
  (∃ k00 p00 q00,
  i00.cell? ⟨w.heap.size, 2, none⟩ = some (.slice k00 p00 q00) ∧
  callT Tryd.prog (.func (.func bZ) dZ gZ) #[.slice k00 p00 q00, .int .i64 2, .func (.func 31) #[] #[.pointer (some ⟨w.heap.size, 0, none⟩)]] i00 fun t00 u00 =>
  t00 = .returned (.tuple #[]) ∧
  ([.pointer (some ⟨w.heap.size, 0, none⟩), .pointer (some ⟨bB, dB, none⟩)] : List Value) = ([.pointer (some ⟨w.heap.size, 0, none⟩), .pointer (some ⟨bB, dB, none⟩)] : List Value) ∧ j00 u00) ∧
  ∀ v00 : Env, ∀ x00, j00 x00 →
  ∃ y00 z00 b01,
  x00.cell? ⟨w.heap.size, 5, none⟩ = some (.slice y00 z00 b01) ∧
  ∃ d01 : Int → World → Nat → Prop,
  (∃ n, d01 0 x00 n) ∧
  ∀ g01 : Env, ∀ h01 i01 j01, d01 h01 i01 j01 →
  sel (decide ((h01 : Int) < ((z00 : Int) : Int))) (
  (0 : Int) ≤ h01 ∧ h01 < (z00 : Int) ∧
  needPtr y00 fun k01 p01 =>
  ∃ q01 t01 u01,
  i01.cell? ⟨k01, p01 + h01.toNat * 1, none⟩ = some (.slice q01 t01 u01) ∧
  ∃ v01 : Int → World → Nat → Prop,
  (∃ n, v01 0 i01 n) ∧
  ∀ x01 : Env, ∀ y01 z01 b02, v01 y01 z01 b02 →
  sel (decide ((y01 : Int) < ((t01 : Int) : Int))) (
  (0 : Int) ≤ y01 ∧ y01 < (t01 : Int) ∧
  needPtr q01 fun d02 g02 =>
  ∃ h02,
  z01.cell? ⟨d02, g02 + y01.toNat * 1, none⟩ = some (.int .u16 h02) ∧
  ∃ i02 j02 k02,
  z01.cell? ⟨bB, dB, none⟩ = some (.slice i02 j02 k02) ∧
  let p02 : Int := IntKind.i64.wrap h02;
  let q02 := World.alloc z01 (.cells #[.int .i64 p02] 3);
  ∃ t02 u02 v02,
  ∃ x02, (Builtin.append_ #[28, 28] 28 #[.slice i02 j02 k02, .slice (some ⟨z01.heap.size, 0, none⟩) 1 1]).run Tryd.prog q02 = .ok (.slice t02 u02 v02) x02 ∧
  canStore x02 bB dB 1 ∧
  let y02 := setCs x02 bB dB [.slice t02 u02 v02];
  let z02 : Int := IntKind.i64.wrap (y01 + 1);
  ([.pointer (some ⟨bB, dB, none⟩), .slice y00 z00 b01, .int .i64 (z00 : Int), .int .i64 h01, .slice q01 t01 u01, .int .i64 (t01 : Int)] : List Value) = ([.pointer (some ⟨bB, dB, none⟩), .slice y00 z00 b01, .int .i64 (z00 : Int), .int .i64 h01, .slice q01 t01 u01, .int .i64 (t01 : Int)] : List Value) ∧ ∃ m, m < b02 ∧ v01 z02 y02 m) (
  let b03 : Int := IntKind.i64.wrap (h01 + 1);
  ([.pointer (some ⟨bB, dB, none⟩), .slice y00 z00 b01, .int .i64 (z00 : Int)] : List Value) = ([.pointer (some ⟨bB, dB, none⟩), .slice y00 z00 b01, .int .i64 (z00 : Int)] : List Value) ∧ ∃ m, m < j01 ∧ d01 b03 z01 m)) (
  ∃ d03 g03 h03,
  i01.cell? ⟨bB, dB, none⟩ = some (.slice d03 g03 h03) ∧
  R (.tuple #[.slice d03 g03 h03, .int .i64 0]) i01)
theorem f9.eq (xa0 : Int) (Aa1_0 : Option Addr) (na1_0 ca1_0 : Nat) (Aa1_1 : Option Addr) (na1_1 ca1_1 : Nat) (Aa1_2 : Option Addr) (na1_2 ca1_2 : Nat) (Aa1_3 : Option Addr) (na1_3 ca1_3 : Nat) (Aa1_4 : Option Addr) (na1_4 ca1_4 : Nat) (Aa1_5 : Option Addr) (na1_5 ca1_5 : Nat) (a2 : Option Addr) (w : World) (R : Value → World → Prop) : f9.VC xa0 Aa1_0 na1_0 ca1_0 Aa1_1 na1_1 ca1_1 Aa1_2 na1_2 ca1_2 Aa1_3 na1_3 ca1_3 Aa1_4 na1_4 ca1_4 Aa1_5 na1_5 ca1_5 a2 w R = funV Tryd.prog Tryd.f9 f9.AL f9.AC #[.int .i64 xa0, .agg #[.slice Aa1_0 na1_0 ca1_0, .slice Aa1_1 na1_1 ca1_1, .slice Aa1_2 na1_2 ca1_2, .slice Aa1_3 na1_3 ca1_3, .slice Aa1_4 na1_4 ca1_4, .slice Aa1_5 na1_5 ca1_5], .pointer a2] w R := by kernel_rfl
theorem f9.calls {xa0 : Int} {Aa1_0 : Option Addr} {na1_0 ca1_0 : Nat} {Aa1_1 : Option Addr} {na1_1 ca1_1 : Nat} {Aa1_2 : Option Addr} {na1_2 ca1_2 : Nat} {Aa1_3 : Option Addr} {na1_3 ca1_3 : Nat} {Aa1_4 : Option Addr} {na1_4 ca1_4 : Nat} {Aa1_5 : Option Addr} {na1_5 ca1_5 : Nat} {a2 : Option Addr} {w : World} {R : Value → World → Prop} (h : f9.VC xa0 Aa1_0 na1_0 ca1_0 Aa1_1 na1_1 ca1_1 Aa1_2 na1_2 ca1_2 Aa1_3 na1_3 ca1_3 Aa1_4 na1_4 ca1_4 Aa1_5 na1_5 ca1_5 a2 w R) : Calls Tryd.prog 9 #[.int .i64 xa0, .agg #[.slice Aa1_0 na1_0 ca1_0, .slice Aa1_1 na1_1 ca1_1, .slice Aa1_2 na1_2 ca1_2, .slice Aa1_3 na1_3 ca1_3, .slice Aa1_4 na1_4 ca1_4, .slice Aa1_5 na1_5 ca1_5], .pointer a2] w fun e w' => ∃ v, e = .returned v ∧ R v w' :=
  funV_sound (fn := Tryd.f9) (AL := f9.AL) (AC := f9.AC) W12.mixed (by kernel_rfl) (by rw [← f9.eq xa0 Aa1_0 na1_0 ca1_0 Aa1_1 na1_1 ca1_1 Aa1_2 na1_2 ca1_2 Aa1_3 na1_3 ca1_3 Aa1_4 na1_4 ca1_4 Aa1_5 na1_5 ca1_5 a2]; exact h)

end Go.Proofs.YtjmlfknogjaemaaDoor
