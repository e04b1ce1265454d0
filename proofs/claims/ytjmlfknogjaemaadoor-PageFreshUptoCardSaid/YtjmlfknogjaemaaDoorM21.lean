/- The plain statements of some functions, printed by vcgen.py. -/
import Derived.Test.YtjmlfknogjaemaaDoorM5
import Derived.Test.YtjmlfknogjaemaaDoorProg
import Derived.KernelRfl
set_option maxRecDepth 100000
set_option maxHeartbeats 4000000
set_option linter.unusedVariables false
namespace Go.Proofs.YtjmlfknogjaemaaDoor
open Go Go.Proofs.YtjmlfknogjaemaaDoor.Vc
theorem W16.mixed : Tryd.prog.follows .mixedOrders = true := by kernel_rfl
/-- gatehouse/page.Read -/
def f16.AL : Nat → Option Ann := fun r => match r with | 23 => some ⟨[(151, .int .i64)], [0, 5, 7, 8, 12, 14, 149, 150]⟩ | 27 => some ⟨[(17, .slice), (160, .int .i64)], [0, 5, 7, 8, 12, 14, 16, 149, 150, 151, 158, 159]⟩ | _ => none
def f16.AC : Nat → Option Ann := fun _ => none
def f16.VC (Aa0 : Option Addr) (na0 ca0 : Nat) (a1 : Nat) (w : World) (R : Value → World → Prop) : Prop :=
  let b0 := World.alloc w (.cells #[.slice none 0 0, .slice none 0 0, .slice none 0 0, .slice none 0 0, .slice none 0 0, .slice none 0 0] 32);
  Calls Tryd.prog 38 #[.slice Aa0 na0 ca0] b0 fun d0 g0 =>
  ∃ h0,
  d0 = .returned (.int .i64 h0) ∧
  sel ((h0 : Int) == (0 : Int)) (
  canStore g0 w.heap.size 0 6 ∧
  let i0 := setCs g0 w.heap.size 0 [.slice none 0 0, .slice none 0 0, .slice none 0 0, .slice none 0 0, .slice none 0 0, .slice none 0 0];
  ∃ j0 k0 p0,
  i0.cell? ⟨w.heap.size, 0, none⟩ = some (.slice j0 k0 p0) ∧
  ∃ q0 t0 u0,
  i0.cell? ⟨w.heap.size, 1, none⟩ = some (.slice q0 t0 u0) ∧
  ∃ v0 x0 y0,
  i0.cell? ⟨w.heap.size, 2, none⟩ = some (.slice v0 x0 y0) ∧
  ∃ z0 b1 d1,
  i0.cell? ⟨w.heap.size, 3, none⟩ = some (.slice z0 b1 d1) ∧
  ∃ g1 h1 i1,
  i0.cell? ⟨w.heap.size, 4, none⟩ = some (.slice g1 h1 i1) ∧
  ∃ j1 k1 p1,
  i0.cell? ⟨w.heap.size, 5, none⟩ = some (.slice j1 k1 p1) ∧
  R (.tuple #[.int .i64 0, .agg #[.slice j0 k0 p0, .slice q0 t0 u0, .slice v0 x0 y0, .slice z0 b1 d1, .slice g1 h1 i1, .slice j1 k1 p1], .int .i64 120]) i0) (
  4 ≤ na0 ∧
  needPtr Aa0 fun q1 t1 =>
  ∃ u1,
  g0.cell? ⟨q1, t1, none⟩ = some (.int .i64 u1) ∧
  ∃ v1,
  g0.cell? ⟨q1, t1 + 1, none⟩ = some (.int .i64 v1) ∧
  ∃ x1,
  g0.cell? ⟨q1, t1 + 1 + 1, none⟩ = some (.int .i64 x1) ∧
  ∃ y1,
  g0.cell? ⟨q1, t1 + 1 + 1 + 1, none⟩ = some (.int .i64 y1) ∧
  let z1 := World.alloc g0 (.cells #[.int .i64 0, .int .i64 0, .int .i64 0, .int .i64 0] 66);
  canStore z1 g0.heap.size 0 4 ∧
  let b2 := setCs z1 g0.heap.size 0 [.int .i64 u1, .int .i64 v1, .int .i64 x1, .int .i64 y1];
  (0 : Int) ≤ 0 ∧ 0 < (4 : Int) ∧
  ∃ d2,
  b2.cell? ⟨g0.heap.size, 0, none⟩ = some (.int .i64 d2) ∧
  sel (decide ((1 : Int) ≤ (d2 : Int))) (
  (0 : Int) ≤ 0 ∧ 0 < (4 : Int) ∧
  ∃ g2,
  b2.cell? ⟨g0.heap.size, 0, none⟩ = some (.int .i64 g2) ∧
  sel (decide ((g2 : Int) ≤ (2147483647 : Int))) (
  (0 : Int) ≤ 2 ∧ 2 < (4 : Int) ∧
  ∃ h2,
  b2.cell? ⟨g0.heap.size, 2, none⟩ = some (.int .i64 h2) ∧
  sel (decide ((0 : Int) ≤ (h2 : Int))) (
  (0 : Int) ≤ 2 ∧ 2 < (4 : Int) ∧
  ∃ i2,
  b2.cell? ⟨g0.heap.size, 2, none⟩ = some (.int .i64 i2) ∧
  sel (decide ((i2 : Int) ≤ (64 : Int))) (
  (0 : Int) ≤ 3 ∧ 3 < (4 : Int) ∧
  ∃ j2,
  b2.cell? ⟨g0.heap.size, 3, none⟩ = some (.int .i64 j2) ∧
  sel (decide ((0 : Int) ≤ (j2 : Int))) (
  (0 : Int) ≤ 3 ∧ 3 < (4 : Int) ∧
  ∃ k2,
  b2.cell? ⟨g0.heap.size, 3, none⟩ = some (.int .i64 k2) ∧
  sel (!(decide ((k2 : Int) ≤ (64 : Int)))) (
  canStore b2 w.heap.size 0 6 ∧
  let p2 := setCs b2 w.heap.size 0 [.slice none 0 0, .slice none 0 0, .slice none 0 0, .slice none 0 0, .slice none 0 0, .slice none 0 0];
  ∃ q2 t2 u2,
  p2.cell? ⟨w.heap.size, 0, none⟩ = some (.slice q2 t2 u2) ∧
  ∃ v2 x2 y2,
  p2.cell? ⟨w.heap.size, 1, none⟩ = some (.slice v2 x2 y2) ∧
  ∃ z2 b3 d3,
  p2.cell? ⟨w.heap.size, 2, none⟩ = some (.slice z2 b3 d3) ∧
  ∃ g3 h3 i3,
  p2.cell? ⟨w.heap.size, 3, none⟩ = some (.slice g3 h3 i3) ∧
  ∃ j3 k3 p3,
  p2.cell? ⟨w.heap.size, 4, none⟩ = some (.slice j3 k3 p3) ∧
  ∃ q3 t3 u3,
  p2.cell? ⟨w.heap.size, 5, none⟩ = some (.slice q3 t3 u3) ∧
  R (.tuple #[.int .i64 0, .agg #[.slice q2 t2 u2, .slice v2 x2 y2, .slice z2 b3 d3, .slice g3 h3 i3, .slice j3 k3 p3, .slice q3 t3 u3], .int .i64 120]) p2) (
  let v3 : Int := IntKind.i64.wrap (2 * h0);
  let x3 : Int := IntKind.i64.wrap (4 + v3);
  (0 : Int) ≤ 2 ∧ 2 < (4 : Int) ∧
  ∃ y3,
  b2.cell? ⟨g0.heap.size, 2, none⟩ = some (.int .i64 y3) ∧
  (0 : Int) ≤ 3 ∧ 3 < (4 : Int) ∧
  ∃ z3,
  b2.cell? ⟨g0.heap.size, 3, none⟩ = some (.int .i64 z3) ∧
  let b4 : Int := IntKind.i64.wrap (y3 * z3);
  let d4 : Int := IntKind.i64.wrap (x3 + b4);
  sel (((na0 : Int) : Int) != (d4 : Int)) (
  canStore b2 w.heap.size 0 6 ∧
  let g4 := setCs b2 w.heap.size 0 [.slice none 0 0, .slice none 0 0, .slice none 0 0, .slice none 0 0, .slice none 0 0, .slice none 0 0];
  ∃ h4 i4 j4,
  g4.cell? ⟨w.heap.size, 0, none⟩ = some (.slice h4 i4 j4) ∧
  ∃ k4 p4 q4,
  g4.cell? ⟨w.heap.size, 1, none⟩ = some (.slice k4 p4 q4) ∧
  ∃ t4 u4 v4,
  g4.cell? ⟨w.heap.size, 2, none⟩ = some (.slice t4 u4 v4) ∧
  ∃ x4 y4 z4,
  g4.cell? ⟨w.heap.size, 3, none⟩ = some (.slice x4 y4 z4) ∧
  ∃ b5 d5 g5,
  g4.cell? ⟨w.heap.size, 4, none⟩ = some (.slice b5 d5 g5) ∧
  ∃ h5 i5 j5,
  g4.cell? ⟨w.heap.size, 5, none⟩ = some (.slice h5 i5 j5) ∧
  R (.tuple #[.int .i64 0, .agg #[.slice h4 i4 j4, .slice k4 p4 q4, .slice t4 u4 v4, .slice x4 y4 z4, .slice b5 d5 g5, .slice h5 i5 j5], .int .i64 120]) g4) (
  Calls Tryd.prog 39 #[.slice Aa0 na0 ca0, .int .i64 h0, .pointer (some ⟨a1, 0, none⟩)] b2 fun k5 p5 =>
  ∃ q5 t5 u5 v5 x5 y5 z5 b6 d6 g6 h6 i6 j6,
  k5 = .returned (.tuple #[.agg #[.slice q5 t5 u5, .slice v5 x5 y5, .slice z5 b6 d6, .slice g6 h6 i6], .bool j6]) ∧
  let k6 := World.alloc p5 (.cells #[.slice none 0 0, .slice none 0 0, .slice none 0 0, .slice none 0 0] 68);
  canStore k6 p5.heap.size 0 4 ∧
  let p6 := setCs k6 p5.heap.size 0 [.slice q5 t5 u5, .slice v5 x5 y5, .slice z5 b6 d6, .slice g6 h6 i6];
  sel (!j6) (
  canStore p6 w.heap.size 0 6 ∧
  let q6 := setCs p6 w.heap.size 0 [.slice none 0 0, .slice none 0 0, .slice none 0 0, .slice none 0 0, .slice none 0 0, .slice none 0 0];
  ∃ t6 u6 v6,
  q6.cell? ⟨w.heap.size, 0, none⟩ = some (.slice t6 u6 v6) ∧
  ∃ x6 y6 z6,
  q6.cell? ⟨w.heap.size, 1, none⟩ = some (.slice x6 y6 z6) ∧
  ∃ b7 d7 g7,
  q6.cell? ⟨w.heap.size, 2, none⟩ = some (.slice b7 d7 g7) ∧
  ∃ h7 i7 j7,
  q6.cell? ⟨w.heap.size, 3, none⟩ = some (.slice h7 i7 j7) ∧
  ∃ k7 p7 q7,
  q6.cell? ⟨w.heap.size, 4, none⟩ = some (.slice k7 p7 q7) ∧
  ∃ t7 u7 v7,
  q6.cell? ⟨w.heap.size, 5, none⟩ = some (.slice t7 u7 v7) ∧
  R (.tuple #[.int .i64 0, .agg #[.slice t6 u6 v6, .slice x6 y6 z6, .slice b7 d7 g7, .slice h7 i7 j7, .slice k7 p7 q7, .slice t7 u7 v7], .int .i64 120]) q6) (
  (0 : Int) ≤ 3 ∧ 3 < (4 : Int) ∧
  ∃ x7 y7 z7,
  p6.cell? ⟨p5.heap.size, 3, none⟩ = some (.slice x7 y7 z7) ∧
  (0 : Int) ≤ 1 ∧ 1 < (4 : Int) ∧
  ∃ b8 d8 g8,
  p6.cell? ⟨p5.heap.size, 1, none⟩ = some (.slice b8 d8 g8) ∧
  let h8 : Int := IntKind.i64.wrap ((y7 : Int) + (d8 : Int));
  (0 : Int) ≤ 2 ∧ 2 < (4 : Int) ∧
  ∃ i8 j8 k8,
  p6.cell? ⟨p5.heap.size, 2, none⟩ = some (.slice i8 j8 k8) ∧
  let p8 : Int := IntKind.i64.wrap (h8 + (j8 : Int));
  ∃ q8 t8 u8,
  ∃ v8, (Instr.makeSlice 27 (.int .i64 p8) (.int .i64 p8)).run Tryd.prog p6 = .ok (.slice q8 t8 u8) v8 ∧
  Calls Tryd.prog 26 #[.agg #[.slice q8 t8 u8, .slice none 0 0, .slice none 0 0, .slice none 0 0, .slice none 0 0, .slice none 0 0]] v8 fun x8 y8 =>
  ∃ z8,
  x8 = .returned (.int .i64 z8) ∧
  sel ((z8 : Int) != (h0 : Int)) (
  canStore y8 w.heap.size 0 6 ∧
  let b9 := setCs y8 w.heap.size 0 [.slice none 0 0, .slice none 0 0, .slice none 0 0, .slice none 0 0, .slice none 0 0, .slice none 0 0];
  ∃ d9 g9 h9,
  b9.cell? ⟨w.heap.size, 0, none⟩ = some (.slice d9 g9 h9) ∧
  ∃ i9 j9 k9,
  b9.cell? ⟨w.heap.size, 1, none⟩ = some (.slice i9 j9 k9) ∧
  ∃ p9 q9 t9,
  b9.cell? ⟨w.heap.size, 2, none⟩ = some (.slice p9 q9 t9) ∧
  ∃ u9 v9 x9,
  b9.cell? ⟨w.heap.size, 3, none⟩ = some (.slice u9 v9 x9) ∧
  ∃ y9 z9 bA,
  b9.cell? ⟨w.heap.size, 4, none⟩ = some (.slice y9 z9 bA) ∧
  ∃ dA gA hA,
  b9.cell? ⟨w.heap.size, 5, none⟩ = some (.slice dA gA hA) ∧
  R (.tuple #[.int .i64 0, .agg #[.slice d9 g9 h9, .slice i9 j9 k9, .slice p9 q9 t9, .slice u9 v9 x9, .slice y9 z9 bA, .slice dA gA hA], .int .i64 120]) b9) (
  let iA := World.alloc y8 (.cells #[.slice none 0 0, .slice none 0 0, .slice none 0 0, .slice none 0 0, .slice none 0 0, .slice none 0 0] 32);
  (0 : Int) ≤ 3 ∧ 3 < (4 : Int) ∧
  ∃ jA kA pA,
  iA.cell? ⟨p5.heap.size, 3, none⟩ = some (.slice jA kA pA) ∧
  Calls Tryd.prog 40 #[.slice jA kA pA, .pointer (some ⟨a1, 0, none⟩)] iA fun qA tA =>
  ∃ uA vA xA yA,
  qA = .returned (.tuple #[.slice uA vA xA, .bool yA]) ∧
  canStore tA y8.heap.size 0 1 ∧
  let zA := setCs tA y8.heap.size 0 [.slice uA vA xA];
  sel (!yA) (
  canStore zA w.heap.size 0 6 ∧
  let bB := setCs zA w.heap.size 0 [.slice none 0 0, .slice none 0 0, .slice none 0 0, .slice none 0 0, .slice none 0 0, .slice none 0 0];
  ∃ dB gB hB,
  bB.cell? ⟨w.heap.size, 0, none⟩ = some (.slice dB gB hB) ∧
  ∃ iB jB kB,
  bB.cell? ⟨w.heap.size, 1, none⟩ = some (.slice iB jB kB) ∧
  ∃ pB qB tB,
  bB.cell? ⟨w.heap.size, 2, none⟩ = some (.slice pB qB tB) ∧
  ∃ uB vB xB,
  bB.cell? ⟨w.heap.size, 3, none⟩ = some (.slice uB vB xB) ∧
  ∃ yB zB bC,
  bB.cell? ⟨w.heap.size, 4, none⟩ = some (.slice yB zB bC) ∧
  ∃ dC gC hC,
  bB.cell? ⟨w.heap.size, 5, none⟩ = some (.slice dC gC hC) ∧
  R (.tuple #[.int .i64 0, .agg #[.slice dB gB hB, .slice iB jB kB, .slice pB qB tB, .slice uB vB xB, .slice yB zB bC, .slice dC gC hC], .int .i64 120]) bB) (
  (0 : Int) ≤ 1 ∧ 1 < (4 : Int) ∧
  ∃ iC jC kC,
  zA.cell? ⟨p5.heap.size, 1, none⟩ = some (.slice iC jC kC) ∧
  Calls Tryd.prog 41 #[.slice iC jC kC, .pointer (some ⟨a1, 0, none⟩)] zA fun pC qC =>
  ∃ tC uC vC xC yC zC bD dD gD,
  pC = .returned (.tuple #[.slice tC uC vC, .slice xC yC zC, .slice bD dD gD]) ∧
  canStore qC y8.heap.size 1 1 ∧
  let hD := setCs qC y8.heap.size 1 [.slice tC uC vC];
  canStore hD y8.heap.size 3 1 ∧
  let iD := setCs hD y8.heap.size 3 [.slice xC yC zC];
  (0 : Int) ≤ 2 ∧ 2 < (4 : Int) ∧
  ∃ jD kD pD,
  iD.cell? ⟨p5.heap.size, 2, none⟩ = some (.slice jD kD pD) ∧
  Calls Tryd.prog 41 #[.slice jD kD pD, .pointer (some ⟨a1, 0, none⟩)] iD fun qD tD =>
  ∃ uD vD xD yD zD bE dE gE hE,
  qD = .returned (.tuple #[.slice uD vD xD, .slice yD zD bE, .slice dE gE hE]) ∧
  canStore tD y8.heap.size 2 1 ∧
  let iE := setCs tD y8.heap.size 2 [.slice uD vD xD];
  canStore iE y8.heap.size 4 1 ∧
  let jE := setCs iE y8.heap.size 4 [.slice yD zD bE];
  (0 : Int) ≤ 2 ∧ 2 < (4 : Int) ∧
  ∃ kE,
  jE.cell? ⟨g0.heap.size, 2, none⟩ = some (.int .i64 kE) ∧
  Calls Tryd.prog 42 #[.slice bD dD gD, .int .i64 kE] jE fun pE qE =>
  ∃ tE,
  pE = .returned (.bool tE) ∧
  sel (!tE) (
  canStore qE w.heap.size 0 6 ∧
  let uE := setCs qE w.heap.size 0 [.slice none 0 0, .slice none 0 0, .slice none 0 0, .slice none 0 0, .slice none 0 0, .slice none 0 0];
  ∃ vE xE yE,
  uE.cell? ⟨w.heap.size, 0, none⟩ = some (.slice vE xE yE) ∧
  ∃ zE bF dF,
  uE.cell? ⟨w.heap.size, 1, none⟩ = some (.slice zE bF dF) ∧
  ∃ gF hF iF,
  uE.cell? ⟨w.heap.size, 2, none⟩ = some (.slice gF hF iF) ∧
  ∃ jF kF pF,
  uE.cell? ⟨w.heap.size, 3, none⟩ = some (.slice jF kF pF) ∧
  ∃ qF tF uF,
  uE.cell? ⟨w.heap.size, 4, none⟩ = some (.slice qF tF uF) ∧
  ∃ vF xF yF,
  uE.cell? ⟨w.heap.size, 5, none⟩ = some (.slice vF xF yF) ∧
  R (.tuple #[.int .i64 0, .agg #[.slice vE xE yE, .slice zE bF dF, .slice gF hF iF, .slice jF kF pF, .slice qF tF uF, .slice vF xF yF], .int .i64 120]) uE) (
  (0 : Int) ≤ 3 ∧ 3 < (4 : Int) ∧
  ∃ zF,
  qE.cell? ⟨g0.heap.size, 3, none⟩ = some (.int .i64 zF) ∧
  Calls Tryd.prog 42 #[.slice dE gE hE, .int .i64 zF] qE fun bG dG =>
  ∃ gG,
  bG = .returned (.bool gG) ∧
  sel (!gG) (
  canStore dG w.heap.size 0 6 ∧
  let hG := setCs dG w.heap.size 0 [.slice none 0 0, .slice none 0 0, .slice none 0 0, .slice none 0 0, .slice none 0 0, .slice none 0 0];
  ∃ iG jG kG,
  hG.cell? ⟨w.heap.size, 0, none⟩ = some (.slice iG jG kG) ∧
  ∃ pG qG tG,
  hG.cell? ⟨w.heap.size, 1, none⟩ = some (.slice pG qG tG) ∧
  ∃ uG vG xG,
  hG.cell? ⟨w.heap.size, 2, none⟩ = some (.slice uG vG xG) ∧
  ∃ yG zG bH,
  hG.cell? ⟨w.heap.size, 3, none⟩ = some (.slice yG zG bH) ∧
  ∃ dH gH hH,
  hG.cell? ⟨w.heap.size, 4, none⟩ = some (.slice dH gH hH) ∧
  ∃ iH jH kH,
  hG.cell? ⟨w.heap.size, 5, none⟩ = some (.slice iH jH kH) ∧
  R (.tuple #[.int .i64 0, .agg #[.slice iG jG kG, .slice pG qG tG, .slice uG vG xG, .slice yG zG bH, .slice dH gH hH, .slice iH jH kH], .int .i64 120]) hG) (
  ∃ pH : Int → World → Nat → Prop,
  (∃ n, pH 0 dG n) ∧
  ∀ qH : Env, ∀ tH uH vH, pH tH uH vH →
  sel (decide ((tH : Int) < ((dD : Int) : Int))) (
  (0 : Int) ≤ tH ∧ tH < (dD : Int) ∧
  needPtr bD fun xH yH =>
  ∃ zH,
  uH.cell? ⟨xH, yH + tH.toNat * 1, none⟩ = some (.int .i64 zH) ∧
  ∃ bI dI gI,
  ∃ hI, (Instr.makeSlice 29 (.int .i64 0) (.int .i64 (gE : Int))).run Tryd.prog uH = .ok (.slice bI dI gI) hI ∧
  ∃ iI : Option Addr → Nat → Nat → Int → World → Nat → Prop,
  (∃ n, iI bI dI gI 0 hI n) ∧
  ∀ jI : Env, ∀ kI pI qI tI uI vI, iI kI pI qI tI uI vI →
  sel (decide ((tI : Int) < ((gE : Int) : Int))) (
  (0 : Int) ≤ tI ∧ tI < (gE : Int) ∧
  needPtr dE fun xI yI =>
  ∃ zI,
  uI.cell? ⟨xI, yI + tI.toNat * 1, none⟩ = some (.int .i64 zI) ∧
  let bJ : Int := IntKind.i64.wrap (2 * h0);
  let dJ : Int := IntKind.i64.wrap (4 + bJ);
  let gJ : Int := IntKind.i64.wrap (zH - 1);
  (0 : Int) ≤ 3 ∧ 3 < (4 : Int) ∧
  ∃ hJ,
  uI.cell? ⟨g0.heap.size, 3, none⟩ = some (.int .i64 hJ) ∧
  let iJ : Int := IntKind.i64.wrap (gJ * hJ);
  let jJ : Int := IntKind.i64.wrap (dJ + iJ);
  let kJ : Int := IntKind.i64.wrap (jJ + zI);
  let pJ : Int := IntKind.i64.wrap (kJ - 1);
  (0 : Int) ≤ pJ ∧ pJ < (na0 : Int) ∧
  needPtr Aa0 fun qJ tJ =>
  ∃ uJ,
  uI.cell? ⟨qJ, tJ + pJ.toNat * 1, none⟩ = some (.int .i64 uJ) ∧
  sel (decide ((uJ : Int) < (0 : Int))) (
  canStore uI w.heap.size 0 6 ∧
  let vJ := setCs uI w.heap.size 0 [.slice none 0 0, .slice none 0 0, .slice none 0 0, .slice none 0 0, .slice none 0 0, .slice none 0 0];
  ∃ xJ yJ zJ,
  vJ.cell? ⟨w.heap.size, 0, none⟩ = some (.slice xJ yJ zJ) ∧
  ∃ bK dK gK,
  vJ.cell? ⟨w.heap.size, 1, none⟩ = some (.slice bK dK gK) ∧
  ∃ hK iK jK,
  vJ.cell? ⟨w.heap.size, 2, none⟩ = some (.slice hK iK jK) ∧
  ∃ kK pK qK,
  vJ.cell? ⟨w.heap.size, 3, none⟩ = some (.slice kK pK qK) ∧
  ∃ tK uK vK,
  vJ.cell? ⟨w.heap.size, 4, none⟩ = some (.slice tK uK vK) ∧
  ∃ xK yK zK,
  vJ.cell? ⟨w.heap.size, 5, none⟩ = some (.slice xK yK zK) ∧
  R (.tuple #[.int .i64 0, .agg #[.slice xJ yJ zJ, .slice bK dK gK, .slice hK iK jK, .slice kK pK qK, .slice tK uK vK, .slice xK yK zK], .int .i64 120]) vJ) (
  sel (decide ((65535 : Int) < (uJ : Int))) (
  canStore uI w.heap.size 0 6 ∧
  let bL := setCs uI w.heap.size 0 [.slice none 0 0, .slice none 0 0, .slice none 0 0, .slice none 0 0, .slice none 0 0, .slice none 0 0];
  ∃ dL gL hL,
  bL.cell? ⟨w.heap.size, 0, none⟩ = some (.slice dL gL hL) ∧
  ∃ iL jL kL,
  bL.cell? ⟨w.heap.size, 1, none⟩ = some (.slice iL jL kL) ∧
  ∃ pL qL tL,
  bL.cell? ⟨w.heap.size, 2, none⟩ = some (.slice pL qL tL) ∧
  ∃ uL vL xL,
  bL.cell? ⟨w.heap.size, 3, none⟩ = some (.slice uL vL xL) ∧
  ∃ yL zL bM,
  bL.cell? ⟨w.heap.size, 4, none⟩ = some (.slice yL zL bM) ∧
  ∃ dM gM hM,
  bL.cell? ⟨w.heap.size, 5, none⟩ = some (.slice dM gM hM) ∧
  R (.tuple #[.int .i64 0, .agg #[.slice dL gL hL, .slice iL jL kL, .slice pL qL tL, .slice uL vL xL, .slice yL zL bM, .slice dM gM hM], .int .i64 120]) bL) (
  let iM : Int := IntKind.u16.wrap uJ;
  let jM := World.alloc uI (.cells #[.int .u16 iM] 59);
  ∃ kM pM qM,
  ∃ tM, (Builtin.append_ #[29, 29] 29 #[.slice kI pI qI, .slice (some ⟨uI.heap.size, 0, none⟩) 1 1]).run Tryd.prog jM = .ok (.slice kM pM qM) tM ∧
  let uM : Int := IntKind.i64.wrap (tI + 1);
  ([.slice Aa0 na0 ca0, .pointer (some ⟨w.heap.size, 0, none⟩), .int .i64 h0, .pointer (some ⟨g0.heap.size, 0, none⟩), .pointer (some ⟨y8.heap.size, 0, none⟩), .slice dE gE hE, .int .i64 zH, .slice bD dD gD, .int .i64 (dD : Int), .int .i64 tH, .slice dE gE hE, .int .i64 (gE : Int)] : List Value) = ([.slice Aa0 na0 ca0, .pointer (some ⟨w.heap.size, 0, none⟩), .int .i64 h0, .pointer (some ⟨g0.heap.size, 0, none⟩), .pointer (some ⟨y8.heap.size, 0, none⟩), .slice dE gE hE, .int .i64 zH, .slice bD dD gD, .int .i64 (dD : Int), .int .i64 tH, .slice dE gE hE, .int .i64 (gE : Int)] : List Value) ∧ ∃ m, m < vI ∧ iI kM pM qM uM tM m))) (
  ∃ vM xM yM,
  uI.cell? ⟨y8.heap.size, 5, none⟩ = some (.slice vM xM yM) ∧
  let zM := World.alloc uI (.cells #[.slice kI pI qI] 29);
  ∃ bN dN gN,
  ∃ hN, (Builtin.append_ #[30, 30] 30 #[.slice vM xM yM, .slice (some ⟨uI.heap.size, 0, none⟩) 1 1]).run Tryd.prog zM = .ok (.slice bN dN gN) hN ∧
  canStore hN y8.heap.size 5 1 ∧
  let iN := setCs hN y8.heap.size 5 [.slice bN dN gN];
  let jN : Int := IntKind.i64.wrap (tH + 1);
  ([.slice Aa0 na0 ca0, .pointer (some ⟨w.heap.size, 0, none⟩), .int .i64 h0, .pointer (some ⟨g0.heap.size, 0, none⟩), .pointer (some ⟨y8.heap.size, 0, none⟩), .slice dE gE hE, .slice bD dD gD, .int .i64 (dD : Int)] : List Value) = ([.slice Aa0 na0 ca0, .pointer (some ⟨w.heap.size, 0, none⟩), .int .i64 h0, .pointer (some ⟨g0.heap.size, 0, none⟩), .pointer (some ⟨y8.heap.size, 0, none⟩), .slice dE gE hE, .slice bD dD gD, .int .i64 (dD : Int)] : List Value) ∧ ∃ m, m < vH ∧ pH jN iN m)) (
  ∃ kN pN qN,
  uH.cell? ⟨y8.heap.size, 0, none⟩ = some (.slice kN pN qN) ∧
  ∃ tN uN vN,
  uH.cell? ⟨y8.heap.size, 1, none⟩ = some (.slice tN uN vN) ∧
  ∃ xN yN zN,
  uH.cell? ⟨y8.heap.size, 2, none⟩ = some (.slice xN yN zN) ∧
  ∃ bP dP gP,
  uH.cell? ⟨y8.heap.size, 3, none⟩ = some (.slice bP dP gP) ∧
  ∃ hP iP jP,
  uH.cell? ⟨y8.heap.size, 4, none⟩ = some (.slice hP iP jP) ∧
  ∃ kP pP qP,
  uH.cell? ⟨y8.heap.size, 5, none⟩ = some (.slice kP pP qP) ∧
  Calls Tryd.prog 24 #[.agg #[.slice kN pN qN, .slice tN uN vN, .slice xN yN zN, .slice bP dP gP, .slice hP iP jP, .slice kP pP qP]] uH fun tP uP =>
  ∃ vP,
  tP = .returned (.bool vP) ∧
  sel (!vP) (
  canStore uP w.heap.size 0 6 ∧
  let xP := setCs uP w.heap.size 0 [.slice none 0 0, .slice none 0 0, .slice none 0 0, .slice none 0 0, .slice none 0 0, .slice none 0 0];
  ∃ yP zP bQ,
  xP.cell? ⟨w.heap.size, 0, none⟩ = some (.slice yP zP bQ) ∧
  ∃ dQ gQ hQ,
  xP.cell? ⟨w.heap.size, 1, none⟩ = some (.slice dQ gQ hQ) ∧
  ∃ iQ jQ kQ,
  xP.cell? ⟨w.heap.size, 2, none⟩ = some (.slice iQ jQ kQ) ∧
  ∃ pQ qQ tQ,
  xP.cell? ⟨w.heap.size, 3, none⟩ = some (.slice pQ qQ tQ) ∧
  ∃ uQ vQ xQ,
  xP.cell? ⟨w.heap.size, 4, none⟩ = some (.slice uQ vQ xQ) ∧
  ∃ yQ zQ bR,
  xP.cell? ⟨w.heap.size, 5, none⟩ = some (.slice yQ zQ bR) ∧
  R (.tuple #[.int .i64 0, .agg #[.slice yP zP bQ, .slice dQ gQ hQ, .slice iQ jQ kQ, .slice pQ qQ tQ, .slice uQ vQ xQ, .slice yQ zQ bR], .int .i64 120]) xP) (
  (0 : Int) ≤ 0 ∧ 0 < (4 : Int) ∧
  ∃ dR,
  uP.cell? ⟨g0.heap.size, 0, none⟩ = some (.int .i64 dR) ∧
  ∃ gR hR iR,
  uP.cell? ⟨y8.heap.size, 0, none⟩ = some (.slice gR hR iR) ∧
  ∃ jR kR pR,
  uP.cell? ⟨y8.heap.size, 1, none⟩ = some (.slice jR kR pR) ∧
  ∃ qR tR uR,
  uP.cell? ⟨y8.heap.size, 2, none⟩ = some (.slice qR tR uR) ∧
  ∃ vR xR yR,
  uP.cell? ⟨y8.heap.size, 3, none⟩ = some (.slice vR xR yR) ∧
  ∃ zR bS dS,
  uP.cell? ⟨y8.heap.size, 4, none⟩ = some (.slice zR bS dS) ∧
  ∃ gS hS iS,
  uP.cell? ⟨y8.heap.size, 5, none⟩ = some (.slice gS hS iS) ∧
  canStore uP w.heap.size 0 6 ∧
  let jS := setCs uP.drew w.heap.size 0 [.slice gR hR iR, .slice jR kR pR, .slice qR tR uR, .slice vR xR yR, .slice zR bS dS, .slice gS hS iS];
  ∃ kS pS qS,
  jS.cell? ⟨w.heap.size, 0, none⟩ = some (.slice kS pS qS) ∧
  ∃ tS uS vS,
  jS.cell? ⟨w.heap.size, 1, none⟩ = some (.slice tS uS vS) ∧
  ∃ xS yS zS,
  jS.cell? ⟨w.heap.size, 2, none⟩ = some (.slice xS yS zS) ∧
  ∃ bT dT gT,
  jS.cell? ⟨w.heap.size, 3, none⟩ = some (.slice bT dT gT) ∧
  ∃ hT iT jT,
  jS.cell? ⟨w.heap.size, 4, none⟩ = some (.slice hT iT jT) ∧
  ∃ kT pT qT,
  jS.cell? ⟨w.heap.size, 5, none⟩ = some (.slice kT pT qT) ∧
  R (.tuple #[.int .i64 dR, .agg #[.slice kS pS qS, .slice tS uS vS, .slice xS yS zS, .slice bT dT gT, .slice hT iT jT, .slice kT pT qT], .int .i64 0]) jS)))))))))) (
  canStore b2 w.heap.size 0 6 ∧
  let tT := setCs b2 w.heap.size 0 [.slice none 0 0, .slice none 0 0, .slice none 0 0, .slice none 0 0, .slice none 0 0, .slice none 0 0];
  ∃ uT vT xT,
  tT.cell? ⟨w.heap.size, 0, none⟩ = some (.slice uT vT xT) ∧
  ∃ yT zT bU,
  tT.cell? ⟨w.heap.size, 1, none⟩ = some (.slice yT zT bU) ∧
  ∃ dU gU hU,
  tT.cell? ⟨w.heap.size, 2, none⟩ = some (.slice dU gU hU) ∧
  ∃ iU jU kU,
  tT.cell? ⟨w.heap.size, 3, none⟩ = some (.slice iU jU kU) ∧
  ∃ pU qU tU,
  tT.cell? ⟨w.heap.size, 4, none⟩ = some (.slice pU qU tU) ∧
  ∃ uU vU xU,
  tT.cell? ⟨w.heap.size, 5, none⟩ = some (.slice uU vU xU) ∧
  R (.tuple #[.int .i64 0, .agg #[.slice uT vT xT, .slice yT zT bU, .slice dU gU hU, .slice iU jU kU, .slice pU qU tU, .slice uU vU xU], .int .i64 120]) tT)) (
  canStore b2 w.heap.size 0 6 ∧
  let yU := setCs b2 w.heap.size 0 [.slice none 0 0, .slice none 0 0, .slice none 0 0, .slice none 0 0, .slice none 0 0, .slice none 0 0];
  ∃ zU bV dV,
  yU.cell? ⟨w.heap.size, 0, none⟩ = some (.slice zU bV dV) ∧
  ∃ gV hV iV,
  yU.cell? ⟨w.heap.size, 1, none⟩ = some (.slice gV hV iV) ∧
  ∃ jV kV pV,
  yU.cell? ⟨w.heap.size, 2, none⟩ = some (.slice jV kV pV) ∧
  ∃ qV tV uV,
  yU.cell? ⟨w.heap.size, 3, none⟩ = some (.slice qV tV uV) ∧
  ∃ vV xV yV,
  yU.cell? ⟨w.heap.size, 4, none⟩ = some (.slice vV xV yV) ∧
  ∃ zV bW dW,
  yU.cell? ⟨w.heap.size, 5, none⟩ = some (.slice zV bW dW) ∧
  R (.tuple #[.int .i64 0, .agg #[.slice zU bV dV, .slice gV hV iV, .slice jV kV pV, .slice qV tV uV, .slice vV xV yV, .slice zV bW dW], .int .i64 120]) yU)) (
  canStore b2 w.heap.size 0 6 ∧
  let gW := setCs b2 w.heap.size 0 [.slice none 0 0, .slice none 0 0, .slice none 0 0, .slice none 0 0, .slice none 0 0, .slice none 0 0];
  ∃ hW iW jW,
  gW.cell? ⟨w.heap.size, 0, none⟩ = some (.slice hW iW jW) ∧
  ∃ kW pW qW,
  gW.cell? ⟨w.heap.size, 1, none⟩ = some (.slice kW pW qW) ∧
  ∃ tW uW vW,
  gW.cell? ⟨w.heap.size, 2, none⟩ = some (.slice tW uW vW) ∧
  ∃ xW yW zW,
  gW.cell? ⟨w.heap.size, 3, none⟩ = some (.slice xW yW zW) ∧
  ∃ bX dX gX,
  gW.cell? ⟨w.heap.size, 4, none⟩ = some (.slice bX dX gX) ∧
  ∃ hX iX jX,
  gW.cell? ⟨w.heap.size, 5, none⟩ = some (.slice hX iX jX) ∧
  R (.tuple #[.int .i64 0, .agg #[.slice hW iW jW, .slice kW pW qW, .slice tW uW vW, .slice xW yW zW, .slice bX dX gX, .slice hX iX jX], .int .i64 120]) gW)) (
  canStore b2 w.heap.size 0 6 ∧
  let kX := setCs b2 w.heap.size 0 [.slice none 0 0, .slice none 0 0, .slice none 0 0, .slice none 0 0, .slice none 0 0, .slice none 0 0];
  ∃ pX qX tX,
  kX.cell? ⟨w.heap.size, 0, none⟩ = some (.slice pX qX tX) ∧
  ∃ uX vX xX,
  kX.cell? ⟨w.heap.size, 1, none⟩ = some (.slice uX vX xX) ∧
  ∃ yX zX bY,
  kX.cell? ⟨w.heap.size, 2, none⟩ = some (.slice yX zX bY) ∧
  ∃ dY gY hY,
  kX.cell? ⟨w.heap.size, 3, none⟩ = some (.slice dY gY hY) ∧
  ∃ iY jY kY,
  kX.cell? ⟨w.heap.size, 4, none⟩ = some (.slice iY jY kY) ∧
  ∃ pY qY tY,
  kX.cell? ⟨w.heap.size, 5, none⟩ = some (.slice pY qY tY) ∧
  R (.tuple #[.int .i64 0, .agg #[.slice pX qX tX, .slice uX vX xX, .slice yX zX bY, .slice dY gY hY, .slice iY jY kY, .slice pY qY tY], .int .i64 120]) kX)) (
  canStore b2 w.heap.size 0 6 ∧
  let uY := setCs b2 w.heap.size 0 [.slice none 0 0, .slice none 0 0, .slice none 0 0, .slice none 0 0, .slice none 0 0, .slice none 0 0];
  ∃ vY xY yY,
  uY.cell? ⟨w.heap.size, 0, none⟩ = some (.slice vY xY yY) ∧
  ∃ zY bZ dZ,
  uY.cell? ⟨w.heap.size, 1, none⟩ = some (.slice zY bZ dZ) ∧
  ∃ gZ hZ iZ,
  uY.cell? ⟨w.heap.size, 2, none⟩ = some (.slice gZ hZ iZ) ∧
  ∃ jZ kZ pZ,
  uY.cell? ⟨w.heap.size, 3, none⟩ = some (.slice jZ kZ pZ) ∧
  ∃ qZ tZ uZ,
  uY.cell? ⟨w.heap.size, 4, none⟩ = some (.slice qZ tZ uZ) ∧
  ∃ vZ xZ yZ,
  uY.cell? ⟨w.heap.size, 5, none⟩ = some (.slice vZ xZ yZ) ∧
  R (.tuple #[.int .i64 0, .agg #[.slice vY xY yY, .slice zY bZ dZ, .slice gZ hZ iZ, .slice jZ kZ pZ, .slice qZ tZ uZ, .slice vZ xZ yZ], .int .i64 120]) uY))
theorem f16.eq (Aa0 : Option Addr) (na0 ca0 : Nat) (a1 : Nat) (w : World) (R : Value → World → Prop) : f16.VC Aa0 na0 ca0 a1 w R = funV Tryd.prog Tryd.f16 f16.AL f16.AC #[.slice Aa0 na0 ca0, .pointer (some ⟨a1, 0, none⟩)] w R := by kernel_rfl
theorem f16.calls {Aa0 : Option Addr} {na0 ca0 : Nat} {a1 : Nat} {w : World} {R : Value → World → Prop} (h : f16.VC Aa0 na0 ca0 a1 w R) : Calls Tryd.prog 16 #[.slice Aa0 na0 ca0, .pointer (some ⟨a1, 0, none⟩)] w fun e w' => ∃ v, e = .returned v ∧ R v w' :=
  funV_sound (fn := Tryd.f16) (AL := f16.AL) (AC := f16.AC) W16.mixed (by kernel_rfl) (by rw [← f16.eq Aa0 na0 ca0 a1]; exact h)

/-- cmp.isNaN[int] -/
def f68.AL : Nat → Option Ann := fun _ => none
def f68.AC : Nat → Option Ann := fun _ => none
def f68.VC (xa0 : Int) (w : World) (R : Value → World → Prop) : Prop :=
  R (.bool ((xa0 : Int) != (xa0 : Int))) w
theorem f68.eq (xa0 : Int) (w : World) (R : Value → World → Prop) : f68.VC xa0 w R = funV Tryd.prog Tryd.f68 f68.AL f68.AC #[.int .i64 xa0] w R := by kernel_rfl
theorem f68.calls {xa0 : Int} {w : World} {R : Value → World → Prop} (h : f68.VC xa0 w R) : Calls Tryd.prog 68 #[.int .i64 xa0] w fun e w' => ∃ v, e = .returned v ∧ R v w' :=
  funV_sound (fn := Tryd.f68) (AL := f68.AL) (AC := f68.AC) W16.mixed (by kernel_rfl) (by rw [← f68.eq xa0]; exact h)

/-- gatehouse/gatehouselaw12.awake -/
def f5.AL : Nat → Option Ann := fun _ => none
def f5.AC : Nat → Option Ann := fun _ => none
def f5.VC  (w : World) (R : Value → World → Prop) : Prop :=
  Calls Tryd.prog 6 #[] w fun b0 d0 =>
  ∃ g0,
  b0 = .returned (.pointer g0) ∧
  sel (Option.isNone g0) (
  R (.bool false) d0) (
  Calls Tryd.prog 20 #[] d0 fun h0 i0 =>
  ∃ j0 k0 p0 q0 t0 u0 v0 x0 y0 z0 b1 d1 g1 h1 i1 j1 k1 p1,
  h0 = .returned (.agg #[.slice j0 k0 p0, .slice q0 t0 u0, .slice v0 x0 y0, .slice z0 b1 d1, .slice g1 h1 i1, .slice j1 k1 p1]) ∧
  Calls Tryd.prog 19 #[.agg #[.slice j0 k0 p0, .slice q0 t0 u0, .slice v0 x0 y0, .slice z0 b1 d1, .slice g1 h1 i1, .slice j1 k1 p1]] i0 fun q1 t1 =>
  ∃ u1,
  q1 = .returned (.int .i64 u1) ∧
  sel ((u1 : Int) != (21 : Int)) (
  R (.bool false) t1) (
  Calls Tryd.prog 20 #[] t1 fun v1 x1 =>
  ∃ y1 z1 b2 d2 g2 h2 i2 j2 k2 p2 q2 t2 u2 v2 x2 y2 z2 b3,
  v1 = .returned (.agg #[.slice y1 z1 b2, .slice d2 g2 h2, .slice i2 j2 k2, .slice p2 q2 t2, .slice u2 v2 x2, .slice y2 z2 b3]) ∧
  Calls Tryd.prog 9 #[.int .i64 5, .agg #[.slice y1 z1 b2, .slice d2 g2 h2, .slice i2 j2 k2, .slice p2 q2 t2, .slice u2 v2 x2, .slice y2 z2 b3], .pointer g0] x1 fun d3 g3 =>
  ∃ h3 i3 j3 k3,
  d3 = .returned (.tuple #[.slice h3 i3 j3, .int .i64 k3]) ∧
  sel ((k3 : Int) != (0 : Int)) (
  R (.bool false) g3) (
  let p3 := World.alloc g3 (.cells #[.int .i64 5, .int .i64 8, .int .i64 1, .int .i64 1, .int .i64 0, .int .i64 0, .int .i64 7, .int .i64 1, .int .i64 14, .int .i64 1, .int .i64 0, .int .i64 0, .int .i64 0, .int .i64 0, .int .i64 0, .int .i64 0, .int .i64 0, .int .i64 0, .int .i64 9, .int .i64 1, .int .i64 1] 3);
  Calls Tryd.prog 15 #[.slice h3 i3 j3, .slice (some ⟨g3.heap.size, 0, none⟩) 21 21] p3 fun q3 t3 =>
  ∃ u3,
  q3 = .returned (.bool u3) ∧
  sel (!u3) (
  R (.bool false) t3) (
  Calls Tryd.prog 21 #[.slice h3 i3 j3, .int .i64 2, .int .i64 3, .int .i64 1] t3 fun v3 x3 =>
  ∃ y3 z3,
  v3 = .returned (.tuple #[.bool y3, .int .i64 z3]) ∧
  Calls Tryd.prog 21 #[.slice h3 i3 j3, .int .i64 2, .int .i64 3, .int .i64 2] x3 fun b4 d4 =>
  ∃ g4 h4,
  b4 = .returned (.tuple #[.bool g4, .int .i64 h4]) ∧
  Calls Tryd.prog 16 #[.slice h3 i3 j3, .pointer g0] d4 fun i4 j4 =>
  ∃ k4 p4 q4 t4 u4 v4 x4 y4 z4 b5 d5 g5 h5 i5 j5 k5 p5 q5 t5 u5,
  i4 = .returned (.tuple #[.int .i64 k4, .agg #[.slice p4 q4 t4, .slice u4 v4 x4, .slice y4 z4 b5, .slice d5 g5 h5, .slice i5 j5 k5, .slice p5 q5 t5], .int .i64 u5]) ∧
  let v5 := World.alloc j4 (.cells #[.slice none 0 0, .slice none 0 0, .slice none 0 0, .slice none 0 0, .slice none 0 0, .slice none 0 0] 32);
  canStore v5 j4.heap.size 0 6 ∧
  let x5 := setCs v5 j4.heap.size 0 [.slice p4 q4 t4, .slice u4 v4 x4, .slice y4 z4 b5, .slice d5 g5 h5, .slice i5 j5 k5, .slice p5 q5 t5];
  sel y3 (
  sel ((z3 : Int) == (9 : Int)) (
  sel (!g4) (
  sel ((h4 : Int) == (6 : Int)) (
  sel ((k4 : Int) == (5 : Int)) (
  sel ((u5 : Int) == (0 : Int)) (
  ∃ y5 z5 b6,
  x5.cell? ⟨j4.heap.size, 1, none⟩ = some (.slice y5 z5 b6) ∧
  sel (((z5 : Int) : Int) == (1 : Int)) (
  Calls Tryd.prog 22 #[.int .i64 9, .int .i64 8] x5 fun d6 g6 =>
  ∃ h6,
  d6 = .returned (.int .i64 h6) ∧
  R (.bool ((h6 : Int) == (7 : Int))) g6) (
  R (.bool false) x5)) (
  R (.bool false) x5)) (
  R (.bool false) x5)) (
  R (.bool false) x5)) (
  R (.bool false) x5)) (
  R (.bool false) x5)) (
  R (.bool false) x5)))))
theorem f5.eq  (w : World) (R : Value → World → Prop) : f5.VC  w R = funV Tryd.prog Tryd.f5 f5.AL f5.AC #[] w R := by kernel_rfl
theorem f5.calls {w : World} {R : Value → World → Prop} (h : f5.VC  w R) : Calls Tryd.prog 5 #[] w fun e w' => ∃ v, e = .returned v ∧ R v w' :=
  funV_sound (fn := Tryd.f5) (AL := f5.AL) (AC := f5.AC) W16.mixed (by kernel_rfl) (by rw [← f5.eq ]; exact h)

end Go.Proofs.YtjmlfknogjaemaaDoor
