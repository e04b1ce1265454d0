/- The plain statements of some functions, printed by vcgen.py. -/
import Derived.Test.YtjmlfknogjaemaaDoorM5
import Derived.Test.YtjmlfknogjaemaaDoorProg
import Derived.KernelRfl
import Derived.Test.YtjmlfknogjaemaaDoorM34
import Derived.Test.YtjmlfknogjaemaaDoorM31
set_option maxRecDepth 100000
set_option maxHeartbeats 4000000
set_option linter.unusedVariables false
namespace Go.Proofs.YtjmlfknogjaemaaDoor
open Go Go.Proofs.YtjmlfknogjaemaaDoor.Vc
theorem DW3.mixed : Tryd.prog.follows .mixedOrders = true := by kernel_rfl
/-- gatehouse/gatehouselaw12.PageFresh -/
def f4.AL : Nat → Option Ann := fun r => match r with | 20 => some ⟨[(19, .int .i64)], [1, 3, 6, 7, 9, 11, 13, 16, 18]⟩ | 25 => some ⟨[(7, .slice), (20, .slice), (21, .int .i64)], [1, 3, 6, 9, 11, 13, 16, 18]⟩ | _ => none
def f4.AC : Nat → Option Ann := fun r => match r with | 10 => some ⟨[(7, .slice), (8, .int .i64)], [1, 3, 5, 6]⟩ | _ => none
def f4.VC (Aa0_0 : Option Addr) (na0_0 ca0_0 : Nat) (Aa0_1 : Option Addr) (na0_1 ca0_1 : Nat) (Aa0_2 : Option Addr) (na0_2 ca0_2 : Nat) (Aa0_3 : Option Addr) (na0_3 ca0_3 : Nat) (Aa0_4 : Option Addr) (na0_4 ca0_4 : Nat) (Aa0_5 : Option Addr) (na0_5 ca0_5 : Nat) (w : World) (R : Value → World → Prop) : Prop :=
  let b0 := World.alloc w (.cells #[.slice Aa0_0 na0_0 ca0_0, .slice Aa0_1 na0_1 ca0_1, .slice Aa0_2 na0_2 ca0_2, .slice Aa0_3 na0_3 ca0_3, .slice Aa0_4 na0_4 ca0_4, .slice Aa0_5 na0_5 ca0_5] 32);
  Calls Tryd.prog 5 #[] b0 fun d0 g0 =>
  ∃ h0,
  d0 = .returned (.bool h0) ∧
  ∃ i0 j0 k0,
  g0.cell? ⟨w.heap.size, 0, none⟩ = some (.slice i0 j0 k0) ∧
  ∃ p0 q0 t0,
  g0.cell? ⟨w.heap.size, 1, none⟩ = some (.slice p0 q0 t0) ∧
  ∃ u0 v0 x0,
  g0.cell? ⟨w.heap.size, 2, none⟩ = some (.slice u0 v0 x0) ∧
  ∃ y0 z0 b1,
  g0.cell? ⟨w.heap.size, 3, none⟩ = some (.slice y0 z0 b1) ∧
  ∃ d1 g1 h1,
  g0.cell? ⟨w.heap.size, 4, none⟩ = some (.slice d1 g1 h1) ∧
  ∃ i1 j1 k1,
  g0.cell? ⟨w.heap.size, 5, none⟩ = some (.slice i1 j1 k1) ∧
  Calls Tryd.prog 12 #[.agg #[.slice i0 j0 k0, .slice p0 q0 t0, .slice u0 v0 x0, .slice y0 z0 b1, .slice d1 g1 h1, .slice i1 j1 k1]] g0 fun p1 q1 =>
  ∃ t1,
  p1 = .returned (.bool t1) ∧
  sel (!t1) (
  R (.bool h0) q1) (
  Calls Tryd.prog 6 #[] q1 fun u1 v1 =>
  ∃ x1,
  u1 = .returned (.pointer x1) ∧
  sel (Option.isNone x1) (
  R (.bool false) v1) (
  ∃ y1 z1 b2,
  v1.cell? ⟨w.heap.size, 0, none⟩ = some (.slice y1 z1 b2) ∧
  ∃ d2 g2 h2,
  v1.cell? ⟨w.heap.size, 1, none⟩ = some (.slice d2 g2 h2) ∧
  ∃ i2 j2 k2,
  v1.cell? ⟨w.heap.size, 2, none⟩ = some (.slice i2 j2 k2) ∧
  ∃ p2 q2 t2,
  v1.cell? ⟨w.heap.size, 3, none⟩ = some (.slice p2 q2 t2) ∧
  ∃ u2 v2 x2,
  v1.cell? ⟨w.heap.size, 4, none⟩ = some (.slice u2 v2 x2) ∧
  ∃ y2 z2 b3,
  v1.cell? ⟨w.heap.size, 5, none⟩ = some (.slice y2 z2 b3) ∧
  Calls Tryd.prog 13 #[.agg #[.slice y1 z1 b2, .slice d2 g2 h2, .slice i2 j2 k2, .slice p2 q2 t2, .slice u2 v2 x2, .slice y2 z2 b3]] v1 fun d3 g3 =>
  ∃ h3 i3 j3 k3 p3 q3 t3 u3 v3 x3 y3 z3 b4 d4 g4 h4 i4 j4,
  d3 = .returned (.agg #[.slice h3 i3 j3, .slice k3 p3 q3, .slice t3 u3 v3, .slice x3 y3 z3, .slice b4 d4 g4, .slice h4 i4 j4]) ∧
  let k4 := World.alloc g3 (.cells #[.slice none 0 0, .slice none 0 0, .slice none 0 0, .slice none 0 0, .slice none 0 0, .slice none 0 0] 32);
  canStore k4 g3.heap.size 0 6 ∧
  let p4 := setCs k4 g3.heap.size 0 [.slice h3 i3 j3, .slice k3 p3 q3, .slice t3 u3 v3, .slice x3 y3 z3, .slice b4 d4 g4, .slice h4 i4 j4];
  ∃ q4 : Option Addr → Nat → Nat → Int → World → Prop,
  (∃ t4 u4 v4,
  p4.cell? ⟨g3.heap.size, 0, none⟩ = some (.slice t4 u4 v4) ∧
  ∃ x4 y4 z4,
  p4.cell? ⟨g3.heap.size, 1, none⟩ = some (.slice x4 y4 z4) ∧
  ∃ b5 d5 g5,
  p4.cell? ⟨g3.heap.size, 2, none⟩ = some (.slice b5 d5 g5) ∧
  ∃ h5 i5 j5,
  p4.cell? ⟨g3.heap.size, 3, none⟩ = some (.slice h5 i5 j5) ∧
  ∃ k5 p5 q5,
  p4.cell? ⟨g3.heap.size, 4, none⟩ = some (.slice k5 p5 q5) ∧
  ∃ t5 u5 v5,
  p4.cell? ⟨g3.heap.size, 5, none⟩ = some (.slice t5 u5 v5) ∧
  Calls Tryd.prog 9 #[.int .i64 3, .agg #[.slice t4 u4 v4, .slice x4 y4 z4, .slice b5 d5 g5, .slice h5 i5 j5, .slice k5 p5 q5, .slice t5 u5 v5], .pointer x1] p4 fun x5 y5 =>
  ∃ z5 b6 d6 g6,
  x5 = .returned (.tuple #[.slice z5 b6 d6, .int .i64 g6]) ∧
  ([.pointer (some ⟨w.heap.size, 0, none⟩), .bool h0, .pointer x1, .pointer (some ⟨g3.heap.size, 0, none⟩)] : List Value) = ([.pointer (some ⟨w.heap.size, 0, none⟩), .bool h0, .pointer x1, .pointer (some ⟨g3.heap.size, 0, none⟩)] : List Value) ∧ q4 z5 b6 d6 g6 y5) ∧
  ∀ h6 : Env, ∀ i6 j6 k6 p6 q6, q4 i6 j6 k6 p6 q6 →
  ∃ t6 u6 v6,
  q6.cell? ⟨g3.heap.size, 0, none⟩ = some (.slice t6 u6 v6) ∧
  ∃ x6 y6 z6,
  q6.cell? ⟨g3.heap.size, 1, none⟩ = some (.slice x6 y6 z6) ∧
  ∃ b7 d7 g7,
  q6.cell? ⟨g3.heap.size, 2, none⟩ = some (.slice b7 d7 g7) ∧
  ∃ h7 i7 j7,
  q6.cell? ⟨g3.heap.size, 3, none⟩ = some (.slice h7 i7 j7) ∧
  ∃ k7 p7 q7,
  q6.cell? ⟨g3.heap.size, 4, none⟩ = some (.slice k7 p7 q7) ∧
  ∃ t7 u7 v7,
  q6.cell? ⟨g3.heap.size, 5, none⟩ = some (.slice t7 u7 v7) ∧
  Calls Tryd.prog 9 #[.int .i64 3, .agg #[.slice t6 u6 v6, .slice x6 y6 z6, .slice b7 d7 g7, .slice h7 i7 j7, .slice k7 p7 q7, .slice t7 u7 v7], .pointer x1] q6 fun x7 y7 =>
  ∃ z7 b8 d8 g8,
  x7 = .returned (.tuple #[.slice z7 b8 d8, .int .i64 g8]) ∧
  Calls Tryd.prog 14 #[.slice z7 b8 d8, .int .i64 0] y7 fun h8 i8 =>
  ∃ j8 k8 p8,
  h8 = .returned (.slice j8 k8 p8) ∧
  sel ((p6 : Int) != (0 : Int)) (
  R (.bool false) i8) (
  Calls Tryd.prog 15 #[.slice i6 j6 k6, .slice j8 k8 p8] i8 fun q8 t8 =>
  ∃ u8,
  q8 = .returned (.bool u8) ∧
  sel (!u8) (
  R (.bool false) t8) (
  Calls Tryd.prog 16 #[.slice z7 b8 d8, .pointer x1] t8 fun v8 x8 =>
  ∃ y8 z8 b9 d9 g9 h9 i9 j9 k9 p9 q9 t9 u9 v9 x9 y9 z9 bA dA gA,
  v8 = .returned (.tuple #[.int .i64 y8, .agg #[.slice z8 b9 d9, .slice g9 h9 i9, .slice j9 k9 p9, .slice q9 t9 u9, .slice v9 x9 y9, .slice z9 bA dA], .int .i64 gA]) ∧
  let hA := World.alloc x8 (.cells #[.slice none 0 0, .slice none 0 0, .slice none 0 0, .slice none 0 0, .slice none 0 0, .slice none 0 0] 32);
  canStore hA x8.heap.size 0 6 ∧
  let iA := setCs hA x8.heap.size 0 [.slice z8 b9 d9, .slice g9 h9 i9, .slice j9 k9 p9, .slice q9 t9 u9, .slice v9 x9 y9, .slice z9 bA dA];
  Calls Tryd.prog 16 #[.slice z7 b8 d8, .pointer x1] iA fun jA kA =>
  ∃ pA qA tA uA vA xA yA zA bB dB gB hB iB jB kB pB qB tB uB vB,
  jA = .returned (.tuple #[.int .i64 pA, .agg #[.slice qA tA uA, .slice vA xA yA, .slice zA bB dB, .slice gB hB iB, .slice jB kB pB, .slice qB tB uB], .int .i64 vB]) ∧
  let xB := World.alloc kA (.cells #[.slice none 0 0, .slice none 0 0, .slice none 0 0, .slice none 0 0, .slice none 0 0, .slice none 0 0] 32);
  canStore xB kA.heap.size 0 6 ∧
  let yB := setCs xB kA.heap.size 0 [.slice qA tA uA, .slice vA xA yA, .slice zA bB dB, .slice gB hB iB, .slice jB kB pB, .slice qB tB uB];
  ∃ zB bC dC,
  yB.cell? ⟨kA.heap.size, 0, none⟩ = some (.slice zB bC dC) ∧
  ∃ gC hC iC,
  yB.cell? ⟨kA.heap.size, 1, none⟩ = some (.slice gC hC iC) ∧
  ∃ jC kC pC,
  yB.cell? ⟨kA.heap.size, 2, none⟩ = some (.slice jC kC pC) ∧
  ∃ qC tC uC,
  yB.cell? ⟨kA.heap.size, 3, none⟩ = some (.slice qC tC uC) ∧
  ∃ vC xC yC,
  yB.cell? ⟨kA.heap.size, 4, none⟩ = some (.slice vC xC yC) ∧
  ∃ zC bD dD,
  yB.cell? ⟨kA.heap.size, 5, none⟩ = some (.slice zC bD dD) ∧
  Calls Tryd.prog 13 #[.agg #[.slice zB bC dC, .slice gC hC iC, .slice jC kC pC, .slice qC tC uC, .slice vC xC yC, .slice zC bD dD]] yB fun gD hD =>
  ∃ iD jD kD pD qD tD uD vD xD yD zD bE dE gE hE iE jE kE,
  gD = .returned (.agg #[.slice iD jD kD, .slice pD qD tD, .slice uD vD xD, .slice yD zD bE, .slice dE gE hE, .slice iE jE kE]) ∧
  let pE := World.alloc hD (.cells #[.slice none 0 0, .slice none 0 0, .slice none 0 0, .slice none 0 0, .slice none 0 0, .slice none 0 0] 32);
  canStore pE hD.heap.size 0 6 ∧
  let qE := setCs pE hD.heap.size 0 [.slice iD jD kD, .slice pD qD tD, .slice uD vD xD, .slice yD zD bE, .slice dE gE hE, .slice iE jE kE];
  sel ((gA : Int) != (0 : Int)) (
  R (.bool false) qE) (
  ∃ tE uE vE,
  qE.cell? ⟨x8.heap.size, 0, none⟩ = some (.slice tE uE vE) ∧
  ∃ xE yE zE,
  qE.cell? ⟨x8.heap.size, 1, none⟩ = some (.slice xE yE zE) ∧
  ∃ bF dF gF,
  qE.cell? ⟨x8.heap.size, 2, none⟩ = some (.slice bF dF gF) ∧
  ∃ hF iF jF,
  qE.cell? ⟨x8.heap.size, 3, none⟩ = some (.slice hF iF jF) ∧
  ∃ kF pF qF,
  qE.cell? ⟨x8.heap.size, 4, none⟩ = some (.slice kF pF qF) ∧
  ∃ tF uF vF,
  qE.cell? ⟨x8.heap.size, 5, none⟩ = some (.slice tF uF vF) ∧
  ∃ xF yF zF,
  qE.cell? ⟨hD.heap.size, 0, none⟩ = some (.slice xF yF zF) ∧
  ∃ bG dG gG,
  qE.cell? ⟨hD.heap.size, 1, none⟩ = some (.slice bG dG gG) ∧
  ∃ hG iG jG,
  qE.cell? ⟨hD.heap.size, 2, none⟩ = some (.slice hG iG jG) ∧
  ∃ kG pG qG,
  qE.cell? ⟨hD.heap.size, 3, none⟩ = some (.slice kG pG qG) ∧
  ∃ tG uG vG,
  qE.cell? ⟨hD.heap.size, 4, none⟩ = some (.slice tG uG vG) ∧
  ∃ xG yG zG,
  qE.cell? ⟨hD.heap.size, 5, none⟩ = some (.slice xG yG zG) ∧
  Calls Tryd.prog 17 #[.agg #[.slice tE uE vE, .slice xE yE zE, .slice bF dF gF, .slice hF iF jF, .slice kF pF qF, .slice tF uF vF], .agg #[.slice xF yF zF, .slice bG dG gG, .slice hG iG jG, .slice kG pG qG, .slice tG uG vG, .slice xG yG zG]] qE fun bH dH =>
  ∃ gH,
  bH = .returned (.bool gH) ∧
  sel (!gH) (
  R (.bool false) dH) (
  ∃ hH : Int → World → Nat → Prop,
  (∃ n, hH 0 dH n) ∧
  ∀ iH : Env, ∀ jH kH pH, hH jH kH pH →
  sel (decide ((jH : Int) < ((j6 : Int) : Int))) (
  (0 : Int) ≤ jH ∧ jH < (j6 : Int) ∧
  needPtr i6 fun qH tH =>
  canStore kH qH (tH + jH.toNat * 1) 1 ∧
  let uH := setCs kH qH (tH + jH.toNat * 1) [.int .i64 (-1)];
  let vH : Int := IntKind.i64.wrap (jH + 1);
  ([.pointer (some ⟨w.heap.size, 0, none⟩), .bool h0, .pointer (some ⟨g3.heap.size, 0, none⟩), .slice i6 j6 k6, .slice z7 b8 d8, .slice j8 k8 p8, .pointer (some ⟨x8.heap.size, 0, none⟩), .pointer (some ⟨kA.heap.size, 0, none⟩), .pointer (some ⟨hD.heap.size, 0, none⟩)] : List Value) = ([.pointer (some ⟨w.heap.size, 0, none⟩), .bool h0, .pointer (some ⟨g3.heap.size, 0, none⟩), .slice i6 j6 k6, .slice z7 b8 d8, .slice j8 k8 p8, .pointer (some ⟨x8.heap.size, 0, none⟩), .pointer (some ⟨kA.heap.size, 0, none⟩), .pointer (some ⟨hD.heap.size, 0, none⟩)] : List Value) ∧ ∃ m, m < pH ∧ hH vH uH m) (
  Calls Tryd.prog 14 #[.slice i6 j6 k6, .int .i64 0] kH fun xH yH =>
  ∃ zH bI dI,
  xH = .returned (.slice zH bI dI) ∧
  ∃ gI : Option Addr → Nat → Nat → Option Addr → Nat → Nat → Int → World → Nat → Prop,
  (∃ n, gI i6 j6 k6 zH bI dI 0 yH n) ∧
  ∀ hI : Env, ∀ iI jI kI pI qI tI uI vI xI, gI iI jI kI pI qI tI uI vI xI →
  sel (decide ((uI : Int) < (40 : Int))) (
  let yI := World.alloc vI (.cells #[.int .i64 (-2)] 3);
  ∃ zI bJ dJ,
  ∃ gJ, (Builtin.append_ #[28, 28] 28 #[.slice iI jI kI, .slice (some ⟨vI.heap.size, 0, none⟩) 1 1]).run Tryd.prog yI = .ok (.slice zI bJ dJ) gJ ∧
  let hJ := World.alloc gJ (.cells #[.int .i64 (-2)] 3);
  ∃ iJ jJ kJ,
  ∃ pJ, (Builtin.append_ #[28, 28] 28 #[.slice pI qI tI, .slice (some ⟨gJ.heap.size, 0, none⟩) 1 1]).run Tryd.prog hJ = .ok (.slice iJ jJ kJ) pJ ∧
  let qJ : Int := IntKind.i64.wrap (uI + 1);
  ([.pointer (some ⟨w.heap.size, 0, none⟩), .bool h0, .pointer (some ⟨g3.heap.size, 0, none⟩), .slice z7 b8 d8, .slice j8 k8 p8, .pointer (some ⟨x8.heap.size, 0, none⟩), .pointer (some ⟨kA.heap.size, 0, none⟩), .pointer (some ⟨hD.heap.size, 0, none⟩)] : List Value) = ([.pointer (some ⟨w.heap.size, 0, none⟩), .bool h0, .pointer (some ⟨g3.heap.size, 0, none⟩), .slice z7 b8 d8, .slice j8 k8 p8, .pointer (some ⟨x8.heap.size, 0, none⟩), .pointer (some ⟨kA.heap.size, 0, none⟩), .pointer (some ⟨hD.heap.size, 0, none⟩)] : List Value) ∧ ∃ m, m < xI ∧ gI zI bJ dJ iJ jJ kJ qJ pJ m) (
  ∃ tJ uJ vJ,
  vI.cell? ⟨x8.heap.size, 0, none⟩ = some (.slice tJ uJ vJ) ∧
  ∃ xJ yJ zJ,
  vI.cell? ⟨x8.heap.size, 1, none⟩ = some (.slice xJ yJ zJ) ∧
  ∃ bK dK gK,
  vI.cell? ⟨x8.heap.size, 2, none⟩ = some (.slice bK dK gK) ∧
  ∃ hK iK jK,
  vI.cell? ⟨x8.heap.size, 3, none⟩ = some (.slice hK iK jK) ∧
  ∃ kK pK qK,
  vI.cell? ⟨x8.heap.size, 4, none⟩ = some (.slice kK pK qK) ∧
  ∃ tK uK vK,
  vI.cell? ⟨x8.heap.size, 5, none⟩ = some (.slice tK uK vK) ∧
  Calls Tryd.prog 18 #[.agg #[.slice tJ uJ vJ, .slice xJ yJ zJ, .slice bK dK gK, .slice hK iK jK, .slice kK pK qK, .slice tK uK vK]] vI fun xK yK =>
  ∃ zK,
  xK = .returned (.bool zK) ∧
  sel h0 (
  sel zK (
  Calls Tryd.prog 15 #[.slice iI jI kI, .slice pI qI tI] yK fun bL dL =>
  ∃ gL,
  bL = .returned (.bool gL) ∧
  sel gL (
  Calls Tryd.prog 15 #[.slice z7 b8 d8, .slice j8 k8 p8] dL fun hL iL =>
  ∃ jL,
  hL = .returned (.bool jL) ∧
  sel jL (
  ∃ kL pL qL,
  iL.cell? ⟨kA.heap.size, 0, none⟩ = some (.slice kL pL qL) ∧
  ∃ tL uL vL,
  iL.cell? ⟨kA.heap.size, 1, none⟩ = some (.slice tL uL vL) ∧
  ∃ xL yL zL,
  iL.cell? ⟨kA.heap.size, 2, none⟩ = some (.slice xL yL zL) ∧
  ∃ bM dM gM,
  iL.cell? ⟨kA.heap.size, 3, none⟩ = some (.slice bM dM gM) ∧
  ∃ hM iM jM,
  iL.cell? ⟨kA.heap.size, 4, none⟩ = some (.slice hM iM jM) ∧
  ∃ kM pM qM,
  iL.cell? ⟨kA.heap.size, 5, none⟩ = some (.slice kM pM qM) ∧
  ∃ tM uM vM,
  iL.cell? ⟨hD.heap.size, 0, none⟩ = some (.slice tM uM vM) ∧
  ∃ xM yM zM,
  iL.cell? ⟨hD.heap.size, 1, none⟩ = some (.slice xM yM zM) ∧
  ∃ bN dN gN,
  iL.cell? ⟨hD.heap.size, 2, none⟩ = some (.slice bN dN gN) ∧
  ∃ hN iN jN,
  iL.cell? ⟨hD.heap.size, 3, none⟩ = some (.slice hN iN jN) ∧
  ∃ kN pN qN,
  iL.cell? ⟨hD.heap.size, 4, none⟩ = some (.slice kN pN qN) ∧
  ∃ tN uN vN,
  iL.cell? ⟨hD.heap.size, 5, none⟩ = some (.slice tN uN vN) ∧
  Calls Tryd.prog 17 #[.agg #[.slice kL pL qL, .slice tL uL vL, .slice xL yL zL, .slice bM dM gM, .slice hM iM jM, .slice kM pM qM], .agg #[.slice tM uM vM, .slice xM yM zM, .slice bN dN gN, .slice hN iN jN, .slice kN pN qN, .slice tN uN vN]] iL fun xN yN =>
  ∃ zN,
  xN = .returned (.bool zN) ∧
  sel zN (
  ∃ bP dP gP,
  yN.cell? ⟨g3.heap.size, 0, none⟩ = some (.slice bP dP gP) ∧
  ∃ hP iP jP,
  yN.cell? ⟨g3.heap.size, 1, none⟩ = some (.slice hP iP jP) ∧
  ∃ kP pP qP,
  yN.cell? ⟨g3.heap.size, 2, none⟩ = some (.slice kP pP qP) ∧
  ∃ tP uP vP,
  yN.cell? ⟨g3.heap.size, 3, none⟩ = some (.slice tP uP vP) ∧
  ∃ xP yP zP,
  yN.cell? ⟨g3.heap.size, 4, none⟩ = some (.slice xP yP zP) ∧
  ∃ bQ dQ gQ,
  yN.cell? ⟨g3.heap.size, 5, none⟩ = some (.slice bQ dQ gQ) ∧
  ∃ hQ iQ jQ,
  yN.cell? ⟨w.heap.size, 0, none⟩ = some (.slice hQ iQ jQ) ∧
  ∃ kQ pQ qQ,
  yN.cell? ⟨w.heap.size, 1, none⟩ = some (.slice kQ pQ qQ) ∧
  ∃ tQ uQ vQ,
  yN.cell? ⟨w.heap.size, 2, none⟩ = some (.slice tQ uQ vQ) ∧
  ∃ xQ yQ zQ,
  yN.cell? ⟨w.heap.size, 3, none⟩ = some (.slice xQ yQ zQ) ∧
  ∃ bR dR gR,
  yN.cell? ⟨w.heap.size, 4, none⟩ = some (.slice bR dR gR) ∧
  ∃ hR iR jR,
  yN.cell? ⟨w.heap.size, 5, none⟩ = some (.slice hR iR jR) ∧
  Calls Tryd.prog 17 #[.agg #[.slice bP dP gP, .slice hP iP jP, .slice kP pP qP, .slice tP uP vP, .slice xP yP zP, .slice bQ dQ gQ], .agg #[.slice hQ iQ jQ, .slice kQ pQ qQ, .slice tQ uQ vQ, .slice xQ yQ zQ, .slice bR dR gR, .slice hR iR jR]] yN fun kR pR =>
  ∃ qR,
  kR = .returned (.bool qR) ∧
  R (.bool qR) pR) (
  R (.bool false) yN)) (
  R (.bool false) iL)) (
  R (.bool false) dL)) (
  R (.bool false) yK)) (
  R (.bool false) yK)))))))))
theorem f4.eq (Aa0_0 : Option Addr) (na0_0 ca0_0 : Nat) (Aa0_1 : Option Addr) (na0_1 ca0_1 : Nat) (Aa0_2 : Option Addr) (na0_2 ca0_2 : Nat) (Aa0_3 : Option Addr) (na0_3 ca0_3 : Nat) (Aa0_4 : Option Addr) (na0_4 ca0_4 : Nat) (Aa0_5 : Option Addr) (na0_5 ca0_5 : Nat) (w : World) (R : Value → World → Prop) : f4.VC Aa0_0 na0_0 ca0_0 Aa0_1 na0_1 ca0_1 Aa0_2 na0_2 ca0_2 Aa0_3 na0_3 ca0_3 Aa0_4 na0_4 ca0_4 Aa0_5 na0_5 ca0_5 w R = funV Tryd.prog Tryd.f4 f4.AL f4.AC #[.agg #[.slice Aa0_0 na0_0 ca0_0, .slice Aa0_1 na0_1 ca0_1, .slice Aa0_2 na0_2 ca0_2, .slice Aa0_3 na0_3 ca0_3, .slice Aa0_4 na0_4 ca0_4, .slice Aa0_5 na0_5 ca0_5]] w R := by kernel_rfl
theorem f4.calls {Aa0_0 : Option Addr} {na0_0 ca0_0 : Nat} {Aa0_1 : Option Addr} {na0_1 ca0_1 : Nat} {Aa0_2 : Option Addr} {na0_2 ca0_2 : Nat} {Aa0_3 : Option Addr} {na0_3 ca0_3 : Nat} {Aa0_4 : Option Addr} {na0_4 ca0_4 : Nat} {Aa0_5 : Option Addr} {na0_5 ca0_5 : Nat} {w : World} {R : Value → World → Prop} (h : f4.VC Aa0_0 na0_0 ca0_0 Aa0_1 na0_1 ca0_1 Aa0_2 na0_2 ca0_2 Aa0_3 na0_3 ca0_3 Aa0_4 na0_4 ca0_4 Aa0_5 na0_5 ca0_5 w R) : Calls Tryd.prog 4 #[.agg #[.slice Aa0_0 na0_0 ca0_0, .slice Aa0_1 na0_1 ca0_1, .slice Aa0_2 na0_2 ca0_2, .slice Aa0_3 na0_3 ca0_3, .slice Aa0_4 na0_4 ca0_4, .slice Aa0_5 na0_5 ca0_5]] w fun e w' => ∃ v, e = .returned v ∧ R v w' :=
  funV_sound (fn := Tryd.f4) (AL := f4.AL) (AC := f4.AC) DW3.mixed (by kernel_rfl) (by rw [← f4.eq Aa0_0 na0_0 ca0_0 Aa0_1 na0_1 ca0_1 Aa0_2 na0_2 ca0_2 Aa0_3 na0_3 ca0_3 Aa0_4 na0_4 ca0_4 Aa0_5 na0_5 ca0_5]; exact h)

end Go.Proofs.YtjmlfknogjaemaaDoor
/- PageFresh: the walk. Printed by gen_d4.py. -/
set_option linter.unusedVariables false
set_option linter.unusedSimpArgs false
set_option maxRecDepth 10000
set_option maxHeartbeats 1000000
namespace Go.Proofs.YtjmlfknogjaemaaDoor
open Go Go.Proofs.YtjmlfknogjaemaaDoor.Vc
namespace PG
open Vc.PG NI
theorem own_says {w : World} {u : GV} {vals : List Sl} {g : Gd} (hv : vals.length = (gM g).length) (hu : ∀ r ∈ gM g, ∀ x ∈ r, 0 ≤ x ∧ x < 65536) (h : ∀ c ∈ ownG u vals g, ∃ G, c.holds w G) : InG w u g := by
  obtain ⟨_, k1⟩ := h (txs u.a.v (gA g)) (List.mem_append_left _ (by simp))
  obtain ⟨_, k2⟩ := h (txs u.s.v (gS g)) (List.mem_append_left _ (by simp))
  obtain ⟨_, k3⟩ := h (txs u.o.v (gO g)) (List.mem_append_left _ (by simp))
  obtain ⟨_, k4⟩ := h (ints u.f.v (gF g)) (List.mem_append_left _ (by simp))
  obtain ⟨_, k5⟩ := h (ints u.n.v (gN g)) (List.mem_append_left _ (by simp))
  obtain ⟨_, k6⟩ := h (Chunk.ls encL 29 u.m.v vals) (List.mem_append_left _ (by simp))
  have e1 := Chunk.ls_says ByteArray.empty k1
  have e2 := Chunk.ls_says ByteArray.empty k2
  have e3 := Chunk.ls_says ByteArray.empty k3
  have e4 := Chunk.ls_says 0 k4
  have e5 := Chunk.ls_says 0 k5
  have hr : InRs vals (gM g) w := ⟨hv, fun i hi => by
    obtain ⟨_, k⟩ := h (slU (vals.getD i nilS).v ((gM g).getD i [])) (List.mem_append_right _ (List.mem_iff_getElem?.2 ⟨i, rowsO_get hv hi⟩))
    exact slU_in k⟩
  exact ⟨⟨⟨e1.1, e1.2.2⟩, e1.2.1⟩, ⟨⟨e2.1, e2.2.2⟩, e2.2.1⟩, ⟨⟨e3.1, e3.2.2⟩, e3.2.1⟩, ⟨⟨e4.1, e4.2.2⟩, e4.2.1⟩, ⟨⟨e5.1, e5.2.2⟩, e5.2.1⟩, rs_inM hr k6, hu⟩
theorem St.each {S : List Nat} {w0 w : World} {L : List Chunk} (h : St S w0 w L) : ∀ c ∈ L, ∃ G, c.holds w G := fun c hc => by
  obtain ⟨i, hi⟩ := List.mem_iff_getElem?.1 hc
  obtain ⟨F, hF, _⟩ := h.at i hi
  exact ⟨F, hF⟩
theorem own_keep {w0 w : World} {u : GV} {vals : List Sl} {g : Gd} (hv : vals.length = (gM g).length) (hu : ∀ r ∈ gM g, ∀ x ∈ r, 0 ≤ x ∧ x < 65536) (h : St [] w0 w (ownG u vals g)) : St [] w0 w [gC u g] :=
  St.keepAll (c := txs u.a.v (gA g)) (L := [txs u.s.v (gS g), txs u.o.v (gO g), ints u.f.v (gF g), ints u.n.v (gN g), Chunk.ls encL 29 u.m.v vals] ++ rowsL vals (gM g)) h (fun w => InG w u g) (fun w h1 h2 => own_says hv hu (fun c hc => by
    rcases List.mem_cons.1 (show c ∈ txs u.a.v (gA g) :: ([txs u.s.v (gS g), txs u.o.v (gO g), ints u.f.v (gF g), ints u.n.v (gN g), Chunk.ls encL 29 u.m.v vals] ++ rowsL vals (gM g)) from hc) with rfl | hc
    · exact h1
    · exact h2 c hc))
theorem st_own {w0 w : World} {u : GV} {vals : List Sl} {g : Gd} {L : List Chunk} (hv : vals.length = (gM g).length) (hu : ∀ r ∈ gM g, ∀ x ∈ r, 0 ≤ x ∧ x < 65536) (h : St [] w0 w (L ++ ownG u vals g)) : InG w u g :=
  own_says hv hu (fun c hc => St.each h c (List.mem_append_right _ hc))
theorem read_range {W : List Int} {L : List ByteArray} {v : Int} {G : Gd} (h : readP W L = (v, G, 0)) : ∀ r ∈ gM G, ∀ x ∈ r, 0 ≤ x ∧ x < 65536 := by
  unfold readP at h
  split at h
  · rename_i hc
    injection h with _ h
    injection h with h _
    subst h
    obtain ⟨_, _, hg⟩ := hc
    have hu := (good_parts.1 hg).2.2.2.2.2.1
    intro r hr x hx
    obtain ⟨r', hr', rfl⟩ := List.mem_map.1 hr
    obtain ⟨y, hy, rfl⟩ := List.mem_map.1 hx
    have := hu r' hr' y hy
    omega
  · injection h with _ h
    injection h with _ h
    cases h
theorem small_of {w : World} {u : GV} {G : Gd} (hu : InG w u G) (h1 : (gA G).length ≤ 4096 ∧ (gS G).length ≤ 4096 ∧ (gO G).length ≤ 4096 ∧ (gF G).length ≤ 4096 ∧ (gN G).length ≤ 4096 ∧ (gM G).length ≤ 4096) (h2 : ∀ r ∈ gM G, r.length ≤ 4096) : SmallG u G := by
  have e1 := hu.a.1.1
  have e2 := hu.s.1.1
  have e3 := hu.o.1.1
  have e4 := hu.f.1.1
  have e5 := hu.n.1.1
  have e6 := hu.m.1.1
  exact ⟨⟨by omega, by omega, by omega, by omega, by omega, by omega⟩, fun r hr => by have := h2 r hr; omega⟩
theorem lawFresh {w : World} {v : GV} {g : Gd} (hp : Pow10 w) (hv : InG w v g) (bv : SmallG v g) : Calls Tryd.prog 4 #[v.v] w fun e w' => e = .returned (.bool true) ∧ Fr [] w w' := by
  refine Calls.mono (f4.calls (R := fun v w' => v = .bool true ∧ Fr [] w w') ?_) ?_
  · dsimp only [f4.VC]
    have bv3 : v.a.2.1 ≤ 1100000 ∧ v.s.2.1 ≤ 1100000 ∧ v.o.2.1 ≤ 1100000 := ⟨bv.1.1, bv.1.2.1, bv.1.2.2.1⟩
    have hS0 := (St.start w).alloc v.cells 32
    generalize World.alloc w (.cells v.cells 32) = w1 at *
    generalize w.heap.size = b1 at *
    refine Calls.mono (awake w1) ?_
    rintro _ w2 ⟨rfl, f1⟩
    have hS2 := hS0.go f1
    clear hS0 f1
    have hB := hS2.blk 0 rfl
    refine ⟨_, rfl, _, _, _, hB.cell rfl, _, _, _, hB.cell rfl, _, _, _, hB.cell rfl, _, _, _, hB.cell rfl, _, _, _, hB.cell rfl, _, _, _, hB.cell rfl, ?_⟩
    refine Calls.mono (hS2.step0 (validR (hv.fr hS2.frame) bv3)) ?_
    clear hS2 hB
    rintro _ w3 ⟨rfl, hS3⟩
    refine ⟨_, rfl, sel_of (fun _ => ⟨rfl, hS3.frame⟩) (fun hval => ?_)⟩
    have hval : validP g = true := by simpa using hval
    refine Calls.mono (NI.new hS3) ?_
    clear hS3
    rintro _ w4 ⟨x, rfl, hS⟩
    have hB := hS.blk 1 rfl
    refine ⟨_, rfl, sel_of (fun h => by cases h) (fun _ => ⟨_, _, _, hB.cell rfl, _, _, _, hB.cell rfl, _, _, _, hB.cell rfl, _, _, _, hB.cell rfl, _, _, _, hB.cell rfl, _, _, _, hB.cell rfl, ?_⟩)⟩
    refine Calls.mono (twinC hS (hv.fr hS.frame) bv) ?_
    clear hS hB
    rintro _ w5 ⟨t, rfl, hS⟩
    have bt : SmallG t g := bv.of hv (hS.says 0 rfl)
    have hSa := hS.alloc #[.slice none 0 0, .slice none 0 0, .slice none 0 0, .slice none 0 0, .slice none 0 0, .slice none 0 0] 32
    have hSb := hSa.over 0 rfl [t.a.v, t.s.v, t.o.v, t.f.v, t.n.v, t.m.v] rfl
    refine ⟨_, _, _, _, _, _, _, _, _, _, _, _, _, _, _, _, _, _, rfl, (hSa.blk 0 rfl).can (by decide), ?_⟩
    generalize setCs (World.alloc w5 (.cells #[.slice none 0 0, .slice none 0 0, .slice none 0 0, .slice none 0 0, .slice none 0 0, .slice none 0 0] 32)) w5.heap.size 0 [t.a.v, t.s.v, t.o.v, t.f.v, t.n.v, t.m.v] = w6 at *
    generalize w5.heap.size = b5 at *
    replace hS : St [] w w6 ([Chunk.blk b5 t.cells 32, gC t g, idxC x [], Chunk.blk b1 v.cells 32]) := hSb
    clear hSa hSb
    have hok := lay_ok (v := 3) (l := []) hval (by decide) (by decide) (by decide)
    have hL := lay_le 3 g (l := []) (by decide)
    have hpl := lay_small 3 g []
    obtain ⟨_, _, _, Z, hZ⟩ := laidW_of hok
    have hag := lay_again 3 g (l := []) (l2 := (layP 3 g []).2.2) ⟨[], by simp⟩ hL
    have hall := lay_L hok
    have hokA := hok
    have hlay := layCs hS 2 1 (by decide) rfl rfl (v := t) (g := g) (fun w h => h) (by decide) ⟨bt.1.1, bt.1.2.1, bt.1.2.2.1⟩ 3
    generalize layP 3 g [] = P at *
    obtain ⟨W, e, L⟩ := P
    dsimp only at *
    subst hokA
    refine ⟨fun A n c e w' => e = 0 ∧ St [] w w' [ints (.slice A n c) W, Chunk.blk b5 t.cells 32, gC t g, idxC x L, Chunk.blk b1 v.cells 32], ?_, ?_⟩
    · have hB := hS.blk 0 rfl
      refine ⟨_, _, _, hB.cell rfl, _, _, _, hB.cell rfl, _, _, _, hB.cell rfl, _, _, _, hB.cell rfl, _, _, _, hB.cell rfl, _, _, _, hB.cell rfl, Calls.mono hlay ?_⟩
      rintro _ w7 ⟨A, n, c, rfl, hS⟩
      exact ⟨_, _, _, _, rfl, rfl, rfl, hS⟩
    clear hlay hS w6
    rintro d A1 n1 c1 e w6 ⟨rfl, hS⟩
    have hB := hS.blk 1 rfl
    have hlay := layCs hS 3 2 (by decide) rfl rfl (v := t) (g := g) (fun w h => h) hL ⟨bt.1.1, bt.1.2.1, bt.1.2.2.1⟩ 3
    rw [hag] at hlay
    refine ⟨_, _, _, hB.cell rfl, _, _, _, hB.cell rfl, _, _, _, hB.cell rfl, _, _, _, hB.cell rfl, _, _, _, hB.cell rfl, _, _, _, hB.cell rfl, Calls.mono hlay ?_⟩
    clear hS hlay hB
    rintro _ w7 ⟨A2, n2, c2, rfl, hS⟩
    have hS : St [] w w7 [ints (.slice A2 n2 c2) W, ints (.slice A1 n1 c1) W, Chunk.blk b5 t.cells 32, gC t g, idxC x L, Chunk.blk b1 v.cells 32] := hS
    have hn2 : n2 = W.length := hS.lsLen 0 rfl
    refine ⟨_, _, _, _, rfl, Calls.mono (copied0 hS (St.inI hS 0 rfl) (by omega)) ?_⟩
    clear hS
    rintro _ w8 ⟨X, rfl, hS⟩
    refine ⟨_, _, _, rfl, sel_of (fun h => by simp at h) (fun _ => ?_)⟩
    refine Calls.mono (sameInts hS 2 0 (x := (A1, n1, c1)) (y := X) rfl rfl (by omega)) ?_
    clear hS
    rintro _ w9 ⟨rfl, hS⟩
    refine ⟨_, rfl, sel_of (fun h => by cases h) (fun _ => ?_)⟩
    have hnd : L.Nodup := by rw [hall]; exact (all_good (names g) [] (by simp) (by decide)).1
    have hrd := (hZ.read hval hL hnd hv.u ⟨by decide, by decide⟩).1
    have hsm := readP_small W L
    rw [hrd] at hsm
    obtain ⟨⟨s1, s2, s3, s4, s5, s6⟩, s7⟩ := hsm
    have hro := readO (c := c2) (St.inI hS 1 rfl) (idxAt hS 5 rfl) hL (by omega) (fun i => hZ.small hval hL (by decide) hv.u i)
    rw [hrd] at hro
    have hub : ∀ r ∈ gM (graphP W (tOf g) L), ∀ y ∈ r, 0 ≤ y ∧ y < 65536 := read_range hrd
    generalize graphP W (tOf g) L = G at *
    dsimp only at s1 s2 s3 s4 s5 s6 s7
    refine Calls.mono hro ?_
    clear hro
    rintro _ w10 ⟨_, rfl, u, vals, rfl, hvl, hO⟩
    dsimp only at hvl hO
    have hS := (hS.gone hO).perm List.perm_append_comm
    clear hO
    have hS : St [] w w10 ([ints X.v W, ints (.slice A2 n2 c2) W, ints (.slice A1 n1 c1) W, Chunk.blk b5 t.cells 32, gC t g, idxC x L, Chunk.blk b1 v.cells 32] ++ ownG u vals G) := hS
    have hSa := hS.alloc #[.slice none 0 0, .slice none 0 0, .slice none 0 0, .slice none 0 0, .slice none 0 0, .slice none 0 0] 32
    have hSb := hSa.over 0 rfl [u.a.v, u.s.v, u.o.v, u.f.v, u.n.v, u.m.v] rfl
    refine ⟨_, _, _, _, _, _, _, _, _, _, _, _, _, _, _, _, _, _, _, _, rfl, (hSa.blk 0 rfl).can (by decide), ?_⟩
    generalize setCs (World.alloc w10 (.cells #[.slice none 0 0, .slice none 0 0, .slice none 0 0, .slice none 0 0, .slice none 0 0, .slice none 0 0] 32)) w10.heap.size 0 [u.a.v, u.s.v, u.o.v, u.f.v, u.n.v, u.m.v] = w11 at *
    generalize w10.heap.size = b7 at *
    replace hS : St [] w w11 ([Chunk.blk b7 u.cells 32, ints X.v W, ints (.slice A2 n2 c2) W, ints (.slice A1 n1 c1) W, Chunk.blk b5 t.cells 32, gC t g, idxC x L, Chunk.blk b1 v.cells 32] ++ ownG u vals G) := hSb
    clear hSa hSb
    have hro := readO (c := c2) (St.inI hS 2 rfl) (idxAt hS 6 rfl) hL (by omega) (fun i => hZ.small hval hL (by decide) hv.u i)
    rw [hrd] at hro
    refine Calls.mono hro ?_
    clear hro
    rintro _ w12 ⟨_, rfl, u2, vals2, rfl, hvl2, hO⟩
    dsimp only at hvl2 hO
    have hS := hS.gone (own_keep hvl2 hub hO)
    clear hO
    have hSa := hS.alloc #[.slice none 0 0, .slice none 0 0, .slice none 0 0, .slice none 0 0, .slice none 0 0, .slice none 0 0] 32
    have hSb := hSa.over 0 rfl [u2.a.v, u2.s.v, u2.o.v, u2.f.v, u2.n.v, u2.m.v] rfl
    refine ⟨_, _, _, _, _, _, _, _, _, _, _, _, _, _, _, _, _, _, _, _, rfl, (hSa.blk 0 rfl).can (by decide), ?_⟩
    generalize setCs (World.alloc w12 (.cells #[.slice none 0 0, .slice none 0 0, .slice none 0 0, .slice none 0 0, .slice none 0 0, .slice none 0 0] 32)) w12.heap.size 0 [u2.a.v, u2.s.v, u2.o.v, u2.f.v, u2.n.v, u2.m.v] = w13 at *
    generalize w12.heap.size = b8 at *
    replace hS : St [] w w13 ([Chunk.blk b8 u2.cells 32, gC u2 G, Chunk.blk b7 u.cells 32, ints X.v W, ints (.slice A2 n2 c2) W, ints (.slice A1 n1 c1) W, Chunk.blk b5 t.cells 32, gC t g, idxC x L, Chunk.blk b1 v.cells 32] ++ ownG u vals G) := hSb
    clear hSa hSb
    have hB := hS.blk 0 rfl
    have gu2 := hS.says 1 rfl
    have bu2 : SmallG u2 G := small_of gu2 ⟨s1, s2, s3, s4, s5, s6⟩ s7
    refine ⟨_, _, _, hB.cell rfl, _, _, _, hB.cell rfl, _, _, _, hB.cell rfl, _, _, _, hB.cell rfl, _, _, _, hB.cell rfl, _, _, _, hB.cell rfl, Calls.mono (twinC hS gu2 bu2) ?_⟩
    clear hS hB
    rintro _ w14 ⟨t2, rfl, hS⟩
    have hSa := hS.alloc #[.slice none 0 0, .slice none 0 0, .slice none 0 0, .slice none 0 0, .slice none 0 0, .slice none 0 0] 32
    have hSb := hSa.over 0 rfl [t2.a.v, t2.s.v, t2.o.v, t2.f.v, t2.n.v, t2.m.v] rfl
    refine ⟨_, _, _, _, _, _, _, _, _, _, _, _, _, _, _, _, _, _, rfl, (hSa.blk 0 rfl).can (by decide), ?_⟩
    generalize setCs (World.alloc w14 (.cells #[.slice none 0 0, .slice none 0 0, .slice none 0 0, .slice none 0 0, .slice none 0 0, .slice none 0 0] 32)) w14.heap.size 0 [t2.a.v, t2.s.v, t2.o.v, t2.f.v, t2.n.v, t2.m.v] = w15 at *
    generalize w14.heap.size = b9 at *
    replace hS : St [] w w15 ([Chunk.blk b9 t2.cells 32, gC t2 G, Chunk.blk b8 u2.cells 32, gC u2 G, Chunk.blk b7 u.cells 32, ints X.v W, ints (.slice A2 n2 c2) W, ints (.slice A1 n1 c1) W, Chunk.blk b5 t.cells 32, gC t g, idxC x L, Chunk.blk b1 v.cells 32] ++ ownG u vals G) := hSb
    clear hSa hSb
    refine sel_of (fun h => by simp at h) (fun _ => ?_)
    have hB7 := hS.blk 4 rfl
    have hB9 := hS.blk 0 rfl
    have gu : InG w15 u G := st_own hvl hub (L := [Chunk.blk b9 t2.cells 32, gC t2 G, Chunk.blk b8 u2.cells 32, gC u2 G, Chunk.blk b7 u.cells 32, ints X.v W, ints (.slice A2 n2 c2) W, ints (.slice A1 n1 c1) W, Chunk.blk b5 t.cells 32, gC t g, idxC x L, Chunk.blk b1 v.cells 32]) hS
    have bu : SmallG u G := small_of gu ⟨s1, s2, s3, s4, s5, s6⟩ s7
    refine ⟨_, _, _, hB7.cell rfl, _, _, _, hB7.cell rfl, _, _, _, hB7.cell rfl, _, _, _, hB7.cell rfl, _, _, _, hB7.cell rfl, _, _, _, hB7.cell rfl, _, _, _, hB9.cell rfl, _, _, _, hB9.cell rfl, _, _, _, hB9.cell rfl, _, _, _, hB9.cell rfl, _, _, _, hB9.cell rfl, _, _, _, hB9.cell rfl, Calls.mono (hS.step0 (sameOne gu (hS.says 1 rfl) bu)) ?_⟩
    clear hS hB7 hB9
    rintro _ w16 ⟨rfl, hS⟩
    refine ⟨_, rfl, sel_of (fun h => by cases h) (fun _ => ?_)⟩
    have hn1 : n1 = W.length := hS.lsLen 7 (A := A1) (n := n1) (c := c1) (l := W) (enc := encN) (e := 3) rfl
    refine ⟨fun i w' r => ∃ q : Nat, i = (q : Int) ∧ q + r = W.length ∧ St [] w w' ([Chunk.blk b9 t2.cells 32, gC t2 G, Chunk.blk b8 u2.cells 32, gC u2 G, Chunk.blk b7 u.cells 32, ints X.v W, ints (.slice A2 n2 c2) W, ints (.slice A1 n1 c1) (half q (-1) W), Chunk.blk b5 t.cells 32, gC t g, idxC x L, Chunk.blk b1 v.cells 32] ++ ownG u vals G), ⟨W.length, 0, rfl, by omega, by rw [half_zero]; exact hS⟩, ?_⟩
    clear hS gu
    rintro d i w17 r ⟨q, rfl, hq, hS⟩
    refine sel_of (fun hd => ?_) (fun hd => ?_)
    · have hi : q < W.length := by have := of_decide_eq_true hd; omega
      obtain ⟨gg, hg, hcan, hS2⟩ := hS.lsSet 7 (A := A1) (n := n1) (c := c1) (l := half q (-1) W) (enc := encN) (e := 3) rfl (k := q) (by rw [half_len _ (by omega)]; exact hi) (-1)
      rw [half_set _ hi] at hS2
      rw [inc q 1100000 (by omega) (by omega)]
      have em : 0 + (q : Int).toNat * 1 = q := by rw [Int.toNat_natCast]; omega
      refine ⟨by omega, by omega, needPtr_of hg ?_⟩
      rw [em]
      exact ⟨hcan, rfl, r - 1, by omega, q + 1, rfl, by omega, hS2⟩
    have hi : q = W.length := by have := of_decide_eq_false hd; omega
    subst hi
    rw [half_all] at hS
    refine Calls.mono (copied0 hS (St.inI hS 7 rfl) (by omega)) ?_
    clear hS
    rintro _ w18 ⟨X2, rfl, hS⟩
    refine ⟨_, _, _, rfl, ?_⟩
    refine ⟨fun A n c B m d i w' r => ∃ q : Nat, i = (q : Int) ∧ q + r = 40 ∧ St [] w w' ([ints (.slice B m d) (List.replicate W.length (-1) ++ List.replicate q (-2)), Chunk.blk b9 t2.cells 32, gC t2 G, Chunk.blk b8 u2.cells 32, gC u2 G, Chunk.blk b7 u.cells 32, ints X.v W, ints (.slice A2 n2 c2) W, ints (.slice A n c) (List.replicate W.length (-1) ++ List.replicate q (-2)), Chunk.blk b5 t.cells 32, gC t g, idxC x L, Chunk.blk b1 v.cells 32] ++ ownG u vals G), ⟨40, 0, rfl, rfl, by rw [List.replicate_zero, List.append_nil]; exact hS⟩, ?_⟩
    clear hS
    rintro d A n c B m dd i w19 r2 ⟨q, rfl, hq, hS⟩
    refine sel_of (fun hd => ?_) (fun hd => ?_)
    · have hi : q < 40 := by have := of_decide_eq_true hd; omega
      have hlen : (List.replicate W.length (-1 : Int) ++ List.replicate q (-2)).length ≤ 4000000 := by simp; omega
      obtain ⟨A', n', c', w20, r20, hS20⟩ := appI hS 8 (A := A) (n := n) (c := c) rfl (-2) hlen
      obtain ⟨B', m', d', w21, r21, hS21⟩ := appI hS20 0 (A := B) (n := m) (c := dd) rfl (-2) hlen
      rw [inc q 40 (by omega) (by omega)]
      refine ⟨_, _, _, w20, r20, _, _, _, w21, r21, rfl, r2 - 1, by omega, q + 1, rfl, by omega, ?_⟩
      have e40 : List.replicate W.length (-1 : Int) ++ List.replicate (q + 1) (-2) = List.replicate W.length (-1) ++ List.replicate q (-2) ++ [-2] := by rw [List.replicate_succ', List.append_assoc]
      rw [e40]
      exact hS21
    have hB7 := hS.blk 5 rfl
    have hl := bv.lens hv
    refine ⟨_, _, _, hB7.cell rfl, _, _, _, hB7.cell rfl, _, _, _, hB7.cell rfl, _, _, _, hB7.cell rfl, _, _, _, hB7.cell rfl, _, _, _, hB7.cell rfl, ?_⟩
    have hsp := spoiltC hp (hS.perm List.perm_append_comm) hvl (fun q => by match q with | 0 => exact Nat.le_trans s1 (by decide) | 1 => exact Nat.le_trans s2 (by decide) | _ + 2 => exact Nat.le_trans s3 (by decide)) (fun q => by match q with | 0 => exact Nat.le_trans s4 (by decide) | _ + 1 => exact Nat.le_trans s5 (by decide)) (Nat.le_trans s6 (by decide)) (fun r hr => Nat.le_trans (s7 r hr) (by decide))
    refine Calls.mono hsp ?_
    clear hsp hS hB7
    rintro _ w22 ⟨rfl, hS⟩
    refine ⟨_, rfl, sel_true rfl (sel_true rfl ?_)⟩
    refine Calls.mono (sameInts hS 8 0 (x := (A, n, c)) (y := (B, m, dd)) rfl rfl (by simp; omega)) ?_
    clear hS
    rintro _ w23 ⟨rfl, hS⟩
    refine ⟨_, rfl, sel_true rfl ?_⟩
    refine Calls.mono (sameInts hS 7 6 (x := (A2, n2, c2)) (y := X) rfl rfl (by omega)) ?_
    clear hS
    rintro _ w24 ⟨rfl, hS⟩
    have hB8 := hS.blk 3 rfl
    have hB9 := hS.blk 1 rfl
    refine ⟨_, rfl, sel_true rfl ⟨_, _, _, hB8.cell rfl, _, _, _, hB8.cell rfl, _, _, _, hB8.cell rfl, _, _, _, hB8.cell rfl, _, _, _, hB8.cell rfl, _, _, _, hB8.cell rfl, _, _, _, hB9.cell rfl, _, _, _, hB9.cell rfl, _, _, _, hB9.cell rfl, _, _, _, hB9.cell rfl, _, _, _, hB9.cell rfl, _, _, _, hB9.cell rfl, Calls.mono (hS.step0 (sameOne (hS.says 4 rfl) (hS.says 2 rfl) bu2)) ?_⟩⟩
    clear hS hB8 hB9
    rintro _ w25 ⟨rfl, hS⟩
    have hB5 := hS.blk 9 rfl
    have hB1 := hS.blk 12 rfl
    refine ⟨_, rfl, sel_true rfl ⟨_, _, _, hB5.cell rfl, _, _, _, hB5.cell rfl, _, _, _, hB5.cell rfl, _, _, _, hB5.cell rfl, _, _, _, hB5.cell rfl, _, _, _, hB5.cell rfl, _, _, _, hB1.cell rfl, _, _, _, hB1.cell rfl, _, _, _, hB1.cell rfl, _, _, _, hB1.cell rfl, _, _, _, hB1.cell rfl, _, _, _, hB1.cell rfl, Calls.mono (hS.step0 (sameOne (hS.says 10 rfl) (hv.fr hS.frame) bt)) ?_⟩⟩
    rintro _ w26 ⟨rfl, hS⟩
    exact ⟨_, rfl, rfl, hS.frame⟩
  · rintro e w' ⟨v, rfl, rfl, h⟩; exact ⟨rfl, h⟩
end PG
end Go.Proofs.YtjmlfknogjaemaaDoor
