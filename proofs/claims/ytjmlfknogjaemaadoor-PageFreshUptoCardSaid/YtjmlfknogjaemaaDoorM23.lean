/- The plain statements of some functions, printed by vcgen.py. -/
import Derived.Test.YtjmlfknogjaemaaDoorM5
import Derived.Test.YtjmlfknogjaemaaDoorProg
import Derived.KernelRfl
import Derived.Test.YtjmlfknogjaemaaDoorM22
set_option maxRecDepth 100000
set_option maxHeartbeats 4000000
set_option linter.unusedVariables false
namespace Go.Proofs.YtjmlfknogjaemaaDoor
open Go Go.Proofs.YtjmlfknogjaemaaDoor.Vc
theorem W15.mixed : Tryd.prog.follows .mixedOrders = true := by kernel_rfl
/-- gatehouse/page.sorted -/
def f39.AL : Nat → Option Ann := fun r => match r with | 3 => some ⟨[(19, .int .i64)], [0, 1, 2, 6, 8, 18]⟩ | 18 => some ⟨[(95, .int .i64)], [6, 8, 94]⟩ | _ => none
def f39.AC : Nat → Option Ann := fun _ => none
def f39.VC (Aa0 : Option Addr) (na0 ca0 : Nat) (xa1 : Int) (a2 : Nat) (w : World) (R : Value → World → Prop) : Prop :=
  let b0 := World.alloc w (.cells #[.slice none 0 0, .slice none 0 0, .slice none 0 0, .slice none 0 0] 68);
  let d0 := World.alloc b0 (.cells #[.slice none 0 0, .slice none 0 0, .slice none 0 0, .slice none 0 0] 68);
  ∃ g0 : Int → World → Nat → Prop,
  (∃ n, g0 0 d0 n) ∧
  ∀ h0 : Env, ∀ i0 j0 k0, g0 i0 j0 k0 →
  sel (decide ((i0 : Int) < (xa1 : Int))) (
  let p0 : Int := IntKind.i64.wrap (2 * i0);
  let q0 : Int := IntKind.i64.wrap (4 + p0);
  (0 : Int) ≤ q0 ∧ q0 < (na0 : Int) ∧
  needPtr Aa0 fun t0 u0 =>
  let v0 : Int := IntKind.i64.wrap (2 * i0);
  let x0 : Int := IntKind.i64.wrap (4 + v0);
  let y0 : Int := IntKind.i64.wrap (x0 + 1);
  (0 : Int) ≤ y0 ∧ y0 < (na0 : Int) ∧
  needPtr Aa0 fun z0 b1 =>
  ∃ d1,
  j0.cell? ⟨t0, u0 + q0.toNat * 1, none⟩ = some (.int .i64 d1) ∧
  ∃ g1,
  j0.cell? ⟨z0, b1 + y0.toNat * 1, none⟩ = some (.int .i64 g1) ∧
  sel ((d1 : Int) == (0 : Int)) (
  sel ((g1 : Int) == (0 : Int)) (
  let h1 : Int := IntKind.i64.wrap (i0 + 1);
  ([.slice Aa0 na0 ca0, .int .i64 xa1, .pointer (some ⟨a2, 0, none⟩), .pointer (some ⟨w.heap.size, 0, none⟩), .pointer (some ⟨b0.heap.size, 0, none⟩), .int .i64 xa1] : List Value) = ([.slice Aa0 na0 ca0, .int .i64 xa1, .pointer (some ⟨a2, 0, none⟩), .pointer (some ⟨w.heap.size, 0, none⟩), .pointer (some ⟨b0.heap.size, 0, none⟩), .int .i64 xa1] : List Value) ∧ ∃ m, m < k0 ∧ g0 h1 j0.drew m) (
  sel (decide ((d1 : Int) ≤ (0 : Int))) (
  ∃ i1 j1 k1,
  j0.cell? ⟨b0.heap.size, 0, none⟩ = some (.slice i1 j1 k1) ∧
  ∃ p1 q1 t1,
  j0.cell? ⟨b0.heap.size, 1, none⟩ = some (.slice p1 q1 t1) ∧
  ∃ u1 v1 x1,
  j0.cell? ⟨b0.heap.size, 2, none⟩ = some (.slice u1 v1 x1) ∧
  ∃ y1 z1 b2,
  j0.cell? ⟨b0.heap.size, 3, none⟩ = some (.slice y1 z1 b2) ∧
  canStore j0 w.heap.size 0 4 ∧
  let d2 := setCs j0.drew w.heap.size 0 [.slice i1 j1 k1, .slice p1 q1 t1, .slice u1 v1 x1, .slice y1 z1 b2];
  ∃ g2 h2 i2,
  d2.cell? ⟨w.heap.size, 0, none⟩ = some (.slice g2 h2 i2) ∧
  ∃ j2 k2 p2,
  d2.cell? ⟨w.heap.size, 1, none⟩ = some (.slice j2 k2 p2) ∧
  ∃ q2 t2 u2,
  d2.cell? ⟨w.heap.size, 2, none⟩ = some (.slice q2 t2 u2) ∧
  ∃ v2 x2 y2,
  d2.cell? ⟨w.heap.size, 3, none⟩ = some (.slice v2 x2 y2) ∧
  R (.tuple #[.agg #[.slice g2 h2 i2, .slice j2 k2 p2, .slice q2 t2 u2, .slice v2 x2 y2], .bool false]) d2) (
  4 ≠ (0 : Int) ∧
  let z2 : Int := Int.tmod d1 4;
  sel ((z2 : Int) == (0 : Int)) (
  ∃ b3 d3 g3,
  j0.cell? ⟨b0.heap.size, 0, none⟩ = some (.slice b3 d3 g3) ∧
  ∃ h3 i3 j3,
  j0.cell? ⟨b0.heap.size, 1, none⟩ = some (.slice h3 i3 j3) ∧
  ∃ k3 p3 q3,
  j0.cell? ⟨b0.heap.size, 2, none⟩ = some (.slice k3 p3 q3) ∧
  ∃ t3 u3 v3,
  j0.cell? ⟨b0.heap.size, 3, none⟩ = some (.slice t3 u3 v3) ∧
  canStore j0 w.heap.size 0 4 ∧
  let x3 := setCs j0.drew w.heap.size 0 [.slice b3 d3 g3, .slice h3 i3 j3, .slice k3 p3 q3, .slice t3 u3 v3];
  ∃ y3 z3 b4,
  x3.cell? ⟨w.heap.size, 0, none⟩ = some (.slice y3 z3 b4) ∧
  ∃ d4 g4 h4,
  x3.cell? ⟨w.heap.size, 1, none⟩ = some (.slice d4 g4 h4) ∧
  ∃ i4 j4 k4,
  x3.cell? ⟨w.heap.size, 2, none⟩ = some (.slice i4 j4 k4) ∧
  ∃ p4 q4 t4,
  x3.cell? ⟨w.heap.size, 3, none⟩ = some (.slice p4 q4 t4) ∧
  R (.tuple #[.agg #[.slice y3 z3 b4, .slice d4 g4 h4, .slice i4 j4 k4, .slice p4 q4 t4], .bool false]) x3) (
  4 ≠ (0 : Int) ∧
  let u4 : Int := IntKind.i64.wrap (Int.tdiv d1 4);
  Calls Tryd.prog 53 #[.pointer (some ⟨a2, 0, none⟩), .int .i64 u4] j0.drew fun v4 x4 =>
  ∃ y4 z4,
  v4 = .returned (.tuple #[.string y4, .bool z4]) ∧
  sel (!z4) (
  ∃ b5 d5 g5,
  x4.cell? ⟨b0.heap.size, 0, none⟩ = some (.slice b5 d5 g5) ∧
  ∃ h5 i5 j5,
  x4.cell? ⟨b0.heap.size, 1, none⟩ = some (.slice h5 i5 j5) ∧
  ∃ k5 p5 q5,
  x4.cell? ⟨b0.heap.size, 2, none⟩ = some (.slice k5 p5 q5) ∧
  ∃ t5 u5 v5,
  x4.cell? ⟨b0.heap.size, 3, none⟩ = some (.slice t5 u5 v5) ∧
  canStore x4 w.heap.size 0 4 ∧
  let x5 := setCs x4 w.heap.size 0 [.slice b5 d5 g5, .slice h5 i5 j5, .slice k5 p5 q5, .slice t5 u5 v5];
  ∃ y5 z5 b6,
  x5.cell? ⟨w.heap.size, 0, none⟩ = some (.slice y5 z5 b6) ∧
  ∃ d6 g6 h6,
  x5.cell? ⟨w.heap.size, 1, none⟩ = some (.slice d6 g6 h6) ∧
  ∃ i6 j6 k6,
  x5.cell? ⟨w.heap.size, 2, none⟩ = some (.slice i6 j6 k6) ∧
  ∃ p6 q6 t6,
  x5.cell? ⟨w.heap.size, 3, none⟩ = some (.slice p6 q6 t6) ∧
  R (.tuple #[.agg #[.slice y5 z5 b6, .slice d6 g6 h6, .slice i6 j6 k6, .slice p6 q6 t6], .bool false]) x5) (
  4 ≠ (0 : Int) ∧
  let u6 : Int := IntKind.i64.wrap (Int.tdiv d1 4);
  4 ≠ (0 : Int) ∧
  let v6 : Int := Int.tmod d1 4;
  let x6 : Int := IntKind.i8.wrap v6;
  Calls Tryd.prog 54 #[.slice Aa0 na0 ca0, .int .i64 u6, .int .i8 x6] x4 fun y6 z6 =>
  ∃ b7 d7,
  y6 = .returned (.tuple #[.int .i64 b7, .int .i64 d7]) ∧
  Calls Tryd.prog 22 #[.int .i64 d1, .int .i64 xa1] z6 fun g7 h7 =>
  ∃ i7,
  g7 = .returned (.int .i64 i7) ∧
  let j7 : Int := IntKind.i64.wrap (i7 + d7);
  let k7 : Int := IntKind.i64.wrap (j7 - 1);
  xa1 ≠ (0 : Int) ∧
  let p7 : Int := Int.tmod k7 xa1;
  sel ((p7 : Int) != (i0 : Int)) (
  ∃ q7 t7 u7,
  h7.cell? ⟨b0.heap.size, 0, none⟩ = some (.slice q7 t7 u7) ∧
  ∃ v7 x7 y7,
  h7.cell? ⟨b0.heap.size, 1, none⟩ = some (.slice v7 x7 y7) ∧
  ∃ z7 b8 d8,
  h7.cell? ⟨b0.heap.size, 2, none⟩ = some (.slice z7 b8 d8) ∧
  ∃ g8 h8 i8,
  h7.cell? ⟨b0.heap.size, 3, none⟩ = some (.slice g8 h8 i8) ∧
  canStore h7 w.heap.size 0 4 ∧
  let j8 := setCs h7 w.heap.size 0 [.slice q7 t7 u7, .slice v7 x7 y7, .slice z7 b8 d8, .slice g8 h8 i8];
  ∃ k8 p8 q8,
  j8.cell? ⟨w.heap.size, 0, none⟩ = some (.slice k8 p8 q8) ∧
  ∃ t8 u8 v8,
  j8.cell? ⟨w.heap.size, 1, none⟩ = some (.slice t8 u8 v8) ∧
  ∃ x8 y8 z8,
  j8.cell? ⟨w.heap.size, 2, none⟩ = some (.slice x8 y8 z8) ∧
  ∃ b9 d9 g9,
  j8.cell? ⟨w.heap.size, 3, none⟩ = some (.slice b9 d9 g9) ∧
  R (.tuple #[.agg #[.slice k8 p8 q8, .slice t8 u8 v8, .slice x8 y8 z8, .slice b9 d9 g9], .bool false]) j8) (
  4 ≠ (0 : Int) ∧
  let h9 : Int := Int.tmod d1 4;
  4 ≠ (0 : Int) ∧
  let i9 : Int := Int.tmod d1 4;
  (0 : Int) ≤ i9 ∧ i9 < (4 : Int) ∧
  ∃ j9 k9 p9,
  h7.cell? ⟨b0.heap.size, 0 + i9.toNat * 1, none⟩ = some (.slice j9 k9 p9) ∧
  4 ≠ (0 : Int) ∧
  let q9 : Int := IntKind.i64.wrap (Int.tdiv d1 4);
  let t9 := World.alloc h7 (.cells #[.int .i64 q9, .int .i64 g1] 98);
  ∃ u9 v9 x9,
  ∃ y9, (Builtin.append_ #[67, 67] 67 #[.slice j9 k9 p9, .slice (some ⟨h7.heap.size, 0, none⟩) 1 1]).run Tryd.prog t9 = .ok (.slice u9 v9 x9) y9 ∧
  (0 : Int) ≤ h9 ∧ h9 < (4 : Int) ∧
  canStore y9 b0.heap.size (0 + h9.toNat * 1) 1 ∧
  let z9 := setCs y9 b0.heap.size (0 + h9.toNat * 1) [.slice u9 v9 x9];
  let bA : Int := IntKind.i64.wrap (i0 + 1);
  ([.slice Aa0 na0 ca0, .int .i64 xa1, .pointer (some ⟨a2, 0, none⟩), .pointer (some ⟨w.heap.size, 0, none⟩), .pointer (some ⟨b0.heap.size, 0, none⟩), .int .i64 xa1] : List Value) = ([.slice Aa0 na0 ca0, .int .i64 xa1, .pointer (some ⟨a2, 0, none⟩), .pointer (some ⟨w.heap.size, 0, none⟩), .pointer (some ⟨b0.heap.size, 0, none⟩), .int .i64 xa1] : List Value) ∧ ∃ m, m < k0 ∧ g0 bA z9 m)))))) (
  sel (decide ((d1 : Int) ≤ (0 : Int))) (
  ∃ dA gA hA,
  j0.cell? ⟨b0.heap.size, 0, none⟩ = some (.slice dA gA hA) ∧
  ∃ iA jA kA,
  j0.cell? ⟨b0.heap.size, 1, none⟩ = some (.slice iA jA kA) ∧
  ∃ pA qA tA,
  j0.cell? ⟨b0.heap.size, 2, none⟩ = some (.slice pA qA tA) ∧
  ∃ uA vA xA,
  j0.cell? ⟨b0.heap.size, 3, none⟩ = some (.slice uA vA xA) ∧
  canStore j0 w.heap.size 0 4 ∧
  let yA := setCs j0.drew w.heap.size 0 [.slice dA gA hA, .slice iA jA kA, .slice pA qA tA, .slice uA vA xA];
  ∃ zA bB dB,
  yA.cell? ⟨w.heap.size, 0, none⟩ = some (.slice zA bB dB) ∧
  ∃ gB hB iB,
  yA.cell? ⟨w.heap.size, 1, none⟩ = some (.slice gB hB iB) ∧
  ∃ jB kB pB,
  yA.cell? ⟨w.heap.size, 2, none⟩ = some (.slice jB kB pB) ∧
  ∃ qB tB uB,
  yA.cell? ⟨w.heap.size, 3, none⟩ = some (.slice qB tB uB) ∧
  R (.tuple #[.agg #[.slice zA bB dB, .slice gB hB iB, .slice jB kB pB, .slice qB tB uB], .bool false]) yA) (
  4 ≠ (0 : Int) ∧
  let vB : Int := Int.tmod d1 4;
  sel ((vB : Int) == (0 : Int)) (
  ∃ xB yB zB,
  j0.cell? ⟨b0.heap.size, 0, none⟩ = some (.slice xB yB zB) ∧
  ∃ bC dC gC,
  j0.cell? ⟨b0.heap.size, 1, none⟩ = some (.slice bC dC gC) ∧
  ∃ hC iC jC,
  j0.cell? ⟨b0.heap.size, 2, none⟩ = some (.slice hC iC jC) ∧
  ∃ kC pC qC,
  j0.cell? ⟨b0.heap.size, 3, none⟩ = some (.slice kC pC qC) ∧
  canStore j0 w.heap.size 0 4 ∧
  let tC := setCs j0.drew w.heap.size 0 [.slice xB yB zB, .slice bC dC gC, .slice hC iC jC, .slice kC pC qC];
  ∃ uC vC xC,
  tC.cell? ⟨w.heap.size, 0, none⟩ = some (.slice uC vC xC) ∧
  ∃ yC zC bD,
  tC.cell? ⟨w.heap.size, 1, none⟩ = some (.slice yC zC bD) ∧
  ∃ dD gD hD,
  tC.cell? ⟨w.heap.size, 2, none⟩ = some (.slice dD gD hD) ∧
  ∃ iD jD kD,
  tC.cell? ⟨w.heap.size, 3, none⟩ = some (.slice iD jD kD) ∧
  R (.tuple #[.agg #[.slice uC vC xC, .slice yC zC bD, .slice dD gD hD, .slice iD jD kD], .bool false]) tC) (
  4 ≠ (0 : Int) ∧
  let pD : Int := IntKind.i64.wrap (Int.tdiv d1 4);
  Calls Tryd.prog 53 #[.pointer (some ⟨a2, 0, none⟩), .int .i64 pD] j0.drew fun qD tD =>
  ∃ uD vD,
  qD = .returned (.tuple #[.string uD, .bool vD]) ∧
  sel (!vD) (
  ∃ xD yD zD,
  tD.cell? ⟨b0.heap.size, 0, none⟩ = some (.slice xD yD zD) ∧
  ∃ bE dE gE,
  tD.cell? ⟨b0.heap.size, 1, none⟩ = some (.slice bE dE gE) ∧
  ∃ hE iE jE,
  tD.cell? ⟨b0.heap.size, 2, none⟩ = some (.slice hE iE jE) ∧
  ∃ kE pE qE,
  tD.cell? ⟨b0.heap.size, 3, none⟩ = some (.slice kE pE qE) ∧
  canStore tD w.heap.size 0 4 ∧
  let tE := setCs tD w.heap.size 0 [.slice xD yD zD, .slice bE dE gE, .slice hE iE jE, .slice kE pE qE];
  ∃ uE vE xE,
  tE.cell? ⟨w.heap.size, 0, none⟩ = some (.slice uE vE xE) ∧
  ∃ yE zE bF,
  tE.cell? ⟨w.heap.size, 1, none⟩ = some (.slice yE zE bF) ∧
  ∃ dF gF hF,
  tE.cell? ⟨w.heap.size, 2, none⟩ = some (.slice dF gF hF) ∧
  ∃ iF jF kF,
  tE.cell? ⟨w.heap.size, 3, none⟩ = some (.slice iF jF kF) ∧
  R (.tuple #[.agg #[.slice uE vE xE, .slice yE zE bF, .slice dF gF hF, .slice iF jF kF], .bool false]) tE) (
  4 ≠ (0 : Int) ∧
  let pF : Int := IntKind.i64.wrap (Int.tdiv d1 4);
  4 ≠ (0 : Int) ∧
  let qF : Int := Int.tmod d1 4;
  let tF : Int := IntKind.i8.wrap qF;
  Calls Tryd.prog 54 #[.slice Aa0 na0 ca0, .int .i64 pF, .int .i8 tF] tD fun uF vF =>
  ∃ xF yF,
  uF = .returned (.tuple #[.int .i64 xF, .int .i64 yF]) ∧
  Calls Tryd.prog 22 #[.int .i64 d1, .int .i64 xa1] vF fun zF bG =>
  ∃ dG,
  zF = .returned (.int .i64 dG) ∧
  let gG : Int := IntKind.i64.wrap (dG + yF);
  let hG : Int := IntKind.i64.wrap (gG - 1);
  xa1 ≠ (0 : Int) ∧
  let iG : Int := Int.tmod hG xa1;
  sel ((iG : Int) != (i0 : Int)) (
  ∃ jG kG pG,
  bG.cell? ⟨b0.heap.size, 0, none⟩ = some (.slice jG kG pG) ∧
  ∃ qG tG uG,
  bG.cell? ⟨b0.heap.size, 1, none⟩ = some (.slice qG tG uG) ∧
  ∃ vG xG yG,
  bG.cell? ⟨b0.heap.size, 2, none⟩ = some (.slice vG xG yG) ∧
  ∃ zG bH dH,
  bG.cell? ⟨b0.heap.size, 3, none⟩ = some (.slice zG bH dH) ∧
  canStore bG w.heap.size 0 4 ∧
  let gH := setCs bG w.heap.size 0 [.slice jG kG pG, .slice qG tG uG, .slice vG xG yG, .slice zG bH dH];
  ∃ hH iH jH,
  gH.cell? ⟨w.heap.size, 0, none⟩ = some (.slice hH iH jH) ∧
  ∃ kH pH qH,
  gH.cell? ⟨w.heap.size, 1, none⟩ = some (.slice kH pH qH) ∧
  ∃ tH uH vH,
  gH.cell? ⟨w.heap.size, 2, none⟩ = some (.slice tH uH vH) ∧
  ∃ xH yH zH,
  gH.cell? ⟨w.heap.size, 3, none⟩ = some (.slice xH yH zH) ∧
  R (.tuple #[.agg #[.slice hH iH jH, .slice kH pH qH, .slice tH uH vH, .slice xH yH zH], .bool false]) gH) (
  4 ≠ (0 : Int) ∧
  let bI : Int := Int.tmod d1 4;
  4 ≠ (0 : Int) ∧
  let dI : Int := Int.tmod d1 4;
  (0 : Int) ≤ dI ∧ dI < (4 : Int) ∧
  ∃ gI hI iI,
  bG.cell? ⟨b0.heap.size, 0 + dI.toNat * 1, none⟩ = some (.slice gI hI iI) ∧
  4 ≠ (0 : Int) ∧
  let jI : Int := IntKind.i64.wrap (Int.tdiv d1 4);
  let kI := World.alloc bG (.cells #[.int .i64 jI, .int .i64 g1] 98);
  ∃ pI qI tI,
  ∃ uI, (Builtin.append_ #[67, 67] 67 #[.slice gI hI iI, .slice (some ⟨bG.heap.size, 0, none⟩) 1 1]).run Tryd.prog kI = .ok (.slice pI qI tI) uI ∧
  (0 : Int) ≤ bI ∧ bI < (4 : Int) ∧
  canStore uI b0.heap.size (0 + bI.toNat * 1) 1 ∧
  let vI := setCs uI b0.heap.size (0 + bI.toNat * 1) [.slice pI qI tI];
  let xI : Int := IntKind.i64.wrap (i0 + 1);
  ([.slice Aa0 na0 ca0, .int .i64 xa1, .pointer (some ⟨a2, 0, none⟩), .pointer (some ⟨w.heap.size, 0, none⟩), .pointer (some ⟨b0.heap.size, 0, none⟩), .int .i64 xa1] : List Value) = ([.slice Aa0 na0 ca0, .int .i64 xa1, .pointer (some ⟨a2, 0, none⟩), .pointer (some ⟨w.heap.size, 0, none⟩), .pointer (some ⟨b0.heap.size, 0, none⟩), .int .i64 xa1] : List Value) ∧ ∃ m, m < k0 ∧ g0 xI vI m)))))) (
  ∃ yI zI bJ,
  j0.cell? ⟨b0.heap.size, 0, none⟩ = some (.slice yI zI bJ) ∧
  ∃ dJ gJ hJ,
  j0.cell? ⟨b0.heap.size, 1, none⟩ = some (.slice dJ gJ hJ) ∧
  ∃ iJ jJ kJ,
  j0.cell? ⟨b0.heap.size, 2, none⟩ = some (.slice iJ jJ kJ) ∧
  ∃ pJ qJ tJ,
  j0.cell? ⟨b0.heap.size, 3, none⟩ = some (.slice pJ qJ tJ) ∧
  ∃ uJ : Int → World → Nat → Prop,
  (∃ n, uJ 0 j0 n) ∧
  ∀ vJ : Env, ∀ xJ yJ zJ, uJ xJ yJ zJ →
  sel (decide ((xJ : Int) < (4 : Int))) (
  ∃ bK dK gK,
  (∀ w', (Instr.index 68 (.agg #[.slice yI zI bJ, .slice dJ gJ hJ, .slice iJ jJ kJ, .slice pJ qJ tJ]) (.int .i64 xJ)).run Tryd.prog w' = .ok (.slice bK dK gK) w') ∧
  Calls Tryd.prog 55 #[.slice bK dK gK, .func (.func 56) #[] #[]] yJ fun hK iK =>
  hK = .returned (.tuple #[]) ∧
  let jK : Int := IntKind.i64.wrap (xJ + 1);
  ([.pointer (some ⟨w.heap.size, 0, none⟩), .pointer (some ⟨b0.heap.size, 0, none⟩), .agg #[.slice yI zI bJ, .slice dJ gJ hJ, .slice iJ jJ kJ, .slice pJ qJ tJ]] : List Value) = ([.pointer (some ⟨w.heap.size, 0, none⟩), .pointer (some ⟨b0.heap.size, 0, none⟩), .agg #[.slice yI zI bJ, .slice dJ gJ hJ, .slice iJ jJ kJ, .slice pJ qJ tJ]] : List Value) ∧ ∃ m, m < zJ ∧ uJ jK iK m) (
  ∃ kK pK qK,
  yJ.cell? ⟨b0.heap.size, 0, none⟩ = some (.slice kK pK qK) ∧
  ∃ tK uK vK,
  yJ.cell? ⟨b0.heap.size, 1, none⟩ = some (.slice tK uK vK) ∧
  ∃ xK yK zK,
  yJ.cell? ⟨b0.heap.size, 2, none⟩ = some (.slice xK yK zK) ∧
  ∃ bL dL gL,
  yJ.cell? ⟨b0.heap.size, 3, none⟩ = some (.slice bL dL gL) ∧
  canStore yJ w.heap.size 0 4 ∧
  let hL := setCs yJ w.heap.size 0 [.slice kK pK qK, .slice tK uK vK, .slice xK yK zK, .slice bL dL gL];
  ∃ iL jL kL,
  hL.cell? ⟨w.heap.size, 0, none⟩ = some (.slice iL jL kL) ∧
  ∃ pL qL tL,
  hL.cell? ⟨w.heap.size, 1, none⟩ = some (.slice pL qL tL) ∧
  ∃ uL vL xL,
  hL.cell? ⟨w.heap.size, 2, none⟩ = some (.slice uL vL xL) ∧
  ∃ yL zL bM,
  hL.cell? ⟨w.heap.size, 3, none⟩ = some (.slice yL zL bM) ∧
  R (.tuple #[.agg #[.slice iL jL kL, .slice pL qL tL, .slice uL vL xL, .slice yL zL bM], .bool true]) hL))
theorem f39.eq (Aa0 : Option Addr) (na0 ca0 : Nat) (xa1 : Int) (a2 : Nat) (w : World) (R : Value → World → Prop) : f39.VC Aa0 na0 ca0 xa1 a2 w R = funV Tryd.prog Tryd.f39 f39.AL f39.AC #[.slice Aa0 na0 ca0, .int .i64 xa1, .pointer (some ⟨a2, 0, none⟩)] w R := by kernel_rfl
theorem f39.calls {Aa0 : Option Addr} {na0 ca0 : Nat} {xa1 : Int} {a2 : Nat} {w : World} {R : Value → World → Prop} (h : f39.VC Aa0 na0 ca0 xa1 a2 w R) : Calls Tryd.prog 39 #[.slice Aa0 na0 ca0, .int .i64 xa1, .pointer (some ⟨a2, 0, none⟩)] w fun e w' => ∃ v, e = .returned v ∧ R v w' :=
  funV_sound (fn := Tryd.f39) (AL := f39.AL) (AC := f39.AC) W15.mixed (by kernel_rfl) (by rw [← f39.eq Aa0 na0 ca0 xa1 a2]; exact h)

end Go.Proofs.YtjmlfknogjaemaaDoor
/- Page: sorted. -/
set_option linter.unusedVariables false
set_option linter.unusedSimpArgs false
set_option maxRecDepth 10000
namespace Go.Proofs.YtjmlfknogjaemaaDoor
open Go Go.Proofs.YtjmlfknogjaemaaDoor.Vc
namespace PG
open Vc.PG NI
theorem lookGo_range (W : List Int) (t : Nat) (key : Int) (f : Nat) : ∀ (r n : Nat), n + r = t → 0 < t → 1 ≤ (lookGo W t key f n r).2 ∧ (lookGo W t key f n r).2 ≤ t
  | 0, n, h, h0 => by simp [lookGo]; omega
  | r + 1, n, h, h0 => by
    rw [lookGo]
    split
    · exact ⟨by simp, by simp; omega⟩
    · split
      · exact ⟨by simp, by simp; omega⟩
      · exact lookGo_range W t key f r (n + 1) (by omega) h0
theorem lookP_range {W : List Int} {t : Nat} (ht : tabP W = (t : Int)) (h0 : 0 < t) {s k : Int} (hk : 1 ≤ k ∧ k ≤ 3) : 1 ≤ (lookP W s k).2 ∧ (lookP W s k).2 ≤ t := by
  unfold lookP
  rw [if_neg (by omega), ht, Int.toNat_natCast]
  exact lookGo_range W t _ _ t 0 (by omega) h0
theorem rawS_mem {W : List Int} {k : Int} {n : Nat} {p : Se} (h : p ∈ rawS W k n) : ∃ i, i < n ∧ 0 < keyAt W i ∧ keyAt W i % 4 = k ∧ p = (keyAt W i / 4, numAt W i) := by
  unfold rawS at h
  obtain ⟨i, hi, he⟩ := List.mem_filterMap.1 h
  by_cases hc : 0 < keyAt W i ∧ keyAt W i % 4 = k
  · rw [if_pos hc] at he
    exact ⟨i, List.mem_range.1 hi, hc.1, hc.2, (Option.some.inj he).symm⟩
  · rw [if_neg hc] at he; cases he
theorem okAt_place {W : List Int} {t : Nat} {l : List ByteArray} {i : Nat} (h : okAt W t l i = true) (hk : 0 < keyAt W i) : (pgHash (keyAt W i) t + (lookP W (keyAt W i / 4) (keyAt W i % 4)).2 - 1) % t = i := by
  unfold okAt at h
  rcases Bool.or_eq_true_iff.1 h with h | h
  · rw [Bool.and_eq_true, decide_eq_true_iff, decide_eq_true_iff] at h; omega
  · rw [Bool.and_eq_true] at h; exact of_decide_eq_true h.2
theorem rawS_apart {W : List Int} {t : Nat} {l : List ByteArray} {k : Int} : ∀ {n : Nat}, (∀ i, i < n → okAt W t l i = true) → (rawS W k n).Pairwise (fun x y => x.1 ≠ y.1)
  | 0, _ => by simp [rawS]
  | n + 1, h => by
    rw [rawS_succ, List.pairwise_append]
    refine ⟨rawS_apart fun i hi => h i (by omega), ?_, fun a ha b hb => ?_⟩
    · split <;> simp
    · obtain ⟨i, hi, h1, h2, rfl⟩ := rawS_mem ha
      split at hb
      · rename_i hc
        simp only [List.mem_singleton] at hb
        subst hb
        intro he
        simp only at he
        have e : keyAt W i = keyAt W n := by omega
        have p1 := okAt_place (h i (by omega)) h1
        have p2 := okAt_place (h n (by omega)) hc.1
        rw [e] at p1
        omega
      · simp at hb
theorem rise_se : ∀ {l l' : List Se}, l.Perm l' → l.Pairwise (fun x y => x.1 ≤ y.1) → l'.Pairwise (fun x y => x.1 < y.1) → l = l'
  | [], l', p, _, _ => p.nil_eq
  | x :: l, [], p, _, _ => absurd p.length_eq (by simp)
  | x :: l, y :: l', p, h, k => by
    obtain ⟨h1, h2⟩ := List.pairwise_cons.1 h
    obtain ⟨k1, k2⟩ := List.pairwise_cons.1 k
    have hxy : x = y := by
      have hx : x ∈ y :: l' := p.mem_iff.1 (by simp)
      have hy : y ∈ x :: l := p.mem_iff.2 (by simp)
      rcases List.mem_cons.1 hx with hx | hx
      · exact hx
      · rcases List.mem_cons.1 hy with hy | hy
        · exact hy.symm
        · have := k1 x hx; have := h1 y hy; omega
    subst hxy
    rw [rise_se ((List.perm_cons x).1 p) h2 k2]
theorem srt_eq {a m : List Se} (hp : m.Perm a) (hs : m.Pairwise (fun x y => x.1 ≤ y.1)) (hd : a.Pairwise (fun x y => x.1 ≠ y.1)) : m = srt a := by
  refine rise_se (hp.trans (srt_perm a).symm) hs ?_
  have h1 := srt_sorted a
  have h2 : (srt a).Pairwise (fun x y => x.1 ≠ y.1) := ((srt_perm a).pairwise_iff (fun h => Ne.symm h)).2 hd
  have := h1.and h2
  exact this.imp fun ⟨p, q⟩ => by omega
abbrev srK (b1 b2 : Nat) (Z : Array Value) (V1 V2 V3 : Sl) (s1 s2 s3 : List Se) (K : List Chunk) : List Chunk :=
  Chunk.blk b1 Z 68 :: Chunk.blk b2 #[.slice none 0 0, V1.v, V2.v, V3.v] 68 :: ses V1.v s1 :: ses V2.v s2 :: ses V3.v s3 :: K
theorem endS {S : List Nat} {w0 w u : World} {b1 b2 : Nat} {Z : Array Value} {V1 V2 V3 : Sl} {M : List Chunk} {R : Value → World → Prop} {ok : Bool} (hZ : Z.size = 4)
    (hS : St S w0 w (Chunk.blk b1 Z 68 :: Chunk.blk b2 #[.slice none 0 0, V1.v, V2.v, V3.v] 68 :: M)) (hu : St S w0 u (Chunk.blk b1 Z 68 :: Chunk.blk b2 #[.slice none 0 0, V1.v, V2.v, V3.v] 68 :: M))
    (hR : ∀ w', St S w0 w' M → R (.tuple #[.agg #[.slice none 0 0, V1.v, V2.v, V3.v], .bool ok]) w') :
    ∃ (A0 : Option Addr) (n0 c0 : Nat), w.cell? ⟨b2, 0, none⟩ = some (.slice A0 n0 c0) ∧ ∃ (A1 : Option Addr) (n1 c1 : Nat), w.cell? ⟨b2, 1, none⟩ = some (.slice A1 n1 c1) ∧
    ∃ (A2 : Option Addr) (n2 c2 : Nat), w.cell? ⟨b2, 2, none⟩ = some (.slice A2 n2 c2) ∧ ∃ (A3 : Option Addr) (n3 c3 : Nat), w.cell? ⟨b2, 3, none⟩ = some (.slice A3 n3 c3) ∧ canStore w b1 0 4 ∧
    let w5 : World := setCs u b1 0 [.slice A0 n0 c0, .slice A1 n1 c1, .slice A2 n2 c2, .slice A3 n3 c3]
    ∃ (B0 : Option Addr) (m0 d0 : Nat), w5.cell? ⟨b1, 0, none⟩ = some (.slice B0 m0 d0) ∧ ∃ (B1 : Option Addr) (m1 d1 : Nat), w5.cell? ⟨b1, 1, none⟩ = some (.slice B1 m1 d1) ∧
    ∃ (B2 : Option Addr) (m2 d2 : Nat), w5.cell? ⟨b1, 2, none⟩ = some (.slice B2 m2 d2) ∧ ∃ (B3 : Option Addr) (m3 d3 : Nat), w5.cell? ⟨b1, 3, none⟩ = some (.slice B3 m3 d3) ∧
    R (.tuple #[.agg #[.slice B0 m0 d0, .slice B1 m1 d1, .slice B2 m2 d2, .slice B3 m3 d3], .bool ok]) w5 := by
  have h5 := hu.over 0 rfl [.slice none 0 0, V1.v, V2.v, V3.v] (by simp [hZ])
  refine ⟨_, _, _, (hS.blk 1 rfl).cell rfl, _, _, _, (hS.blk 1 rfl).cell rfl, _, _, _, (hS.blk 1 rfl).cell rfl, _, _, _, (hS.blk 1 rfl).cell rfl, (hS.blk 0 rfl).can (by simp [hZ]), ?_⟩
  exact ⟨_, _, _, (h5.blk 0 rfl).cell rfl, _, _, _, (h5.blk 0 rfl).cell rfl, _, _, _, (h5.blk 0 rfl).cell rfl, _, _, _, (h5.blk 0 rfl).cell rfl, hR _ h5.tail.tail⟩
theorem appE {S : List Nat} {w0 w : World} {L : List Chunk} (h : St S w0 w L) (i : Nat) {A : Option Addr} {n c : Nat} {l : List Se} (hi : L[i]? = some (ses (.slice A n c) l)) (a : Se) (hl : l.length ≤ 1000000) :
    ∃ A' n' c' w', (Builtin.append_ #[67, 67] 67 #[.slice A n c, .slice (some ⟨w.heap.size, 0, Option.none⟩) 1 1]).run Tryd.prog (World.alloc w (.cells #[.int .i64 a.1, .int .i64 a.2] 98)) = .ok (.slice A' n' c') w' ∧ St S w0 w' (L.set i (ses (.slice A' n' c') (l ++ [a]))) ∧ n' = l.length + 1 := by
  obtain ⟨ti, i1, i2, i3, i4⟩ := info143
  obtain ⟨A', n', c', w', h1, h2⟩ := h.appR (enc := encE) (s := 2) (P := Tryd.prog) (t := 67) (ty := 67) (by decide) (fun _ => rfl) encE1 under109 i1 i2 i3 rfl (by omega) i hi a (by omega)
  have hil : i < L.length := (List.getElem?_eq_some_iff.1 hi).1
  have := h2.lrLen i (List.getElem?_set_self hil)
  exact ⟨_, _, _, w', h1, h2, by simpa using this⟩
theorem index110 (a b c d : Value) (w : World) : (Instr.index 68 (.agg #[a, b, c, d]) (.int .i64 0)).run Tryd.prog w = .ok a w ∧ (Instr.index 68 (.agg #[a, b, c, d]) (.int .i64 1)).run Tryd.prog w = .ok b w ∧ (Instr.index 68 (.agg #[a, b, c, d]) (.int .i64 2)).run Tryd.prog w = .ok c w ∧ (Instr.index 68 (.agg #[a, b, c, d]) (.int .i64 3)).run Tryd.prog w = .ok d w := by
  refine ⟨by kernel_rfl, by kernel_rfl, by kernel_rfl, by kernel_rfl⟩
end PG
end Go.Proofs.YtjmlfknogjaemaaDoor
