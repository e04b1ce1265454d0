/- The plain statements of some functions, printed by vcgen.py. -/
import Derived.Test.YtddbebhklmaeoaaM5
import Derived.Test.YtddbebhklmaeoaaProg
import Derived.KernelRfl
set_option maxRecDepth 100000
set_option maxHeartbeats 4000000
set_option linter.unusedVariables false
namespace Go.Proofs.Ytddbebhklmaeoaa
open Go Go.Proofs.Ytddbebhklmaeoaa.Vc
theorem W10.mixed : Try.prog.follows .mixedOrders = true := by kernel_rfl
/-- gatehouse/gatehouselaw27.JudgeLinear -/
def f3.AL : Nat → Option Ann := fun r => match r with | 5 => some ⟨[(9, .slice), (10, .int .i64)], [1, 2, 5, 6, 7, 8]⟩ | 15 => some ⟨[(20, .int .i64)], [1, 5, 6, 9, 11, 13, 16, 17, 19]⟩ | 20 => some ⟨[(21, .slice), (22, .int .i64)], [1, 5, 6, 9, 11, 13, 16, 17, 19]⟩ | 25 => some ⟨[(23, .bool), (24, .int .i64)], [1, 5, 9, 11, 16, 19]⟩ | 30 => some ⟨[(25, .bool), (26, .int .i64)], [1, 5, 11, 16, 19, 23]⟩ | _ => none
def f3.AC : Nat → Option Ann := fun r => match r with | 12 => some ⟨[(16, .bool)], [1, 5, 6, 7, 8, 9, 11, 12, 13]⟩ | 14 => some ⟨[(19, .bool)], [1, 5, 6, 9, 11, 13, 16, 17]⟩ | 24 => some ⟨[(23, .bool)], [1, 5, 9, 11, 16, 19]⟩ | 34 => some ⟨[(25, .bool)], [5, 16, 19, 23]⟩ | _ => none
def f3.VC (Aa0_0 : Option Addr) (na0_0 ca0_0 : Nat) (Aa0_1 : Option Addr) (na0_1 ca0_1 : Nat) (Aa0_2 : Option Addr) (na0_2 ca0_2 : Nat) (Aa0_3 : Option Addr) (na0_3 ca0_3 : Nat) (Aa0_4 : Option Addr) (na0_4 ca0_4 : Nat) (Aa0_5 : Option Addr) (na0_5 ca0_5 : Nat) (Aa0_6 : Option Addr) (na0_6 ca0_6 : Nat) (Aa0_7 : Option Addr) (na0_7 ca0_7 : Nat) (Aa0_8 : Option Addr) (na0_8 ca0_8 : Nat) (Aa0_9 : Option Addr) (na0_9 ca0_9 : Nat) (Aa0_10 : Option Addr) (na0_10 ca0_10 : Nat) (Aa1 : Option Addr) (na1 ca1 : Nat) (w : World) (R : Value → World → Prop) : Prop :=
  let b0 := World.alloc w (.cells #[.slice Aa0_0 na0_0 ca0_0, .slice Aa0_1 na0_1 ca0_1, .slice Aa0_2 na0_2 ca0_2, .slice Aa0_3 na0_3 ca0_3, .slice Aa0_4 na0_4 ca0_4, .slice Aa0_5 na0_5 ca0_5, .slice Aa0_6 na0_6 ca0_6, .slice Aa0_7 na0_7 ca0_7, .slice Aa0_8 na0_8 ca0_8, .slice Aa0_9 na0_9 ca0_9, .slice Aa0_10 na0_10 ca0_10] 28);
  Calls Try.prog 7 #[] b0 fun d0 g0 =>
  ∃ h0,
  d0 = .returned (.bool h0) ∧
  ∃ i0 j0 k0,
  g0.cell? ⟨w.heap.size, 0, none⟩ = some (.slice i0 j0 k0) ∧
  ∃ p0 q0 t0,
  g0.cell? ⟨w.heap.size, 1, none⟩ = some (.slice p0 q0 t0) ∧
  ∃ u0 v0 x0,
  g0.cell? ⟨w.heap.size, 2, none⟩ = some (.slice u0 v0 x0) ∧
  ∃ y0 z0 b1,
  g0.cell? ⟨w.heap.size, 3, none⟩ = some (.slice y0 z0 b1) ∧
  ∃ d1 g1 h1,
  g0.cell? ⟨w.heap.size, 4, none⟩ = some (.slice d1 g1 h1) ∧
  ∃ i1 j1 k1,
  g0.cell? ⟨w.heap.size, 5, none⟩ = some (.slice i1 j1 k1) ∧
  ∃ p1 q1 t1,
  g0.cell? ⟨w.heap.size, 6, none⟩ = some (.slice p1 q1 t1) ∧
  ∃ u1 v1 x1,
  g0.cell? ⟨w.heap.size, 7, none⟩ = some (.slice u1 v1 x1) ∧
  ∃ y1 z1 b2,
  g0.cell? ⟨w.heap.size, 8, none⟩ = some (.slice y1 z1 b2) ∧
  ∃ d2 g2 h2,
  g0.cell? ⟨w.heap.size, 9, none⟩ = some (.slice d2 g2 h2) ∧
  ∃ i2 j2 k2,
  g0.cell? ⟨w.heap.size, 10, none⟩ = some (.slice i2 j2 k2) ∧
  Calls Try.prog 8 #[.agg #[.slice i0 j0 k0, .slice p0 q0 t0, .slice u0 v0 x0, .slice y0 z0 b1, .slice d1 g1 h1, .slice i1 j1 k1, .slice p1 q1 t1, .slice u1 v1 x1, .slice y1 z1 b2, .slice d2 g2 h2, .slice i2 j2 k2], .slice Aa1 na1 ca1] g0 fun p2 q2 =>
  ∃ t2 u2 v2 x2 y2,
  p2 = .returned (.tuple #[.slice t2 u2 v2, .bool x2, .int .i64 y2]) ∧
  Calls Try.prog 9 #[.slice Aa1 na1 ca1] q2 fun z2 b3 =>
  ∃ d3 g3 h3,
  z2 = .returned (.slice d3 g3 h3) ∧
  ∃ i3 : Option Addr → Nat → Nat → Int → World → Nat → Prop,
  (∃ n, i3 d3 g3 h3 0 b3 n) ∧
  ∀ j3 : Env, ∀ k3 p3 q3 t3 u3 v3, i3 k3 p3 q3 t3 u3 v3 →
  sel (decide ((t3 : Int) < (12 : Int))) (
  let x3 := World.alloc u3 (.cells #[.int .i64 (-77), .int .i64 t3, .bool false, .bool false, .bool false, .slice none 0 0, .slice none 0 0, .slice none 0 0, .slice none 0 0, .slice none 0 0, .slice none 0 0, .slice none 0 0, .slice none 0 0, .slice none 0 0, .slice none 0 0, .slice none 0 0, .string ⟨#[]⟩, .string ⟨#[]⟩, .string ⟨#[]⟩] 39);
  ∃ y3 z3 b4,
  ∃ d4, (Builtin.append_ #[29, 29] 29 #[.slice k3 p3 q3, .slice (some ⟨u3.heap.size, 0, none⟩) 1 1]).run Try.prog x3 = .ok (.slice y3 z3 b4) d4 ∧
  let g4 : Int := IntKind.i64.wrap (t3 + 1);
  ([.slice Aa1 na1 ca1, .pointer (some ⟨w.heap.size, 0, none⟩), .bool h0, .slice t2 u2 v2, .bool x2, .int .i64 y2] : List Value) = ([.slice Aa1 na1 ca1, .pointer (some ⟨w.heap.size, 0, none⟩), .bool h0, .slice t2 u2 v2, .bool x2, .int .i64 y2] : List Value) ∧ ∃ m, m < v3 ∧ i3 y3 z3 b4 g4 d4 m) (
  (0 : Int) ≤ (na1 : Int) ∧ (na1 : Int) ≤ (q3 : Int) ∧
  ∃ h4 i4 j4,
  u3.cell? ⟨w.heap.size, 0, none⟩ = some (.slice h4 i4 j4) ∧
  ∃ k4 p4 q4,
  u3.cell? ⟨w.heap.size, 1, none⟩ = some (.slice k4 p4 q4) ∧
  ∃ t4 u4 v4,
  u3.cell? ⟨w.heap.size, 2, none⟩ = some (.slice t4 u4 v4) ∧
  ∃ x4 y4 z4,
  u3.cell? ⟨w.heap.size, 3, none⟩ = some (.slice x4 y4 z4) ∧
  ∃ b5 d5 g5,
  u3.cell? ⟨w.heap.size, 4, none⟩ = some (.slice b5 d5 g5) ∧
  ∃ h5 i5 j5,
  u3.cell? ⟨w.heap.size, 5, none⟩ = some (.slice h5 i5 j5) ∧
  ∃ k5 p5 q5,
  u3.cell? ⟨w.heap.size, 6, none⟩ = some (.slice k5 p5 q5) ∧
  ∃ t5 u5 v5,
  u3.cell? ⟨w.heap.size, 7, none⟩ = some (.slice t5 u5 v5) ∧
  ∃ x5 y5 z5,
  u3.cell? ⟨w.heap.size, 8, none⟩ = some (.slice x5 y5 z5) ∧
  ∃ b6 d6 g6,
  u3.cell? ⟨w.heap.size, 9, none⟩ = some (.slice b6 d6 g6) ∧
  ∃ h6 i6 j6,
  u3.cell? ⟨w.heap.size, 10, none⟩ = some (.slice h6 i6 j6) ∧
  Calls Try.prog 10 #[.agg #[.slice h4 i4 j4, .slice k4 p4 q4, .slice t4 u4 v4, .slice x4 y4 z4, .slice b5 d5 g5, .slice h5 i5 j5, .slice k5 p5 q5, .slice t5 u5 v5, .slice x5 y5 z5, .slice b6 d6 g6, .slice h6 i6 j6]] u3 fun k6 p6 =>
  ∃ q6 t6 u6 v6 x6 y6 z6 b7 d7 g7 h7 i7 j7 k7 p7 q7 t7 u7 v7 x7 y7 z7 b8 d8 g8 h8 i8 j8 k8 p8 q8 t8 u8,
  k6 = .returned (.agg #[.slice q6 t6 u6, .slice v6 x6 y6, .slice z6 b7 d7, .slice g7 h7 i7, .slice j7 k7 p7, .slice q7 t7 u7, .slice v7 x7 y7, .slice z7 b8 d8, .slice g8 h8 i8, .slice j8 k8 p8, .slice q8 t8 u8]) ∧
  let v8 := World.alloc p6 (.cells #[.slice none 0 0, .slice none 0 0, .slice none 0 0, .slice none 0 0, .slice none 0 0, .slice none 0 0, .slice none 0 0, .slice none 0 0, .slice none 0 0, .slice none 0 0, .slice none 0 0] 28);
  canStore v8 p6.heap.size 0 11 ∧
  let x8 := setCs v8 p6.heap.size 0 [.slice q6 t6 u6, .slice v6 x6 y6, .slice z6 b7 d7, .slice g7 h7 i7, .slice j7 k7 p7, .slice q7 t7 u7, .slice v7 x7 y7, .slice z7 b8 d8, .slice g8 h8 i8, .slice j8 k8 p8, .slice q8 t8 u8];
  ∃ y8 z8 b9,
  x8.cell? ⟨p6.heap.size, 0, none⟩ = some (.slice y8 z8 b9) ∧
  ∃ d9 g9 h9,
  x8.cell? ⟨p6.heap.size, 1, none⟩ = some (.slice d9 g9 h9) ∧
  ∃ i9 j9 k9,
  x8.cell? ⟨p6.heap.size, 2, none⟩ = some (.slice i9 j9 k9) ∧
  ∃ p9 q9 t9,
  x8.cell? ⟨p6.heap.size, 3, none⟩ = some (.slice p9 q9 t9) ∧
  ∃ u9 v9 x9,
  x8.cell? ⟨p6.heap.size, 4, none⟩ = some (.slice u9 v9 x9) ∧
  ∃ y9 z9 bA,
  x8.cell? ⟨p6.heap.size, 5, none⟩ = some (.slice y9 z9 bA) ∧
  ∃ dA gA hA,
  x8.cell? ⟨p6.heap.size, 6, none⟩ = some (.slice dA gA hA) ∧
  ∃ iA jA kA,
  x8.cell? ⟨p6.heap.size, 7, none⟩ = some (.slice iA jA kA) ∧
  ∃ pA qA tA,
  x8.cell? ⟨p6.heap.size, 8, none⟩ = some (.slice pA qA tA) ∧
  ∃ uA vA xA,
  x8.cell? ⟨p6.heap.size, 9, none⟩ = some (.slice uA vA xA) ∧
  ∃ yA zA bB,
  x8.cell? ⟨p6.heap.size, 10, none⟩ = some (.slice yA zA bB) ∧
  Calls Try.prog 11 #[.agg #[.slice y8 z8 b9, .slice d9 g9 h9, .slice i9 j9 k9, .slice p9 q9 t9, .slice u9 v9 x9, .slice y9 z9 bA, .slice dA gA hA, .slice iA jA kA, .slice pA qA tA, .slice uA vA xA, .slice yA zA bB], .slice k3 (na1 : Int).toNat q3] x8 fun dB gB =>
  ∃ hB iB jB kB pB,
  dB = .returned (.tuple #[.slice hB iB jB, .bool kB, .int .i64 pB]) ∧
  ∃ qB : Bool → World → Prop,
  (sel (kB == x2) (
  sel ((pB : Int) == (y2 : Int)) (
  Calls Try.prog 12 #[.slice hB iB jB, .slice t2 u2 v2] gB fun tB uB =>
  ∃ vB,
  tB = .returned (.bool vB) ∧
  ([.slice Aa1 na1 ca1, .bool h0, .slice t2 u2 v2, .bool x2, .int .i64 y2, .slice k3 p3 q3, .slice k3 (na1 : Int).toNat q3, .pointer (some ⟨p6.heap.size, 0, none⟩), .slice hB iB jB] : List Value) = ([.slice Aa1 na1 ca1, .bool h0, .slice t2 u2 v2, .bool x2, .int .i64 y2, .slice k3 p3 q3, .slice k3 (na1 : Int).toNat q3, .pointer (some ⟨p6.heap.size, 0, none⟩), .slice hB iB jB] : List Value) ∧ qB vB uB) (
  ([.slice Aa1 na1 ca1, .bool h0, .slice t2 u2 v2, .bool x2, .int .i64 y2, .slice k3 p3 q3, .slice k3 (na1 : Int).toNat q3, .pointer (some ⟨p6.heap.size, 0, none⟩), .slice hB iB jB] : List Value) = ([.slice Aa1 na1 ca1, .bool h0, .slice t2 u2 v2, .bool x2, .int .i64 y2, .slice k3 p3 q3, .slice k3 (na1 : Int).toNat q3, .pointer (some ⟨p6.heap.size, 0, none⟩), .slice hB iB jB] : List Value) ∧ qB false gB)) (
  ([.slice Aa1 na1 ca1, .bool h0, .slice t2 u2 v2, .bool x2, .int .i64 y2, .slice k3 p3 q3, .slice k3 (na1 : Int).toNat q3, .pointer (some ⟨p6.heap.size, 0, none⟩), .slice hB iB jB] : List Value) = ([.slice Aa1 na1 ca1, .bool h0, .slice t2 u2 v2, .bool x2, .int .i64 y2, .slice k3 p3 q3, .slice k3 (na1 : Int).toNat q3, .pointer (some ⟨p6.heap.size, 0, none⟩), .slice hB iB jB] : List Value) ∧ qB false gB)) ∧
  ∀ xB : Env, ∀ yB zB, qB yB zB →
  ∃ bC dC gC,
  zB.cell? ⟨p6.heap.size, 0, none⟩ = some (.slice bC dC gC) ∧
  ∃ hC iC jC,
  zB.cell? ⟨p6.heap.size, 1, none⟩ = some (.slice hC iC jC) ∧
  ∃ kC pC qC,
  zB.cell? ⟨p6.heap.size, 2, none⟩ = some (.slice kC pC qC) ∧
  ∃ tC uC vC,
  zB.cell? ⟨p6.heap.size, 3, none⟩ = some (.slice tC uC vC) ∧
  ∃ xC yC zC,
  zB.cell? ⟨p6.heap.size, 4, none⟩ = some (.slice xC yC zC) ∧
  ∃ bD dD gD,
  zB.cell? ⟨p6.heap.size, 5, none⟩ = some (.slice bD dD gD) ∧
  ∃ hD iD jD,
  zB.cell? ⟨p6.heap.size, 6, none⟩ = some (.slice hD iD jD) ∧
  ∃ kD pD qD,
  zB.cell? ⟨p6.heap.size, 7, none⟩ = some (.slice kD pD qD) ∧
  ∃ tD uD vD,
  zB.cell? ⟨p6.heap.size, 8, none⟩ = some (.slice tD uD vD) ∧
  ∃ xD yD zD,
  zB.cell? ⟨p6.heap.size, 9, none⟩ = some (.slice xD yD zD) ∧
  ∃ bE dE gE,
  zB.cell? ⟨p6.heap.size, 10, none⟩ = some (.slice bE dE gE) ∧
  Calls Try.prog 11 #[.agg #[.slice bC dC gC, .slice hC iC jC, .slice kC pC qC, .slice tC uC vC, .slice xC yC zC, .slice bD dD gD, .slice hD iD jD, .slice kD pD qD, .slice tD uD vD, .slice xD yD zD, .slice bE dE gE], .slice k3 (na1 : Int).toNat q3] zB fun hE iE =>
  ∃ jE kE pE qE tE,
  hE = .returned (.tuple #[.slice jE kE pE, .bool qE, .int .i64 tE]) ∧
  ∃ uE : Bool → World → Prop,
  (sel (qE == x2) (
  sel ((tE : Int) == (y2 : Int)) (
  Calls Try.prog 12 #[.slice jE kE pE, .slice t2 u2 v2] iE fun vE xE =>
  ∃ yE,
  vE = .returned (.bool yE) ∧
  ([.slice Aa1 na1 ca1, .bool h0, .slice t2 u2 v2, .slice k3 p3 q3, .slice k3 (na1 : Int).toNat q3, .slice hB iB jB, .bool yB, .slice jE kE pE] : List Value) = ([.slice Aa1 na1 ca1, .bool h0, .slice t2 u2 v2, .slice k3 p3 q3, .slice k3 (na1 : Int).toNat q3, .slice hB iB jB, .bool yB, .slice jE kE pE] : List Value) ∧ uE yE xE) (
  ([.slice Aa1 na1 ca1, .bool h0, .slice t2 u2 v2, .slice k3 p3 q3, .slice k3 (na1 : Int).toNat q3, .slice hB iB jB, .bool yB, .slice jE kE pE] : List Value) = ([.slice Aa1 na1 ca1, .bool h0, .slice t2 u2 v2, .slice k3 p3 q3, .slice k3 (na1 : Int).toNat q3, .slice hB iB jB, .bool yB, .slice jE kE pE] : List Value) ∧ uE false iE)) (
  ([.slice Aa1 na1 ca1, .bool h0, .slice t2 u2 v2, .slice k3 p3 q3, .slice k3 (na1 : Int).toNat q3, .slice hB iB jB, .bool yB, .slice jE kE pE] : List Value) = ([.slice Aa1 na1 ca1, .bool h0, .slice t2 u2 v2, .slice k3 p3 q3, .slice k3 (na1 : Int).toNat q3, .slice hB iB jB, .bool yB, .slice jE kE pE] : List Value) ∧ uE false iE)) ∧
  ∀ zE : Env, ∀ bF dF, uE bF dF →
  ∃ gF : Int → World → Nat → Prop,
  (∃ n, gF 0 dF n) ∧
  ∀ hF : Env, ∀ iF jF kF, gF iF jF kF →
  sel (decide ((iF : Int) < ((iB : Int) : Int))) (
  (0 : Int) ≤ iF ∧ iF < (iB : Int) ∧
  needPtr hB fun pF qF =>
  canStore jF pF (qF + iF.toNat * 1) 1 ∧
  let tF := setCs jF pF (qF + iF.toNat * 1) [.int .i64 (-9)];
  let uF : Int := IntKind.i64.wrap (iF + 1);
  ([.slice Aa1 na1 ca1, .bool h0, .slice t2 u2 v2, .slice k3 p3 q3, .slice k3 (na1 : Int).toNat q3, .slice hB iB jB, .bool yB, .slice jE kE pE, .bool bF] : List Value) = ([.slice Aa1 na1 ca1, .bool h0, .slice t2 u2 v2, .slice k3 p3 q3, .slice k3 (na1 : Int).toNat q3, .slice hB iB jB, .bool yB, .slice jE kE pE, .bool bF] : List Value) ∧ ∃ m, m < kF ∧ gF uF tF m) (
  ∃ vF : Option Addr → Nat → Nat → Int → World → Nat → Prop,
  (∃ n, vF hB iB jB 0 jF n) ∧
  ∀ xF : Env, ∀ yF zF bG dG gG hG, vF yF zF bG dG gG hG →
  sel (decide ((dG : Int) < (20 : Int))) (
  let iG := World.alloc gG (.cells #[.int .i64 (-8)] 3);
  ∃ jG kG pG,
  ∃ qG, (Builtin.append_ #[31, 31] 31 #[.slice yF zF bG, .slice (some ⟨gG.heap.size, 0, none⟩) 1 1]).run Try.prog iG = .ok (.slice jG kG pG) qG ∧
  let tG : Int := IntKind.i64.wrap (dG + 1);
  ([.slice Aa1 na1 ca1, .bool h0, .slice t2 u2 v2, .slice k3 p3 q3, .slice k3 (na1 : Int).toNat q3, .slice hB iB jB, .bool yB, .slice jE kE pE, .bool bF] : List Value) = ([.slice Aa1 na1 ca1, .bool h0, .slice t2 u2 v2, .slice k3 p3 q3, .slice k3 (na1 : Int).toNat q3, .slice hB iB jB, .bool yB, .slice jE kE pE, .bool bF] : List Value) ∧ ∃ m, m < hG ∧ vF jG kG pG tG qG m) (
  ∃ uG : Bool → World → Prop,
  (Calls Try.prog 12 #[.slice jE kE pE, .slice t2 u2 v2] gG fun vG xG =>
  ∃ yG,
  vG = .returned (.bool yG) ∧
  sel yG (
  let zG : Int := IntKind.i64.wrap ((iB : Int) + 20);
  ([.slice Aa1 na1 ca1, .bool h0, .slice k3 p3 q3, .slice k3 (na1 : Int).toNat q3, .bool yB, .bool bF] : List Value) = ([.slice Aa1 na1 ca1, .bool h0, .slice k3 p3 q3, .slice k3 (na1 : Int).toNat q3, .bool yB, .bool bF] : List Value) ∧ uG (((zF : Int) : Int) == (zG : Int)) xG) (
  ([.slice Aa1 na1 ca1, .bool h0, .slice k3 p3 q3, .slice k3 (na1 : Int).toNat q3, .bool yB, .bool bF] : List Value) = ([.slice Aa1 na1 ca1, .bool h0, .slice k3 p3 q3, .slice k3 (na1 : Int).toNat q3, .bool yB, .bool bF] : List Value) ∧ uG false xG)) ∧
  ∀ bH : Env, ∀ dH gH, uG dH gH →
  ∃ hH : Bool → Int → World → Nat → Prop,
  (∃ n, hH dH 0 gH n) ∧
  ∀ iH : Env, ∀ jH kH pH qH, hH jH kH pH qH →
  sel (decide ((kH : Int) < (12 : Int))) (
  sel jH (
  let tH : Int := IntKind.i64.wrap ((na1 : Int) + kH);
  (0 : Int) ≤ tH ∧ tH < (p3 : Int) ∧
  needPtr k3 fun uH vH =>
  ∃ xH,
  pH.cell? ⟨uH, vH + tH.toNat * 19, none⟩ = some (.int .i64 xH) ∧
  sel ((xH : Int) == ((-77) : Int)) (
  let yH : Int := IntKind.i64.wrap ((na1 : Int) + kH);
  (0 : Int) ≤ yH ∧ yH < (p3 : Int) ∧
  needPtr k3 fun zH bI =>
  ∃ dI,
  pH.cell? ⟨zH, bI + yH.toNat * 19 + 1, none⟩ = some (.int .i64 dI) ∧
  let gI : Int := IntKind.i64.wrap (kH + 1);
  ([.slice Aa1 na1 ca1, .bool h0, .slice k3 p3 q3, .slice k3 (na1 : Int).toNat q3, .bool yB, .bool bF] : List Value) = ([.slice Aa1 na1 ca1, .bool h0, .slice k3 p3 q3, .slice k3 (na1 : Int).toNat q3, .bool yB, .bool bF] : List Value) ∧ ∃ m, m < qH ∧ hH ((dI : Int) == (kH : Int)) gI pH m) (
  let hI : Int := IntKind.i64.wrap (kH + 1);
  ([.slice Aa1 na1 ca1, .bool h0, .slice k3 p3 q3, .slice k3 (na1 : Int).toNat q3, .bool yB, .bool bF] : List Value) = ([.slice Aa1 na1 ca1, .bool h0, .slice k3 p3 q3, .slice k3 (na1 : Int).toNat q3, .bool yB, .bool bF] : List Value) ∧ ∃ m, m < qH ∧ hH false hI pH m)) (
  let iI : Int := IntKind.i64.wrap (kH + 1);
  ([.slice Aa1 na1 ca1, .bool h0, .slice k3 p3 q3, .slice k3 (na1 : Int).toNat q3, .bool yB, .bool bF] : List Value) = ([.slice Aa1 na1 ca1, .bool h0, .slice k3 p3 q3, .slice k3 (na1 : Int).toNat q3, .bool yB, .bool bF] : List Value) ∧ ∃ m, m < qH ∧ hH false iI pH m)) (
  ∃ jI : Bool → Int → World → Nat → Prop,
  (∃ n, jI true 0 pH n) ∧
  ∀ kI : Env, ∀ pI qI tI uI, jI pI qI tI uI →
  sel (decide ((qI : Int) < ((na1 : Int) : Int))) (
  sel pI (
  (0 : Int) ≤ qI ∧ qI < (na1 : Int) ∧
  needPtr Aa1 fun vI xI =>
  ∃ yI zI bJ,
  tI.cell? ⟨vI, xI + qI.toNat * 19 + 5, none⟩ = some (.slice yI zI bJ) ∧
  ∃ dJ gJ hJ,
  tI.cell? ⟨vI, xI + qI.toNat * 19 + 5 + 1, none⟩ = some (.slice dJ gJ hJ) ∧
  ∃ iJ jJ kJ,
  tI.cell? ⟨vI, xI + qI.toNat * 19 + 5 + 1 + 1, none⟩ = some (.slice iJ jJ kJ) ∧
  ∃ pJ qJ tJ,
  tI.cell? ⟨vI, xI + qI.toNat * 19 + 5 + 1 + 1 + 1, none⟩ = some (.slice pJ qJ tJ) ∧
  ∃ uJ vJ xJ,
  tI.cell? ⟨vI, xI + qI.toNat * 19 + 5 + 1 + 1 + 1 + 1, none⟩ = some (.slice uJ vJ xJ) ∧
  ∃ yJ zJ bK,
  tI.cell? ⟨vI, xI + qI.toNat * 19 + 5 + 1 + 1 + 1 + 1 + 1, none⟩ = some (.slice yJ zJ bK) ∧
  ∃ dK gK hK,
  tI.cell? ⟨vI, xI + qI.toNat * 19 + 5 + 1 + 1 + 1 + 1 + 1 + 1, none⟩ = some (.slice dK gK hK) ∧
  ∃ iK jK kK,
  tI.cell? ⟨vI, xI + qI.toNat * 19 + 5 + 1 + 1 + 1 + 1 + 1 + 1 + 1, none⟩ = some (.slice iK jK kK) ∧
  ∃ pK qK tK,
  tI.cell? ⟨vI, xI + qI.toNat * 19 + 5 + 1 + 1 + 1 + 1 + 1 + 1 + 1 + 1, none⟩ = some (.slice pK qK tK) ∧
  ∃ uK vK xK,
  tI.cell? ⟨vI, xI + qI.toNat * 19 + 5 + 1 + 1 + 1 + 1 + 1 + 1 + 1 + 1 + 1, none⟩ = some (.slice uK vK xK) ∧
  ∃ yK zK bL,
  tI.cell? ⟨vI, xI + qI.toNat * 19 + 5 + 1 + 1 + 1 + 1 + 1 + 1 + 1 + 1 + 1 + 1, none⟩ = some (.slice yK zK bL) ∧
  Calls Try.prog 13 #[.agg #[.slice yI zI bJ, .slice dJ gJ hJ, .slice iJ jJ kJ, .slice pJ qJ tJ, .slice uJ vJ xJ, .slice yJ zJ bK, .slice dK gK hK, .slice iK jK kK, .slice pK qK tK, .slice uK vK xK, .slice yK zK bL]] tI fun dL gL =>
  ∃ hL,
  dL = .returned (.bool hL) ∧
  let iL : Int := IntKind.i64.wrap (qI + 1);
  ([.slice Aa1 na1 ca1, .bool h0, .slice k3 (na1 : Int).toNat q3, .bool yB, .bool bF, .bool jH] : List Value) = ([.slice Aa1 na1 ca1, .bool h0, .slice k3 (na1 : Int).toNat q3, .bool yB, .bool bF, .bool jH] : List Value) ∧ ∃ m, m < uI ∧ jI hL iL gL m) (
  let jL : Int := IntKind.i64.wrap (qI + 1);
  ([.slice Aa1 na1 ca1, .bool h0, .slice k3 (na1 : Int).toNat q3, .bool yB, .bool bF, .bool jH] : List Value) = ([.slice Aa1 na1 ca1, .bool h0, .slice k3 (na1 : Int).toNat q3, .bool yB, .bool bF, .bool jH] : List Value) ∧ ∃ m, m < uI ∧ jI false jL tI m)) (
  ∃ kL : Bool → World → Prop,
  (sel (!pI) (
  ([.bool h0, .bool yB, .bool bF, .bool jH] : List Value) = ([.bool h0, .bool yB, .bool bF, .bool jH] : List Value) ∧ kL true tI) (
  Calls Try.prog 14 #[.slice k3 (na1 : Int).toNat q3, .slice Aa1 na1 ca1] tI fun pL qL =>
  ∃ tL,
  pL = .returned (.bool tL) ∧
  ([.bool h0, .bool yB, .bool bF, .bool jH] : List Value) = ([.bool h0, .bool yB, .bool bF, .bool jH] : List Value) ∧ kL tL qL)) ∧
  ∀ uL : Env, ∀ vL xL, kL vL xL →
  sel h0 (
  sel yB (
  sel bF (
  sel jH (
  R (.bool vL) xL) (
  R (.bool false) xL)) (
  R (.bool false) xL)) (
  R (.bool false) xL)) (
  R (.bool false) xL))))))
theorem f3.eq (Aa0_0 : Option Addr) (na0_0 ca0_0 : Nat) (Aa0_1 : Option Addr) (na0_1 ca0_1 : Nat) (Aa0_2 : Option Addr) (na0_2 ca0_2 : Nat) (Aa0_3 : Option Addr) (na0_3 ca0_3 : Nat) (Aa0_4 : Option Addr) (na0_4 ca0_4 : Nat) (Aa0_5 : Option Addr) (na0_5 ca0_5 : Nat) (Aa0_6 : Option Addr) (na0_6 ca0_6 : Nat) (Aa0_7 : Option Addr) (na0_7 ca0_7 : Nat) (Aa0_8 : Option Addr) (na0_8 ca0_8 : Nat) (Aa0_9 : Option Addr) (na0_9 ca0_9 : Nat) (Aa0_10 : Option Addr) (na0_10 ca0_10 : Nat) (Aa1 : Option Addr) (na1 ca1 : Nat) (w : World) (R : Value → World → Prop) : f3.VC Aa0_0 na0_0 ca0_0 Aa0_1 na0_1 ca0_1 Aa0_2 na0_2 ca0_2 Aa0_3 na0_3 ca0_3 Aa0_4 na0_4 ca0_4 Aa0_5 na0_5 ca0_5 Aa0_6 na0_6 ca0_6 Aa0_7 na0_7 ca0_7 Aa0_8 na0_8 ca0_8 Aa0_9 na0_9 ca0_9 Aa0_10 na0_10 ca0_10 Aa1 na1 ca1 w R = funV Try.prog Try.f3 f3.AL f3.AC #[.agg #[.slice Aa0_0 na0_0 ca0_0, .slice Aa0_1 na0_1 ca0_1, .slice Aa0_2 na0_2 ca0_2, .slice Aa0_3 na0_3 ca0_3, .slice Aa0_4 na0_4 ca0_4, .slice Aa0_5 na0_5 ca0_5, .slice Aa0_6 na0_6 ca0_6, .slice Aa0_7 na0_7 ca0_7, .slice Aa0_8 na0_8 ca0_8, .slice Aa0_9 na0_9 ca0_9, .slice Aa0_10 na0_10 ca0_10], .slice Aa1 na1 ca1] w R := by kernel_rfl
theorem f3.calls {Aa0_0 : Option Addr} {na0_0 ca0_0 : Nat} {Aa0_1 : Option Addr} {na0_1 ca0_1 : Nat} {Aa0_2 : Option Addr} {na0_2 ca0_2 : Nat} {Aa0_3 : Option Addr} {na0_3 ca0_3 : Nat} {Aa0_4 : Option Addr} {na0_4 ca0_4 : Nat} {Aa0_5 : Option Addr} {na0_5 ca0_5 : Nat} {Aa0_6 : Option Addr} {na0_6 ca0_6 : Nat} {Aa0_7 : Option Addr} {na0_7 ca0_7 : Nat} {Aa0_8 : Option Addr} {na0_8 ca0_8 : Nat} {Aa0_9 : Option Addr} {na0_9 ca0_9 : Nat} {Aa0_10 : Option Addr} {na0_10 ca0_10 : Nat} {Aa1 : Option Addr} {na1 ca1 : Nat} {w : World} {R : Value → World → Prop} (h : f3.VC Aa0_0 na0_0 ca0_0 Aa0_1 na0_1 ca0_1 Aa0_2 na0_2 ca0_2 Aa0_3 na0_3 ca0_3 Aa0_4 na0_4 ca0_4 Aa0_5 na0_5 ca0_5 Aa0_6 na0_6 ca0_6 Aa0_7 na0_7 ca0_7 Aa0_8 na0_8 ca0_8 Aa0_9 na0_9 ca0_9 Aa0_10 na0_10 ca0_10 Aa1 na1 ca1 w R) : Calls Try.prog 3 #[.agg #[.slice Aa0_0 na0_0 ca0_0, .slice Aa0_1 na0_1 ca0_1, .slice Aa0_2 na0_2 ca0_2, .slice Aa0_3 na0_3 ca0_3, .slice Aa0_4 na0_4 ca0_4, .slice Aa0_5 na0_5 ca0_5, .slice Aa0_6 na0_6 ca0_6, .slice Aa0_7 na0_7 ca0_7, .slice Aa0_8 na0_8 ca0_8, .slice Aa0_9 na0_9 ca0_9, .slice Aa0_10 na0_10 ca0_10], .slice Aa1 na1 ca1] w fun e w' => ∃ v, e = .returned v ∧ R v w' :=
  funV_sound (fn := Try.f3) (AL := f3.AL) (AC := f3.AC) W10.mixed (by kernel_rfl) (by rw [← f3.eq Aa0_0 na0_0 ca0_0 Aa0_1 na0_1 ca0_1 Aa0_2 na0_2 ca0_2 Aa0_3 na0_3 ca0_3 Aa0_4 na0_4 ca0_4 Aa0_5 na0_5 ca0_5 Aa0_6 na0_6 ca0_6 Aa0_7 na0_7 ca0_7 Aa0_8 na0_8 ca0_8 Aa0_9 na0_9 ca0_9 Aa0_10 na0_10 ca0_10 Aa1 na1 ca1]; exact h)

end Go.Proofs.Ytddbebhklmaeoaa
