/- The plain statements of some functions, printed by vcgen.py. -/
import Derived.Test.YtjmlfknogjaemaaDoorM5
import Derived.Test.YtjmlfknogjaemaaDoorProg
import Derived.KernelRfl
import Derived.Test.YtjmlfknogjaemaaDoorM10
set_option maxRecDepth 100000
set_option maxHeartbeats 4000000
set_option linter.unusedVariables false
namespace Go.Proofs.YtjmlfknogjaemaaDoor
open Go Go.Proofs.YtjmlfknogjaemaaDoor.Vc
theorem W5.mixed : Tryd.prog.follows .mixedOrders = true := by kernel_rfl
/-- gatehouse/gatehouseref11.twice -/
def f32.AL : Nat → Option Ann := fun r => match r with | 2 => some ⟨[(3, .int .i64)], [0]⟩ | 5 => some ⟨[(4, .int .i64)], [0, 3]⟩ | _ => none
def f32.AC : Nat → Option Ann := fun _ => none
def f32.VC (Aa0 : Option Addr) (na0 ca0 : Nat) (w : World) (R : Value → World → Prop) : Prop :=
  ∃ b0 : Int → World → Nat → Prop,
  (∃ n, b0 0 w n) ∧
  ∀ d0 : Env, ∀ g0 h0 i0, b0 g0 h0 i0 →
  sel (decide ((g0 : Int) < ((na0 : Int) : Int))) (
  ∃ j0 : Int → World → Nat → Prop,
  (∃ n, j0 0 h0 n) ∧
  ∀ k0 : Env, ∀ p0 q0 t0, j0 p0 q0 t0 →
  sel (decide ((p0 : Int) < (g0 : Int))) (
  (0 : Int) ≤ p0 ∧ p0 < (na0 : Int) ∧
  needPtr Aa0 fun u0 v0 =>
  (0 : Int) ≤ g0 ∧ g0 < (na0 : Int) ∧
  needPtr Aa0 fun x0 y0 =>
  ∃ z0,
  q0.cell? ⟨u0, v0 + p0.toNat * 1, none⟩ = some (.string z0) ∧
  ∃ b1,
  q0.cell? ⟨x0, y0 + g0.toNat * 1, none⟩ = some (.string b1) ∧
  sel (decide (z0 = b1)) (
  R (.bool true) q0.drew) (
  let d1 : Int := IntKind.i64.wrap (p0 + 1);
  ([.slice Aa0 na0 ca0, .int .i64 g0] : List Value) = ([.slice Aa0 na0 ca0, .int .i64 g0] : List Value) ∧ ∃ m, m < t0 ∧ j0 d1 q0.drew m)) (
  let g1 : Int := IntKind.i64.wrap (g0 + 1);
  ([.slice Aa0 na0 ca0] : List Value) = ([.slice Aa0 na0 ca0] : List Value) ∧ ∃ m, m < i0 ∧ b0 g1 q0 m)) (
  R (.bool false) h0)
theorem f32.eq (Aa0 : Option Addr) (na0 ca0 : Nat) (w : World) (R : Value → World → Prop) : f32.VC Aa0 na0 ca0 w R = funV Tryd.prog Tryd.f32 f32.AL f32.AC #[.slice Aa0 na0 ca0] w R := by kernel_rfl
theorem f32.calls {Aa0 : Option Addr} {na0 ca0 : Nat} {w : World} {R : Value → World → Prop} (h : f32.VC Aa0 na0 ca0 w R) : Calls Tryd.prog 32 #[.slice Aa0 na0 ca0] w fun e w' => ∃ v, e = .returned v ∧ R v w' :=
  funV_sound (fn := Tryd.f32) (AL := f32.AL) (AC := f32.AC) W5.mixed (by kernel_rfl) (by rw [← f32.eq Aa0 na0 ca0]; exact h)

/-- gatehouse/gatehouseref11.Greatest -/
def f33.AL : Nat → Option Ann := fun r => match r with | 3 => some ⟨[(4, .int .i64), (5, .int .i64)], [0]⟩ | _ => none
def f33.AC : Nat → Option Ann := fun _ => none
def f33.VC (Aa0 : Option Addr) (na0 ca0 : Nat) (w : World) (R : Value → World → Prop) : Prop :=
  ∃ b0 : Int → Int → World → Nat → Prop,
  (∃ n, b0 0 0 w n) ∧
  ∀ d0 : Env, ∀ g0 h0 i0 j0, b0 g0 h0 i0 j0 →
  sel (decide ((h0 : Int) < ((na0 : Int) : Int))) (
  (0 : Int) ≤ h0 ∧ h0 < (na0 : Int) ∧
  needPtr Aa0 fun k0 p0 =>
  ∃ q0,
  i0.cell? ⟨k0, p0 + h0.toNat * 1, none⟩ = some (.int .i64 q0) ∧
  sel (decide ((q0 : Int) < (1 : Int))) (
  R (.tuple #[.int .i64 0, .bool false]) i0) (
  (0 : Int) ≤ h0 ∧ h0 < (na0 : Int) ∧
  needPtr Aa0 fun t0 u0 =>
  ∃ v0,
  i0.cell? ⟨t0, u0 + h0.toNat * 1, none⟩ = some (.int .i64 v0) ∧
  let x0 : Int := IntKind.i64.wrap (g0 + 1);
  sel (decide ((x0 : Int) < (v0 : Int))) (
  R (.tuple #[.int .i64 0, .bool false]) i0) (
  (0 : Int) ≤ h0 ∧ h0 < (na0 : Int) ∧
  needPtr Aa0 fun y0 z0 =>
  ∃ b1,
  i0.cell? ⟨y0, z0 + h0.toNat * 1, none⟩ = some (.int .i64 b1) ∧
  sel (decide ((g0 : Int) < (b1 : Int))) (
  (0 : Int) ≤ h0 ∧ h0 < (na0 : Int) ∧
  needPtr Aa0 fun d1 g1 =>
  ∃ h1,
  i0.cell? ⟨d1, g1 + h0.toNat * 1, none⟩ = some (.int .i64 h1) ∧
  let i1 : Int := IntKind.i64.wrap (h0 + 1);
  ([.slice Aa0 na0 ca0] : List Value) = ([.slice Aa0 na0 ca0] : List Value) ∧ ∃ m, m < j0 ∧ b0 h1 i1 i0 m) (
  let j1 : Int := IntKind.i64.wrap (h0 + 1);
  ([.slice Aa0 na0 ca0] : List Value) = ([.slice Aa0 na0 ca0] : List Value) ∧ ∃ m, m < j0 ∧ b0 g0 j1 i0 m)))) (
  R (.tuple #[.int .i64 g0, .bool true]) i0)
theorem f33.eq (Aa0 : Option Addr) (na0 ca0 : Nat) (w : World) (R : Value → World → Prop) : f33.VC Aa0 na0 ca0 w R = funV Tryd.prog Tryd.f33 f33.AL f33.AC #[.slice Aa0 na0 ca0] w R := by kernel_rfl
theorem f33.calls {Aa0 : Option Addr} {na0 ca0 : Nat} {w : World} {R : Value → World → Prop} (h : f33.VC Aa0 na0 ca0 w R) : Calls Tryd.prog 33 #[.slice Aa0 na0 ca0] w fun e w' => ∃ v, e = .returned v ∧ R v w' :=
  funV_sound (fn := Tryd.f33) (AL := f33.AL) (AC := f33.AC) W5.mixed (by kernel_rfl) (by rw [← f33.eq Aa0 na0 ca0]; exact h)

/-- gatehouse/gatehouseref11.shaped -/
def f34.AL : Nat → Option Ann := fun r => match r with | 5 => some ⟨[(7, .int .i64), (8, .int .i64)], [1, 2, 3]⟩ | 9 => some ⟨[(9, .int .i64)], [1, 2, 3, 7]⟩ | 14 => some ⟨[(10, .int .i64)], [1, 2, 3, 7, 9]⟩ | _ => none
def f34.AC : Nat → Option Ann := fun _ => none
def f34.VC (Aa0_0 : Option Addr) (na0_0 ca0_0 : Nat) (Aa0_1 : Option Addr) (na0_1 ca0_1 : Nat) (Aa0_2 : Option Addr) (na0_2 ca0_2 : Nat) (Aa0_3 : Option Addr) (na0_3 ca0_3 : Nat) (Aa0_4 : Option Addr) (na0_4 ca0_4 : Nat) (Aa0_5 : Option Addr) (na0_5 ca0_5 : Nat) (xa1 : Int) (xa2 : Int) (w : World) (R : Value → World → Prop) : Prop :=
  let b0 := World.alloc w (.cells #[.slice Aa0_0 na0_0 ca0_0, .slice Aa0_1 na0_1 ca0_1, .slice Aa0_2 na0_2 ca0_2, .slice Aa0_3 na0_3 ca0_3, .slice Aa0_4 na0_4 ca0_4, .slice Aa0_5 na0_5 ca0_5] 32);
  ∃ d0 g0 h0,
  b0.cell? ⟨w.heap.size, 5, none⟩ = some (.slice d0 g0 h0) ∧
  sel (((g0 : Int) : Int) != (xa1 : Int)) (
  R (.bool false) b0) (
  ∃ i0 : Int → Int → World → Nat → Prop,
  (∃ n, i0 1 0 b0 n) ∧
  ∀ j0 : Env, ∀ k0 p0 q0 t0, i0 k0 p0 q0 t0 →
  ∃ u0 v0 x0,
  q0.cell? ⟨w.heap.size, 0, none⟩ = some (.slice u0 v0 x0) ∧
  sel (decide ((p0 : Int) < ((v0 : Int) : Int))) (
  let y0 : Int := IntKind.i64.wrap (2 * k0);
  let z0 : Int := IntKind.i64.wrap (p0 + 1);
  ([.int .i64 xa1, .int .i64 xa2, .pointer (some ⟨w.heap.size, 0, none⟩)] : List Value) = ([.int .i64 xa1, .int .i64 xa2, .pointer (some ⟨w.heap.size, 0, none⟩)] : List Value) ∧ ∃ m, m < t0 ∧ i0 y0 z0 q0 m) (
  ∃ b1 : Int → World → Nat → Prop,
  (∃ n, b1 0 q0 n) ∧
  ∀ d1 : Env, ∀ g1 h1 i1, b1 g1 h1 i1 →
  sel (decide ((g1 : Int) < (xa1 : Int))) (
  ∃ j1 k1 p1,
  h1.cell? ⟨w.heap.size, 5, none⟩ = some (.slice j1 k1 p1) ∧
  (0 : Int) ≤ g1 ∧ g1 < (k1 : Int) ∧
  needPtr j1 fun q1 t1 =>
  ∃ u1 v1 x1,
  h1.cell? ⟨q1, t1 + g1.toNat * 1, none⟩ = some (.slice u1 v1 x1) ∧
  sel (((v1 : Int) : Int) != (xa2 : Int)) (
  R (.bool false) h1) (
  ∃ y1 : Int → World → Nat → Prop,
  (∃ n, y1 0 h1 n) ∧
  ∀ z1 : Env, ∀ b2 d2 g2, y1 b2 d2 g2 →
  sel (decide ((b2 : Int) < (xa2 : Int))) (
  ∃ h2 i2 j2,
  d2.cell? ⟨w.heap.size, 5, none⟩ = some (.slice h2 i2 j2) ∧
  (0 : Int) ≤ g1 ∧ g1 < (i2 : Int) ∧
  needPtr h2 fun k2 p2 =>
  ∃ q2 t2 u2,
  d2.cell? ⟨k2, p2 + g1.toNat * 1, none⟩ = some (.slice q2 t2 u2) ∧
  (0 : Int) ≤ b2 ∧ b2 < (t2 : Int) ∧
  needPtr q2 fun v2 x2 =>
  ∃ y2,
  d2.cell? ⟨v2, x2 + b2.toNat * 1, none⟩ = some (.int .u16 y2) ∧
  let z2 : Int := IntKind.i64.wrap y2;
  sel (decide ((k0 : Int) ≤ (z2 : Int))) (
  R (.bool false) d2) (
  let b3 : Int := IntKind.i64.wrap (b2 + 1);
  ([.int .i64 xa1, .int .i64 xa2, .pointer (some ⟨w.heap.size, 0, none⟩), .int .i64 k0, .int .i64 g1] : List Value) = ([.int .i64 xa1, .int .i64 xa2, .pointer (some ⟨w.heap.size, 0, none⟩), .int .i64 k0, .int .i64 g1] : List Value) ∧ ∃ m, m < g2 ∧ y1 b3 d2 m)) (
  let d3 : Int := IntKind.i64.wrap (g1 + 1);
  ([.int .i64 xa1, .int .i64 xa2, .pointer (some ⟨w.heap.size, 0, none⟩), .int .i64 k0] : List Value) = ([.int .i64 xa1, .int .i64 xa2, .pointer (some ⟨w.heap.size, 0, none⟩), .int .i64 k0] : List Value) ∧ ∃ m, m < i1 ∧ b1 d3 d2 m))) (
  R (.bool true) h1)))
theorem f34.eq (Aa0_0 : Option Addr) (na0_0 ca0_0 : Nat) (Aa0_1 : Option Addr) (na0_1 ca0_1 : Nat) (Aa0_2 : Option Addr) (na0_2 ca0_2 : Nat) (Aa0_3 : Option Addr) (na0_3 ca0_3 : Nat) (Aa0_4 : Option Addr) (na0_4 ca0_4 : Nat) (Aa0_5 : Option Addr) (na0_5 ca0_5 : Nat) (xa1 : Int) (xa2 : Int) (w : World) (R : Value → World → Prop) : f34.VC Aa0_0 na0_0 ca0_0 Aa0_1 na0_1 ca0_1 Aa0_2 na0_2 ca0_2 Aa0_3 na0_3 ca0_3 Aa0_4 na0_4 ca0_4 Aa0_5 na0_5 ca0_5 xa1 xa2 w R = funV Tryd.prog Tryd.f34 f34.AL f34.AC #[.agg #[.slice Aa0_0 na0_0 ca0_0, .slice Aa0_1 na0_1 ca0_1, .slice Aa0_2 na0_2 ca0_2, .slice Aa0_3 na0_3 ca0_3, .slice Aa0_4 na0_4 ca0_4, .slice Aa0_5 na0_5 ca0_5], .int .i64 xa1, .int .i64 xa2] w R := by kernel_rfl
theorem f34.calls {Aa0_0 : Option Addr} {na0_0 ca0_0 : Nat} {Aa0_1 : Option Addr} {na0_1 ca0_1 : Nat} {Aa0_2 : Option Addr} {na0_2 ca0_2 : Nat} {Aa0_3 : Option Addr} {na0_3 ca0_3 : Nat} {Aa0_4 : Option Addr} {na0_4 ca0_4 : Nat} {Aa0_5 : Option Addr} {na0_5 ca0_5 : Nat} {xa1 : Int} {xa2 : Int} {w : World} {R : Value → World → Prop} (h : f34.VC Aa0_0 na0_0 ca0_0 Aa0_1 na0_1 ca0_1 Aa0_2 na0_2 ca0_2 Aa0_3 na0_3 ca0_3 Aa0_4 na0_4 ca0_4 Aa0_5 na0_5 ca0_5 xa1 xa2 w R) : Calls Tryd.prog 34 #[.agg #[.slice Aa0_0 na0_0 ca0_0, .slice Aa0_1 na0_1 ca0_1, .slice Aa0_2 na0_2 ca0_2, .slice Aa0_3 na0_3 ca0_3, .slice Aa0_4 na0_4 ca0_4, .slice Aa0_5 na0_5 ca0_5], .int .i64 xa1, .int .i64 xa2] w fun e w' => ∃ v, e = .returned v ∧ R v w' :=
  funV_sound (fn := Tryd.f34) (AL := f34.AL) (AC := f34.AC) W5.mixed (by kernel_rfl) (by rw [← f34.eq Aa0_0 na0_0 ca0_0 Aa0_1 na0_1 ca0_1 Aa0_2 na0_2 ca0_2 Aa0_3 na0_3 ca0_3 Aa0_4 na0_4 ca0_4 Aa0_5 na0_5 ca0_5 xa1 xa2]; exact h)

/-- gatehouse/gatehouseref11.column -/
def f36.AL : Nat → Option Ann := fun r => match r with | 3 => some ⟨[(5, .slice), (6, .int .i64)], [0, 1]⟩ | _ => none
def f36.AC : Nat → Option Ann := fun _ => none
def f36.VC (Aa0 : Option Addr) (na0 ca0 : Nat) (xa1 : Int) (w : World) (R : Value → World → Prop) : Prop :=
  ∃ b0 : Option Addr → Nat → Nat → Int → World → Nat → Prop,
  (∃ n, b0 none 0 0 0 w n) ∧
  ∀ d0 : Env, ∀ g0 h0 i0 j0 k0 p0, b0 g0 h0 i0 j0 k0 p0 →
  sel (decide ((j0 : Int) < ((na0 : Int) : Int))) (
  (0 : Int) ≤ j0 ∧ j0 < (na0 : Int) ∧
  needPtr Aa0 fun q0 t0 =>
  ∃ u0 v0 x0,
  k0.cell? ⟨q0, t0 + j0.toNat * 1, none⟩ = some (.slice u0 v0 x0) ∧
  (0 : Int) ≤ xa1 ∧ xa1 < (v0 : Int) ∧
  needPtr u0 fun y0 z0 =>
  ∃ b1,
  k0.cell? ⟨y0, z0 + xa1.toNat * 1, none⟩ = some (.int .u16 b1) ∧
  let d1 := World.alloc k0 (.cells #[.int .u16 b1] 59);
  ∃ g1 h1 i1,
  ∃ j1, (Builtin.append_ #[29, 29] 29 #[.slice g0 h0 i0, .slice (some ⟨k0.heap.size, 0, none⟩) 1 1]).run Tryd.prog d1 = .ok (.slice g1 h1 i1) j1 ∧
  let k1 : Int := IntKind.i64.wrap (j0 + 1);
  ([.slice Aa0 na0 ca0, .int .i64 xa1] : List Value) = ([.slice Aa0 na0 ca0, .int .i64 xa1] : List Value) ∧ ∃ m, m < p0 ∧ b0 g1 h1 i1 k1 j1 m) (
  R (.slice g0 h0 i0) k0)
theorem f36.eq (Aa0 : Option Addr) (na0 ca0 : Nat) (xa1 : Int) (w : World) (R : Value → World → Prop) : f36.VC Aa0 na0 ca0 xa1 w R = funV Tryd.prog Tryd.f36 f36.AL f36.AC #[.slice Aa0 na0 ca0, .int .i64 xa1] w R := by kernel_rfl
theorem f36.calls {Aa0 : Option Addr} {na0 ca0 : Nat} {xa1 : Int} {w : World} {R : Value → World → Prop} (h : f36.VC Aa0 na0 ca0 xa1 w R) : Calls Tryd.prog 36 #[.slice Aa0 na0 ca0, .int .i64 xa1] w fun e w' => ∃ v, e = .returned v ∧ R v w' :=
  funV_sound (fn := Tryd.f36) (AL := f36.AL) (AC := f36.AC) W5.mixed (by kernel_rfl) (by rw [← f36.eq Aa0 na0 ca0 xa1]; exact h)

/-- gatehouse/gatehouseref11.equal -/
def f35.AL : Nat → Option Ann := fun r => match r with | 4 => some ⟨[(5, .int .i64)], [0, 1]⟩ | _ => none
def f35.AC : Nat → Option Ann := fun _ => none
def f35.VC (Aa0 : Option Addr) (na0 ca0 : Nat) (Aa1 : Option Addr) (na1 ca1 : Nat) (w : World) (R : Value → World → Prop) : Prop :=
  sel (((na0 : Int) : Int) != ((na1 : Int) : Int)) (
  R (.bool false) w) (
  ∃ b0 : Int → World → Nat → Prop,
  (∃ n, b0 0 w n) ∧
  ∀ d0 : Env, ∀ g0 h0 i0, b0 g0 h0 i0 →
  sel (decide ((g0 : Int) < ((na0 : Int) : Int))) (
  (0 : Int) ≤ g0 ∧ g0 < (na0 : Int) ∧
  needPtr Aa0 fun j0 k0 =>
  (0 : Int) ≤ g0 ∧ g0 < (na1 : Int) ∧
  needPtr Aa1 fun p0 q0 =>
  ∃ t0,
  h0.cell? ⟨j0, k0 + g0.toNat * 1, none⟩ = some (.int .u16 t0) ∧
  ∃ u0,
  h0.cell? ⟨p0, q0 + g0.toNat * 1, none⟩ = some (.int .u16 u0) ∧
  sel ((t0 : Int) != (u0 : Int)) (
  R (.bool false) h0.drew) (
  let v0 : Int := IntKind.i64.wrap (g0 + 1);
  ([.slice Aa0 na0 ca0, .slice Aa1 na1 ca1] : List Value) = ([.slice Aa0 na0 ca0, .slice Aa1 na1 ca1] : List Value) ∧ ∃ m, m < i0 ∧ b0 v0 h0.drew m)) (
  R (.bool true) h0))
theorem f35.eq (Aa0 : Option Addr) (na0 ca0 : Nat) (Aa1 : Option Addr) (na1 ca1 : Nat) (w : World) (R : Value → World → Prop) : f35.VC Aa0 na0 ca0 Aa1 na1 ca1 w R = funV Tryd.prog Tryd.f35 f35.AL f35.AC #[.slice Aa0 na0 ca0, .slice Aa1 na1 ca1] w R := by kernel_rfl
theorem f35.calls {Aa0 : Option Addr} {na0 ca0 : Nat} {Aa1 : Option Addr} {na1 ca1 : Nat} {w : World} {R : Value → World → Prop} (h : f35.VC Aa0 na0 ca0 Aa1 na1 ca1 w R) : Calls Tryd.prog 35 #[.slice Aa0 na0 ca0, .slice Aa1 na1 ca1] w fun e w' => ∃ v, e = .returned v ∧ R v w' :=
  funV_sound (fn := Tryd.f35) (AL := f35.AL) (AC := f35.AC) W5.mixed (by kernel_rfl) (by rw [← f35.eq Aa0 na0 ca0 Aa1 na1 ca1]; exact h)

/-- gatehouse/graph.once -/
def f49.AL : Nat → Option Ann := fun r => match r with | 2 => some ⟨[(7, .int .i64)], [0, 5, 6]⟩ | _ => none
def f49.AC : Nat → Option Ann := fun _ => none
def f49.VC (Aa0 : Option Addr) (na0 ca0 : Nat) (w : World) (R : Value → World → Prop) : Prop :=
  ∃ b0 : Int → World → Nat → Prop,
  (∃ n, b0 0 w n) ∧
  ∀ d0 : Env, ∀ g0 h0 i0, b0 g0 h0 i0 →
  sel (decide ((g0 : Int) < ((na0 : Int) : Int))) (
  (0 : Int) ≤ g0 ∧ g0 < (na0 : Int) ∧
  needPtr Aa0 fun j0 k0 =>
  ∃ p0,
  h0.cell? ⟨j0, k0 + g0.toNat * 1, none⟩ = some (.string p0) ∧
  (0 : Int) ≤ g0 ∧ g0 ≤ (ca0 : Int) ∧
  Calls Tryd.prog 65 #[.slice Aa0 g0.toNat ca0, .string p0] h0 fun q0 t0 =>
  ∃ u0,
  q0 = .returned (.bool u0) ∧
  sel u0 (
  R (.bool false) t0) (
  let v0 : Int := IntKind.i64.wrap (g0 + 1);
  ([.slice Aa0 na0 ca0, .slice Aa0 na0 ca0, .int .i64 (na0 : Int)] : List Value) = ([.slice Aa0 na0 ca0, .slice Aa0 na0 ca0, .int .i64 (na0 : Int)] : List Value) ∧ ∃ m, m < i0 ∧ b0 v0 t0 m)) (
  R (.bool true) h0)
theorem f49.eq (Aa0 : Option Addr) (na0 ca0 : Nat) (w : World) (R : Value → World → Prop) : f49.VC Aa0 na0 ca0 w R = funV Tryd.prog Tryd.f49 f49.AL f49.AC #[.slice Aa0 na0 ca0] w R := by kernel_rfl
theorem f49.calls {Aa0 : Option Addr} {na0 ca0 : Nat} {w : World} {R : Value → World → Prop} (h : f49.VC Aa0 na0 ca0 w R) : Calls Tryd.prog 49 #[.slice Aa0 na0 ca0] w fun e w' => ∃ v, e = .returned v ∧ R v w' :=
  funV_sound (fn := Tryd.f49) (AL := f49.AL) (AC := f49.AC) W5.mixed (by kernel_rfl) (by rw [← f49.eq Aa0 na0 ca0]; exact h)

/-- gatehouse/graph.counted -/
def f50.AL : Nat → Option Ann := fun r => match r with | 3 => some ⟨[(4, .int .i64), (9, .int .i64)], [7, 8]⟩ | _ => none
def f50.AC : Nat → Option Ann := fun _ => none
def f50.VC (Aa0 : Option Addr) (na0 ca0 : Nat) (w : World) (R : Value → World → Prop) : Prop :=
  ∃ b0 : Int → Int → World → Nat → Prop,
  (∃ n, b0 0 0 w n) ∧
  ∀ d0 : Env, ∀ g0 h0 i0 j0, b0 g0 h0 i0 j0 →
  sel (decide ((h0 : Int) < ((na0 : Int) : Int))) (
  (0 : Int) ≤ h0 ∧ h0 < (na0 : Int) ∧
  needPtr Aa0 fun k0 p0 =>
  ∃ q0,
  i0.cell? ⟨k0, p0 + h0.toNat * 1, none⟩ = some (.int .i64 q0) ∧
  sel (decide ((q0 : Int) < (1 : Int))) (
  R (.tuple #[.int .i64 0, .bool false]) i0) (
  let t0 : Int := IntKind.i64.wrap (g0 + 1);
  sel (decide ((t0 : Int) < (q0 : Int))) (
  R (.tuple #[.int .i64 0, .bool false]) i0) (
  ∃ u0,
  ∃ v0, (Builtin.max_ #[3, 3] 3 #[.int .i64 g0, .int .i64 q0]).run Tryd.prog i0 = .ok (.int .i64 u0) v0 ∧
  let x0 : Int := IntKind.i64.wrap (h0 + 1);
  ([.slice Aa0 na0 ca0, .int .i64 (na0 : Int)] : List Value) = ([.slice Aa0 na0 ca0, .int .i64 (na0 : Int)] : List Value) ∧ ∃ m, m < j0 ∧ b0 u0 x0 v0 m))) (
  R (.tuple #[.int .i64 g0, .bool true]) i0)
theorem f50.eq (Aa0 : Option Addr) (na0 ca0 : Nat) (w : World) (R : Value → World → Prop) : f50.VC Aa0 na0 ca0 w R = funV Tryd.prog Tryd.f50 f50.AL f50.AC #[.slice Aa0 na0 ca0] w R := by kernel_rfl
theorem f50.calls {Aa0 : Option Addr} {na0 ca0 : Nat} {w : World} {R : Value → World → Prop} (h : f50.VC Aa0 na0 ca0 w R) : Calls Tryd.prog 50 #[.slice Aa0 na0 ca0] w fun e w' => ∃ v, e = .returned v ∧ R v w' :=
  funV_sound (fn := Tryd.f50) (AL := f50.AL) (AC := f50.AC) W5.mixed (by kernel_rfl) (by rw [← f50.eq Aa0 na0 ca0]; exact h)

/-- slices.Contains[[]string,string] -/
def f65.AL : Nat → Option Ann := fun _ => none
def f65.AC : Nat → Option Ann := fun _ => none
def f65.VC (Aa0 : Option Addr) (na0 ca0 : Nat) (sa1 : ByteArray) (w : World) (R : Value → World → Prop) : Prop :=
  Calls Tryd.prog 74 #[.slice Aa0 na0 ca0, .string sa1] w fun b0 d0 =>
  ∃ g0,
  b0 = .returned (.int .i64 g0) ∧
  R (.bool (decide ((0 : Int) ≤ (g0 : Int)))) d0
theorem f65.eq (Aa0 : Option Addr) (na0 ca0 : Nat) (sa1 : ByteArray) (w : World) (R : Value → World → Prop) : f65.VC Aa0 na0 ca0 sa1 w R = funV Tryd.prog Tryd.f65 f65.AL f65.AC #[.slice Aa0 na0 ca0, .string sa1] w R := by kernel_rfl
theorem f65.calls {Aa0 : Option Addr} {na0 ca0 : Nat} {sa1 : ByteArray} {w : World} {R : Value → World → Prop} (h : f65.VC Aa0 na0 ca0 sa1 w R) : Calls Tryd.prog 65 #[.slice Aa0 na0 ca0, .string sa1] w fun e w' => ∃ v, e = .returned v ∧ R v w' :=
  funV_sound (fn := Tryd.f65) (AL := f65.AL) (AC := f65.AC) W5.mixed (by kernel_rfl) (by rw [← f65.eq Aa0 na0 ca0 sa1]; exact h)

/-- slices.Index[[]string,string] -/
def f74.AL : Nat → Option Ann := fun r => match r with | 2 => some ⟨[(8, .int .i64)], [0, 1, 7]⟩ | _ => none
def f74.AC : Nat → Option Ann := fun _ => none
def f74.VC (Aa0 : Option Addr) (na0 ca0 : Nat) (sa1 : ByteArray) (w : World) (R : Value → World → Prop) : Prop :=
  ∃ b0 : Int → World → Nat → Prop,
  (∃ n, b0 0 w n) ∧
  ∀ d0 : Env, ∀ g0 h0 i0, b0 g0 h0 i0 →
  sel (decide ((g0 : Int) < ((na0 : Int) : Int))) (
  (0 : Int) ≤ g0 ∧ g0 < (na0 : Int) ∧
  needPtr Aa0 fun j0 k0 =>
  ∃ p0,
  h0.cell? ⟨j0, k0 + g0.toNat * 1, none⟩ = some (.string p0) ∧
  sel (decide (sa1 = p0)) (
  R (.int .i64 g0) h0) (
  let q0 : Int := IntKind.i64.wrap (g0 + 1);
  ([.slice Aa0 na0 ca0, .string sa1, .int .i64 (na0 : Int)] : List Value) = ([.slice Aa0 na0 ca0, .string sa1, .int .i64 (na0 : Int)] : List Value) ∧ ∃ m, m < i0 ∧ b0 q0 h0 m)) (
  R (.int .i64 (-1)) h0)
theorem f74.eq (Aa0 : Option Addr) (na0 ca0 : Nat) (sa1 : ByteArray) (w : World) (R : Value → World → Prop) : f74.VC Aa0 na0 ca0 sa1 w R = funV Tryd.prog Tryd.f74 f74.AL f74.AC #[.slice Aa0 na0 ca0, .string sa1] w R := by kernel_rfl
theorem f74.calls {Aa0 : Option Addr} {na0 ca0 : Nat} {sa1 : ByteArray} {w : World} {R : Value → World → Prop} (h : f74.VC Aa0 na0 ca0 sa1 w R) : Calls Tryd.prog 74 #[.slice Aa0 na0 ca0, .string sa1] w fun e w' => ∃ v, e = .returned v ∧ R v w' :=
  funV_sound (fn := Tryd.f74) (AL := f74.AL) (AC := f74.AC) W5.mixed (by kernel_rfl) (by rw [← f74.eq Aa0 na0 ca0 sa1]; exact h)

/-- slices.Max[[]int,int] -/
def f52.AL : Nat → Option Ann := fun r => match r with | 5 => some ⟨[(3, .int .i64), (4, .int .i64)], [0]⟩ | _ => none
def f52.AC : Nat → Option Ann := fun _ => none
def f52.VC (Aa0 : Option Addr) (na0 ca0 : Nat) (w : World) (R : Value → World → Prop) : Prop :=
  sel (decide (((na0 : Int) : Int) < (1 : Int))) (
  False) (
  (0 : Int) ≤ 0 ∧ 0 < (na0 : Int) ∧
  needPtr Aa0 fun b0 d0 =>
  ∃ g0,
  w.cell? ⟨b0, d0, none⟩ = some (.int .i64 g0) ∧
  ∃ h0 : Int → Int → World → Nat → Prop,
  (∃ n, h0 g0 1 w n) ∧
  ∀ i0 : Env, ∀ j0 k0 p0 q0, h0 j0 k0 p0 q0 →
  sel (decide ((k0 : Int) < ((na0 : Int) : Int))) (
  (0 : Int) ≤ k0 ∧ k0 < (na0 : Int) ∧
  needPtr Aa0 fun t0 u0 =>
  ∃ v0,
  p0.cell? ⟨t0, u0 + k0.toNat * 1, none⟩ = some (.int .i64 v0) ∧
  ∃ x0,
  ∃ y0, (Builtin.max_ #[3, 3] 3 #[.int .i64 j0, .int .i64 v0]).run Tryd.prog p0 = .ok (.int .i64 x0) y0 ∧
  let z0 : Int := IntKind.i64.wrap (k0 + 1);
  ([.slice Aa0 na0 ca0] : List Value) = ([.slice Aa0 na0 ca0] : List Value) ∧ ∃ m, m < q0 ∧ h0 x0 z0 y0 m) (
  R (.int .i64 j0) p0))
theorem f52.eq (Aa0 : Option Addr) (na0 ca0 : Nat) (w : World) (R : Value → World → Prop) : f52.VC Aa0 na0 ca0 w R = funV Tryd.prog Tryd.f52 f52.AL f52.AC #[.slice Aa0 na0 ca0] w R := by kernel_rfl
theorem f52.calls {Aa0 : Option Addr} {na0 ca0 : Nat} {w : World} {R : Value → World → Prop} (h : f52.VC Aa0 na0 ca0 w R) : Calls Tryd.prog 52 #[.slice Aa0 na0 ca0] w fun e w' => ∃ v, e = .returned v ∧ R v w' :=
  funV_sound (fn := Tryd.f52) (AL := f52.AL) (AC := f52.AC) W5.mixed (by kernel_rfl) (by rw [← f52.eq Aa0 na0 ca0]; exact h)

end Go.Proofs.YtjmlfknogjaemaaDoor
/- Page: lists that are read: names that stand twice, classes, masks. -/
set_option linter.unusedVariables false
set_option linter.unusedSimpArgs false
set_option maxRecDepth 10000
namespace Go.Proofs.YtjmlfknogjaemaaDoor
open Go Go.Proofs.YtjmlfknogjaemaaDoor.Vc
namespace PG
open Vc.PG NI
def InU (w : World) (A : Option Addr) (n : Nat) (l : List Int) : Prop := n = l.length ∧ (0 < n → ∃ b o, A = some ⟨b, o, none⟩ ∧ ∀ i, i < n → w.cell? ⟨b, o + i, none⟩ = some (.int .u16 (l.getD i 0)))
theorem InU.need {w : World} {A : Option Addr} {n : Nat} {W : List Int} (h : InU w A n W) {i : Int} {q : Nat} (h0 : i = (q : Int)) (h1 : q < n) {K : Int → Prop} (hk : K (W.getD q 0)) :
    needPtr A fun b o => ∃ x, w.cell? ⟨b, o + i.toNat * 1, none⟩ = some (.int .u16 x) ∧ K x := by
  obtain ⟨b, o, rfl, h2⟩ := h.2 (by omega)
  refine needPtr_of rfl ⟨_, ?_, hk⟩
  rw [Nat.mul_one, h0, Int.toNat_natCast]
  exact h2 q h1
theorem InX.need {w : World} {A : Option Addr} {n : Nat} {W : List ByteArray} (h : InX w A n W) {i : Int} {q : Nat} (h0 : i = (q : Int)) (h1 : q < n) {K : ByteArray → Prop} (hk : K (W.getD q ByteArray.empty)) :
    needPtr A fun b o => ∃ x, w.cell? ⟨b, o + i.toNat * 1, none⟩ = some (.string x) ∧ K x := by
  obtain ⟨b, o, rfl, h2⟩ := h.2 (by omega)
  refine needPtr_of rfl ⟨_, ?_, hk⟩
  rw [Nat.mul_one, h0, Int.toNat_natCast]
  exact h2 q h1
theorem InX.take {w : World} {A : Option Addr} {n : Nat} {W : List ByteArray} (h : InX w A n W) {q : Nat} (hq : q ≤ n) : InX w A q (W.take q) := by
  have hl := h.1
  refine ⟨by simp; omega, fun hn => ?_⟩
  obtain ⟨b, o, rfl, h2⟩ := h.2 (by omega)
  refine ⟨b, o, rfl, fun i hi => ?_⟩
  rw [h2 i (by omega)]
  simp [List.getD_eq_getElem?_getD, hi]
theorem inc (i n : Nat) (hn : n ≤ 1000000000) (hi : i ≤ n) : IntKind.i64.wrap ((i : Int) + 1) = ((i + 1 : Nat) : Int) := by rw [i64_id (by omega) (by omega)]; omega
theorem twiceR {w : World} {A : Option Addr} {n c : Nat} {l : List ByteArray} (h : InX w A n l) (hn : n ≤ 1000000000) : Calls Tryd.prog 32 #[.slice A n c] w fun e w' => e = .returned (.bool (decide (¬ l.Nodup))) ∧ Fr [] w w' := by
  refine Calls.mono (f32.calls (R := fun v w' => v = .bool (decide (¬ l.Nodup)) ∧ Fr [] w w') ?_) ?_
  · dsimp only [f32.VC]
    have hl := h.1
    refine ⟨fun x w' r => Fr [] w w' ∧ ∃ i : Nat, x = (i : Int) ∧ i + r = n ∧ ∀ a b, a < b → b < i → l.getD a ByteArray.empty ≠ l.getD b ByteArray.empty, ⟨n, Fr.refl _ _, 0, rfl, by omega, fun a b _ hb => by omega⟩, ?_⟩
    rintro d x w1 r ⟨hf, i, rfl, hir, hno⟩
    refine sel_of (fun hd => ?_) (fun hd => ?_)
    · have hi : i < n := by have := of_decide_eq_true hd; omega
      refine ⟨fun x w' q => Fr [] w w' ∧ ∃ j : Nat, x = (j : Int) ∧ j + q = i ∧ ∀ a, a < j → l.getD a ByteArray.empty ≠ l.getD i ByteArray.empty, ⟨i, hf, 0, rfl, by omega, fun a ha => by omega⟩, ?_⟩
      rintro d x w2 q ⟨hf2, j, rfl, hjq, hno2⟩
      refine sel_of (fun hd => ?_) (fun hd => ?_)
      · have hj : j < i := by have := of_decide_eq_true hd; omega
        obtain ⟨b, o, rfl, hc⟩ := h.2 (by omega)
        have cc := fun k hk => hf2.cell (hc k hk)
        refine ⟨by omega, by omega, needPtr_of rfl ⟨by omega, by omega, needPtr_of rfl ⟨_, by rw [Nat.mul_one, Int.toNat_natCast]; exact cc j (by omega), _, by rw [Nat.mul_one, Int.toNat_natCast]; exact cc i (by omega), sel_of (fun hs => ?_) (fun hs => ?_)⟩⟩⟩
        · have hs : l.getD j ByteArray.empty = l.getD i ByteArray.empty := of_decide_eq_true hs
          refine ⟨?_, hf2.drew⟩
          rw [decide_eq_true]
          intro hnd
          exact (nodup_getD ByteArray.empty l).1 hnd j i hj (by omega) hs
        · have hs : l.getD j ByteArray.empty ≠ l.getD i ByteArray.empty := of_decide_eq_false hs
          rw [inc j n hn (by omega)]
          refine ⟨rfl, q - 1, by omega, hf2.drew, j + 1, rfl, by omega, fun a ha => ?_⟩
          rcases Nat.lt_or_ge a j with h1 | h1
          · exact hno2 a h1
          · have : a = j := by omega
            subst this; exact hs
      · have hj : j = i := by have := of_decide_eq_false hd; omega
        rw [inc i n hn (by omega)]
        refine ⟨rfl, r - 1, by omega, hf2, i + 1, rfl, by omega, fun a b hab hb => ?_⟩
        rcases Nat.lt_or_ge b i with h1 | h1
        · exact hno a b hab h1
        · have : b = i := by omega
          subst this; exact hno2 a (by omega)
    · have hi : i = n := by have := of_decide_eq_false hd; omega
      refine ⟨?_, hf⟩
      rw [decide_eq_false]
      exact fun hnd => hnd ((nodup_getD ByteArray.empty l).2 fun a b hab hb => hno a b hab (by omega))
  · rintro e w' ⟨v, rfl, rfl, h⟩; exact ⟨rfl, h⟩
theorem indexS {w : World} {A : Option Addr} {n c : Nat} {l : List ByteArray} (h : InX w A n l) (hn : n ≤ 1000000000) (s : ByteArray) : Calls Tryd.prog 74 #[.slice A n c, .string s] w fun e w' => e = .returned (.int .i64 (idxI l s)) ∧ w' = w := by
  refine Calls.mono (f74.calls (R := fun v w' => v = .int .i64 (idxI l s) ∧ w' = w) ?_) ?_
  · dsimp only [f74.VC]
    have hl := h.1
    refine ⟨fun x w' r => w' = w ∧ ∃ i : Nat, x = (i : Int) ∧ i + r = n ∧ ∀ a, a < i → l.getD a ByteArray.empty ≠ s, ⟨n, rfl, 0, rfl, by omega, fun a ha => by omega⟩, ?_⟩
    rintro d x w1 r ⟨rfl, i, rfl, hir, hno⟩
    refine sel_of (fun hd => ?_) (fun hd => ?_)
    · have hi : i < n := by have := of_decide_eq_true hd; omega
      refine ⟨by omega, by omega, InX.need h rfl hi (sel_of (fun hs => ?_) (fun hs => ?_))⟩
      · have hs : s = l.getD i ByteArray.empty := of_decide_eq_true hs
        exact ⟨by rw [idxI_some ByteArray.empty (by omega) hno hs.symm], rfl⟩
      · have hs : s ≠ l.getD i ByteArray.empty := of_decide_eq_false hs
        rw [inc i n hn (by omega)]
        refine ⟨rfl, r - 1, by omega, rfl, i + 1, rfl, by omega, fun a ha => ?_⟩
        rcases Nat.lt_or_ge a i with h1 | h1
        · exact hno a h1
        · have : a = i := by omega
          subst this; exact fun h => hs h.symm
    · have hi : i = n := by have := of_decide_eq_false hd; omega
      exact ⟨by rw [idxI_none ByteArray.empty fun q hq => hno q (by omega)], rfl⟩
  · rintro e w' ⟨v, rfl, rfl, h⟩; exact ⟨rfl, h⟩
theorem containsC {w : World} {A : Option Addr} {n c : Nat} {l : List ByteArray} (h : InX w A n l) (hn : n ≤ 1000000000) (s : ByteArray) : Calls Tryd.prog 65 #[.slice A n c, .string s] w fun e w' => e = .returned (.bool (memB l s)) ∧ w' = w := by
  refine Calls.mono (f65.calls (R := fun v w' => v = .bool (memB l s) ∧ w' = w) ?_) ?_
  · dsimp only [f65.VC]
    refine Calls.mono (indexS h hn s) ?_
    rintro _ w1 ⟨rfl, rfl⟩
    exact ⟨_, rfl, by rw [idxI_mem], rfl⟩
  · rintro e w' ⟨v, rfl, rfl, h⟩; exact ⟨rfl, h⟩
theorem onceC {w : World} {A : Option Addr} {n c : Nat} {l : List ByteArray} (h : InX w A n l) (hc : n ≤ c) (hn : n ≤ 1000000000) : Calls Tryd.prog 49 #[.slice A n c] w fun e w' => e = .returned (.bool (decide l.Nodup)) ∧ w' = w := by
  refine Calls.mono (f49.calls (R := fun v w' => v = .bool (decide l.Nodup) ∧ w' = w) ?_) ?_
  · dsimp only [f49.VC]
    have hl := h.1
    refine ⟨fun x w' r => w' = w ∧ ∃ i : Nat, x = (i : Int) ∧ i + r = n ∧ ∀ a b, a < b → b < i → l.getD a ByteArray.empty ≠ l.getD b ByteArray.empty, ⟨n, rfl, 0, rfl, by omega, fun a b _ hb => by omega⟩, ?_⟩
    rintro d x w1 r ⟨rfl, i, rfl, hir, hno⟩
    refine sel_of (fun hd => ?_) (fun hd => ?_)
    · have hi : i < n := by have := of_decide_eq_true hd; omega
      refine ⟨by omega, by omega, InX.need h rfl hi ⟨by omega, by omega, ?_⟩⟩
      rw [Int.toNat_natCast]
      refine Calls.mono (containsC (InX.take h (by omega)) (by omega) _) ?_
      rintro _ w2 ⟨rfl, rfl⟩
      have hm : l.getD i ByteArray.empty ∈ l.take i ↔ ∃ a, a < i ∧ l.getD a ByteArray.empty = l.getD i ByteArray.empty := by
        rw [mem_getD ByteArray.empty]
        constructor
        · rintro ⟨a, ha, he⟩
          simp only [List.length_take] at ha
          refine ⟨a, by omega, ?_⟩
          rw [← he]
          simp [List.getD_eq_getElem?_getD, show a < i by omega]
        · rintro ⟨a, ha, he⟩
          refine ⟨a, by simp only [List.length_take]; omega, ?_⟩
          rw [← he]
          simp [List.getD_eq_getElem?_getD, ha]
      refine ⟨_, rfl, sel_of (fun hs => ?_) (fun hs => ?_)⟩
      · obtain ⟨a, ha, he⟩ := hm.1 ((memB_iff _ _).1 hs)
        refine ⟨?_, rfl⟩
        rw [decide_eq_false]
        exact fun hnd => (nodup_getD ByteArray.empty l).1 hnd a i ha (by omega) he
      · have hs : ¬ l.getD i ByteArray.empty ∈ l.take i := fun hh => by rw [(memB_iff _ _).2 hh] at hs; cases hs
        rw [inc i n hn (by omega)]
        refine ⟨rfl, r - 1, by omega, rfl, i + 1, rfl, by omega, fun a b hab hb => ?_⟩
        rcases Nat.lt_or_ge b i with h1 | h1
        · exact hno a b hab h1
        · have : b = i := by omega
          subst this
          exact fun he => hs (hm.2 ⟨a, by omega, he⟩)
    · have hi : i = n := by have := of_decide_eq_false hd; omega
      refine ⟨?_, rfl⟩
      rw [decide_eq_true]
      exact (nodup_getD ByteArray.empty l).2 fun a b hab hb => hno a b hab (by omega)
  · rintro e w' ⟨v, rfl, rfl, h⟩; exact ⟨rfl, h⟩
theorem greatR {w : World} {A : Option Addr} {n c : Nat} {l : List Int} (h : InW w A n l) (hn : n ≤ 1000000000) : Calls Tryd.prog 33 #[.slice A n c] w fun e w' => e = .returned (.tuple #[.int .i64 (((great l 0).getD 0 : Nat) : Int), .bool (great l 0).isSome]) ∧ w' = w := by
  refine Calls.mono (f33.calls (R := fun v w' => v = .tuple #[.int .i64 (((great l 0).getD 0 : Nat) : Int), .bool (great l 0).isSome] ∧ w' = w) ?_) ?_
  · dsimp only [f33.VC]
    have hl := h.1
    refine ⟨fun x y w' r => w' = w ∧ ∃ i m : Nat, y = (i : Int) ∧ x = (m : Int) ∧ i + r = n ∧ m ≤ i ∧ great (l.drop i) m = great l 0, ⟨n, rfl, 0, 0, rfl, rfl, by omega, by omega, by simp⟩, ?_⟩
    rintro d x y w1 r ⟨rfl, i, m, rfl, rfl, hir, hmi, hgo⟩
    refine sel_of (fun hd => ?_) (fun hd => ?_)
    · have hi : i < n := by have := of_decide_eq_true hd; omega
      rw [drop_cons 0 l i (by omega), great] at hgo
      refine ⟨by omega, by omega, h.need (Fr.refl _ _) rfl hi (sel_of (fun h1 => ?_) (fun h1 => ⟨by omega, by omega, h.need (Fr.refl _ _) rfl hi ?_⟩))⟩
      · rw [if_pos (.inl (of_decide_eq_true h1))] at hgo
        rw [← hgo]; exact ⟨rfl, rfl⟩
      · have h1 := of_decide_eq_false h1
        rw [i64_id (x := (m : Int) + 1) (by omega) (by omega)]
        refine sel_of (fun h2 => ?_) (fun h2 => ⟨by omega, by omega, h.need (Fr.refl _ _) rfl hi ?_⟩)
        · rw [if_pos (.inr (of_decide_eq_true h2))] at hgo
          rw [← hgo]; exact ⟨rfl, rfl⟩
        · have h2 := of_decide_eq_false h2
          rw [if_neg (by omega)] at hgo
          rw [inc i n hn (by omega)]
          refine sel_of (fun h3 => ⟨by omega, by omega, h.need (Fr.refl _ _) rfl hi ⟨rfl, r - 1, by omega, rfl, i + 1, (l.getD i 0).toNat, rfl, by omega, by omega, by omega, ?_⟩⟩) (fun h3 => ⟨rfl, r - 1, by omega, rfl, i + 1, m, rfl, rfl, by omega, by omega, ?_⟩)
          · have h3 := of_decide_eq_true h3
            rw [← hgo, show max m (l.getD i 0).toNat = (l.getD i 0).toNat by omega]
          · have h3 := of_decide_eq_false h3
            rw [← hgo, show max m (l.getD i 0).toNat = m by omega]
    · have hi : i = n := by have := of_decide_eq_false hd; omega
      rw [List.drop_of_length_le (by omega), great] at hgo
      rw [← hgo]; exact ⟨rfl, rfl⟩
  · rintro e w' ⟨v, rfl, rfl, h⟩; exact ⟨rfl, h⟩
theorem run_max (x y : Int) (w : World) : (Builtin.max_ #[3, 3] 3 #[.int .i64 x, .int .i64 y]).run Tryd.prog w = .ok (.int .i64 (max x y)) w := by
  simp only [Builtin.max_, List.foldlM, Builtin.max2]
  simp
  split <;> omega
theorem countC {w : World} {A : Option Addr} {n c : Nat} {l : List Int} (h : InW w A n l) (hn : n ≤ 1000000000) : Calls Tryd.prog 50 #[.slice A n c] w fun e w' => e = .returned (.tuple #[.int .i64 (((great l 0).getD 0 : Nat) : Int), .bool (great l 0).isSome]) ∧ w' = w := by
  refine Calls.mono (f50.calls (R := fun v w' => v = .tuple #[.int .i64 (((great l 0).getD 0 : Nat) : Int), .bool (great l 0).isSome] ∧ w' = w) ?_) ?_
  · dsimp only [f50.VC]
    have hl := h.1
    refine ⟨fun x y w' r => w' = w ∧ ∃ i m : Nat, y = (i : Int) ∧ x = (m : Int) ∧ i + r = n ∧ m ≤ i ∧ great (l.drop i) m = great l 0, ⟨n, rfl, 0, 0, rfl, rfl, by omega, by omega, by simp⟩, ?_⟩
    rintro d x y w1 r ⟨rfl, i, m, rfl, rfl, hir, hmi, hgo⟩
    refine sel_of (fun hd => ?_) (fun hd => ?_)
    · have hi : i < n := by have := of_decide_eq_true hd; omega
      rw [drop_cons 0 l i (by omega), great] at hgo
      refine ⟨by omega, by omega, h.need (Fr.refl _ _) rfl hi (sel_of (fun h1 => ?_) (fun h1 => ?_))⟩
      · rw [if_pos (.inl (of_decide_eq_true h1))] at hgo
        rw [← hgo]; exact ⟨rfl, rfl⟩
      · have h1 := of_decide_eq_false h1
        rw [i64_id (x := (m : Int) + 1) (by omega) (by omega)]
        refine sel_of (fun h2 => ?_) (fun h2 => ?_)
        · rw [if_pos (.inr (of_decide_eq_true h2))] at hgo
          rw [← hgo]; exact ⟨rfl, rfl⟩
        · have h2 := of_decide_eq_false h2
          rw [if_neg (by omega)] at hgo
          rw [inc i n hn (by omega)]
          exact ⟨_, _, run_max _ _ _, rfl, r - 1, by omega, rfl, i + 1, max m (l.getD i 0).toNat, rfl, by omega, by omega, by omega, hgo⟩
    · have hi : i = n := by have := of_decide_eq_false hd; omega
      rw [List.drop_of_length_le (by omega), great] at hgo
      rw [← hgo]; exact ⟨rfl, rfl⟩
  · rintro e w' ⟨v, rfl, rfl, h⟩; exact ⟨rfl, h⟩
/-- The greatest of a list of classes, as the library finds it. -/
theorem maxC {w : World} {A : Option Addr} {n c : Nat} {l : List Int} (h : InW w A n l) (hn : n ≤ 1000000000) (h0 : 0 < n) {m : Nat} (hg : great l 0 = some m) : Calls Tryd.prog 52 #[.slice A n c] w fun e w' => e = .returned (.int .i64 (m : Int)) ∧ w' = w := by
  refine Calls.mono (f52.calls (R := fun v w' => v = .int .i64 (m : Int) ∧ w' = w) ?_) ?_
  · dsimp only [f52.VC]
    have hl := h.1
    obtain ⟨b, o, rfl, hc⟩ := h.2 h0
    have e0 : great (l.drop 1) (l.getD 0 0).toNat = some m ∧ 1 ≤ l.getD 0 0 ∧ l.getD 0 0 ≤ 1 := by
      have hcons : l = l.getD 0 0 :: l.drop 1 := by
        have := drop_cons 0 l 0 (by omega)
        rwa [List.drop_zero] at this
      have : great (l.getD 0 0 :: l.drop 1) 0 = some m := by rw [← hcons]; exact hg
      rw [great] at this
      split at this
      · cases this
      · rename_i hx
        rw [show max 0 (l.getD 0 0).toNat = (l.getD 0 0).toNat by omega] at this
        exact ⟨this, by omega, by omega⟩
    refine sel_false (decide_eq_false (by omega)) ⟨by omega, by omega, needPtr_of rfl ⟨_, hc 0 h0, ?_⟩⟩
    refine ⟨fun x y w' r => w' = w ∧ ∃ i k : Nat, y = (i : Int) ∧ x = (k : Int) ∧ i + r = n ∧ k ≤ i ∧ great (l.drop i) k = some m, ⟨n - 1, rfl, 1, (l.getD 0 0).toNat, rfl, by omega, by omega, by omega, e0.1⟩, ?_⟩
    rintro d x y w1 r ⟨rfl, i, k, rfl, rfl, hir, hmi, hgo⟩
    refine sel_of (fun hd => ?_) (fun hd => ?_)
    · have hi : i < n := by have := of_decide_eq_true hd; omega
      rw [drop_cons 0 l i (by omega), great] at hgo
      split at hgo
      · cases hgo
      · rename_i hx
        rw [inc i n hn (by omega)]
        exact ⟨by omega, by omega, h.need (Fr.refl _ _) rfl hi ⟨_, _, run_max _ _ _, rfl, r - 1, by omega, rfl, i + 1, max k (l.getD i 0).toNat, rfl, by omega, by omega, by omega, hgo⟩⟩
    · have hi : i = n := by have := of_decide_eq_false hd; omega
      rw [List.drop_of_length_le (by omega), great] at hgo
      injection hgo with hgo
      rw [hgo]; exact ⟨rfl, rfl⟩
  · rintro e w' ⟨v, rfl, rfl, h⟩; exact ⟨rfl, h⟩
theorem equalR {w : World} {A B : Option Addr} {n c m d : Nat} {l k : List Int} (h : InU w A n l) (hk : InU w B m k) (hn : n ≤ 1000000000) : Calls Tryd.prog 35 #[.slice A n c, .slice B m d] w fun e w' => e = .returned (.bool (decide (l = k))) ∧ Fr [] w w' := by
  refine Calls.mono (f35.calls (R := fun v w' => v = .bool (decide (l = k)) ∧ Fr [] w w') ?_) ?_
  · dsimp only [f35.VC]
    have hl := h.1
    have hl2 := hk.1
    refine sel_of (fun hd => ?_) (fun hd => ?_)
    · have hd : n ≠ m := by
        have : ((n : Int) != (m : Int)) = true := hd
        rw [bne_iff_ne] at this
        omega
      refine ⟨?_, Fr.refl _ _⟩
      rw [decide_eq_false]
      rintro rfl; omega
    · have hd : n = m := by
        have : ((n : Int) != (m : Int)) = false := hd
        rw [bne_eq_false_iff_eq] at this
        omega
      refine ⟨fun x w' r => Fr [] w w' ∧ ∃ i : Nat, x = (i : Int) ∧ i + r = n ∧ ∀ a, a < i → l.getD a 0 = k.getD a 0, ⟨n, Fr.refl _ _, 0, rfl, by omega, fun a ha => by omega⟩, ?_⟩
      rintro d x w1 r ⟨hf, i, rfl, hir, hno⟩
      refine sel_of (fun hd => ?_) (fun hd => ?_)
      · have hi : i < n := by have := of_decide_eq_true hd; omega
        obtain ⟨b, o, rfl, hc⟩ := h.2 (by omega)
        obtain ⟨b', o', rfl, hc'⟩ := hk.2 (by omega)
        refine ⟨by omega, by omega, needPtr_of rfl ⟨by omega, by omega, needPtr_of rfl ⟨_, by rw [Nat.mul_one, Int.toNat_natCast]; exact hf.cell (hc i hi), _, by rw [Nat.mul_one, Int.toNat_natCast]; exact hf.cell (hc' i (by omega)), sel_of (fun hs => ?_) (fun hs => ?_)⟩⟩⟩
        · have hs : l.getD i 0 ≠ k.getD i 0 := bne_iff_ne.1 hs
          refine ⟨?_, hf.drew⟩
          rw [decide_eq_false]
          rintro rfl; exact hs rfl
        · have hs : l.getD i 0 = k.getD i 0 := bne_eq_false_iff_eq.1 hs
          rw [inc i n hn (by omega)]
          refine ⟨rfl, r - 1, by omega, hf.drew, i + 1, rfl, by omega, fun a ha => ?_⟩
          rcases Nat.lt_or_ge a i with h1 | h1
          · exact hno a h1
          · have : a = i := by omega
            subst this; exact hs
      · have hi : i = n := by have := of_decide_eq_false hd; omega
        refine ⟨?_, hf⟩
        rw [decide_eq_true]
        exact (ext_getD 0 l k).2 ⟨by omega, fun a ha => hno a (by omega)⟩
  · rintro e w' ⟨v, rfl, rfl, h⟩; exact ⟨rfl, h⟩
end PG
end Go.Proofs.YtjmlfknogjaemaaDoor
