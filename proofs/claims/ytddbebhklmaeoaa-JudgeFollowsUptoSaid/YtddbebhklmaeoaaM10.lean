/- The plain statements of some functions, printed by vcgen.py. -/
import Derived.Test.YtddbebhklmaeoaaM5
import Derived.Test.YtddbebhklmaeoaaProg
import Derived.KernelRfl
set_option maxRecDepth 100000
set_option maxHeartbeats 4000000
set_option linter.unusedVariables false
namespace Go.Proofs.Ytddbebhklmaeoaa
open Go Go.Proofs.Ytddbebhklmaeoaa.Vc
theorem W1.mixed : Try.prog.follows .mixedOrders = true := by kernel_rfl
/-- gatehouse/gatehouseref08.in -/
def f99.AL : Nat → Option Ann := fun r => match r with | 2 => some ⟨[(5, .int .i64)], [0, 1]⟩ | _ => none
def f99.AC : Nat → Option Ann := fun _ => none
def f99.VC (Aa0 : Option Addr) (na0 ca0 : Nat) (sa1 : ByteArray) (w : World) (R : Value → World → Prop) : Prop :=
  ∃ b0 : Int → World → Nat → Prop,
  (∃ n, b0 0 w n) ∧
  ∀ d0 : Env, ∀ g0 h0 i0, b0 g0 h0 i0 →
  sel (decide ((g0 : Int) < ((na0 : Int) : Int))) (
  (0 : Int) ≤ g0 ∧ g0 < (na0 : Int) ∧
  needPtr Aa0 fun j0 k0 =>
  ∃ p0,
  h0.cell? ⟨j0, k0 + g0.toNat * 1, none⟩ = some (.string p0) ∧
  sel (decide (p0 = sa1)) (
  R (.bool true) h0) (
  let q0 : Int := IntKind.i64.wrap (g0 + 1);
  ([.slice Aa0 na0 ca0, .string sa1] : List Value) = ([.slice Aa0 na0 ca0, .string sa1] : List Value) ∧ ∃ m, m < i0 ∧ b0 q0 h0 m)) (
  R (.bool false) h0)
theorem f99.eq (Aa0 : Option Addr) (na0 ca0 : Nat) (sa1 : ByteArray) (w : World) (R : Value → World → Prop) : f99.VC Aa0 na0 ca0 sa1 w R = funV Try.prog Try.f99 f99.AL f99.AC #[.slice Aa0 na0 ca0, .string sa1] w R := by kernel_rfl
theorem f99.calls {Aa0 : Option Addr} {na0 ca0 : Nat} {sa1 : ByteArray} {w : World} {R : Value → World → Prop} (h : f99.VC Aa0 na0 ca0 sa1 w R) : Calls Try.prog 99 #[.slice Aa0 na0 ca0, .string sa1] w fun e w' => ∃ v, e = .returned v ∧ R v w' :=
  funV_sound (fn := Try.f99) (AL := f99.AL) (AC := f99.AC) W1.mixed (by kernel_rfl) (by rw [← f99.eq Aa0 na0 ca0 sa1]; exact h)

/-- gatehouse/gatehouseref08.Ups -/
def f101.AL : Nat → Option Ann := fun r => match r with | 2 => some ⟨[(7, .slice)], [0, 1]⟩ | 4 => some ⟨[(7, .slice), (9, .int .i64)], [0, 1, 8]⟩ | _ => none
def f101.AC : Nat → Option Ann := fun _ => none
def f101.VC (Aa0 : Option Addr) (na0 ca0 : Nat) (Aa1 : Option Addr) (na1 ca1 : Nat) (sa2 : ByteArray) (w : World) (R : Value → World → Prop) : Prop :=
  let b0 := World.alloc w (.cells #[.string sa2] 9);
  ∃ d0 : Option Addr → Nat → Nat → World → Nat → Prop,
  (∃ n, d0 (some ⟨w.heap.size, 0, none⟩) 1 1 b0 n) ∧
  ∀ g0 : Env, ∀ h0 i0 j0 k0 p0, d0 h0 i0 j0 k0 p0 →
  ∃ q0 : Option Addr → Nat → Nat → Int → World → Nat → Prop,
  (∃ n, q0 h0 i0 j0 0 k0 n) ∧
  ∀ t0 : Env, ∀ u0 v0 x0 y0 z0 b1, q0 u0 v0 x0 y0 z0 b1 →
  let d1 : Int := IntKind.i64.wrap ((na0 : Int) + (na1 : Int));
  sel (decide ((y0 : Int) < (d1 : Int))) (
  let g1 := World.alloc z0 (.cells #[.string ⟨#[]⟩, .string ⟨#[]⟩] 147);
  sel (decide ((y0 : Int) < ((na0 : Int) : Int))) (
  (0 : Int) ≤ y0 ∧ y0 < (na0 : Int) ∧
  needPtr Aa0 fun h1 i1 =>
  ∃ j1,
  g1.cell? ⟨h1, i1 + y0.toNat * 2, none⟩ = some (.string j1) ∧
  ∃ k1,
  g1.cell? ⟨h1, i1 + y0.toNat * 2 + 1, none⟩ = some (.string k1) ∧
  canStore g1 z0.heap.size 0 2 ∧
  let p1 := setCs g1 z0.heap.size 0 [.string j1, .string k1];
  ∃ q1,
  p1.cell? ⟨z0.heap.size, 0, none⟩ = some (.string q1) ∧
  Calls Try.prog 99 #[.slice u0 v0 x0, .string q1] p1 fun t1 u1 =>
  ∃ v1,
  t1 = .returned (.bool v1) ∧
  ∃ x1,
  u1.cell? ⟨z0.heap.size, 1, none⟩ = some (.string x1) ∧
  Calls Try.prog 99 #[.slice u0 v0 x0, .string x1] u1 fun y1 z1 =>
  ∃ b2,
  y1 = .returned (.bool b2) ∧
  sel v1 (
  sel (!b2) (
  ∃ d2,
  z1.cell? ⟨z0.heap.size, 1, none⟩ = some (.string d2) ∧
  let g2 := World.alloc z1 (.cells #[.string d2] 9);
  ∃ h2 i2 j2,
  ∃ k2, (Builtin.append_ #[22, 22] 22 #[.slice u0 v0 x0, .slice (some ⟨z1.heap.size, 0, none⟩) 1 1]).run Try.prog g2 = .ok (.slice h2 i2 j2) k2 ∧
  let p2 : Int := IntKind.i64.wrap (y0 + 1);
  ([.slice Aa0 na0 ca0, .slice Aa1 na1 ca1, .int .i64 (i0 : Int)] : List Value) = ([.slice Aa0 na0 ca0, .slice Aa1 na1 ca1, .int .i64 (i0 : Int)] : List Value) ∧ ∃ m, m < b1 ∧ q0 h2 i2 j2 p2 k2 m) (
  let q2 : Int := IntKind.i64.wrap (y0 + 1);
  ([.slice Aa0 na0 ca0, .slice Aa1 na1 ca1, .int .i64 (i0 : Int)] : List Value) = ([.slice Aa0 na0 ca0, .slice Aa1 na1 ca1, .int .i64 (i0 : Int)] : List Value) ∧ ∃ m, m < b1 ∧ q0 u0 v0 x0 q2 z1 m)) (
  let t2 : Int := IntKind.i64.wrap (y0 + 1);
  ([.slice Aa0 na0 ca0, .slice Aa1 na1 ca1, .int .i64 (i0 : Int)] : List Value) = ([.slice Aa0 na0 ca0, .slice Aa1 na1 ca1, .int .i64 (i0 : Int)] : List Value) ∧ ∃ m, m < b1 ∧ q0 u0 v0 x0 t2 z1 m)) (
  let u2 : Int := IntKind.i64.wrap (y0 - (na0 : Int));
  (0 : Int) ≤ u2 ∧ u2 < (na1 : Int) ∧
  needPtr Aa1 fun v2 x2 =>
  ∃ y2,
  g1.cell? ⟨v2, x2 + u2.toNat * 2, none⟩ = some (.string y2) ∧
  ∃ z2,
  g1.cell? ⟨v2, x2 + u2.toNat * 2 + 1, none⟩ = some (.string z2) ∧
  canStore g1 z0.heap.size 0 2 ∧
  let b3 := setCs g1 z0.heap.size 0 [.string y2, .string z2];
  ∃ d3,
  b3.cell? ⟨z0.heap.size, 0, none⟩ = some (.string d3) ∧
  Calls Try.prog 99 #[.slice u0 v0 x0, .string d3] b3 fun g3 h3 =>
  ∃ i3,
  g3 = .returned (.bool i3) ∧
  ∃ j3,
  h3.cell? ⟨z0.heap.size, 1, none⟩ = some (.string j3) ∧
  Calls Try.prog 99 #[.slice u0 v0 x0, .string j3] h3 fun k3 p3 =>
  ∃ q3,
  k3 = .returned (.bool q3) ∧
  sel i3 (
  sel (!q3) (
  ∃ t3,
  p3.cell? ⟨z0.heap.size, 1, none⟩ = some (.string t3) ∧
  let u3 := World.alloc p3 (.cells #[.string t3] 9);
  ∃ v3 x3 y3,
  ∃ z3, (Builtin.append_ #[22, 22] 22 #[.slice u0 v0 x0, .slice (some ⟨p3.heap.size, 0, none⟩) 1 1]).run Try.prog u3 = .ok (.slice v3 x3 y3) z3 ∧
  let b4 : Int := IntKind.i64.wrap (y0 + 1);
  ([.slice Aa0 na0 ca0, .slice Aa1 na1 ca1, .int .i64 (i0 : Int)] : List Value) = ([.slice Aa0 na0 ca0, .slice Aa1 na1 ca1, .int .i64 (i0 : Int)] : List Value) ∧ ∃ m, m < b1 ∧ q0 v3 x3 y3 b4 z3 m) (
  let d4 : Int := IntKind.i64.wrap (y0 + 1);
  ([.slice Aa0 na0 ca0, .slice Aa1 na1 ca1, .int .i64 (i0 : Int)] : List Value) = ([.slice Aa0 na0 ca0, .slice Aa1 na1 ca1, .int .i64 (i0 : Int)] : List Value) ∧ ∃ m, m < b1 ∧ q0 u0 v0 x0 d4 p3 m)) (
  let g4 : Int := IntKind.i64.wrap (y0 + 1);
  ([.slice Aa0 na0 ca0, .slice Aa1 na1 ca1, .int .i64 (i0 : Int)] : List Value) = ([.slice Aa0 na0 ca0, .slice Aa1 na1 ca1, .int .i64 (i0 : Int)] : List Value) ∧ ∃ m, m < b1 ∧ q0 u0 v0 x0 g4 p3 m))) (
  sel (((v0 : Int) : Int) == ((i0 : Int) : Int)) (
  R (.slice u0 v0 x0) z0) (
  ([.slice Aa0 na0 ca0, .slice Aa1 na1 ca1] : List Value) = ([.slice Aa0 na0 ca0, .slice Aa1 na1 ca1] : List Value) ∧ ∃ m, m < p0 ∧ d0 u0 v0 x0 z0 m))
theorem f101.eq (Aa0 : Option Addr) (na0 ca0 : Nat) (Aa1 : Option Addr) (na1 ca1 : Nat) (sa2 : ByteArray) (w : World) (R : Value → World → Prop) : f101.VC Aa0 na0 ca0 Aa1 na1 ca1 sa2 w R = funV Try.prog Try.f101 f101.AL f101.AC #[.slice Aa0 na0 ca0, .slice Aa1 na1 ca1, .string sa2] w R := by kernel_rfl
theorem f101.calls {Aa0 : Option Addr} {na0 ca0 : Nat} {Aa1 : Option Addr} {na1 ca1 : Nat} {sa2 : ByteArray} {w : World} {R : Value → World → Prop} (h : f101.VC Aa0 na0 ca0 Aa1 na1 ca1 sa2 w R) : Calls Try.prog 101 #[.slice Aa0 na0 ca0, .slice Aa1 na1 ca1, .string sa2] w fun e w' => ∃ v, e = .returned v ∧ R v w' :=
  funV_sound (fn := Try.f101) (AL := f101.AL) (AC := f101.AC) W1.mixed (by kernel_rfl) (by rw [← f101.eq Aa0 na0 ca0 Aa1 na1 ca1 sa2]; exact h)

/-- gatehouse/gatehouseref08.Passes -/
def f106.AL : Nat → Option Ann := fun _ => none
def f106.AC : Nat → Option Ann := fun _ => none
def f106.VC (ba0_0 : Bool) (sa0_1 : ByteArray) (sa0_2 : ByteArray) (Aa0_3 : Option Addr) (na0_3 ca0_3 : Nat) (xa0_4 : Int) (fa0_5 : Nat) (fa1 : Nat) (w : World) (R : Value → World → Prop) : Prop :=
  let b0 := World.alloc w (.cells #[.bool ba0_0, .string sa0_1, .string sa0_2, .slice Aa0_3 na0_3 ca0_3, .int .i8 xa0_4, .float .f64 fa0_5] 88);
  ∃ d0,
  b0.cell? ⟨w.heap.size, 4, none⟩ = some (.int .i8 d0) ∧
  sel ((d0 : Int) == (0 : Int)) (
  R (.bool true) b0) (
  ∃ g0,
  b0.cell? ⟨w.heap.size, 4, none⟩ = some (.int .i8 g0) ∧
  sel ((g0 : Int) == (1 : Int)) (
  ∃ h0,
  b0.cell? ⟨w.heap.size, 5, none⟩ = some (.float .f64 h0) ∧
  ∃ i0 : Bool, (∀ w', (binOp .geq 86 (.float .f64 fa1) (.float .f64 h0) : Sem Value).run Try.prog w' = .ok (.bool i0) w') ∧
  sel i0 (
  R (.bool true) b0) (
  ∃ j0,
  b0.cell? ⟨w.heap.size, 4, none⟩ = some (.int .i8 j0) ∧
  sel ((j0 : Int) == (2 : Int)) (
  ∃ k0,
  b0.cell? ⟨w.heap.size, 5, none⟩ = some (.float .f64 k0) ∧
  ∃ p0 : Bool, (∀ w', (binOp .lss 86 (.float .f64 fa1) (.float .f64 k0) : Sem Value).run Try.prog w' = .ok (.bool p0) w') ∧
  R (.bool p0) b0) (
  R (.bool false) b0))) (
  ∃ q0,
  b0.cell? ⟨w.heap.size, 4, none⟩ = some (.int .i8 q0) ∧
  sel ((q0 : Int) == (2 : Int)) (
  ∃ t0,
  b0.cell? ⟨w.heap.size, 5, none⟩ = some (.float .f64 t0) ∧
  ∃ u0 : Bool, (∀ w', (binOp .lss 86 (.float .f64 fa1) (.float .f64 t0) : Sem Value).run Try.prog w' = .ok (.bool u0) w') ∧
  R (.bool u0) b0) (
  R (.bool false) b0)))
theorem f106.eq (ba0_0 : Bool) (sa0_1 : ByteArray) (sa0_2 : ByteArray) (Aa0_3 : Option Addr) (na0_3 ca0_3 : Nat) (xa0_4 : Int) (fa0_5 : Nat) (fa1 : Nat) (w : World) (R : Value → World → Prop) : f106.VC ba0_0 sa0_1 sa0_2 Aa0_3 na0_3 ca0_3 xa0_4 fa0_5 fa1 w R = funV Try.prog Try.f106 f106.AL f106.AC #[.agg #[.bool ba0_0, .string sa0_1, .string sa0_2, .slice Aa0_3 na0_3 ca0_3, .int .i8 xa0_4, .float .f64 fa0_5], .float .f64 fa1] w R := by kernel_rfl
theorem f106.calls {ba0_0 : Bool} {sa0_1 : ByteArray} {sa0_2 : ByteArray} {Aa0_3 : Option Addr} {na0_3 ca0_3 : Nat} {xa0_4 : Int} {fa0_5 : Nat} {fa1 : Nat} {w : World} {R : Value → World → Prop} (h : f106.VC ba0_0 sa0_1 sa0_2 Aa0_3 na0_3 ca0_3 xa0_4 fa0_5 fa1 w R) : Calls Try.prog 106 #[.agg #[.bool ba0_0, .string sa0_1, .string sa0_2, .slice Aa0_3 na0_3 ca0_3, .int .i8 xa0_4, .float .f64 fa0_5], .float .f64 fa1] w fun e w' => ∃ v, e = .returned v ∧ R v w' :=
  funV_sound (fn := Try.f106) (AL := f106.AL) (AC := f106.AC) W1.mixed (by kernel_rfl) (by rw [← f106.eq ba0_0 sa0_1 sa0_2 Aa0_3 na0_3 ca0_3 xa0_4 fa0_5 fa1]; exact h)

/-- gatehouse/gatehouseref08.Trust -/
def f98.AL : Nat → Option Ann := fun r => match r with | 2 => some ⟨[(6, .int .i64)], [1, 2]⟩ | _ => none
def f98.AC : Nat → Option Ann := fun _ => none
def f98.VC (Aa0_0 : Option Addr) (na0_0 ca0_0 : Nat) (Aa0_1 : Option Addr) (na0_1 ca0_1 : Nat) (Aa0_2 : Option Addr) (na0_2 ca0_2 : Nat) (Aa0_3 : Option Addr) (na0_3 ca0_3 : Nat) (Aa0_4 : Option Addr) (na0_4 ca0_4 : Nat) (Aa0_5 : Option Addr) (na0_5 ca0_5 : Nat) (Aa0_6 : Option Addr) (na0_6 ca0_6 : Nat) (Aa0_7 : Option Addr) (na0_7 ca0_7 : Nat) (Aa0_8 : Option Addr) (na0_8 ca0_8 : Nat) (Aa0_9 : Option Addr) (na0_9 ca0_9 : Nat) (Aa0_10 : Option Addr) (na0_10 ca0_10 : Nat) (sa1 : ByteArray) (w : World) (R : Value → World → Prop) : Prop :=
  let b0 := World.alloc w (.cells #[.slice Aa0_0 na0_0 ca0_0, .slice Aa0_1 na0_1 ca0_1, .slice Aa0_2 na0_2 ca0_2, .slice Aa0_3 na0_3 ca0_3, .slice Aa0_4 na0_4 ca0_4, .slice Aa0_5 na0_5 ca0_5, .slice Aa0_6 na0_6 ca0_6, .slice Aa0_7 na0_7 ca0_7, .slice Aa0_8 na0_8 ca0_8, .slice Aa0_9 na0_9 ca0_9, .slice Aa0_10 na0_10 ca0_10] 28);
  ∃ d0 : Int → World → Nat → Prop,
  (∃ n, d0 0 b0 n) ∧
  ∀ g0 : Env, ∀ h0 i0 j0, d0 h0 i0 j0 →
  ∃ k0 p0 q0,
  i0.cell? ⟨w.heap.size, 1, none⟩ = some (.slice k0 p0 q0) ∧
  sel (decide ((h0 : Int) < ((p0 : Int) : Int))) (
  ∃ t0 u0 v0,
  i0.cell? ⟨w.heap.size, 1, none⟩ = some (.slice t0 u0 v0) ∧
  (0 : Int) ≤ h0 ∧ h0 < (u0 : Int) ∧
  needPtr t0 fun x0 y0 =>
  ∃ z0,
  i0.cell? ⟨x0, y0 + h0.toNat * 2, none⟩ = some (.string z0) ∧
  sel (decide (z0 = sa1)) (
  ∃ b1 d1 g1,
  i0.cell? ⟨w.heap.size, 1, none⟩ = some (.slice b1 d1 g1) ∧
  (0 : Int) ≤ h0 ∧ h0 < (d1 : Int) ∧
  needPtr b1 fun h1 i1 =>
  ∃ j1,
  i0.cell? ⟨h1, i1 + h0.toNat * 2 + 1, none⟩ = some (.float .f64 j1) ∧
  R (.tuple #[.float .f64 j1, .bool true]) i0) (
  let k1 : Int := IntKind.i64.wrap (h0 + 1);
  ([.string sa1, .pointer (some ⟨w.heap.size, 0, none⟩)] : List Value) = ([.string sa1, .pointer (some ⟨w.heap.size, 0, none⟩)] : List Value) ∧ ∃ m, m < j0 ∧ d0 k1 i0 m)) (
  R (.tuple #[.float .f64 0, .bool false]) i0)
theorem f98.eq (Aa0_0 : Option Addr) (na0_0 ca0_0 : Nat) (Aa0_1 : Option Addr) (na0_1 ca0_1 : Nat) (Aa0_2 : Option Addr) (na0_2 ca0_2 : Nat) (Aa0_3 : Option Addr) (na0_3 ca0_3 : Nat) (Aa0_4 : Option Addr) (na0_4 ca0_4 : Nat) (Aa0_5 : Option Addr) (na0_5 ca0_5 : Nat) (Aa0_6 : Option Addr) (na0_6 ca0_6 : Nat) (Aa0_7 : Option Addr) (na0_7 ca0_7 : Nat) (Aa0_8 : Option Addr) (na0_8 ca0_8 : Nat) (Aa0_9 : Option Addr) (na0_9 ca0_9 : Nat) (Aa0_10 : Option Addr) (na0_10 ca0_10 : Nat) (sa1 : ByteArray) (w : World) (R : Value → World → Prop) : f98.VC Aa0_0 na0_0 ca0_0 Aa0_1 na0_1 ca0_1 Aa0_2 na0_2 ca0_2 Aa0_3 na0_3 ca0_3 Aa0_4 na0_4 ca0_4 Aa0_5 na0_5 ca0_5 Aa0_6 na0_6 ca0_6 Aa0_7 na0_7 ca0_7 Aa0_8 na0_8 ca0_8 Aa0_9 na0_9 ca0_9 Aa0_10 na0_10 ca0_10 sa1 w R = funV Try.prog Try.f98 f98.AL f98.AC #[.agg #[.slice Aa0_0 na0_0 ca0_0, .slice Aa0_1 na0_1 ca0_1, .slice Aa0_2 na0_2 ca0_2, .slice Aa0_3 na0_3 ca0_3, .slice Aa0_4 na0_4 ca0_4, .slice Aa0_5 na0_5 ca0_5, .slice Aa0_6 na0_6 ca0_6, .slice Aa0_7 na0_7 ca0_7, .slice Aa0_8 na0_8 ca0_8, .slice Aa0_9 na0_9 ca0_9, .slice Aa0_10 na0_10 ca0_10], .string sa1] w R := by kernel_rfl
theorem f98.calls {Aa0_0 : Option Addr} {na0_0 ca0_0 : Nat} {Aa0_1 : Option Addr} {na0_1 ca0_1 : Nat} {Aa0_2 : Option Addr} {na0_2 ca0_2 : Nat} {Aa0_3 : Option Addr} {na0_3 ca0_3 : Nat} {Aa0_4 : Option Addr} {na0_4 ca0_4 : Nat} {Aa0_5 : Option Addr} {na0_5 ca0_5 : Nat} {Aa0_6 : Option Addr} {na0_6 ca0_6 : Nat} {Aa0_7 : Option Addr} {na0_7 ca0_7 : Nat} {Aa0_8 : Option Addr} {na0_8 ca0_8 : Nat} {Aa0_9 : Option Addr} {na0_9 ca0_9 : Nat} {Aa0_10 : Option Addr} {na0_10 ca0_10 : Nat} {sa1 : ByteArray} {w : World} {R : Value → World → Prop} (h : f98.VC Aa0_0 na0_0 ca0_0 Aa0_1 na0_1 ca0_1 Aa0_2 na0_2 ca0_2 Aa0_3 na0_3 ca0_3 Aa0_4 na0_4 ca0_4 Aa0_5 na0_5 ca0_5 Aa0_6 na0_6 ca0_6 Aa0_7 na0_7 ca0_7 Aa0_8 na0_8 ca0_8 Aa0_9 na0_9 ca0_9 Aa0_10 na0_10 ca0_10 sa1 w R) : Calls Try.prog 98 #[.agg #[.slice Aa0_0 na0_0 ca0_0, .slice Aa0_1 na0_1 ca0_1, .slice Aa0_2 na0_2 ca0_2, .slice Aa0_3 na0_3 ca0_3, .slice Aa0_4 na0_4 ca0_4, .slice Aa0_5 na0_5 ca0_5, .slice Aa0_6 na0_6 ca0_6, .slice Aa0_7 na0_7 ca0_7, .slice Aa0_8 na0_8 ca0_8, .slice Aa0_9 na0_9 ca0_9, .slice Aa0_10 na0_10 ca0_10], .string sa1] w fun e w' => ∃ v, e = .returned v ∧ R v w' :=
  funV_sound (fn := Try.f98) (AL := f98.AL) (AC := f98.AC) W1.mixed (by kernel_rfl) (by rw [← f98.eq Aa0_0 na0_0 ca0_0 Aa0_1 na0_1 ca0_1 Aa0_2 na0_2 ca0_2 Aa0_3 na0_3 ca0_3 Aa0_4 na0_4 ca0_4 Aa0_5 na0_5 ca0_5 Aa0_6 na0_6 ca0_6 Aa0_7 na0_7 ca0_7 Aa0_8 na0_8 ca0_8 Aa0_9 na0_9 ca0_9 Aa0_10 na0_10 ca0_10 sa1]; exact h)

/-- gatehouse/gatehouseref08.about -/
def f100.AL : Nat → Option Ann := fun _ => none
def f100.AC : Nat → Option Ann := fun _ => none
def f100.VC (ba0_0 : Bool) (sa0_1 : ByteArray) (sa0_2 : ByteArray) (Aa0_3 : Option Addr) (na0_3 ca0_3 : Nat) (xa0_4 : Int) (fa0_5 : Nat) (Aa1 : Option Addr) (na1 ca1 : Nat) (fa2 : Nat) (Aa3 : Option Addr) (na3 ca3 : Nat) (w : World) (R : Value → World → Prop) : Prop :=
  let b0 := World.alloc w (.cells #[.bool ba0_0, .string sa0_1, .string sa0_2, .slice Aa0_3 na0_3 ca0_3, .int .i8 xa0_4, .float .f64 fa0_5] 88);
  ∃ d0,
  b0.cell? ⟨w.heap.size, 1, none⟩ = some (.string d0) ∧
  Calls Try.prog 99 #[.slice Aa1 na1 ca1, .string d0] b0 fun g0 h0 =>
  ∃ i0,
  g0 = .returned (.bool i0) ∧
  ∃ j0,
  h0.cell? ⟨w.heap.size, 2, none⟩ = some (.string j0) ∧
  Calls Try.prog 99 #[.slice Aa3 na3 ca3, .string j0] h0 fun k0 p0 =>
  ∃ q0,
  k0 = .returned (.bool q0) ∧
  ∃ t0,
  p0.cell? ⟨w.heap.size, 0, none⟩ = some (.bool t0) ∧
  ∃ u0,
  p0.cell? ⟨w.heap.size, 1, none⟩ = some (.string u0) ∧
  ∃ v0,
  p0.cell? ⟨w.heap.size, 2, none⟩ = some (.string v0) ∧
  ∃ x0 y0 z0,
  p0.cell? ⟨w.heap.size, 3, none⟩ = some (.slice x0 y0 z0) ∧
  ∃ b1,
  p0.cell? ⟨w.heap.size, 4, none⟩ = some (.int .i8 b1) ∧
  ∃ d1,
  p0.cell? ⟨w.heap.size, 5, none⟩ = some (.float .f64 d1) ∧
  Calls Try.prog 106 #[.agg #[.bool t0, .string u0, .string v0, .slice x0 y0 z0, .int .i8 b1, .float .f64 d1], .float .f64 fa2] p0 fun g1 h1 =>
  ∃ i1,
  g1 = .returned (.bool i1) ∧
  sel i0 (
  sel q0 (
  R (.bool i1) h1) (
  R (.bool false) h1)) (
  R (.bool false) h1)
theorem f100.eq (ba0_0 : Bool) (sa0_1 : ByteArray) (sa0_2 : ByteArray) (Aa0_3 : Option Addr) (na0_3 ca0_3 : Nat) (xa0_4 : Int) (fa0_5 : Nat) (Aa1 : Option Addr) (na1 ca1 : Nat) (fa2 : Nat) (Aa3 : Option Addr) (na3 ca3 : Nat) (w : World) (R : Value → World → Prop) : f100.VC ba0_0 sa0_1 sa0_2 Aa0_3 na0_3 ca0_3 xa0_4 fa0_5 Aa1 na1 ca1 fa2 Aa3 na3 ca3 w R = funV Try.prog Try.f100 f100.AL f100.AC #[.agg #[.bool ba0_0, .string sa0_1, .string sa0_2, .slice Aa0_3 na0_3 ca0_3, .int .i8 xa0_4, .float .f64 fa0_5], .slice Aa1 na1 ca1, .float .f64 fa2, .slice Aa3 na3 ca3] w R := by kernel_rfl
theorem f100.calls {ba0_0 : Bool} {sa0_1 : ByteArray} {sa0_2 : ByteArray} {Aa0_3 : Option Addr} {na0_3 ca0_3 : Nat} {xa0_4 : Int} {fa0_5 : Nat} {Aa1 : Option Addr} {na1 ca1 : Nat} {fa2 : Nat} {Aa3 : Option Addr} {na3 ca3 : Nat} {w : World} {R : Value → World → Prop} (h : f100.VC ba0_0 sa0_1 sa0_2 Aa0_3 na0_3 ca0_3 xa0_4 fa0_5 Aa1 na1 ca1 fa2 Aa3 na3 ca3 w R) : Calls Try.prog 100 #[.agg #[.bool ba0_0, .string sa0_1, .string sa0_2, .slice Aa0_3 na0_3 ca0_3, .int .i8 xa0_4, .float .f64 fa0_5], .slice Aa1 na1 ca1, .float .f64 fa2, .slice Aa3 na3 ca3] w fun e w' => ∃ v, e = .returned v ∧ R v w' :=
  funV_sound (fn := Try.f100) (AL := f100.AL) (AC := f100.AC) W1.mixed (by kernel_rfl) (by rw [← f100.eq ba0_0 sa0_1 sa0_2 Aa0_3 na0_3 ca0_3 xa0_4 fa0_5 Aa1 na1 ca1 fa2 Aa3 na3 ca3]; exact h)

/-- gatehouse/gatehouseref08.excepted -/
def f86.AL : Nat → Option Ann := fun r => match r with | 2 => some ⟨[(5, .int .i64)], [2, 3]⟩ | _ => none
def f86.AC : Nat → Option Ann := fun _ => none
def f86.VC (Aa0_0 : Option Addr) (na0_0 ca0_0 : Nat) (Aa0_1 : Option Addr) (na0_1 ca0_1 : Nat) (Aa0_2 : Option Addr) (na0_2 ca0_2 : Nat) (Aa0_3 : Option Addr) (na0_3 ca0_3 : Nat) (Aa0_4 : Option Addr) (na0_4 ca0_4 : Nat) (Aa0_5 : Option Addr) (na0_5 ca0_5 : Nat) (Aa0_6 : Option Addr) (na0_6 ca0_6 : Nat) (Aa0_7 : Option Addr) (na0_7 ca0_7 : Nat) (Aa0_8 : Option Addr) (na0_8 ca0_8 : Nat) (Aa0_9 : Option Addr) (na0_9 ca0_9 : Nat) (Aa0_10 : Option Addr) (na0_10 ca0_10 : Nat) (sa1_0 : ByteArray) (sa1_1 : ByteArray) (sa1_2 : ByteArray) (w : World) (R : Value → World → Prop) : Prop :=
  let b0 := World.alloc w (.cells #[.slice Aa0_0 na0_0 ca0_0, .slice Aa0_1 na0_1 ca0_1, .slice Aa0_2 na0_2 ca0_2, .slice Aa0_3 na0_3 ca0_3, .slice Aa0_4 na0_4 ca0_4, .slice Aa0_5 na0_5 ca0_5, .slice Aa0_6 na0_6 ca0_6, .slice Aa0_7 na0_7 ca0_7, .slice Aa0_8 na0_8 ca0_8, .slice Aa0_9 na0_9 ca0_9, .slice Aa0_10 na0_10 ca0_10] 28);
  let d0 := World.alloc b0 (.cells #[.string sa1_0, .string sa1_1, .string sa1_2] 37);
  ∃ g0 : Int → World → Nat → Prop,
  (∃ n, g0 0 d0 n) ∧
  ∀ h0 : Env, ∀ i0 j0 k0, g0 i0 j0 k0 →
  ∃ p0 q0 t0,
  j0.cell? ⟨w.heap.size, 10, none⟩ = some (.slice p0 q0 t0) ∧
  sel (decide ((i0 : Int) < ((q0 : Int) : Int))) (
  ∃ u0 v0 x0,
  j0.cell? ⟨w.heap.size, 10, none⟩ = some (.slice u0 v0 x0) ∧
  (0 : Int) ≤ i0 ∧ i0 < (v0 : Int) ∧
  needPtr u0 fun y0 z0 =>
  ∃ b1,
  j0.cell? ⟨y0, z0 + i0.toNat * 3, none⟩ = some (.string b1) ∧
  ∃ d1,
  j0.cell? ⟨y0, z0 + i0.toNat * 3 + 1, none⟩ = some (.string d1) ∧
  ∃ g1,
  j0.cell? ⟨y0, z0 + i0.toNat * 3 + 1 + 1, none⟩ = some (.string g1) ∧
  ∃ h1,
  j0.cell? ⟨b0.heap.size, 0, none⟩ = some (.string h1) ∧
  ∃ i1,
  j0.cell? ⟨b0.heap.size, 1, none⟩ = some (.string i1) ∧
  ∃ j1,
  j0.cell? ⟨b0.heap.size, 2, none⟩ = some (.string j1) ∧
  ∃ k1 : Bool, (∀ w', (do eqGuard .eql 37 (.tmp 17) (.tmp 18) (.agg #[.string b1, .string d1, .string g1]) (.agg #[.string h1, .string i1, .string j1]); binOp .eql 37 (.agg #[.string b1, .string d1, .string g1]) (.agg #[.string h1, .string i1, .string j1]) : Sem Value).run Try.prog w' = .ok (.bool k1) w') ∧
  sel k1 (
  R (.bool true) j0.drew) (
  let p1 : Int := IntKind.i64.wrap (i0 + 1);
  ([.pointer (some ⟨w.heap.size, 0, none⟩), .pointer (some ⟨b0.heap.size, 0, none⟩)] : List Value) = ([.pointer (some ⟨w.heap.size, 0, none⟩), .pointer (some ⟨b0.heap.size, 0, none⟩)] : List Value) ∧ ∃ m, m < k0 ∧ g0 p1 j0.drew m)) (
  R (.bool false) j0)
theorem f86.eq (Aa0_0 : Option Addr) (na0_0 ca0_0 : Nat) (Aa0_1 : Option Addr) (na0_1 ca0_1 : Nat) (Aa0_2 : Option Addr) (na0_2 ca0_2 : Nat) (Aa0_3 : Option Addr) (na0_3 ca0_3 : Nat) (Aa0_4 : Option Addr) (na0_4 ca0_4 : Nat) (Aa0_5 : Option Addr) (na0_5 ca0_5 : Nat) (Aa0_6 : Option Addr) (na0_6 ca0_6 : Nat) (Aa0_7 : Option Addr) (na0_7 ca0_7 : Nat) (Aa0_8 : Option Addr) (na0_8 ca0_8 : Nat) (Aa0_9 : Option Addr) (na0_9 ca0_9 : Nat) (Aa0_10 : Option Addr) (na0_10 ca0_10 : Nat) (sa1_0 : ByteArray) (sa1_1 : ByteArray) (sa1_2 : ByteArray) (w : World) (R : Value → World → Prop) : f86.VC Aa0_0 na0_0 ca0_0 Aa0_1 na0_1 ca0_1 Aa0_2 na0_2 ca0_2 Aa0_3 na0_3 ca0_3 Aa0_4 na0_4 ca0_4 Aa0_5 na0_5 ca0_5 Aa0_6 na0_6 ca0_6 Aa0_7 na0_7 ca0_7 Aa0_8 na0_8 ca0_8 Aa0_9 na0_9 ca0_9 Aa0_10 na0_10 ca0_10 sa1_0 sa1_1 sa1_2 w R = funV Try.prog Try.f86 f86.AL f86.AC #[.agg #[.slice Aa0_0 na0_0 ca0_0, .slice Aa0_1 na0_1 ca0_1, .slice Aa0_2 na0_2 ca0_2, .slice Aa0_3 na0_3 ca0_3, .slice Aa0_4 na0_4 ca0_4, .slice Aa0_5 na0_5 ca0_5, .slice Aa0_6 na0_6 ca0_6, .slice Aa0_7 na0_7 ca0_7, .slice Aa0_8 na0_8 ca0_8, .slice Aa0_9 na0_9 ca0_9, .slice Aa0_10 na0_10 ca0_10], .agg #[.string sa1_0, .string sa1_1, .string sa1_2]] w R := by kernel_rfl
theorem f86.calls {Aa0_0 : Option Addr} {na0_0 ca0_0 : Nat} {Aa0_1 : Option Addr} {na0_1 ca0_1 : Nat} {Aa0_2 : Option Addr} {na0_2 ca0_2 : Nat} {Aa0_3 : Option Addr} {na0_3 ca0_3 : Nat} {Aa0_4 : Option Addr} {na0_4 ca0_4 : Nat} {Aa0_5 : Option Addr} {na0_5 ca0_5 : Nat} {Aa0_6 : Option Addr} {na0_6 ca0_6 : Nat} {Aa0_7 : Option Addr} {na0_7 ca0_7 : Nat} {Aa0_8 : Option Addr} {na0_8 ca0_8 : Nat} {Aa0_9 : Option Addr} {na0_9 ca0_9 : Nat} {Aa0_10 : Option Addr} {na0_10 ca0_10 : Nat} {sa1_0 : ByteArray} {sa1_1 : ByteArray} {sa1_2 : ByteArray} {w : World} {R : Value → World → Prop} (h : f86.VC Aa0_0 na0_0 ca0_0 Aa0_1 na0_1 ca0_1 Aa0_2 na0_2 ca0_2 Aa0_3 na0_3 ca0_3 Aa0_4 na0_4 ca0_4 Aa0_5 na0_5 ca0_5 Aa0_6 na0_6 ca0_6 Aa0_7 na0_7 ca0_7 Aa0_8 na0_8 ca0_8 Aa0_9 na0_9 ca0_9 Aa0_10 na0_10 ca0_10 sa1_0 sa1_1 sa1_2 w R) : Calls Try.prog 86 #[.agg #[.slice Aa0_0 na0_0 ca0_0, .slice Aa0_1 na0_1 ca0_1, .slice Aa0_2 na0_2 ca0_2, .slice Aa0_3 na0_3 ca0_3, .slice Aa0_4 na0_4 ca0_4, .slice Aa0_5 na0_5 ca0_5, .slice Aa0_6 na0_6 ca0_6, .slice Aa0_7 na0_7 ca0_7, .slice Aa0_8 na0_8 ca0_8, .slice Aa0_9 na0_9 ca0_9, .slice Aa0_10 na0_10 ca0_10], .agg #[.string sa1_0, .string sa1_1, .string sa1_2]] w fun e w' => ∃ v, e = .returned v ∧ R v w' :=
  funV_sound (fn := Try.f86) (AL := f86.AL) (AC := f86.AC) W1.mixed (by kernel_rfl) (by rw [← f86.eq Aa0_0 na0_0 ca0_0 Aa0_1 na0_1 ca0_1 Aa0_2 na0_2 ca0_2 Aa0_3 na0_3 ca0_3 Aa0_4 na0_4 ca0_4 Aa0_5 na0_5 ca0_5 Aa0_6 na0_6 ca0_6 Aa0_7 na0_7 ca0_7 Aa0_8 na0_8 ca0_8 Aa0_9 na0_9 ca0_9 Aa0_10 na0_10 ca0_10 sa1_0 sa1_1 sa1_2]; exact h)

/-- gatehouse/gatehouseref08.Matches -/
def f85.AL : Nat → Option Ann := fun _ => none
def f85.AC : Nat → Option Ann := fun r => match r with | 1000006 => some ⟨[], []⟩ | _ => none
def f85.VC (Aa0_0 : Option Addr) (na0_0 ca0_0 : Nat) (Aa0_1 : Option Addr) (na0_1 ca0_1 : Nat) (Aa0_2 : Option Addr) (na0_2 ca0_2 : Nat) (Aa0_3 : Option Addr) (na0_3 ca0_3 : Nat) (Aa0_4 : Option Addr) (na0_4 ca0_4 : Nat) (Aa0_5 : Option Addr) (na0_5 ca0_5 : Nat) (Aa0_6 : Option Addr) (na0_6 ca0_6 : Nat) (Aa0_7 : Option Addr) (na0_7 ca0_7 : Nat) (Aa0_8 : Option Addr) (na0_8 ca0_8 : Nat) (Aa0_9 : Option Addr) (na0_9 ca0_9 : Nat) (Aa0_10 : Option Addr) (na0_10 ca0_10 : Nat) (ba1_0 : Bool) (sa1_1 : ByteArray) (sa1_2 : ByteArray) (Aa1_3 : Option Addr) (na1_3 ca1_3 : Nat) (xa1_4 : Int) (fa1_5 : Nat) (sa2_0 : ByteArray) (sa2_1 : ByteArray) (sa2_2 : ByteArray) (w : World) (R : Value → World → Prop) : Prop :=
  let b0 := World.alloc w (.cells #[.slice Aa0_0 na0_0 ca0_0, .slice Aa0_1 na0_1 ca0_1, .slice Aa0_2 na0_2 ca0_2, .slice Aa0_3 na0_3 ca0_3, .slice Aa0_4 na0_4 ca0_4, .slice Aa0_5 na0_5 ca0_5, .slice Aa0_6 na0_6 ca0_6, .slice Aa0_7 na0_7 ca0_7, .slice Aa0_8 na0_8 ca0_8, .slice Aa0_9 na0_9 ca0_9, .slice Aa0_10 na0_10 ca0_10] 28);
  let d0 := World.alloc b0 (.cells #[.bool ba1_0, .string sa1_1, .string sa1_2, .slice Aa1_3 na1_3 ca1_3, .int .i8 xa1_4, .float .f64 fa1_5] 88);
  let g0 := World.alloc d0 (.cells #[.string sa2_0, .string sa2_1, .string sa2_2] 37);
  ∃ h0 i0 j0,
  g0.cell? ⟨w.heap.size, 0, none⟩ = some (.slice h0 i0 j0) ∧
  ∃ k0 p0 q0,
  g0.cell? ⟨w.heap.size, 1, none⟩ = some (.slice k0 p0 q0) ∧
  ∃ t0 u0 v0,
  g0.cell? ⟨w.heap.size, 2, none⟩ = some (.slice t0 u0 v0) ∧
  ∃ x0 y0 z0,
  g0.cell? ⟨w.heap.size, 3, none⟩ = some (.slice x0 y0 z0) ∧
  ∃ b1 d1 g1,
  g0.cell? ⟨w.heap.size, 4, none⟩ = some (.slice b1 d1 g1) ∧
  ∃ h1 i1 j1,
  g0.cell? ⟨w.heap.size, 5, none⟩ = some (.slice h1 i1 j1) ∧
  ∃ k1 p1 q1,
  g0.cell? ⟨w.heap.size, 6, none⟩ = some (.slice k1 p1 q1) ∧
  ∃ t1 u1 v1,
  g0.cell? ⟨w.heap.size, 7, none⟩ = some (.slice t1 u1 v1) ∧
  ∃ x1 y1 z1,
  g0.cell? ⟨w.heap.size, 8, none⟩ = some (.slice x1 y1 z1) ∧
  ∃ b2 d2 g2,
  g0.cell? ⟨w.heap.size, 9, none⟩ = some (.slice b2 d2 g2) ∧
  ∃ h2 i2 j2,
  g0.cell? ⟨w.heap.size, 10, none⟩ = some (.slice h2 i2 j2) ∧
  ∃ k2,
  g0.cell? ⟨d0.heap.size, 0, none⟩ = some (.string k2) ∧
  Calls Try.prog 98 #[.agg #[.slice h0 i0 j0, .slice k0 p0 q0, .slice t0 u0 v0, .slice x0 y0 z0, .slice b1 d1 g1, .slice h1 i1 j1, .slice k1 p1 q1, .slice t1 u1 v1, .slice x1 y1 z1, .slice b2 d2 g2, .slice h2 i2 j2], .string k2] g0 fun p2 q2 =>
  ∃ t2 u2,
  p2 = .returned (.tuple #[.float .f64 t2, .bool u2]) ∧
  ∃ v2 x2 y2,
  q2.cell? ⟨w.heap.size, 3, none⟩ = some (.slice v2 x2 y2) ∧
  ∃ z2,
  q2.cell? ⟨d0.heap.size, 1, none⟩ = some (.string z2) ∧
  Calls Try.prog 99 #[.slice v2 x2 y2, .string z2] q2 fun b3 d3 =>
  ∃ g3,
  b3 = .returned (.bool g3) ∧
  ∃ h3 i3 j3,
  d3.cell? ⟨w.heap.size, 0, none⟩ = some (.slice h3 i3 j3) ∧
  ∃ k3,
  d3.cell? ⟨d0.heap.size, 2, none⟩ = some (.string k3) ∧
  Calls Try.prog 99 #[.slice h3 i3 j3, .string k3] d3 fun p3 q3 =>
  ∃ t3,
  p3 = .returned (.bool t3) ∧
  sel (!u2) (
  R (.bool false) q3) (
  sel (!g3) (
  R (.bool false) q3) (
  sel (!t3) (
  R (.bool false) q3) (
  ∃ u3,
  q3.cell? ⟨b0.heap.size, 0, none⟩ = some (.bool u3) ∧
  ∃ v3,
  q3.cell? ⟨b0.heap.size, 1, none⟩ = some (.string v3) ∧
  ∃ x3,
  q3.cell? ⟨b0.heap.size, 2, none⟩ = some (.string x3) ∧
  ∃ y3 z3 b4,
  q3.cell? ⟨b0.heap.size, 3, none⟩ = some (.slice y3 z3 b4) ∧
  ∃ d4,
  q3.cell? ⟨b0.heap.size, 4, none⟩ = some (.int .i8 d4) ∧
  ∃ g4,
  q3.cell? ⟨b0.heap.size, 5, none⟩ = some (.float .f64 g4) ∧
  ∃ h4 i4 j4,
  q3.cell? ⟨w.heap.size, 5, none⟩ = some (.slice h4 i4 j4) ∧
  ∃ k4 p4 q4,
  q3.cell? ⟨w.heap.size, 6, none⟩ = some (.slice k4 p4 q4) ∧
  ∃ t4,
  q3.cell? ⟨d0.heap.size, 0, none⟩ = some (.string t4) ∧
  ∃ u4 v4 x4,
  q3.cell? ⟨w.heap.size, 7, none⟩ = some (.slice u4 v4 x4) ∧
  ∃ y4 z4 b5,
  q3.cell? ⟨w.heap.size, 8, none⟩ = some (.slice y4 z4 b5) ∧
  ∃ d5,
  q3.cell? ⟨d0.heap.size, 1, none⟩ = some (.string d5) ∧
  Calls Try.prog 101 #[.slice h4 i4 j4, .slice k4 p4 q4, .string t4] q3.drew fun g5 h5 =>
  ∃ i5 j5 k5,
  g5 = .returned (.slice i5 j5 k5) ∧
  (h5.cell? ⟨d0.heap.size, 1, none⟩ = some (.string d5) ∧ h5.cell? ⟨w.heap.size, 8, none⟩ = some (.slice y4 z4 b5) ∧ h5.cell? ⟨w.heap.size, 7, none⟩ = some (.slice u4 v4 x4) ∧ h5.cell? ⟨d0.heap.size, 0, none⟩ = some (.string t4) ∧ h5.cell? ⟨w.heap.size, 6, none⟩ = some (.slice k4 p4 q4) ∧ h5.cell? ⟨w.heap.size, 5, none⟩ = some (.slice h4 i4 j4) ∧ (h5.cell? ⟨b0.heap.size, 0, none⟩ = some (.bool u3) ∧ h5.cell? ⟨b0.heap.size, 1, none⟩ = some (.string v3) ∧ h5.cell? ⟨b0.heap.size, 2, none⟩ = some (.string x3) ∧ h5.cell? ⟨b0.heap.size, 3, none⟩ = some (.slice y3 z3 b4) ∧ h5.cell? ⟨b0.heap.size, 4, none⟩ = some (.int .i8 d4) ∧ h5.cell? ⟨b0.heap.size, 5, none⟩ = some (.float .f64 g4) ∧ True) ∧ True) ∧
  Calls Try.prog 101 #[.slice u4 v4 x4, .slice y4 z4 b5, .string d5] h5 fun p5 q5 =>
  ∃ t5 u5 v5,
  p5 = .returned (.slice t5 u5 v5) ∧
  (q5.cell? ⟨d0.heap.size, 1, none⟩ = some (.string d5) ∧ q5.cell? ⟨w.heap.size, 8, none⟩ = some (.slice y4 z4 b5) ∧ q5.cell? ⟨w.heap.size, 7, none⟩ = some (.slice u4 v4 x4) ∧ q5.cell? ⟨d0.heap.size, 0, none⟩ = some (.string t4) ∧ q5.cell? ⟨w.heap.size, 6, none⟩ = some (.slice k4 p4 q4) ∧ q5.cell? ⟨w.heap.size, 5, none⟩ = some (.slice h4 i4 j4) ∧ (q5.cell? ⟨b0.heap.size, 0, none⟩ = some (.bool u3) ∧ q5.cell? ⟨b0.heap.size, 1, none⟩ = some (.string v3) ∧ q5.cell? ⟨b0.heap.size, 2, none⟩ = some (.string x3) ∧ q5.cell? ⟨b0.heap.size, 3, none⟩ = some (.slice y3 z3 b4) ∧ q5.cell? ⟨b0.heap.size, 4, none⟩ = some (.int .i8 d4) ∧ q5.cell? ⟨b0.heap.size, 5, none⟩ = some (.float .f64 g4) ∧ True) ∧ True) ∧
  Calls Try.prog 100 #[.agg #[.bool u3, .string v3, .string x3, .slice y3 z3 b4, .int .i8 d4, .float .f64 g4], .slice i5 j5 k5, .float .f64 t2, .slice t5 u5 v5] q5 fun x5 y5 =>
  ∃ z5,
  x5 = .returned (.bool z5) ∧
  (y5.cell? ⟨d0.heap.size, 1, none⟩ = some (.string d5) ∧ y5.cell? ⟨w.heap.size, 8, none⟩ = some (.slice y4 z4 b5) ∧ y5.cell? ⟨w.heap.size, 7, none⟩ = some (.slice u4 v4 x4) ∧ y5.cell? ⟨d0.heap.size, 0, none⟩ = some (.string t4) ∧ y5.cell? ⟨w.heap.size, 6, none⟩ = some (.slice k4 p4 q4) ∧ y5.cell? ⟨w.heap.size, 5, none⟩ = some (.slice h4 i4 j4) ∧ (y5.cell? ⟨b0.heap.size, 0, none⟩ = some (.bool u3) ∧ y5.cell? ⟨b0.heap.size, 1, none⟩ = some (.string v3) ∧ y5.cell? ⟨b0.heap.size, 2, none⟩ = some (.string x3) ∧ y5.cell? ⟨b0.heap.size, 3, none⟩ = some (.slice y3 z3 b4) ∧ y5.cell? ⟨b0.heap.size, 4, none⟩ = some (.int .i8 d4) ∧ y5.cell? ⟨b0.heap.size, 5, none⟩ = some (.float .f64 g4) ∧ True) ∧ True) ∧
  ∃ b6 d6 g6,
  y5.cell? ⟨b0.heap.size, 3, none⟩ = some (.slice b6 d6 g6) ∧
  ∃ h6,
  y5.cell? ⟨d0.heap.size, 2, none⟩ = some (.string h6) ∧
  Calls Try.prog 99 #[.slice b6 d6 g6, .string h6] y5 fun i6 j6 =>
  ∃ k6,
  i6 = .returned (.bool k6) ∧
  sel z5 (
  ∃ p6 q6 t6,
  j6.cell? ⟨b0.heap.size, 3, none⟩ = some (.slice p6 q6 t6) ∧
  sel (((q6 : Int) : Int) == (0 : Int)) (
  R (.bool true) j6) (
  R (.bool k6) j6)) (
  R (.bool false) j6))))
theorem f85.eq (Aa0_0 : Option Addr) (na0_0 ca0_0 : Nat) (Aa0_1 : Option Addr) (na0_1 ca0_1 : Nat) (Aa0_2 : Option Addr) (na0_2 ca0_2 : Nat) (Aa0_3 : Option Addr) (na0_3 ca0_3 : Nat) (Aa0_4 : Option Addr) (na0_4 ca0_4 : Nat) (Aa0_5 : Option Addr) (na0_5 ca0_5 : Nat) (Aa0_6 : Option Addr) (na0_6 ca0_6 : Nat) (Aa0_7 : Option Addr) (na0_7 ca0_7 : Nat) (Aa0_8 : Option Addr) (na0_8 ca0_8 : Nat) (Aa0_9 : Option Addr) (na0_9 ca0_9 : Nat) (Aa0_10 : Option Addr) (na0_10 ca0_10 : Nat) (ba1_0 : Bool) (sa1_1 : ByteArray) (sa1_2 : ByteArray) (Aa1_3 : Option Addr) (na1_3 ca1_3 : Nat) (xa1_4 : Int) (fa1_5 : Nat) (sa2_0 : ByteArray) (sa2_1 : ByteArray) (sa2_2 : ByteArray) (w : World) (R : Value → World → Prop) : f85.VC Aa0_0 na0_0 ca0_0 Aa0_1 na0_1 ca0_1 Aa0_2 na0_2 ca0_2 Aa0_3 na0_3 ca0_3 Aa0_4 na0_4 ca0_4 Aa0_5 na0_5 ca0_5 Aa0_6 na0_6 ca0_6 Aa0_7 na0_7 ca0_7 Aa0_8 na0_8 ca0_8 Aa0_9 na0_9 ca0_9 Aa0_10 na0_10 ca0_10 ba1_0 sa1_1 sa1_2 Aa1_3 na1_3 ca1_3 xa1_4 fa1_5 sa2_0 sa2_1 sa2_2 w R = funV Try.prog Try.f85 f85.AL f85.AC #[.agg #[.slice Aa0_0 na0_0 ca0_0, .slice Aa0_1 na0_1 ca0_1, .slice Aa0_2 na0_2 ca0_2, .slice Aa0_3 na0_3 ca0_3, .slice Aa0_4 na0_4 ca0_4, .slice Aa0_5 na0_5 ca0_5, .slice Aa0_6 na0_6 ca0_6, .slice Aa0_7 na0_7 ca0_7, .slice Aa0_8 na0_8 ca0_8, .slice Aa0_9 na0_9 ca0_9, .slice Aa0_10 na0_10 ca0_10], .agg #[.bool ba1_0, .string sa1_1, .string sa1_2, .slice Aa1_3 na1_3 ca1_3, .int .i8 xa1_4, .float .f64 fa1_5], .agg #[.string sa2_0, .string sa2_1, .string sa2_2]] w R := by kernel_rfl
theorem f85.calls {Aa0_0 : Option Addr} {na0_0 ca0_0 : Nat} {Aa0_1 : Option Addr} {na0_1 ca0_1 : Nat} {Aa0_2 : Option Addr} {na0_2 ca0_2 : Nat} {Aa0_3 : Option Addr} {na0_3 ca0_3 : Nat} {Aa0_4 : Option Addr} {na0_4 ca0_4 : Nat} {Aa0_5 : Option Addr} {na0_5 ca0_5 : Nat} {Aa0_6 : Option Addr} {na0_6 ca0_6 : Nat} {Aa0_7 : Option Addr} {na0_7 ca0_7 : Nat} {Aa0_8 : Option Addr} {na0_8 ca0_8 : Nat} {Aa0_9 : Option Addr} {na0_9 ca0_9 : Nat} {Aa0_10 : Option Addr} {na0_10 ca0_10 : Nat} {ba1_0 : Bool} {sa1_1 : ByteArray} {sa1_2 : ByteArray} {Aa1_3 : Option Addr} {na1_3 ca1_3 : Nat} {xa1_4 : Int} {fa1_5 : Nat} {sa2_0 : ByteArray} {sa2_1 : ByteArray} {sa2_2 : ByteArray} {w : World} {R : Value → World → Prop} (h : f85.VC Aa0_0 na0_0 ca0_0 Aa0_1 na0_1 ca0_1 Aa0_2 na0_2 ca0_2 Aa0_3 na0_3 ca0_3 Aa0_4 na0_4 ca0_4 Aa0_5 na0_5 ca0_5 Aa0_6 na0_6 ca0_6 Aa0_7 na0_7 ca0_7 Aa0_8 na0_8 ca0_8 Aa0_9 na0_9 ca0_9 Aa0_10 na0_10 ca0_10 ba1_0 sa1_1 sa1_2 Aa1_3 na1_3 ca1_3 xa1_4 fa1_5 sa2_0 sa2_1 sa2_2 w R) : Calls Try.prog 85 #[.agg #[.slice Aa0_0 na0_0 ca0_0, .slice Aa0_1 na0_1 ca0_1, .slice Aa0_2 na0_2 ca0_2, .slice Aa0_3 na0_3 ca0_3, .slice Aa0_4 na0_4 ca0_4, .slice Aa0_5 na0_5 ca0_5, .slice Aa0_6 na0_6 ca0_6, .slice Aa0_7 na0_7 ca0_7, .slice Aa0_8 na0_8 ca0_8, .slice Aa0_9 na0_9 ca0_9, .slice Aa0_10 na0_10 ca0_10], .agg #[.bool ba1_0, .string sa1_1, .string sa1_2, .slice Aa1_3 na1_3 ca1_3, .int .i8 xa1_4, .float .f64 fa1_5], .agg #[.string sa2_0, .string sa2_1, .string sa2_2]] w fun e w' => ∃ v, e = .returned v ∧ R v w' :=
  funV_sound (fn := Try.f85) (AL := f85.AL) (AC := f85.AC) W1.mixed (by kernel_rfl) (by rw [← f85.eq Aa0_0 na0_0 ca0_0 Aa0_1 na0_1 ca0_1 Aa0_2 na0_2 ca0_2 Aa0_3 na0_3 ca0_3 Aa0_4 na0_4 ca0_4 Aa0_5 na0_5 ca0_5 Aa0_6 na0_6 ca0_6 Aa0_7 na0_7 ca0_7 Aa0_8 na0_8 ca0_8 Aa0_9 na0_9 ca0_9 Aa0_10 na0_10 ca0_10 ba1_0 sa1_1 sa1_2 Aa1_3 na1_3 ca1_3 xa1_4 fa1_5 sa2_0 sa2_1 sa2_2]; exact h)

/-- gatehouse/gatehouseref08.Allows -/
def f55.AL : Nat → Option Ann := fun r => match r with | 4 => some ⟨[(5, .bool), (6, .bool), (7, .int .i64)], [2, 3]⟩ | _ => none
def f55.AC : Nat → Option Ann := fun _ => none
def f55.VC (Aa0_0 : Option Addr) (na0_0 ca0_0 : Nat) (Aa0_1 : Option Addr) (na0_1 ca0_1 : Nat) (Aa0_2 : Option Addr) (na0_2 ca0_2 : Nat) (Aa0_3 : Option Addr) (na0_3 ca0_3 : Nat) (Aa0_4 : Option Addr) (na0_4 ca0_4 : Nat) (Aa0_5 : Option Addr) (na0_5 ca0_5 : Nat) (Aa0_6 : Option Addr) (na0_6 ca0_6 : Nat) (Aa0_7 : Option Addr) (na0_7 ca0_7 : Nat) (Aa0_8 : Option Addr) (na0_8 ca0_8 : Nat) (Aa0_9 : Option Addr) (na0_9 ca0_9 : Nat) (Aa0_10 : Option Addr) (na0_10 ca0_10 : Nat) (sa1_0 : ByteArray) (sa1_1 : ByteArray) (sa1_2 : ByteArray) (w : World) (R : Value → World → Prop) : Prop :=
  let b0 := World.alloc w (.cells #[.slice Aa0_0 na0_0 ca0_0, .slice Aa0_1 na0_1 ca0_1, .slice Aa0_2 na0_2 ca0_2, .slice Aa0_3 na0_3 ca0_3, .slice Aa0_4 na0_4 ca0_4, .slice Aa0_5 na0_5 ca0_5, .slice Aa0_6 na0_6 ca0_6, .slice Aa0_7 na0_7 ca0_7, .slice Aa0_8 na0_8 ca0_8, .slice Aa0_9 na0_9 ca0_9, .slice Aa0_10 na0_10 ca0_10] 28);
  let d0 := World.alloc b0 (.cells #[.string sa1_0, .string sa1_1, .string sa1_2] 37);
  ∃ g0 : Bool → Bool → Int → World → Nat → Prop,
  (∃ n, g0 false false 0 d0 n) ∧
  ∀ h0 : Env, ∀ i0 j0 k0 p0 q0, g0 i0 j0 k0 p0 q0 →
  ∃ t0 u0 v0,
  p0.cell? ⟨w.heap.size, 9, none⟩ = some (.slice t0 u0 v0) ∧
  sel (decide ((k0 : Int) < ((u0 : Int) : Int))) (
  ∃ x0 y0 z0,
  p0.cell? ⟨w.heap.size, 0, none⟩ = some (.slice x0 y0 z0) ∧
  ∃ b1 d1 g1,
  p0.cell? ⟨w.heap.size, 1, none⟩ = some (.slice b1 d1 g1) ∧
  ∃ h1 i1 j1,
  p0.cell? ⟨w.heap.size, 2, none⟩ = some (.slice h1 i1 j1) ∧
  ∃ k1 p1 q1,
  p0.cell? ⟨w.heap.size, 3, none⟩ = some (.slice k1 p1 q1) ∧
  ∃ t1 u1 v1,
  p0.cell? ⟨w.heap.size, 4, none⟩ = some (.slice t1 u1 v1) ∧
  ∃ x1 y1 z1,
  p0.cell? ⟨w.heap.size, 5, none⟩ = some (.slice x1 y1 z1) ∧
  ∃ b2 d2 g2,
  p0.cell? ⟨w.heap.size, 6, none⟩ = some (.slice b2 d2 g2) ∧
  ∃ h2 i2 j2,
  p0.cell? ⟨w.heap.size, 7, none⟩ = some (.slice h2 i2 j2) ∧
  ∃ k2 p2 q2,
  p0.cell? ⟨w.heap.size, 8, none⟩ = some (.slice k2 p2 q2) ∧
  ∃ t2 u2 v2,
  p0.cell? ⟨w.heap.size, 9, none⟩ = some (.slice t2 u2 v2) ∧
  ∃ x2 y2 z2,
  p0.cell? ⟨w.heap.size, 10, none⟩ = some (.slice x2 y2 z2) ∧
  ∃ b3 d3 g3,
  p0.cell? ⟨w.heap.size, 9, none⟩ = some (.slice b3 d3 g3) ∧
  (0 : Int) ≤ k0 ∧ k0 < (d3 : Int) ∧
  needPtr b3 fun h3 i3 =>
  ∃ j3,
  p0.cell? ⟨h3, i3 + k0.toNat * 6, none⟩ = some (.bool j3) ∧
  ∃ k3,
  p0.cell? ⟨h3, i3 + k0.toNat * 6 + 1, none⟩ = some (.string k3) ∧
  ∃ p3,
  p0.cell? ⟨h3, i3 + k0.toNat * 6 + 1 + 1, none⟩ = some (.string p3) ∧
  ∃ q3 t3 u3,
  p0.cell? ⟨h3, i3 + k0.toNat * 6 + 1 + 1 + 1, none⟩ = some (.slice q3 t3 u3) ∧
  ∃ v3,
  p0.cell? ⟨h3, i3 + k0.toNat * 6 + 1 + 1 + 1 + 1, none⟩ = some (.int .i8 v3) ∧
  ∃ x3,
  p0.cell? ⟨h3, i3 + k0.toNat * 6 + 1 + 1 + 1 + 1 + 1, none⟩ = some (.float .f64 x3) ∧
  ∃ y3,
  p0.cell? ⟨b0.heap.size, 0, none⟩ = some (.string y3) ∧
  ∃ z3,
  p0.cell? ⟨b0.heap.size, 1, none⟩ = some (.string z3) ∧
  ∃ b4,
  p0.cell? ⟨b0.heap.size, 2, none⟩ = some (.string b4) ∧
  Calls Try.prog 85 #[.agg #[.slice x0 y0 z0, .slice b1 d1 g1, .slice h1 i1 j1, .slice k1 p1 q1, .slice t1 u1 v1, .slice x1 y1 z1, .slice b2 d2 g2, .slice h2 i2 j2, .slice k2 p2 q2, .slice t2 u2 v2, .slice x2 y2 z2], .agg #[.bool j3, .string k3, .string p3, .slice q3 t3 u3, .int .i8 v3, .float .f64 x3], .agg #[.string y3, .string z3, .string b4]] p0.drew fun d4 g4 =>
  ∃ h4,
  d4 = .returned (.bool h4) ∧
  sel h4 (
  ∃ i4 j4 k4,
  g4.cell? ⟨w.heap.size, 9, none⟩ = some (.slice i4 j4 k4) ∧
  (0 : Int) ≤ k0 ∧ k0 < (j4 : Int) ∧
  needPtr i4 fun p4 q4 =>
  ∃ t4,
  g4.cell? ⟨p4, q4 + k0.toNat * 6, none⟩ = some (.bool t4) ∧
  sel t4 (
  sel h4 (
  ∃ u4 v4 x4,
  g4.cell? ⟨w.heap.size, 9, none⟩ = some (.slice u4 v4 x4) ∧
  (0 : Int) ≤ k0 ∧ k0 < (v4 : Int) ∧
  needPtr u4 fun y4 z4 =>
  ∃ b5,
  g4.cell? ⟨y4, z4 + k0.toNat * 6, none⟩ = some (.bool b5) ∧
  sel (!b5) (
  let d5 : Int := IntKind.i64.wrap (k0 + 1);
  ([.pointer (some ⟨w.heap.size, 0, none⟩), .pointer (some ⟨b0.heap.size, 0, none⟩)] : List Value) = ([.pointer (some ⟨w.heap.size, 0, none⟩), .pointer (some ⟨b0.heap.size, 0, none⟩)] : List Value) ∧ ∃ m, m < q0 ∧ g0 true true d5 g4 m) (
  let g5 : Int := IntKind.i64.wrap (k0 + 1);
  ([.pointer (some ⟨w.heap.size, 0, none⟩), .pointer (some ⟨b0.heap.size, 0, none⟩)] : List Value) = ([.pointer (some ⟨w.heap.size, 0, none⟩), .pointer (some ⟨b0.heap.size, 0, none⟩)] : List Value) ∧ ∃ m, m < q0 ∧ g0 i0 true g5 g4 m)) (
  let h5 : Int := IntKind.i64.wrap (k0 + 1);
  ([.pointer (some ⟨w.heap.size, 0, none⟩), .pointer (some ⟨b0.heap.size, 0, none⟩)] : List Value) = ([.pointer (some ⟨w.heap.size, 0, none⟩), .pointer (some ⟨b0.heap.size, 0, none⟩)] : List Value) ∧ ∃ m, m < q0 ∧ g0 i0 true h5 g4 m)) (
  sel h4 (
  ∃ i5 j5 k5,
  g4.cell? ⟨w.heap.size, 9, none⟩ = some (.slice i5 j5 k5) ∧
  (0 : Int) ≤ k0 ∧ k0 < (j5 : Int) ∧
  needPtr i5 fun p5 q5 =>
  ∃ t5,
  g4.cell? ⟨p5, q5 + k0.toNat * 6, none⟩ = some (.bool t5) ∧
  sel (!t5) (
  let u5 : Int := IntKind.i64.wrap (k0 + 1);
  ([.pointer (some ⟨w.heap.size, 0, none⟩), .pointer (some ⟨b0.heap.size, 0, none⟩)] : List Value) = ([.pointer (some ⟨w.heap.size, 0, none⟩), .pointer (some ⟨b0.heap.size, 0, none⟩)] : List Value) ∧ ∃ m, m < q0 ∧ g0 true j0 u5 g4 m) (
  let v5 : Int := IntKind.i64.wrap (k0 + 1);
  ([.pointer (some ⟨w.heap.size, 0, none⟩), .pointer (some ⟨b0.heap.size, 0, none⟩)] : List Value) = ([.pointer (some ⟨w.heap.size, 0, none⟩), .pointer (some ⟨b0.heap.size, 0, none⟩)] : List Value) ∧ ∃ m, m < q0 ∧ g0 i0 j0 v5 g4 m)) (
  let x5 : Int := IntKind.i64.wrap (k0 + 1);
  ([.pointer (some ⟨w.heap.size, 0, none⟩), .pointer (some ⟨b0.heap.size, 0, none⟩)] : List Value) = ([.pointer (some ⟨w.heap.size, 0, none⟩), .pointer (some ⟨b0.heap.size, 0, none⟩)] : List Value) ∧ ∃ m, m < q0 ∧ g0 i0 j0 x5 g4 m))) (
  sel h4 (
  ∃ y5 z5 b6,
  g4.cell? ⟨w.heap.size, 9, none⟩ = some (.slice y5 z5 b6) ∧
  (0 : Int) ≤ k0 ∧ k0 < (z5 : Int) ∧
  needPtr y5 fun d6 g6 =>
  ∃ h6,
  g4.cell? ⟨d6, g6 + k0.toNat * 6, none⟩ = some (.bool h6) ∧
  sel (!h6) (
  let i6 : Int := IntKind.i64.wrap (k0 + 1);
  ([.pointer (some ⟨w.heap.size, 0, none⟩), .pointer (some ⟨b0.heap.size, 0, none⟩)] : List Value) = ([.pointer (some ⟨w.heap.size, 0, none⟩), .pointer (some ⟨b0.heap.size, 0, none⟩)] : List Value) ∧ ∃ m, m < q0 ∧ g0 true j0 i6 g4 m) (
  let j6 : Int := IntKind.i64.wrap (k0 + 1);
  ([.pointer (some ⟨w.heap.size, 0, none⟩), .pointer (some ⟨b0.heap.size, 0, none⟩)] : List Value) = ([.pointer (some ⟨w.heap.size, 0, none⟩), .pointer (some ⟨b0.heap.size, 0, none⟩)] : List Value) ∧ ∃ m, m < q0 ∧ g0 i0 j0 j6 g4 m)) (
  let k6 : Int := IntKind.i64.wrap (k0 + 1);
  ([.pointer (some ⟨w.heap.size, 0, none⟩), .pointer (some ⟨b0.heap.size, 0, none⟩)] : List Value) = ([.pointer (some ⟨w.heap.size, 0, none⟩), .pointer (some ⟨b0.heap.size, 0, none⟩)] : List Value) ∧ ∃ m, m < q0 ∧ g0 i0 j0 k6 g4 m))) (
  ∃ p6 q6 t6,
  p0.cell? ⟨w.heap.size, 0, none⟩ = some (.slice p6 q6 t6) ∧
  ∃ u6 v6 x6,
  p0.cell? ⟨w.heap.size, 1, none⟩ = some (.slice u6 v6 x6) ∧
  ∃ y6 z6 b7,
  p0.cell? ⟨w.heap.size, 2, none⟩ = some (.slice y6 z6 b7) ∧
  ∃ d7 g7 h7,
  p0.cell? ⟨w.heap.size, 3, none⟩ = some (.slice d7 g7 h7) ∧
  ∃ i7 j7 k7,
  p0.cell? ⟨w.heap.size, 4, none⟩ = some (.slice i7 j7 k7) ∧
  ∃ p7 q7 t7,
  p0.cell? ⟨w.heap.size, 5, none⟩ = some (.slice p7 q7 t7) ∧
  ∃ u7 v7 x7,
  p0.cell? ⟨w.heap.size, 6, none⟩ = some (.slice u7 v7 x7) ∧
  ∃ y7 z7 b8,
  p0.cell? ⟨w.heap.size, 7, none⟩ = some (.slice y7 z7 b8) ∧
  ∃ d8 g8 h8,
  p0.cell? ⟨w.heap.size, 8, none⟩ = some (.slice d8 g8 h8) ∧
  ∃ i8 j8 k8,
  p0.cell? ⟨w.heap.size, 9, none⟩ = some (.slice i8 j8 k8) ∧
  ∃ p8 q8 t8,
  p0.cell? ⟨w.heap.size, 10, none⟩ = some (.slice p8 q8 t8) ∧
  ∃ u8,
  p0.cell? ⟨b0.heap.size, 0, none⟩ = some (.string u8) ∧
  ∃ v8,
  p0.cell? ⟨b0.heap.size, 1, none⟩ = some (.string v8) ∧
  ∃ x8,
  p0.cell? ⟨b0.heap.size, 2, none⟩ = some (.string x8) ∧
  Calls Try.prog 86 #[.agg #[.slice p6 q6 t6, .slice u6 v6 x6, .slice y6 z6 b7, .slice d7 g7 h7, .slice i7 j7 k7, .slice p7 q7 t7, .slice u7 v7 x7, .slice y7 z7 b8, .slice d8 g8 h8, .slice i8 j8 k8, .slice p8 q8 t8], .agg #[.string u8, .string v8, .string x8]] p0 fun y8 z8 =>
  ∃ b9,
  y8 = .returned (.bool b9) ∧
  sel i0 (
  sel (!j0) (
  R (.bool (!b9)) z8) (
  R (.bool false) z8)) (
  R (.bool false) z8))
theorem f55.eq (Aa0_0 : Option Addr) (na0_0 ca0_0 : Nat) (Aa0_1 : Option Addr) (na0_1 ca0_1 : Nat) (Aa0_2 : Option Addr) (na0_2 ca0_2 : Nat) (Aa0_3 : Option Addr) (na0_3 ca0_3 : Nat) (Aa0_4 : Option Addr) (na0_4 ca0_4 : Nat) (Aa0_5 : Option Addr) (na0_5 ca0_5 : Nat) (Aa0_6 : Option Addr) (na0_6 ca0_6 : Nat) (Aa0_7 : Option Addr) (na0_7 ca0_7 : Nat) (Aa0_8 : Option Addr) (na0_8 ca0_8 : Nat) (Aa0_9 : Option Addr) (na0_9 ca0_9 : Nat) (Aa0_10 : Option Addr) (na0_10 ca0_10 : Nat) (sa1_0 : ByteArray) (sa1_1 : ByteArray) (sa1_2 : ByteArray) (w : World) (R : Value → World → Prop) : f55.VC Aa0_0 na0_0 ca0_0 Aa0_1 na0_1 ca0_1 Aa0_2 na0_2 ca0_2 Aa0_3 na0_3 ca0_3 Aa0_4 na0_4 ca0_4 Aa0_5 na0_5 ca0_5 Aa0_6 na0_6 ca0_6 Aa0_7 na0_7 ca0_7 Aa0_8 na0_8 ca0_8 Aa0_9 na0_9 ca0_9 Aa0_10 na0_10 ca0_10 sa1_0 sa1_1 sa1_2 w R = funV Try.prog Try.f55 f55.AL f55.AC #[.agg #[.slice Aa0_0 na0_0 ca0_0, .slice Aa0_1 na0_1 ca0_1, .slice Aa0_2 na0_2 ca0_2, .slice Aa0_3 na0_3 ca0_3, .slice Aa0_4 na0_4 ca0_4, .slice Aa0_5 na0_5 ca0_5, .slice Aa0_6 na0_6 ca0_6, .slice Aa0_7 na0_7 ca0_7, .slice Aa0_8 na0_8 ca0_8, .slice Aa0_9 na0_9 ca0_9, .slice Aa0_10 na0_10 ca0_10], .agg #[.string sa1_0, .string sa1_1, .string sa1_2]] w R := by kernel_rfl
theorem f55.calls {Aa0_0 : Option Addr} {na0_0 ca0_0 : Nat} {Aa0_1 : Option Addr} {na0_1 ca0_1 : Nat} {Aa0_2 : Option Addr} {na0_2 ca0_2 : Nat} {Aa0_3 : Option Addr} {na0_3 ca0_3 : Nat} {Aa0_4 : Option Addr} {na0_4 ca0_4 : Nat} {Aa0_5 : Option Addr} {na0_5 ca0_5 : Nat} {Aa0_6 : Option Addr} {na0_6 ca0_6 : Nat} {Aa0_7 : Option Addr} {na0_7 ca0_7 : Nat} {Aa0_8 : Option Addr} {na0_8 ca0_8 : Nat} {Aa0_9 : Option Addr} {na0_9 ca0_9 : Nat} {Aa0_10 : Option Addr} {na0_10 ca0_10 : Nat} {sa1_0 : ByteArray} {sa1_1 : ByteArray} {sa1_2 : ByteArray} {w : World} {R : Value → World → Prop} (h : f55.VC Aa0_0 na0_0 ca0_0 Aa0_1 na0_1 ca0_1 Aa0_2 na0_2 ca0_2 Aa0_3 na0_3 ca0_3 Aa0_4 na0_4 ca0_4 Aa0_5 na0_5 ca0_5 Aa0_6 na0_6 ca0_6 Aa0_7 na0_7 ca0_7 Aa0_8 na0_8 ca0_8 Aa0_9 na0_9 ca0_9 Aa0_10 na0_10 ca0_10 sa1_0 sa1_1 sa1_2 w R) : Calls Try.prog 55 #[.agg #[.slice Aa0_0 na0_0 ca0_0, .slice Aa0_1 na0_1 ca0_1, .slice Aa0_2 na0_2 ca0_2, .slice Aa0_3 na0_3 ca0_3, .slice Aa0_4 na0_4 ca0_4, .slice Aa0_5 na0_5 ca0_5, .slice Aa0_6 na0_6 ca0_6, .slice Aa0_7 na0_7 ca0_7, .slice Aa0_8 na0_8 ca0_8, .slice Aa0_9 na0_9 ca0_9, .slice Aa0_10 na0_10 ca0_10], .agg #[.string sa1_0, .string sa1_1, .string sa1_2]] w fun e w' => ∃ v, e = .returned v ∧ R v w' :=
  funV_sound (fn := Try.f55) (AL := f55.AL) (AC := f55.AC) W1.mixed (by kernel_rfl) (by rw [← f55.eq Aa0_0 na0_0 ca0_0 Aa0_1 na0_1 ca0_1 Aa0_2 na0_2 ca0_2 Aa0_3 na0_3 ca0_3 Aa0_4 na0_4 ca0_4 Aa0_5 na0_5 ca0_5 Aa0_6 na0_6 ca0_6 Aa0_7 na0_7 ca0_7 Aa0_8 na0_8 ca0_8 Aa0_9 na0_9 ca0_9 Aa0_10 na0_10 ca0_10 sa1_0 sa1_1 sa1_2]; exact h)

/-- slices.Contains[[]string,string] -/
def f41.AL : Nat → Option Ann := fun _ => none
def f41.AC : Nat → Option Ann := fun _ => none
def f41.VC (Aa0 : Option Addr) (na0 ca0 : Nat) (sa1 : ByteArray) (w : World) (R : Value → World → Prop) : Prop :=
  Calls Try.prog 66 #[.slice Aa0 na0 ca0, .string sa1] w fun b0 d0 =>
  ∃ g0,
  b0 = .returned (.int .i64 g0) ∧
  R (.bool (decide ((0 : Int) ≤ (g0 : Int)))) d0
theorem f41.eq (Aa0 : Option Addr) (na0 ca0 : Nat) (sa1 : ByteArray) (w : World) (R : Value → World → Prop) : f41.VC Aa0 na0 ca0 sa1 w R = funV Try.prog Try.f41 f41.AL f41.AC #[.slice Aa0 na0 ca0, .string sa1] w R := by kernel_rfl
theorem f41.calls {Aa0 : Option Addr} {na0 ca0 : Nat} {sa1 : ByteArray} {w : World} {R : Value → World → Prop} (h : f41.VC Aa0 na0 ca0 sa1 w R) : Calls Try.prog 41 #[.slice Aa0 na0 ca0, .string sa1] w fun e w' => ∃ v, e = .returned v ∧ R v w' :=
  funV_sound (fn := Try.f41) (AL := f41.AL) (AC := f41.AC) W1.mixed (by kernel_rfl) (by rw [← f41.eq Aa0 na0 ca0 sa1]; exact h)

/-- slices.Index[[]string,string] -/
def f66.AL : Nat → Option Ann := fun r => match r with | 2 => some ⟨[(8, .int .i64)], [0, 1, 7]⟩ | _ => none
def f66.AC : Nat → Option Ann := fun _ => none
def f66.VC (Aa0 : Option Addr) (na0 ca0 : Nat) (sa1 : ByteArray) (w : World) (R : Value → World → Prop) : Prop :=
  ∃ b0 : Int → World → Nat → Prop,
  (∃ n, b0 0 w n) ∧
  ∀ d0 : Env, ∀ g0 h0 i0, b0 g0 h0 i0 →
  sel (decide ((g0 : Int) < ((na0 : Int) : Int))) (
  (0 : Int) ≤ g0 ∧ g0 < (na0 : Int) ∧
  needPtr Aa0 fun j0 k0 =>
  ∃ p0,
  h0.cell? ⟨j0, k0 + g0.toNat * 1, none⟩ = some (.string p0) ∧
  sel (decide (sa1 = p0)) (
  R (.int .i64 g0) h0) (
  let q0 : Int := IntKind.i64.wrap (g0 + 1);
  ([.slice Aa0 na0 ca0, .string sa1, .int .i64 (na0 : Int)] : List Value) = ([.slice Aa0 na0 ca0, .string sa1, .int .i64 (na0 : Int)] : List Value) ∧ ∃ m, m < i0 ∧ b0 q0 h0 m)) (
  R (.int .i64 (-1)) h0)
theorem f66.eq (Aa0 : Option Addr) (na0 ca0 : Nat) (sa1 : ByteArray) (w : World) (R : Value → World → Prop) : f66.VC Aa0 na0 ca0 sa1 w R = funV Try.prog Try.f66 f66.AL f66.AC #[.slice Aa0 na0 ca0, .string sa1] w R := by kernel_rfl
theorem f66.calls {Aa0 : Option Addr} {na0 ca0 : Nat} {sa1 : ByteArray} {w : World} {R : Value → World → Prop} (h : f66.VC Aa0 na0 ca0 sa1 w R) : Calls Try.prog 66 #[.slice Aa0 na0 ca0, .string sa1] w fun e w' => ∃ v, e = .returned v ∧ R v w' :=
  funV_sound (fn := Try.f66) (AL := f66.AL) (AC := f66.AC) W1.mixed (by kernel_rfl) (by rw [← f66.eq Aa0 na0 ca0 sa1]; exact h)

/-- slices.Contains[[]gatehouse/api.Triple,gatehouse/api.Triple] -/
def f68.AL : Nat → Option Ann := fun _ => none
def f68.AC : Nat → Option Ann := fun _ => none
def f68.VC (Aa0 : Option Addr) (na0 ca0 : Nat) (sa1_0 : ByteArray) (sa1_1 : ByteArray) (sa1_2 : ByteArray) (w : World) (R : Value → World → Prop) : Prop :=
  let b0 := World.alloc w (.cells #[.string sa1_0, .string sa1_1, .string sa1_2] 37);
  ∃ d0,
  b0.cell? ⟨w.heap.size, 0, none⟩ = some (.string d0) ∧
  ∃ g0,
  b0.cell? ⟨w.heap.size, 1, none⟩ = some (.string g0) ∧
  ∃ h0,
  b0.cell? ⟨w.heap.size, 2, none⟩ = some (.string h0) ∧
  Calls Try.prog 90 #[.slice Aa0 na0 ca0, .agg #[.string d0, .string g0, .string h0]] b0 fun i0 j0 =>
  ∃ k0,
  i0 = .returned (.int .i64 k0) ∧
  R (.bool (decide ((0 : Int) ≤ (k0 : Int)))) j0
theorem f68.eq (Aa0 : Option Addr) (na0 ca0 : Nat) (sa1_0 : ByteArray) (sa1_1 : ByteArray) (sa1_2 : ByteArray) (w : World) (R : Value → World → Prop) : f68.VC Aa0 na0 ca0 sa1_0 sa1_1 sa1_2 w R = funV Try.prog Try.f68 f68.AL f68.AC #[.slice Aa0 na0 ca0, .agg #[.string sa1_0, .string sa1_1, .string sa1_2]] w R := by kernel_rfl
theorem f68.calls {Aa0 : Option Addr} {na0 ca0 : Nat} {sa1_0 : ByteArray} {sa1_1 : ByteArray} {sa1_2 : ByteArray} {w : World} {R : Value → World → Prop} (h : f68.VC Aa0 na0 ca0 sa1_0 sa1_1 sa1_2 w R) : Calls Try.prog 68 #[.slice Aa0 na0 ca0, .agg #[.string sa1_0, .string sa1_1, .string sa1_2]] w fun e w' => ∃ v, e = .returned v ∧ R v w' :=
  funV_sound (fn := Try.f68) (AL := f68.AL) (AC := f68.AC) W1.mixed (by kernel_rfl) (by rw [← f68.eq Aa0 na0 ca0 sa1_0 sa1_1 sa1_2]; exact h)

/-- slices.Index[[]gatehouse/api.Triple,gatehouse/api.Triple] -/
def f90.AL : Nat → Option Ann := fun r => match r with | 2 => some ⟨[(8, .int .i64)], [0, 3, 7]⟩ | _ => none
def f90.AC : Nat → Option Ann := fun _ => none
def f90.VC (Aa0 : Option Addr) (na0 ca0 : Nat) (sa1_0 : ByteArray) (sa1_1 : ByteArray) (sa1_2 : ByteArray) (w : World) (R : Value → World → Prop) : Prop :=
  let b0 := World.alloc w (.cells #[.string sa1_0, .string sa1_1, .string sa1_2] 37);
  ∃ d0 : Int → World → Nat → Prop,
  (∃ n, d0 0 b0 n) ∧
  ∀ g0 : Env, ∀ h0 i0 j0, d0 h0 i0 j0 →
  sel (decide ((h0 : Int) < ((na0 : Int) : Int))) (
  (0 : Int) ≤ h0 ∧ h0 < (na0 : Int) ∧
  needPtr Aa0 fun k0 p0 =>
  ∃ q0,
  i0.cell? ⟨w.heap.size, 0, none⟩ = some (.string q0) ∧
  ∃ t0,
  i0.cell? ⟨w.heap.size, 1, none⟩ = some (.string t0) ∧
  ∃ u0,
  i0.cell? ⟨w.heap.size, 2, none⟩ = some (.string u0) ∧
  ∃ v0,
  i0.cell? ⟨k0, p0 + h0.toNat * 3, none⟩ = some (.string v0) ∧
  ∃ x0,
  i0.cell? ⟨k0, p0 + h0.toNat * 3 + 1, none⟩ = some (.string x0) ∧
  ∃ y0,
  i0.cell? ⟨k0, p0 + h0.toNat * 3 + 1 + 1, none⟩ = some (.string y0) ∧
  ∃ z0 : Bool, (∀ w', (do eqGuard .eql 37 (.tmp 11) (.tmp 15) (.agg #[.string q0, .string t0, .string u0]) (.agg #[.string v0, .string x0, .string y0]); binOp .eql 37 (.agg #[.string q0, .string t0, .string u0]) (.agg #[.string v0, .string x0, .string y0]) : Sem Value).run Try.prog w' = .ok (.bool z0) w') ∧
  sel z0 (
  R (.int .i64 h0) i0.drew) (
  let b1 : Int := IntKind.i64.wrap (h0 + 1);
  ([.slice Aa0 na0 ca0, .pointer (some ⟨w.heap.size, 0, none⟩), .int .i64 (na0 : Int)] : List Value) = ([.slice Aa0 na0 ca0, .pointer (some ⟨w.heap.size, 0, none⟩), .int .i64 (na0 : Int)] : List Value) ∧ ∃ m, m < j0 ∧ d0 b1 i0.drew m)) (
  R (.int .i64 (-1)) i0)
theorem f90.eq (Aa0 : Option Addr) (na0 ca0 : Nat) (sa1_0 : ByteArray) (sa1_1 : ByteArray) (sa1_2 : ByteArray) (w : World) (R : Value → World → Prop) : f90.VC Aa0 na0 ca0 sa1_0 sa1_1 sa1_2 w R = funV Try.prog Try.f90 f90.AL f90.AC #[.slice Aa0 na0 ca0, .agg #[.string sa1_0, .string sa1_1, .string sa1_2]] w R := by kernel_rfl
theorem f90.calls {Aa0 : Option Addr} {na0 ca0 : Nat} {sa1_0 : ByteArray} {sa1_1 : ByteArray} {sa1_2 : ByteArray} {w : World} {R : Value → World → Prop} (h : f90.VC Aa0 na0 ca0 sa1_0 sa1_1 sa1_2 w R) : Calls Try.prog 90 #[.slice Aa0 na0 ca0, .agg #[.string sa1_0, .string sa1_1, .string sa1_2]] w fun e w' => ∃ v, e = .returned v ∧ R v w' :=
  funV_sound (fn := Try.f90) (AL := f90.AL) (AC := f90.AC) W1.mixed (by kernel_rfl) (by rw [← f90.eq Aa0 na0 ca0 sa1_0 sa1_1 sa1_2]; exact h)

/-- gatehouse/mean.Passes -/
def f92.AL : Nat → Option Ann := fun _ => none
def f92.AC : Nat → Option Ann := fun _ => none
def f92.VC (ba0_0 : Bool) (sa0_1 : ByteArray) (sa0_2 : ByteArray) (Aa0_3 : Option Addr) (na0_3 ca0_3 : Nat) (xa0_4 : Int) (fa0_5 : Nat) (fa1 : Nat) (w : World) (R : Value → World → Prop) : Prop :=
  let b0 := World.alloc w (.cells #[.bool ba0_0, .string sa0_1, .string sa0_2, .slice Aa0_3 na0_3 ca0_3, .int .i8 xa0_4, .float .f64 fa0_5] 88);
  ∃ d0,
  b0.cell? ⟨w.heap.size, 4, none⟩ = some (.int .i8 d0) ∧
  sel ((d0 : Int) == (0 : Int)) (
  R (.bool true) b0) (
  sel ((d0 : Int) == (1 : Int)) (
  ∃ g0,
  b0.cell? ⟨w.heap.size, 5, none⟩ = some (.float .f64 g0) ∧
  ∃ h0 : Bool, (∀ w', (binOp .geq 86 (.float .f64 fa1) (.float .f64 g0) : Sem Value).run Try.prog w' = .ok (.bool h0) w') ∧
  R (.bool h0) b0) (
  sel ((d0 : Int) == (2 : Int)) (
  ∃ i0,
  b0.cell? ⟨w.heap.size, 5, none⟩ = some (.float .f64 i0) ∧
  ∃ j0 : Bool, (∀ w', (binOp .lss 86 (.float .f64 fa1) (.float .f64 i0) : Sem Value).run Try.prog w' = .ok (.bool j0) w') ∧
  R (.bool j0) b0) (
  R (.bool false) b0)))
theorem f92.eq (ba0_0 : Bool) (sa0_1 : ByteArray) (sa0_2 : ByteArray) (Aa0_3 : Option Addr) (na0_3 ca0_3 : Nat) (xa0_4 : Int) (fa0_5 : Nat) (fa1 : Nat) (w : World) (R : Value → World → Prop) : f92.VC ba0_0 sa0_1 sa0_2 Aa0_3 na0_3 ca0_3 xa0_4 fa0_5 fa1 w R = funV Try.prog Try.f92 f92.AL f92.AC #[.agg #[.bool ba0_0, .string sa0_1, .string sa0_2, .slice Aa0_3 na0_3 ca0_3, .int .i8 xa0_4, .float .f64 fa0_5], .float .f64 fa1] w R := by kernel_rfl
theorem f92.calls {ba0_0 : Bool} {sa0_1 : ByteArray} {sa0_2 : ByteArray} {Aa0_3 : Option Addr} {na0_3 ca0_3 : Nat} {xa0_4 : Int} {fa0_5 : Nat} {fa1 : Nat} {w : World} {R : Value → World → Prop} (h : f92.VC ba0_0 sa0_1 sa0_2 Aa0_3 na0_3 ca0_3 xa0_4 fa0_5 fa1 w R) : Calls Try.prog 92 #[.agg #[.bool ba0_0, .string sa0_1, .string sa0_2, .slice Aa0_3 na0_3 ca0_3, .int .i8 xa0_4, .float .f64 fa0_5], .float .f64 fa1] w fun e w' => ∃ v, e = .returned v ∧ R v w' :=
  funV_sound (fn := Try.f92) (AL := f92.AL) (AC := f92.AC) W1.mixed (by kernel_rfl) (by rw [← f92.eq ba0_0 sa0_1 sa0_2 Aa0_3 na0_3 ca0_3 xa0_4 fa0_5 fa1]; exact h)

/-- (gatehouse/mean.side).has -/
def f91.AL : Nat → Option Ann := fun _ => none
def f91.AC : Nat → Option Ann := fun _ => none
def f91.VC (sa0_0 : ByteArray) (fa0_1 : Nat) (ma0_2 : Option Nat) (sa1 : ByteArray) (w : World) (R : Value → World → Prop) : Prop :=
  let b0 := World.alloc w (.cells #[.string sa0_0, .float .f64 fa0_1, .map ma0_2] 103);
  ∃ d0,
  b0.cell? ⟨w.heap.size, 2, none⟩ = some (.map d0) ∧
  ∃ g0,
  ∃ h0, (Instr.lookup 101 (.map d0) (.string sa1) true).run Try.prog b0 = .ok (.tuple #[.agg #[], .bool g0]) h0 ∧
  let i0 := World.alloc h0 (.cells #[] 150);
  canStore i0 h0.heap.size 0 0 ∧
  let j0 := setCs i0 h0.heap.size 0 [];
  R (.bool g0) j0
theorem f91.eq (sa0_0 : ByteArray) (fa0_1 : Nat) (ma0_2 : Option Nat) (sa1 : ByteArray) (w : World) (R : Value → World → Prop) : f91.VC sa0_0 fa0_1 ma0_2 sa1 w R = funV Try.prog Try.f91 f91.AL f91.AC #[.agg #[.string sa0_0, .float .f64 fa0_1, .map ma0_2], .string sa1] w R := by kernel_rfl
theorem f91.calls {sa0_0 : ByteArray} {fa0_1 : Nat} {ma0_2 : Option Nat} {sa1 : ByteArray} {w : World} {R : Value → World → Prop} (h : f91.VC sa0_0 fa0_1 ma0_2 sa1 w R) : Calls Try.prog 91 #[.agg #[.string sa0_0, .float .f64 fa0_1, .map ma0_2], .string sa1] w fun e w' => ∃ v, e = .returned v ∧ R v w' :=
  funV_sound (fn := Try.f91) (AL := f91.AL) (AC := f91.AC) W1.mixed (by kernel_rfl) (by rw [← f91.eq sa0_0 fa0_1 ma0_2 sa1]; exact h)

/-- gatehouse/mean.names -/
def f67.AL : Nat → Option Ann := fun _ => none
def f67.AC : Nat → Option Ann := fun _ => none
def f67.VC (ba0_0 : Bool) (sa0_1 : ByteArray) (sa0_2 : ByteArray) (Aa0_3 : Option Addr) (na0_3 ca0_3 : Nat) (xa0_4 : Int) (fa0_5 : Nat) (sa1 : ByteArray) (w : World) (R : Value → World → Prop) : Prop :=
  let b0 := World.alloc w (.cells #[.bool ba0_0, .string sa0_1, .string sa0_2, .slice Aa0_3 na0_3 ca0_3, .int .i8 xa0_4, .float .f64 fa0_5] 88);
  ∃ d0 g0 h0,
  b0.cell? ⟨w.heap.size, 3, none⟩ = some (.slice d0 g0 h0) ∧
  sel (((g0 : Int) : Int) == (0 : Int)) (
  R (.bool true) b0) (
  ∃ i0 j0 k0,
  b0.cell? ⟨w.heap.size, 3, none⟩ = some (.slice i0 j0 k0) ∧
  Calls Try.prog 41 #[.slice i0 j0 k0, .string sa1] b0 fun p0 q0 =>
  ∃ t0,
  p0 = .returned (.bool t0) ∧
  R (.bool t0) q0)
theorem f67.eq (ba0_0 : Bool) (sa0_1 : ByteArray) (sa0_2 : ByteArray) (Aa0_3 : Option Addr) (na0_3 ca0_3 : Nat) (xa0_4 : Int) (fa0_5 : Nat) (sa1 : ByteArray) (w : World) (R : Value → World → Prop) : f67.VC ba0_0 sa0_1 sa0_2 Aa0_3 na0_3 ca0_3 xa0_4 fa0_5 sa1 w R = funV Try.prog Try.f67 f67.AL f67.AC #[.agg #[.bool ba0_0, .string sa0_1, .string sa0_2, .slice Aa0_3 na0_3 ca0_3, .int .i8 xa0_4, .float .f64 fa0_5], .string sa1] w R := by kernel_rfl
theorem f67.calls {ba0_0 : Bool} {sa0_1 : ByteArray} {sa0_2 : ByteArray} {Aa0_3 : Option Addr} {na0_3 ca0_3 : Nat} {xa0_4 : Int} {fa0_5 : Nat} {sa1 : ByteArray} {w : World} {R : Value → World → Prop} (h : f67.VC ba0_0 sa0_1 sa0_2 Aa0_3 na0_3 ca0_3 xa0_4 fa0_5 sa1 w R) : Calls Try.prog 67 #[.agg #[.bool ba0_0, .string sa0_1, .string sa0_2, .slice Aa0_3 na0_3 ca0_3, .int .i8 xa0_4, .float .f64 fa0_5], .string sa1] w fun e w' => ∃ v, e = .returned v ∧ R v w' :=
  funV_sound (fn := Try.f67) (AL := f67.AL) (AC := f67.AC) W1.mixed (by kernel_rfl) (by rw [← f67.eq ba0_0 sa0_1 sa0_2 Aa0_3 na0_3 ca0_3 xa0_4 fa0_5 sa1]; exact h)

/-- gatehouse/mean.speaks -/
def f69.AL : Nat → Option Ann := fun _ => none
def f69.AC : Nat → Option Ann := fun _ => none
def f69.VC (ba0_0 : Bool) (sa0_1 : ByteArray) (sa0_2 : ByteArray) (Aa0_3 : Option Addr) (na0_3 ca0_3 : Nat) (xa0_4 : Int) (fa0_5 : Nat) (sa1_0 : ByteArray) (fa1_1 : Nat) (ma1_2 : Option Nat) (sa2_0 : ByteArray) (fa2_1 : Nat) (ma2_2 : Option Nat) (w : World) (R : Value → World → Prop) : Prop :=
  let b0 := World.alloc w (.cells #[.bool ba0_0, .string sa0_1, .string sa0_2, .slice Aa0_3 na0_3 ca0_3, .int .i8 xa0_4, .float .f64 fa0_5] 88);
  let d0 := World.alloc b0 (.cells #[.string sa1_0, .float .f64 fa1_1, .map ma1_2] 103);
  let g0 := World.alloc d0 (.cells #[.string sa2_0, .float .f64 fa2_1, .map ma2_2] 103);
  ∃ h0,
  g0.cell? ⟨b0.heap.size, 0, none⟩ = some (.string h0) ∧
  ∃ i0,
  g0.cell? ⟨b0.heap.size, 1, none⟩ = some (.float .f64 i0) ∧
  ∃ j0,
  g0.cell? ⟨b0.heap.size, 2, none⟩ = some (.map j0) ∧
  ∃ k0,
  g0.cell? ⟨w.heap.size, 1, none⟩ = some (.string k0) ∧
  Calls Try.prog 91 #[.agg #[.string h0, .float .f64 i0, .map j0], .string k0] g0 fun p0 q0 =>
  ∃ t0,
  p0 = .returned (.bool t0) ∧
  sel t0 (
  ∃ u0,
  q0.cell? ⟨d0.heap.size, 0, none⟩ = some (.string u0) ∧
  ∃ v0,
  q0.cell? ⟨d0.heap.size, 1, none⟩ = some (.float .f64 v0) ∧
  ∃ x0,
  q0.cell? ⟨d0.heap.size, 2, none⟩ = some (.map x0) ∧
  ∃ y0,
  q0.cell? ⟨w.heap.size, 2, none⟩ = some (.string y0) ∧
  Calls Try.prog 91 #[.agg #[.string u0, .float .f64 v0, .map x0], .string y0] q0 fun z0 b1 =>
  ∃ d1,
  z0 = .returned (.bool d1) ∧
  sel d1 (
  ∃ g1,
  b1.cell? ⟨w.heap.size, 0, none⟩ = some (.bool g1) ∧
  ∃ h1,
  b1.cell? ⟨w.heap.size, 1, none⟩ = some (.string h1) ∧
  ∃ i1,
  b1.cell? ⟨w.heap.size, 2, none⟩ = some (.string i1) ∧
  ∃ j1 k1 p1,
  b1.cell? ⟨w.heap.size, 3, none⟩ = some (.slice j1 k1 p1) ∧
  ∃ q1,
  b1.cell? ⟨w.heap.size, 4, none⟩ = some (.int .i8 q1) ∧
  ∃ t1,
  b1.cell? ⟨w.heap.size, 5, none⟩ = some (.float .f64 t1) ∧
  ∃ u1,
  b1.cell? ⟨b0.heap.size, 1, none⟩ = some (.float .f64 u1) ∧
  Calls Try.prog 92 #[.agg #[.bool g1, .string h1, .string i1, .slice j1 k1 p1, .int .i8 q1, .float .f64 t1], .float .f64 u1] b1 fun v1 x1 =>
  ∃ y1,
  v1 = .returned (.bool y1) ∧
  R (.bool y1) x1) (
  R (.bool false) b1)) (
  R (.bool false) q0)
theorem f69.eq (ba0_0 : Bool) (sa0_1 : ByteArray) (sa0_2 : ByteArray) (Aa0_3 : Option Addr) (na0_3 ca0_3 : Nat) (xa0_4 : Int) (fa0_5 : Nat) (sa1_0 : ByteArray) (fa1_1 : Nat) (ma1_2 : Option Nat) (sa2_0 : ByteArray) (fa2_1 : Nat) (ma2_2 : Option Nat) (w : World) (R : Value → World → Prop) : f69.VC ba0_0 sa0_1 sa0_2 Aa0_3 na0_3 ca0_3 xa0_4 fa0_5 sa1_0 fa1_1 ma1_2 sa2_0 fa2_1 ma2_2 w R = funV Try.prog Try.f69 f69.AL f69.AC #[.agg #[.bool ba0_0, .string sa0_1, .string sa0_2, .slice Aa0_3 na0_3 ca0_3, .int .i8 xa0_4, .float .f64 fa0_5], .agg #[.string sa1_0, .float .f64 fa1_1, .map ma1_2], .agg #[.string sa2_0, .float .f64 fa2_1, .map ma2_2]] w R := by kernel_rfl
theorem f69.calls {ba0_0 : Bool} {sa0_1 : ByteArray} {sa0_2 : ByteArray} {Aa0_3 : Option Addr} {na0_3 ca0_3 : Nat} {xa0_4 : Int} {fa0_5 : Nat} {sa1_0 : ByteArray} {fa1_1 : Nat} {ma1_2 : Option Nat} {sa2_0 : ByteArray} {fa2_1 : Nat} {ma2_2 : Option Nat} {w : World} {R : Value → World → Prop} (h : f69.VC ba0_0 sa0_1 sa0_2 Aa0_3 na0_3 ca0_3 xa0_4 fa0_5 sa1_0 fa1_1 ma1_2 sa2_0 fa2_1 ma2_2 w R) : Calls Try.prog 69 #[.agg #[.bool ba0_0, .string sa0_1, .string sa0_2, .slice Aa0_3 na0_3 ca0_3, .int .i8 xa0_4, .float .f64 fa0_5], .agg #[.string sa1_0, .float .f64 fa1_1, .map ma1_2], .agg #[.string sa2_0, .float .f64 fa2_1, .map ma2_2]] w fun e w' => ∃ v, e = .returned v ∧ R v w' :=
  funV_sound (fn := Try.f69) (AL := f69.AL) (AC := f69.AC) W1.mixed (by kernel_rfl) (by rw [← f69.eq ba0_0 sa0_1 sa0_2 Aa0_3 na0_3 ca0_3 xa0_4 fa0_5 sa1_0 fa1_1 ma1_2 sa2_0 fa2_1 ma2_2]; exact h)

end Go.Proofs.Ytddbebhklmaeoaa
