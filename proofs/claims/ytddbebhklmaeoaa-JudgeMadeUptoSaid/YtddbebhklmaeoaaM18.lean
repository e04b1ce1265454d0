/- The plain statements of some functions, printed by vcgen.py. -/
import Derived.Test.YtddbebhklmaeoaaM5
import Derived.Test.YtddbebhklmaeoaaProg
import Derived.KernelRfl
set_option maxRecDepth 100000
set_option maxHeartbeats 4000000
set_option linter.unusedVariables false
namespace Go.Proofs.Ytddbebhklmaeoaa
open Go Go.Proofs.Ytddbebhklmaeoaa.Vc
theorem W4.mixed : Try.prog.follows .mixedOrders = true := by kernel_rfl
/-- gatehouse/judge.history -/
def f35.AL : Nat → Option Ann := fun r => match r with | 2 => some ⟨[(7, .int .i64)], [5, 6]⟩ | _ => none
def f35.AC : Nat → Option Ann := fun _ => none
def f35.VC (Aa0 : Option Addr) (na0 ca0 : Nat) (w : World) (R : Value → World → Prop) : Prop :=
  ∃ b0 : Int → World → Nat → Prop,
  (∃ n, b0 0 w n) ∧
  ∀ d0 : Env, ∀ g0 h0 i0, b0 g0 h0 i0 →
  sel (decide ((g0 : Int) < ((na0 : Int) : Int))) (
  (0 : Int) ≤ g0 ∧ g0 < (na0 : Int) ∧
  needPtr Aa0 fun j0 k0 =>
  ∃ p0,
  h0.cell? ⟨j0, k0 + g0.toNat * 19, none⟩ = some (.int .i64 p0) ∧
  ∃ q0,
  h0.cell? ⟨j0, k0 + g0.toNat * 19 + 1, none⟩ = some (.int .i64 q0) ∧
  ∃ t0,
  h0.cell? ⟨j0, k0 + g0.toNat * 19 + 1 + 1, none⟩ = some (.bool t0) ∧
  ∃ u0,
  h0.cell? ⟨j0, k0 + g0.toNat * 19 + 1 + 1 + 1, none⟩ = some (.bool u0) ∧
  ∃ v0,
  h0.cell? ⟨j0, k0 + g0.toNat * 19 + 1 + 1 + 1 + 1, none⟩ = some (.bool v0) ∧
  ∃ x0 y0 z0,
  h0.cell? ⟨j0, k0 + g0.toNat * 19 + 1 + 1 + 1 + 1 + 1, none⟩ = some (.slice x0 y0 z0) ∧
  ∃ b1 d1 g1,
  h0.cell? ⟨j0, k0 + g0.toNat * 19 + 1 + 1 + 1 + 1 + 1 + 1, none⟩ = some (.slice b1 d1 g1) ∧
  ∃ h1 i1 j1,
  h0.cell? ⟨j0, k0 + g0.toNat * 19 + 1 + 1 + 1 + 1 + 1 + 1 + 1, none⟩ = some (.slice h1 i1 j1) ∧
  ∃ k1 p1 q1,
  h0.cell? ⟨j0, k0 + g0.toNat * 19 + 1 + 1 + 1 + 1 + 1 + 1 + 1 + 1, none⟩ = some (.slice k1 p1 q1) ∧
  ∃ t1 u1 v1,
  h0.cell? ⟨j0, k0 + g0.toNat * 19 + 1 + 1 + 1 + 1 + 1 + 1 + 1 + 1 + 1, none⟩ = some (.slice t1 u1 v1) ∧
  ∃ x1 y1 z1,
  h0.cell? ⟨j0, k0 + g0.toNat * 19 + 1 + 1 + 1 + 1 + 1 + 1 + 1 + 1 + 1 + 1, none⟩ = some (.slice x1 y1 z1) ∧
  ∃ b2 d2 g2,
  h0.cell? ⟨j0, k0 + g0.toNat * 19 + 1 + 1 + 1 + 1 + 1 + 1 + 1 + 1 + 1 + 1 + 1, none⟩ = some (.slice b2 d2 g2) ∧
  ∃ h2 i2 j2,
  h0.cell? ⟨j0, k0 + g0.toNat * 19 + 1 + 1 + 1 + 1 + 1 + 1 + 1 + 1 + 1 + 1 + 1 + 1, none⟩ = some (.slice h2 i2 j2) ∧
  ∃ k2 p2 q2,
  h0.cell? ⟨j0, k0 + g0.toNat * 19 + 1 + 1 + 1 + 1 + 1 + 1 + 1 + 1 + 1 + 1 + 1 + 1 + 1, none⟩ = some (.slice k2 p2 q2) ∧
  ∃ t2 u2 v2,
  h0.cell? ⟨j0, k0 + g0.toNat * 19 + 1 + 1 + 1 + 1 + 1 + 1 + 1 + 1 + 1 + 1 + 1 + 1 + 1 + 1, none⟩ = some (.slice t2 u2 v2) ∧
  ∃ x2 y2 z2,
  h0.cell? ⟨j0, k0 + g0.toNat * 19 + 1 + 1 + 1 + 1 + 1 + 1 + 1 + 1 + 1 + 1 + 1 + 1 + 1 + 1 + 1, none⟩ = some (.slice x2 y2 z2) ∧
  ∃ b3,
  h0.cell? ⟨j0, k0 + g0.toNat * 19 + 1 + 1 + 1 + 1 + 1 + 1 + 1 + 1 + 1 + 1 + 1 + 1 + 1 + 1 + 1 + 1, none⟩ = some (.string b3) ∧
  ∃ d3,
  h0.cell? ⟨j0, k0 + g0.toNat * 19 + 1 + 1 + 1 + 1 + 1 + 1 + 1 + 1 + 1 + 1 + 1 + 1 + 1 + 1 + 1 + 1 + 1, none⟩ = some (.string d3) ∧
  ∃ g3,
  h0.cell? ⟨j0, k0 + g0.toNat * 19 + 1 + 1 + 1 + 1 + 1 + 1 + 1 + 1 + 1 + 1 + 1 + 1 + 1 + 1 + 1 + 1 + 1 + 1, none⟩ = some (.string g3) ∧
  let h3 := World.alloc h0 (.cells #[.int .i64 0, .int .i64 0, .bool false, .bool false, .bool false, .slice none 0 0, .slice none 0 0, .slice none 0 0, .slice none 0 0, .slice none 0 0, .slice none 0 0, .slice none 0 0, .slice none 0 0, .slice none 0 0, .slice none 0 0, .slice none 0 0, .string ⟨#[]⟩, .string ⟨#[]⟩, .string ⟨#[]⟩] 39);
  canStore h3 h0.heap.size 0 19 ∧
  let i3 := setCs h3 h0.heap.size 0 [.int .i64 p0, .int .i64 q0, .bool t0, .bool u0, .bool v0, .slice x0 y0 z0, .slice b1 d1 g1, .slice h1 i1 j1, .slice k1 p1 q1, .slice t1 u1 v1, .slice x1 y1 z1, .slice b2 d2 g2, .slice h2 i2 j2, .slice k2 p2 q2, .slice t2 u2 v2, .slice x2 y2 z2, .string b3, .string d3, .string g3];
  ∃ j3,
  i3.cell? ⟨h0.heap.size, 0, none⟩ = some (.int .i64 j3) ∧
  sel (decide ((j3 : Int) < (0 : Int))) (
  R (.bool false) i3) (
  ∃ k3,
  i3.cell? ⟨h0.heap.size, 1, none⟩ = some (.int .i64 k3) ∧
  sel ((k3 : Int) != ((-1) : Int)) (
  ∃ p3,
  i3.cell? ⟨h0.heap.size, 1, none⟩ = some (.int .i64 p3) ∧
  ∃ q3,
  i3.cell? ⟨h0.heap.size, 0, none⟩ = some (.int .i64 q3) ∧
  sel (decide ((p3 : Int) < (q3 : Int))) (
  R (.bool false) i3) (
  let t3 : Int := IntKind.i64.wrap (g0 + 1);
  ([.slice Aa0 na0 ca0, .int .i64 (na0 : Int)] : List Value) = ([.slice Aa0 na0 ca0, .int .i64 (na0 : Int)] : List Value) ∧ ∃ m, m < i0 ∧ b0 t3 i3 m)) (
  let u3 : Int := IntKind.i64.wrap (g0 + 1);
  ([.slice Aa0 na0 ca0, .int .i64 (na0 : Int)] : List Value) = ([.slice Aa0 na0 ca0, .int .i64 (na0 : Int)] : List Value) ∧ ∃ m, m < i0 ∧ b0 u3 i3 m))) (
  R (.bool true) h0)
theorem f35.eq (Aa0 : Option Addr) (na0 ca0 : Nat) (w : World) (R : Value → World → Prop) : f35.VC Aa0 na0 ca0 w R = funV Try.prog Try.f35 f35.AL f35.AC #[.slice Aa0 na0 ca0] w R := by kernel_rfl
theorem f35.calls {Aa0 : Option Addr} {na0 ca0 : Nat} {w : World} {R : Value → World → Prop} (h : f35.VC Aa0 na0 ca0 w R) : Calls Try.prog 35 #[.slice Aa0 na0 ca0] w fun e w' => ∃ v, e = .returned v ∧ R v w' :=
  funV_sound (fn := Try.f35) (AL := f35.AL) (AC := f35.AC) W4.mixed (by kernel_rfl) (by rw [← f35.eq Aa0 na0 ca0]; exact h)

/-- gatehouse/judge.refused -/
def f32.AL : Nat → Option Ann := fun _ => none
def f32.AC : Nat → Option Ann := fun _ => none
def f32.VC (Aa0 : Option Addr) (na0 ca0 : Nat) (w : World) (R : Value → World → Prop) : Prop :=
  sel (decide ((12 : Int) < ((na0 : Int) : Int))) (
  R (.int .i64 4) w) (
  Calls Try.prog 35 #[.slice Aa0 na0 ca0] w fun b0 d0 =>
  ∃ g0,
  b0 = .returned (.bool g0) ∧
  sel (!g0) (
  R (.int .i64 270) d0) (
  R (.int .i64 0) d0))
theorem f32.eq (Aa0 : Option Addr) (na0 ca0 : Nat) (w : World) (R : Value → World → Prop) : f32.VC Aa0 na0 ca0 w R = funV Try.prog Try.f32 f32.AL f32.AC #[.slice Aa0 na0 ca0] w R := by kernel_rfl
theorem f32.calls {Aa0 : Option Addr} {na0 ca0 : Nat} {w : World} {R : Value → World → Prop} (h : f32.VC Aa0 na0 ca0 w R) : Calls Try.prog 32 #[.slice Aa0 na0 ca0] w fun e w' => ∃ v, e = .returned v ∧ R v w' :=
  funV_sound (fn := Try.f32) (AL := f32.AL) (AC := f32.AC) W4.mixed (by kernel_rfl) (by rw [← f32.eq Aa0 na0 ca0]; exact h)

/-- (*gatehouse/judge.search).whole -/
def f58.AL : Nat → Option Ann := fun r => match r with | 2 => some ⟨[(12, .int .i64)], [3, 10, 11]⟩ | _ => none
def f58.AC : Nat → Option Ann := fun _ => none
def f58.VC (a0 : Nat) (xa1_0 : Int) (xa1_1 : Int) (w : World) (R : Value → World → Prop) : Prop :=
  let b0 := World.alloc w (.cells #[.int .i64 xa1_0, .int .i64 xa1_1] 96);
  ∃ d0 g0 h0,
  b0.cell? ⟨a0, 11, none⟩ = some (.slice d0 g0 h0) ∧
  ∃ i0 : Int → World → Nat → Prop,
  (∃ n, i0 0 b0 n) ∧
  ∀ j0 : Env, ∀ k0 p0 q0, i0 k0 p0 q0 →
  sel (decide ((k0 : Int) < ((g0 : Int) : Int))) (
  (0 : Int) ≤ k0 ∧ k0 < (g0 : Int) ∧
  needPtr d0 fun t0 u0 =>
  ∃ v0,
  p0.cell? ⟨t0, u0 + k0.toNat * 19, none⟩ = some (.int .i64 v0) ∧
  ∃ x0,
  p0.cell? ⟨t0, u0 + k0.toNat * 19 + 1, none⟩ = some (.int .i64 x0) ∧
  ∃ y0,
  p0.cell? ⟨t0, u0 + k0.toNat * 19 + 1 + 1, none⟩ = some (.bool y0) ∧
  ∃ z0,
  p0.cell? ⟨t0, u0 + k0.toNat * 19 + 1 + 1 + 1, none⟩ = some (.bool z0) ∧
  ∃ b1,
  p0.cell? ⟨t0, u0 + k0.toNat * 19 + 1 + 1 + 1 + 1, none⟩ = some (.bool b1) ∧
  ∃ d1 g1 h1,
  p0.cell? ⟨t0, u0 + k0.toNat * 19 + 1 + 1 + 1 + 1 + 1, none⟩ = some (.slice d1 g1 h1) ∧
  ∃ i1 j1 k1,
  p0.cell? ⟨t0, u0 + k0.toNat * 19 + 1 + 1 + 1 + 1 + 1 + 1, none⟩ = some (.slice i1 j1 k1) ∧
  ∃ p1 q1 t1,
  p0.cell? ⟨t0, u0 + k0.toNat * 19 + 1 + 1 + 1 + 1 + 1 + 1 + 1, none⟩ = some (.slice p1 q1 t1) ∧
  ∃ u1 v1 x1,
  p0.cell? ⟨t0, u0 + k0.toNat * 19 + 1 + 1 + 1 + 1 + 1 + 1 + 1 + 1, none⟩ = some (.slice u1 v1 x1) ∧
  ∃ y1 z1 b2,
  p0.cell? ⟨t0, u0 + k0.toNat * 19 + 1 + 1 + 1 + 1 + 1 + 1 + 1 + 1 + 1, none⟩ = some (.slice y1 z1 b2) ∧
  ∃ d2 g2 h2,
  p0.cell? ⟨t0, u0 + k0.toNat * 19 + 1 + 1 + 1 + 1 + 1 + 1 + 1 + 1 + 1 + 1, none⟩ = some (.slice d2 g2 h2) ∧
  ∃ i2 j2 k2,
  p0.cell? ⟨t0, u0 + k0.toNat * 19 + 1 + 1 + 1 + 1 + 1 + 1 + 1 + 1 + 1 + 1 + 1, none⟩ = some (.slice i2 j2 k2) ∧
  ∃ p2 q2 t2,
  p0.cell? ⟨t0, u0 + k0.toNat * 19 + 1 + 1 + 1 + 1 + 1 + 1 + 1 + 1 + 1 + 1 + 1 + 1, none⟩ = some (.slice p2 q2 t2) ∧
  ∃ u2 v2 x2,
  p0.cell? ⟨t0, u0 + k0.toNat * 19 + 1 + 1 + 1 + 1 + 1 + 1 + 1 + 1 + 1 + 1 + 1 + 1 + 1, none⟩ = some (.slice u2 v2 x2) ∧
  ∃ y2 z2 b3,
  p0.cell? ⟨t0, u0 + k0.toNat * 19 + 1 + 1 + 1 + 1 + 1 + 1 + 1 + 1 + 1 + 1 + 1 + 1 + 1 + 1, none⟩ = some (.slice y2 z2 b3) ∧
  ∃ d3 g3 h3,
  p0.cell? ⟨t0, u0 + k0.toNat * 19 + 1 + 1 + 1 + 1 + 1 + 1 + 1 + 1 + 1 + 1 + 1 + 1 + 1 + 1 + 1, none⟩ = some (.slice d3 g3 h3) ∧
  ∃ i3,
  p0.cell? ⟨t0, u0 + k0.toNat * 19 + 1 + 1 + 1 + 1 + 1 + 1 + 1 + 1 + 1 + 1 + 1 + 1 + 1 + 1 + 1 + 1, none⟩ = some (.string i3) ∧
  ∃ j3,
  p0.cell? ⟨t0, u0 + k0.toNat * 19 + 1 + 1 + 1 + 1 + 1 + 1 + 1 + 1 + 1 + 1 + 1 + 1 + 1 + 1 + 1 + 1 + 1, none⟩ = some (.string j3) ∧
  ∃ k3,
  p0.cell? ⟨t0, u0 + k0.toNat * 19 + 1 + 1 + 1 + 1 + 1 + 1 + 1 + 1 + 1 + 1 + 1 + 1 + 1 + 1 + 1 + 1 + 1 + 1, none⟩ = some (.string k3) ∧
  let p3 := World.alloc p0 (.cells #[.int .i64 0, .int .i64 0, .bool false, .bool false, .bool false, .slice none 0 0, .slice none 0 0, .slice none 0 0, .slice none 0 0, .slice none 0 0, .slice none 0 0, .slice none 0 0, .slice none 0 0, .slice none 0 0, .slice none 0 0, .slice none 0 0, .string ⟨#[]⟩, .string ⟨#[]⟩, .string ⟨#[]⟩] 39);
  canStore p3 p0.heap.size 0 19 ∧
  let q3 := setCs p3 p0.heap.size 0 [.int .i64 v0, .int .i64 x0, .bool y0, .bool z0, .bool b1, .slice d1 g1 h1, .slice i1 j1 k1, .slice p1 q1 t1, .slice u1 v1 x1, .slice y1 z1 b2, .slice d2 g2 h2, .slice i2 j2 k2, .slice p2 q2 t2, .slice u2 v2 x2, .slice y2 z2 b3, .slice d3 g3 h3, .string i3, .string j3, .string k3];
  ∃ t3,
  q3.cell? ⟨p0.heap.size, 1, none⟩ = some (.int .i64 t3) ∧
  sel (decide ((0 : Int) ≤ (t3 : Int))) (
  ∃ u3,
  q3.cell? ⟨w.heap.size, 0, none⟩ = some (.int .i64 u3) ∧
  (0 : Int) ≤ k0 ∧
  let v3 : Int := shrI .i64 u3 k0;
  let x3 : Int := bitsI .and .i64 v3 1;
  sel ((x3 : Int) == (0 : Int)) (
  R (.bool false) q3) (
  let y3 : Int := IntKind.i64.wrap (k0 + 1);
  ([.pointer (some ⟨w.heap.size, 0, none⟩), .slice d0 g0 h0, .int .i64 (g0 : Int)] : List Value) = ([.pointer (some ⟨w.heap.size, 0, none⟩), .slice d0 g0 h0, .int .i64 (g0 : Int)] : List Value) ∧ ∃ m, m < q0 ∧ i0 y3 q3 m)) (
  let z3 : Int := IntKind.i64.wrap (k0 + 1);
  ([.pointer (some ⟨w.heap.size, 0, none⟩), .slice d0 g0 h0, .int .i64 (g0 : Int)] : List Value) = ([.pointer (some ⟨w.heap.size, 0, none⟩), .slice d0 g0 h0, .int .i64 (g0 : Int)] : List Value) ∧ ∃ m, m < q0 ∧ i0 z3 q3 m)) (
  R (.bool true) p0)
theorem f58.eq (a0 : Nat) (xa1_0 : Int) (xa1_1 : Int) (w : World) (R : Value → World → Prop) : f58.VC a0 xa1_0 xa1_1 w R = funV Try.prog Try.f58 f58.AL f58.AC #[.pointer (some ⟨a0, 0, none⟩), .agg #[.int .i64 xa1_0, .int .i64 xa1_1]] w R := by kernel_rfl
theorem f58.calls {a0 : Nat} {xa1_0 : Int} {xa1_1 : Int} {w : World} {R : Value → World → Prop} (h : f58.VC a0 xa1_0 xa1_1 w R) : Calls Try.prog 58 #[.pointer (some ⟨a0, 0, none⟩), .agg #[.int .i64 xa1_0, .int .i64 xa1_1]] w fun e w' => ∃ v, e = .returned v ∧ R v w' :=
  funV_sound (fn := Try.f58) (AL := f58.AL) (AC := f58.AC) W4.mixed (by kernel_rfl) (by rw [← f58.eq a0 xa1_0 xa1_1]; exact h)

/-- (*gatehouse/judge.search).behind -/
def f59.AL : Nat → Option Ann := fun r => match r with | 4 => some ⟨[(23, .int .i64)], [0, 2, 4, 6, 21, 22]⟩ | _ => none
def f59.AC : Nat → Option Ann := fun r => match r with | 11 => some ⟨[(73, .bool)], [2, 4, 6, 10]⟩ | 15 => some ⟨[], [4, 6]⟩ | 1000010 => some ⟨[], []⟩ | _ => none
def f59.VC (a0 : Nat) (xa1_0 : Int) (xa1_1 : Int) (xa2 : Int) (w : World) (R : Value → World → Prop) : Prop :=
  let b0 := World.alloc w (.cells #[.int .i64 xa1_0, .int .i64 xa1_1] 96);
  let d0 := World.alloc b0 (.cells #[.int .i64 0, .int .i64 0] 96);
  ∃ g0,
  d0.cell? ⟨w.heap.size, 0, none⟩ = some (.int .i64 g0) ∧
  (0 : Int) ≤ xa2 ∧
  let h0 : Int := shrI .i64 g0 xa2;
  let i0 : Int := bitsI .and .i64 h0 1;
  sel ((i0 : Int) == (1 : Int)) (
  ∃ j0,
  d0.cell? ⟨w.heap.size, 0, none⟩ = some (.int .i64 j0) ∧
  ∃ k0,
  d0.cell? ⟨w.heap.size, 1, none⟩ = some (.int .i64 k0) ∧
  canStore d0 b0.heap.size 0 2 ∧
  let p0 := setCs d0 b0.heap.size 0 [.int .i64 j0, .int .i64 k0];
  ∃ q0,
  p0.cell? ⟨b0.heap.size, 0, none⟩ = some (.int .i64 q0) ∧
  ∃ t0,
  p0.cell? ⟨b0.heap.size, 1, none⟩ = some (.int .i64 t0) ∧
  R (.tuple #[.agg #[.int .i64 q0, .int .i64 t0], .bool false]) p0) (
  ∃ u0 v0 x0,
  d0.cell? ⟨a0, 11, none⟩ = some (.slice u0 v0 x0) ∧
  ∃ y0 : Int → World → Nat → Prop,
  (∃ n, y0 0 d0 n) ∧
  ∀ z0 : Env, ∀ b1 d1 g1, y0 b1 d1 g1 →
  sel (decide ((b1 : Int) < ((v0 : Int) : Int))) (
  (0 : Int) ≤ b1 ∧ b1 < (v0 : Int) ∧
  needPtr u0 fun h1 i1 =>
  ∃ j1,
  d1.cell? ⟨h1, i1 + b1.toNat * 19, none⟩ = some (.int .i64 j1) ∧
  ∃ k1,
  d1.cell? ⟨h1, i1 + b1.toNat * 19 + 1, none⟩ = some (.int .i64 k1) ∧
  ∃ p1,
  d1.cell? ⟨h1, i1 + b1.toNat * 19 + 1 + 1, none⟩ = some (.bool p1) ∧
  ∃ q1,
  d1.cell? ⟨h1, i1 + b1.toNat * 19 + 1 + 1 + 1, none⟩ = some (.bool q1) ∧
  ∃ t1,
  d1.cell? ⟨h1, i1 + b1.toNat * 19 + 1 + 1 + 1 + 1, none⟩ = some (.bool t1) ∧
  ∃ u1 v1 x1,
  d1.cell? ⟨h1, i1 + b1.toNat * 19 + 1 + 1 + 1 + 1 + 1, none⟩ = some (.slice u1 v1 x1) ∧
  ∃ y1 z1 b2,
  d1.cell? ⟨h1, i1 + b1.toNat * 19 + 1 + 1 + 1 + 1 + 1 + 1, none⟩ = some (.slice y1 z1 b2) ∧
  ∃ d2 g2 h2,
  d1.cell? ⟨h1, i1 + b1.toNat * 19 + 1 + 1 + 1 + 1 + 1 + 1 + 1, none⟩ = some (.slice d2 g2 h2) ∧
  ∃ i2 j2 k2,
  d1.cell? ⟨h1, i1 + b1.toNat * 19 + 1 + 1 + 1 + 1 + 1 + 1 + 1 + 1, none⟩ = some (.slice i2 j2 k2) ∧
  ∃ p2 q2 t2,
  d1.cell? ⟨h1, i1 + b1.toNat * 19 + 1 + 1 + 1 + 1 + 1 + 1 + 1 + 1 + 1, none⟩ = some (.slice p2 q2 t2) ∧
  ∃ u2 v2 x2,
  d1.cell? ⟨h1, i1 + b1.toNat * 19 + 1 + 1 + 1 + 1 + 1 + 1 + 1 + 1 + 1 + 1, none⟩ = some (.slice u2 v2 x2) ∧
  ∃ y2 z2 b3,
  d1.cell? ⟨h1, i1 + b1.toNat * 19 + 1 + 1 + 1 + 1 + 1 + 1 + 1 + 1 + 1 + 1 + 1, none⟩ = some (.slice y2 z2 b3) ∧
  ∃ d3 g3 h3,
  d1.cell? ⟨h1, i1 + b1.toNat * 19 + 1 + 1 + 1 + 1 + 1 + 1 + 1 + 1 + 1 + 1 + 1 + 1, none⟩ = some (.slice d3 g3 h3) ∧
  ∃ i3 j3 k3,
  d1.cell? ⟨h1, i1 + b1.toNat * 19 + 1 + 1 + 1 + 1 + 1 + 1 + 1 + 1 + 1 + 1 + 1 + 1 + 1, none⟩ = some (.slice i3 j3 k3) ∧
  ∃ p3 q3 t3,
  d1.cell? ⟨h1, i1 + b1.toNat * 19 + 1 + 1 + 1 + 1 + 1 + 1 + 1 + 1 + 1 + 1 + 1 + 1 + 1 + 1, none⟩ = some (.slice p3 q3 t3) ∧
  ∃ u3 v3 x3,
  d1.cell? ⟨h1, i1 + b1.toNat * 19 + 1 + 1 + 1 + 1 + 1 + 1 + 1 + 1 + 1 + 1 + 1 + 1 + 1 + 1 + 1, none⟩ = some (.slice u3 v3 x3) ∧
  ∃ y3,
  d1.cell? ⟨h1, i1 + b1.toNat * 19 + 1 + 1 + 1 + 1 + 1 + 1 + 1 + 1 + 1 + 1 + 1 + 1 + 1 + 1 + 1 + 1, none⟩ = some (.string y3) ∧
  ∃ z3,
  d1.cell? ⟨h1, i1 + b1.toNat * 19 + 1 + 1 + 1 + 1 + 1 + 1 + 1 + 1 + 1 + 1 + 1 + 1 + 1 + 1 + 1 + 1 + 1, none⟩ = some (.string z3) ∧
  ∃ b4,
  d1.cell? ⟨h1, i1 + b1.toNat * 19 + 1 + 1 + 1 + 1 + 1 + 1 + 1 + 1 + 1 + 1 + 1 + 1 + 1 + 1 + 1 + 1 + 1 + 1, none⟩ = some (.string b4) ∧
  let d4 := World.alloc d1 (.cells #[.int .i64 0, .int .i64 0, .bool false, .bool false, .bool false, .slice none 0 0, .slice none 0 0, .slice none 0 0, .slice none 0 0, .slice none 0 0, .slice none 0 0, .slice none 0 0, .slice none 0 0, .slice none 0 0, .slice none 0 0, .slice none 0 0, .string ⟨#[]⟩, .string ⟨#[]⟩, .string ⟨#[]⟩] 39);
  canStore d4 d1.heap.size 0 19 ∧
  let g4 := setCs d4 d1.heap.size 0 [.int .i64 j1, .int .i64 k1, .bool p1, .bool q1, .bool t1, .slice u1 v1 x1, .slice y1 z1 b2, .slice d2 g2 h2, .slice i2 j2 k2, .slice p2 q2 t2, .slice u2 v2 x2, .slice y2 z2 b3, .slice d3 g3 h3, .slice i3 j3 k3, .slice p3 q3 t3, .slice u3 v3 x3, .string y3, .string z3, .string b4];
  ∃ h4,
  g4.cell? ⟨w.heap.size, 0, none⟩ = some (.int .i64 h4) ∧
  (0 : Int) ≤ b1 ∧
  let i4 : Int := shrI .i64 h4 b1;
  let j4 : Int := bitsI .and .i64 i4 1;
  sel ((j4 : Int) == (0 : Int)) (
  ∃ k4,
  g4.cell? ⟨d1.heap.size, 1, none⟩ = some (.int .i64 k4) ∧
  sel (decide ((0 : Int) ≤ (k4 : Int))) (
  ∃ p4,
  g4.cell? ⟨d1.heap.size, 1, none⟩ = some (.int .i64 p4) ∧
  ∃ q4 t4 u4,
  g4.cell? ⟨a0, 11, none⟩ = some (.slice q4 t4 u4) ∧
  (0 : Int) ≤ xa2 ∧ xa2 < (t4 : Int) ∧
  needPtr q4 fun v4 x4 =>
  ∃ y4,
  g4.cell? ⟨v4, x4 + xa2.toNat * 19, none⟩ = some (.int .i64 y4) ∧
  sel (decide ((p4 : Int) < (y4 : Int))) (
  ∃ z4,
  g4.cell? ⟨w.heap.size, 0, none⟩ = some (.int .i64 z4) ∧
  ∃ b5,
  g4.cell? ⟨w.heap.size, 1, none⟩ = some (.int .i64 b5) ∧
  canStore g4 b0.heap.size 0 2 ∧
  let d5 := setCs g4.drew b0.heap.size 0 [.int .i64 z4, .int .i64 b5];
  ∃ g5,
  d5.cell? ⟨b0.heap.size, 0, none⟩ = some (.int .i64 g5) ∧
  ∃ h5,
  d5.cell? ⟨b0.heap.size, 1, none⟩ = some (.int .i64 h5) ∧
  R (.tuple #[.agg #[.int .i64 g5, .int .i64 h5], .bool false]) d5) (
  let i5 : Int := IntKind.i64.wrap (b1 + 1);
  ([.pointer (some ⟨a0, 0, none⟩), .int .i64 xa2, .pointer (some ⟨w.heap.size, 0, none⟩), .pointer (some ⟨b0.heap.size, 0, none⟩), .slice u0 v0 x0, .int .i64 (v0 : Int)] : List Value) = ([.pointer (some ⟨a0, 0, none⟩), .int .i64 xa2, .pointer (some ⟨w.heap.size, 0, none⟩), .pointer (some ⟨b0.heap.size, 0, none⟩), .slice u0 v0 x0, .int .i64 (v0 : Int)] : List Value) ∧ ∃ m, m < g1 ∧ y0 i5 g4.drew m)) (
  let j5 : Int := IntKind.i64.wrap (b1 + 1);
  ([.pointer (some ⟨a0, 0, none⟩), .int .i64 xa2, .pointer (some ⟨w.heap.size, 0, none⟩), .pointer (some ⟨b0.heap.size, 0, none⟩), .slice u0 v0 x0, .int .i64 (v0 : Int)] : List Value) = ([.pointer (some ⟨a0, 0, none⟩), .int .i64 xa2, .pointer (some ⟨w.heap.size, 0, none⟩), .pointer (some ⟨b0.heap.size, 0, none⟩), .slice u0 v0 x0, .int .i64 (v0 : Int)] : List Value) ∧ ∃ m, m < g1 ∧ y0 j5 g4.drew m)) (
  let k5 : Int := IntKind.i64.wrap (b1 + 1);
  ([.pointer (some ⟨a0, 0, none⟩), .int .i64 xa2, .pointer (some ⟨w.heap.size, 0, none⟩), .pointer (some ⟨b0.heap.size, 0, none⟩), .slice u0 v0 x0, .int .i64 (v0 : Int)] : List Value) = ([.pointer (some ⟨a0, 0, none⟩), .int .i64 xa2, .pointer (some ⟨w.heap.size, 0, none⟩), .pointer (some ⟨b0.heap.size, 0, none⟩), .slice u0 v0 x0, .int .i64 (v0 : Int)] : List Value) ∧ ∃ m, m < g1 ∧ y0 k5 g4.drew m)) (
  ∃ p5 q5 t5,
  d1.cell? ⟨a0, 11, none⟩ = some (.slice p5 q5 t5) ∧
  (0 : Int) ≤ xa2 ∧ xa2 < (q5 : Int) ∧
  needPtr p5 fun u5 v5 =>
  ∃ x5,
  d1.cell? ⟨u5, v5 + xa2.toNat * 19, none⟩ = some (.int .i64 x5) ∧
  ∃ y5,
  d1.cell? ⟨u5, v5 + xa2.toNat * 19 + 1, none⟩ = some (.int .i64 y5) ∧
  ∃ z5,
  d1.cell? ⟨u5, v5 + xa2.toNat * 19 + 1 + 1, none⟩ = some (.bool z5) ∧
  ∃ b6,
  d1.cell? ⟨u5, v5 + xa2.toNat * 19 + 1 + 1 + 1, none⟩ = some (.bool b6) ∧
  ∃ d6,
  d1.cell? ⟨u5, v5 + xa2.toNat * 19 + 1 + 1 + 1 + 1, none⟩ = some (.bool d6) ∧
  ∃ g6 h6 i6,
  d1.cell? ⟨u5, v5 + xa2.toNat * 19 + 1 + 1 + 1 + 1 + 1, none⟩ = some (.slice g6 h6 i6) ∧
  ∃ j6 k6 p6,
  d1.cell? ⟨u5, v5 + xa2.toNat * 19 + 1 + 1 + 1 + 1 + 1 + 1, none⟩ = some (.slice j6 k6 p6) ∧
  ∃ q6 t6 u6,
  d1.cell? ⟨u5, v5 + xa2.toNat * 19 + 1 + 1 + 1 + 1 + 1 + 1 + 1, none⟩ = some (.slice q6 t6 u6) ∧
  ∃ v6 x6 y6,
  d1.cell? ⟨u5, v5 + xa2.toNat * 19 + 1 + 1 + 1 + 1 + 1 + 1 + 1 + 1, none⟩ = some (.slice v6 x6 y6) ∧
  ∃ z6 b7 d7,
  d1.cell? ⟨u5, v5 + xa2.toNat * 19 + 1 + 1 + 1 + 1 + 1 + 1 + 1 + 1 + 1, none⟩ = some (.slice z6 b7 d7) ∧
  ∃ g7 h7 i7,
  d1.cell? ⟨u5, v5 + xa2.toNat * 19 + 1 + 1 + 1 + 1 + 1 + 1 + 1 + 1 + 1 + 1, none⟩ = some (.slice g7 h7 i7) ∧
  ∃ j7 k7 p7,
  d1.cell? ⟨u5, v5 + xa2.toNat * 19 + 1 + 1 + 1 + 1 + 1 + 1 + 1 + 1 + 1 + 1 + 1, none⟩ = some (.slice j7 k7 p7) ∧
  ∃ q7 t7 u7,
  d1.cell? ⟨u5, v5 + xa2.toNat * 19 + 1 + 1 + 1 + 1 + 1 + 1 + 1 + 1 + 1 + 1 + 1 + 1, none⟩ = some (.slice q7 t7 u7) ∧
  ∃ v7 x7 y7,
  d1.cell? ⟨u5, v5 + xa2.toNat * 19 + 1 + 1 + 1 + 1 + 1 + 1 + 1 + 1 + 1 + 1 + 1 + 1 + 1, none⟩ = some (.slice v7 x7 y7) ∧
  ∃ z7 b8 d8,
  d1.cell? ⟨u5, v5 + xa2.toNat * 19 + 1 + 1 + 1 + 1 + 1 + 1 + 1 + 1 + 1 + 1 + 1 + 1 + 1 + 1, none⟩ = some (.slice z7 b8 d8) ∧
  ∃ g8 h8 i8,
  d1.cell? ⟨u5, v5 + xa2.toNat * 19 + 1 + 1 + 1 + 1 + 1 + 1 + 1 + 1 + 1 + 1 + 1 + 1 + 1 + 1 + 1, none⟩ = some (.slice g8 h8 i8) ∧
  ∃ j8,
  d1.cell? ⟨u5, v5 + xa2.toNat * 19 + 1 + 1 + 1 + 1 + 1 + 1 + 1 + 1 + 1 + 1 + 1 + 1 + 1 + 1 + 1 + 1, none⟩ = some (.string j8) ∧
  ∃ k8,
  d1.cell? ⟨u5, v5 + xa2.toNat * 19 + 1 + 1 + 1 + 1 + 1 + 1 + 1 + 1 + 1 + 1 + 1 + 1 + 1 + 1 + 1 + 1 + 1, none⟩ = some (.string k8) ∧
  ∃ p8,
  d1.cell? ⟨u5, v5 + xa2.toNat * 19 + 1 + 1 + 1 + 1 + 1 + 1 + 1 + 1 + 1 + 1 + 1 + 1 + 1 + 1 + 1 + 1 + 1 + 1, none⟩ = some (.string p8) ∧
  let q8 := World.alloc d1 (.cells #[.int .i64 0, .int .i64 0, .bool false, .bool false, .bool false, .slice none 0 0, .slice none 0 0, .slice none 0 0, .slice none 0 0, .slice none 0 0, .slice none 0 0, .slice none 0 0, .slice none 0 0, .slice none 0 0, .slice none 0 0, .slice none 0 0, .string ⟨#[]⟩, .string ⟨#[]⟩, .string ⟨#[]⟩] 39);
  canStore q8 d1.heap.size 0 19 ∧
  let t8 := setCs q8 d1.heap.size 0 [.int .i64 x5, .int .i64 y5, .bool z5, .bool b6, .bool d6, .slice g6 h6 i6, .slice j6 k6 p6, .slice q6 t6 u6, .slice v6 x6 y6, .slice z6 b7 d7, .slice g7 h7 i7, .slice j7 k7 p7, .slice q7 t7 u7, .slice v7 x7 y7, .slice z7 b8 d8, .slice g8 h8 i8, .string j8, .string k8, .string p8];
  ∃ u8 : Bool → World → Prop,
  (∃ v8,
  t8.cell? ⟨d1.heap.size, 2, none⟩ = some (.bool v8) ∧
  sel (!v8) (
  ∃ x8,
  t8.cell? ⟨w.heap.size, 1, none⟩ = some (.int .i64 x8) ∧
  ∃ y8,
  t8.cell? ⟨d1.heap.size, 4, none⟩ = some (.bool y8) ∧
  Calls Try.prog 87 #[.pointer (some ⟨a0, 0, none⟩), .int .i64 x8, .int .i64 xa2] t8.drew fun z8 b9 =>
  ∃ d9,
  z8 = .returned (.bool d9) ∧
  (b9.cell? ⟨d1.heap.size, 4, none⟩ = some (.bool y8) ∧ b9.cell? ⟨w.heap.size, 1, none⟩ = some (.int .i64 x8) ∧ b9.cell? ⟨d1.heap.size, 2, none⟩ = some (.bool v8) ∧ True) ∧
  ([.int .i64 xa2, .pointer (some ⟨w.heap.size, 0, none⟩), .pointer (some ⟨b0.heap.size, 0, none⟩), .pointer (some ⟨d1.heap.size, 0, none⟩)] : List Value) = ([.int .i64 xa2, .pointer (some ⟨w.heap.size, 0, none⟩), .pointer (some ⟨b0.heap.size, 0, none⟩), .pointer (some ⟨d1.heap.size, 0, none⟩)] : List Value) ∧ u8 (!(d9 == y8)) b9) (
  ([.int .i64 xa2, .pointer (some ⟨w.heap.size, 0, none⟩), .pointer (some ⟨b0.heap.size, 0, none⟩), .pointer (some ⟨d1.heap.size, 0, none⟩)] : List Value) = ([.int .i64 xa2, .pointer (some ⟨w.heap.size, 0, none⟩), .pointer (some ⟨b0.heap.size, 0, none⟩), .pointer (some ⟨d1.heap.size, 0, none⟩)] : List Value) ∧ u8 false t8.drew)) ∧
  ∀ g9 : Env, ∀ h9 i9, u8 h9 i9 →
  sel h9 (
  ∃ j9,
  i9.cell? ⟨w.heap.size, 0, none⟩ = some (.int .i64 j9) ∧
  ∃ k9,
  i9.cell? ⟨w.heap.size, 1, none⟩ = some (.int .i64 k9) ∧
  canStore i9 b0.heap.size 0 2 ∧
  let p9 := setCs i9 b0.heap.size 0 [.int .i64 j9, .int .i64 k9];
  ∃ q9,
  p9.cell? ⟨b0.heap.size, 0, none⟩ = some (.int .i64 q9) ∧
  ∃ t9,
  p9.cell? ⟨b0.heap.size, 1, none⟩ = some (.int .i64 t9) ∧
  R (.tuple #[.agg #[.int .i64 q9, .int .i64 t9], .bool false]) p9) (
  (0 : Int) ≤ xa2 ∧
  let u9 : Int := shlI .i64 1 xa2;
  ∃ v9,
  i9.cell? ⟨w.heap.size, 0, none⟩ = some (.int .i64 v9) ∧
  let x9 : Int := bitsI .or .i64 v9 u9;
  canStore i9 w.heap.size 0 1 ∧
  let y9 := setCs i9.drew w.heap.size 0 [.int .i64 x9];
  ∃ z9 : World → Prop,
  (∃ bA,
  y9.cell? ⟨d1.heap.size, 2, none⟩ = some (.bool bA) ∧
  sel bA (
  ∃ dA,
  y9.cell? ⟨d1.heap.size, 3, none⟩ = some (.bool dA) ∧
  sel (!dA) (
  canStore y9 w.heap.size 1 1 ∧
  let gA := setCs y9 w.heap.size 1 [.int .i64 xa2];
  ([.pointer (some ⟨w.heap.size, 0, none⟩), .pointer (some ⟨b0.heap.size, 0, none⟩)] : List Value) = ([.pointer (some ⟨w.heap.size, 0, none⟩), .pointer (some ⟨b0.heap.size, 0, none⟩)] : List Value) ∧ z9 gA) (
  ([.pointer (some ⟨w.heap.size, 0, none⟩), .pointer (some ⟨b0.heap.size, 0, none⟩)] : List Value) = ([.pointer (some ⟨w.heap.size, 0, none⟩), .pointer (some ⟨b0.heap.size, 0, none⟩)] : List Value) ∧ z9 y9)) (
  ([.pointer (some ⟨w.heap.size, 0, none⟩), .pointer (some ⟨b0.heap.size, 0, none⟩)] : List Value) = ([.pointer (some ⟨w.heap.size, 0, none⟩), .pointer (some ⟨b0.heap.size, 0, none⟩)] : List Value) ∧ z9 y9)) ∧
  ∀ hA : Env, ∀ iA, z9 iA →
  ∃ jA,
  iA.cell? ⟨w.heap.size, 0, none⟩ = some (.int .i64 jA) ∧
  ∃ kA,
  iA.cell? ⟨w.heap.size, 1, none⟩ = some (.int .i64 kA) ∧
  canStore iA b0.heap.size 0 2 ∧
  let pA := setCs iA b0.heap.size 0 [.int .i64 jA, .int .i64 kA];
  ∃ qA,
  pA.cell? ⟨b0.heap.size, 0, none⟩ = some (.int .i64 qA) ∧
  ∃ tA,
  pA.cell? ⟨b0.heap.size, 1, none⟩ = some (.int .i64 tA) ∧
  R (.tuple #[.agg #[.int .i64 qA, .int .i64 tA], .bool true]) pA)))
theorem f59.eq (a0 : Nat) (xa1_0 : Int) (xa1_1 : Int) (xa2 : Int) (w : World) (R : Value → World → Prop) : f59.VC a0 xa1_0 xa1_1 xa2 w R = funV Try.prog Try.f59 f59.AL f59.AC #[.pointer (some ⟨a0, 0, none⟩), .agg #[.int .i64 xa1_0, .int .i64 xa1_1], .int .i64 xa2] w R := by kernel_rfl
theorem f59.calls {a0 : Nat} {xa1_0 : Int} {xa1_1 : Int} {xa2 : Int} {w : World} {R : Value → World → Prop} (h : f59.VC a0 xa1_0 xa1_1 xa2 w R) : Calls Try.prog 59 #[.pointer (some ⟨a0, 0, none⟩), .agg #[.int .i64 xa1_0, .int .i64 xa1_1], .int .i64 xa2] w fun e w' => ∃ v, e = .returned v ∧ R v w' :=
  funV_sound (fn := Try.f59) (AL := f59.AL) (AC := f59.AC) W4.mixed (by kernel_rfl) (by rw [← f59.eq a0 xa1_0 xa1_1 xa2]; exact h)

/-- (*gatehouse/judge.search).allows -/
def f87.AL : Nat → Option Ann := fun _ => none
def f87.AC : Nat → Option Ann := fun r => match r with | 8 => some ⟨[], [0, 2, 7, 10]⟩ | _ => none
def f87.VC (a0 : Nat) (xa1 : Int) (xa2 : Int) (w : World) (R : Value → World → Prop) : Prop :=
  let b0 := World.alloc w (.cells #[.int .i64 0, .int .i64 0] 51);
  canStore b0 w.heap.size 0 2 ∧
  let d0 := setCs b0 w.heap.size 0 [.int .i64 xa1, .int .i64 xa2];
  ∃ g0,
  d0.cell? ⟨a0, 13, none⟩ = some (.map g0) ∧
  ∃ h0,
  d0.cell? ⟨w.heap.size, 0, none⟩ = some (.int .i64 h0) ∧
  ∃ i0,
  d0.cell? ⟨w.heap.size, 1, none⟩ = some (.int .i64 i0) ∧
  ∃ j0 k0,
  ∃ p0, (Instr.lookup 91 (.map g0) (.agg #[.int .i64 h0, .int .i64 i0]) true).run Try.prog d0.drew = .ok (.tuple #[.int .i64 j0, .bool k0]) p0 ∧
  sel k0 (
  R (.bool ((j0 : Int) == (1 : Int))) p0) (
  ∃ q0 t0 u0,
  p0.cell? ⟨a0, 0, none⟩ = some (.slice q0 t0 u0) ∧
  ∃ v0 x0 y0,
  p0.cell? ⟨a0, 1, none⟩ = some (.slice v0 x0 y0) ∧
  ∃ z0 b1 d1,
  p0.cell? ⟨a0, 2, none⟩ = some (.slice z0 b1 d1) ∧
  ∃ g1 h1 i1,
  p0.cell? ⟨a0, 3, none⟩ = some (.slice g1 h1 i1) ∧
  ∃ j1 k1 p1,
  p0.cell? ⟨a0, 4, none⟩ = some (.slice j1 k1 p1) ∧
  ∃ q1 t1 u1,
  p0.cell? ⟨a0, 5, none⟩ = some (.slice q1 t1 u1) ∧
  ∃ v1 x1 y1,
  p0.cell? ⟨a0, 6, none⟩ = some (.slice v1 x1 y1) ∧
  ∃ z1 b2 d2,
  p0.cell? ⟨a0, 7, none⟩ = some (.slice z1 b2 d2) ∧
  ∃ g2 h2 i2,
  p0.cell? ⟨a0, 8, none⟩ = some (.slice g2 h2 i2) ∧
  ∃ j2 k2 p2,
  p0.cell? ⟨a0, 9, none⟩ = some (.slice j2 k2 p2) ∧
  ∃ q2 t2 u2,
  p0.cell? ⟨a0, 10, none⟩ = some (.slice q2 t2 u2) ∧
  let v2 := World.alloc p0 (.cells #[.slice none 0 0, .slice none 0 0, .slice none 0 0, .slice none 0 0, .slice none 0 0, .slice none 0 0, .slice none 0 0, .slice none 0 0, .slice none 0 0, .slice none 0 0, .slice none 0 0] 28);
  canStore v2 p0.heap.size 0 11 ∧
  let x2 := setCs v2 p0.heap.size 0 [.slice q0 t0 u0, .slice v0 x0 y0, .slice z0 b1 d1, .slice g1 h1 i1, .slice j1 k1 p1, .slice q1 t1 u1, .slice v1 x1 y1, .slice z1 b2 d2, .slice g2 h2 i2, .slice j2 k2 p2, .slice q2 t2 u2];
  ∃ y2 : World → Prop,
  (sel (decide ((0 : Int) ≤ (xa1 : Int))) (
  ∃ z2 b3 d3,
  x2.cell? ⟨a0, 11, none⟩ = some (.slice z2 b3 d3) ∧
  (0 : Int) ≤ xa1 ∧ xa1 < (b3 : Int) ∧
  needPtr z2 fun g3 h3 =>
  ∃ i3 j3 k3,
  x2.cell? ⟨g3, h3 + xa1.toNat * 19 + 5, none⟩ = some (.slice i3 j3 k3) ∧
  ∃ p3 q3 t3,
  x2.cell? ⟨g3, h3 + xa1.toNat * 19 + 5 + 1, none⟩ = some (.slice p3 q3 t3) ∧
  ∃ u3 v3 x3,
  x2.cell? ⟨g3, h3 + xa1.toNat * 19 + 5 + 1 + 1, none⟩ = some (.slice u3 v3 x3) ∧
  ∃ y3 z3 b4,
  x2.cell? ⟨g3, h3 + xa1.toNat * 19 + 5 + 1 + 1 + 1, none⟩ = some (.slice y3 z3 b4) ∧
  ∃ d4 g4 h4,
  x2.cell? ⟨g3, h3 + xa1.toNat * 19 + 5 + 1 + 1 + 1 + 1, none⟩ = some (.slice d4 g4 h4) ∧
  ∃ i4 j4 k4,
  x2.cell? ⟨g3, h3 + xa1.toNat * 19 + 5 + 1 + 1 + 1 + 1 + 1, none⟩ = some (.slice i4 j4 k4) ∧
  ∃ p4 q4 t4,
  x2.cell? ⟨g3, h3 + xa1.toNat * 19 + 5 + 1 + 1 + 1 + 1 + 1 + 1, none⟩ = some (.slice p4 q4 t4) ∧
  ∃ u4 v4 x4,
  x2.cell? ⟨g3, h3 + xa1.toNat * 19 + 5 + 1 + 1 + 1 + 1 + 1 + 1 + 1, none⟩ = some (.slice u4 v4 x4) ∧
  ∃ y4 z4 b5,
  x2.cell? ⟨g3, h3 + xa1.toNat * 19 + 5 + 1 + 1 + 1 + 1 + 1 + 1 + 1 + 1, none⟩ = some (.slice y4 z4 b5) ∧
  ∃ d5 g5 h5,
  x2.cell? ⟨g3, h3 + xa1.toNat * 19 + 5 + 1 + 1 + 1 + 1 + 1 + 1 + 1 + 1 + 1, none⟩ = some (.slice d5 g5 h5) ∧
  ∃ i5 j5 k5,
  x2.cell? ⟨g3, h3 + xa1.toNat * 19 + 5 + 1 + 1 + 1 + 1 + 1 + 1 + 1 + 1 + 1 + 1, none⟩ = some (.slice i5 j5 k5) ∧
  canStore x2 p0.heap.size 0 11 ∧
  let p5 := setCs x2 p0.heap.size 0 [.slice i3 j3 k3, .slice p3 q3 t3, .slice u3 v3 x3, .slice y3 z3 b4, .slice d4 g4 h4, .slice i4 j4 k4, .slice p4 q4 t4, .slice u4 v4 x4, .slice y4 z4 b5, .slice d5 g5 h5, .slice i5 j5 k5];
  ([.pointer (some ⟨a0, 0, none⟩), .int .i64 xa2, .pointer (some ⟨w.heap.size, 0, none⟩), .pointer (some ⟨p0.heap.size, 0, none⟩)] : List Value) = ([.pointer (some ⟨a0, 0, none⟩), .int .i64 xa2, .pointer (some ⟨w.heap.size, 0, none⟩), .pointer (some ⟨p0.heap.size, 0, none⟩)] : List Value) ∧ y2 p5) (
  ([.pointer (some ⟨a0, 0, none⟩), .int .i64 xa2, .pointer (some ⟨w.heap.size, 0, none⟩), .pointer (some ⟨p0.heap.size, 0, none⟩)] : List Value) = ([.pointer (some ⟨a0, 0, none⟩), .int .i64 xa2, .pointer (some ⟨w.heap.size, 0, none⟩), .pointer (some ⟨p0.heap.size, 0, none⟩)] : List Value) ∧ y2 x2)) ∧
  ∀ q5 : Env, ∀ t5, y2 t5 →
  ∃ u5 v5 x5,
  t5.cell? ⟨p0.heap.size, 0, none⟩ = some (.slice u5 v5 x5) ∧
  ∃ y5 z5 b6,
  t5.cell? ⟨p0.heap.size, 1, none⟩ = some (.slice y5 z5 b6) ∧
  ∃ d6 g6 h6,
  t5.cell? ⟨p0.heap.size, 2, none⟩ = some (.slice d6 g6 h6) ∧
  ∃ i6 j6 k6,
  t5.cell? ⟨p0.heap.size, 3, none⟩ = some (.slice i6 j6 k6) ∧
  ∃ p6 q6 t6,
  t5.cell? ⟨p0.heap.size, 4, none⟩ = some (.slice p6 q6 t6) ∧
  ∃ u6 v6 x6,
  t5.cell? ⟨p0.heap.size, 5, none⟩ = some (.slice u6 v6 x6) ∧
  ∃ y6 z6 b7,
  t5.cell? ⟨p0.heap.size, 6, none⟩ = some (.slice y6 z6 b7) ∧
  ∃ d7 g7 h7,
  t5.cell? ⟨p0.heap.size, 7, none⟩ = some (.slice d7 g7 h7) ∧
  ∃ i7 j7 k7,
  t5.cell? ⟨p0.heap.size, 8, none⟩ = some (.slice i7 j7 k7) ∧
  ∃ p7 q7 t7,
  t5.cell? ⟨p0.heap.size, 9, none⟩ = some (.slice p7 q7 t7) ∧
  ∃ u7 v7 x7,
  t5.cell? ⟨p0.heap.size, 10, none⟩ = some (.slice u7 v7 x7) ∧
  ∃ y7 z7 b8,
  t5.cell? ⟨a0, 11, none⟩ = some (.slice y7 z7 b8) ∧
  (0 : Int) ≤ xa2 ∧ xa2 < (z7 : Int) ∧
  needPtr y7 fun d8 g8 =>
  ∃ h8,
  t5.cell? ⟨d8, g8 + xa2.toNat * 19 + 16, none⟩ = some (.string h8) ∧
  ∃ i8,
  t5.cell? ⟨d8, g8 + xa2.toNat * 19 + 16 + 1, none⟩ = some (.string i8) ∧
  ∃ j8,
  t5.cell? ⟨d8, g8 + xa2.toNat * 19 + 16 + 1 + 1, none⟩ = some (.string j8) ∧
  Calls Try.prog 19 #[.agg #[.slice u5 v5 x5, .slice y5 z5 b6, .slice d6 g6 h6, .slice i6 j6 k6, .slice p6 q6 t6, .slice u6 v6 x6, .slice y6 z6 b7, .slice d7 g7 h7, .slice i7 j7 k7, .slice p7 q7 t7, .slice u7 v7 x7], .agg #[.string h8, .string i8, .string j8]] t5.drew fun k8 p8 =>
  ∃ q8,
  k8 = .returned (.bool q8) ∧
  ∃ t8,
  p8.cell? ⟨a0, 13, none⟩ = some (.map t8) ∧
  ∃ u8,
  p8.cell? ⟨w.heap.size, 0, none⟩ = some (.int .i64 u8) ∧
  ∃ v8,
  p8.cell? ⟨w.heap.size, 1, none⟩ = some (.int .i64 v8) ∧
  ∃ x8, (Instr.mapUpdate 91 (.map t8) (.agg #[.int .i64 u8, .int .i64 v8]) (.int .i64 2)).run Try.prog p8.drew = .ok () x8 ∧
  sel q8 (
  ∃ y8,
  x8.cell? ⟨a0, 13, none⟩ = some (.map y8) ∧
  ∃ z8,
  x8.cell? ⟨w.heap.size, 0, none⟩ = some (.int .i64 z8) ∧
  ∃ b9,
  x8.cell? ⟨w.heap.size, 1, none⟩ = some (.int .i64 b9) ∧
  ∃ d9, (Instr.mapUpdate 91 (.map y8) (.agg #[.int .i64 z8, .int .i64 b9]) (.int .i64 1)).run Try.prog x8.drew = .ok () d9 ∧
  R (.bool q8) d9) (
  R (.bool q8) x8))
theorem f87.eq (a0 : Nat) (xa1 : Int) (xa2 : Int) (w : World) (R : Value → World → Prop) : f87.VC a0 xa1 xa2 w R = funV Try.prog Try.f87 f87.AL f87.AC #[.pointer (some ⟨a0, 0, none⟩), .int .i64 xa1, .int .i64 xa2] w R := by kernel_rfl
theorem f87.calls {a0 : Nat} {xa1 : Int} {xa2 : Int} {w : World} {R : Value → World → Prop} (h : f87.VC a0 xa1 xa2 w R) : Calls Try.prog 87 #[.pointer (some ⟨a0, 0, none⟩), .int .i64 xa1, .int .i64 xa2] w fun e w' => ∃ v, e = .returned v ∧ R v w' :=
  funV_sound (fn := Try.f87) (AL := f87.AL) (AC := f87.AC) W4.mixed (by kernel_rfl) (by rw [← f87.eq a0 xa1 xa2]; exact h)

/-- gatehouse/judge.Linear -/
def f11.AL : Nat → Option Ann := fun _ => none
def f11.AC : Nat → Option Ann := fun _ => none
def f11.VC (Aa0_0 : Option Addr) (na0_0 ca0_0 : Nat) (Aa0_1 : Option Addr) (na0_1 ca0_1 : Nat) (Aa0_2 : Option Addr) (na0_2 ca0_2 : Nat) (Aa0_3 : Option Addr) (na0_3 ca0_3 : Nat) (Aa0_4 : Option Addr) (na0_4 ca0_4 : Nat) (Aa0_5 : Option Addr) (na0_5 ca0_5 : Nat) (Aa0_6 : Option Addr) (na0_6 ca0_6 : Nat) (Aa0_7 : Option Addr) (na0_7 ca0_7 : Nat) (Aa0_8 : Option Addr) (na0_8 ca0_8 : Nat) (Aa0_9 : Option Addr) (na0_9 ca0_9 : Nat) (Aa0_10 : Option Addr) (na0_10 ca0_10 : Nat) (Aa1 : Option Addr) (na1 ca1 : Nat) (w : World) (R : Value → World → Prop) : Prop :=
  let b0 := World.alloc w (.cells #[.slice Aa0_0 na0_0 ca0_0, .slice Aa0_1 na0_1 ca0_1, .slice Aa0_2 na0_2 ca0_2, .slice Aa0_3 na0_3 ca0_3, .slice Aa0_4 na0_4 ca0_4, .slice Aa0_5 na0_5 ca0_5, .slice Aa0_6 na0_6 ca0_6, .slice Aa0_7 na0_7 ca0_7, .slice Aa0_8 na0_8 ca0_8, .slice Aa0_9 na0_9 ca0_9, .slice Aa0_10 na0_10 ca0_10] 28);
  Calls Try.prog 32 #[.slice Aa1 na1 ca1] b0 fun d0 g0 =>
  ∃ h0,
  d0 = .returned (.int .i64 h0) ∧
  sel ((h0 : Int) != (0 : Int)) (
  R (.tuple #[.slice none 0 0, .bool false, .int .i64 h0]) g0) (
  ∃ i0 j0 k0,
  g0.cell? ⟨w.heap.size, 0, none⟩ = some (.slice i0 j0 k0) ∧
  ∃ p0 q0 t0,
  g0.cell? ⟨w.heap.size, 1, none⟩ = some (.slice p0 q0 t0) ∧
  ∃ u0 v0 x0,
  g0.cell? ⟨w.heap.size, 2, none⟩ = some (.slice u0 v0 x0) ∧
  ∃ y0 z0 b1,
  g0.cell? ⟨w.heap.size, 3, none⟩ = some (.slice y0 z0 b1) ∧
  ∃ d1 g1 h1,
  g0.cell? ⟨w.heap.size, 4, none⟩ = some (.slice d1 g1 h1) ∧
  ∃ i1 j1 k1,
  g0.cell? ⟨w.heap.size, 5, none⟩ = some (.slice i1 j1 k1) ∧
  ∃ p1 q1 t1,
  g0.cell? ⟨w.heap.size, 6, none⟩ = some (.slice p1 q1 t1) ∧
  ∃ u1 v1 x1,
  g0.cell? ⟨w.heap.size, 7, none⟩ = some (.slice u1 v1 x1) ∧
  ∃ y1 z1 b2,
  g0.cell? ⟨w.heap.size, 8, none⟩ = some (.slice y1 z1 b2) ∧
  ∃ d2 g2 h2,
  g0.cell? ⟨w.heap.size, 9, none⟩ = some (.slice d2 g2 h2) ∧
  ∃ i2 j2 k2,
  g0.cell? ⟨w.heap.size, 10, none⟩ = some (.slice i2 j2 k2) ∧
  let p2 := World.alloc g0 (.map #[] 0);
  let q2 := World.alloc p2 (.map #[] 0);
  let t2 := World.alloc q2 (.cells #[.slice i0 j0 k0, .slice p0 q0 t0, .slice u0 v0 x0, .slice y0 z0 b1, .slice d1 g1 h1, .slice i1 j1 k1, .slice p1 q1 t1, .slice u1 v1 x1, .slice y1 z1 b2, .slice d2 g2 h2, .slice i2 j2 k2, .slice Aa1 na1 ca1, .map (some g0.heap.size), .map (some p2.heap.size), .slice none 0 0] 93);
  Calls Try.prog 33 #[.pointer (some ⟨q2.heap.size, 0, none⟩), .agg #[.int .i64 0, .int .i64 (-1)]] t2 fun u2 v2 =>
  ∃ x2,
  u2 = .returned (.bool x2) ∧
  sel (!x2) (
  R (.tuple #[.slice none 0 0, .bool false, .int .i64 0]) v2) (
  ∃ y2 z2 b3,
  v2.cell? ⟨q2.heap.size, 14, none⟩ = some (.slice y2 z2 b3) ∧
  R (.tuple #[.slice y2 z2 b3, .bool true, .int .i64 0]) v2))
theorem f11.eq (Aa0_0 : Option Addr) (na0_0 ca0_0 : Nat) (Aa0_1 : Option Addr) (na0_1 ca0_1 : Nat) (Aa0_2 : Option Addr) (na0_2 ca0_2 : Nat) (Aa0_3 : Option Addr) (na0_3 ca0_3 : Nat) (Aa0_4 : Option Addr) (na0_4 ca0_4 : Nat) (Aa0_5 : Option Addr) (na0_5 ca0_5 : Nat) (Aa0_6 : Option Addr) (na0_6 ca0_6 : Nat) (Aa0_7 : Option Addr) (na0_7 ca0_7 : Nat) (Aa0_8 : Option Addr) (na0_8 ca0_8 : Nat) (Aa0_9 : Option Addr) (na0_9 ca0_9 : Nat) (Aa0_10 : Option Addr) (na0_10 ca0_10 : Nat) (Aa1 : Option Addr) (na1 ca1 : Nat) (w : World) (R : Value → World → Prop) : f11.VC Aa0_0 na0_0 ca0_0 Aa0_1 na0_1 ca0_1 Aa0_2 na0_2 ca0_2 Aa0_3 na0_3 ca0_3 Aa0_4 na0_4 ca0_4 Aa0_5 na0_5 ca0_5 Aa0_6 na0_6 ca0_6 Aa0_7 na0_7 ca0_7 Aa0_8 na0_8 ca0_8 Aa0_9 na0_9 ca0_9 Aa0_10 na0_10 ca0_10 Aa1 na1 ca1 w R = funV Try.prog Try.f11 f11.AL f11.AC #[.agg #[.slice Aa0_0 na0_0 ca0_0, .slice Aa0_1 na0_1 ca0_1, .slice Aa0_2 na0_2 ca0_2, .slice Aa0_3 na0_3 ca0_3, .slice Aa0_4 na0_4 ca0_4, .slice Aa0_5 na0_5 ca0_5, .slice Aa0_6 na0_6 ca0_6, .slice Aa0_7 na0_7 ca0_7, .slice Aa0_8 na0_8 ca0_8, .slice Aa0_9 na0_9 ca0_9, .slice Aa0_10 na0_10 ca0_10], .slice Aa1 na1 ca1] w R := by kernel_rfl
theorem f11.calls {Aa0_0 : Option Addr} {na0_0 ca0_0 : Nat} {Aa0_1 : Option Addr} {na0_1 ca0_1 : Nat} {Aa0_2 : Option Addr} {na0_2 ca0_2 : Nat} {Aa0_3 : Option Addr} {na0_3 ca0_3 : Nat} {Aa0_4 : Option Addr} {na0_4 ca0_4 : Nat} {Aa0_5 : Option Addr} {na0_5 ca0_5 : Nat} {Aa0_6 : Option Addr} {na0_6 ca0_6 : Nat} {Aa0_7 : Option Addr} {na0_7 ca0_7 : Nat} {Aa0_8 : Option Addr} {na0_8 ca0_8 : Nat} {Aa0_9 : Option Addr} {na0_9 ca0_9 : Nat} {Aa0_10 : Option Addr} {na0_10 ca0_10 : Nat} {Aa1 : Option Addr} {na1 ca1 : Nat} {w : World} {R : Value → World → Prop} (h : f11.VC Aa0_0 na0_0 ca0_0 Aa0_1 na0_1 ca0_1 Aa0_2 na0_2 ca0_2 Aa0_3 na0_3 ca0_3 Aa0_4 na0_4 ca0_4 Aa0_5 na0_5 ca0_5 Aa0_6 na0_6 ca0_6 Aa0_7 na0_7 ca0_7 Aa0_8 na0_8 ca0_8 Aa0_9 na0_9 ca0_9 Aa0_10 na0_10 ca0_10 Aa1 na1 ca1 w R) : Calls Try.prog 11 #[.agg #[.slice Aa0_0 na0_0 ca0_0, .slice Aa0_1 na0_1 ca0_1, .slice Aa0_2 na0_2 ca0_2, .slice Aa0_3 na0_3 ca0_3, .slice Aa0_4 na0_4 ca0_4, .slice Aa0_5 na0_5 ca0_5, .slice Aa0_6 na0_6 ca0_6, .slice Aa0_7 na0_7 ca0_7, .slice Aa0_8 na0_8 ca0_8, .slice Aa0_9 na0_9 ca0_9, .slice Aa0_10 na0_10 ca0_10], .slice Aa1 na1 ca1] w fun e w' => ∃ v, e = .returned v ∧ R v w' :=
  funV_sound (fn := Try.f11) (AL := f11.AL) (AC := f11.AC) W4.mixed (by kernel_rfl) (by rw [← f11.eq Aa0_0 na0_0 ca0_0 Aa0_1 na0_1 ca0_1 Aa0_2 na0_2 ca0_2 Aa0_3 na0_3 ca0_3 Aa0_4 na0_4 ca0_4 Aa0_5 na0_5 ca0_5 Aa0_6 na0_6 ca0_6 Aa0_7 na0_7 ca0_7 Aa0_8 na0_8 ca0_8 Aa0_9 na0_9 ca0_9 Aa0_10 na0_10 ca0_10 Aa1 na1 ca1]; exact h)

/-- (*gatehouse/judge.search).from -/
def f33.AL : Nat → Option Ann := fun r => match r with | 6 => some ⟨[(23, .int .i64)], [0, 3, 22]⟩ | _ => none
def f33.AC : Nat → Option Ann := fun _ => none
def f33.VC (a0 : Nat) (xa1_0 : Int) (xa1_1 : Int) (w : World) (R : Value → World → Prop) : Prop :=
  let b0 := World.alloc w (.cells #[.int .i64 xa1_0, .int .i64 xa1_1] 96);
  ∃ d0,
  b0.cell? ⟨w.heap.size, 0, none⟩ = some (.int .i64 d0) ∧
  ∃ g0,
  b0.cell? ⟨w.heap.size, 1, none⟩ = some (.int .i64 g0) ∧
  Calls Try.prog 58 #[.pointer (some ⟨a0, 0, none⟩), .agg #[.int .i64 d0, .int .i64 g0]] b0 fun h0 i0 =>
  ∃ j0,
  h0 = .returned (.bool j0) ∧
  sel j0 (
  R (.bool true) i0) (
  ∃ k0,
  i0.cell? ⟨a0, 12, none⟩ = some (.map k0) ∧
  ∃ p0,
  i0.cell? ⟨w.heap.size, 0, none⟩ = some (.int .i64 p0) ∧
  ∃ q0,
  i0.cell? ⟨w.heap.size, 1, none⟩ = some (.int .i64 q0) ∧
  ∃ t0,
  ∃ u0, (Instr.lookup 90 (.map k0) (.agg #[.int .i64 p0, .int .i64 q0]) false).run Try.prog i0.drew = .ok (.int .i64 t0) u0 ∧
  sel ((t0 : Int) != (0 : Int)) (
  R (.bool false) u0) (
  ∃ v0 x0 y0,
  u0.cell? ⟨a0, 11, none⟩ = some (.slice v0 x0 y0) ∧
  ∃ z0 : Int → World → Nat → Prop,
  (∃ n, z0 0 u0 n) ∧
  ∀ b1 : Env, ∀ d1 g1 h1, z0 d1 g1 h1 →
  sel (decide ((d1 : Int) < ((x0 : Int) : Int))) (
  ∃ i1,
  g1.cell? ⟨w.heap.size, 0, none⟩ = some (.int .i64 i1) ∧
  ∃ j1,
  g1.cell? ⟨w.heap.size, 1, none⟩ = some (.int .i64 j1) ∧
  Calls Try.prog 59 #[.pointer (some ⟨a0, 0, none⟩), .agg #[.int .i64 i1, .int .i64 j1], .int .i64 d1] g1 fun k1 p1 =>
  ∃ q1 t1 u1,
  k1 = .returned (.tuple #[.agg #[.int .i64 q1, .int .i64 t1], .bool u1]) ∧
  let v1 := World.alloc p1 (.cells #[.int .i64 0, .int .i64 0] 96);
  canStore v1 p1.heap.size 0 2 ∧
  let x1 := setCs v1 p1.heap.size 0 [.int .i64 q1, .int .i64 t1];
  sel (!u1) (
  let y1 : Int := IntKind.i64.wrap (d1 + 1);
  ([.pointer (some ⟨a0, 0, none⟩), .pointer (some ⟨w.heap.size, 0, none⟩), .int .i64 (x0 : Int)] : List Value) = ([.pointer (some ⟨a0, 0, none⟩), .pointer (some ⟨w.heap.size, 0, none⟩), .int .i64 (x0 : Int)] : List Value) ∧ ∃ m, m < h1 ∧ z0 y1 x1 m) (
  ∃ z1 b2 d2,
  x1.cell? ⟨a0, 14, none⟩ = some (.slice z1 b2 d2) ∧
  let g2 := World.alloc x1 (.cells #[.int .i64 d1] 3);
  ∃ h2 i2 j2,
  ∃ k2, (Builtin.append_ #[31, 31] 31 #[.slice z1 b2 d2, .slice (some ⟨x1.heap.size, 0, none⟩) 1 1]).run Try.prog g2 = .ok (.slice h2 i2 j2) k2 ∧
  canStore k2 a0 14 1 ∧
  let p2 := setCs k2 a0 14 [.slice h2 i2 j2];
  ∃ q2,
  p2.cell? ⟨p1.heap.size, 0, none⟩ = some (.int .i64 q2) ∧
  ∃ t2,
  p2.cell? ⟨p1.heap.size, 1, none⟩ = some (.int .i64 t2) ∧
  Calls Try.prog 33 #[.pointer (some ⟨a0, 0, none⟩), .agg #[.int .i64 q2, .int .i64 t2]] p2 fun u2 v2 =>
  ∃ x2,
  u2 = .returned (.bool x2) ∧
  sel x2 (
  R (.bool true) v2) (
  ∃ y2 z2 b3,
  v2.cell? ⟨a0, 14, none⟩ = some (.slice y2 z2 b3) ∧
  ∃ d3 g3 h3,
  v2.cell? ⟨a0, 14, none⟩ = some (.slice d3 g3 h3) ∧
  let i3 : Int := IntKind.i64.wrap ((g3 : Int) - 1);
  (0 : Int) ≤ i3 ∧ i3 ≤ (b3 : Int) ∧
  canStore v2 a0 14 1 ∧
  let j3 := setCs v2.drew a0 14 [.slice y2 i3.toNat b3];
  let k3 : Int := IntKind.i64.wrap (d1 + 1);
  ([.pointer (some ⟨a0, 0, none⟩), .pointer (some ⟨w.heap.size, 0, none⟩), .int .i64 (x0 : Int)] : List Value) = ([.pointer (some ⟨a0, 0, none⟩), .pointer (some ⟨w.heap.size, 0, none⟩), .int .i64 (x0 : Int)] : List Value) ∧ ∃ m, m < h1 ∧ z0 k3 j3 m))) (
  ∃ p3,
  g1.cell? ⟨a0, 12, none⟩ = some (.map p3) ∧
  ∃ q3,
  g1.cell? ⟨w.heap.size, 0, none⟩ = some (.int .i64 q3) ∧
  ∃ t3,
  g1.cell? ⟨w.heap.size, 1, none⟩ = some (.int .i64 t3) ∧
  ∃ u3, (Instr.mapUpdate 90 (.map p3) (.agg #[.int .i64 q3, .int .i64 t3]) (.int .i64 1)).run Try.prog g1.drew = .ok () u3 ∧
  R (.bool false) u3)))
theorem f33.eq (a0 : Nat) (xa1_0 : Int) (xa1_1 : Int) (w : World) (R : Value → World → Prop) : f33.VC a0 xa1_0 xa1_1 w R = funV Try.prog Try.f33 f33.AL f33.AC #[.pointer (some ⟨a0, 0, none⟩), .agg #[.int .i64 xa1_0, .int .i64 xa1_1]] w R := by kernel_rfl
theorem f33.calls {a0 : Nat} {xa1_0 : Int} {xa1_1 : Int} {w : World} {R : Value → World → Prop} (h : f33.VC a0 xa1_0 xa1_1 w R) : Calls Try.prog 33 #[.pointer (some ⟨a0, 0, none⟩), .agg #[.int .i64 xa1_0, .int .i64 xa1_1]] w fun e w' => ∃ v, e = .returned v ∧ R v w' :=
  funV_sound (fn := Try.f33) (AL := f33.AL) (AC := f33.AC) W4.mixed (by kernel_rfl) (by rw [← f33.eq a0 xa1_0 xa1_1]; exact h)

/-- gatehouse/gatehouselaw27.at -/
def f18.AL : Nat → Option Ann := fun _ => none
def f18.AC : Nat → Option Ann := fun _ => none
def f18.VC (xa0 : Int) (xa1 : Int) (w : World) (R : Value → World → Prop) : Prop :=
  xa1 ≠ (0 : Int) ∧
  let b0 : Int := Int.tmod xa0 xa1;
  sel (decide ((b0 : Int) < (0 : Int))) (
  let d0 : Int := IntKind.i64.wrap (b0 + xa1);
  R (.int .i64 d0) w) (
  R (.int .i64 b0) w)
theorem f18.eq (xa0 : Int) (xa1 : Int) (w : World) (R : Value → World → Prop) : f18.VC xa0 xa1 w R = funV Try.prog Try.f18 f18.AL f18.AC #[.int .i64 xa0, .int .i64 xa1] w R := by kernel_rfl
theorem f18.calls {xa0 : Int} {xa1 : Int} {w : World} {R : Value → World → Prop} (h : f18.VC xa0 xa1 w R) : Calls Try.prog 18 #[.int .i64 xa0, .int .i64 xa1] w fun e w' => ∃ v, e = .returned v ∧ R v w' :=
  funV_sound (fn := Try.f18) (AL := f18.AL) (AC := f18.AC) W4.mixed (by kernel_rfl) (by rw [← f18.eq xa0 xa1]; exact h)

/-- gatehouse/gatehouselaw27.less -/
def f21.AL : Nat → Option Ann := fun r => match r with | 2 => some ⟨[(5, .int .i64)], [0, 1]⟩ | _ => none
def f21.AC : Nat → Option Ann := fun _ => none
def f21.VC (Aa0 : Option Addr) (na0 ca0 : Nat) (Aa1 : Option Addr) (na1 ca1 : Nat) (w : World) (R : Value → World → Prop) : Prop :=
  ∃ b0 : Int → World → Nat → Prop,
  (∃ n, b0 0 w n) ∧
  ∀ d0 : Env, ∀ g0 h0 i0, b0 g0 h0 i0 →
  sel (decide ((g0 : Int) < ((na0 : Int) : Int))) (
  sel (decide ((g0 : Int) < ((na1 : Int) : Int))) (
  (0 : Int) ≤ g0 ∧ g0 < (na0 : Int) ∧
  needPtr Aa0 fun j0 k0 =>
  (0 : Int) ≤ g0 ∧ g0 < (na1 : Int) ∧
  needPtr Aa1 fun p0 q0 =>
  ∃ t0,
  h0.cell? ⟨j0, k0 + g0.toNat * 1, none⟩ = some (.int .i64 t0) ∧
  ∃ u0,
  h0.cell? ⟨p0, q0 + g0.toNat * 1, none⟩ = some (.int .i64 u0) ∧
  sel ((t0 : Int) != (u0 : Int)) (
  (0 : Int) ≤ g0 ∧ g0 < (na0 : Int) ∧
  needPtr Aa0 fun v0 x0 =>
  (0 : Int) ≤ g0 ∧ g0 < (na1 : Int) ∧
  needPtr Aa1 fun y0 z0 =>
  ∃ b1,
  h0.cell? ⟨v0, x0 + g0.toNat * 1, none⟩ = some (.int .i64 b1) ∧
  ∃ d1,
  h0.cell? ⟨y0, z0 + g0.toNat * 1, none⟩ = some (.int .i64 d1) ∧
  R (.bool (decide ((b1 : Int) < (d1 : Int)))) h0.drew.drew) (
  let g1 : Int := IntKind.i64.wrap (g0 + 1);
  ([.slice Aa0 na0 ca0, .slice Aa1 na1 ca1] : List Value) = ([.slice Aa0 na0 ca0, .slice Aa1 na1 ca1] : List Value) ∧ ∃ m, m < i0 ∧ b0 g1 h0.drew m)) (
  R (.bool (decide (((na0 : Int) : Int) < ((na1 : Int) : Int)))) h0)) (
  R (.bool (decide (((na0 : Int) : Int) < ((na1 : Int) : Int)))) h0)
theorem f21.eq (Aa0 : Option Addr) (na0 ca0 : Nat) (Aa1 : Option Addr) (na1 ca1 : Nat) (w : World) (R : Value → World → Prop) : f21.VC Aa0 na0 ca0 Aa1 na1 ca1 w R = funV Try.prog Try.f21 f21.AL f21.AC #[.slice Aa0 na0 ca0, .slice Aa1 na1 ca1] w R := by kernel_rfl
theorem f21.calls {Aa0 : Option Addr} {na0 ca0 : Nat} {Aa1 : Option Addr} {na1 ca1 : Nat} {w : World} {R : Value → World → Prop} (h : f21.VC Aa0 na0 ca0 Aa1 na1 ca1 w R) : Calls Try.prog 21 #[.slice Aa0 na0 ca0, .slice Aa1 na1 ca1] w fun e w' => ∃ v, e = .returned v ∧ R v w' :=
  funV_sound (fn := Try.f21) (AL := f21.AL) (AC := f21.AC) W4.mixed (by kernel_rfl) (by rw [← f21.eq Aa0 na0 ca0 Aa1 na1 ca1]; exact h)

/-- gatehouse/gatehouselaw27.open -/
def f22.AL : Nat → Option Ann := fun _ => none
def f22.AC : Nat → Option Ann := fun _ => none
def f22.VC  (w : World) (R : Value → World → Prop) : Prop :=
  let b0 := World.alloc w (.cells #[.slice none 0 0, .slice none 0 0, .slice none 0 0, .slice none 0 0, .slice none 0 0, .slice none 0 0, .slice none 0 0, .slice none 0 0, .slice none 0 0, .slice none 0 0, .slice none 0 0] 28);
  Calls Try.prog 24 #[] b0 fun d0 g0 =>
  ∃ h0 i0 j0 k0 p0 q0 t0 u0 v0 x0 y0 z0 b1 d1 g1 h1 i1 j1 k1 p1 q1 t1 u1 v1 x1 y1 z1 b2 d2 g2 h2 i2 j2,
  d0 = .returned (.agg #[.slice h0 i0 j0, .slice k0 p0 q0, .slice t0 u0 v0, .slice x0 y0 z0, .slice b1 d1 g1, .slice h1 i1 j1, .slice k1 p1 q1, .slice t1 u1 v1, .slice x1 y1 z1, .slice b2 d2 g2, .slice h2 i2 j2]) ∧
  let k2 := World.alloc g0 (.cells #[.slice none 0 0, .slice none 0 0, .slice none 0 0, .slice none 0 0, .slice none 0 0, .slice none 0 0, .slice none 0 0, .slice none 0 0, .slice none 0 0, .slice none 0 0, .slice none 0 0] 28);
  canStore k2 g0.heap.size 0 11 ∧
  let p2 := setCs k2 g0.heap.size 0 [.slice h0 i0 j0, .slice k0 p0 q0, .slice t0 u0 v0, .slice x0 y0 z0, .slice b1 d1 g1, .slice h1 i1 j1, .slice k1 p1 q1, .slice t1 u1 v1, .slice x1 y1 z1, .slice b2 d2 g2, .slice h2 i2 j2];
  let q2 := World.alloc p2 (.cells #[.bool false, .string ⟨#[97]⟩, .string ⟨#[111]⟩, .slice none 0 0, .int .i8 0, .float .f64 0] 88);
  canStore q2 g0.heap.size 9 1 ∧
  let t2 := setCs q2 g0.heap.size 9 [.slice (some ⟨p2.heap.size, 0, none⟩) 1 1];
  ∃ u2 v2 x2,
  t2.cell? ⟨g0.heap.size, 0, none⟩ = some (.slice u2 v2 x2) ∧
  ∃ y2 z2 b3,
  t2.cell? ⟨g0.heap.size, 1, none⟩ = some (.slice y2 z2 b3) ∧
  ∃ d3 g3 h3,
  t2.cell? ⟨g0.heap.size, 2, none⟩ = some (.slice d3 g3 h3) ∧
  ∃ i3 j3 k3,
  t2.cell? ⟨g0.heap.size, 3, none⟩ = some (.slice i3 j3 k3) ∧
  ∃ p3 q3 t3,
  t2.cell? ⟨g0.heap.size, 4, none⟩ = some (.slice p3 q3 t3) ∧
  ∃ u3 v3 x3,
  t2.cell? ⟨g0.heap.size, 5, none⟩ = some (.slice u3 v3 x3) ∧
  ∃ y3 z3 b4,
  t2.cell? ⟨g0.heap.size, 6, none⟩ = some (.slice y3 z3 b4) ∧
  ∃ d4 g4 h4,
  t2.cell? ⟨g0.heap.size, 7, none⟩ = some (.slice d4 g4 h4) ∧
  ∃ i4 j4 k4,
  t2.cell? ⟨g0.heap.size, 8, none⟩ = some (.slice i4 j4 k4) ∧
  ∃ p4 q4 t4,
  t2.cell? ⟨g0.heap.size, 9, none⟩ = some (.slice p4 q4 t4) ∧
  ∃ u4 v4 x4,
  t2.cell? ⟨g0.heap.size, 10, none⟩ = some (.slice u4 v4 x4) ∧
  canStore t2 w.heap.size 0 11 ∧
  let y4 := setCs t2 w.heap.size 0 [.slice u2 v2 x2, .slice y2 z2 b3, .slice d3 g3 h3, .slice i3 j3 k3, .slice p3 q3 t3, .slice u3 v3 x3, .slice y3 z3 b4, .slice d4 g4 h4, .slice i4 j4 k4, .slice p4 q4 t4, .slice u4 v4 x4];
  ∃ z4 b5 d5,
  y4.cell? ⟨w.heap.size, 0, none⟩ = some (.slice z4 b5 d5) ∧
  ∃ g5 h5 i5,
  y4.cell? ⟨w.heap.size, 1, none⟩ = some (.slice g5 h5 i5) ∧
  ∃ j5 k5 p5,
  y4.cell? ⟨w.heap.size, 2, none⟩ = some (.slice j5 k5 p5) ∧
  ∃ q5 t5 u5,
  y4.cell? ⟨w.heap.size, 3, none⟩ = some (.slice q5 t5 u5) ∧
  ∃ v5 x5 y5,
  y4.cell? ⟨w.heap.size, 4, none⟩ = some (.slice v5 x5 y5) ∧
  ∃ z5 b6 d6,
  y4.cell? ⟨w.heap.size, 5, none⟩ = some (.slice z5 b6 d6) ∧
  ∃ g6 h6 i6,
  y4.cell? ⟨w.heap.size, 6, none⟩ = some (.slice g6 h6 i6) ∧
  ∃ j6 k6 p6,
  y4.cell? ⟨w.heap.size, 7, none⟩ = some (.slice j6 k6 p6) ∧
  ∃ q6 t6 u6,
  y4.cell? ⟨w.heap.size, 8, none⟩ = some (.slice q6 t6 u6) ∧
  ∃ v6 x6 y6,
  y4.cell? ⟨w.heap.size, 9, none⟩ = some (.slice v6 x6 y6) ∧
  ∃ z6 b7 d7,
  y4.cell? ⟨w.heap.size, 10, none⟩ = some (.slice z6 b7 d7) ∧
  R (.agg #[.slice z4 b5 d5, .slice g5 h5 i5, .slice j5 k5 p5, .slice q5 t5 u5, .slice v5 x5 y5, .slice z5 b6 d6, .slice g6 h6 i6, .slice j6 k6 p6, .slice q6 t6 u6, .slice v6 x6 y6, .slice z6 b7 d7]) y4
theorem f22.eq  (w : World) (R : Value → World → Prop) : f22.VC  w R = funV Try.prog Try.f22 f22.AL f22.AC #[] w R := by kernel_rfl
theorem f22.calls {w : World} {R : Value → World → Prop} (h : f22.VC  w R) : Calls Try.prog 22 #[] w fun e w' => ∃ v, e = .returned v ∧ R v w' :=
  funV_sound (fn := Try.f22) (AL := f22.AL) (AC := f22.AC) W4.mixed (by kernel_rfl) (by rw [← f22.eq ]; exact h)

/-- gatehouse/gatehouselaw27.entry -/
def f23.AL : Nat → Option Ann := fun _ => none
def f23.AC : Nat → Option Ann := fun _ => none
def f23.VC  (w : World) (R : Value → World → Prop) : Prop :=
  let b0 := World.alloc w (.cells #[.string ⟨#[]⟩, .string ⟨#[]⟩, .string ⟨#[]⟩] 37);
  canStore b0 w.heap.size 0 3 ∧
  let d0 := setCs b0 w.heap.size 0 [.string ⟨#[97]⟩, .string ⟨#[111]⟩, .string ⟨#[120]⟩];
  ∃ g0,
  d0.cell? ⟨w.heap.size, 0, none⟩ = some (.string g0) ∧
  ∃ h0,
  d0.cell? ⟨w.heap.size, 1, none⟩ = some (.string h0) ∧
  ∃ i0,
  d0.cell? ⟨w.heap.size, 2, none⟩ = some (.string i0) ∧
  R (.agg #[.string g0, .string h0, .string i0]) d0
theorem f23.eq  (w : World) (R : Value → World → Prop) : f23.VC  w R = funV Try.prog Try.f23 f23.AL f23.AC #[] w R := by kernel_rfl
theorem f23.calls {w : World} {R : Value → World → Prop} (h : f23.VC  w R) : Calls Try.prog 23 #[] w fun e w' => ∃ v, e = .returned v ∧ R v w' :=
  funV_sound (fn := Try.f23) (AL := f23.AL) (AC := f23.AC) W4.mixed (by kernel_rfl) (by rw [← f23.eq ]; exact h)

/-- gatehouse/gatehouselaw27.shut -/
def f24.AL : Nat → Option Ann := fun _ => none
def f24.AC : Nat → Option Ann := fun _ => none
def f24.VC  (w : World) (R : Value → World → Prop) : Prop :=
  let b0 := World.alloc w (.cells #[.slice none 0 0, .slice none 0 0, .slice none 0 0, .slice none 0 0, .slice none 0 0, .slice none 0 0, .slice none 0 0, .slice none 0 0, .slice none 0 0, .slice none 0 0, .slice none 0 0] 28);
  let d0 := World.alloc b0 (.cells #[.string ⟨#[120]⟩] 9);
  let g0 := World.alloc d0 (.cells #[.string ⟨#[97]⟩, .float .f64 4607182418800017408] 110);
  let h0 := World.alloc g0 (.cells #[.string ⟨#[111]⟩] 9);
  canStore h0 w.heap.size 0 11 ∧
  let i0 := setCs h0 w.heap.size 0 [.slice (some ⟨b0.heap.size, 0, none⟩) 1 1, .slice (some ⟨d0.heap.size, 0, none⟩) 1 1, .slice none 0 0, .slice (some ⟨g0.heap.size, 0, none⟩) 1 1, .slice none 0 0, .slice none 0 0, .slice none 0 0, .slice none 0 0, .slice none 0 0, .slice none 0 0, .slice none 0 0];
  ∃ j0 k0 p0,
  i0.cell? ⟨w.heap.size, 0, none⟩ = some (.slice j0 k0 p0) ∧
  ∃ q0 t0 u0,
  i0.cell? ⟨w.heap.size, 1, none⟩ = some (.slice q0 t0 u0) ∧
  ∃ v0 x0 y0,
  i0.cell? ⟨w.heap.size, 2, none⟩ = some (.slice v0 x0 y0) ∧
  ∃ z0 b1 d1,
  i0.cell? ⟨w.heap.size, 3, none⟩ = some (.slice z0 b1 d1) ∧
  ∃ g1 h1 i1,
  i0.cell? ⟨w.heap.size, 4, none⟩ = some (.slice g1 h1 i1) ∧
  ∃ j1 k1 p1,
  i0.cell? ⟨w.heap.size, 5, none⟩ = some (.slice j1 k1 p1) ∧
  ∃ q1 t1 u1,
  i0.cell? ⟨w.heap.size, 6, none⟩ = some (.slice q1 t1 u1) ∧
  ∃ v1 x1 y1,
  i0.cell? ⟨w.heap.size, 7, none⟩ = some (.slice v1 x1 y1) ∧
  ∃ z1 b2 d2,
  i0.cell? ⟨w.heap.size, 8, none⟩ = some (.slice z1 b2 d2) ∧
  ∃ g2 h2 i2,
  i0.cell? ⟨w.heap.size, 9, none⟩ = some (.slice g2 h2 i2) ∧
  ∃ j2 k2 p2,
  i0.cell? ⟨w.heap.size, 10, none⟩ = some (.slice j2 k2 p2) ∧
  R (.agg #[.slice j0 k0 p0, .slice q0 t0 u0, .slice v0 x0 y0, .slice z0 b1 d1, .slice g1 h1 i1, .slice j1 k1 p1, .slice q1 t1 u1, .slice v1 x1 y1, .slice z1 b2 d2, .slice g2 h2 i2, .slice j2 k2 p2]) i0
theorem f24.eq  (w : World) (R : Value → World → Prop) : f24.VC  w R = funV Try.prog Try.f24 f24.AL f24.AC #[] w R := by kernel_rfl
theorem f24.calls {w : World} {R : Value → World → Prop} (h : f24.VC  w R) : Calls Try.prog 24 #[] w fun e w' => ∃ v, e = .returned v ∧ R v w' :=
  funV_sound (fn := Try.f24) (AL := f24.AL) (AC := f24.AC) W4.mixed (by kernel_rfl) (by rw [← f24.eq ]; exact h)

end Go.Proofs.Ytddbebhklmaeoaa
