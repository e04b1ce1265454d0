/- The plain statements of some functions, printed by vcgen.py. -/
import Derived.Test.YtddbebhklmaeoaaM5
import Derived.Test.YtddbebhklmaeoaaProg
import Derived.KernelRfl
set_option maxRecDepth 100000
set_option maxHeartbeats 4000000
set_option linter.unusedVariables false
namespace Go.Proofs.Ytddbebhklmaeoaa
open Go Go.Proofs.Ytddbebhklmaeoaa.Vc
theorem W3.mixed : Try.prog.follows .mixedOrders = true := by kernel_rfl
/-- gatehouse/gatehouseref09.texts -/
def f31.AL : Nat → Option Ann := fun _ => none
def f31.AC : Nat → Option Ann := fun _ => none
def f31.VC (Aa0 : Option Addr) (na0 ca0 : Nat) (Aa1 : Option Addr) (na1 ca1 : Nat) (w : World) (R : Value → World → Prop) : Prop :=
  ∃ b0 d0 g0,
  ∃ h0, (Builtin.append_ #[22, 22] 22 #[.slice none 0 0, .slice Aa0 na0 ca0]).run Try.prog w = .ok (.slice b0 d0 g0) h0 ∧
  ∃ i0 j0 k0,
  ∃ p0, (Builtin.append_ #[22, 22] 22 #[.slice b0 d0 g0, .slice Aa1 na1 ca1]).run Try.prog h0 = .ok (.slice i0 j0 k0) p0 ∧
  R (.slice i0 j0 k0) p0
theorem f31.eq (Aa0 : Option Addr) (na0 ca0 : Nat) (Aa1 : Option Addr) (na1 ca1 : Nat) (w : World) (R : Value → World → Prop) : f31.VC Aa0 na0 ca0 Aa1 na1 ca1 w R = funV Try.prog Try.f31 f31.AL f31.AC #[.slice Aa0 na0 ca0, .slice Aa1 na1 ca1] w R := by kernel_rfl
theorem f31.calls {Aa0 : Option Addr} {na0 ca0 : Nat} {Aa1 : Option Addr} {na1 ca1 : Nat} {w : World} {R : Value → World → Prop} (h : f31.VC Aa0 na0 ca0 Aa1 na1 ca1 w R) : Calls Try.prog 31 #[.slice Aa0 na0 ca0, .slice Aa1 na1 ca1] w fun e w' => ∃ v, e = .returned v ∧ R v w' :=
  funV_sound (fn := Try.f31) (AL := f31.AL) (AC := f31.AC) W3.mixed (by kernel_rfl) (by rw [← f31.eq Aa0 na0 ca0 Aa1 na1 ca1]; exact h)

/-- gatehouse/gatehouseref09.Copy -/
def f10.AL : Nat → Option Ann := fun r => match r with | 8 => some ⟨[(4, .int .i64)], [1, 2, 3]⟩ | _ => none
def f10.AC : Nat → Option Ann := fun r => match r with | 2 => some ⟨[(3, .blk)], [1, 2]⟩ | 1000001 => some ⟨[], []⟩ | _ => none
def f10.VC (Aa0_0 : Option Addr) (na0_0 ca0_0 : Nat) (Aa0_1 : Option Addr) (na0_1 ca0_1 : Nat) (Aa0_2 : Option Addr) (na0_2 ca0_2 : Nat) (Aa0_3 : Option Addr) (na0_3 ca0_3 : Nat) (Aa0_4 : Option Addr) (na0_4 ca0_4 : Nat) (Aa0_5 : Option Addr) (na0_5 ca0_5 : Nat) (Aa0_6 : Option Addr) (na0_6 ca0_6 : Nat) (Aa0_7 : Option Addr) (na0_7 ca0_7 : Nat) (Aa0_8 : Option Addr) (na0_8 ca0_8 : Nat) (Aa0_9 : Option Addr) (na0_9 ca0_9 : Nat) (Aa0_10 : Option Addr) (na0_10 ca0_10 : Nat) (w : World) (R : Value → World → Prop) : Prop :=
  let b0 := World.alloc w (.cells #[.slice Aa0_0 na0_0 ca0_0, .slice Aa0_1 na0_1 ca0_1, .slice Aa0_2 na0_2 ca0_2, .slice Aa0_3 na0_3 ca0_3, .slice Aa0_4 na0_4 ca0_4, .slice Aa0_5 na0_5 ca0_5, .slice Aa0_6 na0_6 ca0_6, .slice Aa0_7 na0_7 ca0_7, .slice Aa0_8 na0_8 ca0_8, .slice Aa0_9 na0_9 ca0_9, .slice Aa0_10 na0_10 ca0_10] 28);
  let d0 := World.alloc b0 (.cells #[.slice none 0 0, .slice none 0 0, .slice none 0 0, .slice none 0 0, .slice none 0 0, .slice none 0 0, .slice none 0 0, .slice none 0 0, .slice none 0 0, .slice none 0 0, .slice none 0 0] 28);
  ∃ g0 : Nat → Nat → World → Prop,
  (∃ h0 i0 j0,
  d0.cell? ⟨w.heap.size, 0, none⟩ = some (.slice h0 i0 j0) ∧
  ∃ k0 p0 q0,
  d0.cell? ⟨w.heap.size, 2, none⟩ = some (.slice k0 p0 q0) ∧
  ∃ t0 u0 v0,
  d0.cell? ⟨w.heap.size, 3, none⟩ = some (.slice t0 u0 v0) ∧
  ∃ x0 y0 z0,
  d0.cell? ⟨w.heap.size, 4, none⟩ = some (.slice x0 y0 z0) ∧
  (Calls Try.prog 31 #[.slice h0 i0 j0, .slice none 0 0] d0.drew fun b1 d1 =>
  ∃ g1 h1 i1,
  b1 = .returned (.slice g1 h1 i1) ∧
  (d1.cell? ⟨w.heap.size, 4, none⟩ = some (.slice x0 y0 z0) ∧ d1.cell? ⟨w.heap.size, 3, none⟩ = some (.slice t0 u0 v0) ∧ d1.cell? ⟨w.heap.size, 2, none⟩ = some (.slice k0 p0 q0) ∧ d1.cell? ⟨w.heap.size, 0, none⟩ = some (.slice h0 i0 j0) ∧ True) ∧
  (Calls Try.prog 31 #[.slice k0 p0 q0, .slice none 0 0] d1 fun j1 k1 =>
  ∃ p1 q1 t1,
  j1 = .returned (.slice p1 q1 t1) ∧
  (k1.cell? ⟨w.heap.size, 4, none⟩ = some (.slice x0 y0 z0) ∧ k1.cell? ⟨w.heap.size, 3, none⟩ = some (.slice t0 u0 v0) ∧ k1.cell? ⟨w.heap.size, 2, none⟩ = some (.slice k0 p0 q0) ∧ k1.cell? ⟨w.heap.size, 0, none⟩ = some (.slice h0 i0 j0) ∧ True) ∧
  (Calls Try.prog 31 #[.slice t0 u0 v0, .slice none 0 0] k1 fun u1 v1 =>
  ∃ x1 y1 z1,
  u1 = .returned (.slice x1 y1 z1) ∧
  (v1.cell? ⟨w.heap.size, 4, none⟩ = some (.slice x0 y0 z0) ∧ v1.cell? ⟨w.heap.size, 3, none⟩ = some (.slice t0 u0 v0) ∧ v1.cell? ⟨w.heap.size, 2, none⟩ = some (.slice k0 p0 q0) ∧ v1.cell? ⟨w.heap.size, 0, none⟩ = some (.slice h0 i0 j0) ∧ True) ∧
  (Calls Try.prog 31 #[.slice x0 y0 z0, .slice none 0 0] v1 fun b2 d2 =>
  ∃ g2 h2 i2,
  b2 = .returned (.slice g2 h2 i2) ∧
  (d2.cell? ⟨w.heap.size, 4, none⟩ = some (.slice x0 y0 z0) ∧ d2.cell? ⟨w.heap.size, 3, none⟩ = some (.slice t0 u0 v0) ∧ d2.cell? ⟨w.heap.size, 2, none⟩ = some (.slice k0 p0 q0) ∧ d2.cell? ⟨w.heap.size, 0, none⟩ = some (.slice h0 i0 j0) ∧ True) ∧
  let j2 := World.alloc d2 (.cells #[.slice none 0 0, .slice none 0 0, .slice none 0 0, .slice none 0 0, .slice none 0 0, .slice none 0 0, .slice none 0 0, .slice none 0 0, .slice none 0 0, .slice none 0 0, .slice none 0 0] 28);
  (j2.cell? ⟨w.heap.size, 4, none⟩ = some (.slice x0 y0 z0) ∧ j2.cell? ⟨w.heap.size, 3, none⟩ = some (.slice t0 u0 v0) ∧ j2.cell? ⟨w.heap.size, 2, none⟩ = some (.slice k0 p0 q0) ∧ j2.cell? ⟨w.heap.size, 0, none⟩ = some (.slice h0 i0 j0) ∧ True) ∧
  canStore j2 d2.heap.size 0 11 ∧
  let k2 := setCs j2 d2.heap.size 0 [.slice g1 h1 i1, .slice none 0 0, .slice p1 q1 t1, .slice x1 y1 z1, .slice g2 h2 i2, .slice none 0 0, .slice none 0 0, .slice none 0 0, .slice none 0 0, .slice none 0 0, .slice none 0 0];
  (k2.cell? ⟨w.heap.size, 4, none⟩ = some (.slice x0 y0 z0) ∧ k2.cell? ⟨w.heap.size, 3, none⟩ = some (.slice t0 u0 v0) ∧ k2.cell? ⟨w.heap.size, 2, none⟩ = some (.slice k0 p0 q0) ∧ k2.cell? ⟨w.heap.size, 0, none⟩ = some (.slice h0 i0 j0) ∧ True) ∧
  ([.pointer (some ⟨w.heap.size, 0, none⟩), .pointer (some ⟨b0.heap.size, 0, none⟩)] : List Value) = ([.pointer (some ⟨w.heap.size, 0, none⟩), .pointer (some ⟨b0.heap.size, 0, none⟩)] : List Value) ∧ g0 d2.heap.size 0 k2) ∧
  (let p2 := World.alloc v1 (.cells #[.slice none 0 0, .slice none 0 0, .slice none 0 0, .slice none 0 0, .slice none 0 0, .slice none 0 0, .slice none 0 0, .slice none 0 0, .slice none 0 0, .slice none 0 0, .slice none 0 0] 28);
  (p2.cell? ⟨w.heap.size, 4, none⟩ = some (.slice x0 y0 z0) ∧ p2.cell? ⟨w.heap.size, 3, none⟩ = some (.slice t0 u0 v0) ∧ p2.cell? ⟨w.heap.size, 2, none⟩ = some (.slice k0 p0 q0) ∧ p2.cell? ⟨w.heap.size, 0, none⟩ = some (.slice h0 i0 j0) ∧ True) ∧
  Calls Try.prog 31 #[.slice x0 y0 z0, .slice none 0 0] p2 fun q2 t2 =>
  ∃ u2 v2 x2,
  q2 = .returned (.slice u2 v2 x2) ∧
  (t2.cell? ⟨w.heap.size, 4, none⟩ = some (.slice x0 y0 z0) ∧ t2.cell? ⟨w.heap.size, 3, none⟩ = some (.slice t0 u0 v0) ∧ t2.cell? ⟨w.heap.size, 2, none⟩ = some (.slice k0 p0 q0) ∧ t2.cell? ⟨w.heap.size, 0, none⟩ = some (.slice h0 i0 j0) ∧ True) ∧
  canStore t2 v1.heap.size 0 11 ∧
  let y2 := setCs t2 v1.heap.size 0 [.slice g1 h1 i1, .slice none 0 0, .slice p1 q1 t1, .slice x1 y1 z1, .slice u2 v2 x2, .slice none 0 0, .slice none 0 0, .slice none 0 0, .slice none 0 0, .slice none 0 0, .slice none 0 0];
  (y2.cell? ⟨w.heap.size, 4, none⟩ = some (.slice x0 y0 z0) ∧ y2.cell? ⟨w.heap.size, 3, none⟩ = some (.slice t0 u0 v0) ∧ y2.cell? ⟨w.heap.size, 2, none⟩ = some (.slice k0 p0 q0) ∧ y2.cell? ⟨w.heap.size, 0, none⟩ = some (.slice h0 i0 j0) ∧ True) ∧
  ([.pointer (some ⟨w.heap.size, 0, none⟩), .pointer (some ⟨b0.heap.size, 0, none⟩)] : List Value) = ([.pointer (some ⟨w.heap.size, 0, none⟩), .pointer (some ⟨b0.heap.size, 0, none⟩)] : List Value) ∧ g0 v1.heap.size 0 y2) ∧ True) ∧
  (let z2 := World.alloc k1 (.cells #[.slice none 0 0, .slice none 0 0, .slice none 0 0, .slice none 0 0, .slice none 0 0, .slice none 0 0, .slice none 0 0, .slice none 0 0, .slice none 0 0, .slice none 0 0, .slice none 0 0] 28);
  (z2.cell? ⟨w.heap.size, 4, none⟩ = some (.slice x0 y0 z0) ∧ z2.cell? ⟨w.heap.size, 3, none⟩ = some (.slice t0 u0 v0) ∧ z2.cell? ⟨w.heap.size, 2, none⟩ = some (.slice k0 p0 q0) ∧ z2.cell? ⟨w.heap.size, 0, none⟩ = some (.slice h0 i0 j0) ∧ True) ∧
  Calls Try.prog 31 #[.slice t0 u0 v0, .slice none 0 0] z2 fun b3 d3 =>
  ∃ g3 h3 i3,
  b3 = .returned (.slice g3 h3 i3) ∧
  (d3.cell? ⟨w.heap.size, 4, none⟩ = some (.slice x0 y0 z0) ∧ d3.cell? ⟨w.heap.size, 3, none⟩ = some (.slice t0 u0 v0) ∧ d3.cell? ⟨w.heap.size, 2, none⟩ = some (.slice k0 p0 q0) ∧ d3.cell? ⟨w.heap.size, 0, none⟩ = some (.slice h0 i0 j0) ∧ True) ∧
  Calls Try.prog 31 #[.slice x0 y0 z0, .slice none 0 0] d3 fun j3 k3 =>
  ∃ p3 q3 t3,
  j3 = .returned (.slice p3 q3 t3) ∧
  (k3.cell? ⟨w.heap.size, 4, none⟩ = some (.slice x0 y0 z0) ∧ k3.cell? ⟨w.heap.size, 3, none⟩ = some (.slice t0 u0 v0) ∧ k3.cell? ⟨w.heap.size, 2, none⟩ = some (.slice k0 p0 q0) ∧ k3.cell? ⟨w.heap.size, 0, none⟩ = some (.slice h0 i0 j0) ∧ True) ∧
  canStore k3 k1.heap.size 0 11 ∧
  let u3 := setCs k3 k1.heap.size 0 [.slice g1 h1 i1, .slice none 0 0, .slice p1 q1 t1, .slice g3 h3 i3, .slice p3 q3 t3, .slice none 0 0, .slice none 0 0, .slice none 0 0, .slice none 0 0, .slice none 0 0, .slice none 0 0];
  (u3.cell? ⟨w.heap.size, 4, none⟩ = some (.slice x0 y0 z0) ∧ u3.cell? ⟨w.heap.size, 3, none⟩ = some (.slice t0 u0 v0) ∧ u3.cell? ⟨w.heap.size, 2, none⟩ = some (.slice k0 p0 q0) ∧ u3.cell? ⟨w.heap.size, 0, none⟩ = some (.slice h0 i0 j0) ∧ True) ∧
  ([.pointer (some ⟨w.heap.size, 0, none⟩), .pointer (some ⟨b0.heap.size, 0, none⟩)] : List Value) = ([.pointer (some ⟨w.heap.size, 0, none⟩), .pointer (some ⟨b0.heap.size, 0, none⟩)] : List Value) ∧ g0 k1.heap.size 0 u3) ∧ True) ∧
  (let v3 := World.alloc d1 (.cells #[.slice none 0 0, .slice none 0 0, .slice none 0 0, .slice none 0 0, .slice none 0 0, .slice none 0 0, .slice none 0 0, .slice none 0 0, .slice none 0 0, .slice none 0 0, .slice none 0 0] 28);
  (v3.cell? ⟨w.heap.size, 4, none⟩ = some (.slice x0 y0 z0) ∧ v3.cell? ⟨w.heap.size, 3, none⟩ = some (.slice t0 u0 v0) ∧ v3.cell? ⟨w.heap.size, 2, none⟩ = some (.slice k0 p0 q0) ∧ v3.cell? ⟨w.heap.size, 0, none⟩ = some (.slice h0 i0 j0) ∧ True) ∧
  Calls Try.prog 31 #[.slice k0 p0 q0, .slice none 0 0] v3 fun x3 y3 =>
  ∃ z3 b4 d4,
  x3 = .returned (.slice z3 b4 d4) ∧
  (y3.cell? ⟨w.heap.size, 4, none⟩ = some (.slice x0 y0 z0) ∧ y3.cell? ⟨w.heap.size, 3, none⟩ = some (.slice t0 u0 v0) ∧ y3.cell? ⟨w.heap.size, 2, none⟩ = some (.slice k0 p0 q0) ∧ y3.cell? ⟨w.heap.size, 0, none⟩ = some (.slice h0 i0 j0) ∧ True) ∧
  Calls Try.prog 31 #[.slice t0 u0 v0, .slice none 0 0] y3 fun g4 h4 =>
  ∃ i4 j4 k4,
  g4 = .returned (.slice i4 j4 k4) ∧
  (h4.cell? ⟨w.heap.size, 4, none⟩ = some (.slice x0 y0 z0) ∧ h4.cell? ⟨w.heap.size, 3, none⟩ = some (.slice t0 u0 v0) ∧ h4.cell? ⟨w.heap.size, 2, none⟩ = some (.slice k0 p0 q0) ∧ h4.cell? ⟨w.heap.size, 0, none⟩ = some (.slice h0 i0 j0) ∧ True) ∧
  Calls Try.prog 31 #[.slice x0 y0 z0, .slice none 0 0] h4 fun p4 q4 =>
  ∃ t4 u4 v4,
  p4 = .returned (.slice t4 u4 v4) ∧
  (q4.cell? ⟨w.heap.size, 4, none⟩ = some (.slice x0 y0 z0) ∧ q4.cell? ⟨w.heap.size, 3, none⟩ = some (.slice t0 u0 v0) ∧ q4.cell? ⟨w.heap.size, 2, none⟩ = some (.slice k0 p0 q0) ∧ q4.cell? ⟨w.heap.size, 0, none⟩ = some (.slice h0 i0 j0) ∧ True) ∧
  canStore q4 d1.heap.size 0 11 ∧
  let x4 := setCs q4 d1.heap.size 0 [.slice g1 h1 i1, .slice none 0 0, .slice z3 b4 d4, .slice i4 j4 k4, .slice t4 u4 v4, .slice none 0 0, .slice none 0 0, .slice none 0 0, .slice none 0 0, .slice none 0 0, .slice none 0 0];
  (x4.cell? ⟨w.heap.size, 4, none⟩ = some (.slice x0 y0 z0) ∧ x4.cell? ⟨w.heap.size, 3, none⟩ = some (.slice t0 u0 v0) ∧ x4.cell? ⟨w.heap.size, 2, none⟩ = some (.slice k0 p0 q0) ∧ x4.cell? ⟨w.heap.size, 0, none⟩ = some (.slice h0 i0 j0) ∧ True) ∧
  ([.pointer (some ⟨w.heap.size, 0, none⟩), .pointer (some ⟨b0.heap.size, 0, none⟩)] : List Value) = ([.pointer (some ⟨w.heap.size, 0, none⟩), .pointer (some ⟨b0.heap.size, 0, none⟩)] : List Value) ∧ g0 d1.heap.size 0 x4) ∧ True) ∧
  (let y4 := World.alloc d0.drew (.cells #[.slice none 0 0, .slice none 0 0, .slice none 0 0, .slice none 0 0, .slice none 0 0, .slice none 0 0, .slice none 0 0, .slice none 0 0, .slice none 0 0, .slice none 0 0, .slice none 0 0] 28);
  (y4.cell? ⟨w.heap.size, 4, none⟩ = some (.slice x0 y0 z0) ∧ y4.cell? ⟨w.heap.size, 3, none⟩ = some (.slice t0 u0 v0) ∧ y4.cell? ⟨w.heap.size, 2, none⟩ = some (.slice k0 p0 q0) ∧ y4.cell? ⟨w.heap.size, 0, none⟩ = some (.slice h0 i0 j0) ∧ True) ∧
  Calls Try.prog 31 #[.slice h0 i0 j0, .slice none 0 0] y4 fun z4 b5 =>
  ∃ d5 g5 h5,
  z4 = .returned (.slice d5 g5 h5) ∧
  (b5.cell? ⟨w.heap.size, 4, none⟩ = some (.slice x0 y0 z0) ∧ b5.cell? ⟨w.heap.size, 3, none⟩ = some (.slice t0 u0 v0) ∧ b5.cell? ⟨w.heap.size, 2, none⟩ = some (.slice k0 p0 q0) ∧ b5.cell? ⟨w.heap.size, 0, none⟩ = some (.slice h0 i0 j0) ∧ True) ∧
  Calls Try.prog 31 #[.slice k0 p0 q0, .slice none 0 0] b5 fun i5 j5 =>
  ∃ k5 p5 q5,
  i5 = .returned (.slice k5 p5 q5) ∧
  (j5.cell? ⟨w.heap.size, 4, none⟩ = some (.slice x0 y0 z0) ∧ j5.cell? ⟨w.heap.size, 3, none⟩ = some (.slice t0 u0 v0) ∧ j5.cell? ⟨w.heap.size, 2, none⟩ = some (.slice k0 p0 q0) ∧ j5.cell? ⟨w.heap.size, 0, none⟩ = some (.slice h0 i0 j0) ∧ True) ∧
  Calls Try.prog 31 #[.slice t0 u0 v0, .slice none 0 0] j5 fun t5 u5 =>
  ∃ v5 x5 y5,
  t5 = .returned (.slice v5 x5 y5) ∧
  (u5.cell? ⟨w.heap.size, 4, none⟩ = some (.slice x0 y0 z0) ∧ u5.cell? ⟨w.heap.size, 3, none⟩ = some (.slice t0 u0 v0) ∧ u5.cell? ⟨w.heap.size, 2, none⟩ = some (.slice k0 p0 q0) ∧ u5.cell? ⟨w.heap.size, 0, none⟩ = some (.slice h0 i0 j0) ∧ True) ∧
  Calls Try.prog 31 #[.slice x0 y0 z0, .slice none 0 0] u5 fun z5 b6 =>
  ∃ d6 g6 h6,
  z5 = .returned (.slice d6 g6 h6) ∧
  (b6.cell? ⟨w.heap.size, 4, none⟩ = some (.slice x0 y0 z0) ∧ b6.cell? ⟨w.heap.size, 3, none⟩ = some (.slice t0 u0 v0) ∧ b6.cell? ⟨w.heap.size, 2, none⟩ = some (.slice k0 p0 q0) ∧ b6.cell? ⟨w.heap.size, 0, none⟩ = some (.slice h0 i0 j0) ∧ True) ∧
  canStore b6 d0.heap.size 0 11 ∧
  let i6 := setCs b6 d0.heap.size 0 [.slice d5 g5 h5, .slice none 0 0, .slice k5 p5 q5, .slice v5 x5 y5, .slice d6 g6 h6, .slice none 0 0, .slice none 0 0, .slice none 0 0, .slice none 0 0, .slice none 0 0, .slice none 0 0];
  (i6.cell? ⟨w.heap.size, 4, none⟩ = some (.slice x0 y0 z0) ∧ i6.cell? ⟨w.heap.size, 3, none⟩ = some (.slice t0 u0 v0) ∧ i6.cell? ⟨w.heap.size, 2, none⟩ = some (.slice k0 p0 q0) ∧ i6.cell? ⟨w.heap.size, 0, none⟩ = some (.slice h0 i0 j0) ∧ True) ∧
  ([.pointer (some ⟨w.heap.size, 0, none⟩), .pointer (some ⟨b0.heap.size, 0, none⟩)] : List Value) = ([.pointer (some ⟨w.heap.size, 0, none⟩), .pointer (some ⟨b0.heap.size, 0, none⟩)] : List Value) ∧ g0 d0.heap.size 0 i6) ∧ True) ∧
  ∀ j6 : Env, ∀ k6 p6 q6, g0 k6 p6 q6 →
  ∃ t6 u6 v6,
  q6.cell? ⟨k6, p6 + 1, none⟩ = some (.slice t6 u6 v6) ∧
  ∃ x6 y6 z6,
  q6.cell? ⟨w.heap.size, 1, none⟩ = some (.slice x6 y6 z6) ∧
  ∃ b7 d7 g7,
  ∃ h7, (Builtin.append_ #[23, 23] 23 #[.slice t6 u6 v6, .slice x6 y6 z6]).run Try.prog q6 = .ok (.slice b7 d7 g7) h7 ∧
  canStore h7 k6 (p6 + 1) 1 ∧
  let i7 := setCs h7 k6 (p6 + 1) [.slice b7 d7 g7];
  ∃ j7 k7 p7,
  i7.cell? ⟨k6, p6 + 5, none⟩ = some (.slice j7 k7 p7) ∧
  ∃ q7 t7 u7,
  i7.cell? ⟨w.heap.size, 5, none⟩ = some (.slice q7 t7 u7) ∧
  ∃ v7 x7 y7,
  ∃ z7, (Builtin.append_ #[24, 24] 24 #[.slice j7 k7 p7, .slice q7 t7 u7]).run Try.prog i7 = .ok (.slice v7 x7 y7) z7 ∧
  canStore z7 k6 (p6 + 5) 1 ∧
  let b8 := setCs z7 k6 (p6 + 5) [.slice v7 x7 y7];
  ∃ d8 g8 h8,
  b8.cell? ⟨k6, p6 + 6, none⟩ = some (.slice d8 g8 h8) ∧
  ∃ i8 j8 k8,
  b8.cell? ⟨w.heap.size, 6, none⟩ = some (.slice i8 j8 k8) ∧
  ∃ p8 q8 t8,
  ∃ u8, (Builtin.append_ #[24, 24] 24 #[.slice d8 g8 h8, .slice i8 j8 k8]).run Try.prog b8 = .ok (.slice p8 q8 t8) u8 ∧
  canStore u8 k6 (p6 + 6) 1 ∧
  let v8 := setCs u8 k6 (p6 + 6) [.slice p8 q8 t8];
  ∃ x8 y8 z8,
  v8.cell? ⟨k6, p6 + 7, none⟩ = some (.slice x8 y8 z8) ∧
  ∃ b9 d9 g9,
  v8.cell? ⟨w.heap.size, 7, none⟩ = some (.slice b9 d9 g9) ∧
  ∃ h9 i9 j9,
  ∃ k9, (Builtin.append_ #[24, 24] 24 #[.slice x8 y8 z8, .slice b9 d9 g9]).run Try.prog v8 = .ok (.slice h9 i9 j9) k9 ∧
  canStore k9 k6 (p6 + 7) 1 ∧
  let p9 := setCs k9 k6 (p6 + 7) [.slice h9 i9 j9];
  ∃ q9 t9 u9,
  p9.cell? ⟨k6, p6 + 8, none⟩ = some (.slice q9 t9 u9) ∧
  ∃ v9 x9 y9,
  p9.cell? ⟨w.heap.size, 8, none⟩ = some (.slice v9 x9 y9) ∧
  ∃ z9 bA dA,
  ∃ gA, (Builtin.append_ #[24, 24] 24 #[.slice q9 t9 u9, .slice v9 x9 y9]).run Try.prog p9 = .ok (.slice z9 bA dA) gA ∧
  canStore gA k6 (p6 + 8) 1 ∧
  let hA := setCs gA k6 (p6 + 8) [.slice z9 bA dA];
  ∃ iA : Int → World → Nat → Prop,
  (∃ n, iA 0 hA n) ∧
  ∀ jA : Env, ∀ kA pA qA, iA kA pA qA →
  ∃ tA uA vA,
  pA.cell? ⟨w.heap.size, 9, none⟩ = some (.slice tA uA vA) ∧
  sel (decide ((kA : Int) < ((uA : Int) : Int))) (
  ∃ xA yA zA,
  pA.cell? ⟨w.heap.size, 9, none⟩ = some (.slice xA yA zA) ∧
  (0 : Int) ≤ kA ∧ kA < (yA : Int) ∧
  needPtr xA fun bB dB =>
  ∃ gB,
  pA.cell? ⟨bB, dB + kA.toNat * 6, none⟩ = some (.bool gB) ∧
  ∃ hB,
  pA.cell? ⟨bB, dB + kA.toNat * 6 + 1, none⟩ = some (.string hB) ∧
  ∃ iB,
  pA.cell? ⟨bB, dB + kA.toNat * 6 + 1 + 1, none⟩ = some (.string iB) ∧
  ∃ jB kB pB,
  pA.cell? ⟨bB, dB + kA.toNat * 6 + 1 + 1 + 1, none⟩ = some (.slice jB kB pB) ∧
  ∃ qB,
  pA.cell? ⟨bB, dB + kA.toNat * 6 + 1 + 1 + 1 + 1, none⟩ = some (.int .i8 qB) ∧
  ∃ tB,
  pA.cell? ⟨bB, dB + kA.toNat * 6 + 1 + 1 + 1 + 1 + 1, none⟩ = some (.float .f64 tB) ∧
  let uB := World.alloc pA (.cells #[.bool false, .string ⟨#[]⟩, .string ⟨#[]⟩, .slice none 0 0, .int .i8 0, .float .f64 0] 88);
  canStore uB pA.heap.size 0 6 ∧
  let vB := setCs uB pA.heap.size 0 [.bool gB, .string hB, .string iB, .slice jB kB pB, .int .i8 qB, .float .f64 tB];
  ∃ xB yB zB,
  vB.cell? ⟨pA.heap.size, 3, none⟩ = some (.slice xB yB zB) ∧
  Calls Try.prog 31 #[.slice xB yB zB, .slice none 0 0] vB fun bC dC =>
  ∃ gC hC iC,
  bC = .returned (.slice gC hC iC) ∧
  canStore dC pA.heap.size 3 1 ∧
  let jC := setCs dC pA.heap.size 3 [.slice gC hC iC];
  ∃ kC pC qC,
  jC.cell? ⟨k6, p6 + 9, none⟩ = some (.slice kC pC qC) ∧
  ∃ tC,
  jC.cell? ⟨pA.heap.size, 0, none⟩ = some (.bool tC) ∧
  ∃ uC,
  jC.cell? ⟨pA.heap.size, 1, none⟩ = some (.string uC) ∧
  ∃ vC,
  jC.cell? ⟨pA.heap.size, 2, none⟩ = some (.string vC) ∧
  ∃ xC yC zC,
  jC.cell? ⟨pA.heap.size, 3, none⟩ = some (.slice xC yC zC) ∧
  ∃ bD,
  jC.cell? ⟨pA.heap.size, 4, none⟩ = some (.int .i8 bD) ∧
  ∃ dD,
  jC.cell? ⟨pA.heap.size, 5, none⟩ = some (.float .f64 dD) ∧
  let gD := World.alloc jC (.cells #[.bool tC, .string uC, .string vC, .slice xC yC zC, .int .i8 bD, .float .f64 dD] 88);
  ∃ hD iD jD,
  ∃ kD, (Builtin.append_ #[25, 25] 25 #[.slice kC pC qC, .slice (some ⟨jC.heap.size, 0, none⟩) 1 1]).run Try.prog gD = .ok (.slice hD iD jD) kD ∧
  canStore kD k6 (p6 + 9) 1 ∧
  let pD := setCs kD k6 (p6 + 9) [.slice hD iD jD];
  let qD : Int := IntKind.i64.wrap (kA + 1);
  ([.pointer (some ⟨w.heap.size, 0, none⟩), .pointer (some ⟨b0.heap.size, 0, none⟩), .pointer (some ⟨k6, p6, none⟩)] : List Value) = ([.pointer (some ⟨w.heap.size, 0, none⟩), .pointer (some ⟨b0.heap.size, 0, none⟩), .pointer (some ⟨k6, p6, none⟩)] : List Value) ∧ ∃ m, m < qA ∧ iA qD pD m) (
  ∃ tD uD vD,
  pA.cell? ⟨k6, p6 + 10, none⟩ = some (.slice tD uD vD) ∧
  ∃ xD yD zD,
  pA.cell? ⟨w.heap.size, 10, none⟩ = some (.slice xD yD zD) ∧
  ∃ bE dE gE,
  ∃ hE, (Builtin.append_ #[26, 26] 26 #[.slice tD uD vD, .slice xD yD zD]).run Try.prog pA = .ok (.slice bE dE gE) hE ∧
  canStore hE k6 (p6 + 10) 1 ∧
  let iE := setCs hE k6 (p6 + 10) [.slice bE dE gE];
  ∃ jE kE pE,
  iE.cell? ⟨k6, p6, none⟩ = some (.slice jE kE pE) ∧
  ∃ qE tE uE,
  iE.cell? ⟨k6, p6 + 1, none⟩ = some (.slice qE tE uE) ∧
  ∃ vE xE yE,
  iE.cell? ⟨k6, p6 + 1 + 1, none⟩ = some (.slice vE xE yE) ∧
  ∃ zE bF dF,
  iE.cell? ⟨k6, p6 + 1 + 1 + 1, none⟩ = some (.slice zE bF dF) ∧
  ∃ gF hF iF,
  iE.cell? ⟨k6, p6 + 1 + 1 + 1 + 1, none⟩ = some (.slice gF hF iF) ∧
  ∃ jF kF pF,
  iE.cell? ⟨k6, p6 + 1 + 1 + 1 + 1 + 1, none⟩ = some (.slice jF kF pF) ∧
  ∃ qF tF uF,
  iE.cell? ⟨k6, p6 + 1 + 1 + 1 + 1 + 1 + 1, none⟩ = some (.slice qF tF uF) ∧
  ∃ vF xF yF,
  iE.cell? ⟨k6, p6 + 1 + 1 + 1 + 1 + 1 + 1 + 1, none⟩ = some (.slice vF xF yF) ∧
  ∃ zF bG dG,
  iE.cell? ⟨k6, p6 + 1 + 1 + 1 + 1 + 1 + 1 + 1 + 1, none⟩ = some (.slice zF bG dG) ∧
  ∃ gG hG iG,
  iE.cell? ⟨k6, p6 + 1 + 1 + 1 + 1 + 1 + 1 + 1 + 1 + 1, none⟩ = some (.slice gG hG iG) ∧
  ∃ jG kG pG,
  iE.cell? ⟨k6, p6 + 1 + 1 + 1 + 1 + 1 + 1 + 1 + 1 + 1 + 1, none⟩ = some (.slice jG kG pG) ∧
  canStore iE b0.heap.size 0 11 ∧
  let qG := setCs iE b0.heap.size 0 [.slice jE kE pE, .slice qE tE uE, .slice vE xE yE, .slice zE bF dF, .slice gF hF iF, .slice jF kF pF, .slice qF tF uF, .slice vF xF yF, .slice zF bG dG, .slice gG hG iG, .slice jG kG pG];
  ∃ tG uG vG,
  qG.cell? ⟨b0.heap.size, 0, none⟩ = some (.slice tG uG vG) ∧
  ∃ xG yG zG,
  qG.cell? ⟨b0.heap.size, 1, none⟩ = some (.slice xG yG zG) ∧
  ∃ bH dH gH,
  qG.cell? ⟨b0.heap.size, 2, none⟩ = some (.slice bH dH gH) ∧
  ∃ hH iH jH,
  qG.cell? ⟨b0.heap.size, 3, none⟩ = some (.slice hH iH jH) ∧
  ∃ kH pH qH,
  qG.cell? ⟨b0.heap.size, 4, none⟩ = some (.slice kH pH qH) ∧
  ∃ tH uH vH,
  qG.cell? ⟨b0.heap.size, 5, none⟩ = some (.slice tH uH vH) ∧
  ∃ xH yH zH,
  qG.cell? ⟨b0.heap.size, 6, none⟩ = some (.slice xH yH zH) ∧
  ∃ bI dI gI,
  qG.cell? ⟨b0.heap.size, 7, none⟩ = some (.slice bI dI gI) ∧
  ∃ hI iI jI,
  qG.cell? ⟨b0.heap.size, 8, none⟩ = some (.slice hI iI jI) ∧
  ∃ kI pI qI,
  qG.cell? ⟨b0.heap.size, 9, none⟩ = some (.slice kI pI qI) ∧
  ∃ tI uI vI,
  qG.cell? ⟨b0.heap.size, 10, none⟩ = some (.slice tI uI vI) ∧
  R (.agg #[.slice tG uG vG, .slice xG yG zG, .slice bH dH gH, .slice hH iH jH, .slice kH pH qH, .slice tH uH vH, .slice xH yH zH, .slice bI dI gI, .slice hI iI jI, .slice kI pI qI, .slice tI uI vI]) qG)
theorem f10.eq (Aa0_0 : Option Addr) (na0_0 ca0_0 : Nat) (Aa0_1 : Option Addr) (na0_1 ca0_1 : Nat) (Aa0_2 : Option Addr) (na0_2 ca0_2 : Nat) (Aa0_3 : Option Addr) (na0_3 ca0_3 : Nat) (Aa0_4 : Option Addr) (na0_4 ca0_4 : Nat) (Aa0_5 : Option Addr) (na0_5 ca0_5 : Nat) (Aa0_6 : Option Addr) (na0_6 ca0_6 : Nat) (Aa0_7 : Option Addr) (na0_7 ca0_7 : Nat) (Aa0_8 : Option Addr) (na0_8 ca0_8 : Nat) (Aa0_9 : Option Addr) (na0_9 ca0_9 : Nat) (Aa0_10 : Option Addr) (na0_10 ca0_10 : Nat) (w : World) (R : Value → World → Prop) : f10.VC Aa0_0 na0_0 ca0_0 Aa0_1 na0_1 ca0_1 Aa0_2 na0_2 ca0_2 Aa0_3 na0_3 ca0_3 Aa0_4 na0_4 ca0_4 Aa0_5 na0_5 ca0_5 Aa0_6 na0_6 ca0_6 Aa0_7 na0_7 ca0_7 Aa0_8 na0_8 ca0_8 Aa0_9 na0_9 ca0_9 Aa0_10 na0_10 ca0_10 w R = funV Try.prog Try.f10 f10.AL f10.AC #[.agg #[.slice Aa0_0 na0_0 ca0_0, .slice Aa0_1 na0_1 ca0_1, .slice Aa0_2 na0_2 ca0_2, .slice Aa0_3 na0_3 ca0_3, .slice Aa0_4 na0_4 ca0_4, .slice Aa0_5 na0_5 ca0_5, .slice Aa0_6 na0_6 ca0_6, .slice Aa0_7 na0_7 ca0_7, .slice Aa0_8 na0_8 ca0_8, .slice Aa0_9 na0_9 ca0_9, .slice Aa0_10 na0_10 ca0_10]] w R := by kernel_rfl
theorem f10.calls {Aa0_0 : Option Addr} {na0_0 ca0_0 : Nat} {Aa0_1 : Option Addr} {na0_1 ca0_1 : Nat} {Aa0_2 : Option Addr} {na0_2 ca0_2 : Nat} {Aa0_3 : Option Addr} {na0_3 ca0_3 : Nat} {Aa0_4 : Option Addr} {na0_4 ca0_4 : Nat} {Aa0_5 : Option Addr} {na0_5 ca0_5 : Nat} {Aa0_6 : Option Addr} {na0_6 ca0_6 : Nat} {Aa0_7 : Option Addr} {na0_7 ca0_7 : Nat} {Aa0_8 : Option Addr} {na0_8 ca0_8 : Nat} {Aa0_9 : Option Addr} {na0_9 ca0_9 : Nat} {Aa0_10 : Option Addr} {na0_10 ca0_10 : Nat} {w : World} {R : Value → World → Prop} (h : f10.VC Aa0_0 na0_0 ca0_0 Aa0_1 na0_1 ca0_1 Aa0_2 na0_2 ca0_2 Aa0_3 na0_3 ca0_3 Aa0_4 na0_4 ca0_4 Aa0_5 na0_5 ca0_5 Aa0_6 na0_6 ca0_6 Aa0_7 na0_7 ca0_7 Aa0_8 na0_8 ca0_8 Aa0_9 na0_9 ca0_9 Aa0_10 na0_10 ca0_10 w R) : Calls Try.prog 10 #[.agg #[.slice Aa0_0 na0_0 ca0_0, .slice Aa0_1 na0_1 ca0_1, .slice Aa0_2 na0_2 ca0_2, .slice Aa0_3 na0_3 ca0_3, .slice Aa0_4 na0_4 ca0_4, .slice Aa0_5 na0_5 ca0_5, .slice Aa0_6 na0_6 ca0_6, .slice Aa0_7 na0_7 ca0_7, .slice Aa0_8 na0_8 ca0_8, .slice Aa0_9 na0_9 ca0_9, .slice Aa0_10 na0_10 ca0_10]] w fun e w' => ∃ v, e = .returned v ∧ R v w' :=
  funV_sound (fn := Try.f10) (AL := f10.AL) (AC := f10.AC) W3.mixed (by kernel_rfl) (by rw [← f10.eq Aa0_0 na0_0 ca0_0 Aa0_1 na0_1 ca0_1 Aa0_2 na0_2 ca0_2 Aa0_3 na0_3 ca0_3 Aa0_4 na0_4 ca0_4 Aa0_5 na0_5 ca0_5 Aa0_6 na0_6 ca0_6 Aa0_7 na0_7 ca0_7 Aa0_8 na0_8 ca0_8 Aa0_9 na0_9 ca0_9 Aa0_10 na0_10 ca0_10]; exact h)

/-- gatehouse/gatehouselaw27.twin -/
def f9.AL : Nat → Option Ann := fun r => match r with | 3 => some ⟨[(3, .slice), (4, .int .i64)], [0]⟩ | _ => none
def f9.AC : Nat → Option Ann := fun _ => none
def f9.VC (Aa0 : Option Addr) (na0 ca0 : Nat) (w : World) (R : Value → World → Prop) : Prop :=
  ∃ b0 : Option Addr → Nat → Nat → Int → World → Nat → Prop,
  (∃ n, b0 none 0 0 0 w n) ∧
  ∀ d0 : Env, ∀ g0 h0 i0 j0 k0 p0, b0 g0 h0 i0 j0 k0 p0 →
  sel (decide ((j0 : Int) < ((na0 : Int) : Int))) (
  (0 : Int) ≤ j0 ∧ j0 < (na0 : Int) ∧
  needPtr Aa0 fun q0 t0 =>
  ∃ u0,
  k0.cell? ⟨q0, t0 + j0.toNat * 19, none⟩ = some (.int .i64 u0) ∧
  ∃ v0,
  k0.cell? ⟨q0, t0 + j0.toNat * 19 + 1, none⟩ = some (.int .i64 v0) ∧
  ∃ x0,
  k0.cell? ⟨q0, t0 + j0.toNat * 19 + 1 + 1, none⟩ = some (.bool x0) ∧
  ∃ y0,
  k0.cell? ⟨q0, t0 + j0.toNat * 19 + 1 + 1 + 1, none⟩ = some (.bool y0) ∧
  ∃ z0,
  k0.cell? ⟨q0, t0 + j0.toNat * 19 + 1 + 1 + 1 + 1, none⟩ = some (.bool z0) ∧
  ∃ b1 d1 g1,
  k0.cell? ⟨q0, t0 + j0.toNat * 19 + 1 + 1 + 1 + 1 + 1, none⟩ = some (.slice b1 d1 g1) ∧
  ∃ h1 i1 j1,
  k0.cell? ⟨q0, t0 + j0.toNat * 19 + 1 + 1 + 1 + 1 + 1 + 1, none⟩ = some (.slice h1 i1 j1) ∧
  ∃ k1 p1 q1,
  k0.cell? ⟨q0, t0 + j0.toNat * 19 + 1 + 1 + 1 + 1 + 1 + 1 + 1, none⟩ = some (.slice k1 p1 q1) ∧
  ∃ t1 u1 v1,
  k0.cell? ⟨q0, t0 + j0.toNat * 19 + 1 + 1 + 1 + 1 + 1 + 1 + 1 + 1, none⟩ = some (.slice t1 u1 v1) ∧
  ∃ x1 y1 z1,
  k0.cell? ⟨q0, t0 + j0.toNat * 19 + 1 + 1 + 1 + 1 + 1 + 1 + 1 + 1 + 1, none⟩ = some (.slice x1 y1 z1) ∧
  ∃ b2 d2 g2,
  k0.cell? ⟨q0, t0 + j0.toNat * 19 + 1 + 1 + 1 + 1 + 1 + 1 + 1 + 1 + 1 + 1, none⟩ = some (.slice b2 d2 g2) ∧
  ∃ h2 i2 j2,
  k0.cell? ⟨q0, t0 + j0.toNat * 19 + 1 + 1 + 1 + 1 + 1 + 1 + 1 + 1 + 1 + 1 + 1, none⟩ = some (.slice h2 i2 j2) ∧
  ∃ k2 p2 q2,
  k0.cell? ⟨q0, t0 + j0.toNat * 19 + 1 + 1 + 1 + 1 + 1 + 1 + 1 + 1 + 1 + 1 + 1 + 1, none⟩ = some (.slice k2 p2 q2) ∧
  ∃ t2 u2 v2,
  k0.cell? ⟨q0, t0 + j0.toNat * 19 + 1 + 1 + 1 + 1 + 1 + 1 + 1 + 1 + 1 + 1 + 1 + 1 + 1, none⟩ = some (.slice t2 u2 v2) ∧
  ∃ x2 y2 z2,
  k0.cell? ⟨q0, t0 + j0.toNat * 19 + 1 + 1 + 1 + 1 + 1 + 1 + 1 + 1 + 1 + 1 + 1 + 1 + 1 + 1, none⟩ = some (.slice x2 y2 z2) ∧
  ∃ b3 d3 g3,
  k0.cell? ⟨q0, t0 + j0.toNat * 19 + 1 + 1 + 1 + 1 + 1 + 1 + 1 + 1 + 1 + 1 + 1 + 1 + 1 + 1 + 1, none⟩ = some (.slice b3 d3 g3) ∧
  ∃ h3,
  k0.cell? ⟨q0, t0 + j0.toNat * 19 + 1 + 1 + 1 + 1 + 1 + 1 + 1 + 1 + 1 + 1 + 1 + 1 + 1 + 1 + 1 + 1, none⟩ = some (.string h3) ∧
  ∃ i3,
  k0.cell? ⟨q0, t0 + j0.toNat * 19 + 1 + 1 + 1 + 1 + 1 + 1 + 1 + 1 + 1 + 1 + 1 + 1 + 1 + 1 + 1 + 1 + 1, none⟩ = some (.string i3) ∧
  ∃ j3,
  k0.cell? ⟨q0, t0 + j0.toNat * 19 + 1 + 1 + 1 + 1 + 1 + 1 + 1 + 1 + 1 + 1 + 1 + 1 + 1 + 1 + 1 + 1 + 1 + 1, none⟩ = some (.string j3) ∧
  let k3 := World.alloc k0 (.cells #[.int .i64 0, .int .i64 0, .bool false, .bool false, .bool false, .slice none 0 0, .slice none 0 0, .slice none 0 0, .slice none 0 0, .slice none 0 0, .slice none 0 0, .slice none 0 0, .slice none 0 0, .slice none 0 0, .slice none 0 0, .slice none 0 0, .string ⟨#[]⟩, .string ⟨#[]⟩, .string ⟨#[]⟩] 39);
  canStore k3 k0.heap.size 0 19 ∧
  let p3 := setCs k3 k0.heap.size 0 [.int .i64 u0, .int .i64 v0, .bool x0, .bool y0, .bool z0, .slice b1 d1 g1, .slice h1 i1 j1, .slice k1 p1 q1, .slice t1 u1 v1, .slice x1 y1 z1, .slice b2 d2 g2, .slice h2 i2 j2, .slice k2 p2 q2, .slice t2 u2 v2, .slice x2 y2 z2, .slice b3 d3 g3, .string h3, .string i3, .string j3];
  ∃ q3 t3 u3,
  p3.cell? ⟨k0.heap.size, 5, none⟩ = some (.slice q3 t3 u3) ∧
  ∃ v3 x3 y3,
  p3.cell? ⟨k0.heap.size, 6, none⟩ = some (.slice v3 x3 y3) ∧
  ∃ z3 b4 d4,
  p3.cell? ⟨k0.heap.size, 7, none⟩ = some (.slice z3 b4 d4) ∧
  ∃ g4 h4 i4,
  p3.cell? ⟨k0.heap.size, 8, none⟩ = some (.slice g4 h4 i4) ∧
  ∃ j4 k4 p4,
  p3.cell? ⟨k0.heap.size, 9, none⟩ = some (.slice j4 k4 p4) ∧
  ∃ q4 t4 u4,
  p3.cell? ⟨k0.heap.size, 10, none⟩ = some (.slice q4 t4 u4) ∧
  ∃ v4 x4 y4,
  p3.cell? ⟨k0.heap.size, 11, none⟩ = some (.slice v4 x4 y4) ∧
  ∃ z4 b5 d5,
  p3.cell? ⟨k0.heap.size, 12, none⟩ = some (.slice z4 b5 d5) ∧
  ∃ g5 h5 i5,
  p3.cell? ⟨k0.heap.size, 13, none⟩ = some (.slice g5 h5 i5) ∧
  ∃ j5 k5 p5,
  p3.cell? ⟨k0.heap.size, 14, none⟩ = some (.slice j5 k5 p5) ∧
  ∃ q5 t5 u5,
  p3.cell? ⟨k0.heap.size, 15, none⟩ = some (.slice q5 t5 u5) ∧
  Calls Try.prog 10 #[.agg #[.slice q3 t3 u3, .slice v3 x3 y3, .slice z3 b4 d4, .slice g4 h4 i4, .slice j4 k4 p4, .slice q4 t4 u4, .slice v4 x4 y4, .slice z4 b5 d5, .slice g5 h5 i5, .slice j5 k5 p5, .slice q5 t5 u5]] p3 fun v5 x5 =>
  ∃ y5 z5 b6 d6 g6 h6 i6 j6 k6 p6 q6 t6 u6 v6 x6 y6 z6 b7 d7 g7 h7 i7 j7 k7 p7 q7 t7 u7 v7 x7 y7 z7 b8,
  v5 = .returned (.agg #[.slice y5 z5 b6, .slice d6 g6 h6, .slice i6 j6 k6, .slice p6 q6 t6, .slice u6 v6 x6, .slice y6 z6 b7, .slice d7 g7 h7, .slice i7 j7 k7, .slice p7 q7 t7, .slice u7 v7 x7, .slice y7 z7 b8]) ∧
  canStore x5 k0.heap.size 5 11 ∧
  let d8 := setCs x5 k0.heap.size 5 [.slice y5 z5 b6, .slice d6 g6 h6, .slice i6 j6 k6, .slice p6 q6 t6, .slice u6 v6 x6, .slice y6 z6 b7, .slice d7 g7 h7, .slice i7 j7 k7, .slice p7 q7 t7, .slice u7 v7 x7, .slice y7 z7 b8];
  ∃ g8,
  d8.cell? ⟨k0.heap.size, 0, none⟩ = some (.int .i64 g8) ∧
  ∃ h8,
  d8.cell? ⟨k0.heap.size, 1, none⟩ = some (.int .i64 h8) ∧
  ∃ i8,
  d8.cell? ⟨k0.heap.size, 2, none⟩ = some (.bool i8) ∧
  ∃ j8,
  d8.cell? ⟨k0.heap.size, 3, none⟩ = some (.bool j8) ∧
  ∃ k8,
  d8.cell? ⟨k0.heap.size, 4, none⟩ = some (.bool k8) ∧
  ∃ p8 q8 t8,
  d8.cell? ⟨k0.heap.size, 5, none⟩ = some (.slice p8 q8 t8) ∧
  ∃ u8 v8 x8,
  d8.cell? ⟨k0.heap.size, 6, none⟩ = some (.slice u8 v8 x8) ∧
  ∃ y8 z8 b9,
  d8.cell? ⟨k0.heap.size, 7, none⟩ = some (.slice y8 z8 b9) ∧
  ∃ d9 g9 h9,
  d8.cell? ⟨k0.heap.size, 8, none⟩ = some (.slice d9 g9 h9) ∧
  ∃ i9 j9 k9,
  d8.cell? ⟨k0.heap.size, 9, none⟩ = some (.slice i9 j9 k9) ∧
  ∃ p9 q9 t9,
  d8.cell? ⟨k0.heap.size, 10, none⟩ = some (.slice p9 q9 t9) ∧
  ∃ u9 v9 x9,
  d8.cell? ⟨k0.heap.size, 11, none⟩ = some (.slice u9 v9 x9) ∧
  ∃ y9 z9 bA,
  d8.cell? ⟨k0.heap.size, 12, none⟩ = some (.slice y9 z9 bA) ∧
  ∃ dA gA hA,
  d8.cell? ⟨k0.heap.size, 13, none⟩ = some (.slice dA gA hA) ∧
  ∃ iA jA kA,
  d8.cell? ⟨k0.heap.size, 14, none⟩ = some (.slice iA jA kA) ∧
  ∃ pA qA tA,
  d8.cell? ⟨k0.heap.size, 15, none⟩ = some (.slice pA qA tA) ∧
  ∃ uA,
  d8.cell? ⟨k0.heap.size, 16, none⟩ = some (.string uA) ∧
  ∃ vA,
  d8.cell? ⟨k0.heap.size, 17, none⟩ = some (.string vA) ∧
  ∃ xA,
  d8.cell? ⟨k0.heap.size, 18, none⟩ = some (.string xA) ∧
  let yA := World.alloc d8 (.cells #[.int .i64 g8, .int .i64 h8, .bool i8, .bool j8, .bool k8, .slice p8 q8 t8, .slice u8 v8 x8, .slice y8 z8 b9, .slice d9 g9 h9, .slice i9 j9 k9, .slice p9 q9 t9, .slice u9 v9 x9, .slice y9 z9 bA, .slice dA gA hA, .slice iA jA kA, .slice pA qA tA, .string uA, .string vA, .string xA] 39);
  ∃ zA bB dB,
  ∃ gB, (Builtin.append_ #[29, 29] 29 #[.slice g0 h0 i0, .slice (some ⟨d8.heap.size, 0, none⟩) 1 1]).run Try.prog yA = .ok (.slice zA bB dB) gB ∧
  let hB : Int := IntKind.i64.wrap (j0 + 1);
  ([.slice Aa0 na0 ca0] : List Value) = ([.slice Aa0 na0 ca0] : List Value) ∧ ∃ m, m < p0 ∧ b0 zA bB dB hB gB m) (
  R (.slice g0 h0 i0) k0)
theorem f9.eq (Aa0 : Option Addr) (na0 ca0 : Nat) (w : World) (R : Value → World → Prop) : f9.VC Aa0 na0 ca0 w R = funV Try.prog Try.f9 f9.AL f9.AC #[.slice Aa0 na0 ca0] w R := by kernel_rfl
theorem f9.calls {Aa0 : Option Addr} {na0 ca0 : Nat} {w : World} {R : Value → World → Prop} (h : f9.VC Aa0 na0 ca0 w R) : Calls Try.prog 9 #[.slice Aa0 na0 ca0] w fun e w' => ∃ v, e = .returned v ∧ R v w' :=
  funV_sound (fn := Try.f9) (AL := f9.AL) (AC := f9.AC) W3.mixed (by kernel_rfl) (by rw [← f9.eq Aa0 na0 ca0]; exact h)

/-- gatehouse/gatehouseref25.SameInts -/
def f12.AL : Nat → Option Ann := fun r => match r with | 4 => some ⟨[(5, .int .i64)], [0, 1]⟩ | _ => none
def f12.AC : Nat → Option Ann := fun _ => none
def f12.VC (Aa0 : Option Addr) (na0 ca0 : Nat) (Aa1 : Option Addr) (na1 ca1 : Nat) (w : World) (R : Value → World → Prop) : Prop :=
  sel (((na0 : Int) : Int) != ((na1 : Int) : Int)) (
  R (.bool false) w) (
  ∃ b0 : Int → World → Nat → Prop,
  (∃ n, b0 0 w n) ∧
  ∀ d0 : Env, ∀ g0 h0 i0, b0 g0 h0 i0 →
  sel (decide ((g0 : Int) < ((na0 : Int) : Int))) (
  (0 : Int) ≤ g0 ∧ g0 < (na0 : Int) ∧
  needPtr Aa0 fun j0 k0 =>
  (0 : Int) ≤ g0 ∧ g0 < (na1 : Int) ∧
  needPtr Aa1 fun p0 q0 =>
  ∃ t0,
  h0.cell? ⟨j0, k0 + g0.toNat * 1, none⟩ = some (.int .i64 t0) ∧
  ∃ u0,
  h0.cell? ⟨p0, q0 + g0.toNat * 1, none⟩ = some (.int .i64 u0) ∧
  sel ((t0 : Int) != (u0 : Int)) (
  R (.bool false) h0.drew) (
  let v0 : Int := IntKind.i64.wrap (g0 + 1);
  ([.slice Aa0 na0 ca0, .slice Aa1 na1 ca1] : List Value) = ([.slice Aa0 na0 ca0, .slice Aa1 na1 ca1] : List Value) ∧ ∃ m, m < i0 ∧ b0 v0 h0.drew m)) (
  R (.bool true) h0))
theorem f12.eq (Aa0 : Option Addr) (na0 ca0 : Nat) (Aa1 : Option Addr) (na1 ca1 : Nat) (w : World) (R : Value → World → Prop) : f12.VC Aa0 na0 ca0 Aa1 na1 ca1 w R = funV Try.prog Try.f12 f12.AL f12.AC #[.slice Aa0 na0 ca0, .slice Aa1 na1 ca1] w R := by kernel_rfl
theorem f12.calls {Aa0 : Option Addr} {na0 ca0 : Nat} {Aa1 : Option Addr} {na1 ca1 : Nat} {w : World} {R : Value → World → Prop} (h : f12.VC Aa0 na0 ca0 Aa1 na1 ca1 w R) : Calls Try.prog 12 #[.slice Aa0 na0 ca0, .slice Aa1 na1 ca1] w fun e w' => ∃ v, e = .returned v ∧ R v w' :=
  funV_sound (fn := Try.f12) (AL := f12.AL) (AC := f12.AC) W3.mixed (by kernel_rfl) (by rw [← f12.eq Aa0 na0 ca0 Aa1 na1 ca1]; exact h)

/-- gatehouse/gatehouselaw27.sane -/
def f13.AL : Nat → Option Ann := fun _ => none
def f13.AC : Nat → Option Ann := fun _ => none
def f13.VC (Aa0_0 : Option Addr) (na0_0 ca0_0 : Nat) (Aa0_1 : Option Addr) (na0_1 ca0_1 : Nat) (Aa0_2 : Option Addr) (na0_2 ca0_2 : Nat) (Aa0_3 : Option Addr) (na0_3 ca0_3 : Nat) (Aa0_4 : Option Addr) (na0_4 ca0_4 : Nat) (Aa0_5 : Option Addr) (na0_5 ca0_5 : Nat) (Aa0_6 : Option Addr) (na0_6 ca0_6 : Nat) (Aa0_7 : Option Addr) (na0_7 ca0_7 : Nat) (Aa0_8 : Option Addr) (na0_8 ca0_8 : Nat) (Aa0_9 : Option Addr) (na0_9 ca0_9 : Nat) (Aa0_10 : Option Addr) (na0_10 ca0_10 : Nat) (w : World) (R : Value → World → Prop) : Prop :=
  let b0 := World.alloc w (.cells #[.slice Aa0_0 na0_0 ca0_0, .slice Aa0_1 na0_1 ca0_1, .slice Aa0_2 na0_2 ca0_2, .slice Aa0_3 na0_3 ca0_3, .slice Aa0_4 na0_4 ca0_4, .slice Aa0_5 na0_5 ca0_5, .slice Aa0_6 na0_6 ca0_6, .slice Aa0_7 na0_7 ca0_7, .slice Aa0_8 na0_8 ca0_8, .slice Aa0_9 na0_9 ca0_9, .slice Aa0_10 na0_10 ca0_10] 28);
  ∃ d0 g0 h0,
  b0.cell? ⟨w.heap.size, 0, none⟩ = some (.slice d0 g0 h0) ∧
  ∃ i0 j0 k0,
  b0.cell? ⟨w.heap.size, 1, none⟩ = some (.slice i0 j0 k0) ∧
  ∃ p0 q0 t0,
  b0.cell? ⟨w.heap.size, 2, none⟩ = some (.slice p0 q0 t0) ∧
  ∃ u0 v0 x0,
  b0.cell? ⟨w.heap.size, 3, none⟩ = some (.slice u0 v0 x0) ∧
  ∃ y0 z0 b1,
  b0.cell? ⟨w.heap.size, 4, none⟩ = some (.slice y0 z0 b1) ∧
  ∃ d1 g1 h1,
  b0.cell? ⟨w.heap.size, 5, none⟩ = some (.slice d1 g1 h1) ∧
  ∃ i1 j1 k1,
  b0.cell? ⟨w.heap.size, 6, none⟩ = some (.slice i1 j1 k1) ∧
  ∃ p1 q1 t1,
  b0.cell? ⟨w.heap.size, 7, none⟩ = some (.slice p1 q1 t1) ∧
  ∃ u1 v1 x1,
  b0.cell? ⟨w.heap.size, 8, none⟩ = some (.slice u1 v1 x1) ∧
  ∃ y1 z1 b2,
  b0.cell? ⟨w.heap.size, 9, none⟩ = some (.slice y1 z1 b2) ∧
  ∃ d2 g2 h2,
  b0.cell? ⟨w.heap.size, 10, none⟩ = some (.slice d2 g2 h2) ∧
  ∃ i2 j2 k2,
  b0.cell? ⟨w.heap.size, 0, none⟩ = some (.slice i2 j2 k2) ∧
  ∃ p2 q2 t2,
  b0.cell? ⟨w.heap.size, 1, none⟩ = some (.slice p2 q2 t2) ∧
  ∃ u2 v2 x2,
  b0.cell? ⟨w.heap.size, 2, none⟩ = some (.slice u2 v2 x2) ∧
  ∃ y2 z2 b3,
  b0.cell? ⟨w.heap.size, 3, none⟩ = some (.slice y2 z2 b3) ∧
  ∃ d3 g3 h3,
  b0.cell? ⟨w.heap.size, 4, none⟩ = some (.slice d3 g3 h3) ∧
  ∃ i3 j3 k3,
  b0.cell? ⟨w.heap.size, 5, none⟩ = some (.slice i3 j3 k3) ∧
  ∃ p3 q3 t3,
  b0.cell? ⟨w.heap.size, 6, none⟩ = some (.slice p3 q3 t3) ∧
  ∃ u3 v3 x3,
  b0.cell? ⟨w.heap.size, 7, none⟩ = some (.slice u3 v3 x3) ∧
  ∃ y3 z3 b4,
  b0.cell? ⟨w.heap.size, 8, none⟩ = some (.slice y3 z3 b4) ∧
  ∃ d4 g4 h4,
  b0.cell? ⟨w.heap.size, 9, none⟩ = some (.slice d4 g4 h4) ∧
  ∃ i4 j4 k4,
  b0.cell? ⟨w.heap.size, 10, none⟩ = some (.slice i4 j4 k4) ∧
  Calls Try.prog 34 #[.agg #[.slice d0 g0 h0, .slice i0 j0 k0, .slice p0 q0 t0, .slice u0 v0 x0, .slice y0 z0 b1, .slice d1 g1 h1, .slice i1 j1 k1, .slice p1 q1 t1, .slice u1 v1 x1, .slice y1 z1 b2, .slice d2 g2 h2], .agg #[.slice i2 j2 k2, .slice p2 q2 t2, .slice u2 v2 x2, .slice y2 z2 b3, .slice d3 g3 h3, .slice i3 j3 k3, .slice p3 q3 t3, .slice u3 v3 x3, .slice y3 z3 b4, .slice d4 g4 h4, .slice i4 j4 k4]] b0 fun p4 q4 =>
  ∃ t4,
  p4 = .returned (.bool t4) ∧
  R (.bool t4) q4
theorem f13.eq (Aa0_0 : Option Addr) (na0_0 ca0_0 : Nat) (Aa0_1 : Option Addr) (na0_1 ca0_1 : Nat) (Aa0_2 : Option Addr) (na0_2 ca0_2 : Nat) (Aa0_3 : Option Addr) (na0_3 ca0_3 : Nat) (Aa0_4 : Option Addr) (na0_4 ca0_4 : Nat) (Aa0_5 : Option Addr) (na0_5 ca0_5 : Nat) (Aa0_6 : Option Addr) (na0_6 ca0_6 : Nat) (Aa0_7 : Option Addr) (na0_7 ca0_7 : Nat) (Aa0_8 : Option Addr) (na0_8 ca0_8 : Nat) (Aa0_9 : Option Addr) (na0_9 ca0_9 : Nat) (Aa0_10 : Option Addr) (na0_10 ca0_10 : Nat) (w : World) (R : Value → World → Prop) : f13.VC Aa0_0 na0_0 ca0_0 Aa0_1 na0_1 ca0_1 Aa0_2 na0_2 ca0_2 Aa0_3 na0_3 ca0_3 Aa0_4 na0_4 ca0_4 Aa0_5 na0_5 ca0_5 Aa0_6 na0_6 ca0_6 Aa0_7 na0_7 ca0_7 Aa0_8 na0_8 ca0_8 Aa0_9 na0_9 ca0_9 Aa0_10 na0_10 ca0_10 w R = funV Try.prog Try.f13 f13.AL f13.AC #[.agg #[.slice Aa0_0 na0_0 ca0_0, .slice Aa0_1 na0_1 ca0_1, .slice Aa0_2 na0_2 ca0_2, .slice Aa0_3 na0_3 ca0_3, .slice Aa0_4 na0_4 ca0_4, .slice Aa0_5 na0_5 ca0_5, .slice Aa0_6 na0_6 ca0_6, .slice Aa0_7 na0_7 ca0_7, .slice Aa0_8 na0_8 ca0_8, .slice Aa0_9 na0_9 ca0_9, .slice Aa0_10 na0_10 ca0_10]] w R := by kernel_rfl
theorem f13.calls {Aa0_0 : Option Addr} {na0_0 ca0_0 : Nat} {Aa0_1 : Option Addr} {na0_1 ca0_1 : Nat} {Aa0_2 : Option Addr} {na0_2 ca0_2 : Nat} {Aa0_3 : Option Addr} {na0_3 ca0_3 : Nat} {Aa0_4 : Option Addr} {na0_4 ca0_4 : Nat} {Aa0_5 : Option Addr} {na0_5 ca0_5 : Nat} {Aa0_6 : Option Addr} {na0_6 ca0_6 : Nat} {Aa0_7 : Option Addr} {na0_7 ca0_7 : Nat} {Aa0_8 : Option Addr} {na0_8 ca0_8 : Nat} {Aa0_9 : Option Addr} {na0_9 ca0_9 : Nat} {Aa0_10 : Option Addr} {na0_10 ca0_10 : Nat} {w : World} {R : Value → World → Prop} (h : f13.VC Aa0_0 na0_0 ca0_0 Aa0_1 na0_1 ca0_1 Aa0_2 na0_2 ca0_2 Aa0_3 na0_3 ca0_3 Aa0_4 na0_4 ca0_4 Aa0_5 na0_5 ca0_5 Aa0_6 na0_6 ca0_6 Aa0_7 na0_7 ca0_7 Aa0_8 na0_8 ca0_8 Aa0_9 na0_9 ca0_9 Aa0_10 na0_10 ca0_10 w R) : Calls Try.prog 13 #[.agg #[.slice Aa0_0 na0_0 ca0_0, .slice Aa0_1 na0_1 ca0_1, .slice Aa0_2 na0_2 ca0_2, .slice Aa0_3 na0_3 ca0_3, .slice Aa0_4 na0_4 ca0_4, .slice Aa0_5 na0_5 ca0_5, .slice Aa0_6 na0_6 ca0_6, .slice Aa0_7 na0_7 ca0_7, .slice Aa0_8 na0_8 ca0_8, .slice Aa0_9 na0_9 ca0_9, .slice Aa0_10 na0_10 ca0_10]] w fun e w' => ∃ v, e = .returned v ∧ R v w' :=
  funV_sound (fn := Try.f13) (AL := f13.AL) (AC := f13.AC) W3.mixed (by kernel_rfl) (by rw [← f13.eq Aa0_0 na0_0 ca0_0 Aa0_1 na0_1 ca0_1 Aa0_2 na0_2 ca0_2 Aa0_3 na0_3 ca0_3 Aa0_4 na0_4 ca0_4 Aa0_5 na0_5 ca0_5 Aa0_6 na0_6 ca0_6 Aa0_7 na0_7 ca0_7 Aa0_8 na0_8 ca0_8 Aa0_9 na0_9 ca0_9 Aa0_10 na0_10 ca0_10]; exact h)

/-- gatehouse/gatehouselaw27.same -/
def f14.AL : Nat → Option Ann := fun r => match r with | 4 => some ⟨[(5, .int .i64)], [0, 1]⟩ | _ => none
def f14.AC : Nat → Option Ann := fun _ => none
def f14.VC (Aa0 : Option Addr) (na0 ca0 : Nat) (Aa1 : Option Addr) (na1 ca1 : Nat) (w : World) (R : Value → World → Prop) : Prop :=
  sel (((na0 : Int) : Int) != ((na1 : Int) : Int)) (
  R (.bool false) w) (
  ∃ b0 : Int → World → Nat → Prop,
  (∃ n, b0 0 w n) ∧
  ∀ d0 : Env, ∀ g0 h0 i0, b0 g0 h0 i0 →
  sel (decide ((g0 : Int) < ((na0 : Int) : Int))) (
  (0 : Int) ≤ g0 ∧ g0 < (na0 : Int) ∧
  needPtr Aa0 fun j0 k0 =>
  ∃ p0,
  h0.cell? ⟨j0, k0 + g0.toNat * 19, none⟩ = some (.int .i64 p0) ∧
  ∃ q0,
  h0.cell? ⟨j0, k0 + g0.toNat * 19 + 1, none⟩ = some (.int .i64 q0) ∧
  ∃ t0,
  h0.cell? ⟨j0, k0 + g0.toNat * 19 + 1 + 1, none⟩ = some (.bool t0) ∧
  ∃ u0,
  h0.cell? ⟨j0, k0 + g0.toNat * 19 + 1 + 1 + 1, none⟩ = some (.bool u0) ∧
  ∃ v0,
  h0.cell? ⟨j0, k0 + g0.toNat * 19 + 1 + 1 + 1 + 1, none⟩ = some (.bool v0) ∧
  ∃ x0 y0 z0,
  h0.cell? ⟨j0, k0 + g0.toNat * 19 + 1 + 1 + 1 + 1 + 1, none⟩ = some (.slice x0 y0 z0) ∧
  ∃ b1 d1 g1,
  h0.cell? ⟨j0, k0 + g0.toNat * 19 + 1 + 1 + 1 + 1 + 1 + 1, none⟩ = some (.slice b1 d1 g1) ∧
  ∃ h1 i1 j1,
  h0.cell? ⟨j0, k0 + g0.toNat * 19 + 1 + 1 + 1 + 1 + 1 + 1 + 1, none⟩ = some (.slice h1 i1 j1) ∧
  ∃ k1 p1 q1,
  h0.cell? ⟨j0, k0 + g0.toNat * 19 + 1 + 1 + 1 + 1 + 1 + 1 + 1 + 1, none⟩ = some (.slice k1 p1 q1) ∧
  ∃ t1 u1 v1,
  h0.cell? ⟨j0, k0 + g0.toNat * 19 + 1 + 1 + 1 + 1 + 1 + 1 + 1 + 1 + 1, none⟩ = some (.slice t1 u1 v1) ∧
  ∃ x1 y1 z1,
  h0.cell? ⟨j0, k0 + g0.toNat * 19 + 1 + 1 + 1 + 1 + 1 + 1 + 1 + 1 + 1 + 1, none⟩ = some (.slice x1 y1 z1) ∧
  ∃ b2 d2 g2,
  h0.cell? ⟨j0, k0 + g0.toNat * 19 + 1 + 1 + 1 + 1 + 1 + 1 + 1 + 1 + 1 + 1 + 1, none⟩ = some (.slice b2 d2 g2) ∧
  ∃ h2 i2 j2,
  h0.cell? ⟨j0, k0 + g0.toNat * 19 + 1 + 1 + 1 + 1 + 1 + 1 + 1 + 1 + 1 + 1 + 1 + 1, none⟩ = some (.slice h2 i2 j2) ∧
  ∃ k2 p2 q2,
  h0.cell? ⟨j0, k0 + g0.toNat * 19 + 1 + 1 + 1 + 1 + 1 + 1 + 1 + 1 + 1 + 1 + 1 + 1 + 1, none⟩ = some (.slice k2 p2 q2) ∧
  ∃ t2 u2 v2,
  h0.cell? ⟨j0, k0 + g0.toNat * 19 + 1 + 1 + 1 + 1 + 1 + 1 + 1 + 1 + 1 + 1 + 1 + 1 + 1 + 1, none⟩ = some (.slice t2 u2 v2) ∧
  ∃ x2 y2 z2,
  h0.cell? ⟨j0, k0 + g0.toNat * 19 + 1 + 1 + 1 + 1 + 1 + 1 + 1 + 1 + 1 + 1 + 1 + 1 + 1 + 1 + 1, none⟩ = some (.slice x2 y2 z2) ∧
  ∃ b3,
  h0.cell? ⟨j0, k0 + g0.toNat * 19 + 1 + 1 + 1 + 1 + 1 + 1 + 1 + 1 + 1 + 1 + 1 + 1 + 1 + 1 + 1 + 1, none⟩ = some (.string b3) ∧
  ∃ d3,
  h0.cell? ⟨j0, k0 + g0.toNat * 19 + 1 + 1 + 1 + 1 + 1 + 1 + 1 + 1 + 1 + 1 + 1 + 1 + 1 + 1 + 1 + 1 + 1, none⟩ = some (.string d3) ∧
  ∃ g3,
  h0.cell? ⟨j0, k0 + g0.toNat * 19 + 1 + 1 + 1 + 1 + 1 + 1 + 1 + 1 + 1 + 1 + 1 + 1 + 1 + 1 + 1 + 1 + 1 + 1, none⟩ = some (.string g3) ∧
  let h3 := World.alloc h0 (.cells #[.int .i64 0, .int .i64 0, .bool false, .bool false, .bool false, .slice none 0 0, .slice none 0 0, .slice none 0 0, .slice none 0 0, .slice none 0 0, .slice none 0 0, .slice none 0 0, .slice none 0 0, .slice none 0 0, .slice none 0 0, .slice none 0 0, .string ⟨#[]⟩, .string ⟨#[]⟩, .string ⟨#[]⟩] 39);
  canStore h3 h0.heap.size 0 19 ∧
  let i3 := setCs h3 h0.heap.size 0 [.int .i64 p0, .int .i64 q0, .bool t0, .bool u0, .bool v0, .slice x0 y0 z0, .slice b1 d1 g1, .slice h1 i1 j1, .slice k1 p1 q1, .slice t1 u1 v1, .slice x1 y1 z1, .slice b2 d2 g2, .slice h2 i2 j2, .slice k2 p2 q2, .slice t2 u2 v2, .slice x2 y2 z2, .string b3, .string d3, .string g3];
  (0 : Int) ≤ g0 ∧ g0 < (na1 : Int) ∧
  needPtr Aa1 fun j3 k3 =>
  ∃ p3,
  i3.cell? ⟨j3, k3 + g0.toNat * 19, none⟩ = some (.int .i64 p3) ∧
  ∃ q3,
  i3.cell? ⟨j3, k3 + g0.toNat * 19 + 1, none⟩ = some (.int .i64 q3) ∧
  ∃ t3,
  i3.cell? ⟨j3, k3 + g0.toNat * 19 + 1 + 1, none⟩ = some (.bool t3) ∧
  ∃ u3,
  i3.cell? ⟨j3, k3 + g0.toNat * 19 + 1 + 1 + 1, none⟩ = some (.bool u3) ∧
  ∃ v3,
  i3.cell? ⟨j3, k3 + g0.toNat * 19 + 1 + 1 + 1 + 1, none⟩ = some (.bool v3) ∧
  ∃ x3 y3 z3,
  i3.cell? ⟨j3, k3 + g0.toNat * 19 + 1 + 1 + 1 + 1 + 1, none⟩ = some (.slice x3 y3 z3) ∧
  ∃ b4 d4 g4,
  i3.cell? ⟨j3, k3 + g0.toNat * 19 + 1 + 1 + 1 + 1 + 1 + 1, none⟩ = some (.slice b4 d4 g4) ∧
  ∃ h4 i4 j4,
  i3.cell? ⟨j3, k3 + g0.toNat * 19 + 1 + 1 + 1 + 1 + 1 + 1 + 1, none⟩ = some (.slice h4 i4 j4) ∧
  ∃ k4 p4 q4,
  i3.cell? ⟨j3, k3 + g0.toNat * 19 + 1 + 1 + 1 + 1 + 1 + 1 + 1 + 1, none⟩ = some (.slice k4 p4 q4) ∧
  ∃ t4 u4 v4,
  i3.cell? ⟨j3, k3 + g0.toNat * 19 + 1 + 1 + 1 + 1 + 1 + 1 + 1 + 1 + 1, none⟩ = some (.slice t4 u4 v4) ∧
  ∃ x4 y4 z4,
  i3.cell? ⟨j3, k3 + g0.toNat * 19 + 1 + 1 + 1 + 1 + 1 + 1 + 1 + 1 + 1 + 1, none⟩ = some (.slice x4 y4 z4) ∧
  ∃ b5 d5 g5,
  i3.cell? ⟨j3, k3 + g0.toNat * 19 + 1 + 1 + 1 + 1 + 1 + 1 + 1 + 1 + 1 + 1 + 1, none⟩ = some (.slice b5 d5 g5) ∧
  ∃ h5 i5 j5,
  i3.cell? ⟨j3, k3 + g0.toNat * 19 + 1 + 1 + 1 + 1 + 1 + 1 + 1 + 1 + 1 + 1 + 1 + 1, none⟩ = some (.slice h5 i5 j5) ∧
  ∃ k5 p5 q5,
  i3.cell? ⟨j3, k3 + g0.toNat * 19 + 1 + 1 + 1 + 1 + 1 + 1 + 1 + 1 + 1 + 1 + 1 + 1 + 1, none⟩ = some (.slice k5 p5 q5) ∧
  ∃ t5 u5 v5,
  i3.cell? ⟨j3, k3 + g0.toNat * 19 + 1 + 1 + 1 + 1 + 1 + 1 + 1 + 1 + 1 + 1 + 1 + 1 + 1 + 1, none⟩ = some (.slice t5 u5 v5) ∧
  ∃ x5 y5 z5,
  i3.cell? ⟨j3, k3 + g0.toNat * 19 + 1 + 1 + 1 + 1 + 1 + 1 + 1 + 1 + 1 + 1 + 1 + 1 + 1 + 1 + 1, none⟩ = some (.slice x5 y5 z5) ∧
  ∃ b6,
  i3.cell? ⟨j3, k3 + g0.toNat * 19 + 1 + 1 + 1 + 1 + 1 + 1 + 1 + 1 + 1 + 1 + 1 + 1 + 1 + 1 + 1 + 1, none⟩ = some (.string b6) ∧
  ∃ d6,
  i3.cell? ⟨j3, k3 + g0.toNat * 19 + 1 + 1 + 1 + 1 + 1 + 1 + 1 + 1 + 1 + 1 + 1 + 1 + 1 + 1 + 1 + 1 + 1, none⟩ = some (.string d6) ∧
  ∃ g6,
  i3.cell? ⟨j3, k3 + g0.toNat * 19 + 1 + 1 + 1 + 1 + 1 + 1 + 1 + 1 + 1 + 1 + 1 + 1 + 1 + 1 + 1 + 1 + 1 + 1, none⟩ = some (.string g6) ∧
  let h6 := World.alloc i3 (.cells #[.int .i64 0, .int .i64 0, .bool false, .bool false, .bool false, .slice none 0 0, .slice none 0 0, .slice none 0 0, .slice none 0 0, .slice none 0 0, .slice none 0 0, .slice none 0 0, .slice none 0 0, .slice none 0 0, .slice none 0 0, .slice none 0 0, .string ⟨#[]⟩, .string ⟨#[]⟩, .string ⟨#[]⟩] 39);
  canStore h6 i3.heap.size 0 19 ∧
  let i6 := setCs h6 i3.heap.size 0 [.int .i64 p3, .int .i64 q3, .bool t3, .bool u3, .bool v3, .slice x3 y3 z3, .slice b4 d4 g4, .slice h4 i4 j4, .slice k4 p4 q4, .slice t4 u4 v4, .slice x4 y4 z4, .slice b5 d5 g5, .slice h5 i5 j5, .slice k5 p5 q5, .slice t5 u5 v5, .slice x5 y5 z5, .string b6, .string d6, .string g6];
  ∃ j6 k6 p6,
  i6.cell? ⟨h0.heap.size, 5, none⟩ = some (.slice j6 k6 p6) ∧
  ∃ q6 t6 u6,
  i6.cell? ⟨h0.heap.size, 6, none⟩ = some (.slice q6 t6 u6) ∧
  ∃ v6 x6 y6,
  i6.cell? ⟨h0.heap.size, 7, none⟩ = some (.slice v6 x6 y6) ∧
  ∃ z6 b7 d7,
  i6.cell? ⟨h0.heap.size, 8, none⟩ = some (.slice z6 b7 d7) ∧
  ∃ g7 h7 i7,
  i6.cell? ⟨h0.heap.size, 9, none⟩ = some (.slice g7 h7 i7) ∧
  ∃ j7 k7 p7,
  i6.cell? ⟨h0.heap.size, 10, none⟩ = some (.slice j7 k7 p7) ∧
  ∃ q7 t7 u7,
  i6.cell? ⟨h0.heap.size, 11, none⟩ = some (.slice q7 t7 u7) ∧
  ∃ v7 x7 y7,
  i6.cell? ⟨h0.heap.size, 12, none⟩ = some (.slice v7 x7 y7) ∧
  ∃ z7 b8 d8,
  i6.cell? ⟨h0.heap.size, 13, none⟩ = some (.slice z7 b8 d8) ∧
  ∃ g8 h8 i8,
  i6.cell? ⟨h0.heap.size, 14, none⟩ = some (.slice g8 h8 i8) ∧
  ∃ j8 k8 p8,
  i6.cell? ⟨h0.heap.size, 15, none⟩ = some (.slice j8 k8 p8) ∧
  ∃ q8 t8 u8,
  i6.cell? ⟨i3.heap.size, 5, none⟩ = some (.slice q8 t8 u8) ∧
  ∃ v8 x8 y8,
  i6.cell? ⟨i3.heap.size, 6, none⟩ = some (.slice v8 x8 y8) ∧
  ∃ z8 b9 d9,
  i6.cell? ⟨i3.heap.size, 7, none⟩ = some (.slice z8 b9 d9) ∧
  ∃ g9 h9 i9,
  i6.cell? ⟨i3.heap.size, 8, none⟩ = some (.slice g9 h9 i9) ∧
  ∃ j9 k9 p9,
  i6.cell? ⟨i3.heap.size, 9, none⟩ = some (.slice j9 k9 p9) ∧
  ∃ q9 t9 u9,
  i6.cell? ⟨i3.heap.size, 10, none⟩ = some (.slice q9 t9 u9) ∧
  ∃ v9 x9 y9,
  i6.cell? ⟨i3.heap.size, 11, none⟩ = some (.slice v9 x9 y9) ∧
  ∃ z9 bA dA,
  i6.cell? ⟨i3.heap.size, 12, none⟩ = some (.slice z9 bA dA) ∧
  ∃ gA hA iA,
  i6.cell? ⟨i3.heap.size, 13, none⟩ = some (.slice gA hA iA) ∧
  ∃ jA kA pA,
  i6.cell? ⟨i3.heap.size, 14, none⟩ = some (.slice jA kA pA) ∧
  ∃ qA tA uA,
  i6.cell? ⟨i3.heap.size, 15, none⟩ = some (.slice qA tA uA) ∧
  Calls Try.prog 34 #[.agg #[.slice j6 k6 p6, .slice q6 t6 u6, .slice v6 x6 y6, .slice z6 b7 d7, .slice g7 h7 i7, .slice j7 k7 p7, .slice q7 t7 u7, .slice v7 x7 y7, .slice z7 b8 d8, .slice g8 h8 i8, .slice j8 k8 p8], .agg #[.slice q8 t8 u8, .slice v8 x8 y8, .slice z8 b9 d9, .slice g9 h9 i9, .slice j9 k9 p9, .slice q9 t9 u9, .slice v9 x9 y9, .slice z9 bA dA, .slice gA hA iA, .slice jA kA pA, .slice qA tA uA]] i6 fun vA xA =>
  ∃ yA,
  vA = .returned (.bool yA) ∧
  sel (!yA) (
  R (.bool false) xA) (
  ∃ zA,
  xA.cell? ⟨h0.heap.size, 0, none⟩ = some (.int .i64 zA) ∧
  ∃ bB,
  xA.cell? ⟨i3.heap.size, 0, none⟩ = some (.int .i64 bB) ∧
  sel ((zA : Int) != (bB : Int)) (
  R (.bool false) xA) (
  ∃ dB,
  xA.cell? ⟨h0.heap.size, 1, none⟩ = some (.int .i64 dB) ∧
  ∃ gB,
  xA.cell? ⟨i3.heap.size, 1, none⟩ = some (.int .i64 gB) ∧
  sel ((dB : Int) != (gB : Int)) (
  R (.bool false) xA) (
  ∃ hB,
  xA.cell? ⟨h0.heap.size, 2, none⟩ = some (.bool hB) ∧
  ∃ iB,
  xA.cell? ⟨i3.heap.size, 2, none⟩ = some (.bool iB) ∧
  sel (!(hB == iB)) (
  R (.bool false) xA) (
  ∃ jB,
  xA.cell? ⟨h0.heap.size, 3, none⟩ = some (.bool jB) ∧
  ∃ kB,
  xA.cell? ⟨i3.heap.size, 3, none⟩ = some (.bool kB) ∧
  sel (!(jB == kB)) (
  R (.bool false) xA) (
  ∃ pB,
  xA.cell? ⟨h0.heap.size, 4, none⟩ = some (.bool pB) ∧
  ∃ qB,
  xA.cell? ⟨i3.heap.size, 4, none⟩ = some (.bool qB) ∧
  sel (!(pB == qB)) (
  R (.bool false) xA) (
  ∃ tB,
  xA.cell? ⟨h0.heap.size, 16, none⟩ = some (.string tB) ∧
  ∃ uB,
  xA.cell? ⟨h0.heap.size, 17, none⟩ = some (.string uB) ∧
  ∃ vB,
  xA.cell? ⟨h0.heap.size, 18, none⟩ = some (.string vB) ∧
  ∃ xB,
  xA.cell? ⟨i3.heap.size, 16, none⟩ = some (.string xB) ∧
  ∃ yB,
  xA.cell? ⟨i3.heap.size, 17, none⟩ = some (.string yB) ∧
  ∃ zB,
  xA.cell? ⟨i3.heap.size, 18, none⟩ = some (.string zB) ∧
  ∃ bC : Bool, (∀ w', (do eqGuard .neq 37 (.tmp 72) (.tmp 74) (.agg #[.string tB, .string uB, .string vB]) (.agg #[.string xB, .string yB, .string zB]); binOp .neq 37 (.agg #[.string tB, .string uB, .string vB]) (.agg #[.string xB, .string yB, .string zB]) : Sem Value).run Try.prog w' = .ok (.bool bC) w') ∧
  sel bC (
  R (.bool false) xA) (
  let dC : Int := IntKind.i64.wrap (g0 + 1);
  ([.slice Aa0 na0 ca0, .slice Aa1 na1 ca1] : List Value) = ([.slice Aa0 na0 ca0, .slice Aa1 na1 ca1] : List Value) ∧ ∃ m, m < i0 ∧ b0 dC xA m)))))))) (
  R (.bool true) h0))
theorem f14.eq (Aa0 : Option Addr) (na0 ca0 : Nat) (Aa1 : Option Addr) (na1 ca1 : Nat) (w : World) (R : Value → World → Prop) : f14.VC Aa0 na0 ca0 Aa1 na1 ca1 w R = funV Try.prog Try.f14 f14.AL f14.AC #[.slice Aa0 na0 ca0, .slice Aa1 na1 ca1] w R := by kernel_rfl
theorem f14.calls {Aa0 : Option Addr} {na0 ca0 : Nat} {Aa1 : Option Addr} {na1 ca1 : Nat} {w : World} {R : Value → World → Prop} (h : f14.VC Aa0 na0 ca0 Aa1 na1 ca1 w R) : Calls Try.prog 14 #[.slice Aa0 na0 ca0, .slice Aa1 na1 ca1] w fun e w' => ∃ v, e = .returned v ∧ R v w' :=
  funV_sound (fn := Try.f14) (AL := f14.AL) (AC := f14.AC) W3.mixed (by kernel_rfl) (by rw [← f14.eq Aa0 na0 ca0 Aa1 na1 ca1]; exact h)

/-- gatehouse/gatehouseref25.SamePolicy -/
def f34.AL : Nat → Option Ann := fun r => match r with | 4 => some ⟨[(5, .int .i64)], [2, 3]⟩ | 9 => some ⟨[(6, .int .i64)], [2, 3]⟩ | _ => none
def f34.AC : Nat → Option Ann := fun _ => none
def f34.VC (Aa0_0 : Option Addr) (na0_0 ca0_0 : Nat) (Aa0_1 : Option Addr) (na0_1 ca0_1 : Nat) (Aa0_2 : Option Addr) (na0_2 ca0_2 : Nat) (Aa0_3 : Option Addr) (na0_3 ca0_3 : Nat) (Aa0_4 : Option Addr) (na0_4 ca0_4 : Nat) (Aa0_5 : Option Addr) (na0_5 ca0_5 : Nat) (Aa0_6 : Option Addr) (na0_6 ca0_6 : Nat) (Aa0_7 : Option Addr) (na0_7 ca0_7 : Nat) (Aa0_8 : Option Addr) (na0_8 ca0_8 : Nat) (Aa0_9 : Option Addr) (na0_9 ca0_9 : Nat) (Aa0_10 : Option Addr) (na0_10 ca0_10 : Nat) (Aa1_0 : Option Addr) (na1_0 ca1_0 : Nat) (Aa1_1 : Option Addr) (na1_1 ca1_1 : Nat) (Aa1_2 : Option Addr) (na1_2 ca1_2 : Nat) (Aa1_3 : Option Addr) (na1_3 ca1_3 : Nat) (Aa1_4 : Option Addr) (na1_4 ca1_4 : Nat) (Aa1_5 : Option Addr) (na1_5 ca1_5 : Nat) (Aa1_6 : Option Addr) (na1_6 ca1_6 : Nat) (Aa1_7 : Option Addr) (na1_7 ca1_7 : Nat) (Aa1_8 : Option Addr) (na1_8 ca1_8 : Nat) (Aa1_9 : Option Addr) (na1_9 ca1_9 : Nat) (Aa1_10 : Option Addr) (na1_10 ca1_10 : Nat) (w : World) (R : Value → World → Prop) : Prop :=
  let b0 := World.alloc w (.cells #[.slice Aa0_0 na0_0 ca0_0, .slice Aa0_1 na0_1 ca0_1, .slice Aa0_2 na0_2 ca0_2, .slice Aa0_3 na0_3 ca0_3, .slice Aa0_4 na0_4 ca0_4, .slice Aa0_5 na0_5 ca0_5, .slice Aa0_6 na0_6 ca0_6, .slice Aa0_7 na0_7 ca0_7, .slice Aa0_8 na0_8 ca0_8, .slice Aa0_9 na0_9 ca0_9, .slice Aa0_10 na0_10 ca0_10] 28);
  let d0 := World.alloc b0 (.cells #[.slice Aa1_0 na1_0 ca1_0, .slice Aa1_1 na1_1 ca1_1, .slice Aa1_2 na1_2 ca1_2, .slice Aa1_3 na1_3 ca1_3, .slice Aa1_4 na1_4 ca1_4, .slice Aa1_5 na1_5 ca1_5, .slice Aa1_6 na1_6 ca1_6, .slice Aa1_7 na1_7 ca1_7, .slice Aa1_8 na1_8 ca1_8, .slice Aa1_9 na1_9 ca1_9, .slice Aa1_10 na1_10 ca1_10] 28);
  ∃ g0 h0 i0,
  d0.cell? ⟨w.heap.size, 1, none⟩ = some (.slice g0 h0 i0) ∧
  ∃ j0 k0 p0,
  d0.cell? ⟨b0.heap.size, 1, none⟩ = some (.slice j0 k0 p0) ∧
  sel (((h0 : Int) : Int) != ((k0 : Int) : Int)) (
  R (.bool false) d0) (
  ∃ q0 t0 u0,
  d0.cell? ⟨w.heap.size, 9, none⟩ = some (.slice q0 t0 u0) ∧
  ∃ v0 x0 y0,
  d0.cell? ⟨b0.heap.size, 9, none⟩ = some (.slice v0 x0 y0) ∧
  sel (((t0 : Int) : Int) != ((x0 : Int) : Int)) (
  R (.bool false) d0) (
  ∃ z0 : Int → World → Nat → Prop,
  (∃ n, z0 0 d0 n) ∧
  ∀ b1 : Env, ∀ d1 g1 h1, z0 d1 g1 h1 →
  ∃ i1 j1 k1,
  g1.cell? ⟨w.heap.size, 1, none⟩ = some (.slice i1 j1 k1) ∧
  sel (decide ((d1 : Int) < ((j1 : Int) : Int))) (
  ∃ p1 q1 t1,
  g1.cell? ⟨w.heap.size, 1, none⟩ = some (.slice p1 q1 t1) ∧
  (0 : Int) ≤ d1 ∧ d1 < (q1 : Int) ∧
  needPtr p1 fun u1 v1 =>
  ∃ x1,
  g1.cell? ⟨u1, v1 + d1.toNat * 2, none⟩ = some (.string x1) ∧
  ∃ y1,
  g1.cell? ⟨u1, v1 + d1.toNat * 2 + 1, none⟩ = some (.float .f64 y1) ∧
  ∃ z1 b2 d2,
  g1.cell? ⟨b0.heap.size, 1, none⟩ = some (.slice z1 b2 d2) ∧
  (0 : Int) ≤ d1 ∧ d1 < (b2 : Int) ∧
  needPtr z1 fun g2 h2 =>
  ∃ i2,
  g1.cell? ⟨g2, h2 + d1.toNat * 2, none⟩ = some (.string i2) ∧
  ∃ j2,
  g1.cell? ⟨g2, h2 + d1.toNat * 2 + 1, none⟩ = some (.float .f64 j2) ∧
  ∃ k2 : Bool, (∀ w', (do eqGuard .neq 110 (.tmp 37) (.tmp 42) (.agg #[.string x1, .float .f64 y1]) (.agg #[.string i2, .float .f64 j2]); binOp .neq 110 (.agg #[.string x1, .float .f64 y1]) (.agg #[.string i2, .float .f64 j2]) : Sem Value).run Try.prog w' = .ok (.bool k2) w') ∧
  sel k2 (
  R (.bool false) g1.drew) (
  let p2 : Int := IntKind.i64.wrap (d1 + 1);
  ([.pointer (some ⟨w.heap.size, 0, none⟩), .pointer (some ⟨b0.heap.size, 0, none⟩)] : List Value) = ([.pointer (some ⟨w.heap.size, 0, none⟩), .pointer (some ⟨b0.heap.size, 0, none⟩)] : List Value) ∧ ∃ m, m < h1 ∧ z0 p2 g1.drew m)) (
  ∃ q2 : Int → World → Nat → Prop,
  (∃ n, q2 0 g1 n) ∧
  ∀ t2 : Env, ∀ u2 v2 x2, q2 u2 v2 x2 →
  ∃ y2 z2 b3,
  v2.cell? ⟨w.heap.size, 9, none⟩ = some (.slice y2 z2 b3) ∧
  sel (decide ((u2 : Int) < ((z2 : Int) : Int))) (
  ∃ d3 g3 h3,
  v2.cell? ⟨w.heap.size, 9, none⟩ = some (.slice d3 g3 h3) ∧
  (0 : Int) ≤ u2 ∧ u2 < (g3 : Int) ∧
  needPtr d3 fun i3 j3 =>
  ∃ k3,
  v2.cell? ⟨i3, j3 + u2.toNat * 6, none⟩ = some (.bool k3) ∧
  ∃ p3,
  v2.cell? ⟨i3, j3 + u2.toNat * 6 + 1, none⟩ = some (.string p3) ∧
  ∃ q3,
  v2.cell? ⟨i3, j3 + u2.toNat * 6 + 1 + 1, none⟩ = some (.string q3) ∧
  ∃ t3 u3 v3,
  v2.cell? ⟨i3, j3 + u2.toNat * 6 + 1 + 1 + 1, none⟩ = some (.slice t3 u3 v3) ∧
  ∃ x3,
  v2.cell? ⟨i3, j3 + u2.toNat * 6 + 1 + 1 + 1 + 1, none⟩ = some (.int .i8 x3) ∧
  ∃ y3,
  v2.cell? ⟨i3, j3 + u2.toNat * 6 + 1 + 1 + 1 + 1 + 1, none⟩ = some (.float .f64 y3) ∧
  ∃ z3 b4 d4,
  v2.cell? ⟨b0.heap.size, 9, none⟩ = some (.slice z3 b4 d4) ∧
  (0 : Int) ≤ u2 ∧ u2 < (b4 : Int) ∧
  needPtr z3 fun g4 h4 =>
  ∃ i4,
  v2.cell? ⟨g4, h4 + u2.toNat * 6, none⟩ = some (.bool i4) ∧
  ∃ j4,
  v2.cell? ⟨g4, h4 + u2.toNat * 6 + 1, none⟩ = some (.string j4) ∧
  ∃ k4,
  v2.cell? ⟨g4, h4 + u2.toNat * 6 + 1 + 1, none⟩ = some (.string k4) ∧
  ∃ p4 q4 t4,
  v2.cell? ⟨g4, h4 + u2.toNat * 6 + 1 + 1 + 1, none⟩ = some (.slice p4 q4 t4) ∧
  ∃ u4,
  v2.cell? ⟨g4, h4 + u2.toNat * 6 + 1 + 1 + 1 + 1, none⟩ = some (.int .i8 u4) ∧
  ∃ v4,
  v2.cell? ⟨g4, h4 + u2.toNat * 6 + 1 + 1 + 1 + 1 + 1, none⟩ = some (.float .f64 v4) ∧
  Calls Try.prog 60 #[.agg #[.bool k3, .string p3, .string q3, .slice t3 u3 v3, .int .i8 x3, .float .f64 y3], .agg #[.bool i4, .string j4, .string k4, .slice p4 q4 t4, .int .i8 u4, .float .f64 v4]] v2.drew fun x4 y4 =>
  ∃ z4,
  x4 = .returned (.bool z4) ∧
  sel (!z4) (
  R (.bool false) y4) (
  let b5 : Int := IntKind.i64.wrap (u2 + 1);
  ([.pointer (some ⟨w.heap.size, 0, none⟩), .pointer (some ⟨b0.heap.size, 0, none⟩)] : List Value) = ([.pointer (some ⟨w.heap.size, 0, none⟩), .pointer (some ⟨b0.heap.size, 0, none⟩)] : List Value) ∧ ∃ m, m < x2 ∧ q2 b5 y4 m)) (
  ∃ d5 g5 h5,
  v2.cell? ⟨w.heap.size, 0, none⟩ = some (.slice d5 g5 h5) ∧
  ∃ i5 j5 k5,
  v2.cell? ⟨b0.heap.size, 0, none⟩ = some (.slice i5 j5 k5) ∧
  Calls Try.prog 61 #[.slice d5 g5 h5, .slice i5 j5 k5] v2 fun p5 q5 =>
  ∃ t5,
  p5 = .returned (.bool t5) ∧
  sel t5 (
  ∃ u5 v5 x5,
  q5.cell? ⟨w.heap.size, 2, none⟩ = some (.slice u5 v5 x5) ∧
  ∃ y5 z5 b6,
  q5.cell? ⟨b0.heap.size, 2, none⟩ = some (.slice y5 z5 b6) ∧
  Calls Try.prog 61 #[.slice u5 v5 x5, .slice y5 z5 b6] q5 fun d6 g6 =>
  ∃ h6,
  d6 = .returned (.bool h6) ∧
  sel h6 (
  ∃ i6 j6 k6,
  g6.cell? ⟨w.heap.size, 3, none⟩ = some (.slice i6 j6 k6) ∧
  ∃ p6 q6 t6,
  g6.cell? ⟨b0.heap.size, 3, none⟩ = some (.slice p6 q6 t6) ∧
  Calls Try.prog 61 #[.slice i6 j6 k6, .slice p6 q6 t6] g6 fun u6 v6 =>
  ∃ x6,
  u6 = .returned (.bool x6) ∧
  sel x6 (
  ∃ y6 z6 b7,
  v6.cell? ⟨w.heap.size, 4, none⟩ = some (.slice y6 z6 b7) ∧
  ∃ d7 g7 h7,
  v6.cell? ⟨b0.heap.size, 4, none⟩ = some (.slice d7 g7 h7) ∧
  Calls Try.prog 61 #[.slice y6 z6 b7, .slice d7 g7 h7] v6 fun i7 j7 =>
  ∃ k7,
  i7 = .returned (.bool k7) ∧
  ∃ p7 q7 t7,
  j7.cell? ⟨w.heap.size, 5, none⟩ = some (.slice p7 q7 t7) ∧
  ∃ u7 v7 x7,
  j7.cell? ⟨b0.heap.size, 5, none⟩ = some (.slice u7 v7 x7) ∧
  Calls Try.prog 62 #[.slice p7 q7 t7, .slice u7 v7 x7] j7 fun y7 z7 =>
  ∃ b8,
  y7 = .returned (.bool b8) ∧
  sel b8 (
  ∃ d8 g8 h8,
  z7.cell? ⟨w.heap.size, 6, none⟩ = some (.slice d8 g8 h8) ∧
  ∃ i8 j8 k8,
  z7.cell? ⟨b0.heap.size, 6, none⟩ = some (.slice i8 j8 k8) ∧
  Calls Try.prog 62 #[.slice d8 g8 h8, .slice i8 j8 k8] z7 fun p8 q8 =>
  ∃ t8,
  p8 = .returned (.bool t8) ∧
  sel t8 (
  ∃ u8 v8 x8,
  q8.cell? ⟨w.heap.size, 7, none⟩ = some (.slice u8 v8 x8) ∧
  ∃ y8 z8 b9,
  q8.cell? ⟨b0.heap.size, 7, none⟩ = some (.slice y8 z8 b9) ∧
  Calls Try.prog 62 #[.slice u8 v8 x8, .slice y8 z8 b9] q8 fun d9 g9 =>
  ∃ h9,
  d9 = .returned (.bool h9) ∧
  sel h9 (
  ∃ i9 j9 k9,
  g9.cell? ⟨w.heap.size, 8, none⟩ = some (.slice i9 j9 k9) ∧
  ∃ p9 q9 t9,
  g9.cell? ⟨b0.heap.size, 8, none⟩ = some (.slice p9 q9 t9) ∧
  Calls Try.prog 62 #[.slice i9 j9 k9, .slice p9 q9 t9] g9 fun u9 v9 =>
  ∃ x9,
  u9 = .returned (.bool x9) ∧
  sel k7 (
  sel x9 (
  ∃ y9 z9 bA,
  v9.cell? ⟨w.heap.size, 10, none⟩ = some (.slice y9 z9 bA) ∧
  ∃ dA gA hA,
  v9.cell? ⟨b0.heap.size, 10, none⟩ = some (.slice dA gA hA) ∧
  Calls Try.prog 63 #[.slice y9 z9 bA, .slice dA gA hA] v9 fun iA jA =>
  ∃ kA,
  iA = .returned (.bool kA) ∧
  R (.bool kA) jA) (
  R (.bool false) v9)) (
  R (.bool false) v9)) (
  sel k7 (
  R (.bool false) g9) (
  R (.bool false) g9))) (
  sel k7 (
  R (.bool false) q8) (
  R (.bool false) q8))) (
  sel k7 (
  R (.bool false) z7) (
  R (.bool false) z7))) (
  ∃ pA qA tA,
  v6.cell? ⟨w.heap.size, 5, none⟩ = some (.slice pA qA tA) ∧
  ∃ uA vA xA,
  v6.cell? ⟨b0.heap.size, 5, none⟩ = some (.slice uA vA xA) ∧
  Calls Try.prog 62 #[.slice pA qA tA, .slice uA vA xA] v6 fun yA zA =>
  ∃ bB,
  yA = .returned (.bool bB) ∧
  sel bB (
  ∃ dB gB hB,
  zA.cell? ⟨w.heap.size, 6, none⟩ = some (.slice dB gB hB) ∧
  ∃ iB jB kB,
  zA.cell? ⟨b0.heap.size, 6, none⟩ = some (.slice iB jB kB) ∧
  Calls Try.prog 62 #[.slice dB gB hB, .slice iB jB kB] zA fun pB qB =>
  ∃ tB,
  pB = .returned (.bool tB) ∧
  sel tB (
  ∃ uB vB xB,
  qB.cell? ⟨w.heap.size, 7, none⟩ = some (.slice uB vB xB) ∧
  ∃ yB zB bC,
  qB.cell? ⟨b0.heap.size, 7, none⟩ = some (.slice yB zB bC) ∧
  Calls Try.prog 62 #[.slice uB vB xB, .slice yB zB bC] qB fun dC gC =>
  ∃ hC,
  dC = .returned (.bool hC) ∧
  sel hC (
  ∃ iC jC kC,
  gC.cell? ⟨w.heap.size, 8, none⟩ = some (.slice iC jC kC) ∧
  ∃ pC qC tC,
  gC.cell? ⟨b0.heap.size, 8, none⟩ = some (.slice pC qC tC) ∧
  Calls Try.prog 62 #[.slice iC jC kC, .slice pC qC tC] gC fun uC vC =>
  ∃ xC,
  uC = .returned (.bool xC) ∧
  R (.bool false) vC) (
  R (.bool false) gC)) (
  R (.bool false) qB)) (
  R (.bool false) zA))) (
  ∃ yC zC bD,
  g6.cell? ⟨w.heap.size, 5, none⟩ = some (.slice yC zC bD) ∧
  ∃ dD gD hD,
  g6.cell? ⟨b0.heap.size, 5, none⟩ = some (.slice dD gD hD) ∧
  Calls Try.prog 62 #[.slice yC zC bD, .slice dD gD hD] g6 fun iD jD =>
  ∃ kD,
  iD = .returned (.bool kD) ∧
  sel kD (
  ∃ pD qD tD,
  jD.cell? ⟨w.heap.size, 6, none⟩ = some (.slice pD qD tD) ∧
  ∃ uD vD xD,
  jD.cell? ⟨b0.heap.size, 6, none⟩ = some (.slice uD vD xD) ∧
  Calls Try.prog 62 #[.slice pD qD tD, .slice uD vD xD] jD fun yD zD =>
  ∃ bE,
  yD = .returned (.bool bE) ∧
  sel bE (
  ∃ dE gE hE,
  zD.cell? ⟨w.heap.size, 7, none⟩ = some (.slice dE gE hE) ∧
  ∃ iE jE kE,
  zD.cell? ⟨b0.heap.size, 7, none⟩ = some (.slice iE jE kE) ∧
  Calls Try.prog 62 #[.slice dE gE hE, .slice iE jE kE] zD fun pE qE =>
  ∃ tE,
  pE = .returned (.bool tE) ∧
  sel tE (
  ∃ uE vE xE,
  qE.cell? ⟨w.heap.size, 8, none⟩ = some (.slice uE vE xE) ∧
  ∃ yE zE bF,
  qE.cell? ⟨b0.heap.size, 8, none⟩ = some (.slice yE zE bF) ∧
  Calls Try.prog 62 #[.slice uE vE xE, .slice yE zE bF] qE fun dF gF =>
  ∃ hF,
  dF = .returned (.bool hF) ∧
  R (.bool false) gF) (
  R (.bool false) qE)) (
  R (.bool false) zD)) (
  R (.bool false) jD))) (
  ∃ iF jF kF,
  q5.cell? ⟨w.heap.size, 5, none⟩ = some (.slice iF jF kF) ∧
  ∃ pF qF tF,
  q5.cell? ⟨b0.heap.size, 5, none⟩ = some (.slice pF qF tF) ∧
  Calls Try.prog 62 #[.slice iF jF kF, .slice pF qF tF] q5 fun uF vF =>
  ∃ xF,
  uF = .returned (.bool xF) ∧
  sel xF (
  ∃ yF zF bG,
  vF.cell? ⟨w.heap.size, 6, none⟩ = some (.slice yF zF bG) ∧
  ∃ dG gG hG,
  vF.cell? ⟨b0.heap.size, 6, none⟩ = some (.slice dG gG hG) ∧
  Calls Try.prog 62 #[.slice yF zF bG, .slice dG gG hG] vF fun iG jG =>
  ∃ kG,
  iG = .returned (.bool kG) ∧
  sel kG (
  ∃ pG qG tG,
  jG.cell? ⟨w.heap.size, 7, none⟩ = some (.slice pG qG tG) ∧
  ∃ uG vG xG,
  jG.cell? ⟨b0.heap.size, 7, none⟩ = some (.slice uG vG xG) ∧
  Calls Try.prog 62 #[.slice pG qG tG, .slice uG vG xG] jG fun yG zG =>
  ∃ bH,
  yG = .returned (.bool bH) ∧
  sel bH (
  ∃ dH gH hH,
  zG.cell? ⟨w.heap.size, 8, none⟩ = some (.slice dH gH hH) ∧
  ∃ iH jH kH,
  zG.cell? ⟨b0.heap.size, 8, none⟩ = some (.slice iH jH kH) ∧
  Calls Try.prog 62 #[.slice dH gH hH, .slice iH jH kH] zG fun pH qH =>
  ∃ tH,
  pH = .returned (.bool tH) ∧
  R (.bool false) qH) (
  R (.bool false) zG)) (
  R (.bool false) jG)) (
  R (.bool false) vF))))))
theorem f34.eq (Aa0_0 : Option Addr) (na0_0 ca0_0 : Nat) (Aa0_1 : Option Addr) (na0_1 ca0_1 : Nat) (Aa0_2 : Option Addr) (na0_2 ca0_2 : Nat) (Aa0_3 : Option Addr) (na0_3 ca0_3 : Nat) (Aa0_4 : Option Addr) (na0_4 ca0_4 : Nat) (Aa0_5 : Option Addr) (na0_5 ca0_5 : Nat) (Aa0_6 : Option Addr) (na0_6 ca0_6 : Nat) (Aa0_7 : Option Addr) (na0_7 ca0_7 : Nat) (Aa0_8 : Option Addr) (na0_8 ca0_8 : Nat) (Aa0_9 : Option Addr) (na0_9 ca0_9 : Nat) (Aa0_10 : Option Addr) (na0_10 ca0_10 : Nat) (Aa1_0 : Option Addr) (na1_0 ca1_0 : Nat) (Aa1_1 : Option Addr) (na1_1 ca1_1 : Nat) (Aa1_2 : Option Addr) (na1_2 ca1_2 : Nat) (Aa1_3 : Option Addr) (na1_3 ca1_3 : Nat) (Aa1_4 : Option Addr) (na1_4 ca1_4 : Nat) (Aa1_5 : Option Addr) (na1_5 ca1_5 : Nat) (Aa1_6 : Option Addr) (na1_6 ca1_6 : Nat) (Aa1_7 : Option Addr) (na1_7 ca1_7 : Nat) (Aa1_8 : Option Addr) (na1_8 ca1_8 : Nat) (Aa1_9 : Option Addr) (na1_9 ca1_9 : Nat) (Aa1_10 : Option Addr) (na1_10 ca1_10 : Nat) (w : World) (R : Value → World → Prop) : f34.VC Aa0_0 na0_0 ca0_0 Aa0_1 na0_1 ca0_1 Aa0_2 na0_2 ca0_2 Aa0_3 na0_3 ca0_3 Aa0_4 na0_4 ca0_4 Aa0_5 na0_5 ca0_5 Aa0_6 na0_6 ca0_6 Aa0_7 na0_7 ca0_7 Aa0_8 na0_8 ca0_8 Aa0_9 na0_9 ca0_9 Aa0_10 na0_10 ca0_10 Aa1_0 na1_0 ca1_0 Aa1_1 na1_1 ca1_1 Aa1_2 na1_2 ca1_2 Aa1_3 na1_3 ca1_3 Aa1_4 na1_4 ca1_4 Aa1_5 na1_5 ca1_5 Aa1_6 na1_6 ca1_6 Aa1_7 na1_7 ca1_7 Aa1_8 na1_8 ca1_8 Aa1_9 na1_9 ca1_9 Aa1_10 na1_10 ca1_10 w R = funV Try.prog Try.f34 f34.AL f34.AC #[.agg #[.slice Aa0_0 na0_0 ca0_0, .slice Aa0_1 na0_1 ca0_1, .slice Aa0_2 na0_2 ca0_2, .slice Aa0_3 na0_3 ca0_3, .slice Aa0_4 na0_4 ca0_4, .slice Aa0_5 na0_5 ca0_5, .slice Aa0_6 na0_6 ca0_6, .slice Aa0_7 na0_7 ca0_7, .slice Aa0_8 na0_8 ca0_8, .slice Aa0_9 na0_9 ca0_9, .slice Aa0_10 na0_10 ca0_10], .agg #[.slice Aa1_0 na1_0 ca1_0, .slice Aa1_1 na1_1 ca1_1, .slice Aa1_2 na1_2 ca1_2, .slice Aa1_3 na1_3 ca1_3, .slice Aa1_4 na1_4 ca1_4, .slice Aa1_5 na1_5 ca1_5, .slice Aa1_6 na1_6 ca1_6, .slice Aa1_7 na1_7 ca1_7, .slice Aa1_8 na1_8 ca1_8, .slice Aa1_9 na1_9 ca1_9, .slice Aa1_10 na1_10 ca1_10]] w R := by kernel_rfl
theorem f34.calls {Aa0_0 : Option Addr} {na0_0 ca0_0 : Nat} {Aa0_1 : Option Addr} {na0_1 ca0_1 : Nat} {Aa0_2 : Option Addr} {na0_2 ca0_2 : Nat} {Aa0_3 : Option Addr} {na0_3 ca0_3 : Nat} {Aa0_4 : Option Addr} {na0_4 ca0_4 : Nat} {Aa0_5 : Option Addr} {na0_5 ca0_5 : Nat} {Aa0_6 : Option Addr} {na0_6 ca0_6 : Nat} {Aa0_7 : Option Addr} {na0_7 ca0_7 : Nat} {Aa0_8 : Option Addr} {na0_8 ca0_8 : Nat} {Aa0_9 : Option Addr} {na0_9 ca0_9 : Nat} {Aa0_10 : Option Addr} {na0_10 ca0_10 : Nat} {Aa1_0 : Option Addr} {na1_0 ca1_0 : Nat} {Aa1_1 : Option Addr} {na1_1 ca1_1 : Nat} {Aa1_2 : Option Addr} {na1_2 ca1_2 : Nat} {Aa1_3 : Option Addr} {na1_3 ca1_3 : Nat} {Aa1_4 : Option Addr} {na1_4 ca1_4 : Nat} {Aa1_5 : Option Addr} {na1_5 ca1_5 : Nat} {Aa1_6 : Option Addr} {na1_6 ca1_6 : Nat} {Aa1_7 : Option Addr} {na1_7 ca1_7 : Nat} {Aa1_8 : Option Addr} {na1_8 ca1_8 : Nat} {Aa1_9 : Option Addr} {na1_9 ca1_9 : Nat} {Aa1_10 : Option Addr} {na1_10 ca1_10 : Nat} {w : World} {R : Value → World → Prop} (h : f34.VC Aa0_0 na0_0 ca0_0 Aa0_1 na0_1 ca0_1 Aa0_2 na0_2 ca0_2 Aa0_3 na0_3 ca0_3 Aa0_4 na0_4 ca0_4 Aa0_5 na0_5 ca0_5 Aa0_6 na0_6 ca0_6 Aa0_7 na0_7 ca0_7 Aa0_8 na0_8 ca0_8 Aa0_9 na0_9 ca0_9 Aa0_10 na0_10 ca0_10 Aa1_0 na1_0 ca1_0 Aa1_1 na1_1 ca1_1 Aa1_2 na1_2 ca1_2 Aa1_3 na1_3 ca1_3 Aa1_4 na1_4 ca1_4 Aa1_5 na1_5 ca1_5 Aa1_6 na1_6 ca1_6 Aa1_7 na1_7 ca1_7 Aa1_8 na1_8 ca1_8 Aa1_9 na1_9 ca1_9 Aa1_10 na1_10 ca1_10 w R) : Calls Try.prog 34 #[.agg #[.slice Aa0_0 na0_0 ca0_0, .slice Aa0_1 na0_1 ca0_1, .slice Aa0_2 na0_2 ca0_2, .slice Aa0_3 na0_3 ca0_3, .slice Aa0_4 na0_4 ca0_4, .slice Aa0_5 na0_5 ca0_5, .slice Aa0_6 na0_6 ca0_6, .slice Aa0_7 na0_7 ca0_7, .slice Aa0_8 na0_8 ca0_8, .slice Aa0_9 na0_9 ca0_9, .slice Aa0_10 na0_10 ca0_10], .agg #[.slice Aa1_0 na1_0 ca1_0, .slice Aa1_1 na1_1 ca1_1, .slice Aa1_2 na1_2 ca1_2, .slice Aa1_3 na1_3 ca1_3, .slice Aa1_4 na1_4 ca1_4, .slice Aa1_5 na1_5 ca1_5, .slice Aa1_6 na1_6 ca1_6, .slice Aa1_7 na1_7 ca1_7, .slice Aa1_8 na1_8 ca1_8, .slice Aa1_9 na1_9 ca1_9, .slice Aa1_10 na1_10 ca1_10]] w fun e w' => ∃ v, e = .returned v ∧ R v w' :=
  funV_sound (fn := Try.f34) (AL := f34.AL) (AC := f34.AC) W3.mixed (by kernel_rfl) (by rw [← f34.eq Aa0_0 na0_0 ca0_0 Aa0_1 na0_1 ca0_1 Aa0_2 na0_2 ca0_2 Aa0_3 na0_3 ca0_3 Aa0_4 na0_4 ca0_4 Aa0_5 na0_5 ca0_5 Aa0_6 na0_6 ca0_6 Aa0_7 na0_7 ca0_7 Aa0_8 na0_8 ca0_8 Aa0_9 na0_9 ca0_9 Aa0_10 na0_10 ca0_10 Aa1_0 na1_0 ca1_0 Aa1_1 na1_1 ca1_1 Aa1_2 na1_2 ca1_2 Aa1_3 na1_3 ca1_3 Aa1_4 na1_4 ca1_4 Aa1_5 na1_5 ca1_5 Aa1_6 na1_6 ca1_6 Aa1_7 na1_7 ca1_7 Aa1_8 na1_8 ca1_8 Aa1_9 na1_9 ca1_9 Aa1_10 na1_10 ca1_10]; exact h)

/-- gatehouse/gatehouseref25.sameRule -/
def f60.AL : Nat → Option Ann := fun _ => none
def f60.AC : Nat → Option Ann := fun _ => none
def f60.VC (ba0_0 : Bool) (sa0_1 : ByteArray) (sa0_2 : ByteArray) (Aa0_3 : Option Addr) (na0_3 ca0_3 : Nat) (xa0_4 : Int) (fa0_5 : Nat) (ba1_0 : Bool) (sa1_1 : ByteArray) (sa1_2 : ByteArray) (Aa1_3 : Option Addr) (na1_3 ca1_3 : Nat) (xa1_4 : Int) (fa1_5 : Nat) (w : World) (R : Value → World → Prop) : Prop :=
  let b0 := World.alloc w (.cells #[.bool ba0_0, .string sa0_1, .string sa0_2, .slice Aa0_3 na0_3 ca0_3, .int .i8 xa0_4, .float .f64 fa0_5] 88);
  let d0 := World.alloc b0 (.cells #[.bool ba1_0, .string sa1_1, .string sa1_2, .slice Aa1_3 na1_3 ca1_3, .int .i8 xa1_4, .float .f64 fa1_5] 88);
  ∃ g0,
  d0.cell? ⟨w.heap.size, 0, none⟩ = some (.bool g0) ∧
  ∃ h0,
  d0.cell? ⟨b0.heap.size, 0, none⟩ = some (.bool h0) ∧
  sel (g0 == h0) (
  ∃ i0,
  d0.cell? ⟨w.heap.size, 1, none⟩ = some (.string i0) ∧
  ∃ j0,
  d0.cell? ⟨b0.heap.size, 1, none⟩ = some (.string j0) ∧
  sel (decide (i0 = j0)) (
  ∃ k0,
  d0.cell? ⟨w.heap.size, 2, none⟩ = some (.string k0) ∧
  ∃ p0,
  d0.cell? ⟨b0.heap.size, 2, none⟩ = some (.string p0) ∧
  sel (decide (k0 = p0)) (
  ∃ q0 t0 u0,
  d0.cell? ⟨w.heap.size, 3, none⟩ = some (.slice q0 t0 u0) ∧
  ∃ v0 x0 y0,
  d0.cell? ⟨b0.heap.size, 3, none⟩ = some (.slice v0 x0 y0) ∧
  Calls Try.prog 61 #[.slice q0 t0 u0, .slice v0 x0 y0] d0 fun z0 b1 =>
  ∃ d1,
  z0 = .returned (.bool d1) ∧
  sel d1 (
  ∃ g1,
  b1.cell? ⟨w.heap.size, 4, none⟩ = some (.int .i8 g1) ∧
  ∃ h1,
  b1.cell? ⟨b0.heap.size, 4, none⟩ = some (.int .i8 h1) ∧
  sel ((g1 : Int) == (h1 : Int)) (
  ∃ i1,
  b1.cell? ⟨w.heap.size, 5, none⟩ = some (.float .f64 i1) ∧
  ∃ j1,
  b1.cell? ⟨b0.heap.size, 5, none⟩ = some (.float .f64 j1) ∧
  ∃ k1 : Bool, (∀ w', (do eqGuard .eql 86 (.tmp 40) (.tmp 42) (.float .f64 i1) (.float .f64 j1); binOp .eql 86 (.float .f64 i1) (.float .f64 j1) : Sem Value).run Try.prog w' = .ok (.bool k1) w') ∧
  R (.bool k1) b1) (
  R (.bool false) b1)) (
  R (.bool false) b1)) (
  R (.bool false) d0)) (
  R (.bool false) d0)) (
  R (.bool false) d0)
theorem f60.eq (ba0_0 : Bool) (sa0_1 : ByteArray) (sa0_2 : ByteArray) (Aa0_3 : Option Addr) (na0_3 ca0_3 : Nat) (xa0_4 : Int) (fa0_5 : Nat) (ba1_0 : Bool) (sa1_1 : ByteArray) (sa1_2 : ByteArray) (Aa1_3 : Option Addr) (na1_3 ca1_3 : Nat) (xa1_4 : Int) (fa1_5 : Nat) (w : World) (R : Value → World → Prop) : f60.VC ba0_0 sa0_1 sa0_2 Aa0_3 na0_3 ca0_3 xa0_4 fa0_5 ba1_0 sa1_1 sa1_2 Aa1_3 na1_3 ca1_3 xa1_4 fa1_5 w R = funV Try.prog Try.f60 f60.AL f60.AC #[.agg #[.bool ba0_0, .string sa0_1, .string sa0_2, .slice Aa0_3 na0_3 ca0_3, .int .i8 xa0_4, .float .f64 fa0_5], .agg #[.bool ba1_0, .string sa1_1, .string sa1_2, .slice Aa1_3 na1_3 ca1_3, .int .i8 xa1_4, .float .f64 fa1_5]] w R := by kernel_rfl
theorem f60.calls {ba0_0 : Bool} {sa0_1 : ByteArray} {sa0_2 : ByteArray} {Aa0_3 : Option Addr} {na0_3 ca0_3 : Nat} {xa0_4 : Int} {fa0_5 : Nat} {ba1_0 : Bool} {sa1_1 : ByteArray} {sa1_2 : ByteArray} {Aa1_3 : Option Addr} {na1_3 ca1_3 : Nat} {xa1_4 : Int} {fa1_5 : Nat} {w : World} {R : Value → World → Prop} (h : f60.VC ba0_0 sa0_1 sa0_2 Aa0_3 na0_3 ca0_3 xa0_4 fa0_5 ba1_0 sa1_1 sa1_2 Aa1_3 na1_3 ca1_3 xa1_4 fa1_5 w R) : Calls Try.prog 60 #[.agg #[.bool ba0_0, .string sa0_1, .string sa0_2, .slice Aa0_3 na0_3 ca0_3, .int .i8 xa0_4, .float .f64 fa0_5], .agg #[.bool ba1_0, .string sa1_1, .string sa1_2, .slice Aa1_3 na1_3 ca1_3, .int .i8 xa1_4, .float .f64 fa1_5]] w fun e w' => ∃ v, e = .returned v ∧ R v w' :=
  funV_sound (fn := Try.f60) (AL := f60.AL) (AC := f60.AC) W3.mixed (by kernel_rfl) (by rw [← f60.eq ba0_0 sa0_1 sa0_2 Aa0_3 na0_3 ca0_3 xa0_4 fa0_5 ba1_0 sa1_1 sa1_2 Aa1_3 na1_3 ca1_3 xa1_4 fa1_5]; exact h)

/-- gatehouse/gatehouseref25.sameNames -/
def f61.AL : Nat → Option Ann := fun r => match r with | 4 => some ⟨[(5, .int .i64)], [0, 1]⟩ | _ => none
def f61.AC : Nat → Option Ann := fun _ => none
def f61.VC (Aa0 : Option Addr) (na0 ca0 : Nat) (Aa1 : Option Addr) (na1 ca1 : Nat) (w : World) (R : Value → World → Prop) : Prop :=
  sel (((na0 : Int) : Int) != ((na1 : Int) : Int)) (
  R (.bool false) w) (
  ∃ b0 : Int → World → Nat → Prop,
  (∃ n, b0 0 w n) ∧
  ∀ d0 : Env, ∀ g0 h0 i0, b0 g0 h0 i0 →
  sel (decide ((g0 : Int) < ((na0 : Int) : Int))) (
  (0 : Int) ≤ g0 ∧ g0 < (na0 : Int) ∧
  needPtr Aa0 fun j0 k0 =>
  (0 : Int) ≤ g0 ∧ g0 < (na1 : Int) ∧
  needPtr Aa1 fun p0 q0 =>
  ∃ t0,
  h0.cell? ⟨j0, k0 + g0.toNat * 1, none⟩ = some (.string t0) ∧
  ∃ u0,
  h0.cell? ⟨p0, q0 + g0.toNat * 1, none⟩ = some (.string u0) ∧
  sel (!(decide (t0 = u0))) (
  R (.bool false) h0.drew) (
  let v0 : Int := IntKind.i64.wrap (g0 + 1);
  ([.slice Aa0 na0 ca0, .slice Aa1 na1 ca1] : List Value) = ([.slice Aa0 na0 ca0, .slice Aa1 na1 ca1] : List Value) ∧ ∃ m, m < i0 ∧ b0 v0 h0.drew m)) (
  R (.bool true) h0))
theorem f61.eq (Aa0 : Option Addr) (na0 ca0 : Nat) (Aa1 : Option Addr) (na1 ca1 : Nat) (w : World) (R : Value → World → Prop) : f61.VC Aa0 na0 ca0 Aa1 na1 ca1 w R = funV Try.prog Try.f61 f61.AL f61.AC #[.slice Aa0 na0 ca0, .slice Aa1 na1 ca1] w R := by kernel_rfl
theorem f61.calls {Aa0 : Option Addr} {na0 ca0 : Nat} {Aa1 : Option Addr} {na1 ca1 : Nat} {w : World} {R : Value → World → Prop} (h : f61.VC Aa0 na0 ca0 Aa1 na1 ca1 w R) : Calls Try.prog 61 #[.slice Aa0 na0 ca0, .slice Aa1 na1 ca1] w fun e w' => ∃ v, e = .returned v ∧ R v w' :=
  funV_sound (fn := Try.f61) (AL := f61.AL) (AC := f61.AC) W3.mixed (by kernel_rfl) (by rw [← f61.eq Aa0 na0 ca0 Aa1 na1 ca1]; exact h)

/-- gatehouse/gatehouseref25.samePairs -/
def f62.AL : Nat → Option Ann := fun r => match r with | 4 => some ⟨[(5, .int .i64)], [0, 1]⟩ | _ => none
def f62.AC : Nat → Option Ann := fun _ => none
def f62.VC (Aa0 : Option Addr) (na0 ca0 : Nat) (Aa1 : Option Addr) (na1 ca1 : Nat) (w : World) (R : Value → World → Prop) : Prop :=
  sel (((na0 : Int) : Int) != ((na1 : Int) : Int)) (
  R (.bool false) w) (
  ∃ b0 : Int → World → Nat → Prop,
  (∃ n, b0 0 w n) ∧
  ∀ d0 : Env, ∀ g0 h0 i0, b0 g0 h0 i0 →
  sel (decide ((g0 : Int) < ((na0 : Int) : Int))) (
  (0 : Int) ≤ g0 ∧ g0 < (na0 : Int) ∧
  needPtr Aa0 fun j0 k0 =>
  (0 : Int) ≤ g0 ∧ g0 < (na1 : Int) ∧
  needPtr Aa1 fun p0 q0 =>
  ∃ t0,
  h0.cell? ⟨j0, k0 + g0.toNat * 2, none⟩ = some (.string t0) ∧
  ∃ u0,
  h0.cell? ⟨j0, k0 + g0.toNat * 2 + 1, none⟩ = some (.string u0) ∧
  ∃ v0,
  h0.cell? ⟨p0, q0 + g0.toNat * 2, none⟩ = some (.string v0) ∧
  ∃ x0,
  h0.cell? ⟨p0, q0 + g0.toNat * 2 + 1, none⟩ = some (.string x0) ∧
  ∃ y0 : Bool, (∀ w', (do eqGuard .neq 147 (.tmp 20) (.tmp 24) (.agg #[.string t0, .string u0]) (.agg #[.string v0, .string x0]); binOp .neq 147 (.agg #[.string t0, .string u0]) (.agg #[.string v0, .string x0]) : Sem Value).run Try.prog w' = .ok (.bool y0) w') ∧
  sel y0 (
  R (.bool false) h0.drew) (
  let z0 : Int := IntKind.i64.wrap (g0 + 1);
  ([.slice Aa0 na0 ca0, .slice Aa1 na1 ca1] : List Value) = ([.slice Aa0 na0 ca0, .slice Aa1 na1 ca1] : List Value) ∧ ∃ m, m < i0 ∧ b0 z0 h0.drew m)) (
  R (.bool true) h0))
theorem f62.eq (Aa0 : Option Addr) (na0 ca0 : Nat) (Aa1 : Option Addr) (na1 ca1 : Nat) (w : World) (R : Value → World → Prop) : f62.VC Aa0 na0 ca0 Aa1 na1 ca1 w R = funV Try.prog Try.f62 f62.AL f62.AC #[.slice Aa0 na0 ca0, .slice Aa1 na1 ca1] w R := by kernel_rfl
theorem f62.calls {Aa0 : Option Addr} {na0 ca0 : Nat} {Aa1 : Option Addr} {na1 ca1 : Nat} {w : World} {R : Value → World → Prop} (h : f62.VC Aa0 na0 ca0 Aa1 na1 ca1 w R) : Calls Try.prog 62 #[.slice Aa0 na0 ca0, .slice Aa1 na1 ca1] w fun e w' => ∃ v, e = .returned v ∧ R v w' :=
  funV_sound (fn := Try.f62) (AL := f62.AL) (AC := f62.AC) W3.mixed (by kernel_rfl) (by rw [← f62.eq Aa0 na0 ca0 Aa1 na1 ca1]; exact h)

/-- gatehouse/gatehouseref25.sameTriples -/
def f63.AL : Nat → Option Ann := fun r => match r with | 4 => some ⟨[(5, .int .i64)], [0, 1]⟩ | _ => none
def f63.AC : Nat → Option Ann := fun _ => none
def f63.VC (Aa0 : Option Addr) (na0 ca0 : Nat) (Aa1 : Option Addr) (na1 ca1 : Nat) (w : World) (R : Value → World → Prop) : Prop :=
  sel (((na0 : Int) : Int) != ((na1 : Int) : Int)) (
  R (.bool false) w) (
  ∃ b0 : Int → World → Nat → Prop,
  (∃ n, b0 0 w n) ∧
  ∀ d0 : Env, ∀ g0 h0 i0, b0 g0 h0 i0 →
  sel (decide ((g0 : Int) < ((na0 : Int) : Int))) (
  (0 : Int) ≤ g0 ∧ g0 < (na0 : Int) ∧
  needPtr Aa0 fun j0 k0 =>
  (0 : Int) ≤ g0 ∧ g0 < (na1 : Int) ∧
  needPtr Aa1 fun p0 q0 =>
  ∃ t0,
  h0.cell? ⟨j0, k0 + g0.toNat * 3, none⟩ = some (.string t0) ∧
  ∃ u0,
  h0.cell? ⟨j0, k0 + g0.toNat * 3 + 1, none⟩ = some (.string u0) ∧
  ∃ v0,
  h0.cell? ⟨j0, k0 + g0.toNat * 3 + 1 + 1, none⟩ = some (.string v0) ∧
  ∃ x0,
  h0.cell? ⟨p0, q0 + g0.toNat * 3, none⟩ = some (.string x0) ∧
  ∃ y0,
  h0.cell? ⟨p0, q0 + g0.toNat * 3 + 1, none⟩ = some (.string y0) ∧
  ∃ z0,
  h0.cell? ⟨p0, q0 + g0.toNat * 3 + 1 + 1, none⟩ = some (.string z0) ∧
  ∃ b1 : Bool, (∀ w', (do eqGuard .neq 37 (.tmp 20) (.tmp 24) (.agg #[.string t0, .string u0, .string v0]) (.agg #[.string x0, .string y0, .string z0]); binOp .neq 37 (.agg #[.string t0, .string u0, .string v0]) (.agg #[.string x0, .string y0, .string z0]) : Sem Value).run Try.prog w' = .ok (.bool b1) w') ∧
  sel b1 (
  R (.bool false) h0.drew) (
  let d1 : Int := IntKind.i64.wrap (g0 + 1);
  ([.slice Aa0 na0 ca0, .slice Aa1 na1 ca1] : List Value) = ([.slice Aa0 na0 ca0, .slice Aa1 na1 ca1] : List Value) ∧ ∃ m, m < i0 ∧ b0 d1 h0.drew m)) (
  R (.bool true) h0))
theorem f63.eq (Aa0 : Option Addr) (na0 ca0 : Nat) (Aa1 : Option Addr) (na1 ca1 : Nat) (w : World) (R : Value → World → Prop) : f63.VC Aa0 na0 ca0 Aa1 na1 ca1 w R = funV Try.prog Try.f63 f63.AL f63.AC #[.slice Aa0 na0 ca0, .slice Aa1 na1 ca1] w R := by kernel_rfl
theorem f63.calls {Aa0 : Option Addr} {na0 ca0 : Nat} {Aa1 : Option Addr} {na1 ca1 : Nat} {w : World} {R : Value → World → Prop} (h : f63.VC Aa0 na0 ca0 Aa1 na1 ca1 w R) : Calls Try.prog 63 #[.slice Aa0 na0 ca0, .slice Aa1 na1 ca1] w fun e w' => ∃ v, e = .returned v ∧ R v w' :=
  funV_sound (fn := Try.f63) (AL := f63.AL) (AC := f63.AC) W3.mixed (by kernel_rfl) (by rw [← f63.eq Aa0 na0 ca0 Aa1 na1 ca1]; exact h)

end Go.Proofs.Ytddbebhklmaeoaa
