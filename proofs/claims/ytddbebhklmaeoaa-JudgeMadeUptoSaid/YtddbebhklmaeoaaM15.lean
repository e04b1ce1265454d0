/- The plain statements of some functions, printed by vcgen.py. -/
import Derived.Test.YtddbebhklmaeoaaM5
import Derived.Test.YtddbebhklmaeoaaProg
import Derived.KernelRfl
set_option maxRecDepth 100000
set_option maxHeartbeats 4000000
set_option linter.unusedVariables false
namespace Go.Proofs.Ytddbebhklmaeoaa
open Go Go.Proofs.Ytddbebhklmaeoaa.Vc
theorem W3.mixed : Try.prog.follows .mixedOrders = true := by kernel_rfl
/-- gatehouse/gatehouseref09.texts -/
def f31.AL : Nat → Option Ann := fun _ => none
def f31.AC : Nat → Option Ann := fun _ => none
def f31.VC (Aa0 : Option Addr) (na0 ca0 : Nat) (Aa1 : Option Addr) (na1 ca1 : Nat) (w : World) (R : Value → World → Prop) : Prop :=
  ∃ b0 d0 g0,
  ∃ h0, (Builtin.append_ #[22, 22] 22 #[.slice none 0 0, .slice Aa0 na0 ca0]).run Try.prog w = .ok (.slice b0 d0 g0) h0 ∧
  ∃ i0 j0 k0,
  ∃ p0, (Builtin.append_ #[22, 22] 22 #[.slice b0 d0 g0, .slice Aa1 na1 ca1]).run Try.prog h0 = .ok (.slice i0 j0 k0) p0 ∧
  R (.slice i0 j0 k0) p0
theorem f31.eq (Aa0 : Option Addr) (na0 ca0 : Nat) (Aa1 : Option Addr) (na1 ca1 : Nat) (w : World) (R : Value → World → Prop) : f31.VC Aa0 na0 ca0 Aa1 na1 ca1 w R = funV Try.prog Try.f31 f31.AL f31.AC #[.slice Aa0 na0 ca0, .slice Aa1 na1 ca1] w R := by kernel_rfl
theorem f31.calls {Aa0 : Option Addr} {na0 ca0 : Nat} {Aa1 : Option Addr} {na1 ca1 : Nat} {w : World} {R : Value → World → Prop} (h : f31.VC Aa0 na0 ca0 Aa1 na1 ca1 w R) : Calls Try.prog 31 #[.slice Aa0 na0 ca0, .slice Aa1 na1 ca1] w fun e w' => ∃ v, e = .returned v ∧ R v w' :=
  funV_sound (fn := Try.f31) (AL := f31.AL) (AC := f31.AC) W3.mixed (by kernel_rfl) (by rw [← f31.eq Aa0 na0 ca0 Aa1 na1 ca1]; exact h)

/-- gatehouse/gatehouseref09.Copy -/
def f10.AL : Nat → Option Ann := fun r => match r with | 8 => some ⟨[(4, .int .i64)], [1, 2, 3]⟩ | _ => none
def f10.AC : Nat → Option Ann := fun r => match r with | 2 => some ⟨[(3, .blk)], [1, 2]⟩ | 1000001 => some ⟨[], []⟩ | _ => none
def f10.VC (Aa0_0 : Option Addr) (na0_0 ca0_0 : Nat) (Aa0_1 : Option Addr) (na0_1 ca0_1 : Nat) (Aa0_2 : Option Addr) (na0_2 ca0_2 : Nat) (Aa0_3 : Option Addr) (na0_3 ca0_3 : Nat) (Aa0_4 : Option Addr) (na0_4 ca0_4 : Nat) (Aa0_5 : Option Addr) (na0_5 ca0_5 : Nat) (Aa0_6 : Option Addr) (na0_6 ca0_6 : Nat) (Aa0_7 : Option Addr) (na0_7 ca0_7 : Nat) (Aa0_8 : Option Addr) (na0_8 ca0_8 : Nat) (Aa0_9 : Option Addr) (na0_9 ca0_9 : Nat) (Aa0_10 : Option Addr) (na0_10 ca0_10 : Nat) (w : World) (R : Value → World → Prop) : Prop :=
  let b0 := World.alloc w (.cells #[.slice Aa0_0 na0_0 ca0_0, .slice Aa0_1 na0_1 ca0_1, .slice Aa0_2 na0_2 ca0_2, .slice Aa0_3 na0_3 ca0_3, .slice Aa0_4 na0_4 ca0_4, .slice Aa0_5 na0_5 ca0_5, .slice Aa0_6 na0_6 ca0_6, .slice Aa0_7 na0_7 ca0_7, .slice Aa0_8 na0_8 ca0_8, .slice Aa0_9 na0_9 ca0_9, .slice Aa0_10 na0_10 ca0_10] 28);
  let d0 := World.alloc b0 (.cells #[.slice none 0 0, .slice none 0 0, .slice none 0 0, .slice none 0 0, .slice none 0 0, .slice none 0 0, .slice none 0 0, .slice none 0 0, .slice none 0 0, .slice none 0 0, .slice none 0 0] 28);
  ∃ g0 : Nat → Nat → World → Prop,
  (∃ h0 i0 j0,
  d0.cell? ⟨w.heap.size, 0, none⟩ = some (.slice h0 i0 j0) ∧
  ∃ k0 p0 q0,
  d0.cell? ⟨w.heap.size, 2, none⟩ = some (.slice k0 p0 q0) ∧
  ∃ t0 u0 v0,
  d0.cell? ⟨w.heap.size, 3, none⟩ = some (.slice t0 u0 v0) ∧
  ∃ x0 y0 z0,
  d0.cell? ⟨w.heap.size, 4, none⟩ = some (.slice x0 y0 z0) ∧
  (Calls Try.prog 31 #[.slice h0 i0 j0, .slice none 0 0] d0.drew fun b1 d1 =>
  ∃ g1 h1 i1,
  b1 = .returned (.slice g1 h1 i1) ∧
  (d1.cell? ⟨w.heap.size, 4, none⟩ = some (.slice x0 y0 z0) ∧ d1.cell? ⟨w.heap.size, 3, none⟩ = some (.slice t0 u0 v0) ∧ d1.cell? ⟨w.heap.size, 2, none⟩ = some (.slice k0 p0 q0) ∧ d1.cell? ⟨w.heap.size, 0, none⟩ = some (.slice h0 i0 j0) ∧ True) ∧
  (Calls Try.prog 31 #[.slice k0 p0 q0, .slice none 0 0] d1 fun j1 k1 =>
  ∃ p1 q1 t1,
  j1 = .returned (.slice p1 q1 t1) ∧
  (k1.cell? ⟨w.heap.size, 4, none⟩ = some (.slice x0 y0 z0) ∧ k1.cell? ⟨w.heap.size, 3, none⟩ = some (.slice t0 u0 v0) ∧ k1.cell? ⟨w.heap.size, 2, none⟩ = some (.slice k0 p0 q0) ∧ k1.cell? ⟨w.heap.size, 0, none⟩ = some (.slice h0 i0 j0) ∧ True) ∧
  (Calls Try.prog 31 #[.slice t0 u0 v0, .slice none 0 0] k1 fun u1 v1 =>
  ∃ x1 y1 z1,
  u1 = .returned (.slice x1 y1 z1) ∧
  (v1.cell? ⟨w.heap.size, 4, none⟩ = some (.slice x0 y0 z0) ∧ v1.cell? ⟨w.heap.size, 3, none⟩ = some (.slice t0 u0 v0) ∧ v1.cell? ⟨w.heap.size, 2, none⟩ = some (.slice k0 p0 q0) ∧ v1.cell? ⟨w.heap.size, 0, none⟩ = some (.slice h0 i0 j0) ∧ True) ∧
  (Calls Try.prog 31 #[.slice x0 y0 z0, .slice none 0 0] v1 fun b2 d2 =>
  ∃ g2 h2 i2,
  b2 = .returned (.slice g2 h2 i2) ∧
  (d2.cell? ⟨w.heap.size, 4, none⟩ = some (.slice x0 y0 z0) ∧ d2.cell? ⟨w.heap.size, 3, none⟩ = some (.slice t0 u0 v0) ∧ d2.cell? ⟨w.heap.size, 2, none⟩ = some (.slice k0 p0 q0) ∧ d2.cell? ⟨w.heap.size, 0, none⟩ = some (.slice h0 i0 j0) ∧ True) ∧
  let j2 := World.alloc d2 (.cells #[.slice none 0 0, .slice none 0 0, .slice none 0 0, .slice none 0 0, .slice none 0 0, .slice none 0 0, .slice none 0 0, .slice none 0 0, .slice none 0 0, .slice none 0 0, .slice none 0 0] 28);
  (j2.cell? ⟨w.heap.size, 4, none⟩ = some (.slice x0 y0 z0) ∧ j2.cell? ⟨w.heap.size, 3, none⟩ = some (.slice t0 u0 v0) ∧ j2.cell? ⟨w.heap.size, 2, none⟩ = some (.slice k0 p0 q0) ∧ j2.cell? ⟨w.heap.size, 0, none⟩ = some (.slice h0 i0 j0) ∧ True) ∧
  canStore j2 d2.heap.size 0 11 ∧
  let k2 := setCs j2 d2.heap.size 0 [.slice g1 h1 i1, .slice none 0 0, .slice p1 q1 t1, .slice x1 y1 z1, .slice g2 h2 i2, .slice none 0 0, .slice none 0 0, .slice none 0 0, .slice none 0 0, .slice none 0 0, .slice none 0 0];
  (k2.cell? ⟨w.heap.size, 4, none⟩ = some (.slice x0 y0 z0) ∧ k2.cell? ⟨w.heap.size, 3, none⟩ = some (.slice t0 u0 v0) ∧ k2.cell? ⟨w.heap.size, 2, none⟩ = some (.slice k0 p0 q0) ∧ k2.cell? ⟨w.heap.size, 0, none⟩ = some (.slice h0 i0 j0) ∧ True) ∧
  ([.pointer (some ⟨w.heap.size, 0, none⟩), .pointer (some ⟨b0.heap.size, 0, none⟩)] : List Value) = ([.pointer (some ⟨w.heap.size, 0, none⟩), .pointer (some ⟨b0.heap.size, 0, none⟩)] : List Value) ∧ g0 d2.heap.size 0 k2) ∧
  (let p2 := World.alloc v1 (.cells #[.slice none 0 0, .slice none 0 0, .slice none 0 0, .slice none 0 0, .slice none 0 0, .slice none 0 0, .slice none 0 0, .slice none 0 0, .slice none 0 0, .slice none 0 0, .slice none 0 0] 28);
  (p2.cell? ⟨w.heap.size, 4, none⟩ = some (.slice x0 y0 z0) ∧ p2.cell? ⟨w.heap.size, 3, none⟩ = some (.slice t0 u0 v0) ∧ p2.cell? ⟨w.heap.size, 2, none⟩ = some (.slice k0 p0 q0) ∧ p2.cell? ⟨w.heap.size, 0, none⟩ = some (.slice h0 i0 j0) ∧ True) ∧
  Calls Try.prog 31 #[.slice x0 y0 z0, .slice none 0 0] p2 fun q2 t2 =>
  ∃ u2 v2 x2,
  q2 = .returned (.slice u2 v2 x2) ∧
  (t2.cell? ⟨w.heap.size, 4, none⟩ = some (.slice x0 y0 z0) ∧ t2.cell? ⟨w.heap.size, 3, none⟩ = some (.slice t0 u0 v0) ∧ t2.cell? ⟨w.heap.size, 2, none⟩ = some (.slice k0 p0 q0) ∧ t2.cell? ⟨w.heap.size, 0, none⟩ = some (.slice h0 i0 j0) ∧ True) ∧
  canStore t2 v1.heap.size 0 11 ∧
  let y2 := setCs t2 v1.heap.size 0 [.slice g1 h1 i1, .slice none 0 0, .slice p1 q1 t1, .slice x1 y1 z1, .slice u2 v2 x2, .slice none 0 0, .slice none 0 0, .slice none 0 0, .slice none 0 0, .slice none 0 0, .slice none 0 0];
  (y2.cell? ⟨w.heap.size, 4, none⟩ = some (.slice x0 y0 z0) ∧ y2.cell? ⟨w.heap.size, 3, none⟩ = some (.slice t0 u0 v0) ∧ y2.cell? ⟨w.heap.size, 2, none⟩ = some (.slice k0 p0 q0) ∧ y2.cell? ⟨w.heap.size, 0, none⟩ = some (.slice h0 i0 j0) ∧ True) ∧
  ([.pointer (some ⟨w.heap.size, 0, none⟩), .pointer (some ⟨b0.heap.size, 0, none⟩)] : List Value) = ([.pointer (some ⟨w.heap.size, 0, none⟩), .pointer (some ⟨b0.heap.size, 0, none⟩)] : List Value) ∧ g0 v1.heap.size 0 y2) ∧ True) ∧
  (let z2 := World.alloc k1 (.cells #[.slice none 0 0, .slice none 0 0, .slice none 0 0, .slice none 0 0, .slice none 0 0, .slice none 0 0, .slice none 0 0, .slice none 0 0, .slice none 0 0, .slice none 0 0, .slice none 0 0] 28);
  (z2.cell? ⟨w.heap.size, 4, none⟩ = some (.slice x0 y0 z0) ∧ z2.cell? ⟨w.heap.size, 3, none⟩ = some (.slice t0 u0 v0) ∧ z2.cell? ⟨w.heap.size, 2, none⟩ = some (.slice k0 p0 q0) ∧ z2.cell? ⟨w.heap.size, 0, none⟩ = some (.slice h0 i0 j0) ∧ True) ∧
  Calls Try.prog 31 #[.slice t0 u0 v0, .slice none 0 0] z2 fun b3 d3 =>
  ∃ g3 h3 i3,
  b3 = .returned (.slice g3 h3 i3) ∧
  (d3.cell? ⟨w.heap.size, 4, none⟩ = some (.slice x0 y0 z0) ∧ d3.cell? ⟨w.heap.size, 3, none⟩ = some (.slice t0 u0 v0) ∧ d3.cell? ⟨w.heap.size, 2, none⟩ = some (.slice k0 p0 q0) ∧ d3.cell? ⟨w.heap.size, 0, none⟩ = some (.slice h0 i0 j0) ∧ True) ∧
  Calls Try.prog 31 #[.slice x0 y0 z0, .slice none 0 0] d3 fun j3 k3 =>
  ∃ p3 q3 t3,
  j3 = .returned (.slice p3 q3 t3) ∧
  (k3.cell? ⟨w.heap.size, 4, none⟩ = some (.slice x0 y0 z0) ∧ k3.cell? ⟨w.heap.size, 3, none⟩ = some (.slice t0 u0 v0) ∧ k3.cell? ⟨w.heap.size, 2, none⟩ = some (.slice k0 p0 q0) ∧ k3.cell? ⟨w.heap.size, 0, none⟩ = some (.slice h0 i0 j0) ∧ True) ∧
  canStore k3 k1.heap.size 0 11 ∧
  let u3 := setCs k3 k1.heap.size 0 [.slice g1 h1 i1, .slice none 0 0, .slice p1 q1 t1, .slice g3 h3 i3, .slice p3 q3 t3, .slice none 0 0, .slice none 0 0, .slice none 0 0, .slice none 0 0, .slice none 0 0, .slice none 0 0];
  (u3.cell? ⟨w.heap.size, 4, none⟩ = some (.slice x0 y0 z0) ∧ u3.cell? ⟨w.heap.size, 3, none⟩ = some (.slice t0 u0 v0) ∧ u3.cell? ⟨w.heap.size, 2, none⟩ = some (.slice k0 p0 q0) ∧ u3.cell? ⟨w.heap.size, 0, none⟩ = some (.slice h0 i0 j0) ∧ True) ∧
  ([.pointer (some ⟨w.heap.size, 0, none⟩), .pointer (some ⟨b0.heap.size, 0, none⟩)] : List Value) = ([.pointer (some ⟨w.heap.size, 0, none⟩), .pointer (some ⟨b0.heap.size, 0, none⟩)] : List Value) ∧ g0 k1.heap.size 0 u3) ∧ True) ∧
  (let v3 := World.alloc d1 (.cells #[.slice none 0 0, .slice none 0 0, .slice none 0 0, .slice none 0 0, .slice none 0 0, .slice none 0 0, .slice none 0 0, .slice none 0 0, .slice none 0 0, .slice none 0 0, .slice none 0 0] 28);
  (v3.cell? ⟨w.heap.size, 4, none⟩ = some (.slice x0 y0 z0) ∧ v3.cell? ⟨w.heap.size, 3, none⟩ = some (.slice t0 u0 v0) ∧ v3.cell? ⟨w.heap.size, 2, none⟩ = some (.slice k0 p0 q0) ∧ v3.cell? ⟨w.heap.size, 0, none⟩ = some (.slice h0 i0 j0) ∧ True) ∧
  Calls Try.prog 31 #[.slice k0 p0 q0, .slice none 0 0] v3 fun x3 y3 =>
  ∃ z3 b4 d4,
  x3 = .returned (.slice z3 b4 d4) ∧
  (y3.cell? ⟨w.heap.size, 4, none⟩ = some (.slice x0 y0 z0) ∧ y3.cell? ⟨w.heap.size, 3, none⟩ = some (.slice t0 u0 v0) ∧ y3.cell? ⟨w.heap.size, 2, none⟩ = some (.slice k0 p0 q0) ∧ y3.cell? ⟨w.heap.size, 0, none⟩ = some (.slice h0 i0 j0) ∧ True) ∧
  Calls Try.prog 31 #[.slice t0 u0 v0, .slice none 0 0] y3 fun g4 h4 =>
  ∃ i4 j4 k4,
  g4 = .returned (.slice i4 j4 k4) ∧
  (h4.cell? ⟨w.heap.size, 4, none⟩ = some (.slice x0 y0 z0) ∧ h4.cell? ⟨w.heap.size, 3, none⟩ = some (.slice t0 u0 v0) ∧ h4.cell? ⟨w.heap.size, 2, none⟩ = some (.slice k0 p0 q0) ∧ h4.cell? ⟨w.heap.size, 0, none⟩ = some (.slice h0 i0 j0) ∧ True) ∧
  Calls Try.prog 31 #[.slice x0 y0 z0, .slice none 0 0] h4 fun p4 q4 =>
  ∃ t4 u4 v4,
  p4 = .returned (.slice t4 u4 v4) ∧
  (q4.cell? ⟨w.heap.size, 4, none⟩ = some (.slice x0 y0 z0) ∧ q4.cell? ⟨w.heap.size, 3, none⟩ = some (.slice t0 u0 v0) ∧ q4.cell? ⟨w.heap.size, 2, none⟩ = some (.slice k0 p0 q0) ∧ q4.cell? ⟨w.heap.size, 0, none⟩ = some (.slice h0 i0 j0) ∧ True) ∧
  canStore q4 d1.heap.size 0 11 ∧
  let x4 := setCs q4 d1.heap.size 0 [.slice g1 h1 i1, .slice none 0 0, .slice z3 b4 d4, .slice i4 j4 k4, .slice t4 u4 v4, .slice none 0 0, .slice none 0 0, .slice none 0 0, .slice none 0 0, .slice none 0 0, .slice none 0 0];
  (x4.cell? ⟨w.heap.size, 4, none⟩ = some (.slice x0 y0 z0) ∧ x4.cell? ⟨w.heap.size, 3, none⟩ = some (.slice t0 u0 v0) ∧ x4.cell? ⟨w.heap.size, 2, none⟩ = some (.slice k0 p0 q0) ∧ x4.cell? ⟨w.heap.size, 0, none⟩ = some (.slice h0 i0 j0) ∧ True) ∧
  ([.pointer (some ⟨w.heap.size, 0, none⟩), .pointer (some ⟨b0.heap.size, 0, none⟩)] : List Value) = ([.pointer (some ⟨w.heap.size, 0, none⟩), .pointer (some ⟨b0.heap.size, 0, none⟩)] : List Value) ∧ g0 d1.heap.size 0 x4) ∧ True) ∧
  (let y4 := World.alloc d0.drew (.cells #[.slice none 0 0, .slice none 0 0, .slice none 0 0, .slice none 0 0, .slice none 0 0, .slice none 0 0, .slice none 0 0, .slice none 0 0, .slice none 0 0, .slice none 0 0, .slice none 0 0] 28);
  (y4.cell? ⟨w.heap.size, 4, none⟩ = some (.slice x0 y0 z0) ∧ y4.cell? ⟨w.heap.size, 3, none⟩ = some (.slice t0 u0 v0) ∧ y4.cell? ⟨w.heap.size, 2, none⟩ = some (.slice k0 p0 q0) ∧ y4.cell? ⟨w.heap.size, 0, none⟩ = some (.slice h0 i0 j0) ∧ True) ∧
  Calls Try.prog 31 #[.slice h0 i0 j0, .slice none 0 0] y4 fun z4 b5 =>
  ∃ d5 g5 h5,
  z4 = .returned (.slice d5 g5 h5) ∧
  (b5.cell? ⟨w.heap.size, 4, none⟩ = some (.slice x0 y0 z0) ∧ b5.cell? ⟨w.heap.size, 3, none⟩ = some (.slice t0 u0 v0) ∧ b5.cell? ⟨w.heap.size, 2, none⟩ = some (.slice k0 p0 q0) ∧ b5.cell? ⟨w.heap.size, 0, none⟩ = some (.slice h0 i0 j0) ∧ True) ∧
  Calls Try.prog 31 #[.slice k0 p0 q0, .slice none 0 0] b5 fun i5 j5 =>
  ∃ k5 p5 q5,
  i5 = .returned (.slice k5 p5 q5) ∧
  (j5.cell? ⟨w.heap.size, 4, none⟩ = some (.slice x0 y0 z0) ∧ j5.cell? ⟨w.heap.size, 3, none⟩ = some (.slice t0 u0 v0) ∧ j5.cell? ⟨w.heap.size, 2, none⟩ = some (.slice k0 p0 q0) ∧ j5.cell? ⟨w.heap.size, 0, none⟩ = some (.slice h0 i0 j0) ∧ True) ∧
  Calls Try.prog 31 #[.slice t0 u0 v0, .slice none 0 0] j5 fun t5 u5 =>
  ∃ v5 x5 y5,
  t5 = .returned (.slice v5 x5 y5) ∧
  (u5.cell? ⟨w.heap.size, 4, none⟩ = some (.slice x0 y0 z0) ∧ u5.cell? ⟨w.heap.size, 3, none⟩ = some (.slice t0 u0 v0) ∧ u5.cell? ⟨w.heap.size, 2, none⟩ = some (.slice k0 p0 q0) ∧ u5.cell? ⟨w.heap.size, 0, none⟩ = some (.slice h0 i0 j0) ∧ True) ∧
  Calls Try.prog 31 #[.slice x0 y0 z0, .slice none 0 0] u5 fun z5 b6 =>
  ∃ d6 g6 h6,
  z5 = .returned (.slice d6 g6 h6) ∧
  (b6.cell? ⟨w.heap.size, 4, none⟩ = some (.slice x0 y0 z0) ∧ b6.cell? ⟨w.heap.size, 3, none⟩ = some (.slice t0 u0 v0) ∧ b6.cell? ⟨w.heap.size, 2, none⟩ = some (.slice k0 p0 q0) ∧ b6.cell? ⟨w.heap.size, 0, none⟩ = some (.slice h0 i0 j0) ∧ True) ∧
  canStore b6 d0.heap.size 0 11 ∧
  let i6 := setCs b6 d0.heap.size 0 [.slice d5 g5 h5, .slice none 0 0, .slice k5 p5 q5, .slice v5 x5 y5, .slice d6 g6 h6, .slice none 0 0, .slice none 0 0, .slice none 0 0, .slice none 0 0, .slice none 0 0, .slice none 0 0];
  (i6.cell? ⟨w.heap.size, 4, none⟩ = some (.slice x0 y0 z0) ∧ i6.cell? ⟨w.heap.size, 3, none⟩ = some (.slice t0 u0 v0) ∧ i6.cell? ⟨w.heap.size, 2, none⟩ = some (.slice k0 p0 q0) ∧ i6.cell? ⟨w.heap.size, 0, none⟩ = some (.slice h0 i0 j0) ∧ True) ∧
  ([.pointer (some ⟨w.heap.size, 0, none⟩), .pointer (some ⟨b0.heap.size, 0, none⟩)] : List Value) = ([.pointer (some ⟨w.heap.size, 0, none⟩), .pointer (some ⟨b0.heap.size, 0, none⟩)] : List Value) ∧ g0 d0.heap.size 0 i6) ∧ True) ∧
  ∀ j6 : Env, ∀ k6 p6 q6, g0 k6 p6 q6 →
  ∃ t6 u6 v6,
  q6.cell? ⟨k6, p6 + 1, none⟩ = some (.slice t6 u6 v6) ∧
  ∃ x6 y6 z6,
  q6.cell? ⟨w.heap.size, 1, none⟩ = some (.slice x6 y6 z6) ∧
  ∃ b7 d7 g7,
  ∃ h7, (Builtin.append_ #[23, 23] 23 #[.slice t6 u6 v6, .slice x6 y6 z6]).run Try.prog q6 = .ok (.slice b7 d7 g7) h7 ∧
  canStore h7 k6 (p6 + 1) 1 ∧
  let i7 := setCs h7 k6 (p6 + 1) [.slice b7 d7 g7];
  ∃ j7 k7 p7,
  i7.cell? ⟨k6, p6 + 5, none⟩ = some (.slice j7 k7 p7) ∧
  ∃ q7 t7 u7,
  i7.cell? ⟨w.heap.size, 5, none⟩ = some (.slice q7 t7 u7) ∧
  ∃ v7 x7 y7,
  ∃ z7, (Builtin.append_ #[24, 24] 24 #[.slice j7 k7 p7, .slice q7 t7 u7]).run Try.prog i7 = .ok (.slice v7 x7 y7) z7 ∧
  canStore z7 k6 (p6 + 5) 1 ∧
  let b8 := setCs z7 k6 (p6 + 5) [.slice v7 x7 y7];
  ∃ d8 g8 h8,
  b8.cell? ⟨k6, p6 + 6, none⟩ = some (.slice d8 g8 h8) ∧
  ∃ i8 j8 k8,
  b8.cell? ⟨w.heap.size, 6, none⟩ = some (.slice i8 j8 k8) ∧
  ∃ p8 q8 t8,
  ∃ u8, (Builtin.append_ #[24, 24] 24 #[.slice d8 g8 h8, .slice i8 j8 k8]).run Try.prog b8 = .ok (.slice p8 q8 t8) u8 ∧
  canStore u8 k6 (p6 + 6) 1 ∧
  let v8 := setCs u8 k6 (p6 + 6) [.slice p8 q8 t8];
  ∃ x8 y8 z8,
  v8.cell? ⟨k6, p6 + 7, none⟩ = some (.slice x8 y8 z8) ∧
  ∃ b9 d9 g9,
  v8.cell? ⟨w.heap.size, 7, none⟩ = some (.slice b9 d9 g9) ∧
  ∃ h9 i9 j9,
  ∃ k9, (Builtin.append_ #[24, 24] 24 #[.slice x8 y8 z8, .slice b9 d9 g9]).run Try.prog v8 = .ok (.slice h9 i9 j9) k9 ∧
  canStore k9 k6 (p6 + 7) 1 ∧
  let p9 := setCs k9 k6 (p6 + 7) [.slice h9 i9 j9];
  ∃ q9 t9 u9,
  p9.cell? ⟨k6, p6 + 8, none⟩ = some (.slice q9 t9 u9) ∧
  ∃ v9 x9 y9,
  p9.cell? ⟨w.heap.size, 8, none⟩ = some (.slice v9 x9 y9) ∧
  ∃ z9 bA dA,
  ∃ gA, (Builtin.append_ #[24, 24] 24 #[.slice q9 t9 u9, .slice v9 x9 y9]).run Try.prog p9 = .ok (.slice z9 bA dA) gA ∧
  canStore gA k6 (p6 + 8) 1 ∧
  let hA := setCs gA k6 (p6 + 8) [.slice z9 bA dA];
  ∃ iA : Int → World → Nat → Prop,
  (∃ n, iA 0 hA n) ∧
  ∀ jA : Env, ∀ kA pA qA, iA kA pA qA →
  ∃ tA uA vA,
  pA.cell? ⟨w.heap.size, 9, none⟩ = some (.slice tA uA vA) ∧
  sel (decide ((kA : Int) < ((uA : Int) : Int))) (
  ∃ xA yA zA,
  pA.cell? ⟨w.heap.size, 9, none⟩ = some (.slice xA yA zA) ∧
  (0 : Int) ≤ kA ∧ kA < (yA : Int) ∧
  needPtr xA fun bB dB =>
  ∃ gB,
  pA.cell? ⟨bB, dB + kA.toNat * 6, none⟩ = some (.bool gB) ∧
  ∃ hB,
  pA.cell? ⟨bB, dB + kA.toNat * 6 + 1, none⟩ = some (.string hB) ∧
  ∃ iB,
  pA.cell? ⟨bB, dB + kA.toNat * 6 + 1 + 1, none⟩ = some (.string iB) ∧
  ∃ jB kB pB,
  pA.cell? ⟨bB, dB + kA.toNat * 6 + 1 + 1 + 1, none⟩ = some (.slice jB kB pB) ∧
  ∃ qB,
  pA.cell? ⟨bB, dB + kA.toNat * 6 + 1 + 1 + 1 + 1, none⟩ = some (.int .i8 qB) ∧
  ∃ tB,
  pA.cell? ⟨bB, dB + kA.toNat * 6 + 1 + 1 + 1 + 1 + 1, none⟩ = some (.float .f64 tB) ∧
  let uB := World.alloc pA (.cells #[.bool false, .string ⟨#[]⟩, .string ⟨#[]⟩, .slice none 0 0, .int .i8 0, .float .f64 0] 88);
  canStore uB pA.heap.size 0 6 ∧
  let vB := setCs uB pA.heap.size 0 [.bool gB, .string hB, .string iB, .slice jB kB pB, .int .i8 qB, .float .f64 tB];
  ∃ xB yB zB,
  vB.cell? ⟨pA.heap.size, 3, none⟩ = some (.slice xB yB zB) ∧
  Calls Try.prog 31 #[.slice xB yB zB, .slice none 0 0] vB fun bC dC =>
  ∃ gC hC iC,
  bC = .returned (.slice gC hC iC) ∧
  canStore dC pA.heap.size 3 1 ∧
  let jC := setCs dC pA.heap.size 3 [.slice gC hC iC];
  ∃ kC pC qC,
  jC.cell? ⟨k6, p6 + 9, none⟩ = some (.slice kC pC qC) ∧
  ∃ tC,
  jC.cell? ⟨pA.heap.size, 0, none⟩ = some (.bool tC) ∧
  ∃ uC,
  jC.cell? ⟨pA.heap.size, 1, none⟩ = some (.string uC) ∧
  ∃ vC,
  jC.cell? ⟨pA.heap.size, 2, none⟩ = some (.string vC) ∧
  ∃ xC yC zC,
  jC.cell? ⟨pA.heap.size, 3, none⟩ = some (.slice xC yC zC) ∧
  ∃ bD,
  jC.cell? ⟨pA.heap.size, 4, none⟩ = some (.int .i8 bD) ∧
  ∃ dD,
  jC.cell? ⟨pA.heap.size, 5, none⟩ = some (.float .f64 dD) ∧
  let gD := World.alloc jC (.cells #[.bool tC, .string uC, .string vC, .slice xC yC zC, .int .i8 bD, .float .f64 dD] 88);
  ∃ hD iD jD,
  ∃ kD, (Builtin.append_ #[25, 25] 25 #[.slice kC pC qC, .slice (some ⟨jC.heap.size, 0, none⟩) 1 1]).run Try.prog gD = .ok (.slice hD iD jD) kD ∧
  canStore kD k6 (p6 + 9) 1 ∧
  let pD := setCs kD k6 (p6 + 9) [.slice hD iD jD];
  let qD : Int := IntKind.i64.wrap (kA + 1);
  ([.pointer (some ⟨w.heap.size, 0, none⟩), .pointer (some ⟨b0.heap.size, 0, none⟩), .pointer (some ⟨k6, p6, none⟩)] : List Value) = ([.pointer (some ⟨w.heap.size, 0, none⟩), .pointer (some ⟨b0.heap.size, 0, none⟩), .pointer (some ⟨k6, p6, none⟩)] : List Value) ∧ ∃ m, m < qA ∧ iA qD pD m) (
  ∃ tD uD vD,
  pA.cell? ⟨k6, p6 + 10, none⟩ = some (.slice tD uD vD) ∧
  ∃ xD yD zD,
  pA.cell? ⟨w.heap.size, 10, none⟩ = some (.slice xD yD zD) ∧
  ∃ bE dE gE,
  ∃ hE, (Builtin.append_ #[26, 26] 26 #[.slice tD uD vD, .slice xD yD zD]).run Try.prog pA = .ok (.slice bE dE gE) hE ∧
  canStore hE k6 (p6 + 10) 1 ∧
  let iE := setCs hE k6 (p6 + 10) [.slice bE dE gE];
  ∃ jE kE pE,
  iE.cell? ⟨k6, p6, none⟩ = some (.slice jE kE pE) ∧
  ∃ qE tE uE,
  iE.cell? ⟨k6, p6 + 1, none⟩ = some (.slice qE tE uE) ∧
  ∃ vE xE yE,
  iE.cell? ⟨k6, p6 + 1 + 1, none⟩ = some (.slice vE xE yE) ∧
  ∃ zE bF dF,
  iE.cell? ⟨k6, p6 + 1 + 1 + 1, none⟩ = some (.slice zE bF dF) ∧
  ∃ gF hF iF,
  iE.cell? ⟨k6, p6 + 1 + 1 + 1 + 1, none⟩ = some (.slice gF hF iF) ∧
  ∃ jF kF pF,
  iE.cell? ⟨k6, p6 + 1 + 1 + 1 + 1 + 1, none⟩ = some (.slice jF kF pF) ∧
  ∃ qF tF uF,
  iE.cell? ⟨k6, p6 + 1 + 1 + 1 + 1 + 1 + 1, none⟩ = some (.slice qF tF uF) ∧
  ∃ vF xF yF,
  iE.cell? ⟨k6, p6 + 1 + 1 + 1 + 1 + 1 + 1 + 1, none⟩ = some (.slice vF xF yF) ∧
  ∃ zF bG dG,
  iE.cell? ⟨k6, p6 + 1 + 1 + 1 + 1 + 1 + 1 + 1 + 1, none⟩ = some (.slice zF bG dG) ∧
  ∃ gG hG iG,
  iE.cell? ⟨k6, p6 + 1 + 1 + 1 + 1 + 1 + 1 + 1 + 1 + 1, none⟩ = some (.slice gG hG iG) ∧
  ∃ jG kG pG,
  iE.cell? ⟨k6, p6 + 1 + 1 + 1 + 1 + 1 + 1 + 1 + 1 + 1 + 1, none⟩ = some (.slice jG kG pG) ∧
  canStore iE b0.heap.size 0 11 ∧
  let qG := setCs iE b0.heap.size 0 [.slice jE kE pE, .slice qE tE uE, .slice vE xE yE, .slice zE bF dF, .slice gF hF iF, .slice jF kF pF, .slice qF tF uF, .slice vF xF yF, .slice zF bG dG, .slice gG hG iG, .slice jG kG pG];
  ∃ tG uG vG,
  qG.cell? ⟨b0.heap.size, 0, none⟩ = some (.slice tG uG vG) ∧
  ∃ xG yG zG,
  qG.cell? ⟨b0.heap.size, 1, none⟩ = some (.slice xG yG zG) ∧
  ∃ bH dH gH,
  qG.cell? ⟨b0.heap.size, 2, none⟩ = some (.slice bH dH gH) ∧
  ∃ hH iH jH,
  qG.cell? ⟨b0.heap.size, 3, none⟩ = some (.slice hH iH jH) ∧
  ∃ kH pH qH,
  qG.cell? ⟨b0.heap.size, 4, none⟩ = some (.slice kH pH qH) ∧
  ∃ tH uH vH,
  qG.cell? ⟨b0.heap.size, 5, none⟩ = some (.slice tH uH vH) ∧
  ∃ xH yH zH,
  qG.cell? ⟨b0.heap.size, 6, none⟩ = some (.slice xH yH zH) ∧
  ∃ bI dI gI,
  qG.cell? ⟨b0.heap.size, 7, none⟩ = some (.slice bI dI gI) ∧
  ∃ hI iI jI,
  qG.cell? ⟨b0.heap.size, 8, none⟩ = some (.slice hI iI jI) ∧
  ∃ kI pI qI,
  qG.cell? ⟨b0.heap.size, 9, none⟩ = some (.slice kI pI qI) ∧
  ∃ tI uI vI,
  qG.cell? ⟨b0.heap.size, 10, none⟩ = some (.slice tI uI vI) ∧
  R (.agg #[.slice tG uG vG, .slice xG yG zG, .slice bH dH gH, .slice hH iH jH, .slice kH pH qH, .slice tH uH vH, .slice xH yH zH, .slice bI dI gI, .slice hI iI jI, .slice kI pI qI, .slice tI uI vI]) qG)
theorem f10.eq (Aa0_0 : Option Addr) (na0_0 ca0_0 : Nat) (Aa0_1 : Option Addr) (na0_1 ca0_1 : Nat) (Aa0_2 : Option Addr) (na0_2 ca0_2 : Nat) (Aa0_3 : Option Addr) (na0_3 ca0_3 : Nat) (Aa0_4 : Option Addr) (na0_4 ca0_4 : Nat) (Aa0_5 : Option Addr) (na0_5 ca0_5 : Nat) (Aa0_6 : Option Addr) (na0_6 ca0_6 : Nat) (Aa0_7 : Option Addr) (na0_7 ca0_7 : Nat) (Aa0_8 : Option Addr) (na0_8 ca0_8 : Nat) (Aa0_9 : Option Addr) (na0_9 ca0_9 : Nat) (Aa0_10 : Option Addr) (na0_10 ca0_10 : Nat) (w : World) (R : Value → World → Prop) : f10.VC Aa0_0 na0_0 ca0_0 Aa0_1 na0_1 ca0_1 Aa0_2 na0_2 ca0_2 Aa0_3 na0_3 ca0_3 Aa0_4 na0_4 ca0_4 Aa0_5 na0_5 ca0_5 Aa0_6 na0_6 ca0_6 Aa0_7 na0_7 ca0_7 Aa0_8 na0_8 ca0_8 Aa0_9 na0_9 ca0_9 Aa0_10 na0_10 ca0_10 w R = funV Try.prog Try.f10 f10.AL f10.AC #[.agg #[.slice Aa0_0 na0_0 ca0_0, .slice Aa0_1 na0_1 ca0_1, .slice Aa0_2 na0_2 ca0_2, .slice Aa0_3 na0_3 ca0_3, .slice Aa0_4 na0_4 ca0_4, .slice Aa0_5 na0_5 ca0_5, .slice Aa0_6 na0_6 ca0_6, .slice Aa0_7 na0_7 ca0_7, .slice Aa0_8 na0_8 ca0_8, .slice Aa0_9 na0_9 ca0_9, .slice Aa0_10 na0_10 ca0_10]] w R := by kernel_rfl
theorem f10.calls {Aa0_0 : Option Addr} {na0_0 ca0_0 : Nat} {Aa0_1 : Option Addr} {na0_1 ca0_1 : Nat} {Aa0_2 : Option Addr} {na0_2 ca0_2 : Nat} {Aa0_3 : Option Addr} {na0_3 ca0_3 : Nat} {Aa0_4 : Option Addr} {na0_4 ca0_4 : Nat} {Aa0_5 : Option Addr} {na0_5 ca0_5 : Nat} {Aa0_6 : Option Addr} {na0_6 ca0_6 : Nat} {Aa0_7 : Option Addr} {na0_7 ca0_7 : Nat} {Aa0_8 : Option Addr} {na0_8 ca0_8 : Nat} {Aa0_9 : Option Addr} {na0_9 ca0_9 : Nat} {Aa0_10 : Option Addr} {na0_10 ca0_10 : Nat} {w : World} {R : Value → World → Prop} (h : f10.VC Aa0_0 na0_0 ca0_0 Aa0_1 na0_1 ca0_1 Aa0_2 na0_2 ca0_2 Aa0_3 na0_3 ca0_3 Aa0_4 na0_4 ca0_4 Aa0_5 na0_5 ca0_5 Aa0_6 na0_6 ca0_6 Aa0_7 na0_7 ca0_7 Aa0_8 na0_8 ca0_8 Aa0_9 na0_9 ca0_9 Aa0_10 na0_10 ca0_10 w R) : Calls Try.prog 10 #[.agg #[.slice Aa0_0 na0_0 ca0_0, .slice Aa0_1 na0_1 ca0_1, .slice Aa0_2 na0_2 ca0_2, .slice Aa0_3 na0_3 ca0_3, .slice Aa0_4 na0_4 ca0_4, .slice Aa0_5 na0_5 ca0_5, .slice Aa0_6 na0_6 ca0_6, .slice Aa0_7 na0_7 ca0_7, .slice Aa0_8 na0_8 ca0_8, .slice Aa0_9 na0_9 ca0_9, .slice Aa0_10 na0_10 ca0_10]] w fun e w' => ∃ v, e = .returned v ∧ R v w' :=
  funV_sound (fn := Try.f10) (AL := f10.AL) (AC := f10.AC) W3.mixed (by kernel_rfl) (by rw [← f10.eq Aa0_0 na0_0 ca0_0 Aa0_1 na0_1 ca0_1 Aa0_2 na0_2 ca0_2 Aa0_3 na0_3 ca0_3 Aa0_4 na0_4 ca0_4 Aa0_5 na0_5 ca0_5 Aa0_6 na0_6 ca0_6 Aa0_7 na0_7 ca0_7 Aa0_8 na0_8 ca0_8 Aa0_9 na0_9 ca0_9 Aa0_10 na0_10 ca0_10]; exact h)

/-- gatehouse/gatehouselaw27.twin -/
def f9.AL : Nat → Option Ann := fun r => match r with | 3 => some ⟨[(3, .slice), (4, .int .i64)], [0]⟩ | _ => none
def f9.AC : Nat → Option Ann := fun _ => none
def f9.VC (Aa0 : Option Addr) (na0 ca0 : Nat) (w : World) (R : Value → World → Prop) : Prop :=
  ∃ b0 : Option Addr → Nat → Nat → Int → World → Nat → Prop,
  (∃ n, b0 none 0 0 0 w n) ∧
  ∀ d0 : Env, ∀ g0 h0 i0 j0 k0 p0, b0 g0 h0 i0 j0 k0 p0 →
  sel (decide ((j0 : Int) < ((na0 : Int) : Int))) (
  (0 : Int) ≤ j0 ∧ j0 < (na0 : Int) ∧
  needPtr Aa0 fun q0 t0 =>
  ∃ u0,
  k0.cell? ⟨q0, t0 + j0.toNat * 19, none⟩ = some (.int .i64 u0) ∧
  ∃ v0,
  k0.cell? ⟨q0, t0 + j0.toNat * 19 + 1, none⟩ = some (.int .i64 v0) ∧
  ∃ x0,
  k0.cell? ⟨q0, t0 + j0.toNat * 19 + 1 + 1, none⟩ = some (.bool x0) ∧
  ∃ y0,
  k0.cell? ⟨q0, t0 + j0.toNat * 19 + 1 + 1 + 1, none⟩ = some (.bool y0) ∧
  ∃ z0,
  k0.cell? ⟨q0, t0 + j0.toNat * 19 + 1 + 1 + 1 + 1, none⟩ = some (.bool z0) ∧
  ∃ b1 d1 g1,
  k0.cell? ⟨q0, t0 + j0.toNat * 19 + 1 + 1 + 1 + 1 + 1, none⟩ = some (.slice b1 d1 g1) ∧
  ∃ h1 i1 j1,
  k0.cell? ⟨q0, t0 + j0.toNat * 19 + 1 + 1 + 1 + 1 + 1 + 1, none⟩ = some (.slice h1 i1 j1) ∧
  ∃ k1 p1 q1,
  k0.cell? ⟨q0, t0 + j0.toNat * 19 + 1 + 1 + 1 + 1 + 1 + 1 + 1, none⟩ = some (.slice k1 p1 q1) ∧
  ∃ t1 u1 v1,
  k0.cell? ⟨q0, t0 + j0.toNat * 19 + 1 + 1 + 1 + 1 + 1 + 1 + 1 + 1, none⟩ = some (.slice t1 u1 v1) ∧
  ∃ x1 y1 z1,
  k0.cell? ⟨q0, t0 + j0.toNat * 19 + 1 + 1 + 1 + 1 + 1 + 1 + 1 + 1 + 1, none⟩ = some (.slice x1 y1 z1) ∧
  ∃ b2 d2 g2,
  k0.cell? ⟨q0, t0 + j0.toNat * 19 + 1 + 1 + 1 + 1 + 1 + 1 + 1 + 1 + 1 + 1, none⟩ = some (.slice b2 d2 g2) ∧
  ∃ h2 i2 j2,
  k0.cell? ⟨q0, t0 + j0.toNat * 19 + 1 + 1 + 1 + 1 + 1 + 1 + 1 + 1 + 1 + 1 + 1, none⟩ = some (.slice h2 i2 j2) ∧
  ∃ k2 p2 q2,
  k0.cell? ⟨q0, t0 + j0.toNat * 19 + 1 + 1 + 1 + 1 + 1 + 1 + 1 + 1 + 1 + 1 + 1 + 1, none⟩ = some (.slice k2 p2 q2) ∧
  ∃ t2 u2 v2,
  k0.cell? ⟨q0, t0 + j0.toNat * 19 + 1 + 1 + 1 + 1 + 1 + 1 + 1 + 1 + 1 + 1 + 1 + 1 + 1, none⟩ = some (.slice t2 u2 v2) ∧
  ∃ x2 y2 z2,
  k0.cell? ⟨q0, t0 + j0.toNat * 19 + 1 + 1 + 1 + 1 + 1 + 1 + 1 + 1 + 1 + 1 + 1 + 1 + 1 + 1, none⟩ = some (.slice x2 y2 z2) ∧
  ∃ b3 d3 g3,
  k0.cell? ⟨q0, t0 + j0.toNat * 19 + 1 + 1 + 1 + 1 + 1 + 1 + 1 + 1 + 1 + 1 + 1 + 1 + 1 + 1 + 1, none⟩ = some (.slice b3 d3 g3) ∧
  ∃ h3,
  k0.cell? ⟨q0, t0 + j0.toNat * 19 + 1 + 1 + 1 + 1 + 1 + 1 + 1 + 1 + 1 + 1 + 1 + 1 + 1 + 1 + 1 + 1, none⟩ = some (.string h3) ∧
  ∃ i3,
  k0.cell? ⟨q0, t0 + j0.toNat * 19 + 1 + 1 + 1 + 1 + 1 + 1 + 1 + 1 + 1 + 1 + 1 + 1 + 1 + 1 + 1 + 1 + 1, none⟩ = some (.string i3) ∧
  ∃ j3,
  k0.cell? ⟨q0, t0 + j0.toNat * 19 + 1 + 1 + 1 + 1 + 1 + 1 + 1 + 1 + 1 + 1 + 1 + 1 + 1 + 1 + 1 + 1 + 1 + 1, none⟩ = some (.string j3) ∧
  let k3 := World.alloc k0 (.cells #[.int .i64 0, .int .i64 0, .bool false, .bool false, .bool false, .slice none 0 0, .slice none 0 0, .slice none 0 0, .slice none 0 0, .slice none 0 0, .slice none 0 0, .slice none 0 0, .slice none 0 0, .slice none 0 0, .slice none 0 0, .slice none 0 0, .string ⟨#[]⟩, .string ⟨#[]⟩, .string ⟨#[]⟩] 39);
  canStore k3 k0.heap.size 0 19 ∧
  let p3 := setCs k3 k0.heap.size 0 [.int .i64 u0, .int .i64 v0, .bool x0, .bool y0, .bool z0, .slice b1 d1 g1, .slice h1 i1 j1, .slice k1 p1 q1, .slice t1 u1 v1, .slice x1 y1 z1, .slice b2 d2 g2, .slice h2 i2 j2, .slice k2 p2 q2, .slice t2 u2 v2, .slice x2 y2 z2, .slice b3 d3 g3, .string h3, .string i3, .string j3];
  ∃ q3 t3 u3,
  p3.cell? ⟨k0.heap.size, 5, none⟩ = some (.slice q3 t3 u3) ∧
  ∃ v3 x3 y3,
  p3.cell? ⟨k0.heap.size, 6, none⟩ = some (.slice v3 x3 y3) ∧
  ∃ z3 b4 d4,
  p3.cell? ⟨k0.heap.size, 7, none⟩ = some (.slice z3 b4 d4) ∧
  ∃ g4 h4 i4,
  p3.cell? ⟨k0.heap.size, 8, none⟩ = some (.slice g4 h4 i4) ∧
  ∃ j4 k4 p4,
  p3.cell? ⟨k0.heap.size, 9, none⟩ = some (.slice j4 k4 p4) ∧
  ∃ q4 t4 u4,
  p3.cell? ⟨k0.heap.size, 10, none⟩ = some (.slice q4 t4 u4) ∧
  ∃ v4 x4 y4,
  p3.cell? ⟨k0.heap.size, 11, none⟩ = some (.slice v4 x4 y4) ∧
  ∃ z4 b5 d5,
  p3.cell? ⟨k0.heap.size, 12, none⟩ = some (.slice z4 b5 d5) ∧
  ∃ g5 h5 i5,
  p3.cell? ⟨k0.heap.size, 13, none⟩ = some (.slice g5 h5 i5) ∧
  ∃ j5 k5 p5,
  p3.cell? ⟨k0.heap.size, 14, none⟩ = some (.slice j5 k5 p5) ∧
  ∃ q5 t5 u5,
  p3.cell? ⟨k0.heap.size, 15, none⟩ = some (.slice q5 t5 u5) ∧
  Calls Try.prog 10 #[.agg #[.slice q3 t3 u3, .slice v3 x3 y3, .slice z3 b4 d4, .slice g4 h4 i4, .slice j4 k4 p4, .slice q4 t4 u4, .slice v4 x4 y4, .slice z4 b5 d5, .slice g5 h5 i5, .slice j5 k5 p5, .slice q5 t5 u5]] p3 fun v5 x5 =>
  ∃ y5 z5 b6 d6 g6 h6 i6 j6 k6 p6 q6 t6 u6 v6 x6 y6 z6 b7 d7 g7 h7 i7 j7 k7 p7 q7 t7 u7 v7 x7 y7 z7 b8,
  v5 = .returned (.agg #[.slice y5 z5 b6, .slice d6 g6 h6, .slice i6 j6 k6, .slice p6 q6 t6, .slice u6 v6 x6, .slice y6 z6 b7, .slice d7 g7 h7, .slice i7 j7 k7, .slice p7 q7 t7, .slice u7 v7 x7, .slice y7 z7 b8]) ∧
  canStore x5 k0.heap.size 5 11 ∧
  let d8 := setCs x5 k0.heap.size 5 [.slice y5 z5 b6, .slice d6 g6 h6, .slice i6 j6 k6, .slice p6 q6 t6, .slice u6 v6 x6, .slice y6 z6 b7, .slice d7 g7 h7, .slice i7 j7 k7, .slice p7 q7 t7, .slice u7 v7 x7, .slice y7 z7 b8];
  ∃ g8,
  d8.cell? ⟨k0.heap.size, 0, none⟩ = some (.int .i64 g8) ∧
  ∃ h8,
  d8.cell? ⟨k0.heap.size, 1, none⟩ = some (.int .i64 h8) ∧
  ∃ i8,
  d8.cell? ⟨k0.heap.size, 2, none⟩ = some (.bool i8) ∧
  ∃ j8,
  d8.cell? ⟨k0.heap.size, 3, none⟩ = some (.bool j8) ∧
  ∃ k8,
  d8.cell? ⟨k0.heap.size, 4, none⟩ = some (.bool k8) ∧
  ∃ p8 q8 t8,
  d8.cell? ⟨k0.heap.size, 5, none⟩ = some (.slice p8 q8 t8) ∧
  ∃ u8 v8 x8,
  d8.cell? ⟨k0.heap.size, 6, none⟩ = some (.slice u8 v8 x8) ∧
  ∃ y8 z8 b9,
  d8.cell? ⟨k0.heap.size, 7, none⟩ = some (.slice y8 z8 b9) ∧
  ∃ d9 g9 h9,
  d8.cell? ⟨k0.heap.size, 8, none⟩ = some (.slice d9 g9 h9) ∧
  ∃ i9 j9 k9,
  d8.cell? ⟨k0.heap.size, 9, none⟩ = some (.slice i9 j9 k9) ∧
  ∃ p9 q9 t9,
  d8.cell? ⟨k0.heap.size, 10, none⟩ = some (.slice p9 q9 t9) ∧
  ∃ u9 v9 x9,
  d8.cell? ⟨k0.heap.size, 11, none⟩ = some (.slice u9 v9 x9) ∧
  ∃ y9 z9 bA,
  d8.cell? ⟨k0.heap.size, 12, none⟩ = some (.slice y9 z9 bA) ∧
  ∃ dA gA hA,
  d8.cell? ⟨k0.heap.size, 13, none⟩ = some (.slice dA gA hA) ∧
  ∃ iA jA kA,
  d8.cell? ⟨k0.heap.size, 14, none⟩ = some (.slice iA jA kA) ∧
  ∃ pA qA tA,
  d8.cell? ⟨k0.heap.size, 15, none⟩ = some (.slice pA qA tA) ∧
  ∃ uA,
  d8.cell? ⟨k0.heap.size, 16, none⟩ = some (.string uA) ∧
  ∃ vA,
  d8.cell? ⟨k0.heap.size, 17, none⟩ = some (.string vA) ∧
  ∃ xA,
  d8.cell? ⟨k0.heap.size, 18, none⟩ = some (.string xA) ∧
  let yA := World.alloc d8 (.cells #[.int .i64 g8, .int .i64 h8, .bool i8, .bool j8, .bool k8, .slice p8 q8 t8, .slice u8 v8 x8, .slice y8 z8 b9, .slice d9 g9 h9, .slice i9 j9 k9, .slice p9 q9 t9, .slice u9 v9 x9, .slice y9 z9 bA, .slice dA gA hA, .slice iA jA kA, .slice pA qA tA, .string uA, .string vA, .string xA] 39);
  ∃ zA bB dB,
  ∃ gB, (Builtin.append_ #[29, 29] 29 #[.slice g0 h0 i0, .slice (some ⟨d8.heap.size, 0, none⟩) 1 1]).run Try.prog yA = .ok (.slice zA bB dB) gB ∧
  let hB : Int := IntKind.i64.wrap (j0 + 1);
  ([.slice Aa0 na0 ca0] : List Value) = ([.slice Aa0 na0 ca0] : List Value) ∧ ∃ m, m < p0 ∧ b0 zA bB dB hB gB m) (
  R (.slice g0 h0 i0) k0)
theorem f9.eq (Aa0 : Option Addr) (na0 ca0 : Nat) (w : World) (R : Value → World → Prop) : f9.VC Aa0 na0 ca0 w R = funV Try.prog Try.f9 f9.AL f9.AC #[.slice Aa0 na0 ca0] w R := by kernel_rfl
theorem f9.calls {Aa0 : Option Addr} {na0 ca0 : Nat} {w : World} {R : Value → World → Prop} (h : f9.VC Aa0 na0 ca0 w R) : Calls Try.prog 9 #[.slice Aa0 na0 ca0] w fun e w' => ∃ v, e = .returned v ∧ R v w' :=
  funV_sound (fn := Try.f9) (AL := f9.AL) (AC := f9.AC) W3.mixed (by kernel_rfl) (by rw [← f9.eq Aa0 na0 ca0]; exact h)

end Go.Proofs.Ytddbebhklmaeoaa
