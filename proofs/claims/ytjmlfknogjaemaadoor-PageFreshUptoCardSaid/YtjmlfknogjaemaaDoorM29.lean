/- The plain statements of some functions, printed by vcgen.py. -/
import Derived.Test.YtjmlfknogjaemaaDoorM5
import Derived.Test.YtjmlfknogjaemaaDoorProg
import Derived.KernelRfl
set_option maxRecDepth 100000
set_option maxHeartbeats 4000000
set_option linter.unusedVariables false
namespace Go.Proofs.YtjmlfknogjaemaaDoor
open Go Go.Proofs.YtjmlfknogjaemaaDoor.Vc
theorem W22.mixed : Tryd.prog.follows .mixedOrders = true := by kernel_rfl
/-- gatehouse/gatehouselaw12.twin -/
def f13.AL : Nat → Option Ann := fun r => match r with | 3 => some ⟨[(4, .int .i64)], [1, 2, 3]⟩ | _ => none
def f13.AC : Nat → Option Ann := fun r => match r with | 2 => some ⟨[(3, .blk)], [1, 2]⟩ | 1000001 => some ⟨[], []⟩ | _ => none
def f13.VC (Aa0_0 : Option Addr) (na0_0 ca0_0 : Nat) (Aa0_1 : Option Addr) (na0_1 ca0_1 : Nat) (Aa0_2 : Option Addr) (na0_2 ca0_2 : Nat) (Aa0_3 : Option Addr) (na0_3 ca0_3 : Nat) (Aa0_4 : Option Addr) (na0_4 ca0_4 : Nat) (Aa0_5 : Option Addr) (na0_5 ca0_5 : Nat) (w : World) (R : Value → World → Prop) : Prop :=
  let b0 := World.alloc w (.cells #[.slice Aa0_0 na0_0 ca0_0, .slice Aa0_1 na0_1 ca0_1, .slice Aa0_2 na0_2 ca0_2, .slice Aa0_3 na0_3 ca0_3, .slice Aa0_4 na0_4 ca0_4, .slice Aa0_5 na0_5 ca0_5] 32);
  let d0 := World.alloc b0 (.cells #[.slice none 0 0, .slice none 0 0, .slice none 0 0, .slice none 0 0, .slice none 0 0, .slice none 0 0] 32);
  ∃ g0 : Nat → Nat → World → Prop,
  (∃ h0 i0 j0,
  d0.cell? ⟨w.heap.size, 0, none⟩ = some (.slice h0 i0 j0) ∧
  ∃ k0 p0 q0,
  d0.cell? ⟨w.heap.size, 1, none⟩ = some (.slice k0 p0 q0) ∧
  ∃ t0 u0 v0,
  d0.cell? ⟨w.heap.size, 2, none⟩ = some (.slice t0 u0 v0) ∧
  ∃ x0 y0 z0,
  d0.cell? ⟨w.heap.size, 3, none⟩ = some (.slice x0 y0 z0) ∧
  ∃ b1 d1 g1,
  d0.cell? ⟨w.heap.size, 4, none⟩ = some (.slice b1 d1 g1) ∧
  (Calls Tryd.prog 37 #[.slice h0 i0 j0] d0.drew fun h1 i1 =>
  ∃ j1 k1 p1,
  h1 = .returned (.slice j1 k1 p1) ∧
  (i1.cell? ⟨w.heap.size, 4, none⟩ = some (.slice b1 d1 g1) ∧ i1.cell? ⟨w.heap.size, 3, none⟩ = some (.slice x0 y0 z0) ∧ i1.cell? ⟨w.heap.size, 2, none⟩ = some (.slice t0 u0 v0) ∧ i1.cell? ⟨w.heap.size, 1, none⟩ = some (.slice k0 p0 q0) ∧ i1.cell? ⟨w.heap.size, 0, none⟩ = some (.slice h0 i0 j0) ∧ True) ∧
  (Calls Tryd.prog 37 #[.slice k0 p0 q0] i1 fun q1 t1 =>
  ∃ u1 v1 x1,
  q1 = .returned (.slice u1 v1 x1) ∧
  (t1.cell? ⟨w.heap.size, 4, none⟩ = some (.slice b1 d1 g1) ∧ t1.cell? ⟨w.heap.size, 3, none⟩ = some (.slice x0 y0 z0) ∧ t1.cell? ⟨w.heap.size, 2, none⟩ = some (.slice t0 u0 v0) ∧ t1.cell? ⟨w.heap.size, 1, none⟩ = some (.slice k0 p0 q0) ∧ t1.cell? ⟨w.heap.size, 0, none⟩ = some (.slice h0 i0 j0) ∧ True) ∧
  (Calls Tryd.prog 37 #[.slice t0 u0 v0] t1 fun y1 z1 =>
  ∃ b2 d2 g2,
  y1 = .returned (.slice b2 d2 g2) ∧
  (z1.cell? ⟨w.heap.size, 4, none⟩ = some (.slice b1 d1 g1) ∧ z1.cell? ⟨w.heap.size, 3, none⟩ = some (.slice x0 y0 z0) ∧ z1.cell? ⟨w.heap.size, 2, none⟩ = some (.slice t0 u0 v0) ∧ z1.cell? ⟨w.heap.size, 1, none⟩ = some (.slice k0 p0 q0) ∧ z1.cell? ⟨w.heap.size, 0, none⟩ = some (.slice h0 i0 j0) ∧ True) ∧
  (Calls Tryd.prog 14 #[.slice x0 y0 z0, .int .i64 0] z1 fun h2 i2 =>
  ∃ j2 k2 p2,
  h2 = .returned (.slice j2 k2 p2) ∧
  (i2.cell? ⟨w.heap.size, 4, none⟩ = some (.slice b1 d1 g1) ∧ i2.cell? ⟨w.heap.size, 3, none⟩ = some (.slice x0 y0 z0) ∧ i2.cell? ⟨w.heap.size, 2, none⟩ = some (.slice t0 u0 v0) ∧ i2.cell? ⟨w.heap.size, 1, none⟩ = some (.slice k0 p0 q0) ∧ i2.cell? ⟨w.heap.size, 0, none⟩ = some (.slice h0 i0 j0) ∧ True) ∧
  (Calls Tryd.prog 14 #[.slice b1 d1 g1, .int .i64 0] i2 fun q2 t2 =>
  ∃ u2 v2 x2,
  q2 = .returned (.slice u2 v2 x2) ∧
  (t2.cell? ⟨w.heap.size, 4, none⟩ = some (.slice b1 d1 g1) ∧ t2.cell? ⟨w.heap.size, 3, none⟩ = some (.slice x0 y0 z0) ∧ t2.cell? ⟨w.heap.size, 2, none⟩ = some (.slice t0 u0 v0) ∧ t2.cell? ⟨w.heap.size, 1, none⟩ = some (.slice k0 p0 q0) ∧ t2.cell? ⟨w.heap.size, 0, none⟩ = some (.slice h0 i0 j0) ∧ True) ∧
  let y2 := World.alloc t2 (.cells #[.slice none 0 0, .slice none 0 0, .slice none 0 0, .slice none 0 0, .slice none 0 0, .slice none 0 0] 32);
  (y2.cell? ⟨w.heap.size, 4, none⟩ = some (.slice b1 d1 g1) ∧ y2.cell? ⟨w.heap.size, 3, none⟩ = some (.slice x0 y0 z0) ∧ y2.cell? ⟨w.heap.size, 2, none⟩ = some (.slice t0 u0 v0) ∧ y2.cell? ⟨w.heap.size, 1, none⟩ = some (.slice k0 p0 q0) ∧ y2.cell? ⟨w.heap.size, 0, none⟩ = some (.slice h0 i0 j0) ∧ True) ∧
  canStore y2 t2.heap.size 0 6 ∧
  let z2 := setCs y2 t2.heap.size 0 [.slice j1 k1 p1, .slice u1 v1 x1, .slice b2 d2 g2, .slice j2 k2 p2, .slice u2 v2 x2, .slice none 0 0];
  (z2.cell? ⟨w.heap.size, 4, none⟩ = some (.slice b1 d1 g1) ∧ z2.cell? ⟨w.heap.size, 3, none⟩ = some (.slice x0 y0 z0) ∧ z2.cell? ⟨w.heap.size, 2, none⟩ = some (.slice t0 u0 v0) ∧ z2.cell? ⟨w.heap.size, 1, none⟩ = some (.slice k0 p0 q0) ∧ z2.cell? ⟨w.heap.size, 0, none⟩ = some (.slice h0 i0 j0) ∧ True) ∧
  ([.pointer (some ⟨w.heap.size, 0, none⟩), .pointer (some ⟨b0.heap.size, 0, none⟩)] : List Value) = ([.pointer (some ⟨w.heap.size, 0, none⟩), .pointer (some ⟨b0.heap.size, 0, none⟩)] : List Value) ∧ g0 t2.heap.size 0 z2) ∧
  (let b3 := World.alloc i2 (.cells #[.slice none 0 0, .slice none 0 0, .slice none 0 0, .slice none 0 0, .slice none 0 0, .slice none 0 0] 32);
  (b3.cell? ⟨w.heap.size, 4, none⟩ = some (.slice b1 d1 g1) ∧ b3.cell? ⟨w.heap.size, 3, none⟩ = some (.slice x0 y0 z0) ∧ b3.cell? ⟨w.heap.size, 2, none⟩ = some (.slice t0 u0 v0) ∧ b3.cell? ⟨w.heap.size, 1, none⟩ = some (.slice k0 p0 q0) ∧ b3.cell? ⟨w.heap.size, 0, none⟩ = some (.slice h0 i0 j0) ∧ True) ∧
  Calls Tryd.prog 14 #[.slice b1 d1 g1, .int .i64 0] b3 fun d3 g3 =>
  ∃ h3 i3 j3,
  d3 = .returned (.slice h3 i3 j3) ∧
  (g3.cell? ⟨w.heap.size, 4, none⟩ = some (.slice b1 d1 g1) ∧ g3.cell? ⟨w.heap.size, 3, none⟩ = some (.slice x0 y0 z0) ∧ g3.cell? ⟨w.heap.size, 2, none⟩ = some (.slice t0 u0 v0) ∧ g3.cell? ⟨w.heap.size, 1, none⟩ = some (.slice k0 p0 q0) ∧ g3.cell? ⟨w.heap.size, 0, none⟩ = some (.slice h0 i0 j0) ∧ True) ∧
  canStore g3 i2.heap.size 0 6 ∧
  let k3 := setCs g3 i2.heap.size 0 [.slice j1 k1 p1, .slice u1 v1 x1, .slice b2 d2 g2, .slice j2 k2 p2, .slice h3 i3 j3, .slice none 0 0];
  (k3.cell? ⟨w.heap.size, 4, none⟩ = some (.slice b1 d1 g1) ∧ k3.cell? ⟨w.heap.size, 3, none⟩ = some (.slice x0 y0 z0) ∧ k3.cell? ⟨w.heap.size, 2, none⟩ = some (.slice t0 u0 v0) ∧ k3.cell? ⟨w.heap.size, 1, none⟩ = some (.slice k0 p0 q0) ∧ k3.cell? ⟨w.heap.size, 0, none⟩ = some (.slice h0 i0 j0) ∧ True) ∧
  ([.pointer (some ⟨w.heap.size, 0, none⟩), .pointer (some ⟨b0.heap.size, 0, none⟩)] : List Value) = ([.pointer (some ⟨w.heap.size, 0, none⟩), .pointer (some ⟨b0.heap.size, 0, none⟩)] : List Value) ∧ g0 i2.heap.size 0 k3) ∧ True) ∧
  (let p3 := World.alloc z1 (.cells #[.slice none 0 0, .slice none 0 0, .slice none 0 0, .slice none 0 0, .slice none 0 0, .slice none 0 0] 32);
  (p3.cell? ⟨w.heap.size, 4, none⟩ = some (.slice b1 d1 g1) ∧ p3.cell? ⟨w.heap.size, 3, none⟩ = some (.slice x0 y0 z0) ∧ p3.cell? ⟨w.heap.size, 2, none⟩ = some (.slice t0 u0 v0) ∧ p3.cell? ⟨w.heap.size, 1, none⟩ = some (.slice k0 p0 q0) ∧ p3.cell? ⟨w.heap.size, 0, none⟩ = some (.slice h0 i0 j0) ∧ True) ∧
  Calls Tryd.prog 14 #[.slice x0 y0 z0, .int .i64 0] p3 fun q3 t3 =>
  ∃ u3 v3 x3,
  q3 = .returned (.slice u3 v3 x3) ∧
  (t3.cell? ⟨w.heap.size, 4, none⟩ = some (.slice b1 d1 g1) ∧ t3.cell? ⟨w.heap.size, 3, none⟩ = some (.slice x0 y0 z0) ∧ t3.cell? ⟨w.heap.size, 2, none⟩ = some (.slice t0 u0 v0) ∧ t3.cell? ⟨w.heap.size, 1, none⟩ = some (.slice k0 p0 q0) ∧ t3.cell? ⟨w.heap.size, 0, none⟩ = some (.slice h0 i0 j0) ∧ True) ∧
  Calls Tryd.prog 14 #[.slice b1 d1 g1, .int .i64 0] t3 fun y3 z3 =>
  ∃ b4 d4 g4,
  y3 = .returned (.slice b4 d4 g4) ∧
  (z3.cell? ⟨w.heap.size, 4, none⟩ = some (.slice b1 d1 g1) ∧ z3.cell? ⟨w.heap.size, 3, none⟩ = some (.slice x0 y0 z0) ∧ z3.cell? ⟨w.heap.size, 2, none⟩ = some (.slice t0 u0 v0) ∧ z3.cell? ⟨w.heap.size, 1, none⟩ = some (.slice k0 p0 q0) ∧ z3.cell? ⟨w.heap.size, 0, none⟩ = some (.slice h0 i0 j0) ∧ True) ∧
  canStore z3 z1.heap.size 0 6 ∧
  let h4 := setCs z3 z1.heap.size 0 [.slice j1 k1 p1, .slice u1 v1 x1, .slice b2 d2 g2, .slice u3 v3 x3, .slice b4 d4 g4, .slice none 0 0];
  (h4.cell? ⟨w.heap.size, 4, none⟩ = some (.slice b1 d1 g1) ∧ h4.cell? ⟨w.heap.size, 3, none⟩ = some (.slice x0 y0 z0) ∧ h4.cell? ⟨w.heap.size, 2, none⟩ = some (.slice t0 u0 v0) ∧ h4.cell? ⟨w.heap.size, 1, none⟩ = some (.slice k0 p0 q0) ∧ h4.cell? ⟨w.heap.size, 0, none⟩ = some (.slice h0 i0 j0) ∧ True) ∧
  ([.pointer (some ⟨w.heap.size, 0, none⟩), .pointer (some ⟨b0.heap.size, 0, none⟩)] : List Value) = ([.pointer (some ⟨w.heap.size, 0, none⟩), .pointer (some ⟨b0.heap.size, 0, none⟩)] : List Value) ∧ g0 z1.heap.size 0 h4) ∧ True) ∧
  (let i4 := World.alloc t1 (.cells #[.slice none 0 0, .slice none 0 0, .slice none 0 0, .slice none 0 0, .slice none 0 0, .slice none 0 0] 32);
  (i4.cell? ⟨w.heap.size, 4, none⟩ = some (.slice b1 d1 g1) ∧ i4.cell? ⟨w.heap.size, 3, none⟩ = some (.slice x0 y0 z0) ∧ i4.cell? ⟨w.heap.size, 2, none⟩ = some (.slice t0 u0 v0) ∧ i4.cell? ⟨w.heap.size, 1, none⟩ = some (.slice k0 p0 q0) ∧ i4.cell? ⟨w.heap.size, 0, none⟩ = some (.slice h0 i0 j0) ∧ True) ∧
  Calls Tryd.prog 37 #[.slice t0 u0 v0] i4 fun j4 k4 =>
  ∃ p4 q4 t4,
  j4 = .returned (.slice p4 q4 t4) ∧
  (k4.cell? ⟨w.heap.size, 4, none⟩ = some (.slice b1 d1 g1) ∧ k4.cell? ⟨w.heap.size, 3, none⟩ = some (.slice x0 y0 z0) ∧ k4.cell? ⟨w.heap.size, 2, none⟩ = some (.slice t0 u0 v0) ∧ k4.cell? ⟨w.heap.size, 1, none⟩ = some (.slice k0 p0 q0) ∧ k4.cell? ⟨w.heap.size, 0, none⟩ = some (.slice h0 i0 j0) ∧ True) ∧
  Calls Tryd.prog 14 #[.slice x0 y0 z0, .int .i64 0] k4 fun u4 v4 =>
  ∃ x4 y4 z4,
  u4 = .returned (.slice x4 y4 z4) ∧
  (v4.cell? ⟨w.heap.size, 4, none⟩ = some (.slice b1 d1 g1) ∧ v4.cell? ⟨w.heap.size, 3, none⟩ = some (.slice x0 y0 z0) ∧ v4.cell? ⟨w.heap.size, 2, none⟩ = some (.slice t0 u0 v0) ∧ v4.cell? ⟨w.heap.size, 1, none⟩ = some (.slice k0 p0 q0) ∧ v4.cell? ⟨w.heap.size, 0, none⟩ = some (.slice h0 i0 j0) ∧ True) ∧
  Calls Tryd.prog 14 #[.slice b1 d1 g1, .int .i64 0] v4 fun b5 d5 =>
  ∃ g5 h5 i5,
  b5 = .returned (.slice g5 h5 i5) ∧
  (d5.cell? ⟨w.heap.size, 4, none⟩ = some (.slice b1 d1 g1) ∧ d5.cell? ⟨w.heap.size, 3, none⟩ = some (.slice x0 y0 z0) ∧ d5.cell? ⟨w.heap.size, 2, none⟩ = some (.slice t0 u0 v0) ∧ d5.cell? ⟨w.heap.size, 1, none⟩ = some (.slice k0 p0 q0) ∧ d5.cell? ⟨w.heap.size, 0, none⟩ = some (.slice h0 i0 j0) ∧ True) ∧
  canStore d5 t1.heap.size 0 6 ∧
  let j5 := setCs d5 t1.heap.size 0 [.slice j1 k1 p1, .slice u1 v1 x1, .slice p4 q4 t4, .slice x4 y4 z4, .slice g5 h5 i5, .slice none 0 0];
  (j5.cell? ⟨w.heap.size, 4, none⟩ = some (.slice b1 d1 g1) ∧ j5.cell? ⟨w.heap.size, 3, none⟩ = some (.slice x0 y0 z0) ∧ j5.cell? ⟨w.heap.size, 2, none⟩ = some (.slice t0 u0 v0) ∧ j5.cell? ⟨w.heap.size, 1, none⟩ = some (.slice k0 p0 q0) ∧ j5.cell? ⟨w.heap.size, 0, none⟩ = some (.slice h0 i0 j0) ∧ True) ∧
  ([.pointer (some ⟨w.heap.size, 0, none⟩), .pointer (some ⟨b0.heap.size, 0, none⟩)] : List Value) = ([.pointer (some ⟨w.heap.size, 0, none⟩), .pointer (some ⟨b0.heap.size, 0, none⟩)] : List Value) ∧ g0 t1.heap.size 0 j5) ∧ True) ∧
  (let k5 := World.alloc i1 (.cells #[.slice none 0 0, .slice none 0 0, .slice none 0 0, .slice none 0 0, .slice none 0 0, .slice none 0 0] 32);
  (k5.cell? ⟨w.heap.size, 4, none⟩ = some (.slice b1 d1 g1) ∧ k5.cell? ⟨w.heap.size, 3, none⟩ = some (.slice x0 y0 z0) ∧ k5.cell? ⟨w.heap.size, 2, none⟩ = some (.slice t0 u0 v0) ∧ k5.cell? ⟨w.heap.size, 1, none⟩ = some (.slice k0 p0 q0) ∧ k5.cell? ⟨w.heap.size, 0, none⟩ = some (.slice h0 i0 j0) ∧ True) ∧
  Calls Tryd.prog 37 #[.slice k0 p0 q0] k5 fun p5 q5 =>
  ∃ t5 u5 v5,
  p5 = .returned (.slice t5 u5 v5) ∧
  (q5.cell? ⟨w.heap.size, 4, none⟩ = some (.slice b1 d1 g1) ∧ q5.cell? ⟨w.heap.size, 3, none⟩ = some (.slice x0 y0 z0) ∧ q5.cell? ⟨w.heap.size, 2, none⟩ = some (.slice t0 u0 v0) ∧ q5.cell? ⟨w.heap.size, 1, none⟩ = some (.slice k0 p0 q0) ∧ q5.cell? ⟨w.heap.size, 0, none⟩ = some (.slice h0 i0 j0) ∧ True) ∧
  Calls Tryd.prog 37 #[.slice t0 u0 v0] q5 fun x5 y5 =>
  ∃ z5 b6 d6,
  x5 = .returned (.slice z5 b6 d6) ∧
  (y5.cell? ⟨w.heap.size, 4, none⟩ = some (.slice b1 d1 g1) ∧ y5.cell? ⟨w.heap.size, 3, none⟩ = some (.slice x0 y0 z0) ∧ y5.cell? ⟨w.heap.size, 2, none⟩ = some (.slice t0 u0 v0) ∧ y5.cell? ⟨w.heap.size, 1, none⟩ = some (.slice k0 p0 q0) ∧ y5.cell? ⟨w.heap.size, 0, none⟩ = some (.slice h0 i0 j0) ∧ True) ∧
  Calls Tryd.prog 14 #[.slice x0 y0 z0, .int .i64 0] y5 fun g6 h6 =>
  ∃ i6 j6 k6,
  g6 = .returned (.slice i6 j6 k6) ∧
  (h6.cell? ⟨w.heap.size, 4, none⟩ = some (.slice b1 d1 g1) ∧ h6.cell? ⟨w.heap.size, 3, none⟩ = some (.slice x0 y0 z0) ∧ h6.cell? ⟨w.heap.size, 2, none⟩ = some (.slice t0 u0 v0) ∧ h6.cell? ⟨w.heap.size, 1, none⟩ = some (.slice k0 p0 q0) ∧ h6.cell? ⟨w.heap.size, 0, none⟩ = some (.slice h0 i0 j0) ∧ True) ∧
  Calls Tryd.prog 14 #[.slice b1 d1 g1, .int .i64 0] h6 fun p6 q6 =>
  ∃ t6 u6 v6,
  p6 = .returned (.slice t6 u6 v6) ∧
  (q6.cell? ⟨w.heap.size, 4, none⟩ = some (.slice b1 d1 g1) ∧ q6.cell? ⟨w.heap.size, 3, none⟩ = some (.slice x0 y0 z0) ∧ q6.cell? ⟨w.heap.size, 2, none⟩ = some (.slice t0 u0 v0) ∧ q6.cell? ⟨w.heap.size, 1, none⟩ = some (.slice k0 p0 q0) ∧ q6.cell? ⟨w.heap.size, 0, none⟩ = some (.slice h0 i0 j0) ∧ True) ∧
  canStore q6 i1.heap.size 0 6 ∧
  let x6 := setCs q6 i1.heap.size 0 [.slice j1 k1 p1, .slice t5 u5 v5, .slice z5 b6 d6, .slice i6 j6 k6, .slice t6 u6 v6, .slice none 0 0];
  (x6.cell? ⟨w.heap.size, 4, none⟩ = some (.slice b1 d1 g1) ∧ x6.cell? ⟨w.heap.size, 3, none⟩ = some (.slice x0 y0 z0) ∧ x6.cell? ⟨w.heap.size, 2, none⟩ = some (.slice t0 u0 v0) ∧ x6.cell? ⟨w.heap.size, 1, none⟩ = some (.slice k0 p0 q0) ∧ x6.cell? ⟨w.heap.size, 0, none⟩ = some (.slice h0 i0 j0) ∧ True) ∧
  ([.pointer (some ⟨w.heap.size, 0, none⟩), .pointer (some ⟨b0.heap.size, 0, none⟩)] : List Value) = ([.pointer (some ⟨w.heap.size, 0, none⟩), .pointer (some ⟨b0.heap.size, 0, none⟩)] : List Value) ∧ g0 i1.heap.size 0 x6) ∧ True) ∧
  (let y6 := World.alloc d0.drew (.cells #[.slice none 0 0, .slice none 0 0, .slice none 0 0, .slice none 0 0, .slice none 0 0, .slice none 0 0] 32);
  (y6.cell? ⟨w.heap.size, 4, none⟩ = some (.slice b1 d1 g1) ∧ y6.cell? ⟨w.heap.size, 3, none⟩ = some (.slice x0 y0 z0) ∧ y6.cell? ⟨w.heap.size, 2, none⟩ = some (.slice t0 u0 v0) ∧ y6.cell? ⟨w.heap.size, 1, none⟩ = some (.slice k0 p0 q0) ∧ y6.cell? ⟨w.heap.size, 0, none⟩ = some (.slice h0 i0 j0) ∧ True) ∧
  Calls Tryd.prog 37 #[.slice h0 i0 j0] y6 fun z6 b7 =>
  ∃ d7 g7 h7,
  z6 = .returned (.slice d7 g7 h7) ∧
  (b7.cell? ⟨w.heap.size, 4, none⟩ = some (.slice b1 d1 g1) ∧ b7.cell? ⟨w.heap.size, 3, none⟩ = some (.slice x0 y0 z0) ∧ b7.cell? ⟨w.heap.size, 2, none⟩ = some (.slice t0 u0 v0) ∧ b7.cell? ⟨w.heap.size, 1, none⟩ = some (.slice k0 p0 q0) ∧ b7.cell? ⟨w.heap.size, 0, none⟩ = some (.slice h0 i0 j0) ∧ True) ∧
  Calls Tryd.prog 37 #[.slice k0 p0 q0] b7 fun i7 j7 =>
  ∃ k7 p7 q7,
  i7 = .returned (.slice k7 p7 q7) ∧
  (j7.cell? ⟨w.heap.size, 4, none⟩ = some (.slice b1 d1 g1) ∧ j7.cell? ⟨w.heap.size, 3, none⟩ = some (.slice x0 y0 z0) ∧ j7.cell? ⟨w.heap.size, 2, none⟩ = some (.slice t0 u0 v0) ∧ j7.cell? ⟨w.heap.size, 1, none⟩ = some (.slice k0 p0 q0) ∧ j7.cell? ⟨w.heap.size, 0, none⟩ = some (.slice h0 i0 j0) ∧ True) ∧
  Calls Tryd.prog 37 #[.slice t0 u0 v0] j7 fun t7 u7 =>
  ∃ v7 x7 y7,
  t7 = .returned (.slice v7 x7 y7) ∧
  (u7.cell? ⟨w.heap.size, 4, none⟩ = some (.slice b1 d1 g1) ∧ u7.cell? ⟨w.heap.size, 3, none⟩ = some (.slice x0 y0 z0) ∧ u7.cell? ⟨w.heap.size, 2, none⟩ = some (.slice t0 u0 v0) ∧ u7.cell? ⟨w.heap.size, 1, none⟩ = some (.slice k0 p0 q0) ∧ u7.cell? ⟨w.heap.size, 0, none⟩ = some (.slice h0 i0 j0) ∧ True) ∧
  Calls Tryd.prog 14 #[.slice x0 y0 z0, .int .i64 0] u7 fun z7 b8 =>
  ∃ d8 g8 h8,
  z7 = .returned (.slice d8 g8 h8) ∧
  (b8.cell? ⟨w.heap.size, 4, none⟩ = some (.slice b1 d1 g1) ∧ b8.cell? ⟨w.heap.size, 3, none⟩ = some (.slice x0 y0 z0) ∧ b8.cell? ⟨w.heap.size, 2, none⟩ = some (.slice t0 u0 v0) ∧ b8.cell? ⟨w.heap.size, 1, none⟩ = some (.slice k0 p0 q0) ∧ b8.cell? ⟨w.heap.size, 0, none⟩ = some (.slice h0 i0 j0) ∧ True) ∧
  Calls Tryd.prog 14 #[.slice b1 d1 g1, .int .i64 0] b8 fun i8 j8 =>
  ∃ k8 p8 q8,
  i8 = .returned (.slice k8 p8 q8) ∧
  (j8.cell? ⟨w.heap.size, 4, none⟩ = some (.slice b1 d1 g1) ∧ j8.cell? ⟨w.heap.size, 3, none⟩ = some (.slice x0 y0 z0) ∧ j8.cell? ⟨w.heap.size, 2, none⟩ = some (.slice t0 u0 v0) ∧ j8.cell? ⟨w.heap.size, 1, none⟩ = some (.slice k0 p0 q0) ∧ j8.cell? ⟨w.heap.size, 0, none⟩ = some (.slice h0 i0 j0) ∧ True) ∧
  canStore j8 d0.heap.size 0 6 ∧
  let t8 := setCs j8 d0.heap.size 0 [.slice d7 g7 h7, .slice k7 p7 q7, .slice v7 x7 y7, .slice d8 g8 h8, .slice k8 p8 q8, .slice none 0 0];
  (t8.cell? ⟨w.heap.size, 4, none⟩ = some (.slice b1 d1 g1) ∧ t8.cell? ⟨w.heap.size, 3, none⟩ = some (.slice x0 y0 z0) ∧ t8.cell? ⟨w.heap.size, 2, none⟩ = some (.slice t0 u0 v0) ∧ t8.cell? ⟨w.heap.size, 1, none⟩ = some (.slice k0 p0 q0) ∧ t8.cell? ⟨w.heap.size, 0, none⟩ = some (.slice h0 i0 j0) ∧ True) ∧
  ([.pointer (some ⟨w.heap.size, 0, none⟩), .pointer (some ⟨b0.heap.size, 0, none⟩)] : List Value) = ([.pointer (some ⟨w.heap.size, 0, none⟩), .pointer (some ⟨b0.heap.size, 0, none⟩)] : List Value) ∧ g0 d0.heap.size 0 t8) ∧ True) ∧
  ∀ u8 : Env, ∀ v8 x8 y8, g0 v8 x8 y8 →
  ∃ z8 : Int → World → Nat → Prop,
  (∃ n, z8 0 y8 n) ∧
  ∀ b9 : Env, ∀ d9 g9 h9, z8 d9 g9 h9 →
  ∃ i9 j9 k9,
  g9.cell? ⟨w.heap.size, 5, none⟩ = some (.slice i9 j9 k9) ∧
  sel (decide ((d9 : Int) < ((j9 : Int) : Int))) (
  ∃ p9 q9 t9,
  g9.cell? ⟨w.heap.size, 5, none⟩ = some (.slice p9 q9 t9) ∧
  (0 : Int) ≤ d9 ∧ d9 < (q9 : Int) ∧
  needPtr p9 fun u9 v9 =>
  ∃ x9 y9 z9,
  g9.cell? ⟨u9, v9 + d9.toNat * 1, none⟩ = some (.slice x9 y9 z9) ∧
  ∃ bA dA gA,
  ∃ hA, (Builtin.append_ #[29, 29] 29 #[.slice none 0 0, .slice x9 y9 z9]).run Tryd.prog g9 = .ok (.slice bA dA gA) hA ∧
  ∃ iA jA kA,
  hA.cell? ⟨v8, x8 + 5, none⟩ = some (.slice iA jA kA) ∧
  let pA := World.alloc hA (.cells #[.slice bA dA gA] 29);
  ∃ qA tA uA,
  ∃ vA, (Builtin.append_ #[30, 30] 30 #[.slice iA jA kA, .slice (some ⟨hA.heap.size, 0, none⟩) 1 1]).run Tryd.prog pA = .ok (.slice qA tA uA) vA ∧
  canStore vA v8 (x8 + 5) 1 ∧
  let xA := setCs vA v8 (x8 + 5) [.slice qA tA uA];
  let yA : Int := IntKind.i64.wrap (d9 + 1);
  ([.pointer (some ⟨w.heap.size, 0, none⟩), .pointer (some ⟨b0.heap.size, 0, none⟩), .pointer (some ⟨v8, x8, none⟩)] : List Value) = ([.pointer (some ⟨w.heap.size, 0, none⟩), .pointer (some ⟨b0.heap.size, 0, none⟩), .pointer (some ⟨v8, x8, none⟩)] : List Value) ∧ ∃ m, m < h9 ∧ z8 yA xA m) (
  ∃ zA bB dB,
  g9.cell? ⟨v8, x8, none⟩ = some (.slice zA bB dB) ∧
  ∃ gB hB iB,
  g9.cell? ⟨v8, x8 + 1, none⟩ = some (.slice gB hB iB) ∧
  ∃ jB kB pB,
  g9.cell? ⟨v8, x8 + 1 + 1, none⟩ = some (.slice jB kB pB) ∧
  ∃ qB tB uB,
  g9.cell? ⟨v8, x8 + 1 + 1 + 1, none⟩ = some (.slice qB tB uB) ∧
  ∃ vB xB yB,
  g9.cell? ⟨v8, x8 + 1 + 1 + 1 + 1, none⟩ = some (.slice vB xB yB) ∧
  ∃ zB bC dC,
  g9.cell? ⟨v8, x8 + 1 + 1 + 1 + 1 + 1, none⟩ = some (.slice zB bC dC) ∧
  canStore g9 b0.heap.size 0 6 ∧
  let gC := setCs g9 b0.heap.size 0 [.slice zA bB dB, .slice gB hB iB, .slice jB kB pB, .slice qB tB uB, .slice vB xB yB, .slice zB bC dC];
  ∃ hC iC jC,
  gC.cell? ⟨b0.heap.size, 0, none⟩ = some (.slice hC iC jC) ∧
  ∃ kC pC qC,
  gC.cell? ⟨b0.heap.size, 1, none⟩ = some (.slice kC pC qC) ∧
  ∃ tC uC vC,
  gC.cell? ⟨b0.heap.size, 2, none⟩ = some (.slice tC uC vC) ∧
  ∃ xC yC zC,
  gC.cell? ⟨b0.heap.size, 3, none⟩ = some (.slice xC yC zC) ∧
  ∃ bD dD gD,
  gC.cell? ⟨b0.heap.size, 4, none⟩ = some (.slice bD dD gD) ∧
  ∃ hD iD jD,
  gC.cell? ⟨b0.heap.size, 5, none⟩ = some (.slice hD iD jD) ∧
  R (.agg #[.slice hC iC jC, .slice kC pC qC, .slice tC uC vC, .slice xC yC zC, .slice bD dD gD, .slice hD iD jD]) gC)
theorem f13.eq (Aa0_0 : Option Addr) (na0_0 ca0_0 : Nat) (Aa0_1 : Option Addr) (na0_1 ca0_1 : Nat) (Aa0_2 : Option Addr) (na0_2 ca0_2 : Nat) (Aa0_3 : Option Addr) (na0_3 ca0_3 : Nat) (Aa0_4 : Option Addr) (na0_4 ca0_4 : Nat) (Aa0_5 : Option Addr) (na0_5 ca0_5 : Nat) (w : World) (R : Value → World → Prop) : f13.VC Aa0_0 na0_0 ca0_0 Aa0_1 na0_1 ca0_1 Aa0_2 na0_2 ca0_2 Aa0_3 na0_3 ca0_3 Aa0_4 na0_4 ca0_4 Aa0_5 na0_5 ca0_5 w R = funV Tryd.prog Tryd.f13 f13.AL f13.AC #[.agg #[.slice Aa0_0 na0_0 ca0_0, .slice Aa0_1 na0_1 ca0_1, .slice Aa0_2 na0_2 ca0_2, .slice Aa0_3 na0_3 ca0_3, .slice Aa0_4 na0_4 ca0_4, .slice Aa0_5 na0_5 ca0_5]] w R := by kernel_rfl
theorem f13.calls {Aa0_0 : Option Addr} {na0_0 ca0_0 : Nat} {Aa0_1 : Option Addr} {na0_1 ca0_1 : Nat} {Aa0_2 : Option Addr} {na0_2 ca0_2 : Nat} {Aa0_3 : Option Addr} {na0_3 ca0_3 : Nat} {Aa0_4 : Option Addr} {na0_4 ca0_4 : Nat} {Aa0_5 : Option Addr} {na0_5 ca0_5 : Nat} {w : World} {R : Value → World → Prop} (h : f13.VC Aa0_0 na0_0 ca0_0 Aa0_1 na0_1 ca0_1 Aa0_2 na0_2 ca0_2 Aa0_3 na0_3 ca0_3 Aa0_4 na0_4 ca0_4 Aa0_5 na0_5 ca0_5 w R) : Calls Tryd.prog 13 #[.agg #[.slice Aa0_0 na0_0 ca0_0, .slice Aa0_1 na0_1 ca0_1, .slice Aa0_2 na0_2 ca0_2, .slice Aa0_3 na0_3 ca0_3, .slice Aa0_4 na0_4 ca0_4, .slice Aa0_5 na0_5 ca0_5]] w fun e w' => ∃ v, e = .returned v ∧ R v w' :=
  funV_sound (fn := Tryd.f13) (AL := f13.AL) (AC := f13.AC) W22.mixed (by kernel_rfl) (by rw [← f13.eq Aa0_0 na0_0 ca0_0 Aa0_1 na0_1 ca0_1 Aa0_2 na0_2 ca0_2 Aa0_3 na0_3 ca0_3 Aa0_4 na0_4 ca0_4 Aa0_5 na0_5 ca0_5]; exact h)

/-- gatehouse/gatehouselaw12.texts -/
def f37.AL : Nat → Option Ann := fun _ => none
def f37.AC : Nat → Option Ann := fun _ => none
def f37.VC (Aa0 : Option Addr) (na0 ca0 : Nat) (w : World) (R : Value → World → Prop) : Prop :=
  ∃ b0 d0 g0,
  ∃ h0, (Builtin.append_ #[27, 27] 27 #[.slice none 0 0, .slice Aa0 na0 ca0]).run Tryd.prog w = .ok (.slice b0 d0 g0) h0 ∧
  R (.slice b0 d0 g0) h0
theorem f37.eq (Aa0 : Option Addr) (na0 ca0 : Nat) (w : World) (R : Value → World → Prop) : f37.VC Aa0 na0 ca0 w R = funV Tryd.prog Tryd.f37 f37.AL f37.AC #[.slice Aa0 na0 ca0] w R := by kernel_rfl
theorem f37.calls {Aa0 : Option Addr} {na0 ca0 : Nat} {w : World} {R : Value → World → Prop} (h : f37.VC Aa0 na0 ca0 w R) : Calls Tryd.prog 37 #[.slice Aa0 na0 ca0] w fun e w' => ∃ v, e = .returned v ∧ R v w' :=
  funV_sound (fn := Tryd.f37) (AL := f37.AL) (AC := f37.AC) W22.mixed (by kernel_rfl) (by rw [← f37.eq Aa0 na0 ca0]; exact h)

end Go.Proofs.YtjmlfknogjaemaaDoor
