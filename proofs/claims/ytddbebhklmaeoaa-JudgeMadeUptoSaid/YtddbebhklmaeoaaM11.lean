/- The plain statements of some functions, printed by vcgen.py. -/
import Derived.Test.YtddbebhklmaeoaaM5
import Derived.Test.YtddbebhklmaeoaaProg
import Derived.KernelRfl
set_option maxRecDepth 100000
set_option maxHeartbeats 4000000
set_option linter.unusedVariables false
namespace Go.Proofs.Ytddbebhklmaeoaa
open Go Go.Proofs.Ytddbebhklmaeoaa.Vc
theorem W2.mixed : Try.prog.follows .mixedOrders = true := by kernel_rfl
/-- gatehouse/mean.subject -/
def f39.AL : Nat → Option Ann := fun r => match r with | 2 => some ⟨[(12, .int .i64)], [1, 2, 4, 10, 11]⟩ | _ => none
def f39.AC : Nat → Option Ann := fun _ => none
def f39.VC (Aa0_0 : Option Addr) (na0_0 ca0_0 : Nat) (Aa0_1 : Option Addr) (na0_1 ca0_1 : Nat) (Aa0_2 : Option Addr) (na0_2 ca0_2 : Nat) (Aa0_3 : Option Addr) (na0_3 ca0_3 : Nat) (Aa0_4 : Option Addr) (na0_4 ca0_4 : Nat) (Aa0_5 : Option Addr) (na0_5 ca0_5 : Nat) (Aa0_6 : Option Addr) (na0_6 ca0_6 : Nat) (Aa0_7 : Option Addr) (na0_7 ca0_7 : Nat) (Aa0_8 : Option Addr) (na0_8 ca0_8 : Nat) (Aa0_9 : Option Addr) (na0_9 ca0_9 : Nat) (Aa0_10 : Option Addr) (na0_10 ca0_10 : Nat) (sa1 : ByteArray) (w : World) (R : Value → World → Prop) : Prop :=
  let b0 := World.alloc w (.cells #[.slice Aa0_0 na0_0 ca0_0, .slice Aa0_1 na0_1 ca0_1, .slice Aa0_2 na0_2 ca0_2, .slice Aa0_3 na0_3 ca0_3, .slice Aa0_4 na0_4 ca0_4, .slice Aa0_5 na0_5 ca0_5, .slice Aa0_6 na0_6 ca0_6, .slice Aa0_7 na0_7 ca0_7, .slice Aa0_8 na0_8 ca0_8, .slice Aa0_9 na0_9 ca0_9, .slice Aa0_10 na0_10 ca0_10] 28);
  let d0 := World.alloc b0 (.cells #[.string ⟨#[]⟩, .float .f64 0, .map none] 103);
  ∃ g0 h0 i0,
  d0.cell? ⟨w.heap.size, 1, none⟩ = some (.slice g0 h0 i0) ∧
  ∃ j0 : Int → World → Nat → Prop,
  (∃ n, j0 0 d0 n) ∧
  ∀ k0 : Env, ∀ p0 q0 t0, j0 p0 q0 t0 →
  sel (decide ((p0 : Int) < ((h0 : Int) : Int))) (
  (0 : Int) ≤ p0 ∧ p0 < (h0 : Int) ∧
  needPtr g0 fun u0 v0 =>
  ∃ x0,
  q0.cell? ⟨u0, v0 + p0.toNat * 2, none⟩ = some (.string x0) ∧
  ∃ y0,
  q0.cell? ⟨u0, v0 + p0.toNat * 2 + 1, none⟩ = some (.float .f64 y0) ∧
  let z0 := World.alloc q0 (.cells #[.string ⟨#[]⟩, .float .f64 0] 110);
  canStore z0 q0.heap.size 0 2 ∧
  let b1 := setCs z0 q0.heap.size 0 [.string x0, .float .f64 y0];
  ∃ d1,
  b1.cell? ⟨q0.heap.size, 0, none⟩ = some (.string d1) ∧
  sel (decide (d1 = sa1)) (
  ∃ g1 h1 i1,
  b1.cell? ⟨w.heap.size, 5, none⟩ = some (.slice g1 h1 i1) ∧
  ∃ j1 k1 p1,
  b1.cell? ⟨w.heap.size, 6, none⟩ = some (.slice j1 k1 p1) ∧
  Calls Try.prog 65 #[.string sa1, .slice g1 h1 i1, .slice j1 k1 p1] b1 fun q1 t1 =>
  ∃ u1 v1 x1,
  q1 = .returned (.agg #[.string u1, .float .f64 v1, .map x1]) ∧
  let y1 := World.alloc t1 (.cells #[.string ⟨#[]⟩, .float .f64 0, .map none] 103);
  canStore y1 t1.heap.size 0 3 ∧
  let z1 := setCs y1 t1.heap.size 0 [.string u1, .float .f64 v1, .map x1];
  ∃ b2,
  z1.cell? ⟨q0.heap.size, 1, none⟩ = some (.float .f64 b2) ∧
  canStore z1 t1.heap.size 1 1 ∧
  let d2 := setCs z1 t1.heap.size 1 [.float .f64 b2];
  ∃ g2,
  d2.cell? ⟨t1.heap.size, 0, none⟩ = some (.string g2) ∧
  ∃ h2,
  d2.cell? ⟨t1.heap.size, 1, none⟩ = some (.float .f64 h2) ∧
  ∃ i2,
  d2.cell? ⟨t1.heap.size, 2, none⟩ = some (.map i2) ∧
  canStore d2 b0.heap.size 0 3 ∧
  let j2 := setCs d2 b0.heap.size 0 [.string g2, .float .f64 h2, .map i2];
  ∃ k2,
  j2.cell? ⟨b0.heap.size, 0, none⟩ = some (.string k2) ∧
  ∃ p2,
  j2.cell? ⟨b0.heap.size, 1, none⟩ = some (.float .f64 p2) ∧
  ∃ q2,
  j2.cell? ⟨b0.heap.size, 2, none⟩ = some (.map q2) ∧
  R (.tuple #[.agg #[.string k2, .float .f64 p2, .map q2], .bool true]) j2) (
  let t2 : Int := IntKind.i64.wrap (p0 + 1);
  ([.string sa1, .pointer (some ⟨w.heap.size, 0, none⟩), .pointer (some ⟨b0.heap.size, 0, none⟩), .slice g0 h0 i0, .int .i64 (h0 : Int)] : List Value) = ([.string sa1, .pointer (some ⟨w.heap.size, 0, none⟩), .pointer (some ⟨b0.heap.size, 0, none⟩), .slice g0 h0 i0, .int .i64 (h0 : Int)] : List Value) ∧ ∃ m, m < t0 ∧ j0 t2 b1 m)) (
  canStore q0 b0.heap.size 0 3 ∧
  let u2 := setCs q0 b0.heap.size 0 [.string ⟨#[]⟩, .float .f64 0, .map none];
  ∃ v2,
  u2.cell? ⟨b0.heap.size, 0, none⟩ = some (.string v2) ∧
  ∃ x2,
  u2.cell? ⟨b0.heap.size, 1, none⟩ = some (.float .f64 x2) ∧
  ∃ y2,
  u2.cell? ⟨b0.heap.size, 2, none⟩ = some (.map y2) ∧
  R (.tuple #[.agg #[.string v2, .float .f64 x2, .map y2], .bool false]) u2)
theorem f39.eq (Aa0_0 : Option Addr) (na0_0 ca0_0 : Nat) (Aa0_1 : Option Addr) (na0_1 ca0_1 : Nat) (Aa0_2 : Option Addr) (na0_2 ca0_2 : Nat) (Aa0_3 : Option Addr) (na0_3 ca0_3 : Nat) (Aa0_4 : Option Addr) (na0_4 ca0_4 : Nat) (Aa0_5 : Option Addr) (na0_5 ca0_5 : Nat) (Aa0_6 : Option Addr) (na0_6 ca0_6 : Nat) (Aa0_7 : Option Addr) (na0_7 ca0_7 : Nat) (Aa0_8 : Option Addr) (na0_8 ca0_8 : Nat) (Aa0_9 : Option Addr) (na0_9 ca0_9 : Nat) (Aa0_10 : Option Addr) (na0_10 ca0_10 : Nat) (sa1 : ByteArray) (w : World) (R : Value → World → Prop) : f39.VC Aa0_0 na0_0 ca0_0 Aa0_1 na0_1 ca0_1 Aa0_2 na0_2 ca0_2 Aa0_3 na0_3 ca0_3 Aa0_4 na0_4 ca0_4 Aa0_5 na0_5 ca0_5 Aa0_6 na0_6 ca0_6 Aa0_7 na0_7 ca0_7 Aa0_8 na0_8 ca0_8 Aa0_9 na0_9 ca0_9 Aa0_10 na0_10 ca0_10 sa1 w R = funV Try.prog Try.f39 f39.AL f39.AC #[.agg #[.slice Aa0_0 na0_0 ca0_0, .slice Aa0_1 na0_1 ca0_1, .slice Aa0_2 na0_2 ca0_2, .slice Aa0_3 na0_3 ca0_3, .slice Aa0_4 na0_4 ca0_4, .slice Aa0_5 na0_5 ca0_5, .slice Aa0_6 na0_6 ca0_6, .slice Aa0_7 na0_7 ca0_7, .slice Aa0_8 na0_8 ca0_8, .slice Aa0_9 na0_9 ca0_9, .slice Aa0_10 na0_10 ca0_10], .string sa1] w R := by kernel_rfl
theorem f39.calls {Aa0_0 : Option Addr} {na0_0 ca0_0 : Nat} {Aa0_1 : Option Addr} {na0_1 ca0_1 : Nat} {Aa0_2 : Option Addr} {na0_2 ca0_2 : Nat} {Aa0_3 : Option Addr} {na0_3 ca0_3 : Nat} {Aa0_4 : Option Addr} {na0_4 ca0_4 : Nat} {Aa0_5 : Option Addr} {na0_5 ca0_5 : Nat} {Aa0_6 : Option Addr} {na0_6 ca0_6 : Nat} {Aa0_7 : Option Addr} {na0_7 ca0_7 : Nat} {Aa0_8 : Option Addr} {na0_8 ca0_8 : Nat} {Aa0_9 : Option Addr} {na0_9 ca0_9 : Nat} {Aa0_10 : Option Addr} {na0_10 ca0_10 : Nat} {sa1 : ByteArray} {w : World} {R : Value → World → Prop} (h : f39.VC Aa0_0 na0_0 ca0_0 Aa0_1 na0_1 ca0_1 Aa0_2 na0_2 ca0_2 Aa0_3 na0_3 ca0_3 Aa0_4 na0_4 ca0_4 Aa0_5 na0_5 ca0_5 Aa0_6 na0_6 ca0_6 Aa0_7 na0_7 ca0_7 Aa0_8 na0_8 ca0_8 Aa0_9 na0_9 ca0_9 Aa0_10 na0_10 ca0_10 sa1 w R) : Calls Try.prog 39 #[.agg #[.slice Aa0_0 na0_0 ca0_0, .slice Aa0_1 na0_1 ca0_1, .slice Aa0_2 na0_2 ca0_2, .slice Aa0_3 na0_3 ca0_3, .slice Aa0_4 na0_4 ca0_4, .slice Aa0_5 na0_5 ca0_5, .slice Aa0_6 na0_6 ca0_6, .slice Aa0_7 na0_7 ca0_7, .slice Aa0_8 na0_8 ca0_8, .slice Aa0_9 na0_9 ca0_9, .slice Aa0_10 na0_10 ca0_10], .string sa1] w fun e w' => ∃ v, e = .returned v ∧ R v w' :=
  funV_sound (fn := Try.f39) (AL := f39.AL) (AC := f39.AC) W2.mixed (by kernel_rfl) (by rw [← f39.eq Aa0_0 na0_0 ca0_0 Aa0_1 na0_1 ca0_1 Aa0_2 na0_2 ca0_2 Aa0_3 na0_3 ca0_3 Aa0_4 na0_4 ca0_4 Aa0_5 na0_5 ca0_5 Aa0_6 na0_6 ca0_6 Aa0_7 na0_7 ca0_7 Aa0_8 na0_8 ca0_8 Aa0_9 na0_9 ca0_9 Aa0_10 na0_10 ca0_10 sa1]; exact h)

/-- gatehouse/mean.object -/
def f40.AL : Nat → Option Ann := fun _ => none
def f40.AC : Nat → Option Ann := fun _ => none
def f40.VC (Aa0_0 : Option Addr) (na0_0 ca0_0 : Nat) (Aa0_1 : Option Addr) (na0_1 ca0_1 : Nat) (Aa0_2 : Option Addr) (na0_2 ca0_2 : Nat) (Aa0_3 : Option Addr) (na0_3 ca0_3 : Nat) (Aa0_4 : Option Addr) (na0_4 ca0_4 : Nat) (Aa0_5 : Option Addr) (na0_5 ca0_5 : Nat) (Aa0_6 : Option Addr) (na0_6 ca0_6 : Nat) (Aa0_7 : Option Addr) (na0_7 ca0_7 : Nat) (Aa0_8 : Option Addr) (na0_8 ca0_8 : Nat) (Aa0_9 : Option Addr) (na0_9 ca0_9 : Nat) (Aa0_10 : Option Addr) (na0_10 ca0_10 : Nat) (sa1 : ByteArray) (w : World) (R : Value → World → Prop) : Prop :=
  let b0 := World.alloc w (.cells #[.slice Aa0_0 na0_0 ca0_0, .slice Aa0_1 na0_1 ca0_1, .slice Aa0_2 na0_2 ca0_2, .slice Aa0_3 na0_3 ca0_3, .slice Aa0_4 na0_4 ca0_4, .slice Aa0_5 na0_5 ca0_5, .slice Aa0_6 na0_6 ca0_6, .slice Aa0_7 na0_7 ca0_7, .slice Aa0_8 na0_8 ca0_8, .slice Aa0_9 na0_9 ca0_9, .slice Aa0_10 na0_10 ca0_10] 28);
  let d0 := World.alloc b0 (.cells #[.string ⟨#[]⟩, .float .f64 0, .map none] 103);
  ∃ g0 h0 i0,
  d0.cell? ⟨w.heap.size, 3, none⟩ = some (.slice g0 h0 i0) ∧
  Calls Try.prog 41 #[.slice g0 h0 i0, .string sa1] d0 fun j0 k0 =>
  ∃ p0,
  j0 = .returned (.bool p0) ∧
  sel (!p0) (
  canStore k0 b0.heap.size 0 3 ∧
  let q0 := setCs k0 b0.heap.size 0 [.string ⟨#[]⟩, .float .f64 0, .map none];
  ∃ t0,
  q0.cell? ⟨b0.heap.size, 0, none⟩ = some (.string t0) ∧
  ∃ u0,
  q0.cell? ⟨b0.heap.size, 1, none⟩ = some (.float .f64 u0) ∧
  ∃ v0,
  q0.cell? ⟨b0.heap.size, 2, none⟩ = some (.map v0) ∧
  R (.tuple #[.agg #[.string t0, .float .f64 u0, .map v0], .bool false]) q0) (
  ∃ x0 y0 z0,
  k0.cell? ⟨w.heap.size, 7, none⟩ = some (.slice x0 y0 z0) ∧
  ∃ b1 d1 g1,
  k0.cell? ⟨w.heap.size, 8, none⟩ = some (.slice b1 d1 g1) ∧
  Calls Try.prog 65 #[.string sa1, .slice x0 y0 z0, .slice b1 d1 g1] k0 fun h1 i1 =>
  ∃ j1 k1 p1,
  h1 = .returned (.agg #[.string j1, .float .f64 k1, .map p1]) ∧
  canStore i1 b0.heap.size 0 3 ∧
  let q1 := setCs i1 b0.heap.size 0 [.string j1, .float .f64 k1, .map p1];
  ∃ t1,
  q1.cell? ⟨b0.heap.size, 0, none⟩ = some (.string t1) ∧
  ∃ u1,
  q1.cell? ⟨b0.heap.size, 1, none⟩ = some (.float .f64 u1) ∧
  ∃ v1,
  q1.cell? ⟨b0.heap.size, 2, none⟩ = some (.map v1) ∧
  R (.tuple #[.agg #[.string t1, .float .f64 u1, .map v1], .bool true]) q1)
theorem f40.eq (Aa0_0 : Option Addr) (na0_0 ca0_0 : Nat) (Aa0_1 : Option Addr) (na0_1 ca0_1 : Nat) (Aa0_2 : Option Addr) (na0_2 ca0_2 : Nat) (Aa0_3 : Option Addr) (na0_3 ca0_3 : Nat) (Aa0_4 : Option Addr) (na0_4 ca0_4 : Nat) (Aa0_5 : Option Addr) (na0_5 ca0_5 : Nat) (Aa0_6 : Option Addr) (na0_6 ca0_6 : Nat) (Aa0_7 : Option Addr) (na0_7 ca0_7 : Nat) (Aa0_8 : Option Addr) (na0_8 ca0_8 : Nat) (Aa0_9 : Option Addr) (na0_9 ca0_9 : Nat) (Aa0_10 : Option Addr) (na0_10 ca0_10 : Nat) (sa1 : ByteArray) (w : World) (R : Value → World → Prop) : f40.VC Aa0_0 na0_0 ca0_0 Aa0_1 na0_1 ca0_1 Aa0_2 na0_2 ca0_2 Aa0_3 na0_3 ca0_3 Aa0_4 na0_4 ca0_4 Aa0_5 na0_5 ca0_5 Aa0_6 na0_6 ca0_6 Aa0_7 na0_7 ca0_7 Aa0_8 na0_8 ca0_8 Aa0_9 na0_9 ca0_9 Aa0_10 na0_10 ca0_10 sa1 w R = funV Try.prog Try.f40 f40.AL f40.AC #[.agg #[.slice Aa0_0 na0_0 ca0_0, .slice Aa0_1 na0_1 ca0_1, .slice Aa0_2 na0_2 ca0_2, .slice Aa0_3 na0_3 ca0_3, .slice Aa0_4 na0_4 ca0_4, .slice Aa0_5 na0_5 ca0_5, .slice Aa0_6 na0_6 ca0_6, .slice Aa0_7 na0_7 ca0_7, .slice Aa0_8 na0_8 ca0_8, .slice Aa0_9 na0_9 ca0_9, .slice Aa0_10 na0_10 ca0_10], .string sa1] w R := by kernel_rfl
theorem f40.calls {Aa0_0 : Option Addr} {na0_0 ca0_0 : Nat} {Aa0_1 : Option Addr} {na0_1 ca0_1 : Nat} {Aa0_2 : Option Addr} {na0_2 ca0_2 : Nat} {Aa0_3 : Option Addr} {na0_3 ca0_3 : Nat} {Aa0_4 : Option Addr} {na0_4 ca0_4 : Nat} {Aa0_5 : Option Addr} {na0_5 ca0_5 : Nat} {Aa0_6 : Option Addr} {na0_6 ca0_6 : Nat} {Aa0_7 : Option Addr} {na0_7 ca0_7 : Nat} {Aa0_8 : Option Addr} {na0_8 ca0_8 : Nat} {Aa0_9 : Option Addr} {na0_9 ca0_9 : Nat} {Aa0_10 : Option Addr} {na0_10 ca0_10 : Nat} {sa1 : ByteArray} {w : World} {R : Value → World → Prop} (h : f40.VC Aa0_0 na0_0 ca0_0 Aa0_1 na0_1 ca0_1 Aa0_2 na0_2 ca0_2 Aa0_3 na0_3 ca0_3 Aa0_4 na0_4 ca0_4 Aa0_5 na0_5 ca0_5 Aa0_6 na0_6 ca0_6 Aa0_7 na0_7 ca0_7 Aa0_8 na0_8 ca0_8 Aa0_9 na0_9 ca0_9 Aa0_10 na0_10 ca0_10 sa1 w R) : Calls Try.prog 40 #[.agg #[.slice Aa0_0 na0_0 ca0_0, .slice Aa0_1 na0_1 ca0_1, .slice Aa0_2 na0_2 ca0_2, .slice Aa0_3 na0_3 ca0_3, .slice Aa0_4 na0_4 ca0_4, .slice Aa0_5 na0_5 ca0_5, .slice Aa0_6 na0_6 ca0_6, .slice Aa0_7 na0_7 ca0_7, .slice Aa0_8 na0_8 ca0_8, .slice Aa0_9 na0_9 ca0_9, .slice Aa0_10 na0_10 ca0_10], .string sa1] w fun e w' => ∃ v, e = .returned v ∧ R v w' :=
  funV_sound (fn := Try.f40) (AL := f40.AL) (AC := f40.AC) W2.mixed (by kernel_rfl) (by rw [← f40.eq Aa0_0 na0_0 ca0_0 Aa0_1 na0_1 ca0_1 Aa0_2 na0_2 ca0_2 Aa0_3 na0_3 ca0_3 Aa0_4 na0_4 ca0_4 Aa0_5 na0_5 ca0_5 Aa0_6 na0_6 ca0_6 Aa0_7 na0_7 ca0_7 Aa0_8 na0_8 ca0_8 Aa0_9 na0_9 ca0_9 Aa0_10 na0_10 ca0_10 sa1]; exact h)

/-- gatehouse/mean.allows -/
def f42.AL : Nat → Option Ann := fun r => match r with | 3 => some ⟨[(7, .bool), (12, .int .i64)], [3, 5, 10, 11]⟩ | _ => none
def f42.AC : Nat → Option Ann := fun _ => none
def f42.VC (Aa0_0 : Option Addr) (na0_0 ca0_0 : Nat) (Aa0_1 : Option Addr) (na0_1 ca0_1 : Nat) (Aa0_2 : Option Addr) (na0_2 ca0_2 : Nat) (Aa0_3 : Option Addr) (na0_3 ca0_3 : Nat) (Aa0_4 : Option Addr) (na0_4 ca0_4 : Nat) (Aa0_5 : Option Addr) (na0_5 ca0_5 : Nat) (Aa0_6 : Option Addr) (na0_6 ca0_6 : Nat) (Aa0_7 : Option Addr) (na0_7 ca0_7 : Nat) (Aa0_8 : Option Addr) (na0_8 ca0_8 : Nat) (Aa0_9 : Option Addr) (na0_9 ca0_9 : Nat) (Aa0_10 : Option Addr) (na0_10 ca0_10 : Nat) (Aa1 : Option Addr) (na1 ca1 : Nat) (sa2_0 : ByteArray) (sa2_1 : ByteArray) (sa2_2 : ByteArray) (w : World) (R : Value → World → Prop) : Prop :=
  let b0 := World.alloc w (.cells #[.slice Aa0_0 na0_0 ca0_0, .slice Aa0_1 na0_1 ca0_1, .slice Aa0_2 na0_2 ca0_2, .slice Aa0_3 na0_3 ca0_3, .slice Aa0_4 na0_4 ca0_4, .slice Aa0_5 na0_5 ca0_5, .slice Aa0_6 na0_6 ca0_6, .slice Aa0_7 na0_7 ca0_7, .slice Aa0_8 na0_8 ca0_8, .slice Aa0_9 na0_9 ca0_9, .slice Aa0_10 na0_10 ca0_10] 28);
  let d0 := World.alloc b0 (.cells #[.string sa2_0, .string sa2_1, .string sa2_2] 37);
  ∃ g0 : Bool → Int → World → Nat → Prop,
  (∃ n, g0 false 0 d0 n) ∧
  ∀ h0 : Env, ∀ i0 j0 k0 p0, g0 i0 j0 k0 p0 →
  sel (decide ((j0 : Int) < ((na1 : Int) : Int))) (
  (0 : Int) ≤ j0 ∧ j0 < (na1 : Int) ∧
  needPtr Aa1 fun q0 t0 =>
  ∃ u0,
  k0.cell? ⟨q0, t0 + j0.toNat * 6, none⟩ = some (.bool u0) ∧
  ∃ v0,
  k0.cell? ⟨q0, t0 + j0.toNat * 6 + 1, none⟩ = some (.string v0) ∧
  ∃ x0,
  k0.cell? ⟨q0, t0 + j0.toNat * 6 + 1 + 1, none⟩ = some (.string x0) ∧
  ∃ y0 z0 b1,
  k0.cell? ⟨q0, t0 + j0.toNat * 6 + 1 + 1 + 1, none⟩ = some (.slice y0 z0 b1) ∧
  ∃ d1,
  k0.cell? ⟨q0, t0 + j0.toNat * 6 + 1 + 1 + 1 + 1, none⟩ = some (.int .i8 d1) ∧
  ∃ g1,
  k0.cell? ⟨q0, t0 + j0.toNat * 6 + 1 + 1 + 1 + 1 + 1, none⟩ = some (.float .f64 g1) ∧
  let h1 := World.alloc k0 (.cells #[.bool false, .string ⟨#[]⟩, .string ⟨#[]⟩, .slice none 0 0, .int .i8 0, .float .f64 0] 88);
  canStore h1 k0.heap.size 0 6 ∧
  let i1 := setCs h1 k0.heap.size 0 [.bool u0, .string v0, .string x0, .slice y0 z0 b1, .int .i8 d1, .float .f64 g1];
  ∃ j1,
  i1.cell? ⟨k0.heap.size, 0, none⟩ = some (.bool j1) ∧
  ∃ k1,
  i1.cell? ⟨k0.heap.size, 1, none⟩ = some (.string k1) ∧
  ∃ p1,
  i1.cell? ⟨k0.heap.size, 2, none⟩ = some (.string p1) ∧
  ∃ q1 t1 u1,
  i1.cell? ⟨k0.heap.size, 3, none⟩ = some (.slice q1 t1 u1) ∧
  ∃ v1,
  i1.cell? ⟨k0.heap.size, 4, none⟩ = some (.int .i8 v1) ∧
  ∃ x1,
  i1.cell? ⟨k0.heap.size, 5, none⟩ = some (.float .f64 x1) ∧
  ∃ y1,
  i1.cell? ⟨b0.heap.size, 2, none⟩ = some (.string y1) ∧
  Calls Try.prog 67 #[.agg #[.bool j1, .string k1, .string p1, .slice q1 t1 u1, .int .i8 v1, .float .f64 x1], .string y1] i1 fun z1 b2 =>
  ∃ d2,
  z1 = .returned (.bool d2) ∧
  sel (!d2) (
  let g2 : Int := IntKind.i64.wrap (j0 + 1);
  ([.pointer (some ⟨w.heap.size, 0, none⟩), .pointer (some ⟨b0.heap.size, 0, none⟩), .slice Aa1 na1 ca1, .int .i64 (na1 : Int)] : List Value) = ([.pointer (some ⟨w.heap.size, 0, none⟩), .pointer (some ⟨b0.heap.size, 0, none⟩), .slice Aa1 na1 ca1, .int .i64 (na1 : Int)] : List Value) ∧ ∃ m, m < p0 ∧ g0 i0 g2 b2 m) (
  ∃ h2,
  b2.cell? ⟨k0.heap.size, 0, none⟩ = some (.bool h2) ∧
  sel h2 (
  R (.bool false) b2) (
  let i2 : Int := IntKind.i64.wrap (j0 + 1);
  ([.pointer (some ⟨w.heap.size, 0, none⟩), .pointer (some ⟨b0.heap.size, 0, none⟩), .slice Aa1 na1 ca1, .int .i64 (na1 : Int)] : List Value) = ([.pointer (some ⟨w.heap.size, 0, none⟩), .pointer (some ⟨b0.heap.size, 0, none⟩), .slice Aa1 na1 ca1, .int .i64 (na1 : Int)] : List Value) ∧ ∃ m, m < p0 ∧ g0 true i2 b2 m))) (
  sel i0 (
  ∃ j2 k2 p2,
  k0.cell? ⟨w.heap.size, 10, none⟩ = some (.slice j2 k2 p2) ∧
  ∃ q2,
  k0.cell? ⟨b0.heap.size, 0, none⟩ = some (.string q2) ∧
  ∃ t2,
  k0.cell? ⟨b0.heap.size, 1, none⟩ = some (.string t2) ∧
  ∃ u2,
  k0.cell? ⟨b0.heap.size, 2, none⟩ = some (.string u2) ∧
  Calls Try.prog 68 #[.slice j2 k2 p2, .agg #[.string q2, .string t2, .string u2]] k0 fun v2 x2 =>
  ∃ y2,
  v2 = .returned (.bool y2) ∧
  R (.bool (!y2)) x2) (
  R (.bool false) k0))
theorem f42.eq (Aa0_0 : Option Addr) (na0_0 ca0_0 : Nat) (Aa0_1 : Option Addr) (na0_1 ca0_1 : Nat) (Aa0_2 : Option Addr) (na0_2 ca0_2 : Nat) (Aa0_3 : Option Addr) (na0_3 ca0_3 : Nat) (Aa0_4 : Option Addr) (na0_4 ca0_4 : Nat) (Aa0_5 : Option Addr) (na0_5 ca0_5 : Nat) (Aa0_6 : Option Addr) (na0_6 ca0_6 : Nat) (Aa0_7 : Option Addr) (na0_7 ca0_7 : Nat) (Aa0_8 : Option Addr) (na0_8 ca0_8 : Nat) (Aa0_9 : Option Addr) (na0_9 ca0_9 : Nat) (Aa0_10 : Option Addr) (na0_10 ca0_10 : Nat) (Aa1 : Option Addr) (na1 ca1 : Nat) (sa2_0 : ByteArray) (sa2_1 : ByteArray) (sa2_2 : ByteArray) (w : World) (R : Value → World → Prop) : f42.VC Aa0_0 na0_0 ca0_0 Aa0_1 na0_1 ca0_1 Aa0_2 na0_2 ca0_2 Aa0_3 na0_3 ca0_3 Aa0_4 na0_4 ca0_4 Aa0_5 na0_5 ca0_5 Aa0_6 na0_6 ca0_6 Aa0_7 na0_7 ca0_7 Aa0_8 na0_8 ca0_8 Aa0_9 na0_9 ca0_9 Aa0_10 na0_10 ca0_10 Aa1 na1 ca1 sa2_0 sa2_1 sa2_2 w R = funV Try.prog Try.f42 f42.AL f42.AC #[.agg #[.slice Aa0_0 na0_0 ca0_0, .slice Aa0_1 na0_1 ca0_1, .slice Aa0_2 na0_2 ca0_2, .slice Aa0_3 na0_3 ca0_3, .slice Aa0_4 na0_4 ca0_4, .slice Aa0_5 na0_5 ca0_5, .slice Aa0_6 na0_6 ca0_6, .slice Aa0_7 na0_7 ca0_7, .slice Aa0_8 na0_8 ca0_8, .slice Aa0_9 na0_9 ca0_9, .slice Aa0_10 na0_10 ca0_10], .slice Aa1 na1 ca1, .agg #[.string sa2_0, .string sa2_1, .string sa2_2]] w R := by kernel_rfl
theorem f42.calls {Aa0_0 : Option Addr} {na0_0 ca0_0 : Nat} {Aa0_1 : Option Addr} {na0_1 ca0_1 : Nat} {Aa0_2 : Option Addr} {na0_2 ca0_2 : Nat} {Aa0_3 : Option Addr} {na0_3 ca0_3 : Nat} {Aa0_4 : Option Addr} {na0_4 ca0_4 : Nat} {Aa0_5 : Option Addr} {na0_5 ca0_5 : Nat} {Aa0_6 : Option Addr} {na0_6 ca0_6 : Nat} {Aa0_7 : Option Addr} {na0_7 ca0_7 : Nat} {Aa0_8 : Option Addr} {na0_8 ca0_8 : Nat} {Aa0_9 : Option Addr} {na0_9 ca0_9 : Nat} {Aa0_10 : Option Addr} {na0_10 ca0_10 : Nat} {Aa1 : Option Addr} {na1 ca1 : Nat} {sa2_0 : ByteArray} {sa2_1 : ByteArray} {sa2_2 : ByteArray} {w : World} {R : Value → World → Prop} (h : f42.VC Aa0_0 na0_0 ca0_0 Aa0_1 na0_1 ca0_1 Aa0_2 na0_2 ca0_2 Aa0_3 na0_3 ca0_3 Aa0_4 na0_4 ca0_4 Aa0_5 na0_5 ca0_5 Aa0_6 na0_6 ca0_6 Aa0_7 na0_7 ca0_7 Aa0_8 na0_8 ca0_8 Aa0_9 na0_9 ca0_9 Aa0_10 na0_10 ca0_10 Aa1 na1 ca1 sa2_0 sa2_1 sa2_2 w R) : Calls Try.prog 42 #[.agg #[.slice Aa0_0 na0_0 ca0_0, .slice Aa0_1 na0_1 ca0_1, .slice Aa0_2 na0_2 ca0_2, .slice Aa0_3 na0_3 ca0_3, .slice Aa0_4 na0_4 ca0_4, .slice Aa0_5 na0_5 ca0_5, .slice Aa0_6 na0_6 ca0_6, .slice Aa0_7 na0_7 ca0_7, .slice Aa0_8 na0_8 ca0_8, .slice Aa0_9 na0_9 ca0_9, .slice Aa0_10 na0_10 ca0_10], .slice Aa1 na1 ca1, .agg #[.string sa2_0, .string sa2_1, .string sa2_2]] w fun e w' => ∃ v, e = .returned v ∧ R v w' :=
  funV_sound (fn := Try.f42) (AL := f42.AL) (AC := f42.AC) W2.mixed (by kernel_rfl) (by rw [← f42.eq Aa0_0 na0_0 ca0_0 Aa0_1 na0_1 ca0_1 Aa0_2 na0_2 ca0_2 Aa0_3 na0_3 ca0_3 Aa0_4 na0_4 ca0_4 Aa0_5 na0_5 ca0_5 Aa0_6 na0_6 ca0_6 Aa0_7 na0_7 ca0_7 Aa0_8 na0_8 ca0_8 Aa0_9 na0_9 ca0_9 Aa0_10 na0_10 ca0_10 Aa1 na1 ca1 sa2_0 sa2_1 sa2_2]; exact h)

/-- gatehouse/mean.about -/
def f43.AL : Nat → Option Ann := fun r => match r with | 3 => some ⟨[(7, .slice), (13, .int .i64)], [4, 5, 11, 12]⟩ | _ => none
def f43.AC : Nat → Option Ann := fun _ => none
def f43.VC (Aa0_0 : Option Addr) (na0_0 ca0_0 : Nat) (Aa0_1 : Option Addr) (na0_1 ca0_1 : Nat) (Aa0_2 : Option Addr) (na0_2 ca0_2 : Nat) (Aa0_3 : Option Addr) (na0_3 ca0_3 : Nat) (Aa0_4 : Option Addr) (na0_4 ca0_4 : Nat) (Aa0_5 : Option Addr) (na0_5 ca0_5 : Nat) (Aa0_6 : Option Addr) (na0_6 ca0_6 : Nat) (Aa0_7 : Option Addr) (na0_7 ca0_7 : Nat) (Aa0_8 : Option Addr) (na0_8 ca0_8 : Nat) (Aa0_9 : Option Addr) (na0_9 ca0_9 : Nat) (Aa0_10 : Option Addr) (na0_10 ca0_10 : Nat) (sa1_0 : ByteArray) (fa1_1 : Nat) (ma1_2 : Option Nat) (sa2_0 : ByteArray) (fa2_1 : Nat) (ma2_2 : Option Nat) (w : World) (R : Value → World → Prop) : Prop :=
  let b0 := World.alloc w (.cells #[.slice Aa0_0 na0_0 ca0_0, .slice Aa0_1 na0_1 ca0_1, .slice Aa0_2 na0_2 ca0_2, .slice Aa0_3 na0_3 ca0_3, .slice Aa0_4 na0_4 ca0_4, .slice Aa0_5 na0_5 ca0_5, .slice Aa0_6 na0_6 ca0_6, .slice Aa0_7 na0_7 ca0_7, .slice Aa0_8 na0_8 ca0_8, .slice Aa0_9 na0_9 ca0_9, .slice Aa0_10 na0_10 ca0_10] 28);
  let d0 := World.alloc b0 (.cells #[.string sa1_0, .float .f64 fa1_1, .map ma1_2] 103);
  let g0 := World.alloc d0 (.cells #[.string sa2_0, .float .f64 fa2_1, .map ma2_2] 103);
  ∃ h0 i0 j0,
  g0.cell? ⟨w.heap.size, 9, none⟩ = some (.slice h0 i0 j0) ∧
  ∃ k0 : Option Addr → Nat → Nat → Int → World → Nat → Prop,
  (∃ n, k0 none 0 0 0 g0 n) ∧
  ∀ p0 : Env, ∀ q0 t0 u0 v0 x0 y0, k0 q0 t0 u0 v0 x0 y0 →
  sel (decide ((v0 : Int) < ((i0 : Int) : Int))) (
  (0 : Int) ≤ v0 ∧ v0 < (i0 : Int) ∧
  needPtr h0 fun z0 b1 =>
  ∃ d1,
  x0.cell? ⟨z0, b1 + v0.toNat * 6, none⟩ = some (.bool d1) ∧
  ∃ g1,
  x0.cell? ⟨z0, b1 + v0.toNat * 6 + 1, none⟩ = some (.string g1) ∧
  ∃ h1,
  x0.cell? ⟨z0, b1 + v0.toNat * 6 + 1 + 1, none⟩ = some (.string h1) ∧
  ∃ i1 j1 k1,
  x0.cell? ⟨z0, b1 + v0.toNat * 6 + 1 + 1 + 1, none⟩ = some (.slice i1 j1 k1) ∧
  ∃ p1,
  x0.cell? ⟨z0, b1 + v0.toNat * 6 + 1 + 1 + 1 + 1, none⟩ = some (.int .i8 p1) ∧
  ∃ q1,
  x0.cell? ⟨z0, b1 + v0.toNat * 6 + 1 + 1 + 1 + 1 + 1, none⟩ = some (.float .f64 q1) ∧
  let t1 := World.alloc x0 (.cells #[.bool false, .string ⟨#[]⟩, .string ⟨#[]⟩, .slice none 0 0, .int .i8 0, .float .f64 0] 88);
  canStore t1 x0.heap.size 0 6 ∧
  let u1 := setCs t1 x0.heap.size 0 [.bool d1, .string g1, .string h1, .slice i1 j1 k1, .int .i8 p1, .float .f64 q1];
  ∃ v1,
  u1.cell? ⟨x0.heap.size, 0, none⟩ = some (.bool v1) ∧
  ∃ x1,
  u1.cell? ⟨x0.heap.size, 1, none⟩ = some (.string x1) ∧
  ∃ y1,
  u1.cell? ⟨x0.heap.size, 2, none⟩ = some (.string y1) ∧
  ∃ z1 b2 d2,
  u1.cell? ⟨x0.heap.size, 3, none⟩ = some (.slice z1 b2 d2) ∧
  ∃ g2,
  u1.cell? ⟨x0.heap.size, 4, none⟩ = some (.int .i8 g2) ∧
  ∃ h2,
  u1.cell? ⟨x0.heap.size, 5, none⟩ = some (.float .f64 h2) ∧
  ∃ i2,
  u1.cell? ⟨b0.heap.size, 0, none⟩ = some (.string i2) ∧
  ∃ j2,
  u1.cell? ⟨b0.heap.size, 1, none⟩ = some (.float .f64 j2) ∧
  ∃ k2,
  u1.cell? ⟨b0.heap.size, 2, none⟩ = some (.map k2) ∧
  ∃ p2,
  u1.cell? ⟨d0.heap.size, 0, none⟩ = some (.string p2) ∧
  ∃ q2,
  u1.cell? ⟨d0.heap.size, 1, none⟩ = some (.float .f64 q2) ∧
  ∃ t2,
  u1.cell? ⟨d0.heap.size, 2, none⟩ = some (.map t2) ∧
  Calls Try.prog 69 #[.agg #[.bool v1, .string x1, .string y1, .slice z1 b2 d2, .int .i8 g2, .float .f64 h2], .agg #[.string i2, .float .f64 j2, .map k2], .agg #[.string p2, .float .f64 q2, .map t2]] u1 fun u2 v2 =>
  ∃ x2,
  u2 = .returned (.bool x2) ∧
  sel x2 (
  ∃ y2,
  v2.cell? ⟨x0.heap.size, 0, none⟩ = some (.bool y2) ∧
  ∃ z2,
  v2.cell? ⟨x0.heap.size, 1, none⟩ = some (.string z2) ∧
  ∃ b3,
  v2.cell? ⟨x0.heap.size, 2, none⟩ = some (.string b3) ∧
  ∃ d3 g3 h3,
  v2.cell? ⟨x0.heap.size, 3, none⟩ = some (.slice d3 g3 h3) ∧
  ∃ i3,
  v2.cell? ⟨x0.heap.size, 4, none⟩ = some (.int .i8 i3) ∧
  ∃ j3,
  v2.cell? ⟨x0.heap.size, 5, none⟩ = some (.float .f64 j3) ∧
  let k3 := World.alloc v2 (.cells #[.bool y2, .string z2, .string b3, .slice d3 g3 h3, .int .i8 i3, .float .f64 j3] 88);
  ∃ p3 q3 t3,
  ∃ u3, (Builtin.append_ #[25, 25] 25 #[.slice q0 t0 u0, .slice (some ⟨v2.heap.size, 0, none⟩) 1 1]).run Try.prog k3 = .ok (.slice p3 q3 t3) u3 ∧
  let v3 : Int := IntKind.i64.wrap (v0 + 1);
  ([.pointer (some ⟨b0.heap.size, 0, none⟩), .pointer (some ⟨d0.heap.size, 0, none⟩), .slice h0 i0 j0, .int .i64 (i0 : Int)] : List Value) = ([.pointer (some ⟨b0.heap.size, 0, none⟩), .pointer (some ⟨d0.heap.size, 0, none⟩), .slice h0 i0 j0, .int .i64 (i0 : Int)] : List Value) ∧ ∃ m, m < y0 ∧ k0 p3 q3 t3 v3 u3 m) (
  let x3 : Int := IntKind.i64.wrap (v0 + 1);
  ([.pointer (some ⟨b0.heap.size, 0, none⟩), .pointer (some ⟨d0.heap.size, 0, none⟩), .slice h0 i0 j0, .int .i64 (i0 : Int)] : List Value) = ([.pointer (some ⟨b0.heap.size, 0, none⟩), .pointer (some ⟨d0.heap.size, 0, none⟩), .slice h0 i0 j0, .int .i64 (i0 : Int)] : List Value) ∧ ∃ m, m < y0 ∧ k0 q0 t0 u0 x3 v2 m)) (
  R (.slice q0 t0 u0) x0)
theorem f43.eq (Aa0_0 : Option Addr) (na0_0 ca0_0 : Nat) (Aa0_1 : Option Addr) (na0_1 ca0_1 : Nat) (Aa0_2 : Option Addr) (na0_2 ca0_2 : Nat) (Aa0_3 : Option Addr) (na0_3 ca0_3 : Nat) (Aa0_4 : Option Addr) (na0_4 ca0_4 : Nat) (Aa0_5 : Option Addr) (na0_5 ca0_5 : Nat) (Aa0_6 : Option Addr) (na0_6 ca0_6 : Nat) (Aa0_7 : Option Addr) (na0_7 ca0_7 : Nat) (Aa0_8 : Option Addr) (na0_8 ca0_8 : Nat) (Aa0_9 : Option Addr) (na0_9 ca0_9 : Nat) (Aa0_10 : Option Addr) (na0_10 ca0_10 : Nat) (sa1_0 : ByteArray) (fa1_1 : Nat) (ma1_2 : Option Nat) (sa2_0 : ByteArray) (fa2_1 : Nat) (ma2_2 : Option Nat) (w : World) (R : Value → World → Prop) : f43.VC Aa0_0 na0_0 ca0_0 Aa0_1 na0_1 ca0_1 Aa0_2 na0_2 ca0_2 Aa0_3 na0_3 ca0_3 Aa0_4 na0_4 ca0_4 Aa0_5 na0_5 ca0_5 Aa0_6 na0_6 ca0_6 Aa0_7 na0_7 ca0_7 Aa0_8 na0_8 ca0_8 Aa0_9 na0_9 ca0_9 Aa0_10 na0_10 ca0_10 sa1_0 fa1_1 ma1_2 sa2_0 fa2_1 ma2_2 w R = funV Try.prog Try.f43 f43.AL f43.AC #[.agg #[.slice Aa0_0 na0_0 ca0_0, .slice Aa0_1 na0_1 ca0_1, .slice Aa0_2 na0_2 ca0_2, .slice Aa0_3 na0_3 ca0_3, .slice Aa0_4 na0_4 ca0_4, .slice Aa0_5 na0_5 ca0_5, .slice Aa0_6 na0_6 ca0_6, .slice Aa0_7 na0_7 ca0_7, .slice Aa0_8 na0_8 ca0_8, .slice Aa0_9 na0_9 ca0_9, .slice Aa0_10 na0_10 ca0_10], .agg #[.string sa1_0, .float .f64 fa1_1, .map ma1_2], .agg #[.string sa2_0, .float .f64 fa2_1, .map ma2_2]] w R := by kernel_rfl
theorem f43.calls {Aa0_0 : Option Addr} {na0_0 ca0_0 : Nat} {Aa0_1 : Option Addr} {na0_1 ca0_1 : Nat} {Aa0_2 : Option Addr} {na0_2 ca0_2 : Nat} {Aa0_3 : Option Addr} {na0_3 ca0_3 : Nat} {Aa0_4 : Option Addr} {na0_4 ca0_4 : Nat} {Aa0_5 : Option Addr} {na0_5 ca0_5 : Nat} {Aa0_6 : Option Addr} {na0_6 ca0_6 : Nat} {Aa0_7 : Option Addr} {na0_7 ca0_7 : Nat} {Aa0_8 : Option Addr} {na0_8 ca0_8 : Nat} {Aa0_9 : Option Addr} {na0_9 ca0_9 : Nat} {Aa0_10 : Option Addr} {na0_10 ca0_10 : Nat} {sa1_0 : ByteArray} {fa1_1 : Nat} {ma1_2 : Option Nat} {sa2_0 : ByteArray} {fa2_1 : Nat} {ma2_2 : Option Nat} {w : World} {R : Value → World → Prop} (h : f43.VC Aa0_0 na0_0 ca0_0 Aa0_1 na0_1 ca0_1 Aa0_2 na0_2 ca0_2 Aa0_3 na0_3 ca0_3 Aa0_4 na0_4 ca0_4 Aa0_5 na0_5 ca0_5 Aa0_6 na0_6 ca0_6 Aa0_7 na0_7 ca0_7 Aa0_8 na0_8 ca0_8 Aa0_9 na0_9 ca0_9 Aa0_10 na0_10 ca0_10 sa1_0 fa1_1 ma1_2 sa2_0 fa2_1 ma2_2 w R) : Calls Try.prog 43 #[.agg #[.slice Aa0_0 na0_0 ca0_0, .slice Aa0_1 na0_1 ca0_1, .slice Aa0_2 na0_2 ca0_2, .slice Aa0_3 na0_3 ca0_3, .slice Aa0_4 na0_4 ca0_4, .slice Aa0_5 na0_5 ca0_5, .slice Aa0_6 na0_6 ca0_6, .slice Aa0_7 na0_7 ca0_7, .slice Aa0_8 na0_8 ca0_8, .slice Aa0_9 na0_9 ca0_9, .slice Aa0_10 na0_10 ca0_10], .agg #[.string sa1_0, .float .f64 fa1_1, .map ma1_2], .agg #[.string sa2_0, .float .f64 fa2_1, .map ma2_2]] w fun e w' => ∃ v, e = .returned v ∧ R v w' :=
  funV_sound (fn := Try.f43) (AL := f43.AL) (AC := f43.AC) W2.mixed (by kernel_rfl) (by rw [← f43.eq Aa0_0 na0_0 ca0_0 Aa0_1 na0_1 ca0_1 Aa0_2 na0_2 ca0_2 Aa0_3 na0_3 ca0_3 Aa0_4 na0_4 ca0_4 Aa0_5 na0_5 ca0_5 Aa0_6 na0_6 ca0_6 Aa0_7 na0_7 ca0_7 Aa0_8 na0_8 ca0_8 Aa0_9 na0_9 ca0_9 Aa0_10 na0_10 ca0_10 sa1_0 fa1_1 ma1_2 sa2_0 fa2_1 ma2_2]; exact h)

/-- gatehouse/mean.stand -/
def f65.AL : Nat → Option Ann := fun r => match r with | 3 => some ⟨[(20, .int .i64)], [6, 7, 18, 19]⟩ | _ => none
def f65.AC : Nat → Option Ann := fun _ => none
def f65.VC (sa0 : ByteArray) (Aa1 : Option Addr) (na1 ca1 : Nat) (Aa2 : Option Addr) (na2 ca2 : Nat) (w : World) (R : Value → World → Prop) : Prop :=
  let b0 := World.alloc w (.cells #[.string ⟨#[]⟩, .float .f64 0, .map none] 103);
  let d0 := World.alloc b0 (.map #[] 0);
  let g0 := World.alloc d0 (.cells #[.string ⟨#[]⟩, .float .f64 0, .map none] 103);
  canStore g0 d0.heap.size 0 3 ∧
  let h0 := setCs g0 d0.heap.size 0 [.string sa0, .float .f64 0, .map (some b0.heap.size)];
  let i0 := World.alloc h0 (.cells #[.slice Aa1 na1 ca1, .slice Aa2 na2 ca2] 24);
  Calls Try.prog 89 #[.slice (some ⟨h0.heap.size, 0, none⟩) 2 2] i0 fun j0 k0 =>
  ∃ p0 q0 t0,
  j0 = .returned (.slice p0 q0 t0) ∧
  Calls Try.prog 88 #[.slice p0 q0 t0, .string sa0] k0 fun u0 v0 =>
  ∃ x0 y0 z0,
  u0 = .returned (.slice x0 y0 z0) ∧
  ∃ b1 : Int → World → Nat → Prop,
  (∃ n, b1 0 v0 n) ∧
  ∀ d1 : Env, ∀ g1 h1 i1, b1 g1 h1 i1 →
  sel (decide ((g1 : Int) < ((y0 : Int) : Int))) (
  (0 : Int) ≤ g1 ∧ g1 < (y0 : Int) ∧
  needPtr x0 fun j1 k1 =>
  ∃ p1,
  h1.cell? ⟨j1, k1 + g1.toNat * 1, none⟩ = some (.string p1) ∧
  ∃ q1,
  h1.cell? ⟨d0.heap.size, 2, none⟩ = some (.map q1) ∧
  ∃ t1, (Instr.mapUpdate 101 (.map q1) (.string p1) (.agg #[])).run Try.prog h1 = .ok () t1 ∧
  let u1 : Int := IntKind.i64.wrap (g1 + 1);
  ([.pointer (some ⟨w.heap.size, 0, none⟩), .pointer (some ⟨d0.heap.size, 0, none⟩), .slice x0 y0 z0, .int .i64 (y0 : Int)] : List Value) = ([.pointer (some ⟨w.heap.size, 0, none⟩), .pointer (some ⟨d0.heap.size, 0, none⟩), .slice x0 y0 z0, .int .i64 (y0 : Int)] : List Value) ∧ ∃ m, m < i1 ∧ b1 u1 t1 m) (
  ∃ v1,
  h1.cell? ⟨d0.heap.size, 0, none⟩ = some (.string v1) ∧
  ∃ x1,
  h1.cell? ⟨d0.heap.size, 1, none⟩ = some (.float .f64 x1) ∧
  ∃ y1,
  h1.cell? ⟨d0.heap.size, 2, none⟩ = some (.map y1) ∧
  canStore h1 w.heap.size 0 3 ∧
  let z1 := setCs h1 w.heap.size 0 [.string v1, .float .f64 x1, .map y1];
  ∃ b2,
  z1.cell? ⟨w.heap.size, 0, none⟩ = some (.string b2) ∧
  ∃ d2,
  z1.cell? ⟨w.heap.size, 1, none⟩ = some (.float .f64 d2) ∧
  ∃ g2,
  z1.cell? ⟨w.heap.size, 2, none⟩ = some (.map g2) ∧
  R (.agg #[.string b2, .float .f64 d2, .map g2]) z1)
theorem f65.eq (sa0 : ByteArray) (Aa1 : Option Addr) (na1 ca1 : Nat) (Aa2 : Option Addr) (na2 ca2 : Nat) (w : World) (R : Value → World → Prop) : f65.VC sa0 Aa1 na1 ca1 Aa2 na2 ca2 w R = funV Try.prog Try.f65 f65.AL f65.AC #[.string sa0, .slice Aa1 na1 ca1, .slice Aa2 na2 ca2] w R := by kernel_rfl
theorem f65.calls {sa0 : ByteArray} {Aa1 : Option Addr} {na1 ca1 : Nat} {Aa2 : Option Addr} {na2 ca2 : Nat} {w : World} {R : Value → World → Prop} (h : f65.VC sa0 Aa1 na1 ca1 Aa2 na2 ca2 w R) : Calls Try.prog 65 #[.string sa0, .slice Aa1 na1 ca1, .slice Aa2 na2 ca2] w fun e w' => ∃ v, e = .returned v ∧ R v w' :=
  funV_sound (fn := Try.f65) (AL := f65.AL) (AC := f65.AC) W2.mixed (by kernel_rfl) (by rw [← f65.eq sa0 Aa1 na1 ca1 Aa2 na2 ca2]; exact h)

/-- gatehouse/reach.Up -/
def f88.AL : Nat → Option Ann := fun _ => none
def f88.AC : Nat → Option Ann := fun _ => none
def f88.VC (Aa0 : Option Addr) (na0 ca0 : Nat) (sa1 : ByteArray) (w : World) (R : Value → World → Prop) : Prop :=
  Calls Try.prog 102 #[.slice Aa0 na0 ca0] w fun b0 d0 =>
  ∃ g0,
  b0 = .returned (.map g0) ∧
  let h0 := World.alloc d0 (.cells #[.map none] 165);
  canStore h0 d0.heap.size 0 1 ∧
  let i0 := setCs h0 d0.heap.size 0 [.map g0];
  let j0 := World.alloc i0 (.cells #[.string sa1] 9);
  Calls Try.prog 103 #[.slice (some ⟨i0.heap.size, 0, none⟩) 1 1, .func (.func 104) #[] #[.pointer (some ⟨d0.heap.size, 0, none⟩)]] j0 fun k0 p0 =>
  ∃ q0 t0 u0,
  k0 = .returned (.slice q0 t0 u0) ∧
  R (.slice q0 t0 u0) p0
theorem f88.eq (Aa0 : Option Addr) (na0 ca0 : Nat) (sa1 : ByteArray) (w : World) (R : Value → World → Prop) : f88.VC Aa0 na0 ca0 sa1 w R = funV Try.prog Try.f88 f88.AL f88.AC #[.slice Aa0 na0 ca0, .string sa1] w R := by kernel_rfl
theorem f88.calls {Aa0 : Option Addr} {na0 ca0 : Nat} {sa1 : ByteArray} {w : World} {R : Value → World → Prop} (h : f88.VC Aa0 na0 ca0 sa1 w R) : Calls Try.prog 88 #[.slice Aa0 na0 ca0, .string sa1] w fun e w' => ∃ v, e = .returned v ∧ R v w' :=
  funV_sound (fn := Try.f88) (AL := f88.AL) (AC := f88.AC) W2.mixed (by kernel_rfl) (by rw [← f88.eq Aa0 na0 ca0 sa1]; exact h)

/-- slices.Concat[[]gatehouse/api.Pair,gatehouse/api.Pair] -/
def f89.AL : Nat → Option Ann := fun r => match r with | 3 => some ⟨[(3, .int .i64), (11, .int .i64)], [0, 9, 10]⟩ | 11 => some ⟨[(6, .slice), (27, .int .i64)], [25, 26]⟩ | _ => none
def f89.AC : Nat → Option Ann := fun _ => none
def f89.VC (Aa0 : Option Addr) (na0 ca0 : Nat) (w : World) (R : Value → World → Prop) : Prop :=
  ∃ b0 : Int → Int → World → Nat → Prop,
  (∃ n, b0 0 0 w n) ∧
  ∀ d0 : Env, ∀ g0 h0 i0 j0, b0 g0 h0 i0 j0 →
  sel (decide ((h0 : Int) < ((na0 : Int) : Int))) (
  (0 : Int) ≤ h0 ∧ h0 < (na0 : Int) ∧
  needPtr Aa0 fun k0 p0 =>
  ∃ q0 t0 u0,
  i0.cell? ⟨k0, p0 + h0.toNat * 1, none⟩ = some (.slice q0 t0 u0) ∧
  let v0 : Int := IntKind.i64.wrap (g0 + (t0 : Int));
  sel (decide ((v0 : Int) < (0 : Int))) (
  False) (
  let x0 : Int := IntKind.i64.wrap (h0 + 1);
  ([.slice Aa0 na0 ca0, .slice Aa0 na0 ca0, .int .i64 (na0 : Int)] : List Value) = ([.slice Aa0 na0 ca0, .slice Aa0 na0 ca0, .int .i64 (na0 : Int)] : List Value) ∧ ∃ m, m < j0 ∧ b0 v0 x0 i0 m)) (
  Calls Try.prog 105 #[.slice none 0 0, .int .i64 g0] i0 fun y0 z0 =>
  ∃ b1 d1 g1,
  y0 = .returned (.slice b1 d1 g1) ∧
  ∃ h1 : Option Addr → Nat → Nat → Int → World → Nat → Prop,
  (∃ n, h1 b1 d1 g1 0 z0 n) ∧
  ∀ i1 : Env, ∀ j1 k1 p1 q1 t1 u1, h1 j1 k1 p1 q1 t1 u1 →
  sel (decide ((q1 : Int) < ((na0 : Int) : Int))) (
  (0 : Int) ≤ q1 ∧ q1 < (na0 : Int) ∧
  needPtr Aa0 fun v1 x1 =>
  ∃ y1 z1 b2,
  t1.cell? ⟨v1, x1 + q1.toNat * 1, none⟩ = some (.slice y1 z1 b2) ∧
  ∃ d2 g2 h2,
  ∃ i2, (Builtin.append_ #[24, 24] 24 #[.slice j1 k1 p1, .slice y1 z1 b2]).run Try.prog t1 = .ok (.slice d2 g2 h2) i2 ∧
  let j2 : Int := IntKind.i64.wrap (q1 + 1);
  ([.slice Aa0 na0 ca0, .int .i64 (na0 : Int)] : List Value) = ([.slice Aa0 na0 ca0, .int .i64 (na0 : Int)] : List Value) ∧ ∃ m, m < u1 ∧ h1 d2 g2 h2 j2 i2 m) (
  R (.slice j1 k1 p1) t1))
theorem f89.eq (Aa0 : Option Addr) (na0 ca0 : Nat) (w : World) (R : Value → World → Prop) : f89.VC Aa0 na0 ca0 w R = funV Try.prog Try.f89 f89.AL f89.AC #[.slice Aa0 na0 ca0] w R := by kernel_rfl
theorem f89.calls {Aa0 : Option Addr} {na0 ca0 : Nat} {w : World} {R : Value → World → Prop} (h : f89.VC Aa0 na0 ca0 w R) : Calls Try.prog 89 #[.slice Aa0 na0 ca0] w fun e w' => ∃ v, e = .returned v ∧ R v w' :=
  funV_sound (fn := Try.f89) (AL := f89.AL) (AC := f89.AC) W2.mixed (by kernel_rfl) (by rw [← f89.eq Aa0 na0 ca0]; exact h)

/-- gatehouse/reach.lines -/
def f102.AL : Nat → Option Ann := fun r => match r with | 3 => some ⟨[(9, .int .i64)], [3, 7, 8]⟩ | _ => none
def f102.AC : Nat → Option Ann := fun r => match r with | 1000005 => some ⟨[], []⟩ | _ => none
def f102.VC (Aa0 : Option Addr) (na0 ca0 : Nat) (w : World) (R : Value → World → Prop) : Prop :=
  let b0 := World.alloc w (.map #[] 0);
  ∃ d0 : Int → World → Nat → Prop,
  (∃ n, d0 0 b0 n) ∧
  ∀ g0 : Env, ∀ h0 i0 j0, d0 h0 i0 j0 →
  sel (decide ((h0 : Int) < ((na0 : Int) : Int))) (
  (0 : Int) ≤ h0 ∧ h0 < (na0 : Int) ∧
  needPtr Aa0 fun k0 p0 =>
  ∃ q0,
  i0.cell? ⟨k0, p0 + h0.toNat * 2, none⟩ = some (.string q0) ∧
  ∃ t0,
  i0.cell? ⟨k0, p0 + h0.toNat * 2 + 1, none⟩ = some (.string t0) ∧
  let u0 := World.alloc i0 (.cells #[.string ⟨#[]⟩, .string ⟨#[]⟩] 147);
  canStore u0 i0.heap.size 0 2 ∧
  let v0 := setCs u0 i0.heap.size 0 [.string q0, .string t0];
  ∃ x0,
  v0.cell? ⟨i0.heap.size, 0, none⟩ = some (.string x0) ∧
  ∃ y0,
  v0.cell? ⟨i0.heap.size, 0, none⟩ = some (.string y0) ∧
  ∃ z0,
  v0.cell? ⟨i0.heap.size, 1, none⟩ = some (.string z0) ∧
  (∃ b1 d1 g1,
  ∃ h1, (Instr.lookup 165 (.map (some w.heap.size)) (.string y0) false).run Try.prog v0.drew = .ok (.slice b1 d1 g1) h1 ∧
  (h1.cell? ⟨i0.heap.size, 1, none⟩ = some (.string z0) ∧ h1.cell? ⟨i0.heap.size, 0, none⟩ = some (.string y0) ∧ h1.cell? ⟨i0.heap.size, 0, none⟩ = some (.string x0) ∧ True) ∧
  let i1 := World.alloc h1 (.cells #[.string z0] 9);
  (i1.cell? ⟨i0.heap.size, 1, none⟩ = some (.string z0) ∧ i1.cell? ⟨i0.heap.size, 0, none⟩ = some (.string y0) ∧ i1.cell? ⟨i0.heap.size, 0, none⟩ = some (.string x0) ∧ True) ∧
  ∃ j1 k1 p1,
  ∃ q1, (Builtin.append_ #[22, 22] 22 #[.slice b1 d1 g1, .slice (some ⟨h1.heap.size, 0, none⟩) 1 1]).run Try.prog i1 = .ok (.slice j1 k1 p1) q1 ∧
  (q1.cell? ⟨i0.heap.size, 1, none⟩ = some (.string z0) ∧ q1.cell? ⟨i0.heap.size, 0, none⟩ = some (.string y0) ∧ q1.cell? ⟨i0.heap.size, 0, none⟩ = some (.string x0) ∧ True) ∧
  ∃ t1, (Instr.mapUpdate 165 (.map (some w.heap.size)) (.string x0) (.slice j1 k1 p1)).run Try.prog q1 = .ok () t1 ∧
  (t1.cell? ⟨i0.heap.size, 1, none⟩ = some (.string z0) ∧ t1.cell? ⟨i0.heap.size, 0, none⟩ = some (.string y0) ∧ t1.cell? ⟨i0.heap.size, 0, none⟩ = some (.string x0) ∧ True) ∧
  let u1 : Int := IntKind.i64.wrap (h0 + 1);
  ([.map (some w.heap.size), .slice Aa0 na0 ca0, .int .i64 (na0 : Int)] : List Value) = ([.map (some w.heap.size), .slice Aa0 na0 ca0, .int .i64 (na0 : Int)] : List Value) ∧ ∃ m, m < j0 ∧ d0 u1 t1 m) ∧
  (let v1 := World.alloc v0.drew (.cells #[.string z0] 9);
  (v1.cell? ⟨i0.heap.size, 1, none⟩ = some (.string z0) ∧ v1.cell? ⟨i0.heap.size, 0, none⟩ = some (.string y0) ∧ v1.cell? ⟨i0.heap.size, 0, none⟩ = some (.string x0) ∧ True) ∧
  ∃ x1 y1 z1,
  ∃ b2, (Instr.lookup 165 (.map (some w.heap.size)) (.string y0) false).run Try.prog v1 = .ok (.slice x1 y1 z1) b2 ∧
  (b2.cell? ⟨i0.heap.size, 1, none⟩ = some (.string z0) ∧ b2.cell? ⟨i0.heap.size, 0, none⟩ = some (.string y0) ∧ b2.cell? ⟨i0.heap.size, 0, none⟩ = some (.string x0) ∧ True) ∧
  ∃ d2 g2 h2,
  ∃ i2, (Builtin.append_ #[22, 22] 22 #[.slice x1 y1 z1, .slice (some ⟨v0.heap.size, 0, none⟩) 1 1]).run Try.prog b2 = .ok (.slice d2 g2 h2) i2 ∧
  (i2.cell? ⟨i0.heap.size, 1, none⟩ = some (.string z0) ∧ i2.cell? ⟨i0.heap.size, 0, none⟩ = some (.string y0) ∧ i2.cell? ⟨i0.heap.size, 0, none⟩ = some (.string x0) ∧ True) ∧
  ∃ j2, (Instr.mapUpdate 165 (.map (some w.heap.size)) (.string x0) (.slice d2 g2 h2)).run Try.prog i2 = .ok () j2 ∧
  (j2.cell? ⟨i0.heap.size, 1, none⟩ = some (.string z0) ∧ j2.cell? ⟨i0.heap.size, 0, none⟩ = some (.string y0) ∧ j2.cell? ⟨i0.heap.size, 0, none⟩ = some (.string x0) ∧ True) ∧
  let k2 : Int := IntKind.i64.wrap (h0 + 1);
  ([.map (some w.heap.size), .slice Aa0 na0 ca0, .int .i64 (na0 : Int)] : List Value) = ([.map (some w.heap.size), .slice Aa0 na0 ca0, .int .i64 (na0 : Int)] : List Value) ∧ ∃ m, m < j0 ∧ d0 k2 j2 m) ∧ True) (
  R (.map (some w.heap.size)) i0)
theorem f102.eq (Aa0 : Option Addr) (na0 ca0 : Nat) (w : World) (R : Value → World → Prop) : f102.VC Aa0 na0 ca0 w R = funV Try.prog Try.f102 f102.AL f102.AC #[.slice Aa0 na0 ca0] w R := by kernel_rfl
theorem f102.calls {Aa0 : Option Addr} {na0 ca0 : Nat} {w : World} {R : Value → World → Prop} (h : f102.VC Aa0 na0 ca0 w R) : Calls Try.prog 102 #[.slice Aa0 na0 ca0] w fun e w' => ∃ v, e = .returned v ∧ R v w' :=
  funV_sound (fn := Try.f102) (AL := f102.AL) (AC := f102.AC) W2.mixed (by kernel_rfl) (by rw [← f102.eq Aa0 na0 ca0]; exact h)

/-- gatehouse/reach.Close[string] -/
def f103.AL : Nat → Option Ann := fun r => match r with | 6 => some ⟨[(8, .int .i64)], [1, 6, 7]⟩ | _ => none
def f103.AC : Nat → Option Ann := fun _ => none
def f103.VC (Aa0 : Option Addr) (na0 ca0 : Nat) (a1 : Nat) (cap1 : Array Value) (w : World) (R : Value → World → Prop) : Prop :=
  let b0 := World.alloc w (.map #[] 0);
  let d0 := World.alloc b0 (.cells #[.map none] 101);
  canStore d0 b0.heap.size 0 1 ∧
  let g0 := setCs d0 b0.heap.size 0 [.map (some w.heap.size)];
  let h0 := World.alloc g0 (.cells #[.slice none 0 0] 22);
  Calls Try.prog 107 #[.slice Aa0 na0 ca0, .pointer (some ⟨b0.heap.size, 0, none⟩), .pointer (some ⟨g0.heap.size, 0, none⟩)] h0 fun i0 j0 =>
  i0 = .returned (.tuple #[]) ∧
  ∃ k0 : Int → World → Nat → Prop,
  (∃ n, k0 0 j0 n) ∧
  ∀ p0 : Env, ∀ q0 t0 u0, k0 q0 t0 u0 →
  ∃ v0 : Bool, (∀ w', (do eqGuard .neq 168 (.tmp 14) (.const .nilFunc) (.func (.func a1) #[] cap1) .nilFunc; binOp .neq 168 (.func (.func a1) #[] cap1) .nilFunc : Sem Value).run Try.prog w' = .ok (.bool v0) w') ∧
  sel v0 (
  ∃ x0 y0 z0,
  t0.cell? ⟨g0.heap.size, 0, none⟩ = some (.slice x0 y0 z0) ∧
  sel (decide ((q0 : Int) < ((y0 : Int) : Int))) (
  ∃ b1 d1 g1,
  t0.cell? ⟨g0.heap.size, 0, none⟩ = some (.slice b1 d1 g1) ∧
  (0 : Int) ≤ q0 ∧ q0 < (d1 : Int) ∧
  needPtr b1 fun h1 i1 =>
  ∃ j1,
  t0.cell? ⟨h1, i1 + q0.toNat * 1, none⟩ = some (.string j1) ∧
  callT Try.prog (.func (.func a1) #[] cap1) #[.string j1] t0 fun k1 p1 =>
  ∃ q1 t1 u1,
  k1 = .returned (.slice q1 t1 u1) ∧
  Calls Try.prog 107 #[.slice q1 t1 u1, .pointer (some ⟨b0.heap.size, 0, none⟩), .pointer (some ⟨g0.heap.size, 0, none⟩)] p1 fun v1 x1 =>
  v1 = .returned (.tuple #[]) ∧
  let y1 : Int := IntKind.i64.wrap (q0 + 1);
  ([.func (.func a1) #[] cap1, .pointer (some ⟨g0.heap.size, 0, none⟩), .func (.func 107) #[] #[.pointer (some ⟨b0.heap.size, 0, none⟩), .pointer (some ⟨g0.heap.size, 0, none⟩)]] : List Value) = ([.func (.func a1) #[] cap1, .pointer (some ⟨g0.heap.size, 0, none⟩), .func (.func 107) #[] #[.pointer (some ⟨b0.heap.size, 0, none⟩), .pointer (some ⟨g0.heap.size, 0, none⟩)]] : List Value) ∧ ∃ m, m < u0 ∧ k0 y1 x1 m) (
  ∃ z1 b2 d2,
  t0.cell? ⟨g0.heap.size, 0, none⟩ = some (.slice z1 b2 d2) ∧
  R (.slice z1 b2 d2) t0)) (
  ∃ g2 h2 i2,
  t0.cell? ⟨g0.heap.size, 0, none⟩ = some (.slice g2 h2 i2) ∧
  R (.slice g2 h2 i2) t0)
theorem f103.eq (Aa0 : Option Addr) (na0 ca0 : Nat) (a1 : Nat) (cap1 : Array Value) (w : World) (R : Value → World → Prop) : f103.VC Aa0 na0 ca0 a1 cap1 w R = funV Try.prog Try.f103 f103.AL f103.AC #[.slice Aa0 na0 ca0, .func (.func a1) #[] cap1] w R := by kernel_rfl
theorem f103.calls {Aa0 : Option Addr} {na0 ca0 : Nat} {a1 : Nat} {cap1 : Array Value} {w : World} {R : Value → World → Prop} (h : f103.VC Aa0 na0 ca0 a1 cap1 w R) : Calls Try.prog 103 #[.slice Aa0 na0 ca0, .func (.func a1) #[] cap1] w fun e w' => ∃ v, e = .returned v ∧ R v w' :=
  funV_sound (fn := Try.f103) (AL := f103.AL) (AC := f103.AC) W2.mixed (by kernel_rfl) (by rw [← f103.eq Aa0 na0 ca0 a1 cap1]; exact h)

/-- gatehouse/reach.Up$1 -/
def f104.AL : Nat → Option Ann := fun _ => none
def f104.AC : Nat → Option Ann := fun _ => none
def f104.VC (sa0 : ByteArray) (a1 : Nat) (w : World) (R : Value → World → Prop) : Prop :=
  ∃ b0,
  w.cell? ⟨a1, 0, none⟩ = some (.map b0) ∧
  ∃ d0 g0 h0,
  ∃ i0, (Instr.lookup 165 (.map b0) (.string sa0) false).run Try.prog w = .ok (.slice d0 g0 h0) i0 ∧
  R (.slice d0 g0 h0) i0
theorem f104.eq (sa0 : ByteArray) (a1 : Nat) (w : World) (R : Value → World → Prop) : f104.VC sa0 a1 w R = funV Try.prog Try.f104 f104.AL f104.AC #[.string sa0, .pointer (some ⟨a1, 0, none⟩)] w R := by kernel_rfl
theorem f104.calls {sa0 : ByteArray} {a1 : Nat} {w : World} {R : Value → World → Prop} (h : f104.VC sa0 a1 w R) : Calls Try.prog 104 #[.string sa0, .pointer (some ⟨a1, 0, none⟩)] w fun e w' => ∃ v, e = .returned v ∧ R v w' :=
  funV_sound (fn := Try.f104) (AL := f104.AL) (AC := f104.AC) W2.mixed (by kernel_rfl) (by rw [← f104.eq sa0 a1]; exact h)

/-- slices.Grow[[]gatehouse/api.Pair,gatehouse/api.Pair] -/
def f105.AL : Nat → Option Ann := fun _ => none
def f105.AC : Nat → Option Ann := fun _ => none
def f105.VC (Aa0 : Option Addr) (na0 ca0 : Nat) (xa1 : Int) (w : World) (R : Value → World → Prop) : Prop :=
  sel (decide ((xa1 : Int) < (0 : Int))) (
  False) (
  ∃ b0,
  ∃ d0, (Builtin.cap_ #[24] 3 #[.slice Aa0 na0 ca0]).run Try.prog w = .ok (.int .i64 b0) d0 ∧
  let g0 : Int := IntKind.i64.wrap (b0 - (na0 : Int));
  let h0 : Int := IntKind.i64.wrap (xa1 - g0);
  sel (decide ((0 : Int) < (h0 : Int))) (
  ∃ i0,
  ∃ j0, (Builtin.cap_ #[24] 3 #[.slice Aa0 na0 ca0]).run Try.prog d0 = .ok (.int .i64 i0) j0 ∧
  (0 : Int) ≤ i0 ∧ i0 ≤ (ca0 : Int) ∧
  ∃ k0 p0 q0,
  ∃ t0, (Builtin.append_ #[24, 3] 24 #[.slice Aa0 i0.toNat ca0, .int .i64 h0]).run Try.prog j0 = .ok (.slice k0 p0 q0) t0 ∧
  (0 : Int) ≤ (na0 : Int) ∧ (na0 : Int) ≤ (q0 : Int) ∧
  R (.slice k0 (na0 : Int).toNat q0) t0) (
  R (.slice Aa0 na0 ca0) d0))
theorem f105.eq (Aa0 : Option Addr) (na0 ca0 : Nat) (xa1 : Int) (w : World) (R : Value → World → Prop) : f105.VC Aa0 na0 ca0 xa1 w R = funV Try.prog Try.f105 f105.AL f105.AC #[.slice Aa0 na0 ca0, .int .i64 xa1] w R := by kernel_rfl
theorem f105.calls {Aa0 : Option Addr} {na0 ca0 : Nat} {xa1 : Int} {w : World} {R : Value → World → Prop} (h : f105.VC Aa0 na0 ca0 xa1 w R) : Calls Try.prog 105 #[.slice Aa0 na0 ca0, .int .i64 xa1] w fun e w' => ∃ v, e = .returned v ∧ R v w' :=
  funV_sound (fn := Try.f105) (AL := f105.AL) (AC := f105.AC) W2.mixed (by kernel_rfl) (by rw [← f105.eq Aa0 na0 ca0 xa1]; exact h)

/-- gatehouse/reach.Close[string]$1 -/
def f107.AL : Nat → Option Ann := fun r => match r with | 1 => some ⟨[(10, .int .i64)], [1, 2, 8, 9]⟩ | _ => none
def f107.AC : Nat → Option Ann := fun _ => none
def f107.VC (Aa0 : Option Addr) (na0 ca0 : Nat) (a1 : Nat) (a2 : Nat) (w : World) (R : Value → World → Prop) : Prop :=
  ∃ b0 : Int → World → Nat → Prop,
  (∃ n, b0 0 w n) ∧
  ∀ d0 : Env, ∀ g0 h0 i0, b0 g0 h0 i0 →
  sel (decide ((g0 : Int) < ((na0 : Int) : Int))) (
  (0 : Int) ≤ g0 ∧ g0 < (na0 : Int) ∧
  needPtr Aa0 fun j0 k0 =>
  ∃ p0,
  h0.cell? ⟨j0, k0 + g0.toNat * 1, none⟩ = some (.string p0) ∧
  ∃ q0,
  h0.cell? ⟨a1, 0, none⟩ = some (.map q0) ∧
  ∃ t0,
  ∃ u0, (Instr.lookup 101 (.map q0) (.string p0) true).run Try.prog h0 = .ok (.tuple #[.agg #[], .bool t0]) u0 ∧
  let v0 := World.alloc u0 (.cells #[] 150);
  canStore v0 u0.heap.size 0 0 ∧
  let x0 := setCs v0 u0.heap.size 0 [];
  sel (!t0) (
  ∃ y0,
  x0.cell? ⟨a1, 0, none⟩ = some (.map y0) ∧
  ∃ z0, (Instr.mapUpdate 101 (.map y0) (.string p0) (.agg #[])).run Try.prog x0 = .ok () z0 ∧
  ∃ b1 d1 g1,
  z0.cell? ⟨a2, 0, none⟩ = some (.slice b1 d1 g1) ∧
  let h1 := World.alloc z0 (.cells #[.string p0] 9);
  ∃ i1 j1 k1,
  ∃ p1, (Builtin.append_ #[22, 22] 22 #[.slice b1 d1 g1, .slice (some ⟨z0.heap.size, 0, none⟩) 1 1]).run Try.prog h1 = .ok (.slice i1 j1 k1) p1 ∧
  canStore p1 a2 0 1 ∧
  let q1 := setCs p1 a2 0 [.slice i1 j1 k1];
  let t1 : Int := IntKind.i64.wrap (g0 + 1);
  ([.pointer (some ⟨a1, 0, none⟩), .pointer (some ⟨a2, 0, none⟩), .slice Aa0 na0 ca0, .int .i64 (na0 : Int)] : List Value) = ([.pointer (some ⟨a1, 0, none⟩), .pointer (some ⟨a2, 0, none⟩), .slice Aa0 na0 ca0, .int .i64 (na0 : Int)] : List Value) ∧ ∃ m, m < i0 ∧ b0 t1 q1 m) (
  let u1 : Int := IntKind.i64.wrap (g0 + 1);
  ([.pointer (some ⟨a1, 0, none⟩), .pointer (some ⟨a2, 0, none⟩), .slice Aa0 na0 ca0, .int .i64 (na0 : Int)] : List Value) = ([.pointer (some ⟨a1, 0, none⟩), .pointer (some ⟨a2, 0, none⟩), .slice Aa0 na0 ca0, .int .i64 (na0 : Int)] : List Value) ∧ ∃ m, m < i0 ∧ b0 u1 x0 m)) (
  R (.tuple #[]) h0)
theorem f107.eq (Aa0 : Option Addr) (na0 ca0 : Nat) (a1 : Nat) (a2 : Nat) (w : World) (R : Value → World → Prop) : f107.VC Aa0 na0 ca0 a1 a2 w R = funV Try.prog Try.f107 f107.AL f107.AC #[.slice Aa0 na0 ca0, .pointer (some ⟨a1, 0, none⟩), .pointer (some ⟨a2, 0, none⟩)] w R := by kernel_rfl
theorem f107.calls {Aa0 : Option Addr} {na0 ca0 : Nat} {a1 : Nat} {a2 : Nat} {w : World} {R : Value → World → Prop} (h : f107.VC Aa0 na0 ca0 a1 a2 w R) : Calls Try.prog 107 #[.slice Aa0 na0 ca0, .pointer (some ⟨a1, 0, none⟩), .pointer (some ⟨a2, 0, none⟩)] w fun e w' => ∃ v, e = .returned v ∧ R v w' :=
  funV_sound (fn := Try.f107) (AL := f107.AL) (AC := f107.AC) W2.mixed (by kernel_rfl) (by rw [← f107.eq Aa0 na0 ca0 a1 a2]; exact h)

/-- gatehouse/mean.Allows -/
def f19.AL : Nat → Option Ann := fun _ => none
def f19.AC : Nat → Option Ann := fun r => match r with | 1000003 => some ⟨[], []⟩ | _ => none
def f19.VC (Aa0_0 : Option Addr) (na0_0 ca0_0 : Nat) (Aa0_1 : Option Addr) (na0_1 ca0_1 : Nat) (Aa0_2 : Option Addr) (na0_2 ca0_2 : Nat) (Aa0_3 : Option Addr) (na0_3 ca0_3 : Nat) (Aa0_4 : Option Addr) (na0_4 ca0_4 : Nat) (Aa0_5 : Option Addr) (na0_5 ca0_5 : Nat) (Aa0_6 : Option Addr) (na0_6 ca0_6 : Nat) (Aa0_7 : Option Addr) (na0_7 ca0_7 : Nat) (Aa0_8 : Option Addr) (na0_8 ca0_8 : Nat) (Aa0_9 : Option Addr) (na0_9 ca0_9 : Nat) (Aa0_10 : Option Addr) (na0_10 ca0_10 : Nat) (sa1_0 : ByteArray) (sa1_1 : ByteArray) (sa1_2 : ByteArray) (w : World) (R : Value → World → Prop) : Prop :=
  let b0 := World.alloc w (.cells #[.slice Aa0_0 na0_0 ca0_0, .slice Aa0_1 na0_1 ca0_1, .slice Aa0_2 na0_2 ca0_2, .slice Aa0_3 na0_3 ca0_3, .slice Aa0_4 na0_4 ca0_4, .slice Aa0_5 na0_5 ca0_5, .slice Aa0_6 na0_6 ca0_6, .slice Aa0_7 na0_7 ca0_7, .slice Aa0_8 na0_8 ca0_8, .slice Aa0_9 na0_9 ca0_9, .slice Aa0_10 na0_10 ca0_10] 28);
  let d0 := World.alloc b0 (.cells #[.string sa1_0, .string sa1_1, .string sa1_2] 37);
  ∃ g0 h0 i0,
  d0.cell? ⟨w.heap.size, 0, none⟩ = some (.slice g0 h0 i0) ∧
  ∃ j0 k0 p0,
  d0.cell? ⟨w.heap.size, 1, none⟩ = some (.slice j0 k0 p0) ∧
  ∃ q0 t0 u0,
  d0.cell? ⟨w.heap.size, 2, none⟩ = some (.slice q0 t0 u0) ∧
  ∃ v0 x0 y0,
  d0.cell? ⟨w.heap.size, 3, none⟩ = some (.slice v0 x0 y0) ∧
  ∃ z0 b1 d1,
  d0.cell? ⟨w.heap.size, 4, none⟩ = some (.slice z0 b1 d1) ∧
  ∃ g1 h1 i1,
  d0.cell? ⟨w.heap.size, 5, none⟩ = some (.slice g1 h1 i1) ∧
  ∃ j1 k1 p1,
  d0.cell? ⟨w.heap.size, 6, none⟩ = some (.slice j1 k1 p1) ∧
  ∃ q1 t1 u1,
  d0.cell? ⟨w.heap.size, 7, none⟩ = some (.slice q1 t1 u1) ∧
  ∃ v1 x1 y1,
  d0.cell? ⟨w.heap.size, 8, none⟩ = some (.slice v1 x1 y1) ∧
  ∃ z1 b2 d2,
  d0.cell? ⟨w.heap.size, 9, none⟩ = some (.slice z1 b2 d2) ∧
  ∃ g2 h2 i2,
  d0.cell? ⟨w.heap.size, 10, none⟩ = some (.slice g2 h2 i2) ∧
  ∃ j2,
  d0.cell? ⟨b0.heap.size, 0, none⟩ = some (.string j2) ∧
  Calls Try.prog 39 #[.agg #[.slice g0 h0 i0, .slice j0 k0 p0, .slice q0 t0 u0, .slice v0 x0 y0, .slice z0 b1 d1, .slice g1 h1 i1, .slice j1 k1 p1, .slice q1 t1 u1, .slice v1 x1 y1, .slice z1 b2 d2, .slice g2 h2 i2], .string j2] d0 fun k2 p2 =>
  ∃ q2 t2 u2 v2,
  k2 = .returned (.tuple #[.agg #[.string q2, .float .f64 t2, .map u2], .bool v2]) ∧
  let x2 := World.alloc p2 (.cells #[.string ⟨#[]⟩, .float .f64 0, .map none] 103);
  canStore x2 p2.heap.size 0 3 ∧
  let y2 := setCs x2 p2.heap.size 0 [.string q2, .float .f64 t2, .map u2];
  ∃ z2 b3 d3,
  y2.cell? ⟨w.heap.size, 0, none⟩ = some (.slice z2 b3 d3) ∧
  ∃ g3 h3 i3,
  y2.cell? ⟨w.heap.size, 1, none⟩ = some (.slice g3 h3 i3) ∧
  ∃ j3 k3 p3,
  y2.cell? ⟨w.heap.size, 2, none⟩ = some (.slice j3 k3 p3) ∧
  ∃ q3 t3 u3,
  y2.cell? ⟨w.heap.size, 3, none⟩ = some (.slice q3 t3 u3) ∧
  ∃ v3 x3 y3,
  y2.cell? ⟨w.heap.size, 4, none⟩ = some (.slice v3 x3 y3) ∧
  ∃ z3 b4 d4,
  y2.cell? ⟨w.heap.size, 5, none⟩ = some (.slice z3 b4 d4) ∧
  ∃ g4 h4 i4,
  y2.cell? ⟨w.heap.size, 6, none⟩ = some (.slice g4 h4 i4) ∧
  ∃ j4 k4 p4,
  y2.cell? ⟨w.heap.size, 7, none⟩ = some (.slice j4 k4 p4) ∧
  ∃ q4 t4 u4,
  y2.cell? ⟨w.heap.size, 8, none⟩ = some (.slice q4 t4 u4) ∧
  ∃ v4 x4 y4,
  y2.cell? ⟨w.heap.size, 9, none⟩ = some (.slice v4 x4 y4) ∧
  ∃ z4 b5 d5,
  y2.cell? ⟨w.heap.size, 10, none⟩ = some (.slice z4 b5 d5) ∧
  ∃ g5,
  y2.cell? ⟨b0.heap.size, 1, none⟩ = some (.string g5) ∧
  Calls Try.prog 40 #[.agg #[.slice z2 b3 d3, .slice g3 h3 i3, .slice j3 k3 p3, .slice q3 t3 u3, .slice v3 x3 y3, .slice z3 b4 d4, .slice g4 h4 i4, .slice j4 k4 p4, .slice q4 t4 u4, .slice v4 x4 y4, .slice z4 b5 d5], .string g5] y2 fun h5 i5 =>
  ∃ j5 k5 p5 q5,
  h5 = .returned (.tuple #[.agg #[.string j5, .float .f64 k5, .map p5], .bool q5]) ∧
  let t5 := World.alloc i5 (.cells #[.string ⟨#[]⟩, .float .f64 0, .map none] 103);
  canStore t5 i5.heap.size 0 3 ∧
  let u5 := setCs t5 i5.heap.size 0 [.string j5, .float .f64 k5, .map p5];
  sel v2 (
  sel q5 (
  ∃ v5 x5 y5,
  u5.cell? ⟨w.heap.size, 0, none⟩ = some (.slice v5 x5 y5) ∧
  ∃ z5,
  u5.cell? ⟨b0.heap.size, 2, none⟩ = some (.string z5) ∧
  Calls Try.prog 41 #[.slice v5 x5 y5, .string z5] u5.drew fun b6 d6 =>
  ∃ g6,
  b6 = .returned (.bool g6) ∧
  (d6.cell? ⟨b0.heap.size, 2, none⟩ = some (.string z5) ∧ d6.cell? ⟨w.heap.size, 0, none⟩ = some (.slice v5 x5 y5) ∧ True) ∧
  sel g6 (
  ∃ h6 i6 j6,
  d6.cell? ⟨w.heap.size, 0, none⟩ = some (.slice h6 i6 j6) ∧
  ∃ k6 p6 q6,
  d6.cell? ⟨w.heap.size, 1, none⟩ = some (.slice k6 p6 q6) ∧
  ∃ t6 u6 v6,
  d6.cell? ⟨w.heap.size, 2, none⟩ = some (.slice t6 u6 v6) ∧
  ∃ x6 y6 z6,
  d6.cell? ⟨w.heap.size, 3, none⟩ = some (.slice x6 y6 z6) ∧
  ∃ b7 d7 g7,
  d6.cell? ⟨w.heap.size, 4, none⟩ = some (.slice b7 d7 g7) ∧
  ∃ h7 i7 j7,
  d6.cell? ⟨w.heap.size, 5, none⟩ = some (.slice h7 i7 j7) ∧
  ∃ k7 p7 q7,
  d6.cell? ⟨w.heap.size, 6, none⟩ = some (.slice k7 p7 q7) ∧
  ∃ t7 u7 v7,
  d6.cell? ⟨w.heap.size, 7, none⟩ = some (.slice t7 u7 v7) ∧
  ∃ x7 y7 z7,
  d6.cell? ⟨w.heap.size, 8, none⟩ = some (.slice x7 y7 z7) ∧
  ∃ b8 d8 g8,
  d6.cell? ⟨w.heap.size, 9, none⟩ = some (.slice b8 d8 g8) ∧
  ∃ h8 i8 j8,
  d6.cell? ⟨w.heap.size, 10, none⟩ = some (.slice h8 i8 j8) ∧
  ∃ k8 p8 q8,
  d6.cell? ⟨w.heap.size, 0, none⟩ = some (.slice k8 p8 q8) ∧
  ∃ t8 u8 v8,
  d6.cell? ⟨w.heap.size, 1, none⟩ = some (.slice t8 u8 v8) ∧
  ∃ x8 y8 z8,
  d6.cell? ⟨w.heap.size, 2, none⟩ = some (.slice x8 y8 z8) ∧
  ∃ b9 d9 g9,
  d6.cell? ⟨w.heap.size, 3, none⟩ = some (.slice b9 d9 g9) ∧
  ∃ h9 i9 j9,
  d6.cell? ⟨w.heap.size, 4, none⟩ = some (.slice h9 i9 j9) ∧
  ∃ k9 p9 q9,
  d6.cell? ⟨w.heap.size, 5, none⟩ = some (.slice k9 p9 q9) ∧
  ∃ t9 u9 v9,
  d6.cell? ⟨w.heap.size, 6, none⟩ = some (.slice t9 u9 v9) ∧
  ∃ x9 y9 z9,
  d6.cell? ⟨w.heap.size, 7, none⟩ = some (.slice x9 y9 z9) ∧
  ∃ bA dA gA,
  d6.cell? ⟨w.heap.size, 8, none⟩ = some (.slice bA dA gA) ∧
  ∃ hA iA jA,
  d6.cell? ⟨w.heap.size, 9, none⟩ = some (.slice hA iA jA) ∧
  ∃ kA pA qA,
  d6.cell? ⟨w.heap.size, 10, none⟩ = some (.slice kA pA qA) ∧
  ∃ tA,
  d6.cell? ⟨p2.heap.size, 0, none⟩ = some (.string tA) ∧
  ∃ uA,
  d6.cell? ⟨p2.heap.size, 1, none⟩ = some (.float .f64 uA) ∧
  ∃ vA,
  d6.cell? ⟨p2.heap.size, 2, none⟩ = some (.map vA) ∧
  ∃ xA,
  d6.cell? ⟨i5.heap.size, 0, none⟩ = some (.string xA) ∧
  ∃ yA,
  d6.cell? ⟨i5.heap.size, 1, none⟩ = some (.float .f64 yA) ∧
  ∃ zA,
  d6.cell? ⟨i5.heap.size, 2, none⟩ = some (.map zA) ∧
  ∃ bB,
  d6.cell? ⟨b0.heap.size, 0, none⟩ = some (.string bB) ∧
  ∃ dB,
  d6.cell? ⟨b0.heap.size, 1, none⟩ = some (.string dB) ∧
  ∃ gB,
  d6.cell? ⟨b0.heap.size, 2, none⟩ = some (.string gB) ∧
  Calls Try.prog 43 #[.agg #[.slice k8 p8 q8, .slice t8 u8 v8, .slice x8 y8 z8, .slice b9 d9 g9, .slice h9 i9 j9, .slice k9 p9 q9, .slice t9 u9 v9, .slice x9 y9 z9, .slice bA dA gA, .slice hA iA jA, .slice kA pA qA], .agg #[.string tA, .float .f64 uA, .map vA], .agg #[.string xA, .float .f64 yA, .map zA]] d6 fun hB iB =>
  ∃ jB kB pB,
  hB = .returned (.slice jB kB pB) ∧
  ((iB.cell? ⟨b0.heap.size, 0, none⟩ = some (.string bB) ∧ iB.cell? ⟨b0.heap.size, 1, none⟩ = some (.string dB) ∧ iB.cell? ⟨b0.heap.size, 2, none⟩ = some (.string gB) ∧ True) ∧ (iB.cell? ⟨i5.heap.size, 0, none⟩ = some (.string xA) ∧ iB.cell? ⟨i5.heap.size, 1, none⟩ = some (.float .f64 yA) ∧ iB.cell? ⟨i5.heap.size, 2, none⟩ = some (.map zA) ∧ True) ∧ (iB.cell? ⟨p2.heap.size, 0, none⟩ = some (.string tA) ∧ iB.cell? ⟨p2.heap.size, 1, none⟩ = some (.float .f64 uA) ∧ iB.cell? ⟨p2.heap.size, 2, none⟩ = some (.map vA) ∧ True) ∧ (iB.cell? ⟨w.heap.size, 0, none⟩ = some (.slice k8 p8 q8) ∧ iB.cell? ⟨w.heap.size, 1, none⟩ = some (.slice t8 u8 v8) ∧ iB.cell? ⟨w.heap.size, 2, none⟩ = some (.slice x8 y8 z8) ∧ iB.cell? ⟨w.heap.size, 3, none⟩ = some (.slice b9 d9 g9) ∧ iB.cell? ⟨w.heap.size, 4, none⟩ = some (.slice h9 i9 j9) ∧ iB.cell? ⟨w.heap.size, 5, none⟩ = some (.slice k9 p9 q9) ∧ iB.cell? ⟨w.heap.size, 6, none⟩ = some (.slice t9 u9 v9) ∧ iB.cell? ⟨w.heap.size, 7, none⟩ = some (.slice x9 y9 z9) ∧ iB.cell? ⟨w.heap.size, 8, none⟩ = some (.slice bA dA gA) ∧ iB.cell? ⟨w.heap.size, 9, none⟩ = some (.slice hA iA jA) ∧ iB.cell? ⟨w.heap.size, 10, none⟩ = some (.slice kA pA qA) ∧ True) ∧ (iB.cell? ⟨w.heap.size, 0, none⟩ = some (.slice h6 i6 j6) ∧ iB.cell? ⟨w.heap.size, 1, none⟩ = some (.slice k6 p6 q6) ∧ iB.cell? ⟨w.heap.size, 2, none⟩ = some (.slice t6 u6 v6) ∧ iB.cell? ⟨w.heap.size, 3, none⟩ = some (.slice x6 y6 z6) ∧ iB.cell? ⟨w.heap.size, 4, none⟩ = some (.slice b7 d7 g7) ∧ iB.cell? ⟨w.heap.size, 5, none⟩ = some (.slice h7 i7 j7) ∧ iB.cell? ⟨w.heap.size, 6, none⟩ = some (.slice k7 p7 q7) ∧ iB.cell? ⟨w.heap.size, 7, none⟩ = some (.slice t7 u7 v7) ∧ iB.cell? ⟨w.heap.size, 8, none⟩ = some (.slice x7 y7 z7) ∧ iB.cell? ⟨w.heap.size, 9, none⟩ = some (.slice b8 d8 g8) ∧ iB.cell? ⟨w.heap.size, 10, none⟩ = some (.slice h8 i8 j8) ∧ True) ∧ iB.cell? ⟨b0.heap.size, 2, none⟩ = some (.string z5) ∧ iB.cell? ⟨w.heap.size, 0, none⟩ = some (.slice v5 x5 y5) ∧ True) ∧
  Calls Try.prog 42 #[.agg #[.slice h6 i6 j6, .slice k6 p6 q6, .slice t6 u6 v6, .slice x6 y6 z6, .slice b7 d7 g7, .slice h7 i7 j7, .slice k7 p7 q7, .slice t7 u7 v7, .slice x7 y7 z7, .slice b8 d8 g8, .slice h8 i8 j8], .slice jB kB pB, .agg #[.string bB, .string dB, .string gB]] iB fun qB tB =>
  ∃ uB,
  qB = .returned (.bool uB) ∧
  ((tB.cell? ⟨b0.heap.size, 0, none⟩ = some (.string bB) ∧ tB.cell? ⟨b0.heap.size, 1, none⟩ = some (.string dB) ∧ tB.cell? ⟨b0.heap.size, 2, none⟩ = some (.string gB) ∧ True) ∧ (tB.cell? ⟨i5.heap.size, 0, none⟩ = some (.string xA) ∧ tB.cell? ⟨i5.heap.size, 1, none⟩ = some (.float .f64 yA) ∧ tB.cell? ⟨i5.heap.size, 2, none⟩ = some (.map zA) ∧ True) ∧ (tB.cell? ⟨p2.heap.size, 0, none⟩ = some (.string tA) ∧ tB.cell? ⟨p2.heap.size, 1, none⟩ = some (.float .f64 uA) ∧ tB.cell? ⟨p2.heap.size, 2, none⟩ = some (.map vA) ∧ True) ∧ (tB.cell? ⟨w.heap.size, 0, none⟩ = some (.slice k8 p8 q8) ∧ tB.cell? ⟨w.heap.size, 1, none⟩ = some (.slice t8 u8 v8) ∧ tB.cell? ⟨w.heap.size, 2, none⟩ = some (.slice x8 y8 z8) ∧ tB.cell? ⟨w.heap.size, 3, none⟩ = some (.slice b9 d9 g9) ∧ tB.cell? ⟨w.heap.size, 4, none⟩ = some (.slice h9 i9 j9) ∧ tB.cell? ⟨w.heap.size, 5, none⟩ = some (.slice k9 p9 q9) ∧ tB.cell? ⟨w.heap.size, 6, none⟩ = some (.slice t9 u9 v9) ∧ tB.cell? ⟨w.heap.size, 7, none⟩ = some (.slice x9 y9 z9) ∧ tB.cell? ⟨w.heap.size, 8, none⟩ = some (.slice bA dA gA) ∧ tB.cell? ⟨w.heap.size, 9, none⟩ = some (.slice hA iA jA) ∧ tB.cell? ⟨w.heap.size, 10, none⟩ = some (.slice kA pA qA) ∧ True) ∧ (tB.cell? ⟨w.heap.size, 0, none⟩ = some (.slice h6 i6 j6) ∧ tB.cell? ⟨w.heap.size, 1, none⟩ = some (.slice k6 p6 q6) ∧ tB.cell? ⟨w.heap.size, 2, none⟩ = some (.slice t6 u6 v6) ∧ tB.cell? ⟨w.heap.size, 3, none⟩ = some (.slice x6 y6 z6) ∧ tB.cell? ⟨w.heap.size, 4, none⟩ = some (.slice b7 d7 g7) ∧ tB.cell? ⟨w.heap.size, 5, none⟩ = some (.slice h7 i7 j7) ∧ tB.cell? ⟨w.heap.size, 6, none⟩ = some (.slice k7 p7 q7) ∧ tB.cell? ⟨w.heap.size, 7, none⟩ = some (.slice t7 u7 v7) ∧ tB.cell? ⟨w.heap.size, 8, none⟩ = some (.slice x7 y7 z7) ∧ tB.cell? ⟨w.heap.size, 9, none⟩ = some (.slice b8 d8 g8) ∧ tB.cell? ⟨w.heap.size, 10, none⟩ = some (.slice h8 i8 j8) ∧ True) ∧ tB.cell? ⟨b0.heap.size, 2, none⟩ = some (.string z5) ∧ tB.cell? ⟨w.heap.size, 0, none⟩ = some (.slice v5 x5 y5) ∧ True) ∧
  R (.bool uB) tB) (
  R (.bool false) d6)) (
  R (.bool false) u5.drew)) (
  R (.bool false) u5.drew)
theorem f19.eq (Aa0_0 : Option Addr) (na0_0 ca0_0 : Nat) (Aa0_1 : Option Addr) (na0_1 ca0_1 : Nat) (Aa0_2 : Option Addr) (na0_2 ca0_2 : Nat) (Aa0_3 : Option Addr) (na0_3 ca0_3 : Nat) (Aa0_4 : Option Addr) (na0_4 ca0_4 : Nat) (Aa0_5 : Option Addr) (na0_5 ca0_5 : Nat) (Aa0_6 : Option Addr) (na0_6 ca0_6 : Nat) (Aa0_7 : Option Addr) (na0_7 ca0_7 : Nat) (Aa0_8 : Option Addr) (na0_8 ca0_8 : Nat) (Aa0_9 : Option Addr) (na0_9 ca0_9 : Nat) (Aa0_10 : Option Addr) (na0_10 ca0_10 : Nat) (sa1_0 : ByteArray) (sa1_1 : ByteArray) (sa1_2 : ByteArray) (w : World) (R : Value → World → Prop) : f19.VC Aa0_0 na0_0 ca0_0 Aa0_1 na0_1 ca0_1 Aa0_2 na0_2 ca0_2 Aa0_3 na0_3 ca0_3 Aa0_4 na0_4 ca0_4 Aa0_5 na0_5 ca0_5 Aa0_6 na0_6 ca0_6 Aa0_7 na0_7 ca0_7 Aa0_8 na0_8 ca0_8 Aa0_9 na0_9 ca0_9 Aa0_10 na0_10 ca0_10 sa1_0 sa1_1 sa1_2 w R = funV Try.prog Try.f19 f19.AL f19.AC #[.agg #[.slice Aa0_0 na0_0 ca0_0, .slice Aa0_1 na0_1 ca0_1, .slice Aa0_2 na0_2 ca0_2, .slice Aa0_3 na0_3 ca0_3, .slice Aa0_4 na0_4 ca0_4, .slice Aa0_5 na0_5 ca0_5, .slice Aa0_6 na0_6 ca0_6, .slice Aa0_7 na0_7 ca0_7, .slice Aa0_8 na0_8 ca0_8, .slice Aa0_9 na0_9 ca0_9, .slice Aa0_10 na0_10 ca0_10], .agg #[.string sa1_0, .string sa1_1, .string sa1_2]] w R := by kernel_rfl
theorem f19.calls {Aa0_0 : Option Addr} {na0_0 ca0_0 : Nat} {Aa0_1 : Option Addr} {na0_1 ca0_1 : Nat} {Aa0_2 : Option Addr} {na0_2 ca0_2 : Nat} {Aa0_3 : Option Addr} {na0_3 ca0_3 : Nat} {Aa0_4 : Option Addr} {na0_4 ca0_4 : Nat} {Aa0_5 : Option Addr} {na0_5 ca0_5 : Nat} {Aa0_6 : Option Addr} {na0_6 ca0_6 : Nat} {Aa0_7 : Option Addr} {na0_7 ca0_7 : Nat} {Aa0_8 : Option Addr} {na0_8 ca0_8 : Nat} {Aa0_9 : Option Addr} {na0_9 ca0_9 : Nat} {Aa0_10 : Option Addr} {na0_10 ca0_10 : Nat} {sa1_0 : ByteArray} {sa1_1 : ByteArray} {sa1_2 : ByteArray} {w : World} {R : Value → World → Prop} (h : f19.VC Aa0_0 na0_0 ca0_0 Aa0_1 na0_1 ca0_1 Aa0_2 na0_2 ca0_2 Aa0_3 na0_3 ca0_3 Aa0_4 na0_4 ca0_4 Aa0_5 na0_5 ca0_5 Aa0_6 na0_6 ca0_6 Aa0_7 na0_7 ca0_7 Aa0_8 na0_8 ca0_8 Aa0_9 na0_9 ca0_9 Aa0_10 na0_10 ca0_10 sa1_0 sa1_1 sa1_2 w R) : Calls Try.prog 19 #[.agg #[.slice Aa0_0 na0_0 ca0_0, .slice Aa0_1 na0_1 ca0_1, .slice Aa0_2 na0_2 ca0_2, .slice Aa0_3 na0_3 ca0_3, .slice Aa0_4 na0_4 ca0_4, .slice Aa0_5 na0_5 ca0_5, .slice Aa0_6 na0_6 ca0_6, .slice Aa0_7 na0_7 ca0_7, .slice Aa0_8 na0_8 ca0_8, .slice Aa0_9 na0_9 ca0_9, .slice Aa0_10 na0_10 ca0_10], .agg #[.string sa1_0, .string sa1_1, .string sa1_2]] w fun e w' => ∃ v, e = .returned v ∧ R v w' :=
  funV_sound (fn := Try.f19) (AL := f19.AL) (AC := f19.AC) W2.mixed (by kernel_rfl) (by rw [← f19.eq Aa0_0 na0_0 ca0_0 Aa0_1 na0_1 ca0_1 Aa0_2 na0_2 ca0_2 Aa0_3 na0_3 ca0_3 Aa0_4 na0_4 ca0_4 Aa0_5 na0_5 ca0_5 Aa0_6 na0_6 ca0_6 Aa0_7 na0_7 ca0_7 Aa0_8 na0_8 ca0_8 Aa0_9 na0_9 ca0_9 Aa0_10 na0_10 ca0_10 sa1_0 sa1_1 sa1_2]; exact h)

end Go.Proofs.Ytddbebhklmaeoaa
