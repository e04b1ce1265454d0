/- The plain statements of some functions, printed by vcgen.py. -/
import Derived.Test.YtddbebhklmaeoaaM5
import Derived.Test.YtddbebhklmaeoaaProg
import Derived.KernelRfl
set_option maxRecDepth 100000
set_option maxHeartbeats 4000000
set_option linter.unusedVariables false
namespace Go.Proofs.Ytddbebhklmaeoaa
open Go Go.Proofs.Ytddbebhklmaeoaa.Vc
theorem W6.mixed : Try.prog.follows .mixedOrders = true := by kernel_rfl
/-- gatehouse/judge.Breach -/
def f25.AL : Nat → Option Ann := fun r => match r with | 2 => some ⟨[(18, .int .i64)], [17]⟩ | _ => none
def f25.AC : Nat → Option Ann := fun _ => none
def f25.VC (Aa0 : Option Addr) (na0 ca0 : Nat) (xa1_0 : Int) (Aa1_1 : Option Addr) (na1_1 ca1_1 : Nat) (Aa1_2 : Option Addr) (na1_2 ca1_2 : Nat) (Aa1_3 : Option Addr) (na1_3 ca1_3 : Nat) (Aa1_4 : Option Addr) (na1_4 ca1_4 : Nat) (Aa1_5 : Option Addr) (na1_5 ca1_5 : Nat) (Aa1_6 : Option Addr) (na1_6 ca1_6 : Nat) (Aa1_7 : Option Addr) (na1_7 ca1_7 : Nat) (sa1_8 : ByteArray) (xa1_9 : Int) (w : World) (R : Value → World → Prop) : Prop :=
  let b0 := World.alloc w (.cells #[.slice Aa0 na0 ca0] 72);
  let d0 := World.alloc b0 (.cells #[.int .i64 xa1_0, .slice Aa1_1 na1_1 ca1_1, .slice Aa1_2 na1_2 ca1_2, .slice Aa1_3 na1_3 ca1_3, .slice Aa1_4 na1_4 ca1_4, .slice Aa1_5 na1_5 ca1_5, .slice Aa1_6 na1_6 ca1_6, .slice Aa1_7 na1_7 ca1_7, .string sa1_8, .int .i64 xa1_9] 67);
  ∃ g0 : Int → World → Nat → Prop,
  (∃ n, g0 0 d0 n) ∧
  ∀ h0 : Env, ∀ i0 j0 k0, g0 i0 j0 k0 →
  sel (decide ((i0 : Int) < (5 : Int))) (
  ∃ p0 q0 t0 u0,
  (∀ w', (Instr.index 115 (.agg #[.int .i8 1, .func (.func 44) #[] #[.pointer (some ⟨w.heap.size, 0, none⟩), .pointer (some ⟨b0.heap.size, 0, none⟩)], .int .i8 2, .func (.func 46) #[] #[.pointer (some ⟨w.heap.size, 0, none⟩), .pointer (some ⟨b0.heap.size, 0, none⟩)], .int .i8 3, .func (.func 48) #[] #[.pointer (some ⟨b0.heap.size, 0, none⟩)], .int .i8 4, .func (.func 50) #[] #[.pointer (some ⟨b0.heap.size, 0, none⟩)], .int .i8 5, .func (.func 52) #[] #[.pointer (some ⟨b0.heap.size, 0, none⟩)]]) (.int .i64 i0)).run Try.prog w' = .ok (.agg #[.int .i8 p0, .func (.func q0) t0 u0]) w') ∧
  let v0 := World.alloc j0 (.cells #[.int .i8 0, .nilFunc] 113);
  canStore v0 j0.heap.size 0 2 ∧
  let x0 := setCs v0 j0.heap.size 0 [.int .i8 p0, .func (.func q0) t0 u0];
  ∃ y0 z0 b1,
  x0.cell? ⟨j0.heap.size, 1, none⟩ = some (.func (.func y0) z0 b1) ∧
  callT Try.prog (.func (.func y0) z0 b1) #[] x0 fun d1 g1 =>
  ∃ h1,
  d1 = .returned (.bool h1) ∧
  sel (!h1) (
  ∃ i1,
  g1.cell? ⟨j0.heap.size, 0, none⟩ = some (.int .i8 i1) ∧
  R (.int .i8 i1) g1) (
  let j1 : Int := IntKind.i64.wrap (i0 + 1);
  ([.agg #[.int .i8 1, .func (.func 44) #[] #[.pointer (some ⟨w.heap.size, 0, none⟩), .pointer (some ⟨b0.heap.size, 0, none⟩)], .int .i8 2, .func (.func 46) #[] #[.pointer (some ⟨w.heap.size, 0, none⟩), .pointer (some ⟨b0.heap.size, 0, none⟩)], .int .i8 3, .func (.func 48) #[] #[.pointer (some ⟨b0.heap.size, 0, none⟩)], .int .i8 4, .func (.func 50) #[] #[.pointer (some ⟨b0.heap.size, 0, none⟩)], .int .i8 5, .func (.func 52) #[] #[.pointer (some ⟨b0.heap.size, 0, none⟩)]]] : List Value) = ([.agg #[.int .i8 1, .func (.func 44) #[] #[.pointer (some ⟨w.heap.size, 0, none⟩), .pointer (some ⟨b0.heap.size, 0, none⟩)], .int .i8 2, .func (.func 46) #[] #[.pointer (some ⟨w.heap.size, 0, none⟩), .pointer (some ⟨b0.heap.size, 0, none⟩)], .int .i8 3, .func (.func 48) #[] #[.pointer (some ⟨b0.heap.size, 0, none⟩)], .int .i8 4, .func (.func 50) #[] #[.pointer (some ⟨b0.heap.size, 0, none⟩)], .int .i8 5, .func (.func 52) #[] #[.pointer (some ⟨b0.heap.size, 0, none⟩)]]] : List Value) ∧ ∃ m, m < k0 ∧ g0 j1 g1 m)) (
  R (.int .i8 0) j0)
theorem f25.eq (Aa0 : Option Addr) (na0 ca0 : Nat) (xa1_0 : Int) (Aa1_1 : Option Addr) (na1_1 ca1_1 : Nat) (Aa1_2 : Option Addr) (na1_2 ca1_2 : Nat) (Aa1_3 : Option Addr) (na1_3 ca1_3 : Nat) (Aa1_4 : Option Addr) (na1_4 ca1_4 : Nat) (Aa1_5 : Option Addr) (na1_5 ca1_5 : Nat) (Aa1_6 : Option Addr) (na1_6 ca1_6 : Nat) (Aa1_7 : Option Addr) (na1_7 ca1_7 : Nat) (sa1_8 : ByteArray) (xa1_9 : Int) (w : World) (R : Value → World → Prop) : f25.VC Aa0 na0 ca0 xa1_0 Aa1_1 na1_1 ca1_1 Aa1_2 na1_2 ca1_2 Aa1_3 na1_3 ca1_3 Aa1_4 na1_4 ca1_4 Aa1_5 na1_5 ca1_5 Aa1_6 na1_6 ca1_6 Aa1_7 na1_7 ca1_7 sa1_8 xa1_9 w R = funV Try.prog Try.f25 f25.AL f25.AC #[.slice Aa0 na0 ca0, .agg #[.int .i64 xa1_0, .slice Aa1_1 na1_1 ca1_1, .slice Aa1_2 na1_2 ca1_2, .slice Aa1_3 na1_3 ca1_3, .slice Aa1_4 na1_4 ca1_4, .slice Aa1_5 na1_5 ca1_5, .slice Aa1_6 na1_6 ca1_6, .slice Aa1_7 na1_7 ca1_7, .string sa1_8, .int .i64 xa1_9]] w R := by kernel_rfl
theorem f25.calls {Aa0 : Option Addr} {na0 ca0 : Nat} {xa1_0 : Int} {Aa1_1 : Option Addr} {na1_1 ca1_1 : Nat} {Aa1_2 : Option Addr} {na1_2 ca1_2 : Nat} {Aa1_3 : Option Addr} {na1_3 ca1_3 : Nat} {Aa1_4 : Option Addr} {na1_4 ca1_4 : Nat} {Aa1_5 : Option Addr} {na1_5 ca1_5 : Nat} {Aa1_6 : Option Addr} {na1_6 ca1_6 : Nat} {Aa1_7 : Option Addr} {na1_7 ca1_7 : Nat} {sa1_8 : ByteArray} {xa1_9 : Int} {w : World} {R : Value → World → Prop} (h : f25.VC Aa0 na0 ca0 xa1_0 Aa1_1 na1_1 ca1_1 Aa1_2 na1_2 ca1_2 Aa1_3 na1_3 ca1_3 Aa1_4 na1_4 ca1_4 Aa1_5 na1_5 ca1_5 Aa1_6 na1_6 ca1_6 Aa1_7 na1_7 ca1_7 sa1_8 xa1_9 w R) : Calls Try.prog 25 #[.slice Aa0 na0 ca0, .agg #[.int .i64 xa1_0, .slice Aa1_1 na1_1 ca1_1, .slice Aa1_2 na1_2 ca1_2, .slice Aa1_3 na1_3 ca1_3, .slice Aa1_4 na1_4 ca1_4, .slice Aa1_5 na1_5 ca1_5, .slice Aa1_6 na1_6 ca1_6, .slice Aa1_7 na1_7 ca1_7, .string sa1_8, .int .i64 xa1_9]] w fun e w' => ∃ v, e = .returned v ∧ R v w' :=
  funV_sound (fn := Try.f25) (AL := f25.AL) (AC := f25.AC) W6.mixed (by kernel_rfl) (by rw [← f25.eq Aa0 na0 ca0 xa1_0 Aa1_1 na1_1 ca1_1 Aa1_2 na1_2 ca1_2 Aa1_3 na1_3 ca1_3 Aa1_4 na1_4 ca1_4 Aa1_5 na1_5 ca1_5 Aa1_6 na1_6 ca1_6 Aa1_7 na1_7 ca1_7 sa1_8 xa1_9]; exact h)

/-- gatehouse/judge.Breach$1 -/
def f44.AL : Nat → Option Ann := fun _ => none
def f44.AC : Nat → Option Ann := fun _ => none
def f44.VC (a0 : Nat) (a1 : Nat) (w : World) (R : Value → World → Prop) : Prop :=
  ∃ b0 d0 g0,
  w.cell? ⟨a0, 0, none⟩ = some (.slice b0 d0 g0) ∧
  ∃ h0,
  w.cell? ⟨a1, 0, none⟩ = some (.int .i64 h0) ∧
  ∃ i0 j0 k0,
  w.cell? ⟨a1, 1, none⟩ = some (.slice i0 j0 k0) ∧
  ∃ p0 q0 t0,
  w.cell? ⟨a1, 2, none⟩ = some (.slice p0 q0 t0) ∧
  ∃ u0 v0 x0,
  w.cell? ⟨a1, 3, none⟩ = some (.slice u0 v0 x0) ∧
  ∃ y0 z0 b1,
  w.cell? ⟨a1, 4, none⟩ = some (.slice y0 z0 b1) ∧
  ∃ d1 g1 h1,
  w.cell? ⟨a1, 5, none⟩ = some (.slice d1 g1 h1) ∧
  ∃ i1 j1 k1,
  w.cell? ⟨a1, 6, none⟩ = some (.slice i1 j1 k1) ∧
  ∃ p1 q1 t1,
  w.cell? ⟨a1, 7, none⟩ = some (.slice p1 q1 t1) ∧
  ∃ u1,
  w.cell? ⟨a1, 8, none⟩ = some (.string u1) ∧
  ∃ v1,
  w.cell? ⟨a1, 9, none⟩ = some (.int .i64 v1) ∧
  Calls Try.prog 45 #[.slice b0 d0 g0, .agg #[.int .i64 h0, .slice i0 j0 k0, .slice p0 q0 t0, .slice u0 v0 x0, .slice y0 z0 b1, .slice d1 g1 h1, .slice i1 j1 k1, .slice p1 q1 t1, .string u1, .int .i64 v1]] w fun x1 y1 =>
  ∃ z1,
  x1 = .returned (.bool z1) ∧
  R (.bool z1) y1
theorem f44.eq (a0 : Nat) (a1 : Nat) (w : World) (R : Value → World → Prop) : f44.VC a0 a1 w R = funV Try.prog Try.f44 f44.AL f44.AC #[.pointer (some ⟨a0, 0, none⟩), .pointer (some ⟨a1, 0, none⟩)] w R := by kernel_rfl
theorem f44.calls {a0 : Nat} {a1 : Nat} {w : World} {R : Value → World → Prop} (h : f44.VC a0 a1 w R) : Calls Try.prog 44 #[.pointer (some ⟨a0, 0, none⟩), .pointer (some ⟨a1, 0, none⟩)] w fun e w' => ∃ v, e = .returned v ∧ R v w' :=
  funV_sound (fn := Try.f44) (AL := f44.AL) (AC := f44.AC) W6.mixed (by kernel_rfl) (by rw [← f44.eq a0 a1]; exact h)

/-- gatehouse/judge.Breach$2 -/
def f46.AL : Nat → Option Ann := fun _ => none
def f46.AC : Nat → Option Ann := fun _ => none
def f46.VC (a0 : Nat) (a1 : Nat) (w : World) (R : Value → World → Prop) : Prop :=
  ∃ b0 d0 g0,
  w.cell? ⟨a0, 0, none⟩ = some (.slice b0 d0 g0) ∧
  ∃ h0,
  w.cell? ⟨a1, 0, none⟩ = some (.int .i64 h0) ∧
  ∃ i0 j0 k0,
  w.cell? ⟨a1, 1, none⟩ = some (.slice i0 j0 k0) ∧
  ∃ p0 q0 t0,
  w.cell? ⟨a1, 2, none⟩ = some (.slice p0 q0 t0) ∧
  ∃ u0 v0 x0,
  w.cell? ⟨a1, 3, none⟩ = some (.slice u0 v0 x0) ∧
  ∃ y0 z0 b1,
  w.cell? ⟨a1, 4, none⟩ = some (.slice y0 z0 b1) ∧
  ∃ d1 g1 h1,
  w.cell? ⟨a1, 5, none⟩ = some (.slice d1 g1 h1) ∧
  ∃ i1 j1 k1,
  w.cell? ⟨a1, 6, none⟩ = some (.slice i1 j1 k1) ∧
  ∃ p1 q1 t1,
  w.cell? ⟨a1, 7, none⟩ = some (.slice p1 q1 t1) ∧
  ∃ u1,
  w.cell? ⟨a1, 8, none⟩ = some (.string u1) ∧
  ∃ v1,
  w.cell? ⟨a1, 9, none⟩ = some (.int .i64 v1) ∧
  Calls Try.prog 47 #[.slice b0 d0 g0, .agg #[.int .i64 h0, .slice i0 j0 k0, .slice p0 q0 t0, .slice u0 v0 x0, .slice y0 z0 b1, .slice d1 g1 h1, .slice i1 j1 k1, .slice p1 q1 t1, .string u1, .int .i64 v1]] w fun x1 y1 =>
  ∃ z1,
  x1 = .returned (.bool z1) ∧
  R (.bool z1) y1
theorem f46.eq (a0 : Nat) (a1 : Nat) (w : World) (R : Value → World → Prop) : f46.VC a0 a1 w R = funV Try.prog Try.f46 f46.AL f46.AC #[.pointer (some ⟨a0, 0, none⟩), .pointer (some ⟨a1, 0, none⟩)] w R := by kernel_rfl
theorem f46.calls {a0 : Nat} {a1 : Nat} {w : World} {R : Value → World → Prop} (h : f46.VC a0 a1 w R) : Calls Try.prog 46 #[.pointer (some ⟨a0, 0, none⟩), .pointer (some ⟨a1, 0, none⟩)] w fun e w' => ∃ v, e = .returned v ∧ R v w' :=
  funV_sound (fn := Try.f46) (AL := f46.AL) (AC := f46.AC) W6.mixed (by kernel_rfl) (by rw [← f46.eq a0 a1]; exact h)

/-- gatehouse/judge.Breach$3 -/
def f48.AL : Nat → Option Ann := fun _ => none
def f48.AC : Nat → Option Ann := fun _ => none
def f48.VC (a0 : Nat) (w : World) (R : Value → World → Prop) : Prop :=
  ∃ b0,
  w.cell? ⟨a0, 0, none⟩ = some (.int .i64 b0) ∧
  ∃ d0 g0 h0,
  w.cell? ⟨a0, 1, none⟩ = some (.slice d0 g0 h0) ∧
  ∃ i0 j0 k0,
  w.cell? ⟨a0, 2, none⟩ = some (.slice i0 j0 k0) ∧
  ∃ p0 q0 t0,
  w.cell? ⟨a0, 3, none⟩ = some (.slice p0 q0 t0) ∧
  ∃ u0 v0 x0,
  w.cell? ⟨a0, 4, none⟩ = some (.slice u0 v0 x0) ∧
  ∃ y0 z0 b1,
  w.cell? ⟨a0, 5, none⟩ = some (.slice y0 z0 b1) ∧
  ∃ d1 g1 h1,
  w.cell? ⟨a0, 6, none⟩ = some (.slice d1 g1 h1) ∧
  ∃ i1 j1 k1,
  w.cell? ⟨a0, 7, none⟩ = some (.slice i1 j1 k1) ∧
  ∃ p1,
  w.cell? ⟨a0, 8, none⟩ = some (.string p1) ∧
  ∃ q1,
  w.cell? ⟨a0, 9, none⟩ = some (.int .i64 q1) ∧
  Calls Try.prog 49 #[.agg #[.int .i64 b0, .slice d0 g0 h0, .slice i0 j0 k0, .slice p0 q0 t0, .slice u0 v0 x0, .slice y0 z0 b1, .slice d1 g1 h1, .slice i1 j1 k1, .string p1, .int .i64 q1]] w fun t1 u1 =>
  ∃ v1,
  t1 = .returned (.bool v1) ∧
  R (.bool v1) u1
theorem f48.eq (a0 : Nat) (w : World) (R : Value → World → Prop) : f48.VC a0 w R = funV Try.prog Try.f48 f48.AL f48.AC #[.pointer (some ⟨a0, 0, none⟩)] w R := by kernel_rfl
theorem f48.calls {a0 : Nat} {w : World} {R : Value → World → Prop} (h : f48.VC a0 w R) : Calls Try.prog 48 #[.pointer (some ⟨a0, 0, none⟩)] w fun e w' => ∃ v, e = .returned v ∧ R v w' :=
  funV_sound (fn := Try.f48) (AL := f48.AL) (AC := f48.AC) W6.mixed (by kernel_rfl) (by rw [← f48.eq a0]; exact h)

/-- gatehouse/judge.Breach$4 -/
def f50.AL : Nat → Option Ann := fun _ => none
def f50.AC : Nat → Option Ann := fun _ => none
def f50.VC (a0 : Nat) (w : World) (R : Value → World → Prop) : Prop :=
  ∃ b0,
  w.cell? ⟨a0, 0, none⟩ = some (.int .i64 b0) ∧
  ∃ d0 g0 h0,
  w.cell? ⟨a0, 1, none⟩ = some (.slice d0 g0 h0) ∧
  ∃ i0 j0 k0,
  w.cell? ⟨a0, 2, none⟩ = some (.slice i0 j0 k0) ∧
  ∃ p0 q0 t0,
  w.cell? ⟨a0, 3, none⟩ = some (.slice p0 q0 t0) ∧
  ∃ u0 v0 x0,
  w.cell? ⟨a0, 4, none⟩ = some (.slice u0 v0 x0) ∧
  ∃ y0 z0 b1,
  w.cell? ⟨a0, 5, none⟩ = some (.slice y0 z0 b1) ∧
  ∃ d1 g1 h1,
  w.cell? ⟨a0, 6, none⟩ = some (.slice d1 g1 h1) ∧
  ∃ i1 j1 k1,
  w.cell? ⟨a0, 7, none⟩ = some (.slice i1 j1 k1) ∧
  ∃ p1,
  w.cell? ⟨a0, 8, none⟩ = some (.string p1) ∧
  ∃ q1,
  w.cell? ⟨a0, 9, none⟩ = some (.int .i64 q1) ∧
  Calls Try.prog 51 #[.agg #[.int .i64 b0, .slice d0 g0 h0, .slice i0 j0 k0, .slice p0 q0 t0, .slice u0 v0 x0, .slice y0 z0 b1, .slice d1 g1 h1, .slice i1 j1 k1, .string p1, .int .i64 q1]] w fun t1 u1 =>
  ∃ v1,
  t1 = .returned (.bool v1) ∧
  R (.bool v1) u1
theorem f50.eq (a0 : Nat) (w : World) (R : Value → World → Prop) : f50.VC a0 w R = funV Try.prog Try.f50 f50.AL f50.AC #[.pointer (some ⟨a0, 0, none⟩)] w R := by kernel_rfl
theorem f50.calls {a0 : Nat} {w : World} {R : Value → World → Prop} (h : f50.VC a0 w R) : Calls Try.prog 50 #[.pointer (some ⟨a0, 0, none⟩)] w fun e w' => ∃ v, e = .returned v ∧ R v w' :=
  funV_sound (fn := Try.f50) (AL := f50.AL) (AC := f50.AC) W6.mixed (by kernel_rfl) (by rw [← f50.eq a0]; exact h)

/-- gatehouse/judge.Breach$5 -/
def f52.AL : Nat → Option Ann := fun _ => none
def f52.AC : Nat → Option Ann := fun _ => none
def f52.VC (a0 : Nat) (w : World) (R : Value → World → Prop) : Prop :=
  ∃ b0,
  w.cell? ⟨a0, 0, none⟩ = some (.int .i64 b0) ∧
  ∃ d0 g0 h0,
  w.cell? ⟨a0, 1, none⟩ = some (.slice d0 g0 h0) ∧
  ∃ i0 j0 k0,
  w.cell? ⟨a0, 2, none⟩ = some (.slice i0 j0 k0) ∧
  ∃ p0 q0 t0,
  w.cell? ⟨a0, 3, none⟩ = some (.slice p0 q0 t0) ∧
  ∃ u0 v0 x0,
  w.cell? ⟨a0, 4, none⟩ = some (.slice u0 v0 x0) ∧
  ∃ y0 z0 b1,
  w.cell? ⟨a0, 5, none⟩ = some (.slice y0 z0 b1) ∧
  ∃ d1 g1 h1,
  w.cell? ⟨a0, 6, none⟩ = some (.slice d1 g1 h1) ∧
  ∃ i1 j1 k1,
  w.cell? ⟨a0, 7, none⟩ = some (.slice i1 j1 k1) ∧
  ∃ p1,
  w.cell? ⟨a0, 8, none⟩ = some (.string p1) ∧
  ∃ q1,
  w.cell? ⟨a0, 9, none⟩ = some (.int .i64 q1) ∧
  Calls Try.prog 53 #[.agg #[.int .i64 b0, .slice d0 g0 h0, .slice i0 j0 k0, .slice p0 q0 t0, .slice u0 v0 x0, .slice y0 z0 b1, .slice d1 g1 h1, .slice i1 j1 k1, .string p1, .int .i64 q1]] w fun t1 u1 =>
  ∃ v1,
  t1 = .returned (.bool v1) ∧
  R (.bool v1) u1
theorem f52.eq (a0 : Nat) (w : World) (R : Value → World → Prop) : f52.VC a0 w R = funV Try.prog Try.f52 f52.AL f52.AC #[.pointer (some ⟨a0, 0, none⟩)] w R := by kernel_rfl
theorem f52.calls {a0 : Nat} {w : World} {R : Value → World → Prop} (h : f52.VC a0 w R) : Calls Try.prog 52 #[.pointer (some ⟨a0, 0, none⟩)] w fun e w' => ∃ v, e = .returned v ∧ R v w' :=
  funV_sound (fn := Try.f52) (AL := f52.AL) (AC := f52.AC) W6.mixed (by kernel_rfl) (by rw [← f52.eq a0]; exact h)

/-- gatehouse/judge.Answers -/
def f45.AL : Nat → Option Ann := fun r => match r with | 2 => some ⟨[(5, .int .i64)], [0, 3]⟩ | 8 => some ⟨[(45, .int .i64)], [0, 3, 43, 44]⟩ | _ => none
def f45.AC : Nat → Option Ann := fun r => match r with | 1000004 => some ⟨[], []⟩ | 1000016 => some ⟨[], []⟩ | 1000018 => some ⟨[], []⟩ | _ => none
def f45.VC (Aa0 : Option Addr) (na0 ca0 : Nat) (xa1_0 : Int) (Aa1_1 : Option Addr) (na1_1 ca1_1 : Nat) (Aa1_2 : Option Addr) (na1_2 ca1_2 : Nat) (Aa1_3 : Option Addr) (na1_3 ca1_3 : Nat) (Aa1_4 : Option Addr) (na1_4 ca1_4 : Nat) (Aa1_5 : Option Addr) (na1_5 ca1_5 : Nat) (Aa1_6 : Option Addr) (na1_6 ca1_6 : Nat) (Aa1_7 : Option Addr) (na1_7 ca1_7 : Nat) (sa1_8 : ByteArray) (xa1_9 : Int) (w : World) (R : Value → World → Prop) : Prop :=
  let b0 := World.alloc w (.cells #[.int .i64 xa1_0, .slice Aa1_1 na1_1 ca1_1, .slice Aa1_2 na1_2 ca1_2, .slice Aa1_3 na1_3 ca1_3, .slice Aa1_4 na1_4 ca1_4, .slice Aa1_5 na1_5 ca1_5, .slice Aa1_6 na1_6 ca1_6, .slice Aa1_7 na1_7 ca1_7, .string sa1_8, .int .i64 xa1_9] 67);
  ∃ d0 : Int → World → Nat → Prop,
  (∃ n, d0 1 b0 n) ∧
  ∀ g0 : Env, ∀ h0 i0 j0, d0 h0 i0 j0 →
  ∃ k0 p0 q0,
  i0.cell? ⟨w.heap.size, 4, none⟩ = some (.slice k0 p0 q0) ∧
  sel (decide ((h0 : Int) < ((p0 : Int) : Int))) (
  let t0 : Int := IntKind.i64.wrap (h0 - 1);
  ∃ u0 v0 x0,
  i0.cell? ⟨w.heap.size, 4, none⟩ = some (.slice u0 v0 x0) ∧
  (0 : Int) ≤ t0 ∧ t0 < (v0 : Int) ∧
  needPtr u0 fun y0 z0 =>
  ∃ b1,
  i0.cell? ⟨y0, z0 + t0.toNat * 16, none⟩ = some (.int .i64 b1) ∧
  ∃ d1,
  i0.cell? ⟨y0, z0 + t0.toNat * 16 + 1, none⟩ = some (.int .i64 d1) ∧
  ∃ g1,
  i0.cell? ⟨y0, z0 + t0.toNat * 16 + 1 + 1, none⟩ = some (.int .i64 g1) ∧
  ∃ h1,
  i0.cell? ⟨y0, z0 + t0.toNat * 16 + 1 + 1 + 1, none⟩ = some (.int .i64 h1) ∧
  ∃ i1,
  i0.cell? ⟨y0, z0 + t0.toNat * 16 + 1 + 1 + 1 + 1, none⟩ = some (.int .i64 i1) ∧
  ∃ j1 k1 p1,
  i0.cell? ⟨y0, z0 + t0.toNat * 16 + 1 + 1 + 1 + 1 + 1, none⟩ = some (.slice j1 k1 p1) ∧
  ∃ q1 t1 u1,
  i0.cell? ⟨y0, z0 + t0.toNat * 16 + 1 + 1 + 1 + 1 + 1 + 1, none⟩ = some (.slice q1 t1 u1) ∧
  ∃ v1 x1 y1,
  i0.cell? ⟨y0, z0 + t0.toNat * 16 + 1 + 1 + 1 + 1 + 1 + 1 + 1, none⟩ = some (.slice v1 x1 y1) ∧
  ∃ z1 b2 d2,
  i0.cell? ⟨y0, z0 + t0.toNat * 16 + 1 + 1 + 1 + 1 + 1 + 1 + 1 + 1, none⟩ = some (.slice z1 b2 d2) ∧
  ∃ g2 h2 i2,
  i0.cell? ⟨y0, z0 + t0.toNat * 16 + 1 + 1 + 1 + 1 + 1 + 1 + 1 + 1 + 1, none⟩ = some (.slice g2 h2 i2) ∧
  ∃ j2 k2 p2,
  i0.cell? ⟨y0, z0 + t0.toNat * 16 + 1 + 1 + 1 + 1 + 1 + 1 + 1 + 1 + 1 + 1, none⟩ = some (.slice j2 k2 p2) ∧
  ∃ q2 t2 u2,
  i0.cell? ⟨y0, z0 + t0.toNat * 16 + 1 + 1 + 1 + 1 + 1 + 1 + 1 + 1 + 1 + 1 + 1, none⟩ = some (.slice q2 t2 u2) ∧
  ∃ v2 x2 y2,
  i0.cell? ⟨y0, z0 + t0.toNat * 16 + 1 + 1 + 1 + 1 + 1 + 1 + 1 + 1 + 1 + 1 + 1 + 1, none⟩ = some (.slice v2 x2 y2) ∧
  ∃ z2 b3 d3,
  i0.cell? ⟨y0, z0 + t0.toNat * 16 + 1 + 1 + 1 + 1 + 1 + 1 + 1 + 1 + 1 + 1 + 1 + 1 + 1, none⟩ = some (.slice z2 b3 d3) ∧
  ∃ g3 h3 i3,
  i0.cell? ⟨y0, z0 + t0.toNat * 16 + 1 + 1 + 1 + 1 + 1 + 1 + 1 + 1 + 1 + 1 + 1 + 1 + 1 + 1, none⟩ = some (.slice g3 h3 i3) ∧
  ∃ j3 k3 p3,
  i0.cell? ⟨y0, z0 + t0.toNat * 16 + 1 + 1 + 1 + 1 + 1 + 1 + 1 + 1 + 1 + 1 + 1 + 1 + 1 + 1 + 1, none⟩ = some (.slice j3 k3 p3) ∧
  ∃ q3 t3 u3,
  i0.cell? ⟨w.heap.size, 4, none⟩ = some (.slice q3 t3 u3) ∧
  (0 : Int) ≤ h0 ∧ h0 < (t3 : Int) ∧
  needPtr q3 fun v3 x3 =>
  ∃ y3,
  i0.cell? ⟨v3, x3 + h0.toNat * 16, none⟩ = some (.int .i64 y3) ∧
  ∃ z3,
  i0.cell? ⟨v3, x3 + h0.toNat * 16 + 1, none⟩ = some (.int .i64 z3) ∧
  ∃ b4,
  i0.cell? ⟨v3, x3 + h0.toNat * 16 + 1 + 1, none⟩ = some (.int .i64 b4) ∧
  ∃ d4,
  i0.cell? ⟨v3, x3 + h0.toNat * 16 + 1 + 1 + 1, none⟩ = some (.int .i64 d4) ∧
  ∃ g4,
  i0.cell? ⟨v3, x3 + h0.toNat * 16 + 1 + 1 + 1 + 1, none⟩ = some (.int .i64 g4) ∧
  ∃ h4 i4 j4,
  i0.cell? ⟨v3, x3 + h0.toNat * 16 + 1 + 1 + 1 + 1 + 1, none⟩ = some (.slice h4 i4 j4) ∧
  ∃ k4 p4 q4,
  i0.cell? ⟨v3, x3 + h0.toNat * 16 + 1 + 1 + 1 + 1 + 1 + 1, none⟩ = some (.slice k4 p4 q4) ∧
  ∃ t4 u4 v4,
  i0.cell? ⟨v3, x3 + h0.toNat * 16 + 1 + 1 + 1 + 1 + 1 + 1 + 1, none⟩ = some (.slice t4 u4 v4) ∧
  ∃ x4 y4 z4,
  i0.cell? ⟨v3, x3 + h0.toNat * 16 + 1 + 1 + 1 + 1 + 1 + 1 + 1 + 1, none⟩ = some (.slice x4 y4 z4) ∧
  ∃ b5 d5 g5,
  i0.cell? ⟨v3, x3 + h0.toNat * 16 + 1 + 1 + 1 + 1 + 1 + 1 + 1 + 1 + 1, none⟩ = some (.slice b5 d5 g5) ∧
  ∃ h5 i5 j5,
  i0.cell? ⟨v3, x3 + h0.toNat * 16 + 1 + 1 + 1 + 1 + 1 + 1 + 1 + 1 + 1 + 1, none⟩ = some (.slice h5 i5 j5) ∧
  ∃ k5 p5 q5,
  i0.cell? ⟨v3, x3 + h0.toNat * 16 + 1 + 1 + 1 + 1 + 1 + 1 + 1 + 1 + 1 + 1 + 1, none⟩ = some (.slice k5 p5 q5) ∧
  ∃ t5 u5 v5,
  i0.cell? ⟨v3, x3 + h0.toNat * 16 + 1 + 1 + 1 + 1 + 1 + 1 + 1 + 1 + 1 + 1 + 1 + 1, none⟩ = some (.slice t5 u5 v5) ∧
  ∃ x5 y5 z5,
  i0.cell? ⟨v3, x3 + h0.toNat * 16 + 1 + 1 + 1 + 1 + 1 + 1 + 1 + 1 + 1 + 1 + 1 + 1 + 1, none⟩ = some (.slice x5 y5 z5) ∧
  ∃ b6 d6 g6,
  i0.cell? ⟨v3, x3 + h0.toNat * 16 + 1 + 1 + 1 + 1 + 1 + 1 + 1 + 1 + 1 + 1 + 1 + 1 + 1 + 1, none⟩ = some (.slice b6 d6 g6) ∧
  ∃ h6 i6 j6,
  i0.cell? ⟨v3, x3 + h0.toNat * 16 + 1 + 1 + 1 + 1 + 1 + 1 + 1 + 1 + 1 + 1 + 1 + 1 + 1 + 1 + 1, none⟩ = some (.slice h6 i6 j6) ∧
  (let k6 := World.alloc i0.drew (.cells #[.int .i64 0, .int .i64 0, .int .i64 0, .int .i64 0, .int .i64 0, .slice none 0 0, .slice none 0 0, .slice none 0 0, .slice none 0 0, .slice none 0 0, .slice none 0 0, .slice none 0 0, .slice none 0 0, .slice none 0 0, .slice none 0 0, .slice none 0 0] 62);
  (stillC k6 v3 [.int .i64 y3, .int .i64 z3, .int .i64 b4, .int .i64 d4, .int .i64 g4, .slice h4 i4 j4, .slice k4 p4 q4, .slice t4 u4 v4, .slice x4 y4 z4, .slice b5 d5 g5, .slice h5 i5 j5, .slice k5 p5 q5, .slice t5 u5 v5, .slice x5 y5 z5, .slice b6 d6 g6, .slice h6 i6 j6] (x3 + h0.toNat * 16) ∧ k6.cell? ⟨w.heap.size, 4, none⟩ = some (.slice q3 t3 u3) ∧ stillC k6 y0 [.int .i64 b1, .int .i64 d1, .int .i64 g1, .int .i64 h1, .int .i64 i1, .slice j1 k1 p1, .slice q1 t1 u1, .slice v1 x1 y1, .slice z1 b2 d2, .slice g2 h2 i2, .slice j2 k2 p2, .slice q2 t2 u2, .slice v2 x2 y2, .slice z2 b3 d3, .slice g3 h3 i3, .slice j3 k3 p3] (z0 + t0.toNat * 16) ∧ k6.cell? ⟨w.heap.size, 4, none⟩ = some (.slice u0 v0 x0) ∧ True) ∧
  let p6 := World.alloc k6 (.cells #[.int .i64 0, .int .i64 0, .int .i64 0, .int .i64 0, .int .i64 0, .slice none 0 0, .slice none 0 0, .slice none 0 0, .slice none 0 0, .slice none 0 0, .slice none 0 0, .slice none 0 0, .slice none 0 0, .slice none 0 0, .slice none 0 0, .slice none 0 0] 62);
  (stillC p6 v3 [.int .i64 y3, .int .i64 z3, .int .i64 b4, .int .i64 d4, .int .i64 g4, .slice h4 i4 j4, .slice k4 p4 q4, .slice t4 u4 v4, .slice x4 y4 z4, .slice b5 d5 g5, .slice h5 i5 j5, .slice k5 p5 q5, .slice t5 u5 v5, .slice x5 y5 z5, .slice b6 d6 g6, .slice h6 i6 j6] (x3 + h0.toNat * 16) ∧ p6.cell? ⟨w.heap.size, 4, none⟩ = some (.slice q3 t3 u3) ∧ stillC p6 y0 [.int .i64 b1, .int .i64 d1, .int .i64 g1, .int .i64 h1, .int .i64 i1, .slice j1 k1 p1, .slice q1 t1 u1, .slice v1 x1 y1, .slice z1 b2 d2, .slice g2 h2 i2, .slice j2 k2 p2, .slice q2 t2 u2, .slice v2 x2 y2, .slice z2 b3 d3, .slice g3 h3 i3, .slice j3 k3 p3] (z0 + t0.toNat * 16) ∧ p6.cell? ⟨w.heap.size, 4, none⟩ = some (.slice u0 v0 x0) ∧ True) ∧
  canStore p6 i0.heap.size 0 16 ∧
  let q6 := setCs p6 i0.heap.size 0 [.int .i64 b1, .int .i64 d1, .int .i64 g1, .int .i64 h1, .int .i64 i1, .slice j1 k1 p1, .slice q1 t1 u1, .slice v1 x1 y1, .slice z1 b2 d2, .slice g2 h2 i2, .slice j2 k2 p2, .slice q2 t2 u2, .slice v2 x2 y2, .slice z2 b3 d3, .slice g3 h3 i3, .slice j3 k3 p3];
  (stillC q6 v3 [.int .i64 y3, .int .i64 z3, .int .i64 b4, .int .i64 d4, .int .i64 g4, .slice h4 i4 j4, .slice k4 p4 q4, .slice t4 u4 v4, .slice x4 y4 z4, .slice b5 d5 g5, .slice h5 i5 j5, .slice k5 p5 q5, .slice t5 u5 v5, .slice x5 y5 z5, .slice b6 d6 g6, .slice h6 i6 j6] (x3 + h0.toNat * 16) ∧ q6.cell? ⟨w.heap.size, 4, none⟩ = some (.slice q3 t3 u3) ∧ stillC q6 y0 [.int .i64 b1, .int .i64 d1, .int .i64 g1, .int .i64 h1, .int .i64 i1, .slice j1 k1 p1, .slice q1 t1 u1, .slice v1 x1 y1, .slice z1 b2 d2, .slice g2 h2 i2, .slice j2 k2 p2, .slice q2 t2 u2, .slice v2 x2 y2, .slice z2 b3 d3, .slice g3 h3 i3, .slice j3 k3 p3] (z0 + t0.toNat * 16) ∧ q6.cell? ⟨w.heap.size, 4, none⟩ = some (.slice u0 v0 x0) ∧ True) ∧
  canStore q6 k6.heap.size 0 16 ∧
  let t6 := setCs q6 k6.heap.size 0 [.int .i64 y3, .int .i64 z3, .int .i64 b4, .int .i64 d4, .int .i64 g4, .slice h4 i4 j4, .slice k4 p4 q4, .slice t4 u4 v4, .slice x4 y4 z4, .slice b5 d5 g5, .slice h5 i5 j5, .slice k5 p5 q5, .slice t5 u5 v5, .slice x5 y5 z5, .slice b6 d6 g6, .slice h6 i6 j6];
  (stillC t6 v3 [.int .i64 y3, .int .i64 z3, .int .i64 b4, .int .i64 d4, .int .i64 g4, .slice h4 i4 j4, .slice k4 p4 q4, .slice t4 u4 v4, .slice x4 y4 z4, .slice b5 d5 g5, .slice h5 i5 j5, .slice k5 p5 q5, .slice t5 u5 v5, .slice x5 y5 z5, .slice b6 d6 g6, .slice h6 i6 j6] (x3 + h0.toNat * 16) ∧ t6.cell? ⟨w.heap.size, 4, none⟩ = some (.slice q3 t3 u3) ∧ stillC t6 y0 [.int .i64 b1, .int .i64 d1, .int .i64 g1, .int .i64 h1, .int .i64 i1, .slice j1 k1 p1, .slice q1 t1 u1, .slice v1 x1 y1, .slice z1 b2 d2, .slice g2 h2 i2, .slice j2 k2 p2, .slice q2 t2 u2, .slice v2 x2 y2, .slice z2 b3 d3, .slice g3 h3 i3, .slice j3 k3 p3] (z0 + t0.toNat * 16) ∧ t6.cell? ⟨w.heap.size, 4, none⟩ = some (.slice u0 v0 x0) ∧ True) ∧
  ∃ u6,
  t6.cell? ⟨k6.heap.size, 0, none⟩ = some (.int .i64 u6) ∧
  ∃ v6,
  t6.cell? ⟨i0.heap.size, 0, none⟩ = some (.int .i64 v6) ∧
  let x6 : Int := IntKind.i64.wrap (v6 + 1);
  sel ((u6 : Int) != (x6 : Int)) (
  R (.bool false) t6) (
  ∃ y6,
  t6.cell? ⟨k6.heap.size, 3, none⟩ = some (.int .i64 y6) ∧
  ∃ z6,
  t6.cell? ⟨i0.heap.size, 3, none⟩ = some (.int .i64 z6) ∧
  sel (decide ((y6 : Int) ≤ (z6 : Int))) (
  R (.bool false) t6) (
  let b7 : Int := IntKind.i64.wrap (h0 + 1);
  ([.slice Aa0 na0 ca0, .pointer (some ⟨w.heap.size, 0, none⟩)] : List Value) = ([.slice Aa0 na0 ca0, .pointer (some ⟨w.heap.size, 0, none⟩)] : List Value) ∧ ∃ m, m < j0 ∧ d0 b7 t6 m))) ∧
  (let d7 := World.alloc i0.drew (.cells #[.int .i64 0, .int .i64 0, .int .i64 0, .int .i64 0, .int .i64 0, .slice none 0 0, .slice none 0 0, .slice none 0 0, .slice none 0 0, .slice none 0 0, .slice none 0 0, .slice none 0 0, .slice none 0 0, .slice none 0 0, .slice none 0 0, .slice none 0 0] 62);
  (stillC d7 v3 [.int .i64 y3, .int .i64 z3, .int .i64 b4, .int .i64 d4, .int .i64 g4, .slice h4 i4 j4, .slice k4 p4 q4, .slice t4 u4 v4, .slice x4 y4 z4, .slice b5 d5 g5, .slice h5 i5 j5, .slice k5 p5 q5, .slice t5 u5 v5, .slice x5 y5 z5, .slice b6 d6 g6, .slice h6 i6 j6] (x3 + h0.toNat * 16) ∧ d7.cell? ⟨w.heap.size, 4, none⟩ = some (.slice q3 t3 u3) ∧ stillC d7 y0 [.int .i64 b1, .int .i64 d1, .int .i64 g1, .int .i64 h1, .int .i64 i1, .slice j1 k1 p1, .slice q1 t1 u1, .slice v1 x1 y1, .slice z1 b2 d2, .slice g2 h2 i2, .slice j2 k2 p2, .slice q2 t2 u2, .slice v2 x2 y2, .slice z2 b3 d3, .slice g3 h3 i3, .slice j3 k3 p3] (z0 + t0.toNat * 16) ∧ d7.cell? ⟨w.heap.size, 4, none⟩ = some (.slice u0 v0 x0) ∧ True) ∧
  let g7 := World.alloc d7 (.cells #[.int .i64 0, .int .i64 0, .int .i64 0, .int .i64 0, .int .i64 0, .slice none 0 0, .slice none 0 0, .slice none 0 0, .slice none 0 0, .slice none 0 0, .slice none 0 0, .slice none 0 0, .slice none 0 0, .slice none 0 0, .slice none 0 0, .slice none 0 0] 62);
  (stillC g7 v3 [.int .i64 y3, .int .i64 z3, .int .i64 b4, .int .i64 d4, .int .i64 g4, .slice h4 i4 j4, .slice k4 p4 q4, .slice t4 u4 v4, .slice x4 y4 z4, .slice b5 d5 g5, .slice h5 i5 j5, .slice k5 p5 q5, .slice t5 u5 v5, .slice x5 y5 z5, .slice b6 d6 g6, .slice h6 i6 j6] (x3 + h0.toNat * 16) ∧ g7.cell? ⟨w.heap.size, 4, none⟩ = some (.slice q3 t3 u3) ∧ stillC g7 y0 [.int .i64 b1, .int .i64 d1, .int .i64 g1, .int .i64 h1, .int .i64 i1, .slice j1 k1 p1, .slice q1 t1 u1, .slice v1 x1 y1, .slice z1 b2 d2, .slice g2 h2 i2, .slice j2 k2 p2, .slice q2 t2 u2, .slice v2 x2 y2, .slice z2 b3 d3, .slice g3 h3 i3, .slice j3 k3 p3] (z0 + t0.toNat * 16) ∧ g7.cell? ⟨w.heap.size, 4, none⟩ = some (.slice u0 v0 x0) ∧ True) ∧
  canStore g7 d7.heap.size 0 16 ∧
  let h7 := setCs g7 d7.heap.size 0 [.int .i64 b1, .int .i64 d1, .int .i64 g1, .int .i64 h1, .int .i64 i1, .slice j1 k1 p1, .slice q1 t1 u1, .slice v1 x1 y1, .slice z1 b2 d2, .slice g2 h2 i2, .slice j2 k2 p2, .slice q2 t2 u2, .slice v2 x2 y2, .slice z2 b3 d3, .slice g3 h3 i3, .slice j3 k3 p3];
  (stillC h7 v3 [.int .i64 y3, .int .i64 z3, .int .i64 b4, .int .i64 d4, .int .i64 g4, .slice h4 i4 j4, .slice k4 p4 q4, .slice t4 u4 v4, .slice x4 y4 z4, .slice b5 d5 g5, .slice h5 i5 j5, .slice k5 p5 q5, .slice t5 u5 v5, .slice x5 y5 z5, .slice b6 d6 g6, .slice h6 i6 j6] (x3 + h0.toNat * 16) ∧ h7.cell? ⟨w.heap.size, 4, none⟩ = some (.slice q3 t3 u3) ∧ stillC h7 y0 [.int .i64 b1, .int .i64 d1, .int .i64 g1, .int .i64 h1, .int .i64 i1, .slice j1 k1 p1, .slice q1 t1 u1, .slice v1 x1 y1, .slice z1 b2 d2, .slice g2 h2 i2, .slice j2 k2 p2, .slice q2 t2 u2, .slice v2 x2 y2, .slice z2 b3 d3, .slice g3 h3 i3, .slice j3 k3 p3] (z0 + t0.toNat * 16) ∧ h7.cell? ⟨w.heap.size, 4, none⟩ = some (.slice u0 v0 x0) ∧ True) ∧
  canStore h7 i0.heap.size 0 16 ∧
  let i7 := setCs h7 i0.heap.size 0 [.int .i64 y3, .int .i64 z3, .int .i64 b4, .int .i64 d4, .int .i64 g4, .slice h4 i4 j4, .slice k4 p4 q4, .slice t4 u4 v4, .slice x4 y4 z4, .slice b5 d5 g5, .slice h5 i5 j5, .slice k5 p5 q5, .slice t5 u5 v5, .slice x5 y5 z5, .slice b6 d6 g6, .slice h6 i6 j6];
  (stillC i7 v3 [.int .i64 y3, .int .i64 z3, .int .i64 b4, .int .i64 d4, .int .i64 g4, .slice h4 i4 j4, .slice k4 p4 q4, .slice t4 u4 v4, .slice x4 y4 z4, .slice b5 d5 g5, .slice h5 i5 j5, .slice k5 p5 q5, .slice t5 u5 v5, .slice x5 y5 z5, .slice b6 d6 g6, .slice h6 i6 j6] (x3 + h0.toNat * 16) ∧ i7.cell? ⟨w.heap.size, 4, none⟩ = some (.slice q3 t3 u3) ∧ stillC i7 y0 [.int .i64 b1, .int .i64 d1, .int .i64 g1, .int .i64 h1, .int .i64 i1, .slice j1 k1 p1, .slice q1 t1 u1, .slice v1 x1 y1, .slice z1 b2 d2, .slice g2 h2 i2, .slice j2 k2 p2, .slice q2 t2 u2, .slice v2 x2 y2, .slice z2 b3 d3, .slice g3 h3 i3, .slice j3 k3 p3] (z0 + t0.toNat * 16) ∧ i7.cell? ⟨w.heap.size, 4, none⟩ = some (.slice u0 v0 x0) ∧ True) ∧
  ∃ j7,
  i7.cell? ⟨i0.heap.size, 0, none⟩ = some (.int .i64 j7) ∧
  ∃ k7,
  i7.cell? ⟨d7.heap.size, 0, none⟩ = some (.int .i64 k7) ∧
  let p7 : Int := IntKind.i64.wrap (k7 + 1);
  sel ((j7 : Int) != (p7 : Int)) (
  R (.bool false) i7) (
  ∃ q7,
  i7.cell? ⟨i0.heap.size, 3, none⟩ = some (.int .i64 q7) ∧
  ∃ t7,
  i7.cell? ⟨d7.heap.size, 3, none⟩ = some (.int .i64 t7) ∧
  sel (decide ((q7 : Int) ≤ (t7 : Int))) (
  R (.bool false) i7) (
  let u7 : Int := IntKind.i64.wrap (h0 + 1);
  ([.slice Aa0 na0 ca0, .pointer (some ⟨w.heap.size, 0, none⟩)] : List Value) = ([.slice Aa0 na0 ca0, .pointer (some ⟨w.heap.size, 0, none⟩)] : List Value) ∧ ∃ m, m < j0 ∧ d0 u7 i7 m))) ∧ True) (
  ∃ v7 x7 y7,
  i0.cell? ⟨w.heap.size, 1, none⟩ = some (.slice v7 x7 y7) ∧
  ∃ z7 : Int → World → Nat → Prop,
  (∃ n, z7 0 i0 n) ∧
  ∀ b8 : Env, ∀ d8 g8 h8, z7 d8 g8 h8 →
  sel (decide ((d8 : Int) < ((x7 : Int) : Int))) (
  (0 : Int) ≤ d8 ∧ d8 < (x7 : Int) ∧
  needPtr v7 fun i8 j8 =>
  ∃ k8,
  g8.cell? ⟨i8, j8 + d8.toNat * 12, none⟩ = some (.int .i64 k8) ∧
  ∃ p8,
  g8.cell? ⟨i8, j8 + d8.toNat * 12 + 1, none⟩ = some (.int .i64 p8) ∧
  ∃ q8,
  g8.cell? ⟨i8, j8 + d8.toNat * 12 + 1 + 1, none⟩ = some (.int .i8 q8) ∧
  ∃ t8,
  g8.cell? ⟨i8, j8 + d8.toNat * 12 + 1 + 1 + 1, none⟩ = some (.int .i64 t8) ∧
  ∃ u8,
  g8.cell? ⟨i8, j8 + d8.toNat * 12 + 1 + 1 + 1 + 1, none⟩ = some (.int .i64 u8) ∧
  ∃ v8,
  g8.cell? ⟨i8, j8 + d8.toNat * 12 + 1 + 1 + 1 + 1 + 1, none⟩ = some (.int .i64 v8) ∧
  ∃ x8,
  g8.cell? ⟨i8, j8 + d8.toNat * 12 + 1 + 1 + 1 + 1 + 1 + 1, none⟩ = some (.int .i64 x8) ∧
  ∃ y8,
  g8.cell? ⟨i8, j8 + d8.toNat * 12 + 1 + 1 + 1 + 1 + 1 + 1 + 1, none⟩ = some (.int .i64 y8) ∧
  ∃ z8,
  g8.cell? ⟨i8, j8 + d8.toNat * 12 + 1 + 1 + 1 + 1 + 1 + 1 + 1 + 1, none⟩ = some (.bool z8) ∧
  ∃ b9,
  g8.cell? ⟨i8, j8 + d8.toNat * 12 + 1 + 1 + 1 + 1 + 1 + 1 + 1 + 1 + 1, none⟩ = some (.int .i64 b9) ∧
  ∃ d9,
  g8.cell? ⟨i8, j8 + d8.toNat * 12 + 1 + 1 + 1 + 1 + 1 + 1 + 1 + 1 + 1 + 1, none⟩ = some (.bool d9) ∧
  ∃ g9,
  g8.cell? ⟨i8, j8 + d8.toNat * 12 + 1 + 1 + 1 + 1 + 1 + 1 + 1 + 1 + 1 + 1 + 1, none⟩ = some (.bool g9) ∧
  let h9 := World.alloc g8 (.cells #[.int .i64 0, .int .i64 0, .int .i8 0, .int .i64 0, .int .i64 0, .int .i64 0, .int .i64 0, .int .i64 0, .bool false, .int .i64 0, .bool false, .bool false] 59);
  canStore h9 g8.heap.size 0 12 ∧
  let i9 := setCs h9 g8.heap.size 0 [.int .i64 k8, .int .i64 p8, .int .i8 q8, .int .i64 t8, .int .i64 u8, .int .i64 v8, .int .i64 x8, .int .i64 y8, .bool z8, .int .i64 b9, .bool d9, .bool g9];
  ∃ j9,
  i9.cell? ⟨g8.heap.size, 0, none⟩ = some (.int .i64 j9) ∧
  ∃ k9,
  i9.cell? ⟨g8.heap.size, 1, none⟩ = some (.int .i64 k9) ∧
  ∃ p9,
  i9.cell? ⟨g8.heap.size, 2, none⟩ = some (.int .i8 p9) ∧
  ∃ q9,
  i9.cell? ⟨g8.heap.size, 3, none⟩ = some (.int .i64 q9) ∧
  ∃ t9,
  i9.cell? ⟨g8.heap.size, 4, none⟩ = some (.int .i64 t9) ∧
  ∃ u9,
  i9.cell? ⟨g8.heap.size, 5, none⟩ = some (.int .i64 u9) ∧
  ∃ v9,
  i9.cell? ⟨g8.heap.size, 6, none⟩ = some (.int .i64 v9) ∧
  ∃ x9,
  i9.cell? ⟨g8.heap.size, 7, none⟩ = some (.int .i64 x9) ∧
  ∃ y9,
  i9.cell? ⟨g8.heap.size, 8, none⟩ = some (.bool y9) ∧
  ∃ z9,
  i9.cell? ⟨g8.heap.size, 9, none⟩ = some (.int .i64 z9) ∧
  ∃ bA,
  i9.cell? ⟨g8.heap.size, 10, none⟩ = some (.bool bA) ∧
  ∃ dA,
  i9.cell? ⟨g8.heap.size, 11, none⟩ = some (.bool dA) ∧
  Calls Try.prog 70 #[.agg #[.int .i64 j9, .int .i64 k9, .int .i8 p9, .int .i64 q9, .int .i64 t9, .int .i64 u9, .int .i64 v9, .int .i64 x9, .bool y9, .int .i64 z9, .bool bA, .bool dA]] i9 fun gA hA =>
  ∃ iA,
  gA = .returned (.bool iA) ∧
  sel (!iA) (
  let jA : Int := IntKind.i64.wrap (d8 + 1);
  ([.slice Aa0 na0 ca0, .pointer (some ⟨w.heap.size, 0, none⟩), .slice v7 x7 y7, .int .i64 (x7 : Int)] : List Value) = ([.slice Aa0 na0 ca0, .pointer (some ⟨w.heap.size, 0, none⟩), .slice v7 x7 y7, .int .i64 (x7 : Int)] : List Value) ∧ ∃ m, m < h8 ∧ z7 jA hA m) (
  ∃ kA,
  hA.cell? ⟨g8.heap.size, 0, none⟩ = some (.int .i64 kA) ∧
  ∃ pA,
  hA.cell? ⟨g8.heap.size, 1, none⟩ = some (.int .i64 pA) ∧
  ∃ qA,
  hA.cell? ⟨g8.heap.size, 2, none⟩ = some (.int .i8 qA) ∧
  ∃ tA,
  hA.cell? ⟨g8.heap.size, 3, none⟩ = some (.int .i64 tA) ∧
  ∃ uA,
  hA.cell? ⟨g8.heap.size, 4, none⟩ = some (.int .i64 uA) ∧
  ∃ vA,
  hA.cell? ⟨g8.heap.size, 5, none⟩ = some (.int .i64 vA) ∧
  ∃ xA,
  hA.cell? ⟨g8.heap.size, 6, none⟩ = some (.int .i64 xA) ∧
  ∃ yA,
  hA.cell? ⟨g8.heap.size, 7, none⟩ = some (.int .i64 yA) ∧
  ∃ zA,
  hA.cell? ⟨g8.heap.size, 8, none⟩ = some (.bool zA) ∧
  ∃ bB,
  hA.cell? ⟨g8.heap.size, 9, none⟩ = some (.int .i64 bB) ∧
  ∃ dB,
  hA.cell? ⟨g8.heap.size, 10, none⟩ = some (.bool dB) ∧
  ∃ gB,
  hA.cell? ⟨g8.heap.size, 11, none⟩ = some (.bool gB) ∧
  Calls Try.prog 71 #[.agg #[.int .i64 kA, .int .i64 pA, .int .i8 qA, .int .i64 tA, .int .i64 uA, .int .i64 vA, .int .i64 xA, .int .i64 yA, .bool zA, .int .i64 bB, .bool dB, .bool gB]] hA fun hB iB =>
  ∃ jB,
  hB = .returned (.bool jB) ∧
  sel jB (
  ∃ kB pB qB,
  iB.cell? ⟨w.heap.size, 4, none⟩ = some (.slice kB pB qB) ∧
  Calls Try.prog 72 #[.slice kB pB qB, .func (.func 73) #[] #[.pointer (some ⟨g8.heap.size, 0, none⟩)]] iB fun tB uB =>
  ∃ vB,
  tB = .returned (.bool vB) ∧
  sel (!vB) (
  R (.bool false) uB) (
  let xB : Int := IntKind.i64.wrap (d8 + 1);
  ([.slice Aa0 na0 ca0, .pointer (some ⟨w.heap.size, 0, none⟩), .slice v7 x7 y7, .int .i64 (x7 : Int)] : List Value) = ([.slice Aa0 na0 ca0, .pointer (some ⟨w.heap.size, 0, none⟩), .slice v7 x7 y7, .int .i64 (x7 : Int)] : List Value) ∧ ∃ m, m < h8 ∧ z7 xB uB m)) (
  ∃ yB,
  iB.cell? ⟨g8.heap.size, 0, none⟩ = some (.int .i64 yB) ∧
  ∃ zB,
  iB.cell? ⟨g8.heap.size, 1, none⟩ = some (.int .i64 zB) ∧
  ∃ bC,
  iB.cell? ⟨g8.heap.size, 2, none⟩ = some (.int .i8 bC) ∧
  ∃ dC,
  iB.cell? ⟨g8.heap.size, 3, none⟩ = some (.int .i64 dC) ∧
  ∃ gC,
  iB.cell? ⟨g8.heap.size, 4, none⟩ = some (.int .i64 gC) ∧
  ∃ hC,
  iB.cell? ⟨g8.heap.size, 5, none⟩ = some (.int .i64 hC) ∧
  ∃ iC,
  iB.cell? ⟨g8.heap.size, 6, none⟩ = some (.int .i64 iC) ∧
  ∃ jC,
  iB.cell? ⟨g8.heap.size, 7, none⟩ = some (.int .i64 jC) ∧
  ∃ kC,
  iB.cell? ⟨g8.heap.size, 8, none⟩ = some (.bool kC) ∧
  ∃ pC,
  iB.cell? ⟨g8.heap.size, 9, none⟩ = some (.int .i64 pC) ∧
  ∃ qC,
  iB.cell? ⟨g8.heap.size, 10, none⟩ = some (.bool qC) ∧
  ∃ tC,
  iB.cell? ⟨g8.heap.size, 11, none⟩ = some (.bool tC) ∧
  Calls Try.prog 74 #[.agg #[.int .i64 yB, .int .i64 zB, .int .i8 bC, .int .i64 dC, .int .i64 gC, .int .i64 hC, .int .i64 iC, .int .i64 jC, .bool kC, .int .i64 pC, .bool qC, .bool tC]] iB fun uC vC =>
  ∃ xC,
  uC = .returned (.bool xC) ∧
  sel (!xC) (
  let yC : Int := IntKind.i64.wrap (d8 + 1);
  ([.slice Aa0 na0 ca0, .pointer (some ⟨w.heap.size, 0, none⟩), .slice v7 x7 y7, .int .i64 (x7 : Int)] : List Value) = ([.slice Aa0 na0 ca0, .pointer (some ⟨w.heap.size, 0, none⟩), .slice v7 x7 y7, .int .i64 (x7 : Int)] : List Value) ∧ ∃ m, m < h8 ∧ z7 yC vC m) (
  ∃ zC,
  vC.cell? ⟨w.heap.size, 0, none⟩ = some (.int .i64 zC) ∧
  ∃ bD dD gD,
  vC.cell? ⟨w.heap.size, 1, none⟩ = some (.slice bD dD gD) ∧
  ∃ hD iD jD,
  vC.cell? ⟨w.heap.size, 2, none⟩ = some (.slice hD iD jD) ∧
  ∃ kD pD qD,
  vC.cell? ⟨w.heap.size, 3, none⟩ = some (.slice kD pD qD) ∧
  ∃ tD uD vD,
  vC.cell? ⟨w.heap.size, 4, none⟩ = some (.slice tD uD vD) ∧
  ∃ xD yD zD,
  vC.cell? ⟨w.heap.size, 5, none⟩ = some (.slice xD yD zD) ∧
  ∃ bE dE gE,
  vC.cell? ⟨w.heap.size, 6, none⟩ = some (.slice bE dE gE) ∧
  ∃ hE iE jE,
  vC.cell? ⟨w.heap.size, 7, none⟩ = some (.slice hE iE jE) ∧
  ∃ kE,
  vC.cell? ⟨w.heap.size, 8, none⟩ = some (.string kE) ∧
  ∃ pE,
  vC.cell? ⟨w.heap.size, 9, none⟩ = some (.int .i64 pE) ∧
  ∃ qE,
  vC.cell? ⟨g8.heap.size, 5, none⟩ = some (.int .i64 qE) ∧
  Calls Try.prog 75 #[.agg #[.int .i64 zC, .slice bD dD gD, .slice hD iD jD, .slice kD pD qD, .slice tD uD vD, .slice xD yD zD, .slice bE dE gE, .slice hE iE jE, .string kE, .int .i64 pE], .int .i64 qE] vC fun tE uE =>
  ∃ vE,
  tE = .returned (.pointer vE) ∧
  ∃ xE,
  uE.cell? ⟨g8.heap.size, 11, none⟩ = some (.bool xE) ∧
  sel xE (
  R (.bool false) uE.drew) (
  sel (Option.isNone vE) (
  R (.bool false) uE.drew) (
  needPtr vE fun yE zE =>
  ∃ bF,
  uE.cell? ⟨yE, zE, none⟩ = some (.int .i64 bF) ∧
  ∃ dF,
  uE.cell? ⟨g8.heap.size, 9, none⟩ = some (.int .i64 dF) ∧
  sel ((bF : Int) != (dF : Int)) (
  R (.bool false) uE.drew) (
  ∃ gF,
  uE.cell? ⟨g8.heap.size, 2, none⟩ = some (.int .i8 gF) ∧
  sel ((gF : Int) == (3 : Int)) (
  needPtr vE fun hF iF =>
  ∃ jF,
  uE.cell? ⟨g8.heap.size, 8, none⟩ = some (.bool jF) ∧
  ∃ kF pF qF,
  uE.cell? ⟨hF, iF + 5, none⟩ = some (.slice kF pF qF) ∧
  ∃ tF uF vF,
  uE.cell? ⟨hF, iF + 5 + 1, none⟩ = some (.slice tF uF vF) ∧
  ∃ xF yF zF,
  uE.cell? ⟨hF, iF + 5 + 1 + 1, none⟩ = some (.slice xF yF zF) ∧
  ∃ bG dG gG,
  uE.cell? ⟨hF, iF + 5 + 1 + 1 + 1, none⟩ = some (.slice bG dG gG) ∧
  ∃ hG iG jG,
  uE.cell? ⟨hF, iF + 5 + 1 + 1 + 1 + 1, none⟩ = some (.slice hG iG jG) ∧
  ∃ kG pG qG,
  uE.cell? ⟨hF, iF + 5 + 1 + 1 + 1 + 1 + 1, none⟩ = some (.slice kG pG qG) ∧
  ∃ tG uG vG,
  uE.cell? ⟨hF, iF + 5 + 1 + 1 + 1 + 1 + 1 + 1, none⟩ = some (.slice tG uG vG) ∧
  ∃ xG yG zG,
  uE.cell? ⟨hF, iF + 5 + 1 + 1 + 1 + 1 + 1 + 1 + 1, none⟩ = some (.slice xG yG zG) ∧
  ∃ bH dH gH,
  uE.cell? ⟨hF, iF + 5 + 1 + 1 + 1 + 1 + 1 + 1 + 1 + 1, none⟩ = some (.slice bH dH gH) ∧
  ∃ hH iH jH,
  uE.cell? ⟨hF, iF + 5 + 1 + 1 + 1 + 1 + 1 + 1 + 1 + 1 + 1, none⟩ = some (.slice hH iH jH) ∧
  ∃ kH pH qH,
  uE.cell? ⟨hF, iF + 5 + 1 + 1 + 1 + 1 + 1 + 1 + 1 + 1 + 1 + 1, none⟩ = some (.slice kH pH qH) ∧
  ∃ tH,
  uE.cell? ⟨g8.heap.size, 0, none⟩ = some (.int .i64 tH) ∧
  ∃ uH,
  uE.cell? ⟨g8.heap.size, 1, none⟩ = some (.int .i64 uH) ∧
  ∃ vH,
  uE.cell? ⟨g8.heap.size, 2, none⟩ = some (.int .i8 vH) ∧
  ∃ xH,
  uE.cell? ⟨g8.heap.size, 3, none⟩ = some (.int .i64 xH) ∧
  ∃ yH,
  uE.cell? ⟨g8.heap.size, 4, none⟩ = some (.int .i64 yH) ∧
  ∃ zH,
  uE.cell? ⟨g8.heap.size, 5, none⟩ = some (.int .i64 zH) ∧
  ∃ bI,
  uE.cell? ⟨g8.heap.size, 6, none⟩ = some (.int .i64 bI) ∧
  ∃ dI,
  uE.cell? ⟨g8.heap.size, 7, none⟩ = some (.int .i64 dI) ∧
  ∃ gI,
  uE.cell? ⟨g8.heap.size, 8, none⟩ = some (.bool gI) ∧
  ∃ hI,
  uE.cell? ⟨g8.heap.size, 9, none⟩ = some (.int .i64 hI) ∧
  ∃ iI,
  uE.cell? ⟨g8.heap.size, 10, none⟩ = some (.bool iI) ∧
  ∃ jI,
  uE.cell? ⟨g8.heap.size, 11, none⟩ = some (.bool jI) ∧
  Calls Try.prog 76 #[.slice Aa0 na0 ca0, .agg #[.int .i64 tH, .int .i64 uH, .int .i8 vH, .int .i64 xH, .int .i64 yH, .int .i64 zH, .int .i64 bI, .int .i64 dI, .bool gI, .int .i64 hI, .bool iI, .bool jI]] uE.drew.drew fun kI pI =>
  ∃ qI tI uI,
  kI = .returned (.agg #[.string qI, .string tI, .string uI]) ∧
  (stillC pI g8.heap.size [.int .i64 tH, .int .i64 uH, .int .i8 vH, .int .i64 xH, .int .i64 yH, .int .i64 zH, .int .i64 bI, .int .i64 dI, .bool gI, .int .i64 hI, .bool iI, .bool jI] 0 ∧ stillC pI hF [.slice kF pF qF, .slice tF uF vF, .slice xF yF zF, .slice bG dG gG, .slice hG iG jG, .slice kG pG qG, .slice tG uG vG, .slice xG yG zG, .slice bH dH gH, .slice hH iH jH, .slice kH pH qH] (iF + 5) ∧ pI.cell? ⟨g8.heap.size, 8, none⟩ = some (.bool jF) ∧ pI.cell? ⟨g8.heap.size, 2, none⟩ = some (.int .i8 gF) ∧ True) ∧
  Calls Try.prog 19 #[.agg #[.slice kF pF qF, .slice tF uF vF, .slice xF yF zF, .slice bG dG gG, .slice hG iG jG, .slice kG pG qG, .slice tG uG vG, .slice xG yG zG, .slice bH dH gH, .slice hH iH jH, .slice kH pH qH], .agg #[.string qI, .string tI, .string uI]] pI fun vI xI =>
  ∃ yI,
  vI = .returned (.bool yI) ∧
  (stillC xI g8.heap.size [.int .i64 tH, .int .i64 uH, .int .i8 vH, .int .i64 xH, .int .i64 yH, .int .i64 zH, .int .i64 bI, .int .i64 dI, .bool gI, .int .i64 hI, .bool iI, .bool jI] 0 ∧ stillC xI hF [.slice kF pF qF, .slice tF uF vF, .slice xF yF zF, .slice bG dG gG, .slice hG iG jG, .slice kG pG qG, .slice tG uG vG, .slice xG yG zG, .slice bH dH gH, .slice hH iH jH, .slice kH pH qH] (iF + 5) ∧ xI.cell? ⟨g8.heap.size, 8, none⟩ = some (.bool jF) ∧ xI.cell? ⟨g8.heap.size, 2, none⟩ = some (.int .i8 gF) ∧ True) ∧
  sel (!(jF == yI)) (
  R (.bool false) xI) (
  let zI : Int := IntKind.i64.wrap (d8 + 1);
  ([.slice Aa0 na0 ca0, .pointer (some ⟨w.heap.size, 0, none⟩), .slice v7 x7 y7, .int .i64 (x7 : Int)] : List Value) = ([.slice Aa0 na0 ca0, .pointer (some ⟨w.heap.size, 0, none⟩), .slice v7 x7 y7, .int .i64 (x7 : Int)] : List Value) ∧ ∃ m, m < h8 ∧ z7 zI xI m)) (
  let bJ : Int := IntKind.i64.wrap (d8 + 1);
  ([.slice Aa0 na0 ca0, .pointer (some ⟨w.heap.size, 0, none⟩), .slice v7 x7 y7, .int .i64 (x7 : Int)] : List Value) = ([.slice Aa0 na0 ca0, .pointer (some ⟨w.heap.size, 0, none⟩), .slice v7 x7 y7, .int .i64 (x7 : Int)] : List Value) ∧ ∃ m, m < h8 ∧ z7 bJ uE.drew.drew m)))))))) (
  R (.bool true) g8))
theorem f45.eq (Aa0 : Option Addr) (na0 ca0 : Nat) (xa1_0 : Int) (Aa1_1 : Option Addr) (na1_1 ca1_1 : Nat) (Aa1_2 : Option Addr) (na1_2 ca1_2 : Nat) (Aa1_3 : Option Addr) (na1_3 ca1_3 : Nat) (Aa1_4 : Option Addr) (na1_4 ca1_4 : Nat) (Aa1_5 : Option Addr) (na1_5 ca1_5 : Nat) (Aa1_6 : Option Addr) (na1_6 ca1_6 : Nat) (Aa1_7 : Option Addr) (na1_7 ca1_7 : Nat) (sa1_8 : ByteArray) (xa1_9 : Int) (w : World) (R : Value → World → Prop) : f45.VC Aa0 na0 ca0 xa1_0 Aa1_1 na1_1 ca1_1 Aa1_2 na1_2 ca1_2 Aa1_3 na1_3 ca1_3 Aa1_4 na1_4 ca1_4 Aa1_5 na1_5 ca1_5 Aa1_6 na1_6 ca1_6 Aa1_7 na1_7 ca1_7 sa1_8 xa1_9 w R = funV Try.prog Try.f45 f45.AL f45.AC #[.slice Aa0 na0 ca0, .agg #[.int .i64 xa1_0, .slice Aa1_1 na1_1 ca1_1, .slice Aa1_2 na1_2 ca1_2, .slice Aa1_3 na1_3 ca1_3, .slice Aa1_4 na1_4 ca1_4, .slice Aa1_5 na1_5 ca1_5, .slice Aa1_6 na1_6 ca1_6, .slice Aa1_7 na1_7 ca1_7, .string sa1_8, .int .i64 xa1_9]] w R := by kernel_rfl
theorem f45.calls {Aa0 : Option Addr} {na0 ca0 : Nat} {xa1_0 : Int} {Aa1_1 : Option Addr} {na1_1 ca1_1 : Nat} {Aa1_2 : Option Addr} {na1_2 ca1_2 : Nat} {Aa1_3 : Option Addr} {na1_3 ca1_3 : Nat} {Aa1_4 : Option Addr} {na1_4 ca1_4 : Nat} {Aa1_5 : Option Addr} {na1_5 ca1_5 : Nat} {Aa1_6 : Option Addr} {na1_6 ca1_6 : Nat} {Aa1_7 : Option Addr} {na1_7 ca1_7 : Nat} {sa1_8 : ByteArray} {xa1_9 : Int} {w : World} {R : Value → World → Prop} (h : f45.VC Aa0 na0 ca0 xa1_0 Aa1_1 na1_1 ca1_1 Aa1_2 na1_2 ca1_2 Aa1_3 na1_3 ca1_3 Aa1_4 na1_4 ca1_4 Aa1_5 na1_5 ca1_5 Aa1_6 na1_6 ca1_6 Aa1_7 na1_7 ca1_7 sa1_8 xa1_9 w R) : Calls Try.prog 45 #[.slice Aa0 na0 ca0, .agg #[.int .i64 xa1_0, .slice Aa1_1 na1_1 ca1_1, .slice Aa1_2 na1_2 ca1_2, .slice Aa1_3 na1_3 ca1_3, .slice Aa1_4 na1_4 ca1_4, .slice Aa1_5 na1_5 ca1_5, .slice Aa1_6 na1_6 ca1_6, .slice Aa1_7 na1_7 ca1_7, .string sa1_8, .int .i64 xa1_9]] w fun e w' => ∃ v, e = .returned v ∧ R v w' :=
  funV_sound (fn := Try.f45) (AL := f45.AL) (AC := f45.AC) W6.mixed (by kernel_rfl) (by rw [← f45.eq Aa0 na0 ca0 xa1_0 Aa1_1 na1_1 ca1_1 Aa1_2 na1_2 ca1_2 Aa1_3 na1_3 ca1_3 Aa1_4 na1_4 ca1_4 Aa1_5 na1_5 ca1_5 Aa1_6 na1_6 ca1_6 Aa1_7 na1_7 ca1_7 sa1_8 xa1_9]; exact h)

/-- gatehouse/judge.Revoked -/
def f47.AL : Nat → Option Ann := fun r => match r with | 2 => some ⟨[(17, .int .i64)], [0, 3, 15, 16]⟩ | 8 => some ⟨[(36, .int .i64)], [0, 3, 6, 7, 8, 15, 16, 17, 34, 35]⟩ | _ => none
def f47.AC : Nat → Option Ann := fun r => match r with | 1000013 => some ⟨[], []⟩ | 1000016 => some ⟨[], []⟩ | _ => none
def f47.VC (Aa0 : Option Addr) (na0 ca0 : Nat) (xa1_0 : Int) (Aa1_1 : Option Addr) (na1_1 ca1_1 : Nat) (Aa1_2 : Option Addr) (na1_2 ca1_2 : Nat) (Aa1_3 : Option Addr) (na1_3 ca1_3 : Nat) (Aa1_4 : Option Addr) (na1_4 ca1_4 : Nat) (Aa1_5 : Option Addr) (na1_5 ca1_5 : Nat) (Aa1_6 : Option Addr) (na1_6 ca1_6 : Nat) (Aa1_7 : Option Addr) (na1_7 ca1_7 : Nat) (sa1_8 : ByteArray) (xa1_9 : Int) (w : World) (R : Value → World → Prop) : Prop :=
  let b0 := World.alloc w (.cells #[.int .i64 xa1_0, .slice Aa1_1 na1_1 ca1_1, .slice Aa1_2 na1_2 ca1_2, .slice Aa1_3 na1_3 ca1_3, .slice Aa1_4 na1_4 ca1_4, .slice Aa1_5 na1_5 ca1_5, .slice Aa1_6 na1_6 ca1_6, .slice Aa1_7 na1_7 ca1_7, .string sa1_8, .int .i64 xa1_9] 67);
  ∃ d0 g0 h0,
  b0.cell? ⟨w.heap.size, 1, none⟩ = some (.slice d0 g0 h0) ∧
  ∃ i0 : Int → World → Nat → Prop,
  (∃ n, i0 0 b0 n) ∧
  ∀ j0 : Env, ∀ k0 p0 q0, i0 k0 p0 q0 →
  sel (decide ((k0 : Int) < ((g0 : Int) : Int))) (
  (0 : Int) ≤ k0 ∧ k0 < (g0 : Int) ∧
  needPtr d0 fun t0 u0 =>
  ∃ v0,
  p0.cell? ⟨t0, u0 + k0.toNat * 12, none⟩ = some (.int .i64 v0) ∧
  ∃ x0,
  p0.cell? ⟨t0, u0 + k0.toNat * 12 + 1, none⟩ = some (.int .i64 x0) ∧
  ∃ y0,
  p0.cell? ⟨t0, u0 + k0.toNat * 12 + 1 + 1, none⟩ = some (.int .i8 y0) ∧
  ∃ z0,
  p0.cell? ⟨t0, u0 + k0.toNat * 12 + 1 + 1 + 1, none⟩ = some (.int .i64 z0) ∧
  ∃ b1,
  p0.cell? ⟨t0, u0 + k0.toNat * 12 + 1 + 1 + 1 + 1, none⟩ = some (.int .i64 b1) ∧
  ∃ d1,
  p0.cell? ⟨t0, u0 + k0.toNat * 12 + 1 + 1 + 1 + 1 + 1, none⟩ = some (.int .i64 d1) ∧
  ∃ g1,
  p0.cell? ⟨t0, u0 + k0.toNat * 12 + 1 + 1 + 1 + 1 + 1 + 1, none⟩ = some (.int .i64 g1) ∧
  ∃ h1,
  p0.cell? ⟨t0, u0 + k0.toNat * 12 + 1 + 1 + 1 + 1 + 1 + 1 + 1, none⟩ = some (.int .i64 h1) ∧
  ∃ i1,
  p0.cell? ⟨t0, u0 + k0.toNat * 12 + 1 + 1 + 1 + 1 + 1 + 1 + 1 + 1, none⟩ = some (.bool i1) ∧
  ∃ j1,
  p0.cell? ⟨t0, u0 + k0.toNat * 12 + 1 + 1 + 1 + 1 + 1 + 1 + 1 + 1 + 1, none⟩ = some (.int .i64 j1) ∧
  ∃ k1,
  p0.cell? ⟨t0, u0 + k0.toNat * 12 + 1 + 1 + 1 + 1 + 1 + 1 + 1 + 1 + 1 + 1, none⟩ = some (.bool k1) ∧
  ∃ p1,
  p0.cell? ⟨t0, u0 + k0.toNat * 12 + 1 + 1 + 1 + 1 + 1 + 1 + 1 + 1 + 1 + 1 + 1, none⟩ = some (.bool p1) ∧
  let q1 := World.alloc p0 (.cells #[.int .i64 0, .int .i64 0, .int .i8 0, .int .i64 0, .int .i64 0, .int .i64 0, .int .i64 0, .int .i64 0, .bool false, .int .i64 0, .bool false, .bool false] 59);
  canStore q1 p0.heap.size 0 12 ∧
  let t1 := setCs q1 p0.heap.size 0 [.int .i64 v0, .int .i64 x0, .int .i8 y0, .int .i64 z0, .int .i64 b1, .int .i64 d1, .int .i64 g1, .int .i64 h1, .bool i1, .int .i64 j1, .bool k1, .bool p1];
  ∃ u1,
  t1.cell? ⟨p0.heap.size, 2, none⟩ = some (.int .i8 u1) ∧
  sel ((u1 : Int) != (6 : Int)) (
  let v1 : Int := IntKind.i64.wrap (k0 + 1);
  ([.slice Aa0 na0 ca0, .pointer (some ⟨w.heap.size, 0, none⟩), .slice d0 g0 h0, .int .i64 (g0 : Int)] : List Value) = ([.slice Aa0 na0 ca0, .pointer (some ⟨w.heap.size, 0, none⟩), .slice d0 g0 h0, .int .i64 (g0 : Int)] : List Value) ∧ ∃ m, m < q0 ∧ i0 v1 t1 m) (
  ∃ x1,
  t1.cell? ⟨p0.heap.size, 0, none⟩ = some (.int .i64 x1) ∧
  ∃ y1,
  t1.cell? ⟨p0.heap.size, 1, none⟩ = some (.int .i64 y1) ∧
  ∃ z1,
  t1.cell? ⟨p0.heap.size, 2, none⟩ = some (.int .i8 z1) ∧
  ∃ b2,
  t1.cell? ⟨p0.heap.size, 3, none⟩ = some (.int .i64 b2) ∧
  ∃ d2,
  t1.cell? ⟨p0.heap.size, 4, none⟩ = some (.int .i64 d2) ∧
  ∃ g2,
  t1.cell? ⟨p0.heap.size, 5, none⟩ = some (.int .i64 g2) ∧
  ∃ h2,
  t1.cell? ⟨p0.heap.size, 6, none⟩ = some (.int .i64 h2) ∧
  ∃ i2,
  t1.cell? ⟨p0.heap.size, 7, none⟩ = some (.int .i64 i2) ∧
  ∃ j2,
  t1.cell? ⟨p0.heap.size, 8, none⟩ = some (.bool j2) ∧
  ∃ k2,
  t1.cell? ⟨p0.heap.size, 9, none⟩ = some (.int .i64 k2) ∧
  ∃ p2,
  t1.cell? ⟨p0.heap.size, 10, none⟩ = some (.bool p2) ∧
  ∃ q2,
  t1.cell? ⟨p0.heap.size, 11, none⟩ = some (.bool q2) ∧
  Calls Try.prog 70 #[.agg #[.int .i64 x1, .int .i64 y1, .int .i8 z1, .int .i64 b2, .int .i64 d2, .int .i64 g2, .int .i64 h2, .int .i64 i2, .bool j2, .int .i64 k2, .bool p2, .bool q2]] t1 fun t2 u2 =>
  ∃ v2,
  t2 = .returned (.bool v2) ∧
  sel (!v2) (
  let x2 : Int := IntKind.i64.wrap (k0 + 1);
  ([.slice Aa0 na0 ca0, .pointer (some ⟨w.heap.size, 0, none⟩), .slice d0 g0 h0, .int .i64 (g0 : Int)] : List Value) = ([.slice Aa0 na0 ca0, .pointer (some ⟨w.heap.size, 0, none⟩), .slice d0 g0 h0, .int .i64 (g0 : Int)] : List Value) ∧ ∃ m, m < q0 ∧ i0 x2 u2 m) (
  ∃ y2,
  u2.cell? ⟨p0.heap.size, 0, none⟩ = some (.int .i64 y2) ∧
  ∃ z2,
  u2.cell? ⟨p0.heap.size, 1, none⟩ = some (.int .i64 z2) ∧
  ∃ b3,
  u2.cell? ⟨p0.heap.size, 2, none⟩ = some (.int .i8 b3) ∧
  ∃ d3,
  u2.cell? ⟨p0.heap.size, 3, none⟩ = some (.int .i64 d3) ∧
  ∃ g3,
  u2.cell? ⟨p0.heap.size, 4, none⟩ = some (.int .i64 g3) ∧
  ∃ h3,
  u2.cell? ⟨p0.heap.size, 5, none⟩ = some (.int .i64 h3) ∧
  ∃ i3,
  u2.cell? ⟨p0.heap.size, 6, none⟩ = some (.int .i64 i3) ∧
  ∃ j3,
  u2.cell? ⟨p0.heap.size, 7, none⟩ = some (.int .i64 j3) ∧
  ∃ k3,
  u2.cell? ⟨p0.heap.size, 8, none⟩ = some (.bool k3) ∧
  ∃ p3,
  u2.cell? ⟨p0.heap.size, 9, none⟩ = some (.int .i64 p3) ∧
  ∃ q3,
  u2.cell? ⟨p0.heap.size, 10, none⟩ = some (.bool q3) ∧
  ∃ t3,
  u2.cell? ⟨p0.heap.size, 11, none⟩ = some (.bool t3) ∧
  Calls Try.prog 76 #[.slice Aa0 na0 ca0, .agg #[.int .i64 y2, .int .i64 z2, .int .i8 b3, .int .i64 d3, .int .i64 g3, .int .i64 h3, .int .i64 i3, .int .i64 j3, .bool k3, .int .i64 p3, .bool q3, .bool t3]] u2 fun u3 v3 =>
  ∃ x3 y3 z3,
  u3 = .returned (.agg #[.string x3, .string y3, .string z3]) ∧
  let b4 := World.alloc v3 (.cells #[.string ⟨#[]⟩, .string ⟨#[]⟩, .string ⟨#[]⟩] 37);
  canStore b4 v3.heap.size 0 3 ∧
  let d4 := setCs b4 v3.heap.size 0 [.string x3, .string y3, .string z3];
  ∃ g4 h4 i4,
  d4.cell? ⟨w.heap.size, 1, none⟩ = some (.slice g4 h4 i4) ∧
  ∃ j4 : Int → World → Nat → Prop,
  (∃ n, j4 0 d4 n) ∧
  ∀ k4 : Env, ∀ p4 q4 t4, j4 p4 q4 t4 →
  sel (decide ((p4 : Int) < ((h4 : Int) : Int))) (
  (0 : Int) ≤ p4 ∧ p4 < (h4 : Int) ∧
  needPtr g4 fun u4 v4 =>
  ∃ x4,
  q4.cell? ⟨u4, v4 + p4.toNat * 12, none⟩ = some (.int .i64 x4) ∧
  ∃ y4,
  q4.cell? ⟨u4, v4 + p4.toNat * 12 + 1, none⟩ = some (.int .i64 y4) ∧
  ∃ z4,
  q4.cell? ⟨u4, v4 + p4.toNat * 12 + 1 + 1, none⟩ = some (.int .i8 z4) ∧
  ∃ b5,
  q4.cell? ⟨u4, v4 + p4.toNat * 12 + 1 + 1 + 1, none⟩ = some (.int .i64 b5) ∧
  ∃ d5,
  q4.cell? ⟨u4, v4 + p4.toNat * 12 + 1 + 1 + 1 + 1, none⟩ = some (.int .i64 d5) ∧
  ∃ g5,
  q4.cell? ⟨u4, v4 + p4.toNat * 12 + 1 + 1 + 1 + 1 + 1, none⟩ = some (.int .i64 g5) ∧
  ∃ h5,
  q4.cell? ⟨u4, v4 + p4.toNat * 12 + 1 + 1 + 1 + 1 + 1 + 1, none⟩ = some (.int .i64 h5) ∧
  ∃ i5,
  q4.cell? ⟨u4, v4 + p4.toNat * 12 + 1 + 1 + 1 + 1 + 1 + 1 + 1, none⟩ = some (.int .i64 i5) ∧
  ∃ j5,
  q4.cell? ⟨u4, v4 + p4.toNat * 12 + 1 + 1 + 1 + 1 + 1 + 1 + 1 + 1, none⟩ = some (.bool j5) ∧
  ∃ k5,
  q4.cell? ⟨u4, v4 + p4.toNat * 12 + 1 + 1 + 1 + 1 + 1 + 1 + 1 + 1 + 1, none⟩ = some (.int .i64 k5) ∧
  ∃ p5,
  q4.cell? ⟨u4, v4 + p4.toNat * 12 + 1 + 1 + 1 + 1 + 1 + 1 + 1 + 1 + 1 + 1, none⟩ = some (.bool p5) ∧
  ∃ q5,
  q4.cell? ⟨u4, v4 + p4.toNat * 12 + 1 + 1 + 1 + 1 + 1 + 1 + 1 + 1 + 1 + 1 + 1, none⟩ = some (.bool q5) ∧
  let t5 := World.alloc q4 (.cells #[.int .i64 0, .int .i64 0, .int .i8 0, .int .i64 0, .int .i64 0, .int .i64 0, .int .i64 0, .int .i64 0, .bool false, .int .i64 0, .bool false, .bool false] 59);
  canStore t5 q4.heap.size 0 12 ∧
  let u5 := setCs t5 q4.heap.size 0 [.int .i64 x4, .int .i64 y4, .int .i8 z4, .int .i64 b5, .int .i64 d5, .int .i64 g5, .int .i64 h5, .int .i64 i5, .bool j5, .int .i64 k5, .bool p5, .bool q5];
  ∃ v5,
  u5.cell? ⟨q4.heap.size, 0, none⟩ = some (.int .i64 v5) ∧
  ∃ x5,
  u5.cell? ⟨q4.heap.size, 1, none⟩ = some (.int .i64 x5) ∧
  ∃ y5,
  u5.cell? ⟨q4.heap.size, 2, none⟩ = some (.int .i8 y5) ∧
  ∃ z5,
  u5.cell? ⟨q4.heap.size, 3, none⟩ = some (.int .i64 z5) ∧
  ∃ b6,
  u5.cell? ⟨q4.heap.size, 4, none⟩ = some (.int .i64 b6) ∧
  ∃ d6,
  u5.cell? ⟨q4.heap.size, 5, none⟩ = some (.int .i64 d6) ∧
  ∃ g6,
  u5.cell? ⟨q4.heap.size, 6, none⟩ = some (.int .i64 g6) ∧
  ∃ h6,
  u5.cell? ⟨q4.heap.size, 7, none⟩ = some (.int .i64 h6) ∧
  ∃ i6,
  u5.cell? ⟨q4.heap.size, 8, none⟩ = some (.bool i6) ∧
  ∃ j6,
  u5.cell? ⟨q4.heap.size, 9, none⟩ = some (.int .i64 j6) ∧
  ∃ k6,
  u5.cell? ⟨q4.heap.size, 10, none⟩ = some (.bool k6) ∧
  ∃ p6,
  u5.cell? ⟨q4.heap.size, 11, none⟩ = some (.bool p6) ∧
  Calls Try.prog 74 #[.agg #[.int .i64 v5, .int .i64 x5, .int .i8 y5, .int .i64 z5, .int .i64 b6, .int .i64 d6, .int .i64 g6, .int .i64 h6, .bool i6, .int .i64 j6, .bool k6, .bool p6]] u5 fun q6 t6 =>
  ∃ u6,
  q6 = .returned (.bool u6) ∧
  sel (!u6) (
  let v6 : Int := IntKind.i64.wrap (p4 + 1);
  ([.slice Aa0 na0 ca0, .pointer (some ⟨w.heap.size, 0, none⟩), .pointer (some ⟨p0.heap.size, 0, none⟩), .pointer (some ⟨v3.heap.size, 0, none⟩), .func (.func 77) #[] #[.pointer (some ⟨w.heap.size, 0, none⟩), .pointer (some ⟨p0.heap.size, 0, none⟩), .pointer (some ⟨v3.heap.size, 0, none⟩)], .slice d0 g0 h0, .int .i64 (g0 : Int), .int .i64 k0, .slice g4 h4 i4, .int .i64 (h4 : Int)] : List Value) = ([.slice Aa0 na0 ca0, .pointer (some ⟨w.heap.size, 0, none⟩), .pointer (some ⟨p0.heap.size, 0, none⟩), .pointer (some ⟨v3.heap.size, 0, none⟩), .func (.func 77) #[] #[.pointer (some ⟨w.heap.size, 0, none⟩), .pointer (some ⟨p0.heap.size, 0, none⟩), .pointer (some ⟨v3.heap.size, 0, none⟩)], .slice d0 g0 h0, .int .i64 (g0 : Int), .int .i64 k0, .slice g4 h4 i4, .int .i64 (h4 : Int)] : List Value) ∧ ∃ m, m < t4 ∧ j4 v6 t6 m) (
  ∃ x6,
  t6.cell? ⟨q4.heap.size, 5, none⟩ = some (.int .i64 x6) ∧
  sel (decide ((0 : Int) ≤ (x6 : Int))) (
  ∃ y6,
  t6.cell? ⟨q4.heap.size, 5, none⟩ = some (.int .i64 y6) ∧
  ∃ z6,
  t6.cell? ⟨p0.heap.size, 5, none⟩ = some (.int .i64 z6) ∧
  sel (decide ((y6 : Int) < (z6 : Int))) (
  ∃ b7,
  t6.cell? ⟨q4.heap.size, 4, none⟩ = some (.int .i64 b7) ∧
  sel (decide ((b7 : Int) < (0 : Int))) (
  R (.bool false) t6) (
  ∃ d7,
  t6.cell? ⟨q4.heap.size, 4, none⟩ = some (.int .i64 d7) ∧
  ∃ g7,
  t6.cell? ⟨p0.heap.size, 4, none⟩ = some (.int .i64 g7) ∧
  sel (decide ((g7 : Int) ≤ (d7 : Int))) (
  R (.bool false) t6) (
  ∃ h7,
  t6.cell? ⟨q4.heap.size, 2, none⟩ = some (.int .i8 h7) ∧
  sel ((h7 : Int) == (3 : Int)) (
  ∃ i7,
  t6.cell? ⟨q4.heap.size, 0, none⟩ = some (.int .i64 i7) ∧
  ∃ j7,
  t6.cell? ⟨q4.heap.size, 1, none⟩ = some (.int .i64 j7) ∧
  ∃ k7,
  t6.cell? ⟨q4.heap.size, 2, none⟩ = some (.int .i8 k7) ∧
  ∃ p7,
  t6.cell? ⟨q4.heap.size, 3, none⟩ = some (.int .i64 p7) ∧
  ∃ q7,
  t6.cell? ⟨q4.heap.size, 4, none⟩ = some (.int .i64 q7) ∧
  ∃ t7,
  t6.cell? ⟨q4.heap.size, 5, none⟩ = some (.int .i64 t7) ∧
  ∃ u7,
  t6.cell? ⟨q4.heap.size, 6, none⟩ = some (.int .i64 u7) ∧
  ∃ v7,
  t6.cell? ⟨q4.heap.size, 7, none⟩ = some (.int .i64 v7) ∧
  ∃ x7,
  t6.cell? ⟨q4.heap.size, 8, none⟩ = some (.bool x7) ∧
  ∃ y7,
  t6.cell? ⟨q4.heap.size, 9, none⟩ = some (.int .i64 y7) ∧
  ∃ z7,
  t6.cell? ⟨q4.heap.size, 10, none⟩ = some (.bool z7) ∧
  ∃ b8,
  t6.cell? ⟨q4.heap.size, 11, none⟩ = some (.bool b8) ∧
  Calls Try.prog 70 #[.agg #[.int .i64 i7, .int .i64 j7, .int .i8 k7, .int .i64 p7, .int .i64 q7, .int .i64 t7, .int .i64 u7, .int .i64 v7, .bool x7, .int .i64 y7, .bool z7, .bool b8]] t6.drew fun d8 g8 =>
  ∃ h8,
  d8 = .returned (.bool h8) ∧
  (stillC g8 q4.heap.size [.int .i64 i7, .int .i64 j7, .int .i8 k7, .int .i64 p7, .int .i64 q7, .int .i64 t7, .int .i64 u7, .int .i64 v7, .bool x7, .int .i64 y7, .bool z7, .bool b8] 0 ∧ g8.cell? ⟨q4.heap.size, 2, none⟩ = some (.int .i8 h7) ∧ True) ∧
  sel h8 (
  ∃ i8,
  g8.cell? ⟨q4.heap.size, 8, none⟩ = some (.bool i8) ∧
  sel i8 (
  ∃ j8,
  g8.cell? ⟨q4.heap.size, 3, none⟩ = some (.int .i64 j8) ∧
  ∃ k8,
  g8.cell? ⟨p0.heap.size, 4, none⟩ = some (.int .i64 k8) ∧
  sel (decide ((k8 : Int) < (j8 : Int))) (
  ∃ p8,
  g8.cell? ⟨q4.heap.size, 0, none⟩ = some (.int .i64 p8) ∧
  ∃ q8,
  g8.cell? ⟨q4.heap.size, 1, none⟩ = some (.int .i64 q8) ∧
  ∃ t8,
  g8.cell? ⟨q4.heap.size, 2, none⟩ = some (.int .i8 t8) ∧
  ∃ u8,
  g8.cell? ⟨q4.heap.size, 3, none⟩ = some (.int .i64 u8) ∧
  ∃ v8,
  g8.cell? ⟨q4.heap.size, 4, none⟩ = some (.int .i64 v8) ∧
  ∃ x8,
  g8.cell? ⟨q4.heap.size, 5, none⟩ = some (.int .i64 x8) ∧
  ∃ y8,
  g8.cell? ⟨q4.heap.size, 6, none⟩ = some (.int .i64 y8) ∧
  ∃ z8,
  g8.cell? ⟨q4.heap.size, 7, none⟩ = some (.int .i64 z8) ∧
  ∃ b9,
  g8.cell? ⟨q4.heap.size, 8, none⟩ = some (.bool b9) ∧
  ∃ d9,
  g8.cell? ⟨q4.heap.size, 9, none⟩ = some (.int .i64 d9) ∧
  ∃ g9,
  g8.cell? ⟨q4.heap.size, 10, none⟩ = some (.bool g9) ∧
  ∃ h9,
  g8.cell? ⟨q4.heap.size, 11, none⟩ = some (.bool h9) ∧
  ∃ i9,
  g8.cell? ⟨v3.heap.size, 0, none⟩ = some (.string i9) ∧
  ∃ j9,
  g8.cell? ⟨v3.heap.size, 1, none⟩ = some (.string j9) ∧
  ∃ k9,
  g8.cell? ⟨v3.heap.size, 2, none⟩ = some (.string k9) ∧
  Calls Try.prog 76 #[.slice Aa0 na0 ca0, .agg #[.int .i64 p8, .int .i64 q8, .int .i8 t8, .int .i64 u8, .int .i64 v8, .int .i64 x8, .int .i64 y8, .int .i64 z8, .bool b9, .int .i64 d9, .bool g9, .bool h9]] g8 fun p9 q9 =>
  ∃ t9 u9 v9,
  p9 = .returned (.agg #[.string t9, .string u9, .string v9]) ∧
  (stillC q9 v3.heap.size [.string i9, .string j9, .string k9] 0 ∧ stillC q9 q4.heap.size [.int .i64 p8, .int .i64 q8, .int .i8 t8, .int .i64 u8, .int .i64 v8, .int .i64 x8, .int .i64 y8, .int .i64 z8, .bool b9, .int .i64 d9, .bool g9, .bool h9] 0 ∧ q9.cell? ⟨p0.heap.size, 4, none⟩ = some (.int .i64 k8) ∧ q9.cell? ⟨q4.heap.size, 3, none⟩ = some (.int .i64 j8) ∧ q9.cell? ⟨q4.heap.size, 8, none⟩ = some (.bool i8) ∧ stillC q9 q4.heap.size [.int .i64 i7, .int .i64 j7, .int .i8 k7, .int .i64 p7, .int .i64 q7, .int .i64 t7, .int .i64 u7, .int .i64 v7, .bool x7, .int .i64 y7, .bool z7, .bool b8] 0 ∧ q9.cell? ⟨q4.heap.size, 2, none⟩ = some (.int .i8 h7) ∧ True) ∧
  ∃ x9 : Bool, (∀ w', (do eqGuard .eql 37 (.tmp 86) (.tmp 87) (.agg #[.string t9, .string u9, .string v9]) (.agg #[.string i9, .string j9, .string k9]); binOp .eql 37 (.agg #[.string t9, .string u9, .string v9]) (.agg #[.string i9, .string j9, .string k9]) : Sem Value).run Try.prog w' = .ok (.bool x9) w') ∧
  sel x9 (
  ∃ y9,
  q9.cell? ⟨q4.heap.size, 5, none⟩ = some (.int .i64 y9) ∧
  Calls Try.prog 77 #[.int .i64 y9, .pointer (some ⟨w.heap.size, 0, none⟩), .pointer (some ⟨p0.heap.size, 0, none⟩), .pointer (some ⟨v3.heap.size, 0, none⟩)] q9 fun z9 bA =>
  ∃ dA,
  z9 = .returned (.bool dA) ∧
  (bA.cell? ⟨q4.heap.size, 5, none⟩ = some (.int .i64 y9) ∧ stillC bA v3.heap.size [.string i9, .string j9, .string k9] 0 ∧ stillC bA q4.heap.size [.int .i64 p8, .int .i64 q8, .int .i8 t8, .int .i64 u8, .int .i64 v8, .int .i64 x8, .int .i64 y8, .int .i64 z8, .bool b9, .int .i64 d9, .bool g9, .bool h9] 0 ∧ bA.cell? ⟨p0.heap.size, 4, none⟩ = some (.int .i64 k8) ∧ bA.cell? ⟨q4.heap.size, 3, none⟩ = some (.int .i64 j8) ∧ bA.cell? ⟨q4.heap.size, 8, none⟩ = some (.bool i8) ∧ stillC bA q4.heap.size [.int .i64 i7, .int .i64 j7, .int .i8 k7, .int .i64 p7, .int .i64 q7, .int .i64 t7, .int .i64 u7, .int .i64 v7, .bool x7, .int .i64 y7, .bool z7, .bool b8] 0 ∧ bA.cell? ⟨q4.heap.size, 2, none⟩ = some (.int .i8 h7) ∧ True) ∧
  sel (!dA) (
  R (.bool false) bA) (
  let gA : Int := IntKind.i64.wrap (p4 + 1);
  ([.slice Aa0 na0 ca0, .pointer (some ⟨w.heap.size, 0, none⟩), .pointer (some ⟨p0.heap.size, 0, none⟩), .pointer (some ⟨v3.heap.size, 0, none⟩), .func (.func 77) #[] #[.pointer (some ⟨w.heap.size, 0, none⟩), .pointer (some ⟨p0.heap.size, 0, none⟩), .pointer (some ⟨v3.heap.size, 0, none⟩)], .slice d0 g0 h0, .int .i64 (g0 : Int), .int .i64 k0, .slice g4 h4 i4, .int .i64 (h4 : Int)] : List Value) = ([.slice Aa0 na0 ca0, .pointer (some ⟨w.heap.size, 0, none⟩), .pointer (some ⟨p0.heap.size, 0, none⟩), .pointer (some ⟨v3.heap.size, 0, none⟩), .func (.func 77) #[] #[.pointer (some ⟨w.heap.size, 0, none⟩), .pointer (some ⟨p0.heap.size, 0, none⟩), .pointer (some ⟨v3.heap.size, 0, none⟩)], .slice d0 g0 h0, .int .i64 (g0 : Int), .int .i64 k0, .slice g4 h4 i4, .int .i64 (h4 : Int)] : List Value) ∧ ∃ m, m < t4 ∧ j4 gA bA m)) (
  let hA : Int := IntKind.i64.wrap (p4 + 1);
  ([.slice Aa0 na0 ca0, .pointer (some ⟨w.heap.size, 0, none⟩), .pointer (some ⟨p0.heap.size, 0, none⟩), .pointer (some ⟨v3.heap.size, 0, none⟩), .func (.func 77) #[] #[.pointer (some ⟨w.heap.size, 0, none⟩), .pointer (some ⟨p0.heap.size, 0, none⟩), .pointer (some ⟨v3.heap.size, 0, none⟩)], .slice d0 g0 h0, .int .i64 (g0 : Int), .int .i64 k0, .slice g4 h4 i4, .int .i64 (h4 : Int)] : List Value) = ([.slice Aa0 na0 ca0, .pointer (some ⟨w.heap.size, 0, none⟩), .pointer (some ⟨p0.heap.size, 0, none⟩), .pointer (some ⟨v3.heap.size, 0, none⟩), .func (.func 77) #[] #[.pointer (some ⟨w.heap.size, 0, none⟩), .pointer (some ⟨p0.heap.size, 0, none⟩), .pointer (some ⟨v3.heap.size, 0, none⟩)], .slice d0 g0 h0, .int .i64 (g0 : Int), .int .i64 k0, .slice g4 h4 i4, .int .i64 (h4 : Int)] : List Value) ∧ ∃ m, m < t4 ∧ j4 hA q9 m)) (
  let iA : Int := IntKind.i64.wrap (p4 + 1);
  ([.slice Aa0 na0 ca0, .pointer (some ⟨w.heap.size, 0, none⟩), .pointer (some ⟨p0.heap.size, 0, none⟩), .pointer (some ⟨v3.heap.size, 0, none⟩), .func (.func 77) #[] #[.pointer (some ⟨w.heap.size, 0, none⟩), .pointer (some ⟨p0.heap.size, 0, none⟩), .pointer (some ⟨v3.heap.size, 0, none⟩)], .slice d0 g0 h0, .int .i64 (g0 : Int), .int .i64 k0, .slice g4 h4 i4, .int .i64 (h4 : Int)] : List Value) = ([.slice Aa0 na0 ca0, .pointer (some ⟨w.heap.size, 0, none⟩), .pointer (some ⟨p0.heap.size, 0, none⟩), .pointer (some ⟨v3.heap.size, 0, none⟩), .func (.func 77) #[] #[.pointer (some ⟨w.heap.size, 0, none⟩), .pointer (some ⟨p0.heap.size, 0, none⟩), .pointer (some ⟨v3.heap.size, 0, none⟩)], .slice d0 g0 h0, .int .i64 (g0 : Int), .int .i64 k0, .slice g4 h4 i4, .int .i64 (h4 : Int)] : List Value) ∧ ∃ m, m < t4 ∧ j4 iA g8 m)) (
  let jA : Int := IntKind.i64.wrap (p4 + 1);
  ([.slice Aa0 na0 ca0, .pointer (some ⟨w.heap.size, 0, none⟩), .pointer (some ⟨p0.heap.size, 0, none⟩), .pointer (some ⟨v3.heap.size, 0, none⟩), .func (.func 77) #[] #[.pointer (some ⟨w.heap.size, 0, none⟩), .pointer (some ⟨p0.heap.size, 0, none⟩), .pointer (some ⟨v3.heap.size, 0, none⟩)], .slice d0 g0 h0, .int .i64 (g0 : Int), .int .i64 k0, .slice g4 h4 i4, .int .i64 (h4 : Int)] : List Value) = ([.slice Aa0 na0 ca0, .pointer (some ⟨w.heap.size, 0, none⟩), .pointer (some ⟨p0.heap.size, 0, none⟩), .pointer (some ⟨v3.heap.size, 0, none⟩), .func (.func 77) #[] #[.pointer (some ⟨w.heap.size, 0, none⟩), .pointer (some ⟨p0.heap.size, 0, none⟩), .pointer (some ⟨v3.heap.size, 0, none⟩)], .slice d0 g0 h0, .int .i64 (g0 : Int), .int .i64 k0, .slice g4 h4 i4, .int .i64 (h4 : Int)] : List Value) ∧ ∃ m, m < t4 ∧ j4 jA g8 m)) (
  let kA : Int := IntKind.i64.wrap (p4 + 1);
  ([.slice Aa0 na0 ca0, .pointer (some ⟨w.heap.size, 0, none⟩), .pointer (some ⟨p0.heap.size, 0, none⟩), .pointer (some ⟨v3.heap.size, 0, none⟩), .func (.func 77) #[] #[.pointer (some ⟨w.heap.size, 0, none⟩), .pointer (some ⟨p0.heap.size, 0, none⟩), .pointer (some ⟨v3.heap.size, 0, none⟩)], .slice d0 g0 h0, .int .i64 (g0 : Int), .int .i64 k0, .slice g4 h4 i4, .int .i64 (h4 : Int)] : List Value) = ([.slice Aa0 na0 ca0, .pointer (some ⟨w.heap.size, 0, none⟩), .pointer (some ⟨p0.heap.size, 0, none⟩), .pointer (some ⟨v3.heap.size, 0, none⟩), .func (.func 77) #[] #[.pointer (some ⟨w.heap.size, 0, none⟩), .pointer (some ⟨p0.heap.size, 0, none⟩), .pointer (some ⟨v3.heap.size, 0, none⟩)], .slice d0 g0 h0, .int .i64 (g0 : Int), .int .i64 k0, .slice g4 h4 i4, .int .i64 (h4 : Int)] : List Value) ∧ ∃ m, m < t4 ∧ j4 kA g8 m)) (
  let pA : Int := IntKind.i64.wrap (p4 + 1);
  ([.slice Aa0 na0 ca0, .pointer (some ⟨w.heap.size, 0, none⟩), .pointer (some ⟨p0.heap.size, 0, none⟩), .pointer (some ⟨v3.heap.size, 0, none⟩), .func (.func 77) #[] #[.pointer (some ⟨w.heap.size, 0, none⟩), .pointer (some ⟨p0.heap.size, 0, none⟩), .pointer (some ⟨v3.heap.size, 0, none⟩)], .slice d0 g0 h0, .int .i64 (g0 : Int), .int .i64 k0, .slice g4 h4 i4, .int .i64 (h4 : Int)] : List Value) = ([.slice Aa0 na0 ca0, .pointer (some ⟨w.heap.size, 0, none⟩), .pointer (some ⟨p0.heap.size, 0, none⟩), .pointer (some ⟨v3.heap.size, 0, none⟩), .func (.func 77) #[] #[.pointer (some ⟨w.heap.size, 0, none⟩), .pointer (some ⟨p0.heap.size, 0, none⟩), .pointer (some ⟨v3.heap.size, 0, none⟩)], .slice d0 g0 h0, .int .i64 (g0 : Int), .int .i64 k0, .slice g4 h4 i4, .int .i64 (h4 : Int)] : List Value) ∧ ∃ m, m < t4 ∧ j4 pA t6.drew m)))) (
  ∃ qA,
  t6.cell? ⟨q4.heap.size, 2, none⟩ = some (.int .i8 qA) ∧
  sel ((qA : Int) == (3 : Int)) (
  ∃ tA,
  t6.cell? ⟨q4.heap.size, 0, none⟩ = some (.int .i64 tA) ∧
  ∃ uA,
  t6.cell? ⟨q4.heap.size, 1, none⟩ = some (.int .i64 uA) ∧
  ∃ vA,
  t6.cell? ⟨q4.heap.size, 2, none⟩ = some (.int .i8 vA) ∧
  ∃ xA,
  t6.cell? ⟨q4.heap.size, 3, none⟩ = some (.int .i64 xA) ∧
  ∃ yA,
  t6.cell? ⟨q4.heap.size, 4, none⟩ = some (.int .i64 yA) ∧
  ∃ zA,
  t6.cell? ⟨q4.heap.size, 5, none⟩ = some (.int .i64 zA) ∧
  ∃ bB,
  t6.cell? ⟨q4.heap.size, 6, none⟩ = some (.int .i64 bB) ∧
  ∃ dB,
  t6.cell? ⟨q4.heap.size, 7, none⟩ = some (.int .i64 dB) ∧
  ∃ gB,
  t6.cell? ⟨q4.heap.size, 8, none⟩ = some (.bool gB) ∧
  ∃ hB,
  t6.cell? ⟨q4.heap.size, 9, none⟩ = some (.int .i64 hB) ∧
  ∃ iB,
  t6.cell? ⟨q4.heap.size, 10, none⟩ = some (.bool iB) ∧
  ∃ jB,
  t6.cell? ⟨q4.heap.size, 11, none⟩ = some (.bool jB) ∧
  Calls Try.prog 70 #[.agg #[.int .i64 tA, .int .i64 uA, .int .i8 vA, .int .i64 xA, .int .i64 yA, .int .i64 zA, .int .i64 bB, .int .i64 dB, .bool gB, .int .i64 hB, .bool iB, .bool jB]] t6.drew fun kB pB =>
  ∃ qB,
  kB = .returned (.bool qB) ∧
  (stillC pB q4.heap.size [.int .i64 tA, .int .i64 uA, .int .i8 vA, .int .i64 xA, .int .i64 yA, .int .i64 zA, .int .i64 bB, .int .i64 dB, .bool gB, .int .i64 hB, .bool iB, .bool jB] 0 ∧ pB.cell? ⟨q4.heap.size, 2, none⟩ = some (.int .i8 qA) ∧ True) ∧
  sel qB (
  ∃ tB,
  pB.cell? ⟨q4.heap.size, 8, none⟩ = some (.bool tB) ∧
  sel tB (
  ∃ uB,
  pB.cell? ⟨q4.heap.size, 3, none⟩ = some (.int .i64 uB) ∧
  ∃ vB,
  pB.cell? ⟨p0.heap.size, 4, none⟩ = some (.int .i64 vB) ∧
  sel (decide ((vB : Int) < (uB : Int))) (
  ∃ xB,
  pB.cell? ⟨q4.heap.size, 0, none⟩ = some (.int .i64 xB) ∧
  ∃ yB,
  pB.cell? ⟨q4.heap.size, 1, none⟩ = some (.int .i64 yB) ∧
  ∃ zB,
  pB.cell? ⟨q4.heap.size, 2, none⟩ = some (.int .i8 zB) ∧
  ∃ bC,
  pB.cell? ⟨q4.heap.size, 3, none⟩ = some (.int .i64 bC) ∧
  ∃ dC,
  pB.cell? ⟨q4.heap.size, 4, none⟩ = some (.int .i64 dC) ∧
  ∃ gC,
  pB.cell? ⟨q4.heap.size, 5, none⟩ = some (.int .i64 gC) ∧
  ∃ hC,
  pB.cell? ⟨q4.heap.size, 6, none⟩ = some (.int .i64 hC) ∧
  ∃ iC,
  pB.cell? ⟨q4.heap.size, 7, none⟩ = some (.int .i64 iC) ∧
  ∃ jC,
  pB.cell? ⟨q4.heap.size, 8, none⟩ = some (.bool jC) ∧
  ∃ kC,
  pB.cell? ⟨q4.heap.size, 9, none⟩ = some (.int .i64 kC) ∧
  ∃ pC,
  pB.cell? ⟨q4.heap.size, 10, none⟩ = some (.bool pC) ∧
  ∃ qC,
  pB.cell? ⟨q4.heap.size, 11, none⟩ = some (.bool qC) ∧
  ∃ tC,
  pB.cell? ⟨v3.heap.size, 0, none⟩ = some (.string tC) ∧
  ∃ uC,
  pB.cell? ⟨v3.heap.size, 1, none⟩ = some (.string uC) ∧
  ∃ vC,
  pB.cell? ⟨v3.heap.size, 2, none⟩ = some (.string vC) ∧
  Calls Try.prog 76 #[.slice Aa0 na0 ca0, .agg #[.int .i64 xB, .int .i64 yB, .int .i8 zB, .int .i64 bC, .int .i64 dC, .int .i64 gC, .int .i64 hC, .int .i64 iC, .bool jC, .int .i64 kC, .bool pC, .bool qC]] pB fun xC yC =>
  ∃ zC bD dD,
  xC = .returned (.agg #[.string zC, .string bD, .string dD]) ∧
  (stillC yC v3.heap.size [.string tC, .string uC, .string vC] 0 ∧ stillC yC q4.heap.size [.int .i64 xB, .int .i64 yB, .int .i8 zB, .int .i64 bC, .int .i64 dC, .int .i64 gC, .int .i64 hC, .int .i64 iC, .bool jC, .int .i64 kC, .bool pC, .bool qC] 0 ∧ yC.cell? ⟨p0.heap.size, 4, none⟩ = some (.int .i64 vB) ∧ yC.cell? ⟨q4.heap.size, 3, none⟩ = some (.int .i64 uB) ∧ yC.cell? ⟨q4.heap.size, 8, none⟩ = some (.bool tB) ∧ stillC yC q4.heap.size [.int .i64 tA, .int .i64 uA, .int .i8 vA, .int .i64 xA, .int .i64 yA, .int .i64 zA, .int .i64 bB, .int .i64 dB, .bool gB, .int .i64 hB, .bool iB, .bool jB] 0 ∧ yC.cell? ⟨q4.heap.size, 2, none⟩ = some (.int .i8 qA) ∧ True) ∧
  ∃ gD : Bool, (∀ w', (do eqGuard .eql 37 (.tmp 86) (.tmp 87) (.agg #[.string zC, .string bD, .string dD]) (.agg #[.string tC, .string uC, .string vC]); binOp .eql 37 (.agg #[.string zC, .string bD, .string dD]) (.agg #[.string tC, .string uC, .string vC]) : Sem Value).run Try.prog w' = .ok (.bool gD) w') ∧
  sel gD (
  ∃ hD,
  yC.cell? ⟨q4.heap.size, 5, none⟩ = some (.int .i64 hD) ∧
  Calls Try.prog 77 #[.int .i64 hD, .pointer (some ⟨w.heap.size, 0, none⟩), .pointer (some ⟨p0.heap.size, 0, none⟩), .pointer (some ⟨v3.heap.size, 0, none⟩)] yC fun iD jD =>
  ∃ kD,
  iD = .returned (.bool kD) ∧
  (jD.cell? ⟨q4.heap.size, 5, none⟩ = some (.int .i64 hD) ∧ stillC jD v3.heap.size [.string tC, .string uC, .string vC] 0 ∧ stillC jD q4.heap.size [.int .i64 xB, .int .i64 yB, .int .i8 zB, .int .i64 bC, .int .i64 dC, .int .i64 gC, .int .i64 hC, .int .i64 iC, .bool jC, .int .i64 kC, .bool pC, .bool qC] 0 ∧ jD.cell? ⟨p0.heap.size, 4, none⟩ = some (.int .i64 vB) ∧ jD.cell? ⟨q4.heap.size, 3, none⟩ = some (.int .i64 uB) ∧ jD.cell? ⟨q4.heap.size, 8, none⟩ = some (.bool tB) ∧ stillC jD q4.heap.size [.int .i64 tA, .int .i64 uA, .int .i8 vA, .int .i64 xA, .int .i64 yA, .int .i64 zA, .int .i64 bB, .int .i64 dB, .bool gB, .int .i64 hB, .bool iB, .bool jB] 0 ∧ jD.cell? ⟨q4.heap.size, 2, none⟩ = some (.int .i8 qA) ∧ True) ∧
  sel (!kD) (
  R (.bool false) jD) (
  let pD : Int := IntKind.i64.wrap (p4 + 1);
  ([.slice Aa0 na0 ca0, .pointer (some ⟨w.heap.size, 0, none⟩), .pointer (some ⟨p0.heap.size, 0, none⟩), .pointer (some ⟨v3.heap.size, 0, none⟩), .func (.func 77) #[] #[.pointer (some ⟨w.heap.size, 0, none⟩), .pointer (some ⟨p0.heap.size, 0, none⟩), .pointer (some ⟨v3.heap.size, 0, none⟩)], .slice d0 g0 h0, .int .i64 (g0 : Int), .int .i64 k0, .slice g4 h4 i4, .int .i64 (h4 : Int)] : List Value) = ([.slice Aa0 na0 ca0, .pointer (some ⟨w.heap.size, 0, none⟩), .pointer (some ⟨p0.heap.size, 0, none⟩), .pointer (some ⟨v3.heap.size, 0, none⟩), .func (.func 77) #[] #[.pointer (some ⟨w.heap.size, 0, none⟩), .pointer (some ⟨p0.heap.size, 0, none⟩), .pointer (some ⟨v3.heap.size, 0, none⟩)], .slice d0 g0 h0, .int .i64 (g0 : Int), .int .i64 k0, .slice g4 h4 i4, .int .i64 (h4 : Int)] : List Value) ∧ ∃ m, m < t4 ∧ j4 pD jD m)) (
  let qD : Int := IntKind.i64.wrap (p4 + 1);
  ([.slice Aa0 na0 ca0, .pointer (some ⟨w.heap.size, 0, none⟩), .pointer (some ⟨p0.heap.size, 0, none⟩), .pointer (some ⟨v3.heap.size, 0, none⟩), .func (.func 77) #[] #[.pointer (some ⟨w.heap.size, 0, none⟩), .pointer (some ⟨p0.heap.size, 0, none⟩), .pointer (some ⟨v3.heap.size, 0, none⟩)], .slice d0 g0 h0, .int .i64 (g0 : Int), .int .i64 k0, .slice g4 h4 i4, .int .i64 (h4 : Int)] : List Value) = ([.slice Aa0 na0 ca0, .pointer (some ⟨w.heap.size, 0, none⟩), .pointer (some ⟨p0.heap.size, 0, none⟩), .pointer (some ⟨v3.heap.size, 0, none⟩), .func (.func 77) #[] #[.pointer (some ⟨w.heap.size, 0, none⟩), .pointer (some ⟨p0.heap.size, 0, none⟩), .pointer (some ⟨v3.heap.size, 0, none⟩)], .slice d0 g0 h0, .int .i64 (g0 : Int), .int .i64 k0, .slice g4 h4 i4, .int .i64 (h4 : Int)] : List Value) ∧ ∃ m, m < t4 ∧ j4 qD yC m)) (
  let tD : Int := IntKind.i64.wrap (p4 + 1);
  ([.slice Aa0 na0 ca0, .pointer (some ⟨w.heap.size, 0, none⟩), .pointer (some ⟨p0.heap.size, 0, none⟩), .pointer (some ⟨v3.heap.size, 0, none⟩), .func (.func 77) #[] #[.pointer (some ⟨w.heap.size, 0, none⟩), .pointer (some ⟨p0.heap.size, 0, none⟩), .pointer (some ⟨v3.heap.size, 0, none⟩)], .slice d0 g0 h0, .int .i64 (g0 : Int), .int .i64 k0, .slice g4 h4 i4, .int .i64 (h4 : Int)] : List Value) = ([.slice Aa0 na0 ca0, .pointer (some ⟨w.heap.size, 0, none⟩), .pointer (some ⟨p0.heap.size, 0, none⟩), .pointer (some ⟨v3.heap.size, 0, none⟩), .func (.func 77) #[] #[.pointer (some ⟨w.heap.size, 0, none⟩), .pointer (some ⟨p0.heap.size, 0, none⟩), .pointer (some ⟨v3.heap.size, 0, none⟩)], .slice d0 g0 h0, .int .i64 (g0 : Int), .int .i64 k0, .slice g4 h4 i4, .int .i64 (h4 : Int)] : List Value) ∧ ∃ m, m < t4 ∧ j4 tD pB m)) (
  let uD : Int := IntKind.i64.wrap (p4 + 1);
  ([.slice Aa0 na0 ca0, .pointer (some ⟨w.heap.size, 0, none⟩), .pointer (some ⟨p0.heap.size, 0, none⟩), .pointer (some ⟨v3.heap.size, 0, none⟩), .func (.func 77) #[] #[.pointer (some ⟨w.heap.size, 0, none⟩), .pointer (some ⟨p0.heap.size, 0, none⟩), .pointer (some ⟨v3.heap.size, 0, none⟩)], .slice d0 g0 h0, .int .i64 (g0 : Int), .int .i64 k0, .slice g4 h4 i4, .int .i64 (h4 : Int)] : List Value) = ([.slice Aa0 na0 ca0, .pointer (some ⟨w.heap.size, 0, none⟩), .pointer (some ⟨p0.heap.size, 0, none⟩), .pointer (some ⟨v3.heap.size, 0, none⟩), .func (.func 77) #[] #[.pointer (some ⟨w.heap.size, 0, none⟩), .pointer (some ⟨p0.heap.size, 0, none⟩), .pointer (some ⟨v3.heap.size, 0, none⟩)], .slice d0 g0 h0, .int .i64 (g0 : Int), .int .i64 k0, .slice g4 h4 i4, .int .i64 (h4 : Int)] : List Value) ∧ ∃ m, m < t4 ∧ j4 uD pB m)) (
  let vD : Int := IntKind.i64.wrap (p4 + 1);
  ([.slice Aa0 na0 ca0, .pointer (some ⟨w.heap.size, 0, none⟩), .pointer (some ⟨p0.heap.size, 0, none⟩), .pointer (some ⟨v3.heap.size, 0, none⟩), .func (.func 77) #[] #[.pointer (some ⟨w.heap.size, 0, none⟩), .pointer (some ⟨p0.heap.size, 0, none⟩), .pointer (some ⟨v3.heap.size, 0, none⟩)], .slice d0 g0 h0, .int .i64 (g0 : Int), .int .i64 k0, .slice g4 h4 i4, .int .i64 (h4 : Int)] : List Value) = ([.slice Aa0 na0 ca0, .pointer (some ⟨w.heap.size, 0, none⟩), .pointer (some ⟨p0.heap.size, 0, none⟩), .pointer (some ⟨v3.heap.size, 0, none⟩), .func (.func 77) #[] #[.pointer (some ⟨w.heap.size, 0, none⟩), .pointer (some ⟨p0.heap.size, 0, none⟩), .pointer (some ⟨v3.heap.size, 0, none⟩)], .slice d0 g0 h0, .int .i64 (g0 : Int), .int .i64 k0, .slice g4 h4 i4, .int .i64 (h4 : Int)] : List Value) ∧ ∃ m, m < t4 ∧ j4 vD pB m)) (
  let xD : Int := IntKind.i64.wrap (p4 + 1);
  ([.slice Aa0 na0 ca0, .pointer (some ⟨w.heap.size, 0, none⟩), .pointer (some ⟨p0.heap.size, 0, none⟩), .pointer (some ⟨v3.heap.size, 0, none⟩), .func (.func 77) #[] #[.pointer (some ⟨w.heap.size, 0, none⟩), .pointer (some ⟨p0.heap.size, 0, none⟩), .pointer (some ⟨v3.heap.size, 0, none⟩)], .slice d0 g0 h0, .int .i64 (g0 : Int), .int .i64 k0, .slice g4 h4 i4, .int .i64 (h4 : Int)] : List Value) = ([.slice Aa0 na0 ca0, .pointer (some ⟨w.heap.size, 0, none⟩), .pointer (some ⟨p0.heap.size, 0, none⟩), .pointer (some ⟨v3.heap.size, 0, none⟩), .func (.func 77) #[] #[.pointer (some ⟨w.heap.size, 0, none⟩), .pointer (some ⟨p0.heap.size, 0, none⟩), .pointer (some ⟨v3.heap.size, 0, none⟩)], .slice d0 g0 h0, .int .i64 (g0 : Int), .int .i64 k0, .slice g4 h4 i4, .int .i64 (h4 : Int)] : List Value) ∧ ∃ m, m < t4 ∧ j4 xD t6.drew m))) (
  ∃ yD,
  t6.cell? ⟨q4.heap.size, 2, none⟩ = some (.int .i8 yD) ∧
  sel ((yD : Int) == (3 : Int)) (
  ∃ zD,
  t6.cell? ⟨q4.heap.size, 0, none⟩ = some (.int .i64 zD) ∧
  ∃ bE,
  t6.cell? ⟨q4.heap.size, 1, none⟩ = some (.int .i64 bE) ∧
  ∃ dE,
  t6.cell? ⟨q4.heap.size, 2, none⟩ = some (.int .i8 dE) ∧
  ∃ gE,
  t6.cell? ⟨q4.heap.size, 3, none⟩ = some (.int .i64 gE) ∧
  ∃ hE,
  t6.cell? ⟨q4.heap.size, 4, none⟩ = some (.int .i64 hE) ∧
  ∃ iE,
  t6.cell? ⟨q4.heap.size, 5, none⟩ = some (.int .i64 iE) ∧
  ∃ jE,
  t6.cell? ⟨q4.heap.size, 6, none⟩ = some (.int .i64 jE) ∧
  ∃ kE,
  t6.cell? ⟨q4.heap.size, 7, none⟩ = some (.int .i64 kE) ∧
  ∃ pE,
  t6.cell? ⟨q4.heap.size, 8, none⟩ = some (.bool pE) ∧
  ∃ qE,
  t6.cell? ⟨q4.heap.size, 9, none⟩ = some (.int .i64 qE) ∧
  ∃ tE,
  t6.cell? ⟨q4.heap.size, 10, none⟩ = some (.bool tE) ∧
  ∃ uE,
  t6.cell? ⟨q4.heap.size, 11, none⟩ = some (.bool uE) ∧
  Calls Try.prog 70 #[.agg #[.int .i64 zD, .int .i64 bE, .int .i8 dE, .int .i64 gE, .int .i64 hE, .int .i64 iE, .int .i64 jE, .int .i64 kE, .bool pE, .int .i64 qE, .bool tE, .bool uE]] t6.drew fun vE xE =>
  ∃ yE,
  vE = .returned (.bool yE) ∧
  (stillC xE q4.heap.size [.int .i64 zD, .int .i64 bE, .int .i8 dE, .int .i64 gE, .int .i64 hE, .int .i64 iE, .int .i64 jE, .int .i64 kE, .bool pE, .int .i64 qE, .bool tE, .bool uE] 0 ∧ xE.cell? ⟨q4.heap.size, 2, none⟩ = some (.int .i8 yD) ∧ True) ∧
  sel yE (
  ∃ zE,
  xE.cell? ⟨q4.heap.size, 8, none⟩ = some (.bool zE) ∧
  sel zE (
  ∃ bF,
  xE.cell? ⟨q4.heap.size, 3, none⟩ = some (.int .i64 bF) ∧
  ∃ dF,
  xE.cell? ⟨p0.heap.size, 4, none⟩ = some (.int .i64 dF) ∧
  sel (decide ((dF : Int) < (bF : Int))) (
  ∃ gF,
  xE.cell? ⟨q4.heap.size, 0, none⟩ = some (.int .i64 gF) ∧
  ∃ hF,
  xE.cell? ⟨q4.heap.size, 1, none⟩ = some (.int .i64 hF) ∧
  ∃ iF,
  xE.cell? ⟨q4.heap.size, 2, none⟩ = some (.int .i8 iF) ∧
  ∃ jF,
  xE.cell? ⟨q4.heap.size, 3, none⟩ = some (.int .i64 jF) ∧
  ∃ kF,
  xE.cell? ⟨q4.heap.size, 4, none⟩ = some (.int .i64 kF) ∧
  ∃ pF,
  xE.cell? ⟨q4.heap.size, 5, none⟩ = some (.int .i64 pF) ∧
  ∃ qF,
  xE.cell? ⟨q4.heap.size, 6, none⟩ = some (.int .i64 qF) ∧
  ∃ tF,
  xE.cell? ⟨q4.heap.size, 7, none⟩ = some (.int .i64 tF) ∧
  ∃ uF,
  xE.cell? ⟨q4.heap.size, 8, none⟩ = some (.bool uF) ∧
  ∃ vF,
  xE.cell? ⟨q4.heap.size, 9, none⟩ = some (.int .i64 vF) ∧
  ∃ xF,
  xE.cell? ⟨q4.heap.size, 10, none⟩ = some (.bool xF) ∧
  ∃ yF,
  xE.cell? ⟨q4.heap.size, 11, none⟩ = some (.bool yF) ∧
  ∃ zF,
  xE.cell? ⟨v3.heap.size, 0, none⟩ = some (.string zF) ∧
  ∃ bG,
  xE.cell? ⟨v3.heap.size, 1, none⟩ = some (.string bG) ∧
  ∃ dG,
  xE.cell? ⟨v3.heap.size, 2, none⟩ = some (.string dG) ∧
  Calls Try.prog 76 #[.slice Aa0 na0 ca0, .agg #[.int .i64 gF, .int .i64 hF, .int .i8 iF, .int .i64 jF, .int .i64 kF, .int .i64 pF, .int .i64 qF, .int .i64 tF, .bool uF, .int .i64 vF, .bool xF, .bool yF]] xE fun gG hG =>
  ∃ iG jG kG,
  gG = .returned (.agg #[.string iG, .string jG, .string kG]) ∧
  (stillC hG v3.heap.size [.string zF, .string bG, .string dG] 0 ∧ stillC hG q4.heap.size [.int .i64 gF, .int .i64 hF, .int .i8 iF, .int .i64 jF, .int .i64 kF, .int .i64 pF, .int .i64 qF, .int .i64 tF, .bool uF, .int .i64 vF, .bool xF, .bool yF] 0 ∧ hG.cell? ⟨p0.heap.size, 4, none⟩ = some (.int .i64 dF) ∧ hG.cell? ⟨q4.heap.size, 3, none⟩ = some (.int .i64 bF) ∧ hG.cell? ⟨q4.heap.size, 8, none⟩ = some (.bool zE) ∧ stillC hG q4.heap.size [.int .i64 zD, .int .i64 bE, .int .i8 dE, .int .i64 gE, .int .i64 hE, .int .i64 iE, .int .i64 jE, .int .i64 kE, .bool pE, .int .i64 qE, .bool tE, .bool uE] 0 ∧ hG.cell? ⟨q4.heap.size, 2, none⟩ = some (.int .i8 yD) ∧ True) ∧
  ∃ pG : Bool, (∀ w', (do eqGuard .eql 37 (.tmp 86) (.tmp 87) (.agg #[.string iG, .string jG, .string kG]) (.agg #[.string zF, .string bG, .string dG]); binOp .eql 37 (.agg #[.string iG, .string jG, .string kG]) (.agg #[.string zF, .string bG, .string dG]) : Sem Value).run Try.prog w' = .ok (.bool pG) w') ∧
  sel pG (
  ∃ qG,
  hG.cell? ⟨q4.heap.size, 5, none⟩ = some (.int .i64 qG) ∧
  Calls Try.prog 77 #[.int .i64 qG, .pointer (some ⟨w.heap.size, 0, none⟩), .pointer (some ⟨p0.heap.size, 0, none⟩), .pointer (some ⟨v3.heap.size, 0, none⟩)] hG fun tG uG =>
  ∃ vG,
  tG = .returned (.bool vG) ∧
  (uG.cell? ⟨q4.heap.size, 5, none⟩ = some (.int .i64 qG) ∧ stillC uG v3.heap.size [.string zF, .string bG, .string dG] 0 ∧ stillC uG q4.heap.size [.int .i64 gF, .int .i64 hF, .int .i8 iF, .int .i64 jF, .int .i64 kF, .int .i64 pF, .int .i64 qF, .int .i64 tF, .bool uF, .int .i64 vF, .bool xF, .bool yF] 0 ∧ uG.cell? ⟨p0.heap.size, 4, none⟩ = some (.int .i64 dF) ∧ uG.cell? ⟨q4.heap.size, 3, none⟩ = some (.int .i64 bF) ∧ uG.cell? ⟨q4.heap.size, 8, none⟩ = some (.bool zE) ∧ stillC uG q4.heap.size [.int .i64 zD, .int .i64 bE, .int .i8 dE, .int .i64 gE, .int .i64 hE, .int .i64 iE, .int .i64 jE, .int .i64 kE, .bool pE, .int .i64 qE, .bool tE, .bool uE] 0 ∧ uG.cell? ⟨q4.heap.size, 2, none⟩ = some (.int .i8 yD) ∧ True) ∧
  sel (!vG) (
  R (.bool false) uG) (
  let xG : Int := IntKind.i64.wrap (p4 + 1);
  ([.slice Aa0 na0 ca0, .pointer (some ⟨w.heap.size, 0, none⟩), .pointer (some ⟨p0.heap.size, 0, none⟩), .pointer (some ⟨v3.heap.size, 0, none⟩), .func (.func 77) #[] #[.pointer (some ⟨w.heap.size, 0, none⟩), .pointer (some ⟨p0.heap.size, 0, none⟩), .pointer (some ⟨v3.heap.size, 0, none⟩)], .slice d0 g0 h0, .int .i64 (g0 : Int), .int .i64 k0, .slice g4 h4 i4, .int .i64 (h4 : Int)] : List Value) = ([.slice Aa0 na0 ca0, .pointer (some ⟨w.heap.size, 0, none⟩), .pointer (some ⟨p0.heap.size, 0, none⟩), .pointer (some ⟨v3.heap.size, 0, none⟩), .func (.func 77) #[] #[.pointer (some ⟨w.heap.size, 0, none⟩), .pointer (some ⟨p0.heap.size, 0, none⟩), .pointer (some ⟨v3.heap.size, 0, none⟩)], .slice d0 g0 h0, .int .i64 (g0 : Int), .int .i64 k0, .slice g4 h4 i4, .int .i64 (h4 : Int)] : List Value) ∧ ∃ m, m < t4 ∧ j4 xG uG m)) (
  let yG : Int := IntKind.i64.wrap (p4 + 1);
  ([.slice Aa0 na0 ca0, .pointer (some ⟨w.heap.size, 0, none⟩), .pointer (some ⟨p0.heap.size, 0, none⟩), .pointer (some ⟨v3.heap.size, 0, none⟩), .func (.func 77) #[] #[.pointer (some ⟨w.heap.size, 0, none⟩), .pointer (some ⟨p0.heap.size, 0, none⟩), .pointer (some ⟨v3.heap.size, 0, none⟩)], .slice d0 g0 h0, .int .i64 (g0 : Int), .int .i64 k0, .slice g4 h4 i4, .int .i64 (h4 : Int)] : List Value) = ([.slice Aa0 na0 ca0, .pointer (some ⟨w.heap.size, 0, none⟩), .pointer (some ⟨p0.heap.size, 0, none⟩), .pointer (some ⟨v3.heap.size, 0, none⟩), .func (.func 77) #[] #[.pointer (some ⟨w.heap.size, 0, none⟩), .pointer (some ⟨p0.heap.size, 0, none⟩), .pointer (some ⟨v3.heap.size, 0, none⟩)], .slice d0 g0 h0, .int .i64 (g0 : Int), .int .i64 k0, .slice g4 h4 i4, .int .i64 (h4 : Int)] : List Value) ∧ ∃ m, m < t4 ∧ j4 yG hG m)) (
  let zG : Int := IntKind.i64.wrap (p4 + 1);
  ([.slice Aa0 na0 ca0, .pointer (some ⟨w.heap.size, 0, none⟩), .pointer (some ⟨p0.heap.size, 0, none⟩), .pointer (some ⟨v3.heap.size, 0, none⟩), .func (.func 77) #[] #[.pointer (some ⟨w.heap.size, 0, none⟩), .pointer (some ⟨p0.heap.size, 0, none⟩), .pointer (some ⟨v3.heap.size, 0, none⟩)], .slice d0 g0 h0, .int .i64 (g0 : Int), .int .i64 k0, .slice g4 h4 i4, .int .i64 (h4 : Int)] : List Value) = ([.slice Aa0 na0 ca0, .pointer (some ⟨w.heap.size, 0, none⟩), .pointer (some ⟨p0.heap.size, 0, none⟩), .pointer (some ⟨v3.heap.size, 0, none⟩), .func (.func 77) #[] #[.pointer (some ⟨w.heap.size, 0, none⟩), .pointer (some ⟨p0.heap.size, 0, none⟩), .pointer (some ⟨v3.heap.size, 0, none⟩)], .slice d0 g0 h0, .int .i64 (g0 : Int), .int .i64 k0, .slice g4 h4 i4, .int .i64 (h4 : Int)] : List Value) ∧ ∃ m, m < t4 ∧ j4 zG xE m)) (
  let bH : Int := IntKind.i64.wrap (p4 + 1);
  ([.slice Aa0 na0 ca0, .pointer (some ⟨w.heap.size, 0, none⟩), .pointer (some ⟨p0.heap.size, 0, none⟩), .pointer (some ⟨v3.heap.size, 0, none⟩), .func (.func 77) #[] #[.pointer (some ⟨w.heap.size, 0, none⟩), .pointer (some ⟨p0.heap.size, 0, none⟩), .pointer (some ⟨v3.heap.size, 0, none⟩)], .slice d0 g0 h0, .int .i64 (g0 : Int), .int .i64 k0, .slice g4 h4 i4, .int .i64 (h4 : Int)] : List Value) = ([.slice Aa0 na0 ca0, .pointer (some ⟨w.heap.size, 0, none⟩), .pointer (some ⟨p0.heap.size, 0, none⟩), .pointer (some ⟨v3.heap.size, 0, none⟩), .func (.func 77) #[] #[.pointer (some ⟨w.heap.size, 0, none⟩), .pointer (some ⟨p0.heap.size, 0, none⟩), .pointer (some ⟨v3.heap.size, 0, none⟩)], .slice d0 g0 h0, .int .i64 (g0 : Int), .int .i64 k0, .slice g4 h4 i4, .int .i64 (h4 : Int)] : List Value) ∧ ∃ m, m < t4 ∧ j4 bH xE m)) (
  let dH : Int := IntKind.i64.wrap (p4 + 1);
  ([.slice Aa0 na0 ca0, .pointer (some ⟨w.heap.size, 0, none⟩), .pointer (some ⟨p0.heap.size, 0, none⟩), .pointer (some ⟨v3.heap.size, 0, none⟩), .func (.func 77) #[] #[.pointer (some ⟨w.heap.size, 0, none⟩), .pointer (some ⟨p0.heap.size, 0, none⟩), .pointer (some ⟨v3.heap.size, 0, none⟩)], .slice d0 g0 h0, .int .i64 (g0 : Int), .int .i64 k0, .slice g4 h4 i4, .int .i64 (h4 : Int)] : List Value) = ([.slice Aa0 na0 ca0, .pointer (some ⟨w.heap.size, 0, none⟩), .pointer (some ⟨p0.heap.size, 0, none⟩), .pointer (some ⟨v3.heap.size, 0, none⟩), .func (.func 77) #[] #[.pointer (some ⟨w.heap.size, 0, none⟩), .pointer (some ⟨p0.heap.size, 0, none⟩), .pointer (some ⟨v3.heap.size, 0, none⟩)], .slice d0 g0 h0, .int .i64 (g0 : Int), .int .i64 k0, .slice g4 h4 i4, .int .i64 (h4 : Int)] : List Value) ∧ ∃ m, m < t4 ∧ j4 dH xE m)) (
  let gH : Int := IntKind.i64.wrap (p4 + 1);
  ([.slice Aa0 na0 ca0, .pointer (some ⟨w.heap.size, 0, none⟩), .pointer (some ⟨p0.heap.size, 0, none⟩), .pointer (some ⟨v3.heap.size, 0, none⟩), .func (.func 77) #[] #[.pointer (some ⟨w.heap.size, 0, none⟩), .pointer (some ⟨p0.heap.size, 0, none⟩), .pointer (some ⟨v3.heap.size, 0, none⟩)], .slice d0 g0 h0, .int .i64 (g0 : Int), .int .i64 k0, .slice g4 h4 i4, .int .i64 (h4 : Int)] : List Value) = ([.slice Aa0 na0 ca0, .pointer (some ⟨w.heap.size, 0, none⟩), .pointer (some ⟨p0.heap.size, 0, none⟩), .pointer (some ⟨v3.heap.size, 0, none⟩), .func (.func 77) #[] #[.pointer (some ⟨w.heap.size, 0, none⟩), .pointer (some ⟨p0.heap.size, 0, none⟩), .pointer (some ⟨v3.heap.size, 0, none⟩)], .slice d0 g0 h0, .int .i64 (g0 : Int), .int .i64 k0, .slice g4 h4 i4, .int .i64 (h4 : Int)] : List Value) ∧ ∃ m, m < t4 ∧ j4 gH t6.drew m)))) (
  ∃ hH,
  q4.cell? ⟨w.heap.size, 0, none⟩ = some (.int .i64 hH) ∧
  ∃ iH jH kH,
  q4.cell? ⟨w.heap.size, 1, none⟩ = some (.slice iH jH kH) ∧
  ∃ pH qH tH,
  q4.cell? ⟨w.heap.size, 2, none⟩ = some (.slice pH qH tH) ∧
  ∃ uH vH xH,
  q4.cell? ⟨w.heap.size, 3, none⟩ = some (.slice uH vH xH) ∧
  ∃ yH zH bI,
  q4.cell? ⟨w.heap.size, 4, none⟩ = some (.slice yH zH bI) ∧
  ∃ dI gI hI,
  q4.cell? ⟨w.heap.size, 5, none⟩ = some (.slice dI gI hI) ∧
  ∃ iI jI kI,
  q4.cell? ⟨w.heap.size, 6, none⟩ = some (.slice iI jI kI) ∧
  ∃ pI qI tI,
  q4.cell? ⟨w.heap.size, 7, none⟩ = some (.slice pI qI tI) ∧
  ∃ uI,
  q4.cell? ⟨w.heap.size, 8, none⟩ = some (.string uI) ∧
  ∃ vI,
  q4.cell? ⟨w.heap.size, 9, none⟩ = some (.int .i64 vI) ∧
  ∃ xI,
  q4.cell? ⟨p0.heap.size, 5, none⟩ = some (.int .i64 xI) ∧
  ∃ yI,
  q4.cell? ⟨w.heap.size, 0, none⟩ = some (.int .i64 yI) ∧
  ∃ zI bJ dJ,
  q4.cell? ⟨w.heap.size, 1, none⟩ = some (.slice zI bJ dJ) ∧
  ∃ gJ hJ iJ,
  q4.cell? ⟨w.heap.size, 2, none⟩ = some (.slice gJ hJ iJ) ∧
  ∃ jJ kJ pJ,
  q4.cell? ⟨w.heap.size, 3, none⟩ = some (.slice jJ kJ pJ) ∧
  ∃ qJ tJ uJ,
  q4.cell? ⟨w.heap.size, 4, none⟩ = some (.slice qJ tJ uJ) ∧
  ∃ vJ xJ yJ,
  q4.cell? ⟨w.heap.size, 5, none⟩ = some (.slice vJ xJ yJ) ∧
  ∃ zJ bK dK,
  q4.cell? ⟨w.heap.size, 6, none⟩ = some (.slice zJ bK dK) ∧
  ∃ gK hK iK,
  q4.cell? ⟨w.heap.size, 7, none⟩ = some (.slice gK hK iK) ∧
  ∃ jK,
  q4.cell? ⟨w.heap.size, 8, none⟩ = some (.string jK) ∧
  ∃ kK,
  q4.cell? ⟨w.heap.size, 9, none⟩ = some (.int .i64 kK) ∧
  ∃ pK,
  q4.cell? ⟨p0.heap.size, 5, none⟩ = some (.int .i64 pK) ∧
  Calls Try.prog 75 #[.agg #[.int .i64 hH, .slice iH jH kH, .slice pH qH tH, .slice uH vH xH, .slice yH zH bI, .slice dI gI hI, .slice iI jI kI, .slice pI qI tI, .string uI, .int .i64 vI], .int .i64 xI] q4.drew fun qK tK =>
  ∃ uK,
  qK = .returned (.pointer uK) ∧
  (tK.cell? ⟨p0.heap.size, 5, none⟩ = some (.int .i64 pK) ∧ stillC tK w.heap.size [.int .i64 yI, .slice zI bJ dJ, .slice gJ hJ iJ, .slice jJ kJ pJ, .slice qJ tJ uJ, .slice vJ xJ yJ, .slice zJ bK dK, .slice gK hK iK, .string jK, .int .i64 kK] 0 ∧ tK.cell? ⟨p0.heap.size, 5, none⟩ = some (.int .i64 xI) ∧ stillC tK w.heap.size [.int .i64 hH, .slice iH jH kH, .slice pH qH tH, .slice uH vH xH, .slice yH zH bI, .slice dI gI hI, .slice iI jI kI, .slice pI qI tI, .string uI, .int .i64 vI] 0 ∧ True) ∧
  Calls Try.prog 79 #[.agg #[.int .i64 yI, .slice zI bJ dJ, .slice gJ hJ iJ, .slice jJ kJ pJ, .slice qJ tJ uJ, .slice vJ xJ yJ, .slice zJ bK dK, .slice gK hK iK, .string jK, .int .i64 kK], .int .i64 pK] tK fun vK xK =>
  ∃ yK,
  vK = .returned (.pointer yK) ∧
  (xK.cell? ⟨p0.heap.size, 5, none⟩ = some (.int .i64 pK) ∧ stillC xK w.heap.size [.int .i64 yI, .slice zI bJ dJ, .slice gJ hJ iJ, .slice jJ kJ pJ, .slice qJ tJ uJ, .slice vJ xJ yJ, .slice zJ bK dK, .slice gK hK iK, .string jK, .int .i64 kK] 0 ∧ xK.cell? ⟨p0.heap.size, 5, none⟩ = some (.int .i64 xI) ∧ stillC xK w.heap.size [.int .i64 hH, .slice iH jH kH, .slice pH qH tH, .slice uH vH xH, .slice yH zH bI, .slice dI gI hI, .slice iI jI kI, .slice pI qI tI, .string uI, .int .i64 vI] 0 ∧ True) ∧
  sel (Option.isNone uK) (
  R (.bool false) xK) (
  sel (Option.isNone yK) (
  R (.bool false) xK) (
  needPtr uK fun zK bL =>
  ∃ dL gL hL,
  xK.cell? ⟨zK, bL + 5, none⟩ = some (.slice dL gL hL) ∧
  ∃ iL jL kL,
  xK.cell? ⟨zK, bL + 5 + 1, none⟩ = some (.slice iL jL kL) ∧
  ∃ pL qL tL,
  xK.cell? ⟨zK, bL + 5 + 1 + 1, none⟩ = some (.slice pL qL tL) ∧
  ∃ uL vL xL,
  xK.cell? ⟨zK, bL + 5 + 1 + 1 + 1, none⟩ = some (.slice uL vL xL) ∧
  ∃ yL zL bM,
  xK.cell? ⟨zK, bL + 5 + 1 + 1 + 1 + 1, none⟩ = some (.slice yL zL bM) ∧
  ∃ dM gM hM,
  xK.cell? ⟨zK, bL + 5 + 1 + 1 + 1 + 1 + 1, none⟩ = some (.slice dM gM hM) ∧
  ∃ iM jM kM,
  xK.cell? ⟨zK, bL + 5 + 1 + 1 + 1 + 1 + 1 + 1, none⟩ = some (.slice iM jM kM) ∧
  ∃ pM qM tM,
  xK.cell? ⟨zK, bL + 5 + 1 + 1 + 1 + 1 + 1 + 1 + 1, none⟩ = some (.slice pM qM tM) ∧
  ∃ uM vM xM,
  xK.cell? ⟨zK, bL + 5 + 1 + 1 + 1 + 1 + 1 + 1 + 1 + 1, none⟩ = some (.slice uM vM xM) ∧
  ∃ yM zM bN,
  xK.cell? ⟨zK, bL + 5 + 1 + 1 + 1 + 1 + 1 + 1 + 1 + 1 + 1, none⟩ = some (.slice yM zM bN) ∧
  ∃ dN gN hN,
  xK.cell? ⟨zK, bL + 5 + 1 + 1 + 1 + 1 + 1 + 1 + 1 + 1 + 1 + 1, none⟩ = some (.slice dN gN hN) ∧
  Calls Try.prog 81 #[.agg #[.slice dL gL hL, .slice iL jL kL, .slice pL qL tL, .slice uL vL xL, .slice yL zL bM, .slice dM gM hM, .slice iM jM kM, .slice pM qM tM, .slice uM vM xM, .slice yM zM bN, .slice dN gN hN]] xK fun iN jN =>
  ∃ kN pN qN,
  iN = .returned (.slice kN pN qN) ∧
  Calls Try.prog 80 #[.slice kN pN qN, .func (.func 82) #[] #[.pointer (some ⟨v3.heap.size, 0, none⟩)]] jN fun tN uN =>
  ∃ vN xN yN,
  tN = .returned (.slice vN xN yN) ∧
  needPtr yK fun zN bP =>
  ∃ dP gP hP,
  uN.cell? ⟨zN, bP + 5, none⟩ = some (.slice dP gP hP) ∧
  ∃ iP jP kP,
  uN.cell? ⟨zN, bP + 5 + 1, none⟩ = some (.slice iP jP kP) ∧
  ∃ pP qP tP,
  uN.cell? ⟨zN, bP + 5 + 1 + 1, none⟩ = some (.slice pP qP tP) ∧
  ∃ uP vP xP,
  uN.cell? ⟨zN, bP + 5 + 1 + 1 + 1, none⟩ = some (.slice uP vP xP) ∧
  ∃ yP zP bQ,
  uN.cell? ⟨zN, bP + 5 + 1 + 1 + 1 + 1, none⟩ = some (.slice yP zP bQ) ∧
  ∃ dQ gQ hQ,
  uN.cell? ⟨zN, bP + 5 + 1 + 1 + 1 + 1 + 1, none⟩ = some (.slice dQ gQ hQ) ∧
  ∃ iQ jQ kQ,
  uN.cell? ⟨zN, bP + 5 + 1 + 1 + 1 + 1 + 1 + 1, none⟩ = some (.slice iQ jQ kQ) ∧
  ∃ pQ qQ tQ,
  uN.cell? ⟨zN, bP + 5 + 1 + 1 + 1 + 1 + 1 + 1 + 1, none⟩ = some (.slice pQ qQ tQ) ∧
  ∃ uQ vQ xQ,
  uN.cell? ⟨zN, bP + 5 + 1 + 1 + 1 + 1 + 1 + 1 + 1 + 1, none⟩ = some (.slice uQ vQ xQ) ∧
  ∃ yQ zQ bR,
  uN.cell? ⟨zN, bP + 5 + 1 + 1 + 1 + 1 + 1 + 1 + 1 + 1 + 1, none⟩ = some (.slice yQ zQ bR) ∧
  ∃ dR gR hR,
  uN.cell? ⟨zN, bP + 5 + 1 + 1 + 1 + 1 + 1 + 1 + 1 + 1 + 1 + 1, none⟩ = some (.slice dR gR hR) ∧
  Calls Try.prog 81 #[.agg #[.slice dP gP hP, .slice iP jP kP, .slice pP qP tP, .slice uP vP xP, .slice yP zP bQ, .slice dQ gQ hQ, .slice iQ jQ kQ, .slice pQ qQ tQ, .slice uQ vQ xQ, .slice yQ zQ bR, .slice dR gR hR]] uN fun iR jR =>
  ∃ kR pR qR,
  iR = .returned (.slice kR pR qR) ∧
  Calls Try.prog 83 #[.slice vN xN yN, .slice kR pR qR] jR fun tR uR =>
  ∃ vR,
  tR = .returned (.bool vR) ∧
  sel (!vR) (
  R (.bool false) uR) (
  let xR : Int := IntKind.i64.wrap (k0 + 1);
  ([.slice Aa0 na0 ca0, .pointer (some ⟨w.heap.size, 0, none⟩), .slice d0 g0 h0, .int .i64 (g0 : Int)] : List Value) = ([.slice Aa0 na0 ca0, .pointer (some ⟨w.heap.size, 0, none⟩), .slice d0 g0 h0, .int .i64 (g0 : Int)] : List Value) ∧ ∃ m, m < q0 ∧ i0 xR uR m))))))) (
  R (.bool true) p0)
theorem f47.eq (Aa0 : Option Addr) (na0 ca0 : Nat) (xa1_0 : Int) (Aa1_1 : Option Addr) (na1_1 ca1_1 : Nat) (Aa1_2 : Option Addr) (na1_2 ca1_2 : Nat) (Aa1_3 : Option Addr) (na1_3 ca1_3 : Nat) (Aa1_4 : Option Addr) (na1_4 ca1_4 : Nat) (Aa1_5 : Option Addr) (na1_5 ca1_5 : Nat) (Aa1_6 : Option Addr) (na1_6 ca1_6 : Nat) (Aa1_7 : Option Addr) (na1_7 ca1_7 : Nat) (sa1_8 : ByteArray) (xa1_9 : Int) (w : World) (R : Value → World → Prop) : f47.VC Aa0 na0 ca0 xa1_0 Aa1_1 na1_1 ca1_1 Aa1_2 na1_2 ca1_2 Aa1_3 na1_3 ca1_3 Aa1_4 na1_4 ca1_4 Aa1_5 na1_5 ca1_5 Aa1_6 na1_6 ca1_6 Aa1_7 na1_7 ca1_7 sa1_8 xa1_9 w R = funV Try.prog Try.f47 f47.AL f47.AC #[.slice Aa0 na0 ca0, .agg #[.int .i64 xa1_0, .slice Aa1_1 na1_1 ca1_1, .slice Aa1_2 na1_2 ca1_2, .slice Aa1_3 na1_3 ca1_3, .slice Aa1_4 na1_4 ca1_4, .slice Aa1_5 na1_5 ca1_5, .slice Aa1_6 na1_6 ca1_6, .slice Aa1_7 na1_7 ca1_7, .string sa1_8, .int .i64 xa1_9]] w R := by kernel_rfl
theorem f47.calls {Aa0 : Option Addr} {na0 ca0 : Nat} {xa1_0 : Int} {Aa1_1 : Option Addr} {na1_1 ca1_1 : Nat} {Aa1_2 : Option Addr} {na1_2 ca1_2 : Nat} {Aa1_3 : Option Addr} {na1_3 ca1_3 : Nat} {Aa1_4 : Option Addr} {na1_4 ca1_4 : Nat} {Aa1_5 : Option Addr} {na1_5 ca1_5 : Nat} {Aa1_6 : Option Addr} {na1_6 ca1_6 : Nat} {Aa1_7 : Option Addr} {na1_7 ca1_7 : Nat} {sa1_8 : ByteArray} {xa1_9 : Int} {w : World} {R : Value → World → Prop} (h : f47.VC Aa0 na0 ca0 xa1_0 Aa1_1 na1_1 ca1_1 Aa1_2 na1_2 ca1_2 Aa1_3 na1_3 ca1_3 Aa1_4 na1_4 ca1_4 Aa1_5 na1_5 ca1_5 Aa1_6 na1_6 ca1_6 Aa1_7 na1_7 ca1_7 sa1_8 xa1_9 w R) : Calls Try.prog 47 #[.slice Aa0 na0 ca0, .agg #[.int .i64 xa1_0, .slice Aa1_1 na1_1 ca1_1, .slice Aa1_2 na1_2 ca1_2, .slice Aa1_3 na1_3 ca1_3, .slice Aa1_4 na1_4 ca1_4, .slice Aa1_5 na1_5 ca1_5, .slice Aa1_6 na1_6 ca1_6, .slice Aa1_7 na1_7 ca1_7, .string sa1_8, .int .i64 xa1_9]] w fun e w' => ∃ v, e = .returned v ∧ R v w' :=
  funV_sound (fn := Try.f47) (AL := f47.AL) (AC := f47.AC) W6.mixed (by kernel_rfl) (by rw [← f47.eq Aa0 na0 ca0 xa1_0 Aa1_1 na1_1 ca1_1 Aa1_2 na1_2 ca1_2 Aa1_3 na1_3 ca1_3 Aa1_4 na1_4 ca1_4 Aa1_5 na1_5 ca1_5 Aa1_6 na1_6 ca1_6 Aa1_7 na1_7 ca1_7 sa1_8 xa1_9]; exact h)

/-- gatehouse/judge.Unpoisoned -/
def f49.AL : Nat → Option Ann := fun r => match r with | 2 => some ⟨[(11, .int .i64)], [1, 9, 10]⟩ | 8 => some ⟨[(27, .int .i64)], [1, 25, 26]⟩ | _ => none
def f49.AC : Nat → Option Ann := fun _ => none
def f49.VC (xa0_0 : Int) (Aa0_1 : Option Addr) (na0_1 ca0_1 : Nat) (Aa0_2 : Option Addr) (na0_2 ca0_2 : Nat) (Aa0_3 : Option Addr) (na0_3 ca0_3 : Nat) (Aa0_4 : Option Addr) (na0_4 ca0_4 : Nat) (Aa0_5 : Option Addr) (na0_5 ca0_5 : Nat) (Aa0_6 : Option Addr) (na0_6 ca0_6 : Nat) (Aa0_7 : Option Addr) (na0_7 ca0_7 : Nat) (sa0_8 : ByteArray) (xa0_9 : Int) (w : World) (R : Value → World → Prop) : Prop :=
  let b0 := World.alloc w (.cells #[.int .i64 xa0_0, .slice Aa0_1 na0_1 ca0_1, .slice Aa0_2 na0_2 ca0_2, .slice Aa0_3 na0_3 ca0_3, .slice Aa0_4 na0_4 ca0_4, .slice Aa0_5 na0_5 ca0_5, .slice Aa0_6 na0_6 ca0_6, .slice Aa0_7 na0_7 ca0_7, .string sa0_8, .int .i64 xa0_9] 67);
  ∃ d0 g0 h0,
  b0.cell? ⟨w.heap.size, 3, none⟩ = some (.slice d0 g0 h0) ∧
  ∃ i0 : Int → World → Nat → Prop,
  (∃ n, i0 0 b0 n) ∧
  ∀ j0 : Env, ∀ k0 p0 q0, i0 k0 p0 q0 →
  sel (decide ((k0 : Int) < ((g0 : Int) : Int))) (
  (0 : Int) ≤ k0 ∧ k0 < (g0 : Int) ∧
  needPtr d0 fun t0 u0 =>
  ∃ v0,
  p0.cell? ⟨t0, u0 + k0.toNat * 5, none⟩ = some (.int .i8 v0) ∧
  ∃ x0,
  p0.cell? ⟨t0, u0 + k0.toNat * 5 + 1, none⟩ = some (.int .i64 x0) ∧
  ∃ y0,
  p0.cell? ⟨t0, u0 + k0.toNat * 5 + 1 + 1, none⟩ = some (.int .i64 y0) ∧
  ∃ z0,
  p0.cell? ⟨t0, u0 + k0.toNat * 5 + 1 + 1 + 1, none⟩ = some (.int .i64 z0) ∧
  ∃ b1,
  p0.cell? ⟨t0, u0 + k0.toNat * 5 + 1 + 1 + 1 + 1, none⟩ = some (.bool b1) ∧
  let d1 := World.alloc p0 (.cells #[.int .i8 0, .int .i64 0, .int .i64 0, .int .i64 0, .bool false] 144);
  canStore d1 p0.heap.size 0 5 ∧
  let g1 := setCs d1 p0.heap.size 0 [.int .i8 v0, .int .i64 x0, .int .i64 y0, .int .i64 z0, .bool b1];
  ∃ h1,
  g1.cell? ⟨p0.heap.size, 0, none⟩ = some (.int .i8 h1) ∧
  sel ((h1 : Int) == (1 : Int)) (
  ∃ i1,
  g1.cell? ⟨p0.heap.size, 4, none⟩ = some (.bool i1) ∧
  sel (!i1) (
  R (.bool false) g1) (
  let j1 : Int := IntKind.i64.wrap (k0 + 1);
  ([.pointer (some ⟨w.heap.size, 0, none⟩), .slice d0 g0 h0, .int .i64 (g0 : Int)] : List Value) = ([.pointer (some ⟨w.heap.size, 0, none⟩), .slice d0 g0 h0, .int .i64 (g0 : Int)] : List Value) ∧ ∃ m, m < q0 ∧ i0 j1 g1 m)) (
  let k1 : Int := IntKind.i64.wrap (k0 + 1);
  ([.pointer (some ⟨w.heap.size, 0, none⟩), .slice d0 g0 h0, .int .i64 (g0 : Int)] : List Value) = ([.pointer (some ⟨w.heap.size, 0, none⟩), .slice d0 g0 h0, .int .i64 (g0 : Int)] : List Value) ∧ ∃ m, m < q0 ∧ i0 k1 g1 m)) (
  ∃ p1 q1 t1,
  p0.cell? ⟨w.heap.size, 1, none⟩ = some (.slice p1 q1 t1) ∧
  ∃ u1 : Int → World → Nat → Prop,
  (∃ n, u1 0 p0 n) ∧
  ∀ v1 : Env, ∀ x1 y1 z1, u1 x1 y1 z1 →
  sel (decide ((x1 : Int) < ((q1 : Int) : Int))) (
  (0 : Int) ≤ x1 ∧ x1 < (q1 : Int) ∧
  needPtr p1 fun b2 d2 =>
  ∃ g2,
  y1.cell? ⟨b2, d2 + x1.toNat * 12, none⟩ = some (.int .i64 g2) ∧
  ∃ h2,
  y1.cell? ⟨b2, d2 + x1.toNat * 12 + 1, none⟩ = some (.int .i64 h2) ∧
  ∃ i2,
  y1.cell? ⟨b2, d2 + x1.toNat * 12 + 1 + 1, none⟩ = some (.int .i8 i2) ∧
  ∃ j2,
  y1.cell? ⟨b2, d2 + x1.toNat * 12 + 1 + 1 + 1, none⟩ = some (.int .i64 j2) ∧
  ∃ k2,
  y1.cell? ⟨b2, d2 + x1.toNat * 12 + 1 + 1 + 1 + 1, none⟩ = some (.int .i64 k2) ∧
  ∃ p2,
  y1.cell? ⟨b2, d2 + x1.toNat * 12 + 1 + 1 + 1 + 1 + 1, none⟩ = some (.int .i64 p2) ∧
  ∃ q2,
  y1.cell? ⟨b2, d2 + x1.toNat * 12 + 1 + 1 + 1 + 1 + 1 + 1, none⟩ = some (.int .i64 q2) ∧
  ∃ t2,
  y1.cell? ⟨b2, d2 + x1.toNat * 12 + 1 + 1 + 1 + 1 + 1 + 1 + 1, none⟩ = some (.int .i64 t2) ∧
  ∃ u2,
  y1.cell? ⟨b2, d2 + x1.toNat * 12 + 1 + 1 + 1 + 1 + 1 + 1 + 1 + 1, none⟩ = some (.bool u2) ∧
  ∃ v2,
  y1.cell? ⟨b2, d2 + x1.toNat * 12 + 1 + 1 + 1 + 1 + 1 + 1 + 1 + 1 + 1, none⟩ = some (.int .i64 v2) ∧
  ∃ x2,
  y1.cell? ⟨b2, d2 + x1.toNat * 12 + 1 + 1 + 1 + 1 + 1 + 1 + 1 + 1 + 1 + 1, none⟩ = some (.bool x2) ∧
  ∃ y2,
  y1.cell? ⟨b2, d2 + x1.toNat * 12 + 1 + 1 + 1 + 1 + 1 + 1 + 1 + 1 + 1 + 1 + 1, none⟩ = some (.bool y2) ∧
  let z2 := World.alloc y1 (.cells #[.int .i64 0, .int .i64 0, .int .i8 0, .int .i64 0, .int .i64 0, .int .i64 0, .int .i64 0, .int .i64 0, .bool false, .int .i64 0, .bool false, .bool false] 59);
  canStore z2 y1.heap.size 0 12 ∧
  let b3 := setCs z2 y1.heap.size 0 [.int .i64 g2, .int .i64 h2, .int .i8 i2, .int .i64 j2, .int .i64 k2, .int .i64 p2, .int .i64 q2, .int .i64 t2, .bool u2, .int .i64 v2, .bool x2, .bool y2];
  ∃ d3,
  b3.cell? ⟨y1.heap.size, 0, none⟩ = some (.int .i64 d3) ∧
  ∃ g3,
  b3.cell? ⟨y1.heap.size, 1, none⟩ = some (.int .i64 g3) ∧
  ∃ h3,
  b3.cell? ⟨y1.heap.size, 2, none⟩ = some (.int .i8 h3) ∧
  ∃ i3,
  b3.cell? ⟨y1.heap.size, 3, none⟩ = some (.int .i64 i3) ∧
  ∃ j3,
  b3.cell? ⟨y1.heap.size, 4, none⟩ = some (.int .i64 j3) ∧
  ∃ k3,
  b3.cell? ⟨y1.heap.size, 5, none⟩ = some (.int .i64 k3) ∧
  ∃ p3,
  b3.cell? ⟨y1.heap.size, 6, none⟩ = some (.int .i64 p3) ∧
  ∃ q3,
  b3.cell? ⟨y1.heap.size, 7, none⟩ = some (.int .i64 q3) ∧
  ∃ t3,
  b3.cell? ⟨y1.heap.size, 8, none⟩ = some (.bool t3) ∧
  ∃ u3,
  b3.cell? ⟨y1.heap.size, 9, none⟩ = some (.int .i64 u3) ∧
  ∃ v3,
  b3.cell? ⟨y1.heap.size, 10, none⟩ = some (.bool v3) ∧
  ∃ x3,
  b3.cell? ⟨y1.heap.size, 11, none⟩ = some (.bool x3) ∧
  Calls Try.prog 74 #[.agg #[.int .i64 d3, .int .i64 g3, .int .i8 h3, .int .i64 i3, .int .i64 j3, .int .i64 k3, .int .i64 p3, .int .i64 q3, .bool t3, .int .i64 u3, .bool v3, .bool x3]] b3 fun y3 z3 =>
  ∃ b4,
  y3 = .returned (.bool b4) ∧
  sel (!b4) (
  let d4 : Int := IntKind.i64.wrap (x1 + 1);
  ([.pointer (some ⟨w.heap.size, 0, none⟩), .slice p1 q1 t1, .int .i64 (q1 : Int)] : List Value) = ([.pointer (some ⟨w.heap.size, 0, none⟩), .slice p1 q1 t1, .int .i64 (q1 : Int)] : List Value) ∧ ∃ m, m < z1 ∧ u1 d4 z3 m) (
  ∃ g4,
  z3.cell? ⟨y1.heap.size, 5, none⟩ = some (.int .i64 g4) ∧
  sel (decide ((g4 : Int) < (0 : Int))) (
  let h4 : Int := IntKind.i64.wrap (x1 + 1);
  ([.pointer (some ⟨w.heap.size, 0, none⟩), .slice p1 q1 t1, .int .i64 (q1 : Int)] : List Value) = ([.pointer (some ⟨w.heap.size, 0, none⟩), .slice p1 q1 t1, .int .i64 (q1 : Int)] : List Value) ∧ ∃ m, m < z1 ∧ u1 h4 z3 m) (
  ∃ i4,
  z3.cell? ⟨w.heap.size, 0, none⟩ = some (.int .i64 i4) ∧
  ∃ j4 k4 p4,
  z3.cell? ⟨w.heap.size, 1, none⟩ = some (.slice j4 k4 p4) ∧
  ∃ q4 t4 u4,
  z3.cell? ⟨w.heap.size, 2, none⟩ = some (.slice q4 t4 u4) ∧
  ∃ v4 x4 y4,
  z3.cell? ⟨w.heap.size, 3, none⟩ = some (.slice v4 x4 y4) ∧
  ∃ z4 b5 d5,
  z3.cell? ⟨w.heap.size, 4, none⟩ = some (.slice z4 b5 d5) ∧
  ∃ g5 h5 i5,
  z3.cell? ⟨w.heap.size, 5, none⟩ = some (.slice g5 h5 i5) ∧
  ∃ j5 k5 p5,
  z3.cell? ⟨w.heap.size, 6, none⟩ = some (.slice j5 k5 p5) ∧
  ∃ q5 t5 u5,
  z3.cell? ⟨w.heap.size, 7, none⟩ = some (.slice q5 t5 u5) ∧
  ∃ v5,
  z3.cell? ⟨w.heap.size, 8, none⟩ = some (.string v5) ∧
  ∃ x5,
  z3.cell? ⟨w.heap.size, 9, none⟩ = some (.int .i64 x5) ∧
  ∃ y5,
  z3.cell? ⟨y1.heap.size, 5, none⟩ = some (.int .i64 y5) ∧
  Calls Try.prog 75 #[.agg #[.int .i64 i4, .slice j4 k4 p4, .slice q4 t4 u4, .slice v4 x4 y4, .slice z4 b5 d5, .slice g5 h5 i5, .slice j5 k5 p5, .slice q5 t5 u5, .string v5, .int .i64 x5], .int .i64 y5] z3 fun z5 b6 =>
  ∃ d6,
  z5 = .returned (.pointer d6) ∧
  sel (!(Option.isNone d6)) (
  needPtr d6 fun g6 h6 =>
  ∃ i6,
  b6.cell? ⟨g6, h6 + 4, none⟩ = some (.int .i64 i6) ∧
  sel (decide ((0 : Int) ≤ (i6 : Int))) (
  ∃ j6,
  b6.cell? ⟨y1.heap.size, 4, none⟩ = some (.int .i64 j6) ∧
  sel (decide ((j6 : Int) < (0 : Int))) (
  R (.bool false) b6.drew) (
  needPtr d6 fun k6 p6 =>
  ∃ q6,
  b6.cell? ⟨y1.heap.size, 4, none⟩ = some (.int .i64 q6) ∧
  ∃ t6,
  b6.cell? ⟨k6, p6 + 4, none⟩ = some (.int .i64 t6) ∧
  sel (decide ((t6 : Int) ≤ (q6 : Int))) (
  R (.bool false) b6.drew) (
  let u6 : Int := IntKind.i64.wrap (x1 + 1);
  ([.pointer (some ⟨w.heap.size, 0, none⟩), .slice p1 q1 t1, .int .i64 (q1 : Int)] : List Value) = ([.pointer (some ⟨w.heap.size, 0, none⟩), .slice p1 q1 t1, .int .i64 (q1 : Int)] : List Value) ∧ ∃ m, m < z1 ∧ u1 u6 b6.drew m))) (
  let v6 : Int := IntKind.i64.wrap (x1 + 1);
  ([.pointer (some ⟨w.heap.size, 0, none⟩), .slice p1 q1 t1, .int .i64 (q1 : Int)] : List Value) = ([.pointer (some ⟨w.heap.size, 0, none⟩), .slice p1 q1 t1, .int .i64 (q1 : Int)] : List Value) ∧ ∃ m, m < z1 ∧ u1 v6 b6.drew m)) (
  let x6 : Int := IntKind.i64.wrap (x1 + 1);
  ([.pointer (some ⟨w.heap.size, 0, none⟩), .slice p1 q1 t1, .int .i64 (q1 : Int)] : List Value) = ([.pointer (some ⟨w.heap.size, 0, none⟩), .slice p1 q1 t1, .int .i64 (q1 : Int)] : List Value) ∧ ∃ m, m < z1 ∧ u1 x6 b6.drew m)))) (
  R (.bool true) y1))
theorem f49.eq (xa0_0 : Int) (Aa0_1 : Option Addr) (na0_1 ca0_1 : Nat) (Aa0_2 : Option Addr) (na0_2 ca0_2 : Nat) (Aa0_3 : Option Addr) (na0_3 ca0_3 : Nat) (Aa0_4 : Option Addr) (na0_4 ca0_4 : Nat) (Aa0_5 : Option Addr) (na0_5 ca0_5 : Nat) (Aa0_6 : Option Addr) (na0_6 ca0_6 : Nat) (Aa0_7 : Option Addr) (na0_7 ca0_7 : Nat) (sa0_8 : ByteArray) (xa0_9 : Int) (w : World) (R : Value → World → Prop) : f49.VC xa0_0 Aa0_1 na0_1 ca0_1 Aa0_2 na0_2 ca0_2 Aa0_3 na0_3 ca0_3 Aa0_4 na0_4 ca0_4 Aa0_5 na0_5 ca0_5 Aa0_6 na0_6 ca0_6 Aa0_7 na0_7 ca0_7 sa0_8 xa0_9 w R = funV Try.prog Try.f49 f49.AL f49.AC #[.agg #[.int .i64 xa0_0, .slice Aa0_1 na0_1 ca0_1, .slice Aa0_2 na0_2 ca0_2, .slice Aa0_3 na0_3 ca0_3, .slice Aa0_4 na0_4 ca0_4, .slice Aa0_5 na0_5 ca0_5, .slice Aa0_6 na0_6 ca0_6, .slice Aa0_7 na0_7 ca0_7, .string sa0_8, .int .i64 xa0_9]] w R := by kernel_rfl
theorem f49.calls {xa0_0 : Int} {Aa0_1 : Option Addr} {na0_1 ca0_1 : Nat} {Aa0_2 : Option Addr} {na0_2 ca0_2 : Nat} {Aa0_3 : Option Addr} {na0_3 ca0_3 : Nat} {Aa0_4 : Option Addr} {na0_4 ca0_4 : Nat} {Aa0_5 : Option Addr} {na0_5 ca0_5 : Nat} {Aa0_6 : Option Addr} {na0_6 ca0_6 : Nat} {Aa0_7 : Option Addr} {na0_7 ca0_7 : Nat} {sa0_8 : ByteArray} {xa0_9 : Int} {w : World} {R : Value → World → Prop} (h : f49.VC xa0_0 Aa0_1 na0_1 ca0_1 Aa0_2 na0_2 ca0_2 Aa0_3 na0_3 ca0_3 Aa0_4 na0_4 ca0_4 Aa0_5 na0_5 ca0_5 Aa0_6 na0_6 ca0_6 Aa0_7 na0_7 ca0_7 sa0_8 xa0_9 w R) : Calls Try.prog 49 #[.agg #[.int .i64 xa0_0, .slice Aa0_1 na0_1 ca0_1, .slice Aa0_2 na0_2 ca0_2, .slice Aa0_3 na0_3 ca0_3, .slice Aa0_4 na0_4 ca0_4, .slice Aa0_5 na0_5 ca0_5, .slice Aa0_6 na0_6 ca0_6, .slice Aa0_7 na0_7 ca0_7, .string sa0_8, .int .i64 xa0_9]] w fun e w' => ∃ v, e = .returned v ∧ R v w' :=
  funV_sound (fn := Try.f49) (AL := f49.AL) (AC := f49.AC) W6.mixed (by kernel_rfl) (by rw [← f49.eq xa0_0 Aa0_1 na0_1 ca0_1 Aa0_2 na0_2 ca0_2 Aa0_3 na0_3 ca0_3 Aa0_4 na0_4 ca0_4 Aa0_5 na0_5 ca0_5 Aa0_6 na0_6 ca0_6 Aa0_7 na0_7 ca0_7 sa0_8 xa0_9]; exact h)

/-- gatehouse/judge.Few -/
def f51.AL : Nat → Option Ann := fun r => match r with | 2 => some ⟨[(14, .int .i64)], [1, 12, 13]⟩ | 6 => some ⟨[(5, .int .i64), (22, .int .i64)], [1, 3, 4, 12, 13, 14, 20, 21]⟩ | 15 => some ⟨[(55, .int .i64)], [1, 53, 54]⟩ | _ => none
def f51.AC : Nat → Option Ann := fun _ => none
def f51.VC (xa0_0 : Int) (Aa0_1 : Option Addr) (na0_1 ca0_1 : Nat) (Aa0_2 : Option Addr) (na0_2 ca0_2 : Nat) (Aa0_3 : Option Addr) (na0_3 ca0_3 : Nat) (Aa0_4 : Option Addr) (na0_4 ca0_4 : Nat) (Aa0_5 : Option Addr) (na0_5 ca0_5 : Nat) (Aa0_6 : Option Addr) (na0_6 ca0_6 : Nat) (Aa0_7 : Option Addr) (na0_7 ca0_7 : Nat) (sa0_8 : ByteArray) (xa0_9 : Int) (w : World) (R : Value → World → Prop) : Prop :=
  let b0 := World.alloc w (.cells #[.int .i64 xa0_0, .slice Aa0_1 na0_1 ca0_1, .slice Aa0_2 na0_2 ca0_2, .slice Aa0_3 na0_3 ca0_3, .slice Aa0_4 na0_4 ca0_4, .slice Aa0_5 na0_5 ca0_5, .slice Aa0_6 na0_6 ca0_6, .slice Aa0_7 na0_7 ca0_7, .string sa0_8, .int .i64 xa0_9] 67);
  ∃ d0 g0 h0,
  b0.cell? ⟨w.heap.size, 5, none⟩ = some (.slice d0 g0 h0) ∧
  ∃ i0 : Int → World → Nat → Prop,
  (∃ n, i0 0 b0 n) ∧
  ∀ j0 : Env, ∀ k0 p0 q0, i0 k0 p0 q0 →
  sel (decide ((k0 : Int) < ((g0 : Int) : Int))) (
  (0 : Int) ≤ k0 ∧ k0 < (g0 : Int) ∧
  needPtr d0 fun t0 u0 =>
  ∃ v0,
  p0.cell? ⟨t0, u0 + k0.toNat * 1, none⟩ = some (.int .i64 v0) ∧
  ∃ x0 y0 z0,
  p0.cell? ⟨w.heap.size, 1, none⟩ = some (.slice x0 y0 z0) ∧
  ∃ b1 : Int → Int → World → Nat → Prop,
  (∃ n, b1 1 0 p0 n) ∧
  ∀ d1 : Env, ∀ g1 h1 i1 j1, b1 g1 h1 i1 j1 →
  sel (decide ((h1 : Int) < ((y0 : Int) : Int))) (
  (0 : Int) ≤ h1 ∧ h1 < (y0 : Int) ∧
  needPtr x0 fun k1 p1 =>
  ∃ q1,
  i1.cell? ⟨k1, p1 + h1.toNat * 12, none⟩ = some (.int .i64 q1) ∧
  ∃ t1,
  i1.cell? ⟨k1, p1 + h1.toNat * 12 + 1, none⟩ = some (.int .i64 t1) ∧
  ∃ u1,
  i1.cell? ⟨k1, p1 + h1.toNat * 12 + 1 + 1, none⟩ = some (.int .i8 u1) ∧
  ∃ v1,
  i1.cell? ⟨k1, p1 + h1.toNat * 12 + 1 + 1 + 1, none⟩ = some (.int .i64 v1) ∧
  ∃ x1,
  i1.cell? ⟨k1, p1 + h1.toNat * 12 + 1 + 1 + 1 + 1, none⟩ = some (.int .i64 x1) ∧
  ∃ y1,
  i1.cell? ⟨k1, p1 + h1.toNat * 12 + 1 + 1 + 1 + 1 + 1, none⟩ = some (.int .i64 y1) ∧
  ∃ z1,
  i1.cell? ⟨k1, p1 + h1.toNat * 12 + 1 + 1 + 1 + 1 + 1 + 1, none⟩ = some (.int .i64 z1) ∧
  ∃ b2,
  i1.cell? ⟨k1, p1 + h1.toNat * 12 + 1 + 1 + 1 + 1 + 1 + 1 + 1, none⟩ = some (.int .i64 b2) ∧
  ∃ d2,
  i1.cell? ⟨k1, p1 + h1.toNat * 12 + 1 + 1 + 1 + 1 + 1 + 1 + 1 + 1, none⟩ = some (.bool d2) ∧
  ∃ g2,
  i1.cell? ⟨k1, p1 + h1.toNat * 12 + 1 + 1 + 1 + 1 + 1 + 1 + 1 + 1 + 1, none⟩ = some (.int .i64 g2) ∧
  ∃ h2,
  i1.cell? ⟨k1, p1 + h1.toNat * 12 + 1 + 1 + 1 + 1 + 1 + 1 + 1 + 1 + 1 + 1, none⟩ = some (.bool h2) ∧
  ∃ i2,
  i1.cell? ⟨k1, p1 + h1.toNat * 12 + 1 + 1 + 1 + 1 + 1 + 1 + 1 + 1 + 1 + 1 + 1, none⟩ = some (.bool i2) ∧
  let j2 := World.alloc i1 (.cells #[.int .i64 0, .int .i64 0, .int .i8 0, .int .i64 0, .int .i64 0, .int .i64 0, .int .i64 0, .int .i64 0, .bool false, .int .i64 0, .bool false, .bool false] 59);
  canStore j2 i1.heap.size 0 12 ∧
  let k2 := setCs j2 i1.heap.size 0 [.int .i64 q1, .int .i64 t1, .int .i8 u1, .int .i64 v1, .int .i64 x1, .int .i64 y1, .int .i64 z1, .int .i64 b2, .bool d2, .int .i64 g2, .bool h2, .bool i2];
  ∃ p2,
  k2.cell? ⟨i1.heap.size, 0, none⟩ = some (.int .i64 p2) ∧
  ∃ q2,
  k2.cell? ⟨i1.heap.size, 1, none⟩ = some (.int .i64 q2) ∧
  ∃ t2,
  k2.cell? ⟨i1.heap.size, 2, none⟩ = some (.int .i8 t2) ∧
  ∃ u2,
  k2.cell? ⟨i1.heap.size, 3, none⟩ = some (.int .i64 u2) ∧
  ∃ v2,
  k2.cell? ⟨i1.heap.size, 4, none⟩ = some (.int .i64 v2) ∧
  ∃ x2,
  k2.cell? ⟨i1.heap.size, 5, none⟩ = some (.int .i64 x2) ∧
  ∃ y2,
  k2.cell? ⟨i1.heap.size, 6, none⟩ = some (.int .i64 y2) ∧
  ∃ z2,
  k2.cell? ⟨i1.heap.size, 7, none⟩ = some (.int .i64 z2) ∧
  ∃ b3,
  k2.cell? ⟨i1.heap.size, 8, none⟩ = some (.bool b3) ∧
  ∃ d3,
  k2.cell? ⟨i1.heap.size, 9, none⟩ = some (.int .i64 d3) ∧
  ∃ g3,
  k2.cell? ⟨i1.heap.size, 10, none⟩ = some (.bool g3) ∧
  ∃ h3,
  k2.cell? ⟨i1.heap.size, 11, none⟩ = some (.bool h3) ∧
  Calls Try.prog 71 #[.agg #[.int .i64 p2, .int .i64 q2, .int .i8 t2, .int .i64 u2, .int .i64 v2, .int .i64 x2, .int .i64 y2, .int .i64 z2, .bool b3, .int .i64 d3, .bool g3, .bool h3]] k2 fun i3 j3 =>
  ∃ k3,
  i3 = .returned (.bool k3) ∧
  sel k3 (
  ∃ p3,
  j3.cell? ⟨i1.heap.size, 3, none⟩ = some (.int .i64 p3) ∧
  sel (decide ((p3 : Int) ≤ (k0 : Int))) (
  ∃ q3,
  j3.cell? ⟨i1.heap.size, 4, none⟩ = some (.int .i64 q3) ∧
  sel (decide ((q3 : Int) < (0 : Int))) (
  let t3 : Int := IntKind.i64.wrap (g1 + 1);
  let u3 : Int := IntKind.i64.wrap (h1 + 1);
  ([.pointer (some ⟨w.heap.size, 0, none⟩), .int .i64 k0, .int .i64 v0, .slice d0 g0 h0, .int .i64 (g0 : Int), .int .i64 k0, .slice x0 y0 z0, .int .i64 (y0 : Int)] : List Value) = ([.pointer (some ⟨w.heap.size, 0, none⟩), .int .i64 k0, .int .i64 v0, .slice d0 g0 h0, .int .i64 (g0 : Int), .int .i64 k0, .slice x0 y0 z0, .int .i64 (y0 : Int)] : List Value) ∧ ∃ m, m < j1 ∧ b1 t3 u3 j3 m) (
  ∃ v3,
  j3.cell? ⟨i1.heap.size, 4, none⟩ = some (.int .i64 v3) ∧
  sel (decide ((k0 : Int) < (v3 : Int))) (
  let x3 : Int := IntKind.i64.wrap (g1 + 1);
  let y3 : Int := IntKind.i64.wrap (h1 + 1);
  ([.pointer (some ⟨w.heap.size, 0, none⟩), .int .i64 k0, .int .i64 v0, .slice d0 g0 h0, .int .i64 (g0 : Int), .int .i64 k0, .slice x0 y0 z0, .int .i64 (y0 : Int)] : List Value) = ([.pointer (some ⟨w.heap.size, 0, none⟩), .int .i64 k0, .int .i64 v0, .slice d0 g0 h0, .int .i64 (g0 : Int), .int .i64 k0, .slice x0 y0 z0, .int .i64 (y0 : Int)] : List Value) ∧ ∃ m, m < j1 ∧ b1 x3 y3 j3 m) (
  let z3 : Int := IntKind.i64.wrap (h1 + 1);
  ([.pointer (some ⟨w.heap.size, 0, none⟩), .int .i64 k0, .int .i64 v0, .slice d0 g0 h0, .int .i64 (g0 : Int), .int .i64 k0, .slice x0 y0 z0, .int .i64 (y0 : Int)] : List Value) = ([.pointer (some ⟨w.heap.size, 0, none⟩), .int .i64 k0, .int .i64 v0, .slice d0 g0 h0, .int .i64 (g0 : Int), .int .i64 k0, .slice x0 y0 z0, .int .i64 (y0 : Int)] : List Value) ∧ ∃ m, m < j1 ∧ b1 g1 z3 j3 m))) (
  let b4 : Int := IntKind.i64.wrap (h1 + 1);
  ([.pointer (some ⟨w.heap.size, 0, none⟩), .int .i64 k0, .int .i64 v0, .slice d0 g0 h0, .int .i64 (g0 : Int), .int .i64 k0, .slice x0 y0 z0, .int .i64 (y0 : Int)] : List Value) = ([.pointer (some ⟨w.heap.size, 0, none⟩), .int .i64 k0, .int .i64 v0, .slice d0 g0 h0, .int .i64 (g0 : Int), .int .i64 k0, .slice x0 y0 z0, .int .i64 (y0 : Int)] : List Value) ∧ ∃ m, m < j1 ∧ b1 g1 b4 j3 m)) (
  let d4 : Int := IntKind.i64.wrap (h1 + 1);
  ([.pointer (some ⟨w.heap.size, 0, none⟩), .int .i64 k0, .int .i64 v0, .slice d0 g0 h0, .int .i64 (g0 : Int), .int .i64 k0, .slice x0 y0 z0, .int .i64 (y0 : Int)] : List Value) = ([.pointer (some ⟨w.heap.size, 0, none⟩), .int .i64 k0, .int .i64 v0, .slice d0 g0 h0, .int .i64 (g0 : Int), .int .i64 k0, .slice x0 y0 z0, .int .i64 (y0 : Int)] : List Value) ∧ ∃ m, m < j1 ∧ b1 g1 d4 j3 m)) (
  sel (decide ((g1 : Int) < (v0 : Int))) (
  R (.bool false) i1) (
  let g4 : Int := IntKind.i64.wrap (k0 + 1);
  ([.pointer (some ⟨w.heap.size, 0, none⟩), .slice d0 g0 h0, .int .i64 (g0 : Int)] : List Value) = ([.pointer (some ⟨w.heap.size, 0, none⟩), .slice d0 g0 h0, .int .i64 (g0 : Int)] : List Value) ∧ ∃ m, m < q0 ∧ i0 g4 i1 m))) (
  ∃ h4 i4 j4,
  p0.cell? ⟨w.heap.size, 1, none⟩ = some (.slice h4 i4 j4) ∧
  ∃ k4 : Int → World → Nat → Prop,
  (∃ n, k4 0 p0 n) ∧
  ∀ p4 : Env, ∀ q4 t4 u4, k4 q4 t4 u4 →
  sel (decide ((q4 : Int) < ((i4 : Int) : Int))) (
  (0 : Int) ≤ q4 ∧ q4 < (i4 : Int) ∧
  needPtr h4 fun v4 x4 =>
  ∃ y4,
  t4.cell? ⟨v4, x4 + q4.toNat * 12, none⟩ = some (.int .i64 y4) ∧
  ∃ z4,
  t4.cell? ⟨v4, x4 + q4.toNat * 12 + 1, none⟩ = some (.int .i64 z4) ∧
  ∃ b5,
  t4.cell? ⟨v4, x4 + q4.toNat * 12 + 1 + 1, none⟩ = some (.int .i8 b5) ∧
  ∃ d5,
  t4.cell? ⟨v4, x4 + q4.toNat * 12 + 1 + 1 + 1, none⟩ = some (.int .i64 d5) ∧
  ∃ g5,
  t4.cell? ⟨v4, x4 + q4.toNat * 12 + 1 + 1 + 1 + 1, none⟩ = some (.int .i64 g5) ∧
  ∃ h5,
  t4.cell? ⟨v4, x4 + q4.toNat * 12 + 1 + 1 + 1 + 1 + 1, none⟩ = some (.int .i64 h5) ∧
  ∃ i5,
  t4.cell? ⟨v4, x4 + q4.toNat * 12 + 1 + 1 + 1 + 1 + 1 + 1, none⟩ = some (.int .i64 i5) ∧
  ∃ j5,
  t4.cell? ⟨v4, x4 + q4.toNat * 12 + 1 + 1 + 1 + 1 + 1 + 1 + 1, none⟩ = some (.int .i64 j5) ∧
  ∃ k5,
  t4.cell? ⟨v4, x4 + q4.toNat * 12 + 1 + 1 + 1 + 1 + 1 + 1 + 1 + 1, none⟩ = some (.bool k5) ∧
  ∃ p5,
  t4.cell? ⟨v4, x4 + q4.toNat * 12 + 1 + 1 + 1 + 1 + 1 + 1 + 1 + 1 + 1, none⟩ = some (.int .i64 p5) ∧
  ∃ q5,
  t4.cell? ⟨v4, x4 + q4.toNat * 12 + 1 + 1 + 1 + 1 + 1 + 1 + 1 + 1 + 1 + 1, none⟩ = some (.bool q5) ∧
  ∃ t5,
  t4.cell? ⟨v4, x4 + q4.toNat * 12 + 1 + 1 + 1 + 1 + 1 + 1 + 1 + 1 + 1 + 1 + 1, none⟩ = some (.bool t5) ∧
  let u5 := World.alloc t4 (.cells #[.int .i64 0, .int .i64 0, .int .i8 0, .int .i64 0, .int .i64 0, .int .i64 0, .int .i64 0, .int .i64 0, .bool false, .int .i64 0, .bool false, .bool false] 59);
  canStore u5 t4.heap.size 0 12 ∧
  let v5 := setCs u5 t4.heap.size 0 [.int .i64 y4, .int .i64 z4, .int .i8 b5, .int .i64 d5, .int .i64 g5, .int .i64 h5, .int .i64 i5, .int .i64 j5, .bool k5, .int .i64 p5, .bool q5, .bool t5];
  ∃ x5,
  v5.cell? ⟨t4.heap.size, 0, none⟩ = some (.int .i64 x5) ∧
  ∃ y5,
  v5.cell? ⟨t4.heap.size, 1, none⟩ = some (.int .i64 y5) ∧
  ∃ z5,
  v5.cell? ⟨t4.heap.size, 2, none⟩ = some (.int .i8 z5) ∧
  ∃ b6,
  v5.cell? ⟨t4.heap.size, 3, none⟩ = some (.int .i64 b6) ∧
  ∃ d6,
  v5.cell? ⟨t4.heap.size, 4, none⟩ = some (.int .i64 d6) ∧
  ∃ g6,
  v5.cell? ⟨t4.heap.size, 5, none⟩ = some (.int .i64 g6) ∧
  ∃ h6,
  v5.cell? ⟨t4.heap.size, 6, none⟩ = some (.int .i64 h6) ∧
  ∃ i6,
  v5.cell? ⟨t4.heap.size, 7, none⟩ = some (.int .i64 i6) ∧
  ∃ j6,
  v5.cell? ⟨t4.heap.size, 8, none⟩ = some (.bool j6) ∧
  ∃ k6,
  v5.cell? ⟨t4.heap.size, 9, none⟩ = some (.int .i64 k6) ∧
  ∃ p6,
  v5.cell? ⟨t4.heap.size, 10, none⟩ = some (.bool p6) ∧
  ∃ q6,
  v5.cell? ⟨t4.heap.size, 11, none⟩ = some (.bool q6) ∧
  Calls Try.prog 71 #[.agg #[.int .i64 x5, .int .i64 y5, .int .i8 z5, .int .i64 b6, .int .i64 d6, .int .i64 g6, .int .i64 h6, .int .i64 i6, .bool j6, .int .i64 k6, .bool p6, .bool q6]] v5 fun t6 u6 =>
  ∃ v6,
  t6 = .returned (.bool v6) ∧
  sel (!v6) (
  let x6 : Int := IntKind.i64.wrap (q4 + 1);
  ([.pointer (some ⟨w.heap.size, 0, none⟩), .slice h4 i4 j4, .int .i64 (i4 : Int)] : List Value) = ([.pointer (some ⟨w.heap.size, 0, none⟩), .slice h4 i4 j4, .int .i64 (i4 : Int)] : List Value) ∧ ∃ m, m < u4 ∧ k4 x6 u6 m) (
  ∃ y6,
  u6.cell? ⟨t4.heap.size, 0, none⟩ = some (.int .i64 y6) ∧
  ∃ z6,
  u6.cell? ⟨t4.heap.size, 1, none⟩ = some (.int .i64 z6) ∧
  ∃ b7,
  u6.cell? ⟨t4.heap.size, 2, none⟩ = some (.int .i8 b7) ∧
  ∃ d7,
  u6.cell? ⟨t4.heap.size, 3, none⟩ = some (.int .i64 d7) ∧
  ∃ g7,
  u6.cell? ⟨t4.heap.size, 4, none⟩ = some (.int .i64 g7) ∧
  ∃ h7,
  u6.cell? ⟨t4.heap.size, 5, none⟩ = some (.int .i64 h7) ∧
  ∃ i7,
  u6.cell? ⟨t4.heap.size, 6, none⟩ = some (.int .i64 i7) ∧
  ∃ j7,
  u6.cell? ⟨t4.heap.size, 7, none⟩ = some (.int .i64 j7) ∧
  ∃ k7,
  u6.cell? ⟨t4.heap.size, 8, none⟩ = some (.bool k7) ∧
  ∃ p7,
  u6.cell? ⟨t4.heap.size, 9, none⟩ = some (.int .i64 p7) ∧
  ∃ q7,
  u6.cell? ⟨t4.heap.size, 10, none⟩ = some (.bool q7) ∧
  ∃ t7,
  u6.cell? ⟨t4.heap.size, 11, none⟩ = some (.bool t7) ∧
  Calls Try.prog 70 #[.agg #[.int .i64 y6, .int .i64 z6, .int .i8 b7, .int .i64 d7, .int .i64 g7, .int .i64 h7, .int .i64 i7, .int .i64 j7, .bool k7, .int .i64 p7, .bool q7, .bool t7]] u6 fun u7 v7 =>
  ∃ x7,
  u7 = .returned (.bool x7) ∧
  sel (!x7) (
  let y7 : Int := IntKind.i64.wrap (q4 + 1);
  ([.pointer (some ⟨w.heap.size, 0, none⟩), .slice h4 i4 j4, .int .i64 (i4 : Int)] : List Value) = ([.pointer (some ⟨w.heap.size, 0, none⟩), .slice h4 i4 j4, .int .i64 (i4 : Int)] : List Value) ∧ ∃ m, m < u4 ∧ k4 y7 v7 m) (
  ∃ z7,
  v7.cell? ⟨w.heap.size, 0, none⟩ = some (.int .i64 z7) ∧
  ∃ b8 d8 g8,
  v7.cell? ⟨w.heap.size, 1, none⟩ = some (.slice b8 d8 g8) ∧
  ∃ h8 i8 j8,
  v7.cell? ⟨w.heap.size, 2, none⟩ = some (.slice h8 i8 j8) ∧
  ∃ k8 p8 q8,
  v7.cell? ⟨w.heap.size, 3, none⟩ = some (.slice k8 p8 q8) ∧
  ∃ t8 u8 v8,
  v7.cell? ⟨w.heap.size, 4, none⟩ = some (.slice t8 u8 v8) ∧
  ∃ x8 y8 z8,
  v7.cell? ⟨w.heap.size, 5, none⟩ = some (.slice x8 y8 z8) ∧
  ∃ b9 d9 g9,
  v7.cell? ⟨w.heap.size, 6, none⟩ = some (.slice b9 d9 g9) ∧
  ∃ h9 i9 j9,
  v7.cell? ⟨w.heap.size, 7, none⟩ = some (.slice h9 i9 j9) ∧
  ∃ k9,
  v7.cell? ⟨w.heap.size, 8, none⟩ = some (.string k9) ∧
  ∃ p9,
  v7.cell? ⟨w.heap.size, 9, none⟩ = some (.int .i64 p9) ∧
  ∃ q9,
  v7.cell? ⟨t4.heap.size, 5, none⟩ = some (.int .i64 q9) ∧
  Calls Try.prog 75 #[.agg #[.int .i64 z7, .slice b8 d8 g8, .slice h8 i8 j8, .slice k8 p8 q8, .slice t8 u8 v8, .slice x8 y8 z8, .slice b9 d9 g9, .slice h9 i9 j9, .string k9, .int .i64 p9], .int .i64 q9] v7 fun t9 u9 =>
  ∃ v9,
  t9 = .returned (.pointer v9) ∧
  sel (!(Option.isNone v9)) (
  needPtr v9 fun x9 y9 =>
  ∃ z9,
  u9.cell? ⟨x9, y9 + 4, none⟩ = some (.int .i64 z9) ∧
  ∃ bA,
  u9.cell? ⟨t4.heap.size, 5, none⟩ = some (.int .i64 bA) ∧
  sel (decide ((z9 : Int) ≤ (bA : Int))) (
  R (.bool false) u9.drew) (
  needPtr v9 fun dA gA =>
  ∃ hA,
  u9.cell? ⟨dA, gA + 4, none⟩ = some (.int .i64 hA) ∧
  ∃ iA,
  u9.cell? ⟨t4.heap.size, 4, none⟩ = some (.int .i64 iA) ∧
  sel (decide ((iA : Int) < (hA : Int))) (
  R (.bool false) u9.drew) (
  let jA : Int := IntKind.i64.wrap (q4 + 1);
  ([.pointer (some ⟨w.heap.size, 0, none⟩), .slice h4 i4 j4, .int .i64 (i4 : Int)] : List Value) = ([.pointer (some ⟨w.heap.size, 0, none⟩), .slice h4 i4 j4, .int .i64 (i4 : Int)] : List Value) ∧ ∃ m, m < u4 ∧ k4 jA u9.drew m))) (
  let kA : Int := IntKind.i64.wrap (q4 + 1);
  ([.pointer (some ⟨w.heap.size, 0, none⟩), .slice h4 i4 j4, .int .i64 (i4 : Int)] : List Value) = ([.pointer (some ⟨w.heap.size, 0, none⟩), .slice h4 i4 j4, .int .i64 (i4 : Int)] : List Value) ∧ ∃ m, m < u4 ∧ k4 kA u9.drew m)))) (
  R (.bool true) t4))
theorem f51.eq (xa0_0 : Int) (Aa0_1 : Option Addr) (na0_1 ca0_1 : Nat) (Aa0_2 : Option Addr) (na0_2 ca0_2 : Nat) (Aa0_3 : Option Addr) (na0_3 ca0_3 : Nat) (Aa0_4 : Option Addr) (na0_4 ca0_4 : Nat) (Aa0_5 : Option Addr) (na0_5 ca0_5 : Nat) (Aa0_6 : Option Addr) (na0_6 ca0_6 : Nat) (Aa0_7 : Option Addr) (na0_7 ca0_7 : Nat) (sa0_8 : ByteArray) (xa0_9 : Int) (w : World) (R : Value → World → Prop) : f51.VC xa0_0 Aa0_1 na0_1 ca0_1 Aa0_2 na0_2 ca0_2 Aa0_3 na0_3 ca0_3 Aa0_4 na0_4 ca0_4 Aa0_5 na0_5 ca0_5 Aa0_6 na0_6 ca0_6 Aa0_7 na0_7 ca0_7 sa0_8 xa0_9 w R = funV Try.prog Try.f51 f51.AL f51.AC #[.agg #[.int .i64 xa0_0, .slice Aa0_1 na0_1 ca0_1, .slice Aa0_2 na0_2 ca0_2, .slice Aa0_3 na0_3 ca0_3, .slice Aa0_4 na0_4 ca0_4, .slice Aa0_5 na0_5 ca0_5, .slice Aa0_6 na0_6 ca0_6, .slice Aa0_7 na0_7 ca0_7, .string sa0_8, .int .i64 xa0_9]] w R := by kernel_rfl
theorem f51.calls {xa0_0 : Int} {Aa0_1 : Option Addr} {na0_1 ca0_1 : Nat} {Aa0_2 : Option Addr} {na0_2 ca0_2 : Nat} {Aa0_3 : Option Addr} {na0_3 ca0_3 : Nat} {Aa0_4 : Option Addr} {na0_4 ca0_4 : Nat} {Aa0_5 : Option Addr} {na0_5 ca0_5 : Nat} {Aa0_6 : Option Addr} {na0_6 ca0_6 : Nat} {Aa0_7 : Option Addr} {na0_7 ca0_7 : Nat} {sa0_8 : ByteArray} {xa0_9 : Int} {w : World} {R : Value → World → Prop} (h : f51.VC xa0_0 Aa0_1 na0_1 ca0_1 Aa0_2 na0_2 ca0_2 Aa0_3 na0_3 ca0_3 Aa0_4 na0_4 ca0_4 Aa0_5 na0_5 ca0_5 Aa0_6 na0_6 ca0_6 Aa0_7 na0_7 ca0_7 sa0_8 xa0_9 w R) : Calls Try.prog 51 #[.agg #[.int .i64 xa0_0, .slice Aa0_1 na0_1 ca0_1, .slice Aa0_2 na0_2 ca0_2, .slice Aa0_3 na0_3 ca0_3, .slice Aa0_4 na0_4 ca0_4, .slice Aa0_5 na0_5 ca0_5, .slice Aa0_6 na0_6 ca0_6, .slice Aa0_7 na0_7 ca0_7, .string sa0_8, .int .i64 xa0_9]] w fun e w' => ∃ v, e = .returned v ∧ R v w' :=
  funV_sound (fn := Try.f51) (AL := f51.AL) (AC := f51.AC) W6.mixed (by kernel_rfl) (by rw [← f51.eq xa0_0 Aa0_1 na0_1 ca0_1 Aa0_2 na0_2 ca0_2 Aa0_3 na0_3 ca0_3 Aa0_4 na0_4 ca0_4 Aa0_5 na0_5 ca0_5 Aa0_6 na0_6 ca0_6 Aa0_7 na0_7 ca0_7 sa0_8 xa0_9]; exact h)

/-- gatehouse/judge.Quick -/
def f53.AL : Nat → Option Ann := fun r => match r with | 3 => some ⟨[(3, .int .i64), (14, .int .i64)], [1, 12, 13]⟩ | 8 => some ⟨[(3, .int .i64), (26, .int .i64)], [1, 24, 25]⟩ | 15 => some ⟨[(43, .int .i64)], [8, 41, 42]⟩ | _ => none
def f53.AC : Nat → Option Ann := fun _ => none
def f53.VC (xa0_0 : Int) (Aa0_1 : Option Addr) (na0_1 ca0_1 : Nat) (Aa0_2 : Option Addr) (na0_2 ca0_2 : Nat) (Aa0_3 : Option Addr) (na0_3 ca0_3 : Nat) (Aa0_4 : Option Addr) (na0_4 ca0_4 : Nat) (Aa0_5 : Option Addr) (na0_5 ca0_5 : Nat) (Aa0_6 : Option Addr) (na0_6 ca0_6 : Nat) (Aa0_7 : Option Addr) (na0_7 ca0_7 : Nat) (sa0_8 : ByteArray) (xa0_9 : Int) (w : World) (R : Value → World → Prop) : Prop :=
  let b0 := World.alloc w (.cells #[.int .i64 xa0_0, .slice Aa0_1 na0_1 ca0_1, .slice Aa0_2 na0_2 ca0_2, .slice Aa0_3 na0_3 ca0_3, .slice Aa0_4 na0_4 ca0_4, .slice Aa0_5 na0_5 ca0_5, .slice Aa0_6 na0_6 ca0_6, .slice Aa0_7 na0_7 ca0_7, .string sa0_8, .int .i64 xa0_9] 67);
  ∃ d0 g0 h0,
  b0.cell? ⟨w.heap.size, 4, none⟩ = some (.slice d0 g0 h0) ∧
  ∃ i0 : Int → Int → World → Nat → Prop,
  (∃ n, i0 0 0 b0 n) ∧
  ∀ j0 : Env, ∀ k0 p0 q0 t0, i0 k0 p0 q0 t0 →
  sel (decide ((p0 : Int) < ((g0 : Int) : Int))) (
  (0 : Int) ≤ p0 ∧ p0 < (g0 : Int) ∧
  needPtr d0 fun u0 v0 =>
  ∃ x0,
  q0.cell? ⟨u0, v0 + p0.toNat * 16, none⟩ = some (.int .i64 x0) ∧
  ∃ y0,
  q0.cell? ⟨u0, v0 + p0.toNat * 16 + 1, none⟩ = some (.int .i64 y0) ∧
  ∃ z0,
  q0.cell? ⟨u0, v0 + p0.toNat * 16 + 1 + 1, none⟩ = some (.int .i64 z0) ∧
  ∃ b1,
  q0.cell? ⟨u0, v0 + p0.toNat * 16 + 1 + 1 + 1, none⟩ = some (.int .i64 b1) ∧
  ∃ d1,
  q0.cell? ⟨u0, v0 + p0.toNat * 16 + 1 + 1 + 1 + 1, none⟩ = some (.int .i64 d1) ∧
  ∃ g1 h1 i1,
  q0.cell? ⟨u0, v0 + p0.toNat * 16 + 1 + 1 + 1 + 1 + 1, none⟩ = some (.slice g1 h1 i1) ∧
  ∃ j1 k1 p1,
  q0.cell? ⟨u0, v0 + p0.toNat * 16 + 1 + 1 + 1 + 1 + 1 + 1, none⟩ = some (.slice j1 k1 p1) ∧
  ∃ q1 t1 u1,
  q0.cell? ⟨u0, v0 + p0.toNat * 16 + 1 + 1 + 1 + 1 + 1 + 1 + 1, none⟩ = some (.slice q1 t1 u1) ∧
  ∃ v1 x1 y1,
  q0.cell? ⟨u0, v0 + p0.toNat * 16 + 1 + 1 + 1 + 1 + 1 + 1 + 1 + 1, none⟩ = some (.slice v1 x1 y1) ∧
  ∃ z1 b2 d2,
  q0.cell? ⟨u0, v0 + p0.toNat * 16 + 1 + 1 + 1 + 1 + 1 + 1 + 1 + 1 + 1, none⟩ = some (.slice z1 b2 d2) ∧
  ∃ g2 h2 i2,
  q0.cell? ⟨u0, v0 + p0.toNat * 16 + 1 + 1 + 1 + 1 + 1 + 1 + 1 + 1 + 1 + 1, none⟩ = some (.slice g2 h2 i2) ∧
  ∃ j2 k2 p2,
  q0.cell? ⟨u0, v0 + p0.toNat * 16 + 1 + 1 + 1 + 1 + 1 + 1 + 1 + 1 + 1 + 1 + 1, none⟩ = some (.slice j2 k2 p2) ∧
  ∃ q2 t2 u2,
  q0.cell? ⟨u0, v0 + p0.toNat * 16 + 1 + 1 + 1 + 1 + 1 + 1 + 1 + 1 + 1 + 1 + 1 + 1, none⟩ = some (.slice q2 t2 u2) ∧
  ∃ v2 x2 y2,
  q0.cell? ⟨u0, v0 + p0.toNat * 16 + 1 + 1 + 1 + 1 + 1 + 1 + 1 + 1 + 1 + 1 + 1 + 1 + 1, none⟩ = some (.slice v2 x2 y2) ∧
  ∃ z2 b3 d3,
  q0.cell? ⟨u0, v0 + p0.toNat * 16 + 1 + 1 + 1 + 1 + 1 + 1 + 1 + 1 + 1 + 1 + 1 + 1 + 1 + 1, none⟩ = some (.slice z2 b3 d3) ∧
  ∃ g3 h3 i3,
  q0.cell? ⟨u0, v0 + p0.toNat * 16 + 1 + 1 + 1 + 1 + 1 + 1 + 1 + 1 + 1 + 1 + 1 + 1 + 1 + 1 + 1, none⟩ = some (.slice g3 h3 i3) ∧
  let j3 := World.alloc q0 (.cells #[.int .i64 0, .int .i64 0, .int .i64 0, .int .i64 0, .int .i64 0, .slice none 0 0, .slice none 0 0, .slice none 0 0, .slice none 0 0, .slice none 0 0, .slice none 0 0, .slice none 0 0, .slice none 0 0, .slice none 0 0, .slice none 0 0, .slice none 0 0] 62);
  canStore j3 q0.heap.size 0 16 ∧
  let k3 := setCs j3 q0.heap.size 0 [.int .i64 x0, .int .i64 y0, .int .i64 z0, .int .i64 b1, .int .i64 d1, .slice g1 h1 i1, .slice j1 k1 p1, .slice q1 t1 u1, .slice v1 x1 y1, .slice z1 b2 d2, .slice g2 h2 i2, .slice j2 k2 p2, .slice q2 t2 u2, .slice v2 x2 y2, .slice z2 b3 d3, .slice g3 h3 i3];
  ∃ p3,
  k3.cell? ⟨q0.heap.size, 2, none⟩ = some (.int .i64 p3) ∧
  ∃ q3,
  ∃ t3, (Builtin.max_ #[3, 3] 3 #[.int .i64 k0, .int .i64 p3]).run Try.prog k3 = .ok (.int .i64 q3) t3 ∧
  let u3 : Int := IntKind.i64.wrap (p0 + 1);
  ([.pointer (some ⟨w.heap.size, 0, none⟩), .slice d0 g0 h0, .int .i64 (g0 : Int)] : List Value) = ([.pointer (some ⟨w.heap.size, 0, none⟩), .slice d0 g0 h0, .int .i64 (g0 : Int)] : List Value) ∧ ∃ m, m < t0 ∧ i0 q3 u3 t3 m) (
  ∃ v3 x3 y3,
  q0.cell? ⟨w.heap.size, 3, none⟩ = some (.slice v3 x3 y3) ∧
  ∃ z3 : Int → Int → World → Nat → Prop,
  (∃ n, z3 k0 0 q0 n) ∧
  ∀ b4 : Env, ∀ d4 g4 h4 i4, z3 d4 g4 h4 i4 →
  sel (decide ((g4 : Int) < ((x3 : Int) : Int))) (
  (0 : Int) ≤ g4 ∧ g4 < (x3 : Int) ∧
  needPtr v3 fun j4 k4 =>
  ∃ p4,
  h4.cell? ⟨j4, k4 + g4.toNat * 5, none⟩ = some (.int .i8 p4) ∧
  ∃ q4,
  h4.cell? ⟨j4, k4 + g4.toNat * 5 + 1, none⟩ = some (.int .i64 q4) ∧
  ∃ t4,
  h4.cell? ⟨j4, k4 + g4.toNat * 5 + 1 + 1, none⟩ = some (.int .i64 t4) ∧
  ∃ u4,
  h4.cell? ⟨j4, k4 + g4.toNat * 5 + 1 + 1 + 1, none⟩ = some (.int .i64 u4) ∧
  ∃ v4,
  h4.cell? ⟨j4, k4 + g4.toNat * 5 + 1 + 1 + 1 + 1, none⟩ = some (.bool v4) ∧
  let x4 := World.alloc h4 (.cells #[.int .i8 0, .int .i64 0, .int .i64 0, .int .i64 0, .bool false] 144);
  canStore x4 h4.heap.size 0 5 ∧
  let y4 := setCs x4 h4.heap.size 0 [.int .i8 p4, .int .i64 q4, .int .i64 t4, .int .i64 u4, .bool v4];
  ∃ z4,
  y4.cell? ⟨h4.heap.size, 0, none⟩ = some (.int .i8 z4) ∧
  sel ((z4 : Int) == (5 : Int)) (
  ∃ b5,
  y4.cell? ⟨h4.heap.size, 2, none⟩ = some (.int .i64 b5) ∧
  ∃ d5,
  ∃ g5, (Builtin.max_ #[3, 3] 3 #[.int .i64 d4, .int .i64 b5]).run Try.prog y4 = .ok (.int .i64 d5) g5 ∧
  let h5 : Int := IntKind.i64.wrap (g4 + 1);
  ([.pointer (some ⟨w.heap.size, 0, none⟩), .slice v3 x3 y3, .int .i64 (x3 : Int)] : List Value) = ([.pointer (some ⟨w.heap.size, 0, none⟩), .slice v3 x3 y3, .int .i64 (x3 : Int)] : List Value) ∧ ∃ m, m < i4 ∧ z3 d5 h5 g5 m) (
  let i5 : Int := IntKind.i64.wrap (g4 + 1);
  ([.pointer (some ⟨w.heap.size, 0, none⟩), .slice v3 x3 y3, .int .i64 (x3 : Int)] : List Value) = ([.pointer (some ⟨w.heap.size, 0, none⟩), .slice v3 x3 y3, .int .i64 (x3 : Int)] : List Value) ∧ ∃ m, m < i4 ∧ z3 d4 i5 y4 m)) (
  Calls Try.prog 84 #[.int .i64 d4] h4 fun j5 k5 =>
  ∃ p5,
  j5 = .returned (.int .i64 p5) ∧
  ∃ q5 t5 u5,
  k5.cell? ⟨w.heap.size, 1, none⟩ = some (.slice q5 t5 u5) ∧
  ∃ v5 : Int → World → Nat → Prop,
  (∃ n, v5 0 k5 n) ∧
  ∀ x5 : Env, ∀ y5 z5 b6, v5 y5 z5 b6 →
  sel (decide ((y5 : Int) < ((t5 : Int) : Int))) (
  (0 : Int) ≤ y5 ∧ y5 < (t5 : Int) ∧
  needPtr q5 fun d6 g6 =>
  ∃ h6,
  z5.cell? ⟨d6, g6 + y5.toNat * 12, none⟩ = some (.int .i64 h6) ∧
  ∃ i6,
  z5.cell? ⟨d6, g6 + y5.toNat * 12 + 1, none⟩ = some (.int .i64 i6) ∧
  ∃ j6,
  z5.cell? ⟨d6, g6 + y5.toNat * 12 + 1 + 1, none⟩ = some (.int .i8 j6) ∧
  ∃ k6,
  z5.cell? ⟨d6, g6 + y5.toNat * 12 + 1 + 1 + 1, none⟩ = some (.int .i64 k6) ∧
  ∃ p6,
  z5.cell? ⟨d6, g6 + y5.toNat * 12 + 1 + 1 + 1 + 1, none⟩ = some (.int .i64 p6) ∧
  ∃ q6,
  z5.cell? ⟨d6, g6 + y5.toNat * 12 + 1 + 1 + 1 + 1 + 1, none⟩ = some (.int .i64 q6) ∧
  ∃ t6,
  z5.cell? ⟨d6, g6 + y5.toNat * 12 + 1 + 1 + 1 + 1 + 1 + 1, none⟩ = some (.int .i64 t6) ∧
  ∃ u6,
  z5.cell? ⟨d6, g6 + y5.toNat * 12 + 1 + 1 + 1 + 1 + 1 + 1 + 1, none⟩ = some (.int .i64 u6) ∧
  ∃ v6,
  z5.cell? ⟨d6, g6 + y5.toNat * 12 + 1 + 1 + 1 + 1 + 1 + 1 + 1 + 1, none⟩ = some (.bool v6) ∧
  ∃ x6,
  z5.cell? ⟨d6, g6 + y5.toNat * 12 + 1 + 1 + 1 + 1 + 1 + 1 + 1 + 1 + 1, none⟩ = some (.int .i64 x6) ∧
  ∃ y6,
  z5.cell? ⟨d6, g6 + y5.toNat * 12 + 1 + 1 + 1 + 1 + 1 + 1 + 1 + 1 + 1 + 1, none⟩ = some (.bool y6) ∧
  ∃ z6,
  z5.cell? ⟨d6, g6 + y5.toNat * 12 + 1 + 1 + 1 + 1 + 1 + 1 + 1 + 1 + 1 + 1 + 1, none⟩ = some (.bool z6) ∧
  let b7 := World.alloc z5 (.cells #[.int .i64 0, .int .i64 0, .int .i8 0, .int .i64 0, .int .i64 0, .int .i64 0, .int .i64 0, .int .i64 0, .bool false, .int .i64 0, .bool false, .bool false] 59);
  canStore b7 z5.heap.size 0 12 ∧
  let d7 := setCs b7 z5.heap.size 0 [.int .i64 h6, .int .i64 i6, .int .i8 j6, .int .i64 k6, .int .i64 p6, .int .i64 q6, .int .i64 t6, .int .i64 u6, .bool v6, .int .i64 x6, .bool y6, .bool z6];
  ∃ g7,
  d7.cell? ⟨z5.heap.size, 0, none⟩ = some (.int .i64 g7) ∧
  ∃ h7,
  d7.cell? ⟨z5.heap.size, 1, none⟩ = some (.int .i64 h7) ∧
  ∃ i7,
  d7.cell? ⟨z5.heap.size, 2, none⟩ = some (.int .i8 i7) ∧
  ∃ j7,
  d7.cell? ⟨z5.heap.size, 3, none⟩ = some (.int .i64 j7) ∧
  ∃ k7,
  d7.cell? ⟨z5.heap.size, 4, none⟩ = some (.int .i64 k7) ∧
  ∃ p7,
  d7.cell? ⟨z5.heap.size, 5, none⟩ = some (.int .i64 p7) ∧
  ∃ q7,
  d7.cell? ⟨z5.heap.size, 6, none⟩ = some (.int .i64 q7) ∧
  ∃ t7,
  d7.cell? ⟨z5.heap.size, 7, none⟩ = some (.int .i64 t7) ∧
  ∃ u7,
  d7.cell? ⟨z5.heap.size, 8, none⟩ = some (.bool u7) ∧
  ∃ v7,
  d7.cell? ⟨z5.heap.size, 9, none⟩ = some (.int .i64 v7) ∧
  ∃ x7,
  d7.cell? ⟨z5.heap.size, 10, none⟩ = some (.bool x7) ∧
  ∃ y7,
  d7.cell? ⟨z5.heap.size, 11, none⟩ = some (.bool y7) ∧
  Calls Try.prog 74 #[.agg #[.int .i64 g7, .int .i64 h7, .int .i8 i7, .int .i64 j7, .int .i64 k7, .int .i64 p7, .int .i64 q7, .int .i64 t7, .bool u7, .int .i64 v7, .bool x7, .bool y7]] d7 fun z7 b8 =>
  ∃ d8,
  z7 = .returned (.bool d8) ∧
  sel d8 (
  ∃ g8,
  b8.cell? ⟨z5.heap.size, 6, none⟩ = some (.int .i64 g8) ∧
  sel (decide ((p5 : Int) < (g8 : Int))) (
  R (.bool false) b8) (
  ∃ h8,
  b8.cell? ⟨z5.heap.size, 4, none⟩ = some (.int .i64 h8) ∧
  sel (decide ((h8 : Int) < (0 : Int))) (
  ∃ i8,
  b8.cell? ⟨z5.heap.size, 6, none⟩ = some (.int .i64 i8) ∧
  sel ((i8 : Int) == (p5 : Int)) (
  R (.bool false) b8) (
  let j8 : Int := IntKind.i64.wrap (y5 + 1);
  ([.int .i64 p5, .slice q5 t5 u5, .int .i64 (t5 : Int)] : List Value) = ([.int .i64 p5, .slice q5 t5 u5, .int .i64 (t5 : Int)] : List Value) ∧ ∃ m, m < b6 ∧ v5 j8 b8 m)) (
  let k8 : Int := IntKind.i64.wrap (y5 + 1);
  ([.int .i64 p5, .slice q5 t5 u5, .int .i64 (t5 : Int)] : List Value) = ([.int .i64 p5, .slice q5 t5 u5, .int .i64 (t5 : Int)] : List Value) ∧ ∃ m, m < b6 ∧ v5 k8 b8 m))) (
  let p8 : Int := IntKind.i64.wrap (y5 + 1);
  ([.int .i64 p5, .slice q5 t5 u5, .int .i64 (t5 : Int)] : List Value) = ([.int .i64 p5, .slice q5 t5 u5, .int .i64 (t5 : Int)] : List Value) ∧ ∃ m, m < b6 ∧ v5 p8 b8 m)) (
  R (.bool true) z5)))
theorem f53.eq (xa0_0 : Int) (Aa0_1 : Option Addr) (na0_1 ca0_1 : Nat) (Aa0_2 : Option Addr) (na0_2 ca0_2 : Nat) (Aa0_3 : Option Addr) (na0_3 ca0_3 : Nat) (Aa0_4 : Option Addr) (na0_4 ca0_4 : Nat) (Aa0_5 : Option Addr) (na0_5 ca0_5 : Nat) (Aa0_6 : Option Addr) (na0_6 ca0_6 : Nat) (Aa0_7 : Option Addr) (na0_7 ca0_7 : Nat) (sa0_8 : ByteArray) (xa0_9 : Int) (w : World) (R : Value → World → Prop) : f53.VC xa0_0 Aa0_1 na0_1 ca0_1 Aa0_2 na0_2 ca0_2 Aa0_3 na0_3 ca0_3 Aa0_4 na0_4 ca0_4 Aa0_5 na0_5 ca0_5 Aa0_6 na0_6 ca0_6 Aa0_7 na0_7 ca0_7 sa0_8 xa0_9 w R = funV Try.prog Try.f53 f53.AL f53.AC #[.agg #[.int .i64 xa0_0, .slice Aa0_1 na0_1 ca0_1, .slice Aa0_2 na0_2 ca0_2, .slice Aa0_3 na0_3 ca0_3, .slice Aa0_4 na0_4 ca0_4, .slice Aa0_5 na0_5 ca0_5, .slice Aa0_6 na0_6 ca0_6, .slice Aa0_7 na0_7 ca0_7, .string sa0_8, .int .i64 xa0_9]] w R := by kernel_rfl
theorem f53.calls {xa0_0 : Int} {Aa0_1 : Option Addr} {na0_1 ca0_1 : Nat} {Aa0_2 : Option Addr} {na0_2 ca0_2 : Nat} {Aa0_3 : Option Addr} {na0_3 ca0_3 : Nat} {Aa0_4 : Option Addr} {na0_4 ca0_4 : Nat} {Aa0_5 : Option Addr} {na0_5 ca0_5 : Nat} {Aa0_6 : Option Addr} {na0_6 ca0_6 : Nat} {Aa0_7 : Option Addr} {na0_7 ca0_7 : Nat} {sa0_8 : ByteArray} {xa0_9 : Int} {w : World} {R : Value → World → Prop} (h : f53.VC xa0_0 Aa0_1 na0_1 ca0_1 Aa0_2 na0_2 ca0_2 Aa0_3 na0_3 ca0_3 Aa0_4 na0_4 ca0_4 Aa0_5 na0_5 ca0_5 Aa0_6 na0_6 ca0_6 Aa0_7 na0_7 ca0_7 sa0_8 xa0_9 w R) : Calls Try.prog 53 #[.agg #[.int .i64 xa0_0, .slice Aa0_1 na0_1 ca0_1, .slice Aa0_2 na0_2 ca0_2, .slice Aa0_3 na0_3 ca0_3, .slice Aa0_4 na0_4 ca0_4, .slice Aa0_5 na0_5 ca0_5, .slice Aa0_6 na0_6 ca0_6, .slice Aa0_7 na0_7 ca0_7, .string sa0_8, .int .i64 xa0_9]] w fun e w' => ∃ v, e = .returned v ∧ R v w' :=
  funV_sound (fn := Try.f53) (AL := f53.AL) (AC := f53.AC) W6.mixed (by kernel_rfl) (by rw [← f53.eq xa0_0 Aa0_1 na0_1 ca0_1 Aa0_2 na0_2 ca0_2 Aa0_3 na0_3 ca0_3 Aa0_4 na0_4 ca0_4 Aa0_5 na0_5 ca0_5 Aa0_6 na0_6 ca0_6 Aa0_7 na0_7 ca0_7 sa0_8 xa0_9]; exact h)

/-- gatehouse/store.CheckSteps -/
def f84.AL : Nat → Option Ann := fun _ => none
def f84.AC : Nat → Option Ann := fun _ => none
def f84.VC (xa0 : Int) (w : World) (R : Value → World → Prop) : Prop :=
  sel (decide ((xa0 : Int) < (4 : Int))) (
  let b0 : Int := IntKind.i64.wrap (4 - 4);
  2 ≠ (0 : Int) ∧
  let d0 : Int := IntKind.i64.wrap (Int.tdiv b0 2);
  let g0 : Int := IntKind.i64.wrap (3 * d0);
  let h0 : Int := IntKind.i64.wrap (11 + g0);
  R (.int .i64 h0) w) (
  let i0 : Int := IntKind.i64.wrap (xa0 - 4);
  2 ≠ (0 : Int) ∧
  let j0 : Int := IntKind.i64.wrap (Int.tdiv i0 2);
  let k0 : Int := IntKind.i64.wrap (3 * j0);
  let p0 : Int := IntKind.i64.wrap (11 + k0);
  R (.int .i64 p0) w)
theorem f84.eq (xa0 : Int) (w : World) (R : Value → World → Prop) : f84.VC xa0 w R = funV Try.prog Try.f84 f84.AL f84.AC #[.int .i64 xa0] w R := by kernel_rfl
theorem f84.calls {xa0 : Int} {w : World} {R : Value → World → Prop} (h : f84.VC xa0 w R) : Calls Try.prog 84 #[.int .i64 xa0] w fun e w' => ∃ v, e = .returned v ∧ R v w' :=
  funV_sound (fn := Try.f84) (AL := f84.AL) (AC := f84.AC) W6.mixed (by kernel_rfl) (by rw [← f84.eq xa0]; exact h)

/-- gatehouse/judge.well -/
def f70.AL : Nat → Option Ann := fun _ => none
def f70.AC : Nat → Option Ann := fun _ => none
def f70.VC (xa0_0 : Int) (xa0_1 : Int) (xa0_2 : Int) (xa0_3 : Int) (xa0_4 : Int) (xa0_5 : Int) (xa0_6 : Int) (xa0_7 : Int) (ba0_8 : Bool) (xa0_9 : Int) (ba0_10 : Bool) (ba0_11 : Bool) (w : World) (R : Value → World → Prop) : Prop :=
  let b0 := World.alloc w (.cells #[.int .i64 xa0_0, .int .i64 xa0_1, .int .i8 xa0_2, .int .i64 xa0_3, .int .i64 xa0_4, .int .i64 xa0_5, .int .i64 xa0_6, .int .i64 xa0_7, .bool ba0_8, .int .i64 xa0_9, .bool ba0_10, .bool ba0_11] 59);
  ∃ d0,
  b0.cell? ⟨w.heap.size, 4, none⟩ = some (.int .i64 d0) ∧
  sel (decide ((0 : Int) ≤ (d0 : Int))) (
  ∃ g0,
  b0.cell? ⟨w.heap.size, 7, none⟩ = some (.int .i64 g0) ∧
  R (.bool ((g0 : Int) == (0 : Int))) b0) (
  R (.bool false) b0)
theorem f70.eq (xa0_0 : Int) (xa0_1 : Int) (xa0_2 : Int) (xa0_3 : Int) (xa0_4 : Int) (xa0_5 : Int) (xa0_6 : Int) (xa0_7 : Int) (ba0_8 : Bool) (xa0_9 : Int) (ba0_10 : Bool) (ba0_11 : Bool) (w : World) (R : Value → World → Prop) : f70.VC xa0_0 xa0_1 xa0_2 xa0_3 xa0_4 xa0_5 xa0_6 xa0_7 ba0_8 xa0_9 ba0_10 ba0_11 w R = funV Try.prog Try.f70 f70.AL f70.AC #[.agg #[.int .i64 xa0_0, .int .i64 xa0_1, .int .i8 xa0_2, .int .i64 xa0_3, .int .i64 xa0_4, .int .i64 xa0_5, .int .i64 xa0_6, .int .i64 xa0_7, .bool ba0_8, .int .i64 xa0_9, .bool ba0_10, .bool ba0_11]] w R := by kernel_rfl
theorem f70.calls {xa0_0 : Int} {xa0_1 : Int} {xa0_2 : Int} {xa0_3 : Int} {xa0_4 : Int} {xa0_5 : Int} {xa0_6 : Int} {xa0_7 : Int} {ba0_8 : Bool} {xa0_9 : Int} {ba0_10 : Bool} {ba0_11 : Bool} {w : World} {R : Value → World → Prop} (h : f70.VC xa0_0 xa0_1 xa0_2 xa0_3 xa0_4 xa0_5 xa0_6 xa0_7 ba0_8 xa0_9 ba0_10 ba0_11 w R) : Calls Try.prog 70 #[.agg #[.int .i64 xa0_0, .int .i64 xa0_1, .int .i8 xa0_2, .int .i64 xa0_3, .int .i64 xa0_4, .int .i64 xa0_5, .int .i64 xa0_6, .int .i64 xa0_7, .bool ba0_8, .int .i64 xa0_9, .bool ba0_10, .bool ba0_11]] w fun e w' => ∃ v, e = .returned v ∧ R v w' :=
  funV_sound (fn := Try.f70) (AL := f70.AL) (AC := f70.AC) W6.mixed (by kernel_rfl) (by rw [← f70.eq xa0_0 xa0_1 xa0_2 xa0_3 xa0_4 xa0_5 xa0_6 xa0_7 ba0_8 xa0_9 ba0_10 ba0_11]; exact h)

/-- gatehouse/judge.write -/
def f71.AL : Nat → Option Ann := fun _ => none
def f71.AC : Nat → Option Ann := fun _ => none
def f71.VC (xa0_0 : Int) (xa0_1 : Int) (xa0_2 : Int) (xa0_3 : Int) (xa0_4 : Int) (xa0_5 : Int) (xa0_6 : Int) (xa0_7 : Int) (ba0_8 : Bool) (xa0_9 : Int) (ba0_10 : Bool) (ba0_11 : Bool) (w : World) (R : Value → World → Prop) : Prop :=
  let b0 := World.alloc w (.cells #[.int .i64 xa0_0, .int .i64 xa0_1, .int .i8 xa0_2, .int .i64 xa0_3, .int .i64 xa0_4, .int .i64 xa0_5, .int .i64 xa0_6, .int .i64 xa0_7, .bool ba0_8, .int .i64 xa0_9, .bool ba0_10, .bool ba0_11] 59);
  ∃ d0,
  b0.cell? ⟨w.heap.size, 2, none⟩ = some (.int .i8 d0) ∧
  sel ((d0 : Int) == (4 : Int)) (
  R (.bool true) b0) (
  ∃ g0,
  b0.cell? ⟨w.heap.size, 2, none⟩ = some (.int .i8 g0) ∧
  sel ((g0 : Int) == (5 : Int)) (
  R (.bool true) b0) (
  ∃ h0,
  b0.cell? ⟨w.heap.size, 2, none⟩ = some (.int .i8 h0) ∧
  R (.bool ((h0 : Int) == (6 : Int))) b0))
theorem f71.eq (xa0_0 : Int) (xa0_1 : Int) (xa0_2 : Int) (xa0_3 : Int) (xa0_4 : Int) (xa0_5 : Int) (xa0_6 : Int) (xa0_7 : Int) (ba0_8 : Bool) (xa0_9 : Int) (ba0_10 : Bool) (ba0_11 : Bool) (w : World) (R : Value → World → Prop) : f71.VC xa0_0 xa0_1 xa0_2 xa0_3 xa0_4 xa0_5 xa0_6 xa0_7 ba0_8 xa0_9 ba0_10 ba0_11 w R = funV Try.prog Try.f71 f71.AL f71.AC #[.agg #[.int .i64 xa0_0, .int .i64 xa0_1, .int .i8 xa0_2, .int .i64 xa0_3, .int .i64 xa0_4, .int .i64 xa0_5, .int .i64 xa0_6, .int .i64 xa0_7, .bool ba0_8, .int .i64 xa0_9, .bool ba0_10, .bool ba0_11]] w R := by kernel_rfl
theorem f71.calls {xa0_0 : Int} {xa0_1 : Int} {xa0_2 : Int} {xa0_3 : Int} {xa0_4 : Int} {xa0_5 : Int} {xa0_6 : Int} {xa0_7 : Int} {ba0_8 : Bool} {xa0_9 : Int} {ba0_10 : Bool} {ba0_11 : Bool} {w : World} {R : Value → World → Prop} (h : f71.VC xa0_0 xa0_1 xa0_2 xa0_3 xa0_4 xa0_5 xa0_6 xa0_7 ba0_8 xa0_9 ba0_10 ba0_11 w R) : Calls Try.prog 71 #[.agg #[.int .i64 xa0_0, .int .i64 xa0_1, .int .i8 xa0_2, .int .i64 xa0_3, .int .i64 xa0_4, .int .i64 xa0_5, .int .i64 xa0_6, .int .i64 xa0_7, .bool ba0_8, .int .i64 xa0_9, .bool ba0_10, .bool ba0_11]] w fun e w' => ∃ v, e = .returned v ∧ R v w' :=
  funV_sound (fn := Try.f71) (AL := f71.AL) (AC := f71.AC) W6.mixed (by kernel_rfl) (by rw [← f71.eq xa0_0 xa0_1 xa0_2 xa0_3 xa0_4 xa0_5 xa0_6 xa0_7 ba0_8 xa0_9 ba0_10 ba0_11]; exact h)

/-- gatehouse/judge.read -/
def f74.AL : Nat → Option Ann := fun _ => none
def f74.AC : Nat → Option Ann := fun _ => none
def f74.VC (xa0_0 : Int) (xa0_1 : Int) (xa0_2 : Int) (xa0_3 : Int) (xa0_4 : Int) (xa0_5 : Int) (xa0_6 : Int) (xa0_7 : Int) (ba0_8 : Bool) (xa0_9 : Int) (ba0_10 : Bool) (ba0_11 : Bool) (w : World) (R : Value → World → Prop) : Prop :=
  let b0 := World.alloc w (.cells #[.int .i64 xa0_0, .int .i64 xa0_1, .int .i8 xa0_2, .int .i64 xa0_3, .int .i64 xa0_4, .int .i64 xa0_5, .int .i64 xa0_6, .int .i64 xa0_7, .bool ba0_8, .int .i64 xa0_9, .bool ba0_10, .bool ba0_11] 59);
  ∃ d0,
  b0.cell? ⟨w.heap.size, 2, none⟩ = some (.int .i8 d0) ∧
  sel ((d0 : Int) == (3 : Int)) (
  R (.bool true) b0) (
  ∃ g0,
  b0.cell? ⟨w.heap.size, 2, none⟩ = some (.int .i8 g0) ∧
  R (.bool ((g0 : Int) == (7 : Int))) b0)
theorem f74.eq (xa0_0 : Int) (xa0_1 : Int) (xa0_2 : Int) (xa0_3 : Int) (xa0_4 : Int) (xa0_5 : Int) (xa0_6 : Int) (xa0_7 : Int) (ba0_8 : Bool) (xa0_9 : Int) (ba0_10 : Bool) (ba0_11 : Bool) (w : World) (R : Value → World → Prop) : f74.VC xa0_0 xa0_1 xa0_2 xa0_3 xa0_4 xa0_5 xa0_6 xa0_7 ba0_8 xa0_9 ba0_10 ba0_11 w R = funV Try.prog Try.f74 f74.AL f74.AC #[.agg #[.int .i64 xa0_0, .int .i64 xa0_1, .int .i8 xa0_2, .int .i64 xa0_3, .int .i64 xa0_4, .int .i64 xa0_5, .int .i64 xa0_6, .int .i64 xa0_7, .bool ba0_8, .int .i64 xa0_9, .bool ba0_10, .bool ba0_11]] w R := by kernel_rfl
theorem f74.calls {xa0_0 : Int} {xa0_1 : Int} {xa0_2 : Int} {xa0_3 : Int} {xa0_4 : Int} {xa0_5 : Int} {xa0_6 : Int} {xa0_7 : Int} {ba0_8 : Bool} {xa0_9 : Int} {ba0_10 : Bool} {ba0_11 : Bool} {w : World} {R : Value → World → Prop} (h : f74.VC xa0_0 xa0_1 xa0_2 xa0_3 xa0_4 xa0_5 xa0_6 xa0_7 ba0_8 xa0_9 ba0_10 ba0_11 w R) : Calls Try.prog 74 #[.agg #[.int .i64 xa0_0, .int .i64 xa0_1, .int .i8 xa0_2, .int .i64 xa0_3, .int .i64 xa0_4, .int .i64 xa0_5, .int .i64 xa0_6, .int .i64 xa0_7, .bool ba0_8, .int .i64 xa0_9, .bool ba0_10, .bool ba0_11]] w fun e w' => ∃ v, e = .returned v ∧ R v w' :=
  funV_sound (fn := Try.f74) (AL := f74.AL) (AC := f74.AC) W6.mixed (by kernel_rfl) (by rw [← f74.eq xa0_0 xa0_1 xa0_2 xa0_3 xa0_4 xa0_5 xa0_6 xa0_7 ba0_8 xa0_9 ba0_10 ba0_11]; exact h)

/-- gatehouse/judge.counting -/
def f75.AL : Nat → Option Ann := fun r => match r with | 3 => some ⟨[(5, .ptr), (11, .int .i64)], [1, 2, 10]⟩ | _ => none
def f75.AC : Nat → Option Ann := fun _ => none
def f75.VC (xa0_0 : Int) (Aa0_1 : Option Addr) (na0_1 ca0_1 : Nat) (Aa0_2 : Option Addr) (na0_2 ca0_2 : Nat) (Aa0_3 : Option Addr) (na0_3 ca0_3 : Nat) (Aa0_4 : Option Addr) (na0_4 ca0_4 : Nat) (Aa0_5 : Option Addr) (na0_5 ca0_5 : Nat) (Aa0_6 : Option Addr) (na0_6 ca0_6 : Nat) (Aa0_7 : Option Addr) (na0_7 ca0_7 : Nat) (sa0_8 : ByteArray) (xa0_9 : Int) (xa1 : Int) (w : World) (R : Value → World → Prop) : Prop :=
  let b0 := World.alloc w (.cells #[.int .i64 xa0_0, .slice Aa0_1 na0_1 ca0_1, .slice Aa0_2 na0_2 ca0_2, .slice Aa0_3 na0_3 ca0_3, .slice Aa0_4 na0_4 ca0_4, .slice Aa0_5 na0_5 ca0_5, .slice Aa0_6 na0_6 ca0_6, .slice Aa0_7 na0_7 ca0_7, .string sa0_8, .int .i64 xa0_9] 67);
  ∃ d0 g0 h0,
  b0.cell? ⟨w.heap.size, 4, none⟩ = some (.slice d0 g0 h0) ∧
  ∃ i0 : Option Addr → Int → World → Nat → Prop,
  (∃ n, i0 none 0 b0 n) ∧
  ∀ j0 : Env, ∀ k0 p0 q0 t0, i0 k0 p0 q0 t0 →
  sel (decide ((p0 : Int) < ((g0 : Int) : Int))) (
  ∃ u0 v0 x0,
  q0.cell? ⟨w.heap.size, 4, none⟩ = some (.slice u0 v0 x0) ∧
  (0 : Int) ≤ p0 ∧ p0 < (v0 : Int) ∧
  needPtr u0 fun y0 z0 =>
  ∃ b1,
  q0.cell? ⟨y0, z0 + p0.toNat * 16 + 3, none⟩ = some (.int .i64 b1) ∧
  sel (decide ((b1 : Int) < (xa1 : Int))) (
  sel (Option.isNone k0) (
  let d1 : Int := IntKind.i64.wrap (p0 + 1);
  ([.int .i64 xa1, .pointer (some ⟨w.heap.size, 0, none⟩), .int .i64 (g0 : Int)] : List Value) = ([.int .i64 xa1, .pointer (some ⟨w.heap.size, 0, none⟩), .int .i64 (g0 : Int)] : List Value) ∧ ∃ m, m < t0 ∧ i0 (some ⟨y0, z0 + p0.toNat * 16, none⟩) d1 q0.drew m) (
  needPtr k0 fun g1 h1 =>
  ∃ i1,
  q0.cell? ⟨y0, z0 + p0.toNat * 16 + 3, none⟩ = some (.int .i64 i1) ∧
  ∃ j1,
  q0.cell? ⟨g1, h1 + 3, none⟩ = some (.int .i64 j1) ∧
  sel (decide ((j1 : Int) < (i1 : Int))) (
  let k1 : Int := IntKind.i64.wrap (p0 + 1);
  ([.int .i64 xa1, .pointer (some ⟨w.heap.size, 0, none⟩), .int .i64 (g0 : Int)] : List Value) = ([.int .i64 xa1, .pointer (some ⟨w.heap.size, 0, none⟩), .int .i64 (g0 : Int)] : List Value) ∧ ∃ m, m < t0 ∧ i0 (some ⟨y0, z0 + p0.toNat * 16, none⟩) k1 q0.drew m) (
  let p1 : Int := IntKind.i64.wrap (p0 + 1);
  ([.int .i64 xa1, .pointer (some ⟨w.heap.size, 0, none⟩), .int .i64 (g0 : Int)] : List Value) = ([.int .i64 xa1, .pointer (some ⟨w.heap.size, 0, none⟩), .int .i64 (g0 : Int)] : List Value) ∧ ∃ m, m < t0 ∧ i0 k0 p1 q0.drew m))) (
  let q1 : Int := IntKind.i64.wrap (p0 + 1);
  ([.int .i64 xa1, .pointer (some ⟨w.heap.size, 0, none⟩), .int .i64 (g0 : Int)] : List Value) = ([.int .i64 xa1, .pointer (some ⟨w.heap.size, 0, none⟩), .int .i64 (g0 : Int)] : List Value) ∧ ∃ m, m < t0 ∧ i0 k0 q1 q0.drew m)) (
  R (.pointer k0) q0)
theorem f75.eq (xa0_0 : Int) (Aa0_1 : Option Addr) (na0_1 ca0_1 : Nat) (Aa0_2 : Option Addr) (na0_2 ca0_2 : Nat) (Aa0_3 : Option Addr) (na0_3 ca0_3 : Nat) (Aa0_4 : Option Addr) (na0_4 ca0_4 : Nat) (Aa0_5 : Option Addr) (na0_5 ca0_5 : Nat) (Aa0_6 : Option Addr) (na0_6 ca0_6 : Nat) (Aa0_7 : Option Addr) (na0_7 ca0_7 : Nat) (sa0_8 : ByteArray) (xa0_9 : Int) (xa1 : Int) (w : World) (R : Value → World → Prop) : f75.VC xa0_0 Aa0_1 na0_1 ca0_1 Aa0_2 na0_2 ca0_2 Aa0_3 na0_3 ca0_3 Aa0_4 na0_4 ca0_4 Aa0_5 na0_5 ca0_5 Aa0_6 na0_6 ca0_6 Aa0_7 na0_7 ca0_7 sa0_8 xa0_9 xa1 w R = funV Try.prog Try.f75 f75.AL f75.AC #[.agg #[.int .i64 xa0_0, .slice Aa0_1 na0_1 ca0_1, .slice Aa0_2 na0_2 ca0_2, .slice Aa0_3 na0_3 ca0_3, .slice Aa0_4 na0_4 ca0_4, .slice Aa0_5 na0_5 ca0_5, .slice Aa0_6 na0_6 ca0_6, .slice Aa0_7 na0_7 ca0_7, .string sa0_8, .int .i64 xa0_9], .int .i64 xa1] w R := by kernel_rfl
theorem f75.calls {xa0_0 : Int} {Aa0_1 : Option Addr} {na0_1 ca0_1 : Nat} {Aa0_2 : Option Addr} {na0_2 ca0_2 : Nat} {Aa0_3 : Option Addr} {na0_3 ca0_3 : Nat} {Aa0_4 : Option Addr} {na0_4 ca0_4 : Nat} {Aa0_5 : Option Addr} {na0_5 ca0_5 : Nat} {Aa0_6 : Option Addr} {na0_6 ca0_6 : Nat} {Aa0_7 : Option Addr} {na0_7 ca0_7 : Nat} {sa0_8 : ByteArray} {xa0_9 : Int} {xa1 : Int} {w : World} {R : Value → World → Prop} (h : f75.VC xa0_0 Aa0_1 na0_1 ca0_1 Aa0_2 na0_2 ca0_2 Aa0_3 na0_3 ca0_3 Aa0_4 na0_4 ca0_4 Aa0_5 na0_5 ca0_5 Aa0_6 na0_6 ca0_6 Aa0_7 na0_7 ca0_7 sa0_8 xa0_9 xa1 w R) : Calls Try.prog 75 #[.agg #[.int .i64 xa0_0, .slice Aa0_1 na0_1 ca0_1, .slice Aa0_2 na0_2 ca0_2, .slice Aa0_3 na0_3 ca0_3, .slice Aa0_4 na0_4 ca0_4, .slice Aa0_5 na0_5 ca0_5, .slice Aa0_6 na0_6 ca0_6, .slice Aa0_7 na0_7 ca0_7, .string sa0_8, .int .i64 xa0_9], .int .i64 xa1] w fun e w' => ∃ v, e = .returned v ∧ R v w' :=
  funV_sound (fn := Try.f75) (AL := f75.AL) (AC := f75.AC) W6.mixed (by kernel_rfl) (by rw [← f75.eq xa0_0 Aa0_1 na0_1 ca0_1 Aa0_2 na0_2 ca0_2 Aa0_3 na0_3 ca0_3 Aa0_4 na0_4 ca0_4 Aa0_5 na0_5 ca0_5 Aa0_6 na0_6 ca0_6 Aa0_7 na0_7 ca0_7 sa0_8 xa0_9 xa1]; exact h)

/-- gatehouse/judge.triple -/
def f76.AL : Nat → Option Ann := fun _ => none
def f76.AC : Nat → Option Ann := fun _ => none
def f76.VC (Aa0 : Option Addr) (na0 ca0 : Nat) (xa1_0 : Int) (xa1_1 : Int) (xa1_2 : Int) (xa1_3 : Int) (xa1_4 : Int) (xa1_5 : Int) (xa1_6 : Int) (xa1_7 : Int) (ba1_8 : Bool) (xa1_9 : Int) (ba1_10 : Bool) (ba1_11 : Bool) (w : World) (R : Value → World → Prop) : Prop :=
  let b0 := World.alloc w (.cells #[.int .i64 xa1_0, .int .i64 xa1_1, .int .i8 xa1_2, .int .i64 xa1_3, .int .i64 xa1_4, .int .i64 xa1_5, .int .i64 xa1_6, .int .i64 xa1_7, .bool ba1_8, .int .i64 xa1_9, .bool ba1_10, .bool ba1_11] 59);
  let d0 := World.alloc b0 (.cells #[.string ⟨#[]⟩, .string ⟨#[]⟩, .string ⟨#[]⟩] 37);
  ∃ g0,
  d0.cell? ⟨w.heap.size, 0, none⟩ = some (.int .i64 g0) ∧
  sel (decide ((g0 : Int) < (0 : Int))) (
  canStore d0 b0.heap.size 0 3 ∧
  let h0 := setCs d0.drew b0.heap.size 0 [.string ⟨#[]⟩, .string ⟨#[]⟩, .string ⟨#[]⟩];
  ∃ i0,
  h0.cell? ⟨b0.heap.size, 0, none⟩ = some (.string i0) ∧
  ∃ j0,
  h0.cell? ⟨b0.heap.size, 1, none⟩ = some (.string j0) ∧
  ∃ k0,
  h0.cell? ⟨b0.heap.size, 2, none⟩ = some (.string k0) ∧
  R (.agg #[.string i0, .string j0, .string k0]) h0) (
  ∃ p0,
  d0.cell? ⟨w.heap.size, 0, none⟩ = some (.int .i64 p0) ∧
  sel (decide (((na0 : Int) : Int) ≤ (p0 : Int))) (
  canStore d0 b0.heap.size 0 3 ∧
  let q0 := setCs d0.drew b0.heap.size 0 [.string ⟨#[]⟩, .string ⟨#[]⟩, .string ⟨#[]⟩];
  ∃ t0,
  q0.cell? ⟨b0.heap.size, 0, none⟩ = some (.string t0) ∧
  ∃ u0,
  q0.cell? ⟨b0.heap.size, 1, none⟩ = some (.string u0) ∧
  ∃ v0,
  q0.cell? ⟨b0.heap.size, 2, none⟩ = some (.string v0) ∧
  R (.agg #[.string t0, .string u0, .string v0]) q0) (
  ∃ x0,
  d0.cell? ⟨w.heap.size, 1, none⟩ = some (.int .i64 x0) ∧
  sel (decide ((x0 : Int) < (0 : Int))) (
  canStore d0 b0.heap.size 0 3 ∧
  let y0 := setCs d0.drew b0.heap.size 0 [.string ⟨#[]⟩, .string ⟨#[]⟩, .string ⟨#[]⟩];
  ∃ z0,
  y0.cell? ⟨b0.heap.size, 0, none⟩ = some (.string z0) ∧
  ∃ b1,
  y0.cell? ⟨b0.heap.size, 1, none⟩ = some (.string b1) ∧
  ∃ d1,
  y0.cell? ⟨b0.heap.size, 2, none⟩ = some (.string d1) ∧
  R (.agg #[.string z0, .string b1, .string d1]) y0) (
  ∃ g1,
  d0.cell? ⟨w.heap.size, 1, none⟩ = some (.int .i64 g1) ∧
  ∃ h1,
  d0.cell? ⟨w.heap.size, 0, none⟩ = some (.int .i64 h1) ∧
  (0 : Int) ≤ h1 ∧ h1 < (na0 : Int) ∧
  needPtr Aa0 fun i1 j1 =>
  ∃ k1 p1 q1,
  d0.cell? ⟨i1, j1 + h1.toNat * 1, none⟩ = some (.slice k1 p1 q1) ∧
  sel (decide (((p1 : Int) : Int) ≤ (g1 : Int))) (
  canStore d0 b0.heap.size 0 3 ∧
  let t1 := setCs d0.drew b0.heap.size 0 [.string ⟨#[]⟩, .string ⟨#[]⟩, .string ⟨#[]⟩];
  ∃ u1,
  t1.cell? ⟨b0.heap.size, 0, none⟩ = some (.string u1) ∧
  ∃ v1,
  t1.cell? ⟨b0.heap.size, 1, none⟩ = some (.string v1) ∧
  ∃ x1,
  t1.cell? ⟨b0.heap.size, 2, none⟩ = some (.string x1) ∧
  R (.agg #[.string u1, .string v1, .string x1]) t1) (
  ∃ y1,
  d0.cell? ⟨w.heap.size, 0, none⟩ = some (.int .i64 y1) ∧
  (0 : Int) ≤ y1 ∧ y1 < (na0 : Int) ∧
  needPtr Aa0 fun z1 b2 =>
  ∃ d2 g2 h2,
  d0.cell? ⟨z1, b2 + y1.toNat * 1, none⟩ = some (.slice d2 g2 h2) ∧
  ∃ i2,
  d0.cell? ⟨w.heap.size, 1, none⟩ = some (.int .i64 i2) ∧
  (0 : Int) ≤ i2 ∧ i2 < (g2 : Int) ∧
  needPtr d2 fun j2 k2 =>
  ∃ p2,
  d0.cell? ⟨j2, k2 + i2.toNat * 6 + 1, none⟩ = some (.string p2) ∧
  ∃ q2,
  d0.cell? ⟨j2, k2 + i2.toNat * 6 + 1 + 1, none⟩ = some (.string q2) ∧
  ∃ t2,
  d0.cell? ⟨j2, k2 + i2.toNat * 6 + 1 + 1 + 1, none⟩ = some (.string t2) ∧
  canStore d0 b0.heap.size 0 3 ∧
  let u2 := setCs d0.drew.drew b0.heap.size 0 [.string p2, .string q2, .string t2];
  ∃ v2,
  u2.cell? ⟨b0.heap.size, 0, none⟩ = some (.string v2) ∧
  ∃ x2,
  u2.cell? ⟨b0.heap.size, 1, none⟩ = some (.string x2) ∧
  ∃ y2,
  u2.cell? ⟨b0.heap.size, 2, none⟩ = some (.string y2) ∧
  R (.agg #[.string v2, .string x2, .string y2]) u2))))
theorem f76.eq (Aa0 : Option Addr) (na0 ca0 : Nat) (xa1_0 : Int) (xa1_1 : Int) (xa1_2 : Int) (xa1_3 : Int) (xa1_4 : Int) (xa1_5 : Int) (xa1_6 : Int) (xa1_7 : Int) (ba1_8 : Bool) (xa1_9 : Int) (ba1_10 : Bool) (ba1_11 : Bool) (w : World) (R : Value → World → Prop) : f76.VC Aa0 na0 ca0 xa1_0 xa1_1 xa1_2 xa1_3 xa1_4 xa1_5 xa1_6 xa1_7 ba1_8 xa1_9 ba1_10 ba1_11 w R = funV Try.prog Try.f76 f76.AL f76.AC #[.slice Aa0 na0 ca0, .agg #[.int .i64 xa1_0, .int .i64 xa1_1, .int .i8 xa1_2, .int .i64 xa1_3, .int .i64 xa1_4, .int .i64 xa1_5, .int .i64 xa1_6, .int .i64 xa1_7, .bool ba1_8, .int .i64 xa1_9, .bool ba1_10, .bool ba1_11]] w R := by kernel_rfl
theorem f76.calls {Aa0 : Option Addr} {na0 ca0 : Nat} {xa1_0 : Int} {xa1_1 : Int} {xa1_2 : Int} {xa1_3 : Int} {xa1_4 : Int} {xa1_5 : Int} {xa1_6 : Int} {xa1_7 : Int} {ba1_8 : Bool} {xa1_9 : Int} {ba1_10 : Bool} {ba1_11 : Bool} {w : World} {R : Value → World → Prop} (h : f76.VC Aa0 na0 ca0 xa1_0 xa1_1 xa1_2 xa1_3 xa1_4 xa1_5 xa1_6 xa1_7 ba1_8 xa1_9 ba1_10 ba1_11 w R) : Calls Try.prog 76 #[.slice Aa0 na0 ca0, .agg #[.int .i64 xa1_0, .int .i64 xa1_1, .int .i8 xa1_2, .int .i64 xa1_3, .int .i64 xa1_4, .int .i64 xa1_5, .int .i64 xa1_6, .int .i64 xa1_7, .bool ba1_8, .int .i64 xa1_9, .bool ba1_10, .bool ba1_11]] w fun e w' => ∃ v, e = .returned v ∧ R v w' :=
  funV_sound (fn := Try.f76) (AL := f76.AL) (AC := f76.AC) W6.mixed (by kernel_rfl) (by rw [← f76.eq Aa0 na0 ca0 xa1_0 xa1_1 xa1_2 xa1_3 xa1_4 xa1_5 xa1_6 xa1_7 ba1_8 xa1_9 ba1_10 ba1_11]; exact h)

end Go.Proofs.Ytddbebhklmaeoaa
