/- The plain statements of some functions, printed by vcgen.py. -/
import Derived.Test.YtebahglmdifmpaaVcC
import Derived.Test.YtebahglmdifmpaaProg
import Derived.KernelRfl
set_option maxRecDepth 100000
set_option linter.unusedVariables false
namespace Go.Proofs.Ytebahglmdifmpaa
open Go Go.Proofs.Ytebahglmdifmpaa.Vc
theorem V6.mixed : Try.prog.follows .mixedOrders = true := by kernel_rfl
/-- (*gatehouse/gatehouseref15.Heap).Push -/
def f17.AL : Nat → Option Ann := fun _ => none
def f17.AC : Nat → Option Ann := fun _ => none
def f17.VC (a0 o0 : Nat) (xa1_0 : Int) (xa1_1 : Int) (w : World) (R : Value → World → Prop) : Prop :=
  let w_1 : World := World.alloc w (.cells #[.int .i64 xa1_0, .int .i64 xa1_1] 38);
  ∃ (A8 : Option Addr) (n8 c8 : Nat),
  w_1.cell? ⟨a0, o0, none⟩ = some (.slice A8 n8 c8) ∧
  ∃ (x9_0 : Int),
  w_1.cell? ⟨w.heap.size, 0, none⟩ = some (.int .i64 x9_0) ∧
  ∃ (x9_1 : Int),
  w_1.cell? ⟨w.heap.size, 1, none⟩ = some (.int .i64 x9_1) ∧
  let w_2 : World := World.alloc w_1.drew (.cells #[.int .i64 x9_0, .int .i64 x9_1] 38);
  ∃ (A11 : Option Addr) (n11 c11 : Nat),
  ∃ w_3 : World, (Builtin.append_ #[32, 32] 32 #[.slice A8 n8 c8, .slice (some ⟨w_1.heap.size, 0, none⟩) 1 1]).run Try.prog w_2 = .ok (.slice A11 n11 c11) w_3 ∧
  canStore w_3 a0 o0 1 ∧
  let w_4 : World := setCs w_3 a0 o0 [.slice A11 n11 c11];
  R (.tuple #[]) w_4
theorem f17.eq (a0 o0 : Nat) (xa1_0 : Int) (xa1_1 : Int) (w : World) (R : Value → World → Prop) : f17.VC a0 o0 xa1_0 xa1_1 w R = funV Try.prog Try.f17 f17.AL f17.AC #[.pointer (some ⟨a0, o0, none⟩), .agg #[.int .i64 xa1_0, .int .i64 xa1_1]] w R := by kernel_rfl
theorem f17.calls {a0 o0 : Nat} {xa1_0 : Int} {xa1_1 : Int} {w : World} {R : Value → World → Prop} (h : f17.VC a0 o0 xa1_0 xa1_1 w R) : Calls Try.prog 17 #[.pointer (some ⟨a0, o0, none⟩), .agg #[.int .i64 xa1_0, .int .i64 xa1_1]] w fun e w' => ∃ v, e = .returned v ∧ R v w' :=
  funV_sound (fn := Try.f17) (AL := f17.AL) (AC := f17.AC) V6.mixed (by kernel_rfl) (by rw [← f17.eq a0 o0 xa1_0 xa1_1]; exact h)

/-- (*gatehouse/gatehouseref15.Heap).Pop -/
def f21.AL : Nat → Option Ann := fun r => match r with | 7 => some ⟨[(7, .slice), (8, .int .i64)], [0, 2, 4, 6]⟩ | _ => none
def f21.AC : Nat → Option Ann := fun _ => none
def f21.VC (a0 o0 : Nat) (w : World) (R : Value → World → Prop) : Prop :=
  let w_1 : World := World.alloc w (.cells #[.int .i64 0, .int .i64 0] 38);
  Calls Try.prog 64 #[.pointer (some ⟨a0, o0, none⟩)] w_1 fun e_1 w_2 =>
  ∃ (x11_0_0 : Int) (x11_0_1 : Int) (b11_1 : Bool),
  e_1 = .returned (.tuple #[.agg #[.int .i64 x11_0_0, .int .i64 x11_0_1], .bool b11_1]) ∧
  let w_3 : World := World.alloc w_2 (.cells #[.int .i64 0, .int .i64 0] 38);
  canStore w_3 w_2.heap.size 0 2 ∧
  let w_4 : World := setCs w_3 w_2.heap.size 0 [.int .i64 x11_0_0, .int .i64 x11_0_1];
  sel (!b11_1) (
    ∃ (x16_0 : Int),
    w_4.cell? ⟨w_2.heap.size, 0, none⟩ = some (.int .i64 x16_0) ∧
    ∃ (x16_1 : Int),
    w_4.cell? ⟨w_2.heap.size, 1, none⟩ = some (.int .i64 x16_1) ∧
    canStore w_4 w.heap.size 0 2 ∧
    let w_5 : World := setCs w_4 w.heap.size 0 [.int .i64 x16_0, .int .i64 x16_1];
    ∃ (x2_0 : Int),
    w_5.cell? ⟨w.heap.size, 0, none⟩ = some (.int .i64 x2_0) ∧
    ∃ (x2_1 : Int),
    w_5.cell? ⟨w.heap.size, 1, none⟩ = some (.int .i64 x2_1) ∧
    R (.tuple #[.agg #[.int .i64 x2_0, .int .i64 x2_1], .bool false]) w_5) (
    Calls Try.prog 65 #[.pointer (some ⟨a0, o0, none⟩)] w_4 fun e_2 w_6 =>
    ∃ (x18 : Int),
    e_2 = .returned (.int .i64 x18) ∧
    ∃ I : Option Addr → Nat → Nat → Int → World → Nat → Prop,
    (∃ n, I none 0 0 0 w_6 n) ∧
    ∀ d : Env, ∀ (A7 : Option Addr) (n7 c7 : Nat) (x8 : Int) (w_7 : World) (r : Nat), I A7 n7 c7 x8 w_7 r →
    ∃ (A23 : Option Addr) (n23 c23 : Nat),
    w_7.cell? ⟨a0, o0, none⟩ = some (.slice A23 n23 c23) ∧
    sel (decide ((x8 : Int) < ((n23 : Int) : Int))) (
      sel ((x8 : Int) != (x18 : Int)) (
        ∃ (A35 : Option Addr) (n35 c35 : Nat),
        w_7.cell? ⟨a0, o0, none⟩ = some (.slice A35 n35 c35) ∧
        (0 : Int) ≤ x8 ∧ x8 < (n35 : Int) ∧
        needPtr A35 fun b37 o37 =>
        ∃ (x38_0 : Int),
        w_7.cell? ⟨b37, o37 + x8.toNat * 2, none⟩ = some (.int .i64 x38_0) ∧
        ∃ (x38_1 : Int),
        w_7.cell? ⟨b37, o37 + x8.toNat * 2 + 1, none⟩ = some (.int .i64 x38_1) ∧
        let w_8 : World := World.alloc w_7 (.cells #[.int .i64 x38_0, .int .i64 x38_1] 38);
        ∃ (A40 : Option Addr) (n40 c40 : Nat),
        ∃ w_9 : World, (Builtin.append_ #[32, 32] 32 #[.slice A7 n7 c7, .slice (some ⟨w_7.heap.size, 0, none⟩) 1 1]).run Try.prog w_8 = .ok (.slice A40 n40 c40) w_9 ∧
        let i27 : Int := IntKind.i64.wrap (x8 + 1);
        ([.pointer (some ⟨a0, o0, none⟩), .pointer (some ⟨w.heap.size, 0, none⟩), .pointer (some ⟨w_2.heap.size, 0, none⟩), .int .i64 x18] : List Value) = ([.pointer (some ⟨a0, o0, none⟩), .pointer (some ⟨w.heap.size, 0, none⟩), .pointer (some ⟨w_2.heap.size, 0, none⟩), .int .i64 x18] : List Value) ∧ ∃ m, m < r ∧ I A40 n40 c40 i27 w_9 m) (
        let i27_1 : Int := IntKind.i64.wrap (x8 + 1);
        ([.pointer (some ⟨a0, o0, none⟩), .pointer (some ⟨w.heap.size, 0, none⟩), .pointer (some ⟨w_2.heap.size, 0, none⟩), .int .i64 x18] : List Value) = ([.pointer (some ⟨a0, o0, none⟩), .pointer (some ⟨w.heap.size, 0, none⟩), .pointer (some ⟨w_2.heap.size, 0, none⟩), .int .i64 x18] : List Value) ∧ ∃ m, m < r ∧ I A7 n7 c7 i27_1 w_7 m)) (
      canStore w_7 a0 o0 1 ∧
      let w_10 : World := setCs w_7 a0 o0 [.slice A7 n7 c7];
      ∃ (x45_0 : Int),
      w_10.cell? ⟨w_2.heap.size, 0, none⟩ = some (.int .i64 x45_0) ∧
      ∃ (x45_1 : Int),
      w_10.cell? ⟨w_2.heap.size, 1, none⟩ = some (.int .i64 x45_1) ∧
      canStore w_10 w.heap.size 0 2 ∧
      let w_11 : World := setCs w_10 w.heap.size 0 [.int .i64 x45_0, .int .i64 x45_1];
      ∃ (x2_0_1 : Int),
      w_11.cell? ⟨w.heap.size, 0, none⟩ = some (.int .i64 x2_0_1) ∧
      ∃ (x2_1_1 : Int),
      w_11.cell? ⟨w.heap.size, 1, none⟩ = some (.int .i64 x2_1_1) ∧
      R (.tuple #[.agg #[.int .i64 x2_0_1, .int .i64 x2_1_1], .bool true]) w_11))
theorem f21.eq (a0 o0 : Nat) (w : World) (R : Value → World → Prop) : f21.VC a0 o0 w R = funV Try.prog Try.f21 f21.AL f21.AC #[.pointer (some ⟨a0, o0, none⟩)] w R := by kernel_rfl
theorem f21.calls {a0 o0 : Nat} {w : World} {R : Value → World → Prop} (h : f21.VC a0 o0 w R) : Calls Try.prog 21 #[.pointer (some ⟨a0, o0, none⟩)] w fun e w' => ∃ v, e = .returned v ∧ R v w' :=
  funV_sound (fn := Try.f21) (AL := f21.AL) (AC := f21.AC) V6.mixed (by kernel_rfl) (by rw [← f21.eq a0 o0]; exact h)

/-- (*gatehouse/gatehouseref15.Heap).Peek -/
def f64.AL : Nat → Option Ann := fun _ => none
def f64.AC : Nat → Option Ann := fun _ => none
def f64.VC (a0 o0 : Nat) (w : World) (R : Value → World → Prop) : Prop :=
  let w_1 : World := World.alloc w (.cells #[.int .i64 0, .int .i64 0] 38);
  ∃ (A7 : Option Addr) (n7 c7 : Nat),
  w_1.cell? ⟨a0, o0, none⟩ = some (.slice A7 n7 c7) ∧
  sel (((n7 : Int) : Int) == (0 : Int)) (
    canStore w_1 w.heap.size 0 2 ∧
    let w_2 : World := setCs w_1 w.heap.size 0 [.int .i64 0, .int .i64 0];
    ∃ (x2_0 : Int),
    w_2.cell? ⟨w.heap.size, 0, none⟩ = some (.int .i64 x2_0) ∧
    ∃ (x2_1 : Int),
    w_2.cell? ⟨w.heap.size, 1, none⟩ = some (.int .i64 x2_1) ∧
    R (.tuple #[.agg #[.int .i64 x2_0, .int .i64 x2_1], .bool false]) w_2) (
    (∃ (A14 : Option Addr) (n14 c14 : Nat),
      w_1.cell? ⟨a0, o0, none⟩ = some (.slice A14 n14 c14) ∧
      Calls Try.prog 65 #[.pointer (some ⟨a0, o0, none⟩)] w_1.drew fun e_1 w_3 =>
      ∃ (x16 : Int),
      e_1 = .returned (.int .i64 x16) ∧
      (0 : Int) ≤ x16 ∧ x16 < (n14 : Int) ∧
      needPtr A14 fun b17 o17 =>
      ∃ (x18_0 : Int),
      w_3.cell? ⟨b17, o17 + x16.toNat * 2, none⟩ = some (.int .i64 x18_0) ∧
      ∃ (x18_1 : Int),
      w_3.cell? ⟨b17, o17 + x16.toNat * 2 + 1, none⟩ = some (.int .i64 x18_1) ∧
      canStore w_3 w.heap.size 0 2 ∧
      let w_4 : World := setCs w_3 w.heap.size 0 [.int .i64 x18_0, .int .i64 x18_1];
      ∃ (x2_0_1 : Int),
      w_4.cell? ⟨w.heap.size, 0, none⟩ = some (.int .i64 x2_0_1) ∧
      ∃ (x2_1_1 : Int),
      w_4.cell? ⟨w.heap.size, 1, none⟩ = some (.int .i64 x2_1_1) ∧
      R (.tuple #[.agg #[.int .i64 x2_0_1, .int .i64 x2_1_1], .bool true]) w_4) ∧
    (Calls Try.prog 65 #[.pointer (some ⟨a0, o0, none⟩)] w_1.drew fun e_2 w_5 =>
      ∃ (x16_1 : Int),
      e_2 = .returned (.int .i64 x16_1) ∧
      ∃ (A14_1 : Option Addr) (n14_1 c14_1 : Nat),
      w_5.cell? ⟨a0, o0, none⟩ = some (.slice A14_1 n14_1 c14_1) ∧
      (0 : Int) ≤ x16_1 ∧ x16_1 < (n14_1 : Int) ∧
      needPtr A14_1 fun b17_1 o17_1 =>
      ∃ (x18_0_1 : Int),
      w_5.cell? ⟨b17_1, o17_1 + x16_1.toNat * 2, none⟩ = some (.int .i64 x18_0_1) ∧
      ∃ (x18_1_1 : Int),
      w_5.cell? ⟨b17_1, o17_1 + x16_1.toNat * 2 + 1, none⟩ = some (.int .i64 x18_1_1) ∧
      canStore w_5 w.heap.size 0 2 ∧
      let w_6 : World := setCs w_5 w.heap.size 0 [.int .i64 x18_0_1, .int .i64 x18_1_1];
      ∃ (x2_0_2 : Int),
      w_6.cell? ⟨w.heap.size, 0, none⟩ = some (.int .i64 x2_0_2) ∧
      ∃ (x2_1_2 : Int),
      w_6.cell? ⟨w.heap.size, 1, none⟩ = some (.int .i64 x2_1_2) ∧
      R (.tuple #[.agg #[.int .i64 x2_0_2, .int .i64 x2_1_2], .bool true]) w_6) ∧ True)
theorem f64.eq (a0 o0 : Nat) (w : World) (R : Value → World → Prop) : f64.VC a0 o0 w R = funV Try.prog Try.f64 f64.AL f64.AC #[.pointer (some ⟨a0, o0, none⟩)] w R := by kernel_rfl
theorem f64.calls {a0 o0 : Nat} {w : World} {R : Value → World → Prop} (h : f64.VC a0 o0 w R) : Calls Try.prog 64 #[.pointer (some ⟨a0, o0, none⟩)] w fun e w' => ∃ v, e = .returned v ∧ R v w' :=
  funV_sound (fn := Try.f64) (AL := f64.AL) (AC := f64.AC) V6.mixed (by kernel_rfl) (by rw [← f64.eq a0 o0]; exact h)

/-- (*gatehouse/gatehouseref15.Heap).least -/
def f65.AL : Nat → Option Ann := fun r => match r with | 3 => some ⟨[(3, .int .i64), (4, .int .i64)], [0]⟩ | _ => none
def f65.AC : Nat → Option Ann := fun _ => none
def f65.VC (a0 o0 : Nat) (w : World) (R : Value → World → Prop) : Prop :=
  ∃ I : Int → Int → World → Nat → Prop,
  (∃ n, I 0 0 w n) ∧
  ∀ d : Env, ∀ (x3 : Int) (x4 : Int) (w_1 : World) (r : Nat), I x3 x4 w_1 r →
  ∃ (A9 : Option Addr) (n9 c9 : Nat),
  w_1.cell? ⟨a0, o0, none⟩ = some (.slice A9 n9 c9) ∧
  sel (decide ((x4 : Int) < ((n9 : Int) : Int))) (
    ∃ (A17 : Option Addr) (n17 c17 : Nat),
    w_1.cell? ⟨a0, o0, none⟩ = some (.slice A17 n17 c17) ∧
    (0 : Int) ≤ x4 ∧ x4 < (n17 : Int) ∧
    needPtr A17 fun b19 o19 =>
    ∃ (x21 : Int),
    w_1.cell? ⟨b19, o19 + x4.toNat * 2, none⟩ = some (.int .i64 x21) ∧
    ∃ (A25 : Option Addr) (n25 c25 : Nat),
    w_1.cell? ⟨a0, o0, none⟩ = some (.slice A25 n25 c25) ∧
    (0 : Int) ≤ x3 ∧ x3 < (n25 : Int) ∧
    needPtr A25 fun b27 o27 =>
    ∃ (x29 : Int),
    w_1.cell? ⟨b27, o27 + x3.toNat * 2, none⟩ = some (.int .i64 x29) ∧
    sel (decide ((x21 : Int) < (x29 : Int))) (
      let i13 : Int := IntKind.i64.wrap (x4 + 1);
      ([.pointer (some ⟨a0, o0, none⟩)] : List Value) = ([.pointer (some ⟨a0, o0, none⟩)] : List Value) ∧ ∃ m, m < r ∧ I x4 i13 w_1.drew m) (
      let i13_1 : Int := IntKind.i64.wrap (x4 + 1);
      ([.pointer (some ⟨a0, o0, none⟩)] : List Value) = ([.pointer (some ⟨a0, o0, none⟩)] : List Value) ∧ ∃ m, m < r ∧ I x3 i13_1 w_1.drew m)) (
    R (.int .i64 x3) w_1)
theorem f65.eq (a0 o0 : Nat) (w : World) (R : Value → World → Prop) : f65.VC a0 o0 w R = funV Try.prog Try.f65 f65.AL f65.AC #[.pointer (some ⟨a0, o0, none⟩)] w R := by kernel_rfl
theorem f65.calls {a0 o0 : Nat} {w : World} {R : Value → World → Prop} (h : f65.VC a0 o0 w R) : Calls Try.prog 65 #[.pointer (some ⟨a0, o0, none⟩)] w fun e w' => ∃ v, e = .returned v ∧ R v w' :=
  funV_sound (fn := Try.f65) (AL := f65.AL) (AC := f65.AC) V6.mixed (by kernel_rfl) (by rw [← f65.eq a0 o0]; exact h)

end Go.Proofs.Ytebahglmdifmpaa
