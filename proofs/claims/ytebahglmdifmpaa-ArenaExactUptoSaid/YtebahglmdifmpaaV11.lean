/- The plain statements of some functions, printed by vcgen.py. -/
import Derived.Test.YtebahglmdifmpaaVcC
import Derived.Test.YtebahglmdifmpaaProg
import Derived.KernelRfl
set_option maxRecDepth 100000
set_option linter.unusedVariables false
namespace Go.Proofs.Ytebahglmdifmpaa
open Go Go.Proofs.Ytebahglmdifmpaa.Vc
theorem V11.mixed : Try.prog.follows .mixedOrders = true := by kernel_rfl
/-- gatehouse/gatehouseref15.New -/
def f39.AL : Nat → Option Ann := fun r => match r with | 5 => some ⟨[(7, .int .i64)], [0, 6]⟩ | _ => none
def f39.AC : Nat → Option Ann := fun _ => none
def f39.VC (xa0 : Int) (xa1 : Int) (w : World) (R : Value → World → Prop) : Prop :=
  sel (decide ((xa1 : Int) < (0 : Int))) (
    R (.tuple #[.pointer none, .int .i64 3]) w) (
    sel (decide ((xa0 : Int) ≤ (xa1 : Int))) (
      R (.tuple #[.pointer none, .int .i64 3]) w) (
      let w_1 : World := World.alloc w (.cells #[.int .i64 xa1, .slice none 0 0, .slice none 0 0, .int .i64 0] 110);
      ∃ I : Int → World → Nat → Prop,
      (∃ n, I 0 w_1 n) ∧
      ∀ d : Env, ∀ (x7 : Int) (w_2 : World) (r : Nat), I x7 w_2 r →
      sel (decide ((x7 : Int) < (xa0 : Int))) (
        ∃ (A27 : Option Addr) (n27 c27 : Nat),
        w_2.cell? ⟨w.heap.size, 1, none⟩ = some (.slice A27 n27 c27) ∧
        let w_3 : World := World.alloc w_2 (.cells #[.int .i64 0] 3);
        ∃ (A29 : Option Addr) (n29 c29 : Nat),
        ∃ w_4 : World, (Builtin.append_ #[23, 23] 23 #[.slice A27 n27 c27, .slice (some ⟨w_2.heap.size, 0, none⟩) 1 1]).run Try.prog w_3 = .ok (.slice A29 n29 c29) w_4 ∧
        canStore w_4 w.heap.size 1 1 ∧
        let w_5 : World := setCs w_4 w.heap.size 1 [.slice A29 n29 c29];
        ∃ (A36 : Option Addr) (n36 c36 : Nat),
        w_5.cell? ⟨w.heap.size, 2, none⟩ = some (.slice A36 n36 c36) ∧
        let w_6 : World := World.alloc w_5 (.cells #[.int .i64 0] 3);
        ∃ (A38 : Option Addr) (n38 c38 : Nat),
        ∃ w_7 : World, (Builtin.append_ #[23, 23] 23 #[.slice A36 n36 c36, .slice (some ⟨w_5.heap.size, 0, none⟩) 1 1]).run Try.prog w_6 = .ok (.slice A38 n38 c38) w_7 ∧
        canStore w_7 w.heap.size 2 1 ∧
        let w_8 : World := setCs w_7 w.heap.size 2 [.slice A38 n38 c38];
        let i22 : Int := IntKind.i64.wrap (x7 + 1);
        ([.int .i64 xa0, .pointer (some ⟨w.heap.size, 0, none⟩)] : List Value) = ([.int .i64 xa0, .pointer (some ⟨w.heap.size, 0, none⟩)] : List Value) ∧ ∃ m, m < r ∧ I i22 w_8 m) (
        R (.tuple #[.pointer (some ⟨w.heap.size, 0, none⟩), .int .i64 0]) w_2)))
theorem f39.eq (xa0 : Int) (xa1 : Int) (w : World) (R : Value → World → Prop) : f39.VC xa0 xa1 w R = funV Try.prog Try.f39 f39.AL f39.AC #[.int .i64 xa0, .int .i64 xa1] w R := by kernel_rfl
theorem f39.calls {xa0 : Int} {xa1 : Int} {w : World} {R : Value → World → Prop} (h : f39.VC xa0 xa1 w R) : Calls Try.prog 39 #[.int .i64 xa0, .int .i64 xa1] w fun e w' => ∃ v, e = .returned v ∧ R v w' :=
  funV_sound (fn := Try.f39) (AL := f39.AL) (AC := f39.AC) V11.mixed (by kernel_rfl) (by rw [← f39.eq xa0 xa1]; exact h)

/-- (*gatehouse/gatehouseref15.Arena).Blocks -/
def f47.AL : Nat → Option Ann := fun r => match r with | 3 => some ⟨[(3, .slice), (4, .int .i64)], [0]⟩ | _ => none
def f47.AC : Nat → Option Ann := fun _ => none
def f47.VC (a0 : Nat) (w : World) (R : Value → World → Prop) : Prop :=
  ∃ (x9 : Int),
  w.cell? ⟨a0, 0, none⟩ = some (.int .i64 x9) ∧
  ∃ I : Option Addr → Nat → Nat → Int → World → Nat → Prop,
  (∃ n, I none 0 0 x9 w n) ∧
  ∀ d : Env, ∀ (A3 : Option Addr) (n3 c3 : Nat) (x4 : Int) (w_1 : World) (r : Nat), I A3 n3 c3 x4 w_1 r →
  ∃ (A14 : Option Addr) (n14 c14 : Nat),
  w_1.cell? ⟨a0, 2, none⟩ = some (.slice A14 n14 c14) ∧
  sel (decide ((x4 : Int) < ((n14 : Int) : Int))) (
    Calls Try.prog 79 #[.pointer (some ⟨a0, 0, none⟩), .int .i64 x4] w_1 fun e_1 w_2 =>
    ∃ (b21 : Bool),
    e_1 = .returned (.bool b21) ∧
    sel b21 (
      (Calls Try.prog 80 #[.pointer (some ⟨a0, 0, none⟩), .int .i64 x4] w_2.drew fun e_2 w_3 =>
        ∃ (x27 : Int),
        e_2 = .returned (.int .i64 x27) ∧
        ∃ (A31 : Option Addr) (n31 c31 : Nat),
        w_3.cell? ⟨a0, 2, none⟩ = some (.slice A31 n31 c31) ∧
        (0 : Int) ≤ x4 ∧ x4 < (n31 : Int) ∧
        needPtr A31 fun b33 o33 =>
        ∃ (x34 : Int),
        w_3.cell? ⟨b33, o33 + x4.toNat * 1, none⟩ = some (.int .i64 x34) ∧
        let w_4 : World := World.alloc w_3 (.cells #[.int .i64 x4, .int .i64 x27, .bool ((x34 : Int) == (0 : Int))] 96);
        ∃ (A38 : Option Addr) (n38 c38 : Nat),
        ∃ w_5 : World, (Builtin.append_ #[83, 83] 83 #[.slice A3 n3 c3, .slice (some ⟨w_3.heap.size, 0, none⟩) 1 1]).run Try.prog w_4 = .ok (.slice A38 n38 c38) w_5 ∧
        let i18 : Int := IntKind.i64.wrap (x4 + 1);
        ([.pointer (some ⟨a0, 0, none⟩)] : List Value) = ([.pointer (some ⟨a0, 0, none⟩)] : List Value) ∧ ∃ m, m < r ∧ I A38 n38 c38 i18 w_5 m) ∧
      (∃ (A31_1 : Option Addr) (n31_1 c31_1 : Nat),
        w_2.cell? ⟨a0, 2, none⟩ = some (.slice A31_1 n31_1 c31_1) ∧
        (0 : Int) ≤ x4 ∧ x4 < (n31_1 : Int) ∧
        needPtr A31_1 fun b33_1 o33_1 =>
        (Calls Try.prog 80 #[.pointer (some ⟨a0, 0, none⟩), .int .i64 x4] w_2.drew fun e_3 w_6 =>
          ∃ (x27_1 : Int),
          e_3 = .returned (.int .i64 x27_1) ∧
          ∃ (x34_1 : Int),
          w_6.cell? ⟨b33_1, o33_1 + x4.toNat * 1, none⟩ = some (.int .i64 x34_1) ∧
          let w_7 : World := World.alloc w_6 (.cells #[.int .i64 x4, .int .i64 x27_1, .bool ((x34_1 : Int) == (0 : Int))] 96);
          ∃ (A38_1 : Option Addr) (n38_1 c38_1 : Nat),
          ∃ w_8 : World, (Builtin.append_ #[83, 83] 83 #[.slice A3 n3 c3, .slice (some ⟨w_6.heap.size, 0, none⟩) 1 1]).run Try.prog w_7 = .ok (.slice A38_1 n38_1 c38_1) w_8 ∧
          let i18_1 : Int := IntKind.i64.wrap (x4 + 1);
          ([.pointer (some ⟨a0, 0, none⟩)] : List Value) = ([.pointer (some ⟨a0, 0, none⟩)] : List Value) ∧ ∃ m, m < r ∧ I A38_1 n38_1 c38_1 i18_1 w_8 m) ∧
        (∃ (x34_2 : Int),
          w_2.cell? ⟨b33_1, o33_1 + x4.toNat * 1, none⟩ = some (.int .i64 x34_2) ∧
          Calls Try.prog 80 #[.pointer (some ⟨a0, 0, none⟩), .int .i64 x4] w_2.drew fun e_4 w_9 =>
          ∃ (x27_2 : Int),
          e_4 = .returned (.int .i64 x27_2) ∧
          let w_10 : World := World.alloc w_9 (.cells #[.int .i64 x4, .int .i64 x27_2, .bool ((x34_2 : Int) == (0 : Int))] 96);
          ∃ (A38_2 : Option Addr) (n38_2 c38_2 : Nat),
          ∃ w_11 : World, (Builtin.append_ #[83, 83] 83 #[.slice A3 n3 c3, .slice (some ⟨w_9.heap.size, 0, none⟩) 1 1]).run Try.prog w_10 = .ok (.slice A38_2 n38_2 c38_2) w_11 ∧
          let i18_2 : Int := IntKind.i64.wrap (x4 + 1);
          ([.pointer (some ⟨a0, 0, none⟩)] : List Value) = ([.pointer (some ⟨a0, 0, none⟩)] : List Value) ∧ ∃ m, m < r ∧ I A38_2 n38_2 c38_2 i18_2 w_11 m) ∧ True) ∧ True) (
      let i18_3 : Int := IntKind.i64.wrap (x4 + 1);
      ([.pointer (some ⟨a0, 0, none⟩)] : List Value) = ([.pointer (some ⟨a0, 0, none⟩)] : List Value) ∧ ∃ m, m < r ∧ I A3 n3 c3 i18_3 w_2 m)) (
    R (.slice A3 n3 c3) w_1)
theorem f47.eq (a0 : Nat) (w : World) (R : Value → World → Prop) : f47.VC a0 w R = funV Try.prog Try.f47 f47.AL f47.AC #[.pointer (some ⟨a0, 0, none⟩)] w R := by kernel_rfl
theorem f47.calls {a0 : Nat} {w : World} {R : Value → World → Prop} (h : f47.VC a0 w R) : Calls Try.prog 47 #[.pointer (some ⟨a0, 0, none⟩)] w fun e w' => ∃ v, e = .returned v ∧ R v w' :=
  funV_sound (fn := Try.f47) (AL := f47.AL) (AC := f47.AC) V11.mixed (by kernel_rfl) (by rw [← f47.eq a0]; exact h)

/-- (*gatehouse/gatehouseref15.Arena).begins -/
def f79.AL : Nat → Option Ann := fun _ => none
def f79.AC : Nat → Option Ann := fun _ => none
def f79.VC (a0 : Nat) (xa1 : Int) (w : World) (R : Value → World → Prop) : Prop :=
  ∃ (x9 : Int),
  w.cell? ⟨a0, 0, none⟩ = some (.int .i64 x9) ∧
  sel ((xa1 : Int) == (x9 : Int)) (
    R (.bool true) w.drew) (
    ∃ (x16 : Int),
    w.cell? ⟨a0, 0, none⟩ = some (.int .i64 x16) ∧
    sel (decide ((x16 : Int) < (xa1 : Int))) (
      ∃ (A23 : Option Addr) (n23 c23 : Nat),
      w.cell? ⟨a0, 2, none⟩ = some (.slice A23 n23 c23) ∧
      sel (decide ((xa1 : Int) < ((n23 : Int) : Int))) (
        let i40 : Int := IntKind.i64.wrap (xa1 - 1);
        ∃ (A31 : Option Addr) (n31 c31 : Nat),
        w.cell? ⟨a0, 2, none⟩ = some (.slice A31 n31 c31) ∧
        (0 : Int) ≤ xa1 ∧ xa1 < (n31 : Int) ∧
        needPtr A31 fun b33 o33 =>
        ∃ (x34 : Int),
        w.cell? ⟨b33, o33 + xa1.toNat * 1, none⟩ = some (.int .i64 x34) ∧
        ∃ (A38 : Option Addr) (n38 c38 : Nat),
        w.cell? ⟨a0, 2, none⟩ = some (.slice A38 n38 c38) ∧
        (0 : Int) ≤ i40 ∧ i40 < (n38 : Int) ∧
        needPtr A38 fun b41 o41 =>
        ∃ (x42 : Int),
        w.cell? ⟨b41, o41 + i40.toNat * 1, none⟩ = some (.int .i64 x42) ∧
        R (.bool ((x34 : Int) != (x42 : Int))) w.drew) (
        R (.bool false) w.drew)) (
      R (.bool false) w.drew))
theorem f79.eq (a0 : Nat) (xa1 : Int) (w : World) (R : Value → World → Prop) : f79.VC a0 xa1 w R = funV Try.prog Try.f79 f79.AL f79.AC #[.pointer (some ⟨a0, 0, none⟩), .int .i64 xa1] w R := by kernel_rfl
theorem f79.calls {a0 : Nat} {xa1 : Int} {w : World} {R : Value → World → Prop} (h : f79.VC a0 xa1 w R) : Calls Try.prog 79 #[.pointer (some ⟨a0, 0, none⟩), .int .i64 xa1] w fun e w' => ∃ v, e = .returned v ∧ R v w' :=
  funV_sound (fn := Try.f79) (AL := f79.AL) (AC := f79.AC) V11.mixed (by kernel_rfl) (by rw [← f79.eq a0 xa1]; exact h)

/-- (*gatehouse/gatehouseref15.Arena).size -/
def f80.AL : Nat → Option Ann := fun r => match r with | 2 => some ⟨[(5, .int .i64)], [0, 1]⟩ | _ => none
def f80.AC : Nat → Option Ann := fun _ => none
def f80.VC (a0 : Nat) (xa1 : Int) (w : World) (R : Value → World → Prop) : Prop :=
  ∃ I : Int → World → Nat → Prop,
  (∃ n, I 1 w n) ∧
  ∀ d : Env, ∀ (x5 : Int) (w_1 : World) (r : Nat), I x5 w_1 r →
  let i8 : Int := IntKind.i64.wrap (xa1 + x5);
  ∃ (A12 : Option Addr) (n12 c12 : Nat),
  w_1.cell? ⟨a0, 2, none⟩ = some (.slice A12 n12 c12) ∧
  sel (decide ((i8 : Int) < ((n12 : Int) : Int))) (
    let i22 : Int := IntKind.i64.wrap (xa1 + x5);
    ∃ (A19 : Option Addr) (n19 c19 : Nat),
    w_1.cell? ⟨a0, 2, none⟩ = some (.slice A19 n19 c19) ∧
    (0 : Int) ≤ i22 ∧ i22 < (n19 : Int) ∧
    needPtr A19 fun b23 o23 =>
    ∃ (x24 : Int),
    w_1.cell? ⟨b23, o23 + i22.toNat * 1, none⟩ = some (.int .i64 x24) ∧
    ∃ (A28 : Option Addr) (n28 c28 : Nat),
    w_1.cell? ⟨a0, 2, none⟩ = some (.slice A28 n28 c28) ∧
    (0 : Int) ≤ xa1 ∧ xa1 < (n28 : Int) ∧
    needPtr A28 fun b30 o30 =>
    ∃ (x31 : Int),
    w_1.cell? ⟨b30, o30 + xa1.toNat * 1, none⟩ = some (.int .i64 x31) ∧
    sel ((x24 : Int) == (x31 : Int)) (
      let i35 : Int := IntKind.i64.wrap (x5 + 1);
      ([.pointer (some ⟨a0, 0, none⟩), .int .i64 xa1] : List Value) = ([.pointer (some ⟨a0, 0, none⟩), .int .i64 xa1] : List Value) ∧ ∃ m, m < r ∧ I i35 w_1.drew m) (
      R (.int .i64 x5) w_1.drew)) (
    R (.int .i64 x5) w_1.drew)
theorem f80.eq (a0 : Nat) (xa1 : Int) (w : World) (R : Value → World → Prop) : f80.VC a0 xa1 w R = funV Try.prog Try.f80 f80.AL f80.AC #[.pointer (some ⟨a0, 0, none⟩), .int .i64 xa1] w R := by kernel_rfl
theorem f80.calls {a0 : Nat} {xa1 : Int} {w : World} {R : Value → World → Prop} (h : f80.VC a0 xa1 w R) : Calls Try.prog 80 #[.pointer (some ⟨a0, 0, none⟩), .int .i64 xa1] w fun e w' => ∃ v, e = .returned v ∧ R v w' :=
  funV_sound (fn := Try.f80) (AL := f80.AL) (AC := f80.AC) V11.mixed (by kernel_rfl) (by rw [← f80.eq a0 xa1]; exact h)

/-- (*gatehouse/gatehouseref15.Arena).Take -/
def f44.AL : Nat → Option Ann := fun r => match r with | 5 => some ⟨[(7, .int .i64)], [0, 1, 6]⟩ | 10 => some ⟨[(8, .int .i64)], [0, 1, 6, 7]⟩ | _ => none
def f44.AC : Nat → Option Ann := fun _ => none
def f44.VC (a0 : Nat) (xa1 : Int) (w : World) (R : Value → World → Prop) : Prop :=
  sel (decide ((xa1 : Int) < (1 : Int))) (
    R (.tuple #[.int .i64 0, .int .i64 1]) w) (
    Calls Try.prog 47 #[.pointer (some ⟨a0, 0, none⟩)] w fun e_1 w_1 =>
    ∃ (A12 : Option Addr) (n12 c12 : Nat),
    e_1 = .returned (.slice A12 n12 c12) ∧
    ∃ I : Int → World → Nat → Prop,
    (∃ n, I 0 w_1 n) ∧
    ∀ d : Env, ∀ (x7 : Int) (w_2 : World) (r : Nat), I x7 w_2 r →
    sel (decide ((x7 : Int) < ((n12 : Int) : Int))) (
      (0 : Int) ≤ x7 ∧ x7 < (n12 : Int) ∧
      needPtr A12 fun b21 o21 =>
      ∃ (b23 : Bool),
      w_2.cell? ⟨b21, o21 + x7.toNat * 3 + 2, none⟩ = some (.bool b23) ∧
      sel b23 (
        (0 : Int) ≤ x7 ∧ x7 < (n12 : Int) ∧
        needPtr A12 fun b27 o27 =>
        ∃ (x29 : Int),
        w_2.cell? ⟨b27, o27 + x7.toNat * 3 + 1, none⟩ = some (.int .i64 x29) ∧
        sel (decide ((xa1 : Int) ≤ (x29 : Int))) (
          ∃ (x36 : Int),
          w_2.cell? ⟨a0, 3, none⟩ = some (.int .i64 x36) ∧
          let i37 : Int := IntKind.i64.wrap (x36 + 1);
          canStore w_2 a0 3 1 ∧
          let w_3 : World := setCs w_2 a0 3 [.int .i64 i37];
          (0 : Int) ≤ x7 ∧ x7 < (n12 : Int) ∧
          needPtr A12 fun b42 o42 =>
          ∃ (x44 : Int),
          w_3.cell? ⟨b42, o42 + x7.toNat * 3, none⟩ = some (.int .i64 x44) ∧
          ∃ I_1 : Int → World → Nat → Prop,
          (∃ n, I_1 x44 w_3 n) ∧
          ∀ d_1 : Env, ∀ (x8 : Int) (w_4 : World) (r_1 : Nat), I_1 x8 w_4 r_1 →
          (0 : Int) ≤ x7 ∧ x7 < (n12 : Int) ∧
          needPtr A12 fun b48 o48 =>
          ∃ (x50 : Int),
          w_4.cell? ⟨b48, o48 + x7.toNat * 3, none⟩ = some (.int .i64 x50) ∧
          let i52 : Int := IntKind.i64.wrap (x50 + xa1);
          sel (decide ((x8 : Int) < (i52 : Int))) (
            ∃ (A59 : Option Addr) (n59 c59 : Nat),
            w_4.cell? ⟨a0, 2, none⟩ = some (.slice A59 n59 c59) ∧
            ∃ (x64 : Int),
            w_4.cell? ⟨a0, 3, none⟩ = some (.int .i64 x64) ∧
            (0 : Int) ≤ x8 ∧ x8 < (n59 : Int) ∧
            needPtr A59 fun b65 o65 =>
            canStore w_4 b65 (o65 + x8.toNat * 1) 1 ∧
            let w_5 : World := setCs w_4.drew b65 (o65 + x8.toNat * 1) [.int .i64 x64];
            ∃ (A69 : Option Addr) (n69 c69 : Nat),
            w_5.cell? ⟨a0, 1, none⟩ = some (.slice A69 n69 c69) ∧
            (0 : Int) ≤ x8 ∧ x8 < (n69 : Int) ∧
            needPtr A69 fun b71 o71 =>
            canStore w_5 b71 (o71 + x8.toNat * 1) 1 ∧
            let w_6 : World := setCs w_5 b71 (o71 + x8.toNat * 1) [.int .i64 0];
            let i55 : Int := IntKind.i64.wrap (x8 + 1);
            ([.pointer (some ⟨a0, 0, none⟩), .int .i64 xa1, .slice A12 n12 c12, .int .i64 x7] : List Value) = ([.pointer (some ⟨a0, 0, none⟩), .int .i64 xa1, .slice A12 n12 c12, .int .i64 x7] : List Value) ∧ ∃ m, m < r_1 ∧ I_1 i55 w_6 m) (
            (0 : Int) ≤ x7 ∧ x7 < (n12 : Int) ∧
            needPtr A12 fun b74 o74 =>
            ∃ (x76 : Int),
            w_4.cell? ⟨b74, o74 + x7.toNat * 3, none⟩ = some (.int .i64 x76) ∧
            R (.tuple #[.int .i64 x76, .int .i64 0]) w_4)) (
          let i18 : Int := IntKind.i64.wrap (x7 + 1);
          ([.pointer (some ⟨a0, 0, none⟩), .int .i64 xa1, .slice A12 n12 c12] : List Value) = ([.pointer (some ⟨a0, 0, none⟩), .int .i64 xa1, .slice A12 n12 c12] : List Value) ∧ ∃ m, m < r ∧ I i18 w_2 m)) (
        let i18_1 : Int := IntKind.i64.wrap (x7 + 1);
        ([.pointer (some ⟨a0, 0, none⟩), .int .i64 xa1, .slice A12 n12 c12] : List Value) = ([.pointer (some ⟨a0, 0, none⟩), .int .i64 xa1, .slice A12 n12 c12] : List Value) ∧ ∃ m, m < r ∧ I i18_1 w_2 m)) (
      R (.tuple #[.int .i64 0, .int .i64 150]) w_2))
theorem f44.eq (a0 : Nat) (xa1 : Int) (w : World) (R : Value → World → Prop) : f44.VC a0 xa1 w R = funV Try.prog Try.f44 f44.AL f44.AC #[.pointer (some ⟨a0, 0, none⟩), .int .i64 xa1] w R := by kernel_rfl
theorem f44.calls {a0 : Nat} {xa1 : Int} {w : World} {R : Value → World → Prop} (h : f44.VC a0 xa1 w R) : Calls Try.prog 44 #[.pointer (some ⟨a0, 0, none⟩), .int .i64 xa1] w fun e w' => ∃ v, e = .returned v ∧ R v w' :=
  funV_sound (fn := Try.f44) (AL := f44.AL) (AC := f44.AC) V11.mixed (by kernel_rfl) (by rw [← f44.eq a0 xa1]; exact h)

/-- (*gatehouse/gatehouseref15.Arena).Give -/
def f42.AL : Nat → Option Ann := fun r => match r with | 3 => some ⟨[(6, .int .i64)], [0, 1, 5]⟩ | 7 => some ⟨[(7, .int .i64)], [0, 1, 5, 6]⟩ | _ => none
def f42.AC : Nat → Option Ann := fun _ => none
def f42.VC (a0 : Nat) (xa1 : Int) (w : World) (R : Value → World → Prop) : Prop :=
  Calls Try.prog 47 #[.pointer (some ⟨a0, 0, none⟩)] w fun e_1 w_1 =>
  ∃ (A9 : Option Addr) (n9 c9 : Nat),
  e_1 = .returned (.slice A9 n9 c9) ∧
  ∃ I : Int → World → Nat → Prop,
  (∃ n, I 0 w_1 n) ∧
  ∀ d : Env, ∀ (x6 : Int) (w_2 : World) (r : Nat), I x6 w_2 r →
  sel (decide ((x6 : Int) < ((n9 : Int) : Int))) (
    (0 : Int) ≤ x6 ∧ x6 < (n9 : Int) ∧
    needPtr A9 fun b18 o18 =>
    ∃ (x20 : Int),
    w_2.cell? ⟨b18, o18 + x6.toNat * 3, none⟩ = some (.int .i64 x20) ∧
    sel ((x20 : Int) == (xa1 : Int)) (
      (0 : Int) ≤ x6 ∧ x6 < (n9 : Int) ∧
      needPtr A9 fun b26 o26 =>
      ∃ (b28 : Bool),
      w_2.cell? ⟨b26, o26 + x6.toNat * 3 + 2, none⟩ = some (.bool b28) ∧
      sel (!b28) (
        ∃ I_1 : Int → World → Nat → Prop,
        (∃ n, I_1 xa1 w_2 n) ∧
        ∀ d_1 : Env, ∀ (x7 : Int) (w_3 : World) (r_1 : Nat), I_1 x7 w_3 r_1 →
        (0 : Int) ≤ x6 ∧ x6 < (n9 : Int) ∧
        needPtr A9 fun b36 o36 =>
        ∃ (x38 : Int),
        w_3.cell? ⟨b36, o36 + x6.toNat * 3 + 1, none⟩ = some (.int .i64 x38) ∧
        let i39 : Int := IntKind.i64.wrap (xa1 + x38);
        sel (decide ((x7 : Int) < (i39 : Int))) (
          ∃ (A46 : Option Addr) (n46 c46 : Nat),
          w_3.cell? ⟨a0, 2, none⟩ = some (.slice A46 n46 c46) ∧
          (0 : Int) ≤ x7 ∧ x7 < (n46 : Int) ∧
          needPtr A46 fun b48 o48 =>
          canStore w_3 b48 (o48 + x7.toNat * 1) 1 ∧
          let w_4 : World := setCs w_3 b48 (o48 + x7.toNat * 1) [.int .i64 0];
          ∃ (A52 : Option Addr) (n52 c52 : Nat),
          w_4.cell? ⟨a0, 1, none⟩ = some (.slice A52 n52 c52) ∧
          (0 : Int) ≤ x7 ∧ x7 < (n52 : Int) ∧
          needPtr A52 fun b54 o54 =>
          canStore w_4 b54 (o54 + x7.toNat * 1) 1 ∧
          let w_5 : World := setCs w_4 b54 (o54 + x7.toNat * 1) [.int .i64 (-4611686018427387904)];
          let i42 : Int := IntKind.i64.wrap (x7 + 1);
          ([.pointer (some ⟨a0, 0, none⟩), .int .i64 xa1, .slice A9 n9 c9, .int .i64 x6] : List Value) = ([.pointer (some ⟨a0, 0, none⟩), .int .i64 xa1, .slice A9 n9 c9, .int .i64 x6] : List Value) ∧ ∃ m, m < r_1 ∧ I_1 i42 w_5 m) (
          R (.int .i64 0) w_3)) (
        let i15 : Int := IntKind.i64.wrap (x6 + 1);
        ([.pointer (some ⟨a0, 0, none⟩), .int .i64 xa1, .slice A9 n9 c9] : List Value) = ([.pointer (some ⟨a0, 0, none⟩), .int .i64 xa1, .slice A9 n9 c9] : List Value) ∧ ∃ m, m < r ∧ I i15 w_2 m)) (
      let i15_1 : Int := IntKind.i64.wrap (x6 + 1);
      ([.pointer (some ⟨a0, 0, none⟩), .int .i64 xa1, .slice A9 n9 c9] : List Value) = ([.pointer (some ⟨a0, 0, none⟩), .int .i64 xa1, .slice A9 n9 c9] : List Value) ∧ ∃ m, m < r ∧ I i15_1 w_2 m)) (
    R (.int .i64 151) w_2)
theorem f42.eq (a0 : Nat) (xa1 : Int) (w : World) (R : Value → World → Prop) : f42.VC a0 xa1 w R = funV Try.prog Try.f42 f42.AL f42.AC #[.pointer (some ⟨a0, 0, none⟩), .int .i64 xa1] w R := by kernel_rfl
theorem f42.calls {a0 : Nat} {xa1 : Int} {w : World} {R : Value → World → Prop} (h : f42.VC a0 xa1 w R) : Calls Try.prog 42 #[.pointer (some ⟨a0, 0, none⟩), .int .i64 xa1] w fun e w' => ∃ v, e = .returned v ∧ R v w' :=
  funV_sound (fn := Try.f42) (AL := f42.AL) (AC := f42.AC) V11.mixed (by kernel_rfl) (by rw [← f42.eq a0 xa1]; exact h)

/-- (*gatehouse/gatehouseref15.Arena).Live -/
def f50.AL : Nat → Option Ann := fun r => match r with | 4 => some ⟨[(4, .int .i64), (5, .int .i64)], [3]⟩ | _ => none
def f50.AC : Nat → Option Ann := fun _ => none
def f50.VC (a0 : Nat) (w : World) (R : Value → World → Prop) : Prop :=
  Calls Try.prog 47 #[.pointer (some ⟨a0, 0, none⟩)] w fun e_1 w_1 =>
  ∃ (A7 : Option Addr) (n7 c7 : Nat),
  e_1 = .returned (.slice A7 n7 c7) ∧
  ∃ I : Int → Int → World → Nat → Prop,
  (∃ n, I 0 0 w_1 n) ∧
  ∀ d : Env, ∀ (x4 : Int) (x5 : Int) (w_2 : World) (r : Nat), I x4 x5 w_2 r →
  sel (decide ((x5 : Int) < ((n7 : Int) : Int))) (
    (0 : Int) ≤ x5 ∧ x5 < (n7 : Int) ∧
    needPtr A7 fun b16 o16 =>
    ∃ (b18 : Bool),
    w_2.cell? ⟨b16, o16 + x5.toNat * 3 + 2, none⟩ = some (.bool b18) ∧
    sel (!b18) (
      let i21 : Int := IntKind.i64.wrap (x4 + 1);
      let i13 : Int := IntKind.i64.wrap (x5 + 1);
      ([.slice A7 n7 c7] : List Value) = ([.slice A7 n7 c7] : List Value) ∧ ∃ m, m < r ∧ I i21 i13 w_2 m) (
      let i13_1 : Int := IntKind.i64.wrap (x5 + 1);
      ([.slice A7 n7 c7] : List Value) = ([.slice A7 n7 c7] : List Value) ∧ ∃ m, m < r ∧ I x4 i13_1 w_2 m)) (
    R (.int .i64 x4) w_2)
theorem f50.eq (a0 : Nat) (w : World) (R : Value → World → Prop) : f50.VC a0 w R = funV Try.prog Try.f50 f50.AL f50.AC #[.pointer (some ⟨a0, 0, none⟩)] w R := by kernel_rfl
theorem f50.calls {a0 : Nat} {w : World} {R : Value → World → Prop} (h : f50.VC a0 w R) : Calls Try.prog 50 #[.pointer (some ⟨a0, 0, none⟩)] w fun e w' => ∃ v, e = .returned v ∧ R v w' :=
  funV_sound (fn := Try.f50) (AL := f50.AL) (AC := f50.AC) V11.mixed (by kernel_rfl) (by rw [← f50.eq a0]; exact h)

/-- gatehouse/gatehouselaw15.back -/
def f40.AL : Nat → Option Ann := fun r => match r with | 4 => some ⟨[(6, .slice), (7, .int .i64)], [1, 5]⟩ | _ => none
def f40.AC : Nat → Option Ann := fun _ => none
def f40.VC (a0 : Nat) (xa1 : Int) (w : World) (R : Value → World → Prop) : Prop :=
  Calls Try.prog 47 #[.pointer (some ⟨a0, 0, none⟩)] w fun e_1 w_1 =>
  ∃ (A9 : Option Addr) (n9 c9 : Nat),
  e_1 = .returned (.slice A9 n9 c9) ∧
  ∃ I : Option Addr → Nat → Nat → Int → World → Nat → Prop,
  (∃ n, I none 0 0 0 w_1 n) ∧
  ∀ d : Env, ∀ (A6 : Option Addr) (n6 c6 : Nat) (x7 : Int) (w_2 : World) (r : Nat), I A6 n6 c6 x7 w_2 r →
  sel (decide ((x7 : Int) < ((n9 : Int) : Int))) (
    (0 : Int) ≤ x7 ∧ x7 < (n9 : Int) ∧
    needPtr A9 fun b18 o18 =>
    ∃ (b20 : Bool),
    w_2.cell? ⟨b18, o18 + x7.toNat * 3 + 2, none⟩ = some (.bool b20) ∧
    sel (!b20) (
      (0 : Int) ≤ x7 ∧ x7 < (n9 : Int) ∧
      needPtr A9 fun b25 o25 =>
      ∃ (x27 : Int),
      w_2.cell? ⟨b25, o25 + x7.toNat * 3, none⟩ = some (.int .i64 x27) ∧
      let w_3 : World := World.alloc w_2 (.cells #[.int .i64 x27] 3);
      ∃ (A29 : Option Addr) (n29 c29 : Nat),
      ∃ w_4 : World, (Builtin.append_ #[23, 23] 23 #[.slice A6 n6 c6, .slice (some ⟨w_2.heap.size, 0, none⟩) 1 1]).run Try.prog w_3 = .ok (.slice A29 n29 c29) w_4 ∧
      let i15 : Int := IntKind.i64.wrap (x7 + 1);
      ([.int .i64 xa1, .slice A9 n9 c9] : List Value) = ([.int .i64 xa1, .slice A9 n9 c9] : List Value) ∧ ∃ m, m < r ∧ I A29 n29 c29 i15 w_4 m) (
      let i15_1 : Int := IntKind.i64.wrap (x7 + 1);
      ([.int .i64 xa1, .slice A9 n9 c9] : List Value) = ([.int .i64 xa1, .slice A9 n9 c9] : List Value) ∧ ∃ m, m < r ∧ I A6 n6 c6 i15_1 w_2 m)) (
    sel (((n6 : Int) : Int) == (0 : Int)) (
      R (.int .i64 xa1) w_2) (
      Calls Try.prog 19 #[.int .i64 xa1, .int .i64 (n6 : Int)] w_2 fun e_2 w_5 =>
      ∃ (x38 : Int),
      e_2 = .returned (.int .i64 x38) ∧
      (0 : Int) ≤ x38 ∧ x38 < (n6 : Int) ∧
      needPtr A6 fun b39 o39 =>
      ∃ (x40 : Int),
      w_5.cell? ⟨b39, o39 + x38.toNat * 1, none⟩ = some (.int .i64 x40) ∧
      R (.int .i64 x40) w_5))
theorem f40.eq (a0 : Nat) (xa1 : Int) (w : World) (R : Value → World → Prop) : f40.VC a0 xa1 w R = funV Try.prog Try.f40 f40.AL f40.AC #[.pointer (some ⟨a0, 0, none⟩), .int .i64 xa1] w R := by kernel_rfl
theorem f40.calls {a0 : Nat} {xa1 : Int} {w : World} {R : Value → World → Prop} (h : f40.VC a0 xa1 w R) : Calls Try.prog 40 #[.pointer (some ⟨a0, 0, none⟩), .int .i64 xa1] w fun e w' => ∃ v, e = .returned v ∧ R v w' :=
  funV_sound (fn := Try.f40) (AL := f40.AL) (AC := f40.AC) V11.mixed (by kernel_rfl) (by rw [← f40.eq a0 xa1]; exact h)

end Go.Proofs.Ytebahglmdifmpaa
