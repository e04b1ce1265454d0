/- The plain statements of some functions, printed by vcgen.py. -/
import Derived.Test.YtebahglmdifmpaaVcC
import Derived.Test.YtebahglmdifmpaaProg
import Derived.KernelRfl
set_option maxRecDepth 100000
set_option linter.unusedVariables false
namespace Go.Proofs.Ytebahglmdifmpaa
open Go Go.Proofs.Ytebahglmdifmpaa.Vc
theorem V5.mixed : Try.prog.follows .mixedOrders = true := by kernel_rfl
/-- gatehouse/gatehouselaw15.ArenaHeaps$1 -/
def f26.AL : Nat → Option Ann := fun _ => none
def f26.AC : Nat → Option Ann := fun _ => none
def f26.VC (xa0 : Int) (xa1 : Int) (a2 : Nat) (w : World) (R : Value → World → Prop) : Prop :=
  ∃ (x6 : Int),
  w.cell? ⟨a2, 0, none⟩ = some (.int .i64 x6) ∧
  (Calls Try.prog 27 #[.int .i64 x6, .int .i64 xa0] w.drew fun e_1 w_1 =>
    ∃ (x8 : Int),
    e_1 = .returned (.int .i64 x8) ∧
    ∃ (x9 : Int),
    w_1.cell? ⟨a2, 0, none⟩ = some (.int .i64 x9) ∧
    Calls Try.prog 27 #[.int .i64 x9, .int .i64 xa1] w_1 fun e_2 w_2 =>
    ∃ (x11 : Int),
    e_2 = .returned (.int .i64 x11) ∧
    R (.bool (decide ((x8 : Int) < (x11 : Int)))) w_2) ∧
  (∃ (x9_1 : Int),
    w.cell? ⟨a2, 0, none⟩ = some (.int .i64 x9_1) ∧
    Calls Try.prog 27 #[.int .i64 x6, .int .i64 xa0] w.drew fun e_3 w_3 =>
    ∃ (x8_1 : Int),
    e_3 = .returned (.int .i64 x8_1) ∧
    Calls Try.prog 27 #[.int .i64 x9_1, .int .i64 xa1] w_3 fun e_4 w_4 =>
    ∃ (x11_1 : Int),
    e_4 = .returned (.int .i64 x11_1) ∧
    R (.bool (decide ((x8_1 : Int) < (x11_1 : Int)))) w_4) ∧ True
theorem f26.eq (xa0 : Int) (xa1 : Int) (a2 : Nat) (w : World) (R : Value → World → Prop) : f26.VC xa0 xa1 a2 w R = funV Try.prog Try.f26 f26.AL f26.AC #[.int .i64 xa0, .int .i64 xa1, .pointer (some ⟨a2, 0, none⟩)] w R := by kernel_rfl
theorem f26.calls {xa0 : Int} {xa1 : Int} {a2 : Nat} {w : World} {R : Value → World → Prop} (h : f26.VC xa0 xa1 a2 w R) : Calls Try.prog 26 #[.int .i64 xa0, .int .i64 xa1, .pointer (some ⟨a2, 0, none⟩)] w fun e w' => ∃ v, e = .returned v ∧ R v w' :=
  funV_sound (fn := Try.f26) (AL := f26.AL) (AC := f26.AC) V5.mixed (by kernel_rfl) (by rw [← f26.eq xa0 xa1 a2]; exact h)

/-- gatehouse/gatehouseref15.Rank -/
def f27.AL : Nat → Option Ann := fun _ => none
def f27.AC : Nat → Option Ann := fun _ => none
def f27.VC (xa0 : Int) (xa1 : Int) (w : World) (R : Value → World → Prop) : Prop :=
  sel ((xa0 : Int) == (0 : Int)) (
    R (.int .i64 xa1) w) (
    sel ((xa0 : Int) == (1 : Int)) (
      let i12 : Int := IntKind.i64.wrap ((-1) - xa1);
      R (.int .i64 i12) w) (
      sel ((xa0 : Int) == (2 : Int)) (
        let i16 : Int := bitsI .and .i64 xa1 7;
        R (.int .i64 i16) w) (
        R (.int .i64 0) w)))
theorem f27.eq (xa0 : Int) (xa1 : Int) (w : World) (R : Value → World → Prop) : f27.VC xa0 xa1 w R = funV Try.prog Try.f27 f27.AL f27.AC #[.int .i64 xa0, .int .i64 xa1] w R := by kernel_rfl
theorem f27.calls {xa0 : Int} {xa1 : Int} {w : World} {R : Value → World → Prop} (h : f27.VC xa0 xa1 w R) : Calls Try.prog 27 #[.int .i64 xa0, .int .i64 xa1] w fun e w' => ∃ v, e = .returned v ∧ R v w' :=
  funV_sound (fn := Try.f27) (AL := f27.AL) (AC := f27.AC) V5.mixed (by kernel_rfl) (by rw [← f27.eq xa0 xa1]; exact h)

/-- (*gatehouse/gatehouselaw15.numbers).one -/
def f28.AL : Nat → Option Ann := fun _ => none
def f28.AC : Nat → Option Ann := fun _ => none
def f28.VC (a0 : Nat) (xa1_0 : Int) (xa1_1 : Int) (xa1_2 : Int) (w : World) (R : Value → World → Prop) : Prop :=
  let w_1 : World := World.alloc w (.cells #[.int .i64 xa1_0, .int .i64 xa1_1, .int .i64 xa1_2] 58);
  ∃ (x14 : Int),
  w_1.cell? ⟨w.heap.size, 0, none⟩ = some (.int .i64 x14) ∧
  sel ((x14 : Int) == (1 : Int)) (
    ∃ (p20 : Option Addr),
    w_1.cell? ⟨a0, 1, none⟩ = some (.pointer p20) ∧
    ∃ (x22 : Int),
    w_1.cell? ⟨w.heap.size, 2, none⟩ = some (.int .i64 x22) ∧
    Calls Try.prog 34 #[.pointer p20, .int .i64 x22] w_1.drew fun e_1 w_2 =>
    e_1 = .returned (.tuple #[]) ∧
    ∃ (x30 : Int),
    w_2.cell? ⟨a0, 0, none⟩ = some (.int .i64 x30) ∧
    ∃ (x32 : Int),
    w_2.cell? ⟨w.heap.size, 2, none⟩ = some (.int .i64 x32) ∧
    (Calls Try.prog 27 #[.int .i64 x30, .int .i64 x32] w_2.drew fun e_2 w_3 =>
      ∃ (x33 : Int),
      e_2 = .returned (.int .i64 x33) ∧
      ∃ (x35 : Int),
      w_3.cell? ⟨w.heap.size, 2, none⟩ = some (.int .i64 x35) ∧
      Calls Try.prog 17 #[.pointer (some ⟨a0, 2, none⟩), .agg #[.int .i64 x33, .int .i64 x35]] w_3 fun e_3 w_4 =>
      e_3 = .returned (.tuple #[]) ∧
      R (.bool true) w_4) ∧
    (∃ (x35_1 : Int),
      w_2.cell? ⟨w.heap.size, 2, none⟩ = some (.int .i64 x35_1) ∧
      Calls Try.prog 27 #[.int .i64 x30, .int .i64 x32] w_2.drew fun e_4 w_5 =>
      ∃ (x33_1 : Int),
      e_4 = .returned (.int .i64 x33_1) ∧
      Calls Try.prog 17 #[.pointer (some ⟨a0, 2, none⟩), .agg #[.int .i64 x33_1, .int .i64 x35_1]] w_5 fun e_5 w_6 =>
      e_5 = .returned (.tuple #[]) ∧
      R (.bool true) w_6) ∧ True) (
    sel ((x14 : Int) == (2 : Int)) (
      ∃ (p44 : Option Addr),
      w_1.cell? ⟨a0, 1, none⟩ = some (.pointer p44) ∧
      Calls Try.prog 36 #[.pointer p44] w_1 fun e_6 w_7 =>
      ∃ (x45_0 : Int) (b45_1 : Bool),
      e_6 = .returned (.tuple #[.int .i64 x45_0, .bool b45_1]) ∧
      Calls Try.prog 21 #[.pointer (some ⟨a0, 2, none⟩)] w_7 fun e_7 w_8 =>
      ∃ (x52_0_0 : Int) (x52_0_1 : Int) (b52_1 : Bool),
      e_7 = .returned (.tuple #[.agg #[.int .i64 x52_0_0, .int .i64 x52_0_1], .bool b52_1]) ∧
      let w_9 : World := World.alloc w_8 (.cells #[.int .i64 0, .int .i64 0] 38);
      canStore w_9 w_8.heap.size 0 2 ∧
      let w_10 : World := setCs w_9 w_8.heap.size 0 [.int .i64 x52_0_0, .int .i64 x52_0_1];
      sel (b45_1 == b52_1) (
        ∃ (x61 : Int),
        w_10.cell? ⟨w_8.heap.size, 1, none⟩ = some (.int .i64 x61) ∧
        R (.bool ((x45_0 : Int) == (x61 : Int))) w_10) (
        R (.bool false) w_10)) (
      sel ((x14 : Int) == (3 : Int)) (
        ∃ (p70 : Option Addr),
        w_1.cell? ⟨a0, 1, none⟩ = some (.pointer p70) ∧
        Calls Try.prog 35 #[.pointer p70] w_1 fun e_8 w_11 =>
        ∃ (x71_0 : Int) (b71_1 : Bool),
        e_8 = .returned (.tuple #[.int .i64 x71_0, .bool b71_1]) ∧
        Calls Try.prog 64 #[.pointer (some ⟨a0, 2, none⟩)] w_11 fun e_9 w_12 =>
        ∃ (x78_0_0 : Int) (x78_0_1 : Int) (b78_1 : Bool),
        e_9 = .returned (.tuple #[.agg #[.int .i64 x78_0_0, .int .i64 x78_0_1], .bool b78_1]) ∧
        let w_13 : World := World.alloc w_12 (.cells #[.int .i64 0, .int .i64 0] 38);
        canStore w_13 w_12.heap.size 0 2 ∧
        let w_14 : World := setCs w_13 w_12.heap.size 0 [.int .i64 x78_0_0, .int .i64 x78_0_1];
        sel (b71_1 == b78_1) (
          ∃ (x87 : Int),
          w_14.cell? ⟨w_12.heap.size, 1, none⟩ = some (.int .i64 x87) ∧
          R (.bool ((x71_0 : Int) == (x87 : Int))) w_14) (
          R (.bool false) w_14)) (
        sel ((x14 : Int) == (4 : Int)) (
          ∃ (p95 : Option Addr),
          w_1.cell? ⟨a0, 1, none⟩ = some (.pointer p95) ∧
          (Calls Try.prog 29 #[.pointer p95] w_1.drew fun e_10 w_15 =>
            ∃ (x96 : Int),
            e_10 = .returned (.int .i64 x96) ∧
            ∃ (A101 : Option Addr) (n101 c101 : Nat),
            w_15.cell? ⟨a0, 2, none⟩ = some (.slice A101 n101 c101) ∧
            R (.bool ((x96 : Int) == ((n101 : Int) : Int))) w_15) ∧
          (∃ (A101_1 : Option Addr) (n101_1 c101_1 : Nat),
            w_1.cell? ⟨a0, 2, none⟩ = some (.slice A101_1 n101_1 c101_1) ∧
            Calls Try.prog 29 #[.pointer p95] w_1.drew fun e_11 w_16 =>
            ∃ (x96_1 : Int),
            e_11 = .returned (.int .i64 x96_1) ∧
            R (.bool ((x96_1 : Int) == ((n101_1 : Int) : Int))) w_16) ∧ True) (
          R (.bool true) w_1))))
theorem f28.eq (a0 : Nat) (xa1_0 : Int) (xa1_1 : Int) (xa1_2 : Int) (w : World) (R : Value → World → Prop) : f28.VC a0 xa1_0 xa1_1 xa1_2 w R = funV Try.prog Try.f28 f28.AL f28.AC #[.pointer (some ⟨a0, 0, none⟩), .agg #[.int .i64 xa1_0, .int .i64 xa1_1, .int .i64 xa1_2]] w R := by kernel_rfl
theorem f28.calls {a0 : Nat} {xa1_0 : Int} {xa1_1 : Int} {xa1_2 : Int} {w : World} {R : Value → World → Prop} (h : f28.VC a0 xa1_0 xa1_1 xa1_2 w R) : Calls Try.prog 28 #[.pointer (some ⟨a0, 0, none⟩), .agg #[.int .i64 xa1_0, .int .i64 xa1_1, .int .i64 xa1_2]] w fun e w' => ∃ v, e = .returned v ∧ R v w' :=
  funV_sound (fn := Try.f28) (AL := f28.AL) (AC := f28.AC) V5.mixed (by kernel_rfl) (by rw [← f28.eq a0 xa1_0 xa1_1 xa1_2]; exact h)

/-- gatehouse/gatehouselaw15.ArenaHeapSorts$1 -/
def f30.AL : Nat → Option Ann := fun _ => none
def f30.AC : Nat → Option Ann := fun _ => none
def f30.VC (xa0_0 : Int) (xa0_1 : Int) (xa1_0 : Int) (xa1_1 : Int) (a2 : Nat) (w : World) (R : Value → World → Prop) : Prop :=
  let w_1 : World := World.alloc w (.cells #[.int .i64 xa0_0, .int .i64 xa0_1] 30);
  let w_2 : World := World.alloc w_1 (.cells #[.int .i64 xa1_0, .int .i64 xa1_1] 30);
  (0 : Int) ≤ 0 ∧ 0 < (2 : Int) ∧
  (0 : Int) ≤ 0 ∧ 0 < (2 : Int) ∧
  ∃ (x7 : Int),
  w_2.cell? ⟨w.heap.size, 0, none⟩ = some (.int .i64 x7) ∧
  ∃ (x8 : Int),
  w_2.cell? ⟨a2, 0, none⟩ = some (.int .i64 x8) ∧
  (Calls Try.prog 31 #[.int .i64 x7, .int .i64 x8] w_2.drew fun e_1 w_3 =>
    ∃ (x9 : Int),
    e_1 = .returned (.int .i64 x9) ∧
    ∃ (x11 : Int),
    w_3.cell? ⟨w_1.heap.size, 0, none⟩ = some (.int .i64 x11) ∧
    ∃ (x12 : Int),
    w_3.cell? ⟨a2, 0, none⟩ = some (.int .i64 x12) ∧
    Calls Try.prog 31 #[.int .i64 x11, .int .i64 x12] w_3 fun e_2 w_4 =>
    ∃ (x13 : Int),
    e_2 = .returned (.int .i64 x13) ∧
    R (.bool (decide ((x9 : Int) < (x13 : Int)))) w_4) ∧
  (∃ (x11_1 : Int),
    w_2.cell? ⟨w_1.heap.size, 0, none⟩ = some (.int .i64 x11_1) ∧
    (Calls Try.prog 31 #[.int .i64 x7, .int .i64 x8] w_2.drew fun e_3 w_5 =>
      ∃ (x9_1 : Int),
      e_3 = .returned (.int .i64 x9_1) ∧
      ∃ (x12_1 : Int),
      w_5.cell? ⟨a2, 0, none⟩ = some (.int .i64 x12_1) ∧
      Calls Try.prog 31 #[.int .i64 x11_1, .int .i64 x12_1] w_5 fun e_4 w_6 =>
      ∃ (x13_1 : Int),
      e_4 = .returned (.int .i64 x13_1) ∧
      R (.bool (decide ((x9_1 : Int) < (x13_1 : Int)))) w_6) ∧
    (∃ (x12_2 : Int),
      w_2.cell? ⟨a2, 0, none⟩ = some (.int .i64 x12_2) ∧
      Calls Try.prog 31 #[.int .i64 x7, .int .i64 x8] w_2.drew fun e_5 w_7 =>
      ∃ (x9_2 : Int),
      e_5 = .returned (.int .i64 x9_2) ∧
      Calls Try.prog 31 #[.int .i64 x11_1, .int .i64 x12_2] w_7 fun e_6 w_8 =>
      ∃ (x13_2 : Int),
      e_6 = .returned (.int .i64 x13_2) ∧
      R (.bool (decide ((x9_2 : Int) < (x13_2 : Int)))) w_8) ∧ True) ∧
  (∃ (x12_3 : Int),
    w_2.cell? ⟨a2, 0, none⟩ = some (.int .i64 x12_3) ∧
    (Calls Try.prog 31 #[.int .i64 x7, .int .i64 x8] w_2.drew fun e_7 w_9 =>
      ∃ (x9_3 : Int),
      e_7 = .returned (.int .i64 x9_3) ∧
      ∃ (x11_2 : Int),
      w_9.cell? ⟨w_1.heap.size, 0, none⟩ = some (.int .i64 x11_2) ∧
      Calls Try.prog 31 #[.int .i64 x11_2, .int .i64 x12_3] w_9 fun e_8 w_10 =>
      ∃ (x13_3 : Int),
      e_8 = .returned (.int .i64 x13_3) ∧
      R (.bool (decide ((x9_3 : Int) < (x13_3 : Int)))) w_10) ∧
    (∃ (x11_3 : Int),
      w_2.cell? ⟨w_1.heap.size, 0, none⟩ = some (.int .i64 x11_3) ∧
      Calls Try.prog 31 #[.int .i64 x7, .int .i64 x8] w_2.drew fun e_9 w_11 =>
      ∃ (x9_4 : Int),
      e_9 = .returned (.int .i64 x9_4) ∧
      Calls Try.prog 31 #[.int .i64 x11_3, .int .i64 x12_3] w_11 fun e_10 w_12 =>
      ∃ (x13_4 : Int),
      e_10 = .returned (.int .i64 x13_4) ∧
      R (.bool (decide ((x9_4 : Int) < (x13_4 : Int)))) w_12) ∧ True) ∧ True
theorem f30.eq (xa0_0 : Int) (xa0_1 : Int) (xa1_0 : Int) (xa1_1 : Int) (a2 : Nat) (w : World) (R : Value → World → Prop) : f30.VC xa0_0 xa0_1 xa1_0 xa1_1 a2 w R = funV Try.prog Try.f30 f30.AL f30.AC #[.agg #[.int .i64 xa0_0, .int .i64 xa0_1], .agg #[.int .i64 xa1_0, .int .i64 xa1_1], .pointer (some ⟨a2, 0, none⟩)] w R := by kernel_rfl
theorem f30.calls {xa0_0 : Int} {xa0_1 : Int} {xa1_0 : Int} {xa1_1 : Int} {a2 : Nat} {w : World} {R : Value → World → Prop} (h : f30.VC xa0_0 xa0_1 xa1_0 xa1_1 a2 w R) : Calls Try.prog 30 #[.agg #[.int .i64 xa0_0, .int .i64 xa0_1], .agg #[.int .i64 xa1_0, .int .i64 xa1_1], .pointer (some ⟨a2, 0, none⟩)] w fun e w' => ∃ v, e = .returned v ∧ R v w' :=
  funV_sound (fn := Try.f30) (AL := f30.AL) (AC := f30.AC) V5.mixed (by kernel_rfl) (by rw [← f30.eq xa0_0 xa0_1 xa1_0 xa1_1 a2]; exact h)

/-- gatehouse/gatehouselaw15.key -/
def f31.AL : Nat → Option Ann := fun _ => none
def f31.AC : Nat → Option Ann := fun _ => none
def f31.VC (xa0 : Int) (xa1 : Int) (w : World) (R : Value → World → Prop) : Prop :=
  sel (decide ((0 : Int) < (xa1 : Int))) (
    xa1 ≠ (0 : Int) ∧
    let i9 : Int := Int.tmod xa0 xa1;
    R (.int .i64 i9) w) (
    R (.int .i64 xa0) w)
theorem f31.eq (xa0 : Int) (xa1 : Int) (w : World) (R : Value → World → Prop) : f31.VC xa0 xa1 w R = funV Try.prog Try.f31 f31.AL f31.AC #[.int .i64 xa0, .int .i64 xa1] w R := by kernel_rfl
theorem f31.calls {xa0 : Int} {xa1 : Int} {w : World} {R : Value → World → Prop} (h : f31.VC xa0 xa1 w R) : Calls Try.prog 31 #[.int .i64 xa0, .int .i64 xa1] w fun e w' => ∃ v, e = .returned v ∧ R v w' :=
  funV_sound (fn := Try.f31) (AL := f31.AL) (AC := f31.AC) V5.mixed (by kernel_rfl) (by rw [← f31.eq xa0 xa1]; exact h)

/-- gatehouse/gatehouselaw15.ArenaHeapTexts$2 -/
def f15.AL : Nat → Option Ann := fun _ => none
def f15.AC : Nat → Option Ann := fun _ => none
def f15.VC (xa0_0 : Int) (xa0_1 : Int) (xa1_0 : Int) (xa1_1 : Int) (w : World) (R : Value → World → Prop) : Prop :=
  let w_1 : World := World.alloc w (.cells #[.int .i64 xa0_0, .int .i64 xa0_1] 30);
  let w_2 : World := World.alloc w_1 (.cells #[.int .i64 xa1_0, .int .i64 xa1_1] 30);
  (0 : Int) ≤ 0 ∧ 0 < (2 : Int) ∧
  ∃ (x6 : Int),
  w_2.cell? ⟨w.heap.size, 0, none⟩ = some (.int .i64 x6) ∧
  (0 : Int) ≤ 0 ∧ 0 < (2 : Int) ∧
  ∃ (x8 : Int),
  w_2.cell? ⟨w_1.heap.size, 0, none⟩ = some (.int .i64 x8) ∧
  R (.bool (decide ((x6 : Int) < (x8 : Int)))) w_2
theorem f15.eq (xa0_0 : Int) (xa0_1 : Int) (xa1_0 : Int) (xa1_1 : Int) (w : World) (R : Value → World → Prop) : f15.VC xa0_0 xa0_1 xa1_0 xa1_1 w R = funV Try.prog Try.f15 f15.AL f15.AC #[.agg #[.int .i64 xa0_0, .int .i64 xa0_1], .agg #[.int .i64 xa1_0, .int .i64 xa1_1]] w R := by kernel_rfl
theorem f15.calls {xa0_0 : Int} {xa0_1 : Int} {xa1_0 : Int} {xa1_1 : Int} {w : World} {R : Value → World → Prop} (h : f15.VC xa0_0 xa0_1 xa1_0 xa1_1 w R) : Calls Try.prog 15 #[.agg #[.int .i64 xa0_0, .int .i64 xa0_1], .agg #[.int .i64 xa1_0, .int .i64 xa1_1]] w fun e w' => ∃ v, e = .returned v ∧ R v w' :=
  funV_sound (fn := Try.f15) (AL := f15.AL) (AC := f15.AC) V5.mixed (by kernel_rfl) (by rw [← f15.eq xa0_0 xa0_1 xa1_0 xa1_1]; exact h)

/-- gatehouse/gatehouselaw15.ArenaHeapAny$1 -/
def f33.AL : Nat → Option Ann := fun _ => none
def f33.AC : Nat → Option Ann := fun _ => none
def f33.VC (xa0 : Int) (xa1 : Int) (a2 : Nat) (w : World) (R : Value → World → Prop) : Prop :=
  ∃ (A6 : Option Addr) (n6 c6 : Nat),
  w.cell? ⟨a2, 0, none⟩ = some (.slice A6 n6 c6) ∧
  sel (((n6 : Int) : Int) == (0 : Int)) (
    R (.bool true) w) (
    let i11 : Int := IntKind.i64.wrap (xa0 * 7);
    let i13 : Int := IntKind.i64.wrap (i11 + xa1);
    ∃ (A14 : Option Addr) (n14 c14 : Nat),
    w.cell? ⟨a2, 0, none⟩ = some (.slice A14 n14 c14) ∧
    (∃ (A9 : Option Addr) (n9 c9 : Nat),
      w.cell? ⟨a2, 0, none⟩ = some (.slice A9 n9 c9) ∧
      Calls Try.prog 19 #[.int .i64 i13, .int .i64 (n14 : Int)] w.drew fun e_1 w_1 =>
      ∃ (x16 : Int),
      e_1 = .returned (.int .i64 x16) ∧
      (0 : Int) ≤ x16 ∧ x16 < (n9 : Int) ∧
      needPtr A9 fun b17 o17 =>
      ∃ (b18 : Bool),
      w_1.cell? ⟨b17, o17 + x16.toNat * 1, none⟩ = some (.bool b18) ∧
      R (.bool b18) w_1) ∧
    (Calls Try.prog 19 #[.int .i64 i13, .int .i64 (n14 : Int)] w.drew fun e_2 w_2 =>
      ∃ (x16_1 : Int),
      e_2 = .returned (.int .i64 x16_1) ∧
      ∃ (A9_1 : Option Addr) (n9_1 c9_1 : Nat),
      w_2.cell? ⟨a2, 0, none⟩ = some (.slice A9_1 n9_1 c9_1) ∧
      (0 : Int) ≤ x16_1 ∧ x16_1 < (n9_1 : Int) ∧
      needPtr A9_1 fun b17_1 o17_1 =>
      ∃ (b18_1 : Bool),
      w_2.cell? ⟨b17_1, o17_1 + x16_1.toNat * 1, none⟩ = some (.bool b18_1) ∧
      R (.bool b18_1) w_2) ∧ True)
theorem f33.eq (xa0 : Int) (xa1 : Int) (a2 : Nat) (w : World) (R : Value → World → Prop) : f33.VC xa0 xa1 a2 w R = funV Try.prog Try.f33 f33.AL f33.AC #[.int .i64 xa0, .int .i64 xa1, .pointer (some ⟨a2, 0, none⟩)] w R := by kernel_rfl
theorem f33.calls {xa0 : Int} {xa1 : Int} {a2 : Nat} {w : World} {R : Value → World → Prop} (h : f33.VC xa0 xa1 a2 w R) : Calls Try.prog 33 #[.int .i64 xa0, .int .i64 xa1, .pointer (some ⟨a2, 0, none⟩)] w fun e w' => ∃ v, e = .returned v ∧ R v w' :=
  funV_sound (fn := Try.f33) (AL := f33.AL) (AC := f33.AC) V5.mixed (by kernel_rfl) (by rw [← f33.eq xa0 xa1 a2]; exact h)

/-- gatehouse/gatehouselaw15.ArenaHeapTexts -/
def f3.AL : Nat → Option Ann := fun r => match r with | 9 => some ⟨[(5, .bool), (11, .int .i64)], [0, 1, 6, 7, 9, 10]⟩ | 20 => some ⟨[(14, .int .i64)], [0, 1, 5, 6, 7, 9, 10, 11, 13]⟩ | _ => none
def f3.AC : Nat → Option Ann := fun _ => none
def f3.VC (Aa0 : Option Addr) (na0 ca0 : Nat) (Aa1 : Option Addr) (na1 ca1 : Nat) (w : World) (R : Value → World → Prop) : Prop :=
  Calls Try.prog 11 #[] w fun e_1 w_1 =>
  ∃ (b23 : Bool),
  e_1 = .returned (.bool b23) ∧
  Calls Try.prog 12 #[.func (.func 13) #[] #[]] w_1 fun e_2 w_2 =>
  ∃ (p24 : Option Addr),
  e_2 = .returned (.pointer p24) ∧
  Calls Try.prog 14 #[.func (.func 15) #[] #[]] w_2 fun e_3 w_3 =>
  ∃ (p25 : Option Addr),
  e_3 = .returned (.pointer p25) ∧
  Calls Try.prog 12 #[.nilFunc] w_3 fun e_4 w_4 =>
  ∃ (p26 : Option Addr),
  e_4 = .returned (.pointer p26) ∧
  sel (Option.isNone p24) (
    R (.bool false) w_4) (
    sel (Option.isNone p25) (
      R (.bool false) w_4) (
      sel (!(Option.isNone p26)) (
        R (.bool false) w_4) (
        let w_5 : World := World.alloc w_4 (.cells #[.slice none 0 0] 34);
        let w_6 : World := World.alloc w_5 (.cells #[.slice none 0 0] 34);
        ∃ I : Bool → Int → World → Nat → Prop,
        (∃ n, I b23 0 w_6 n) ∧
        ∀ d : Env, ∀ (b5 : Bool) (x11 : Int) (w_7 : World) (r : Nat), I b5 x11 w_7 r →
        sel (decide ((x11 : Int) < ((na0 : Int) : Int))) (
          (0 : Int) ≤ x11 ∧ x11 < (na0 : Int) ∧
          needPtr Aa0 fun b45 o45 =>
          ∃ (s46 : ByteArray),
          w_7.cell? ⟨b45, o45 + x11.toNat * 1, none⟩ = some (.string s46) ∧
          Calls Try.prog 16 #[.pointer p24, .string s46] w_7 fun e_5 w_8 =>
          e_5 = .returned (.tuple #[]) ∧
          Calls Try.prog 17 #[.pointer (some ⟨w_4.heap.size, 0, none⟩), .agg #[.int .i64 (s46.size : Int), .int .i64 x11]] w_8 fun e_6 w_9 =>
          e_6 = .returned (.tuple #[]) ∧
          let i58 : Int := IntKind.i64.wrap (0 - (s46.size : Int));
          Calls Try.prog 18 #[.pointer p25, .agg #[.int .i64 i58, .int .i64 x11]] w_9 fun e_7 w_10 =>
          e_7 = .returned (.tuple #[]) ∧
          let i64 : Int := IntKind.i64.wrap (0 - (s46.size : Int));
          Calls Try.prog 17 #[.pointer (some ⟨w_5.heap.size, 0, none⟩), .agg #[.int .i64 i64, .int .i64 x11]] w_10 fun e_8 w_11 =>
          e_8 = .returned (.tuple #[]) ∧
          sel (decide ((x11 : Int) < ((na1 : Int) : Int))) (
            (0 : Int) ≤ x11 ∧ x11 < (na1 : Int) ∧
            needPtr Aa1 fun b74 o74 =>
            ∃ (x75 : Int),
            w_11.cell? ⟨b74, o74 + x11.toNat * 1, none⟩ = some (.int .i64 x75) ∧
            Calls Try.prog 19 #[.int .i64 x75, .int .i64 4] w_11 fun e_9 w_12 =>
            ∃ (x76 : Int),
            e_9 = .returned (.int .i64 x76) ∧
            ∃ I_1 : Int → World → Nat → Prop,
            (∃ n, I_1 0 w_12 n) ∧
            ∀ d_1 : Env, ∀ (x14 : Int) (w_13 : World) (r_1 : Nat), I_1 x14 w_13 r_1 →
            sel (decide ((x14 : Int) < (x76 : Int))) (
              Calls Try.prog 20 #[.pointer p24] w_13 fun e_10 w_14 =>
              ∃ (s84_0 : ByteArray) (b84_1 : Bool),
              e_10 = .returned (.tuple #[.string s84_0, .bool b84_1]) ∧
              Calls Try.prog 21 #[.pointer (some ⟨w_4.heap.size, 0, none⟩)] w_14 fun e_11 w_15 =>
              ∃ (x88_0_0 : Int) (x88_0_1 : Int) (b88_1 : Bool),
              e_11 = .returned (.tuple #[.agg #[.int .i64 x88_0_0, .int .i64 x88_0_1], .bool b88_1]) ∧
              let w_16 : World := World.alloc w_15 (.cells #[.int .i64 0, .int .i64 0] 38);
              canStore w_16 w_15.heap.size 0 2 ∧
              let w_17 : World := setCs w_16 w_15.heap.size 0 [.int .i64 x88_0_0, .int .i64 x88_0_1];
              Calls Try.prog 22 #[.pointer p25] w_17 fun e_12 w_18 =>
              ∃ (x93_0_0 : Int) (x93_0_1 : Int) (b93_1 : Bool),
              e_12 = .returned (.tuple #[.agg #[.int .i64 x93_0_0, .int .i64 x93_0_1], .bool b93_1]) ∧
              let w_19 : World := World.alloc w_18 (.cells #[.int .i64 0, .int .i64 0] 30);
              canStore w_19 w_18.heap.size 0 2 ∧
              let w_20 : World := setCs w_19 w_18.heap.size 0 [.int .i64 x93_0_0, .int .i64 x93_0_1];
              Calls Try.prog 21 #[.pointer (some ⟨w_5.heap.size, 0, none⟩)] w_20 fun e_13 w_21 =>
              ∃ (x97_0_0 : Int) (x97_0_1 : Int) (b97_1 : Bool),
              e_13 = .returned (.tuple #[.agg #[.int .i64 x97_0_0, .int .i64 x97_0_1], .bool b97_1]) ∧
              let w_22 : World := World.alloc w_21 (.cells #[.int .i64 0, .int .i64 0] 38);
              canStore w_22 w_21.heap.size 0 2 ∧
              let w_23 : World := setCs w_22 w_21.heap.size 0 [.int .i64 x97_0_0, .int .i64 x97_0_1];
              sel (!(b84_1 == b88_1)) (
                R (.bool false) w_23) (
                sel (!(b93_1 == b97_1)) (
                  R (.bool false) w_23) (
                  sel b88_1 (
                    ∃ (x114 : Int),
                    w_23.cell? ⟨w_15.heap.size, 1, none⟩ = some (.int .i64 x114) ∧
                    (0 : Int) ≤ x114 ∧ x114 < (na0 : Int) ∧
                    needPtr Aa0 fun b115 o115 =>
                    ∃ (s116 : ByteArray),
                    w_23.cell? ⟨b115, o115 + x114.toNat * 1, none⟩ = some (.string s116) ∧
                    sel (!(decide (s84_0 = s116))) (
                      R (.bool false) w_23) (
                      sel (!b88_1) (
                        sel (!(decide (s84_0 = ⟨#[]⟩))) (
                          R (.bool false) w_23) (
                          ∃ (x129_0 : Int),
                          w_23.cell? ⟨w_18.heap.size, 0, none⟩ = some (.int .i64 x129_0) ∧
                          ∃ (x129_1 : Int),
                          w_23.cell? ⟨w_18.heap.size, 1, none⟩ = some (.int .i64 x129_1) ∧
                          ∃ (x131 : Int),
                          w_23.cell? ⟨w_21.heap.size, 0, none⟩ = some (.int .i64 x131) ∧
                          ∃ (x133 : Int),
                          w_23.cell? ⟨w_21.heap.size, 1, none⟩ = some (.int .i64 x133) ∧
                          ∃ b135 : Bool, (∀ w', (do eqGuard .neq 30 (.tmp 129) (.tmp 134) (.agg #[.int .i64 x129_0, .int .i64 x129_1]) (.agg #[.int .i64 x131, .int .i64 x133]); binOp .neq 30 (.agg #[.int .i64 x129_0, .int .i64 x129_1]) (.agg #[.int .i64 x131, .int .i64 x133]) : Sem Value).run Try.prog w' = .ok (.bool b135) w') ∧
                          sel b135 (
                            R (.bool false) w_23) (
                            let i81 : Int := IntKind.i64.wrap (x14 + 1);
                            ([.slice Aa0 na0 ca0, .slice Aa1 na1 ca1, .bool b5, .pointer p24, .pointer p25, .pointer (some ⟨w_4.heap.size, 0, none⟩), .pointer (some ⟨w_5.heap.size, 0, none⟩), .int .i64 x11, .int .i64 x76] : List Value) = ([.slice Aa0 na0 ca0, .slice Aa1 na1 ca1, .bool b5, .pointer p24, .pointer p25, .pointer (some ⟨w_4.heap.size, 0, none⟩), .pointer (some ⟨w_5.heap.size, 0, none⟩), .int .i64 x11, .int .i64 x76] : List Value) ∧ ∃ m, m < r_1 ∧ I_1 i81 w_23 m))) (
                        ∃ (x129_0_1 : Int),
                        w_23.cell? ⟨w_18.heap.size, 0, none⟩ = some (.int .i64 x129_0_1) ∧
                        ∃ (x129_1_1 : Int),
                        w_23.cell? ⟨w_18.heap.size, 1, none⟩ = some (.int .i64 x129_1_1) ∧
                        ∃ (x131_1 : Int),
                        w_23.cell? ⟨w_21.heap.size, 0, none⟩ = some (.int .i64 x131_1) ∧
                        ∃ (x133_1 : Int),
                        w_23.cell? ⟨w_21.heap.size, 1, none⟩ = some (.int .i64 x133_1) ∧
                        ∃ b135_1 : Bool, (∀ w', (do eqGuard .neq 30 (.tmp 129) (.tmp 134) (.agg #[.int .i64 x129_0_1, .int .i64 x129_1_1]) (.agg #[.int .i64 x131_1, .int .i64 x133_1]); binOp .neq 30 (.agg #[.int .i64 x129_0_1, .int .i64 x129_1_1]) (.agg #[.int .i64 x131_1, .int .i64 x133_1]) : Sem Value).run Try.prog w' = .ok (.bool b135_1) w') ∧
                        sel b135_1 (
                          R (.bool false) w_23) (
                          let i81_1 : Int := IntKind.i64.wrap (x14 + 1);
                          ([.slice Aa0 na0 ca0, .slice Aa1 na1 ca1, .bool b5, .pointer p24, .pointer p25, .pointer (some ⟨w_4.heap.size, 0, none⟩), .pointer (some ⟨w_5.heap.size, 0, none⟩), .int .i64 x11, .int .i64 x76] : List Value) = ([.slice Aa0 na0 ca0, .slice Aa1 na1 ca1, .bool b5, .pointer p24, .pointer p25, .pointer (some ⟨w_4.heap.size, 0, none⟩), .pointer (some ⟨w_5.heap.size, 0, none⟩), .int .i64 x11, .int .i64 x76] : List Value) ∧ ∃ m, m < r_1 ∧ I_1 i81_1 w_23 m)))) (
                    sel (!b88_1) (
                      sel (!(decide (s84_0 = ⟨#[]⟩))) (
                        R (.bool false) w_23) (
                        ∃ (x129_0_2 : Int),
                        w_23.cell? ⟨w_18.heap.size, 0, none⟩ = some (.int .i64 x129_0_2) ∧
                        ∃ (x129_1_2 : Int),
                        w_23.cell? ⟨w_18.heap.size, 1, none⟩ = some (.int .i64 x129_1_2) ∧
                        ∃ (x131_2 : Int),
                        w_23.cell? ⟨w_21.heap.size, 0, none⟩ = some (.int .i64 x131_2) ∧
                        ∃ (x133_2 : Int),
                        w_23.cell? ⟨w_21.heap.size, 1, none⟩ = some (.int .i64 x133_2) ∧
                        ∃ b135_2 : Bool, (∀ w', (do eqGuard .neq 30 (.tmp 129) (.tmp 134) (.agg #[.int .i64 x129_0_2, .int .i64 x129_1_2]) (.agg #[.int .i64 x131_2, .int .i64 x133_2]); binOp .neq 30 (.agg #[.int .i64 x129_0_2, .int .i64 x129_1_2]) (.agg #[.int .i64 x131_2, .int .i64 x133_2]) : Sem Value).run Try.prog w' = .ok (.bool b135_2) w') ∧
                        sel b135_2 (
                          R (.bool false) w_23) (
                          let i81_2 : Int := IntKind.i64.wrap (x14 + 1);
                          ([.slice Aa0 na0 ca0, .slice Aa1 na1 ca1, .bool b5, .pointer p24, .pointer p25, .pointer (some ⟨w_4.heap.size, 0, none⟩), .pointer (some ⟨w_5.heap.size, 0, none⟩), .int .i64 x11, .int .i64 x76] : List Value) = ([.slice Aa0 na0 ca0, .slice Aa1 na1 ca1, .bool b5, .pointer p24, .pointer p25, .pointer (some ⟨w_4.heap.size, 0, none⟩), .pointer (some ⟨w_5.heap.size, 0, none⟩), .int .i64 x11, .int .i64 x76] : List Value) ∧ ∃ m, m < r_1 ∧ I_1 i81_2 w_23 m))) (
                      ∃ (x129_0_3 : Int),
                      w_23.cell? ⟨w_18.heap.size, 0, none⟩ = some (.int .i64 x129_0_3) ∧
                      ∃ (x129_1_3 : Int),
                      w_23.cell? ⟨w_18.heap.size, 1, none⟩ = some (.int .i64 x129_1_3) ∧
                      ∃ (x131_3 : Int),
                      w_23.cell? ⟨w_21.heap.size, 0, none⟩ = some (.int .i64 x131_3) ∧
                      ∃ (x133_3 : Int),
                      w_23.cell? ⟨w_21.heap.size, 1, none⟩ = some (.int .i64 x133_3) ∧
                      ∃ b135_3 : Bool, (∀ w', (do eqGuard .neq 30 (.tmp 129) (.tmp 134) (.agg #[.int .i64 x129_0_3, .int .i64 x129_1_3]) (.agg #[.int .i64 x131_3, .int .i64 x133_3]); binOp .neq 30 (.agg #[.int .i64 x129_0_3, .int .i64 x129_1_3]) (.agg #[.int .i64 x131_3, .int .i64 x133_3]) : Sem Value).run Try.prog w' = .ok (.bool b135_3) w') ∧
                      sel b135_3 (
                        R (.bool false) w_23) (
                        let i81_3 : Int := IntKind.i64.wrap (x14 + 1);
                        ([.slice Aa0 na0 ca0, .slice Aa1 na1 ca1, .bool b5, .pointer p24, .pointer p25, .pointer (some ⟨w_4.heap.size, 0, none⟩), .pointer (some ⟨w_5.heap.size, 0, none⟩), .int .i64 x11, .int .i64 x76] : List Value) = ([.slice Aa0 na0 ca0, .slice Aa1 na1 ca1, .bool b5, .pointer p24, .pointer p25, .pointer (some ⟨w_4.heap.size, 0, none⟩), .pointer (some ⟨w_5.heap.size, 0, none⟩), .int .i64 x11, .int .i64 x76] : List Value) ∧ ∃ m, m < r_1 ∧ I_1 i81_3 w_23 m)))))) (
              sel b5 (
                (Calls Try.prog 23 #[.pointer p24] w_13.drew fun e_14 w_24 =>
                  ∃ (x140 : Int),
                  e_14 = .returned (.int .i64 x140) ∧
                  ∃ (A142 : Option Addr) (n142 c142 : Nat),
                  w_24.cell? ⟨w_4.heap.size, 0, none⟩ = some (.slice A142 n142 c142) ∧
                  sel ((x140 : Int) == ((n142 : Int) : Int)) (
                    (Calls Try.prog 24 #[.pointer p25] w_24 fun e_15 w_25 =>
                      ∃ (x148 : Int),
                      e_15 = .returned (.int .i64 x148) ∧
                      ∃ (A150 : Option Addr) (n150 c150 : Nat),
                      w_25.cell? ⟨w_5.heap.size, 0, none⟩ = some (.slice A150 n150 c150) ∧
                      let i42 : Int := IntKind.i64.wrap (x11 + 1);
                      ([.slice Aa0 na0 ca0, .slice Aa1 na1 ca1, .pointer p24, .pointer p25, .pointer (some ⟨w_4.heap.size, 0, none⟩), .pointer (some ⟨w_5.heap.size, 0, none⟩)] : List Value) = ([.slice Aa0 na0 ca0, .slice Aa1 na1 ca1, .pointer p24, .pointer p25, .pointer (some ⟨w_4.heap.size, 0, none⟩), .pointer (some ⟨w_5.heap.size, 0, none⟩)] : List Value) ∧ ∃ m, m < r ∧ I ((x148 : Int) == ((n150 : Int) : Int)) i42 w_25 m) ∧
                    (∃ (A150_1 : Option Addr) (n150_1 c150_1 : Nat),
                      w_24.cell? ⟨w_5.heap.size, 0, none⟩ = some (.slice A150_1 n150_1 c150_1) ∧
                      Calls Try.prog 24 #[.pointer p25] w_24 fun e_16 w_26 =>
                      ∃ (x148_1 : Int),
                      e_16 = .returned (.int .i64 x148_1) ∧
                      let i42_1 : Int := IntKind.i64.wrap (x11 + 1);
                      ([.slice Aa0 na0 ca0, .slice Aa1 na1 ca1, .pointer p24, .pointer p25, .pointer (some ⟨w_4.heap.size, 0, none⟩), .pointer (some ⟨w_5.heap.size, 0, none⟩)] : List Value) = ([.slice Aa0 na0 ca0, .slice Aa1 na1 ca1, .pointer p24, .pointer p25, .pointer (some ⟨w_4.heap.size, 0, none⟩), .pointer (some ⟨w_5.heap.size, 0, none⟩)] : List Value) ∧ ∃ m, m < r ∧ I ((x148_1 : Int) == ((n150_1 : Int) : Int)) i42_1 w_26 m) ∧ True) (
                    let i42_2 : Int := IntKind.i64.wrap (x11 + 1);
                    ([.slice Aa0 na0 ca0, .slice Aa1 na1 ca1, .pointer p24, .pointer p25, .pointer (some ⟨w_4.heap.size, 0, none⟩), .pointer (some ⟨w_5.heap.size, 0, none⟩)] : List Value) = ([.slice Aa0 na0 ca0, .slice Aa1 na1 ca1, .pointer p24, .pointer p25, .pointer (some ⟨w_4.heap.size, 0, none⟩), .pointer (some ⟨w_5.heap.size, 0, none⟩)] : List Value) ∧ ∃ m, m < r ∧ I false i42_2 w_24 m)) ∧
                (∃ (A142_1 : Option Addr) (n142_1 c142_1 : Nat),
                  w_13.cell? ⟨w_4.heap.size, 0, none⟩ = some (.slice A142_1 n142_1 c142_1) ∧
                  Calls Try.prog 23 #[.pointer p24] w_13.drew fun e_17 w_27 =>
                  ∃ (x140_1 : Int),
                  e_17 = .returned (.int .i64 x140_1) ∧
                  sel ((x140_1 : Int) == ((n142_1 : Int) : Int)) (
                    (Calls Try.prog 24 #[.pointer p25] w_27 fun e_18 w_28 =>
                      ∃ (x148_2 : Int),
                      e_18 = .returned (.int .i64 x148_2) ∧
                      ∃ (A150_2 : Option Addr) (n150_2 c150_2 : Nat),
                      w_28.cell? ⟨w_5.heap.size, 0, none⟩ = some (.slice A150_2 n150_2 c150_2) ∧
                      let i42_3 : Int := IntKind.i64.wrap (x11 + 1);
                      ([.slice Aa0 na0 ca0, .slice Aa1 na1 ca1, .pointer p24, .pointer p25, .pointer (some ⟨w_4.heap.size, 0, none⟩), .pointer (some ⟨w_5.heap.size, 0, none⟩)] : List Value) = ([.slice Aa0 na0 ca0, .slice Aa1 na1 ca1, .pointer p24, .pointer p25, .pointer (some ⟨w_4.heap.size, 0, none⟩), .pointer (some ⟨w_5.heap.size, 0, none⟩)] : List Value) ∧ ∃ m, m < r ∧ I ((x148_2 : Int) == ((n150_2 : Int) : Int)) i42_3 w_28 m) ∧
                    (∃ (A150_3 : Option Addr) (n150_3 c150_3 : Nat),
                      w_27.cell? ⟨w_5.heap.size, 0, none⟩ = some (.slice A150_3 n150_3 c150_3) ∧
                      Calls Try.prog 24 #[.pointer p25] w_27 fun e_19 w_29 =>
                      ∃ (x148_3 : Int),
                      e_19 = .returned (.int .i64 x148_3) ∧
                      let i42_4 : Int := IntKind.i64.wrap (x11 + 1);
                      ([.slice Aa0 na0 ca0, .slice Aa1 na1 ca1, .pointer p24, .pointer p25, .pointer (some ⟨w_4.heap.size, 0, none⟩), .pointer (some ⟨w_5.heap.size, 0, none⟩)] : List Value) = ([.slice Aa0 na0 ca0, .slice Aa1 na1 ca1, .pointer p24, .pointer p25, .pointer (some ⟨w_4.heap.size, 0, none⟩), .pointer (some ⟨w_5.heap.size, 0, none⟩)] : List Value) ∧ ∃ m, m < r ∧ I ((x148_3 : Int) == ((n150_3 : Int) : Int)) i42_4 w_29 m) ∧ True) (
                    let i42_5 : Int := IntKind.i64.wrap (x11 + 1);
                    ([.slice Aa0 na0 ca0, .slice Aa1 na1 ca1, .pointer p24, .pointer p25, .pointer (some ⟨w_4.heap.size, 0, none⟩), .pointer (some ⟨w_5.heap.size, 0, none⟩)] : List Value) = ([.slice Aa0 na0 ca0, .slice Aa1 na1 ca1, .pointer p24, .pointer p25, .pointer (some ⟨w_4.heap.size, 0, none⟩), .pointer (some ⟨w_5.heap.size, 0, none⟩)] : List Value) ∧ ∃ m, m < r ∧ I false i42_5 w_27 m)) ∧ True) (
                let i42_6 : Int := IntKind.i64.wrap (x11 + 1);
                ([.slice Aa0 na0 ca0, .slice Aa1 na1 ca1, .pointer p24, .pointer p25, .pointer (some ⟨w_4.heap.size, 0, none⟩), .pointer (some ⟨w_5.heap.size, 0, none⟩)] : List Value) = ([.slice Aa0 na0 ca0, .slice Aa1 na1 ca1, .pointer p24, .pointer p25, .pointer (some ⟨w_4.heap.size, 0, none⟩), .pointer (some ⟨w_5.heap.size, 0, none⟩)] : List Value) ∧ ∃ m, m < r ∧ I false i42_6 w_13.drew m))) (
            ∃ I_2 : Int → World → Nat → Prop,
            (∃ n, I_2 0 w_11 n) ∧
            ∀ d_2 : Env, ∀ (x14_1 : Int) (w_30 : World) (r_2 : Nat), I_2 x14_1 w_30 r_2 →
            sel (decide ((x14_1 : Int) < (0 : Int))) (
              Calls Try.prog 20 #[.pointer p24] w_30 fun e_20 w_31 =>
              ∃ (s84_0_1 : ByteArray) (b84_1_1 : Bool),
              e_20 = .returned (.tuple #[.string s84_0_1, .bool b84_1_1]) ∧
              Calls Try.prog 21 #[.pointer (some ⟨w_4.heap.size, 0, none⟩)] w_31 fun e_21 w_32 =>
              ∃ (x88_0_0_1 : Int) (x88_0_1_1 : Int) (b88_1_1 : Bool),
              e_21 = .returned (.tuple #[.agg #[.int .i64 x88_0_0_1, .int .i64 x88_0_1_1], .bool b88_1_1]) ∧
              let w_33 : World := World.alloc w_32 (.cells #[.int .i64 0, .int .i64 0] 38);
              canStore w_33 w_32.heap.size 0 2 ∧
              let w_34 : World := setCs w_33 w_32.heap.size 0 [.int .i64 x88_0_0_1, .int .i64 x88_0_1_1];
              Calls Try.prog 22 #[.pointer p25] w_34 fun e_22 w_35 =>
              ∃ (x93_0_0_1 : Int) (x93_0_1_1 : Int) (b93_1_1 : Bool),
              e_22 = .returned (.tuple #[.agg #[.int .i64 x93_0_0_1, .int .i64 x93_0_1_1], .bool b93_1_1]) ∧
              let w_36 : World := World.alloc w_35 (.cells #[.int .i64 0, .int .i64 0] 30);
              canStore w_36 w_35.heap.size 0 2 ∧
              let w_37 : World := setCs w_36 w_35.heap.size 0 [.int .i64 x93_0_0_1, .int .i64 x93_0_1_1];
              Calls Try.prog 21 #[.pointer (some ⟨w_5.heap.size, 0, none⟩)] w_37 fun e_23 w_38 =>
              ∃ (x97_0_0_1 : Int) (x97_0_1_1 : Int) (b97_1_1 : Bool),
              e_23 = .returned (.tuple #[.agg #[.int .i64 x97_0_0_1, .int .i64 x97_0_1_1], .bool b97_1_1]) ∧
              let w_39 : World := World.alloc w_38 (.cells #[.int .i64 0, .int .i64 0] 38);
              canStore w_39 w_38.heap.size 0 2 ∧
              let w_40 : World := setCs w_39 w_38.heap.size 0 [.int .i64 x97_0_0_1, .int .i64 x97_0_1_1];
              sel (!(b84_1_1 == b88_1_1)) (
                R (.bool false) w_40) (
                sel (!(b93_1_1 == b97_1_1)) (
                  R (.bool false) w_40) (
                  sel b88_1_1 (
                    ∃ (x114_1 : Int),
                    w_40.cell? ⟨w_32.heap.size, 1, none⟩ = some (.int .i64 x114_1) ∧
                    (0 : Int) ≤ x114_1 ∧ x114_1 < (na0 : Int) ∧
                    needPtr Aa0 fun b115_1 o115_1 =>
                    ∃ (s116_1 : ByteArray),
                    w_40.cell? ⟨b115_1, o115_1 + x114_1.toNat * 1, none⟩ = some (.string s116_1) ∧
                    sel (!(decide (s84_0_1 = s116_1))) (
                      R (.bool false) w_40) (
                      sel (!b88_1_1) (
                        sel (!(decide (s84_0_1 = ⟨#[]⟩))) (
                          R (.bool false) w_40) (
                          ∃ (x129_0_4 : Int),
                          w_40.cell? ⟨w_35.heap.size, 0, none⟩ = some (.int .i64 x129_0_4) ∧
                          ∃ (x129_1_4 : Int),
                          w_40.cell? ⟨w_35.heap.size, 1, none⟩ = some (.int .i64 x129_1_4) ∧
                          ∃ (x131_4 : Int),
                          w_40.cell? ⟨w_38.heap.size, 0, none⟩ = some (.int .i64 x131_4) ∧
                          ∃ (x133_4 : Int),
                          w_40.cell? ⟨w_38.heap.size, 1, none⟩ = some (.int .i64 x133_4) ∧
                          ∃ b135_4 : Bool, (∀ w', (do eqGuard .neq 30 (.tmp 129) (.tmp 134) (.agg #[.int .i64 x129_0_4, .int .i64 x129_1_4]) (.agg #[.int .i64 x131_4, .int .i64 x133_4]); binOp .neq 30 (.agg #[.int .i64 x129_0_4, .int .i64 x129_1_4]) (.agg #[.int .i64 x131_4, .int .i64 x133_4]) : Sem Value).run Try.prog w' = .ok (.bool b135_4) w') ∧
                          sel b135_4 (
                            R (.bool false) w_40) (
                            let i81_4 : Int := IntKind.i64.wrap (x14_1 + 1);
                            ([.slice Aa0 na0 ca0, .slice Aa1 na1 ca1, .bool b5, .pointer p24, .pointer p25, .pointer (some ⟨w_4.heap.size, 0, none⟩), .pointer (some ⟨w_5.heap.size, 0, none⟩), .int .i64 x11, .int .i64 0] : List Value) = ([.slice Aa0 na0 ca0, .slice Aa1 na1 ca1, .bool b5, .pointer p24, .pointer p25, .pointer (some ⟨w_4.heap.size, 0, none⟩), .pointer (some ⟨w_5.heap.size, 0, none⟩), .int .i64 x11, .int .i64 0] : List Value) ∧ ∃ m, m < r_2 ∧ I_2 i81_4 w_40 m))) (
                        ∃ (x129_0_5 : Int),
                        w_40.cell? ⟨w_35.heap.size, 0, none⟩ = some (.int .i64 x129_0_5) ∧
                        ∃ (x129_1_5 : Int),
                        w_40.cell? ⟨w_35.heap.size, 1, none⟩ = some (.int .i64 x129_1_5) ∧
                        ∃ (x131_5 : Int),
                        w_40.cell? ⟨w_38.heap.size, 0, none⟩ = some (.int .i64 x131_5) ∧
                        ∃ (x133_5 : Int),
                        w_40.cell? ⟨w_38.heap.size, 1, none⟩ = some (.int .i64 x133_5) ∧
                        ∃ b135_5 : Bool, (∀ w', (do eqGuard .neq 30 (.tmp 129) (.tmp 134) (.agg #[.int .i64 x129_0_5, .int .i64 x129_1_5]) (.agg #[.int .i64 x131_5, .int .i64 x133_5]); binOp .neq 30 (.agg #[.int .i64 x129_0_5, .int .i64 x129_1_5]) (.agg #[.int .i64 x131_5, .int .i64 x133_5]) : Sem Value).run Try.prog w' = .ok (.bool b135_5) w') ∧
                        sel b135_5 (
                          R (.bool false) w_40) (
                          let i81_5 : Int := IntKind.i64.wrap (x14_1 + 1);
                          ([.slice Aa0 na0 ca0, .slice Aa1 na1 ca1, .bool b5, .pointer p24, .pointer p25, .pointer (some ⟨w_4.heap.size, 0, none⟩), .pointer (some ⟨w_5.heap.size, 0, none⟩), .int .i64 x11, .int .i64 0] : List Value) = ([.slice Aa0 na0 ca0, .slice Aa1 na1 ca1, .bool b5, .pointer p24, .pointer p25, .pointer (some ⟨w_4.heap.size, 0, none⟩), .pointer (some ⟨w_5.heap.size, 0, none⟩), .int .i64 x11, .int .i64 0] : List Value) ∧ ∃ m, m < r_2 ∧ I_2 i81_5 w_40 m)))) (
                    sel (!b88_1_1) (
                      sel (!(decide (s84_0_1 = ⟨#[]⟩))) (
                        R (.bool false) w_40) (
                        ∃ (x129_0_6 : Int),
                        w_40.cell? ⟨w_35.heap.size, 0, none⟩ = some (.int .i64 x129_0_6) ∧
                        ∃ (x129_1_6 : Int),
                        w_40.cell? ⟨w_35.heap.size, 1, none⟩ = some (.int .i64 x129_1_6) ∧
                        ∃ (x131_6 : Int),
                        w_40.cell? ⟨w_38.heap.size, 0, none⟩ = some (.int .i64 x131_6) ∧
                        ∃ (x133_6 : Int),
                        w_40.cell? ⟨w_38.heap.size, 1, none⟩ = some (.int .i64 x133_6) ∧
                        ∃ b135_6 : Bool, (∀ w', (do eqGuard .neq 30 (.tmp 129) (.tmp 134) (.agg #[.int .i64 x129_0_6, .int .i64 x129_1_6]) (.agg #[.int .i64 x131_6, .int .i64 x133_6]); binOp .neq 30 (.agg #[.int .i64 x129_0_6, .int .i64 x129_1_6]) (.agg #[.int .i64 x131_6, .int .i64 x133_6]) : Sem Value).run Try.prog w' = .ok (.bool b135_6) w') ∧
                        sel b135_6 (
                          R (.bool false) w_40) (
                          let i81_6 : Int := IntKind.i64.wrap (x14_1 + 1);
                          ([.slice Aa0 na0 ca0, .slice Aa1 na1 ca1, .bool b5, .pointer p24, .pointer p25, .pointer (some ⟨w_4.heap.size, 0, none⟩), .pointer (some ⟨w_5.heap.size, 0, none⟩), .int .i64 x11, .int .i64 0] : List Value) = ([.slice Aa0 na0 ca0, .slice Aa1 na1 ca1, .bool b5, .pointer p24, .pointer p25, .pointer (some ⟨w_4.heap.size, 0, none⟩), .pointer (some ⟨w_5.heap.size, 0, none⟩), .int .i64 x11, .int .i64 0] : List Value) ∧ ∃ m, m < r_2 ∧ I_2 i81_6 w_40 m))) (
                      ∃ (x129_0_7 : Int),
                      w_40.cell? ⟨w_35.heap.size, 0, none⟩ = some (.int .i64 x129_0_7) ∧
                      ∃ (x129_1_7 : Int),
                      w_40.cell? ⟨w_35.heap.size, 1, none⟩ = some (.int .i64 x129_1_7) ∧
                      ∃ (x131_7 : Int),
                      w_40.cell? ⟨w_38.heap.size, 0, none⟩ = some (.int .i64 x131_7) ∧
                      ∃ (x133_7 : Int),
                      w_40.cell? ⟨w_38.heap.size, 1, none⟩ = some (.int .i64 x133_7) ∧
                      ∃ b135_7 : Bool, (∀ w', (do eqGuard .neq 30 (.tmp 129) (.tmp 134) (.agg #[.int .i64 x129_0_7, .int .i64 x129_1_7]) (.agg #[.int .i64 x131_7, .int .i64 x133_7]); binOp .neq 30 (.agg #[.int .i64 x129_0_7, .int .i64 x129_1_7]) (.agg #[.int .i64 x131_7, .int .i64 x133_7]) : Sem Value).run Try.prog w' = .ok (.bool b135_7) w') ∧
                      sel b135_7 (
                        R (.bool false) w_40) (
                        let i81_7 : Int := IntKind.i64.wrap (x14_1 + 1);
                        ([.slice Aa0 na0 ca0, .slice Aa1 na1 ca1, .bool b5, .pointer p24, .pointer p25, .pointer (some ⟨w_4.heap.size, 0, none⟩), .pointer (some ⟨w_5.heap.size, 0, none⟩), .int .i64 x11, .int .i64 0] : List Value) = ([.slice Aa0 na0 ca0, .slice Aa1 na1 ca1, .bool b5, .pointer p24, .pointer p25, .pointer (some ⟨w_4.heap.size, 0, none⟩), .pointer (some ⟨w_5.heap.size, 0, none⟩), .int .i64 x11, .int .i64 0] : List Value) ∧ ∃ m, m < r_2 ∧ I_2 i81_7 w_40 m)))))) (
              sel b5 (
                (Calls Try.prog 23 #[.pointer p24] w_30.drew fun e_24 w_41 =>
                  ∃ (x140_2 : Int),
                  e_24 = .returned (.int .i64 x140_2) ∧
                  ∃ (A142_2 : Option Addr) (n142_2 c142_2 : Nat),
                  w_41.cell? ⟨w_4.heap.size, 0, none⟩ = some (.slice A142_2 n142_2 c142_2) ∧
                  sel ((x140_2 : Int) == ((n142_2 : Int) : Int)) (
                    (Calls Try.prog 24 #[.pointer p25] w_41 fun e_25 w_42 =>
                      ∃ (x148_4 : Int),
                      e_25 = .returned (.int .i64 x148_4) ∧
                      ∃ (A150_4 : Option Addr) (n150_4 c150_4 : Nat),
                      w_42.cell? ⟨w_5.heap.size, 0, none⟩ = some (.slice A150_4 n150_4 c150_4) ∧
                      let i42_7 : Int := IntKind.i64.wrap (x11 + 1);
                      ([.slice Aa0 na0 ca0, .slice Aa1 na1 ca1, .pointer p24, .pointer p25, .pointer (some ⟨w_4.heap.size, 0, none⟩), .pointer (some ⟨w_5.heap.size, 0, none⟩)] : List Value) = ([.slice Aa0 na0 ca0, .slice Aa1 na1 ca1, .pointer p24, .pointer p25, .pointer (some ⟨w_4.heap.size, 0, none⟩), .pointer (some ⟨w_5.heap.size, 0, none⟩)] : List Value) ∧ ∃ m, m < r ∧ I ((x148_4 : Int) == ((n150_4 : Int) : Int)) i42_7 w_42 m) ∧
                    (∃ (A150_5 : Option Addr) (n150_5 c150_5 : Nat),
                      w_41.cell? ⟨w_5.heap.size, 0, none⟩ = some (.slice A150_5 n150_5 c150_5) ∧
                      Calls Try.prog 24 #[.pointer p25] w_41 fun e_26 w_43 =>
                      ∃ (x148_5 : Int),
                      e_26 = .returned (.int .i64 x148_5) ∧
                      let i42_8 : Int := IntKind.i64.wrap (x11 + 1);
                      ([.slice Aa0 na0 ca0, .slice Aa1 na1 ca1, .pointer p24, .pointer p25, .pointer (some ⟨w_4.heap.size, 0, none⟩), .pointer (some ⟨w_5.heap.size, 0, none⟩)] : List Value) = ([.slice Aa0 na0 ca0, .slice Aa1 na1 ca1, .pointer p24, .pointer p25, .pointer (some ⟨w_4.heap.size, 0, none⟩), .pointer (some ⟨w_5.heap.size, 0, none⟩)] : List Value) ∧ ∃ m, m < r ∧ I ((x148_5 : Int) == ((n150_5 : Int) : Int)) i42_8 w_43 m) ∧ True) (
                    let i42_9 : Int := IntKind.i64.wrap (x11 + 1);
                    ([.slice Aa0 na0 ca0, .slice Aa1 na1 ca1, .pointer p24, .pointer p25, .pointer (some ⟨w_4.heap.size, 0, none⟩), .pointer (some ⟨w_5.heap.size, 0, none⟩)] : List Value) = ([.slice Aa0 na0 ca0, .slice Aa1 na1 ca1, .pointer p24, .pointer p25, .pointer (some ⟨w_4.heap.size, 0, none⟩), .pointer (some ⟨w_5.heap.size, 0, none⟩)] : List Value) ∧ ∃ m, m < r ∧ I false i42_9 w_41 m)) ∧
                (∃ (A142_3 : Option Addr) (n142_3 c142_3 : Nat),
                  w_30.cell? ⟨w_4.heap.size, 0, none⟩ = some (.slice A142_3 n142_3 c142_3) ∧
                  Calls Try.prog 23 #[.pointer p24] w_30.drew fun e_27 w_44 =>
                  ∃ (x140_3 : Int),
                  e_27 = .returned (.int .i64 x140_3) ∧
                  sel ((x140_3 : Int) == ((n142_3 : Int) : Int)) (
                    (Calls Try.prog 24 #[.pointer p25] w_44 fun e_28 w_45 =>
                      ∃ (x148_6 : Int),
                      e_28 = .returned (.int .i64 x148_6) ∧
                      ∃ (A150_6 : Option Addr) (n150_6 c150_6 : Nat),
                      w_45.cell? ⟨w_5.heap.size, 0, none⟩ = some (.slice A150_6 n150_6 c150_6) ∧
                      let i42_10 : Int := IntKind.i64.wrap (x11 + 1);
                      ([.slice Aa0 na0 ca0, .slice Aa1 na1 ca1, .pointer p24, .pointer p25, .pointer (some ⟨w_4.heap.size, 0, none⟩), .pointer (some ⟨w_5.heap.size, 0, none⟩)] : List Value) = ([.slice Aa0 na0 ca0, .slice Aa1 na1 ca1, .pointer p24, .pointer p25, .pointer (some ⟨w_4.heap.size, 0, none⟩), .pointer (some ⟨w_5.heap.size, 0, none⟩)] : List Value) ∧ ∃ m, m < r ∧ I ((x148_6 : Int) == ((n150_6 : Int) : Int)) i42_10 w_45 m) ∧
                    (∃ (A150_7 : Option Addr) (n150_7 c150_7 : Nat),
                      w_44.cell? ⟨w_5.heap.size, 0, none⟩ = some (.slice A150_7 n150_7 c150_7) ∧
                      Calls Try.prog 24 #[.pointer p25] w_44 fun e_29 w_46 =>
                      ∃ (x148_7 : Int),
                      e_29 = .returned (.int .i64 x148_7) ∧
                      let i42_11 : Int := IntKind.i64.wrap (x11 + 1);
                      ([.slice Aa0 na0 ca0, .slice Aa1 na1 ca1, .pointer p24, .pointer p25, .pointer (some ⟨w_4.heap.size, 0, none⟩), .pointer (some ⟨w_5.heap.size, 0, none⟩)] : List Value) = ([.slice Aa0 na0 ca0, .slice Aa1 na1 ca1, .pointer p24, .pointer p25, .pointer (some ⟨w_4.heap.size, 0, none⟩), .pointer (some ⟨w_5.heap.size, 0, none⟩)] : List Value) ∧ ∃ m, m < r ∧ I ((x148_7 : Int) == ((n150_7 : Int) : Int)) i42_11 w_46 m) ∧ True) (
                    let i42_12 : Int := IntKind.i64.wrap (x11 + 1);
                    ([.slice Aa0 na0 ca0, .slice Aa1 na1 ca1, .pointer p24, .pointer p25, .pointer (some ⟨w_4.heap.size, 0, none⟩), .pointer (some ⟨w_5.heap.size, 0, none⟩)] : List Value) = ([.slice Aa0 na0 ca0, .slice Aa1 na1 ca1, .pointer p24, .pointer p25, .pointer (some ⟨w_4.heap.size, 0, none⟩), .pointer (some ⟨w_5.heap.size, 0, none⟩)] : List Value) ∧ ∃ m, m < r ∧ I false i42_12 w_44 m)) ∧ True) (
                let i42_13 : Int := IntKind.i64.wrap (x11 + 1);
                ([.slice Aa0 na0 ca0, .slice Aa1 na1 ca1, .pointer p24, .pointer p25, .pointer (some ⟨w_4.heap.size, 0, none⟩), .pointer (some ⟨w_5.heap.size, 0, none⟩)] : List Value) = ([.slice Aa0 na0 ca0, .slice Aa1 na1 ca1, .pointer p24, .pointer p25, .pointer (some ⟨w_4.heap.size, 0, none⟩), .pointer (some ⟨w_5.heap.size, 0, none⟩)] : List Value) ∧ ∃ m, m < r ∧ I false i42_13 w_30.drew m)))) (
          R (.bool b5) w_7))))
theorem f3.eq (Aa0 : Option Addr) (na0 ca0 : Nat) (Aa1 : Option Addr) (na1 ca1 : Nat) (w : World) (R : Value → World → Prop) : f3.VC Aa0 na0 ca0 Aa1 na1 ca1 w R = funV Try.prog Try.f3 f3.AL f3.AC #[.slice Aa0 na0 ca0, .slice Aa1 na1 ca1] w R := by kernel_rfl
theorem f3.calls {Aa0 : Option Addr} {na0 ca0 : Nat} {Aa1 : Option Addr} {na1 ca1 : Nat} {w : World} {R : Value → World → Prop} (h : f3.VC Aa0 na0 ca0 Aa1 na1 ca1 w R) : Calls Try.prog 3 #[.slice Aa0 na0 ca0, .slice Aa1 na1 ca1] w fun e w' => ∃ v, e = .returned v ∧ R v w' :=
  funV_sound (fn := Try.f3) (AL := f3.AL) (AC := f3.AC) V5.mixed (by kernel_rfl) (by rw [← f3.eq Aa0 na0 ca0 Aa1 na1 ca1]; exact h)

/-- gatehouse/gatehouselaw15.ArenaHeaps -/
def f4.AL : Nat → Option Ann := fun r => match r with | 4 => some ⟨[(6, .slice), (7, .int .i64)], [0, 1, 5]⟩ | 12 => some ⟨[(5, .bool), (10, .int .i64)], [1, 6]⟩ | 16 => some ⟨[(5, .bool), (11, .int .i64)], [6]⟩ | 18 => some ⟨[(5, .bool)], [6, 11]⟩ | _ => none
def f4.AC : Nat → Option Ann := fun _ => none
def f4.VC (Aa0 : Option Addr) (na0 ca0 : Nat) (Aa1 : Option Addr) (na1 ca1 : Nat) (w : World) (R : Value → World → Prop) : Prop :=
  Calls Try.prog 11 #[] w fun e_1 w_1 =>
  ∃ (b13 : Bool),
  e_1 = .returned (.bool b13) ∧
  ∃ I : Option Addr → Nat → Nat → Int → World → Nat → Prop,
  (∃ n, I none 0 0 0 w_1 n) ∧
  ∀ d : Env, ∀ (A6 : Option Addr) (n6 c6 : Nat) (x7 : Int) (w_2 : World) (r : Nat), I A6 n6 c6 x7 w_2 r →
  sel (decide ((x7 : Int) < ((na0 : Int) : Int))) (
    (0 : Int) ≤ x7 ∧ x7 < (na0 : Int) ∧
    needPtr Aa0 fun b22 o22 =>
    ∃ (x23 : Int),
    w_2.cell? ⟨b22, o22 + x7.toNat * 1, none⟩ = some (.int .i64 x23) ∧
    let w_3 : World := World.alloc w_2 (.cells #[.int .i64 0] 3);
    canStore w_3 w_2.heap.size 0 1 ∧
    let w_4 : World := setCs w_3 w_2.heap.size 0 [.int .i64 x23];
    (∃ (x24 : Int),
      w_4.cell? ⟨w_2.heap.size, 0, none⟩ = some (.int .i64 x24) ∧
      Calls Try.prog 25 #[.func (.func 26) #[] #[.pointer (some ⟨w_2.heap.size, 0, none⟩)]] w_4.drew fun e_2 w_5 =>
      ∃ (p26 : Option Addr),
      e_2 = .returned (.pointer p26) ∧
      let w_6 : World := World.alloc w_5 (.cells #[.int .i64 x24, .pointer p26, .slice none 0 0] 56);
      ∃ (p32 : Option Addr),
      w_6.cell? ⟨w_5.heap.size, 1, none⟩ = some (.pointer p32) ∧
      sel (Option.isNone p32) (
        R (.bool false) w_6) (
        let w_7 : World := World.alloc w_6 (.cells #[.pointer (some ⟨w_5.heap.size, 0, none⟩)] 51);
        ∃ (A37 : Option Addr) (n37 c37 : Nat),
        ∃ w_8 : World, (Builtin.append_ #[50, 50] 50 #[.slice A6 n6 c6, .slice (some ⟨w_6.heap.size, 0, none⟩) 1 1]).run Try.prog w_7 = .ok (.slice A37 n37 c37) w_8 ∧
        let i19 : Int := IntKind.i64.wrap (x7 + 1);
        ([.slice Aa0 na0 ca0, .slice Aa1 na1 ca1, .bool b13] : List Value) = ([.slice Aa0 na0 ca0, .slice Aa1 na1 ca1, .bool b13] : List Value) ∧ ∃ m, m < r ∧ I A37 n37 c37 i19 w_8 m)) ∧
    (Calls Try.prog 25 #[.func (.func 26) #[] #[.pointer (some ⟨w_2.heap.size, 0, none⟩)]] w_4.drew fun e_3 w_9 =>
      ∃ (p26_1 : Option Addr),
      e_3 = .returned (.pointer p26_1) ∧
      ∃ (x24_1 : Int),
      w_9.cell? ⟨w_2.heap.size, 0, none⟩ = some (.int .i64 x24_1) ∧
      let w_10 : World := World.alloc w_9 (.cells #[.int .i64 x24_1, .pointer p26_1, .slice none 0 0] 56);
      ∃ (p32_1 : Option Addr),
      w_10.cell? ⟨w_9.heap.size, 1, none⟩ = some (.pointer p32_1) ∧
      sel (Option.isNone p32_1) (
        R (.bool false) w_10) (
        let w_11 : World := World.alloc w_10 (.cells #[.pointer (some ⟨w_9.heap.size, 0, none⟩)] 51);
        ∃ (A37_1 : Option Addr) (n37_1 c37_1 : Nat),
        ∃ w_12 : World, (Builtin.append_ #[50, 50] 50 #[.slice A6 n6 c6, .slice (some ⟨w_10.heap.size, 0, none⟩) 1 1]).run Try.prog w_11 = .ok (.slice A37_1 n37_1 c37_1) w_12 ∧
        let i19_1 : Int := IntKind.i64.wrap (x7 + 1);
        ([.slice Aa0 na0 ca0, .slice Aa1 na1 ca1, .bool b13] : List Value) = ([.slice Aa0 na0 ca0, .slice Aa1 na1 ca1, .bool b13] : List Value) ∧ ∃ m, m < r ∧ I A37_1 n37_1 c37_1 i19_1 w_12 m)) ∧ True) (
    ∃ I_1 : Bool → Int → World → Nat → Prop,
    (∃ n, I_1 b13 0 w_2 n) ∧
    ∀ d_1 : Env, ∀ (b5 : Bool) (x10 : Int) (w_13 : World) (r_1 : Nat), I_1 b5 x10 w_13 r_1 →
    sel (decide ((x10 : Int) < ((na1 : Int) : Int))) (
      sel (decide ((0 : Int) < ((n6 : Int) : Int))) (
        sel b5 (
          (0 : Int) ≤ x10 ∧ x10 < (na1 : Int) ∧
          needPtr Aa1 fun b55 o55 =>
          (0 : Int) ≤ x10 ∧ x10 < (na1 : Int) ∧
          needPtr Aa1 fun b65 o65 =>
          ∃ (x57 : Int),
          w_13.cell? ⟨b55, o55 + x10.toNat * 3 + 1, none⟩ = some (.int .i64 x57) ∧
          (Calls Try.prog 19 #[.int .i64 x57, .int .i64 (n6 : Int)] w_13.drew fun e_4 w_14 =>
            ∃ (x60 : Int),
            e_4 = .returned (.int .i64 x60) ∧
            (0 : Int) ≤ x60 ∧ x60 < (n6 : Int) ∧
            needPtr A6 fun b61 o61 =>
            ∃ (p62 : Option Addr),
            w_14.cell? ⟨b61, o61 + x60.toNat * 1, none⟩ = some (.pointer p62) ∧
            ∃ (x66_0 : Int),
            w_14.cell? ⟨b65, o65 + x10.toNat * 3, none⟩ = some (.int .i64 x66_0) ∧
            ∃ (x66_1 : Int),
            w_14.cell? ⟨b65, o65 + x10.toNat * 3 + 1, none⟩ = some (.int .i64 x66_1) ∧
            ∃ (x66_2 : Int),
            w_14.cell? ⟨b65, o65 + x10.toNat * 3 + 1 + 1, none⟩ = some (.int .i64 x66_2) ∧
            Calls Try.prog 28 #[.pointer p62, .agg #[.int .i64 x66_0, .int .i64 x66_1, .int .i64 x66_2]] w_14 fun e_5 w_15 =>
            ∃ (b67 : Bool),
            e_5 = .returned (.bool b67) ∧
            let i51 : Int := IntKind.i64.wrap (x10 + 1);
            ([.slice Aa1 na1 ca1, .slice A6 n6 c6] : List Value) = ([.slice Aa1 na1 ca1, .slice A6 n6 c6] : List Value) ∧ ∃ m, m < r_1 ∧ I_1 b67 i51 w_15 m) ∧
          (∃ (x66_0_1 : Int),
            w_13.cell? ⟨b65, o65 + x10.toNat * 3, none⟩ = some (.int .i64 x66_0_1) ∧
            ∃ (x66_1_1 : Int),
            w_13.cell? ⟨b65, o65 + x10.toNat * 3 + 1, none⟩ = some (.int .i64 x66_1_1) ∧
            ∃ (x66_2_1 : Int),
            w_13.cell? ⟨b65, o65 + x10.toNat * 3 + 1 + 1, none⟩ = some (.int .i64 x66_2_1) ∧
            Calls Try.prog 19 #[.int .i64 x57, .int .i64 (n6 : Int)] w_13.drew fun e_6 w_16 =>
            ∃ (x60_1 : Int),
            e_6 = .returned (.int .i64 x60_1) ∧
            (0 : Int) ≤ x60_1 ∧ x60_1 < (n6 : Int) ∧
            needPtr A6 fun b61_1 o61_1 =>
            ∃ (p62_1 : Option Addr),
            w_16.cell? ⟨b61_1, o61_1 + x60_1.toNat * 1, none⟩ = some (.pointer p62_1) ∧
            Calls Try.prog 28 #[.pointer p62_1, .agg #[.int .i64 x66_0_1, .int .i64 x66_1_1, .int .i64 x66_2_1]] w_16 fun e_7 w_17 =>
            ∃ (b67_1 : Bool),
            e_7 = .returned (.bool b67_1) ∧
            let i51_1 : Int := IntKind.i64.wrap (x10 + 1);
            ([.slice Aa1 na1 ca1, .slice A6 n6 c6] : List Value) = ([.slice Aa1 na1 ca1, .slice A6 n6 c6] : List Value) ∧ ∃ m, m < r_1 ∧ I_1 b67_1 i51_1 w_17 m) ∧ True) (
          ∃ I_2 : Bool → Int → World → Nat → Prop,
          (∃ n, I_2 b5 0 w_13 n) ∧
          ∀ d_2 : Env, ∀ (b5_1 : Bool) (x11 : Int) (w_18 : World) (r_2 : Nat), I_2 b5_1 x11 w_18 r_2 →
          sel (decide ((x11 : Int) < ((n6 : Int) : Int))) (
            sel b5_1 (
              ∃ I_3 : Bool → World → Nat → Prop,
              (∃ n, I_3 b5_1 w_18 n) ∧
              ∀ d_3 : Env, ∀ (b5_2 : Bool) (w_19 : World) (r_3 : Nat), I_3 b5_2 w_19 r_3 →
              (0 : Int) ≤ x11 ∧ x11 < (n6 : Int) ∧
              needPtr A6 fun b79 o79 =>
              ∃ (p80 : Option Addr),
              w_19.cell? ⟨b79, o79 + x11.toNat * 1, none⟩ = some (.pointer p80) ∧
              needPtr p80 fun b81 o81 =>
              ∃ (A84 : Option Addr) (n84 c84 : Nat),
              w_19.cell? ⟨b81, o81 + 2, none⟩ = some (.slice A84 n84 c84) ∧
              sel (decide ((0 : Int) < ((n84 : Int) : Int))) (
                sel b5_2 (
                  (0 : Int) ≤ x11 ∧ x11 < (n6 : Int) ∧
                  needPtr A6 fun b92 o92 =>
                  ∃ (p93 : Option Addr),
                  w_19.cell? ⟨b92, o92 + x11.toNat * 1, none⟩ = some (.pointer p93) ∧
                  Calls Try.prog 28 #[.pointer p93, .agg #[.int .i64 2, .int .i64 0, .int .i64 0]] w_19 fun e_8 w_20 =>
                  ∃ (b95 : Bool),
                  e_8 = .returned (.bool b95) ∧
                  ([.slice A6 n6 c6, .int .i64 x11] : List Value) = ([.slice A6 n6 c6, .int .i64 x11] : List Value) ∧ ∃ m, m < r_3 ∧ I_3 b95 w_20 m) (
                  (0 : Int) ≤ x11 ∧ x11 < (n6 : Int) ∧
                  needPtr A6 fun b98 o98 =>
                  ∃ (p99 : Option Addr),
                  w_19.cell? ⟨b98, o98 + x11.toNat * 1, none⟩ = some (.pointer p99) ∧
                  Calls Try.prog 28 #[.pointer p99, .agg #[.int .i64 2, .int .i64 0, .int .i64 0]] w_19 fun e_9 w_21 =>
                  ∃ (b101 : Bool),
                  e_9 = .returned (.bool b101) ∧
                  sel b5_2 (
                    sel b101 (
                      (0 : Int) ≤ x11 ∧ x11 < (n6 : Int) ∧
                      needPtr A6 fun b109 o109 =>
                      ∃ (p110 : Option Addr),
                      w_21.cell? ⟨b109, o109 + x11.toNat * 1, none⟩ = some (.pointer p110) ∧
                      needPtr p110 fun b111 o111 =>
                      ∃ (p113 : Option Addr),
                      w_21.cell? ⟨b111, o111 + 1, none⟩ = some (.pointer p113) ∧
                      Calls Try.prog 29 #[.pointer p113] w_21 fun e_10 w_22 =>
                      ∃ (x114 : Int),
                      e_10 = .returned (.int .i64 x114) ∧
                      let i76 : Int := IntKind.i64.wrap (x11 + 1);
                      ([.slice A6 n6 c6] : List Value) = ([.slice A6 n6 c6] : List Value) ∧ ∃ m, m < r_2 ∧ I_2 ((x114 : Int) == (0 : Int)) i76 w_22 m) (
                      let i76_1 : Int := IntKind.i64.wrap (x11 + 1);
                      ([.slice A6 n6 c6] : List Value) = ([.slice A6 n6 c6] : List Value) ∧ ∃ m, m < r_2 ∧ I_2 false i76_1 w_21 m)) (
                    let i76_2 : Int := IntKind.i64.wrap (x11 + 1);
                    ([.slice A6 n6 c6] : List Value) = ([.slice A6 n6 c6] : List Value) ∧ ∃ m, m < r_2 ∧ I_2 false i76_2 w_21 m))) (
                (0 : Int) ≤ x11 ∧ x11 < (n6 : Int) ∧
                needPtr A6 fun b98_1 o98_1 =>
                ∃ (p99_1 : Option Addr),
                w_19.cell? ⟨b98_1, o98_1 + x11.toNat * 1, none⟩ = some (.pointer p99_1) ∧
                Calls Try.prog 28 #[.pointer p99_1, .agg #[.int .i64 2, .int .i64 0, .int .i64 0]] w_19 fun e_11 w_23 =>
                ∃ (b101_1 : Bool),
                e_11 = .returned (.bool b101_1) ∧
                sel b5_2 (
                  sel b101_1 (
                    (0 : Int) ≤ x11 ∧ x11 < (n6 : Int) ∧
                    needPtr A6 fun b109_1 o109_1 =>
                    ∃ (p110_1 : Option Addr),
                    w_23.cell? ⟨b109_1, o109_1 + x11.toNat * 1, none⟩ = some (.pointer p110_1) ∧
                    needPtr p110_1 fun b111_1 o111_1 =>
                    ∃ (p113_1 : Option Addr),
                    w_23.cell? ⟨b111_1, o111_1 + 1, none⟩ = some (.pointer p113_1) ∧
                    Calls Try.prog 29 #[.pointer p113_1] w_23 fun e_12 w_24 =>
                    ∃ (x114_1 : Int),
                    e_12 = .returned (.int .i64 x114_1) ∧
                    let i76_3 : Int := IntKind.i64.wrap (x11 + 1);
                    ([.slice A6 n6 c6] : List Value) = ([.slice A6 n6 c6] : List Value) ∧ ∃ m, m < r_2 ∧ I_2 ((x114_1 : Int) == (0 : Int)) i76_3 w_24 m) (
                    let i76_4 : Int := IntKind.i64.wrap (x11 + 1);
                    ([.slice A6 n6 c6] : List Value) = ([.slice A6 n6 c6] : List Value) ∧ ∃ m, m < r_2 ∧ I_2 false i76_4 w_23 m)) (
                  let i76_5 : Int := IntKind.i64.wrap (x11 + 1);
                  ([.slice A6 n6 c6] : List Value) = ([.slice A6 n6 c6] : List Value) ∧ ∃ m, m < r_2 ∧ I_2 false i76_5 w_23 m))) (
              R (.bool b5_1) w_18)) (
            R (.bool b5_1) w_18))) (
        ∃ I_4 : Bool → Int → World → Nat → Prop,
        (∃ n, I_4 b5 0 w_13 n) ∧
        ∀ d_4 : Env, ∀ (b5_3 : Bool) (x11_1 : Int) (w_25 : World) (r_4 : Nat), I_4 b5_3 x11_1 w_25 r_4 →
        sel (decide ((x11_1 : Int) < ((n6 : Int) : Int))) (
          sel b5_3 (
            ∃ I_5 : Bool → World → Nat → Prop,
            (∃ n, I_5 b5_3 w_25 n) ∧
            ∀ d_5 : Env, ∀ (b5_4 : Bool) (w_26 : World) (r_5 : Nat), I_5 b5_4 w_26 r_5 →
            (0 : Int) ≤ x11_1 ∧ x11_1 < (n6 : Int) ∧
            needPtr A6 fun b79_1 o79_1 =>
            ∃ (p80_1 : Option Addr),
            w_26.cell? ⟨b79_1, o79_1 + x11_1.toNat * 1, none⟩ = some (.pointer p80_1) ∧
            needPtr p80_1 fun b81_1 o81_1 =>
            ∃ (A84_1 : Option Addr) (n84_1 c84_1 : Nat),
            w_26.cell? ⟨b81_1, o81_1 + 2, none⟩ = some (.slice A84_1 n84_1 c84_1) ∧
            sel (decide ((0 : Int) < ((n84_1 : Int) : Int))) (
              sel b5_4 (
                (0 : Int) ≤ x11_1 ∧ x11_1 < (n6 : Int) ∧
                needPtr A6 fun b92_1 o92_1 =>
                ∃ (p93_1 : Option Addr),
                w_26.cell? ⟨b92_1, o92_1 + x11_1.toNat * 1, none⟩ = some (.pointer p93_1) ∧
                Calls Try.prog 28 #[.pointer p93_1, .agg #[.int .i64 2, .int .i64 0, .int .i64 0]] w_26 fun e_13 w_27 =>
                ∃ (b95_1 : Bool),
                e_13 = .returned (.bool b95_1) ∧
                ([.slice A6 n6 c6, .int .i64 x11_1] : List Value) = ([.slice A6 n6 c6, .int .i64 x11_1] : List Value) ∧ ∃ m, m < r_5 ∧ I_5 b95_1 w_27 m) (
                (0 : Int) ≤ x11_1 ∧ x11_1 < (n6 : Int) ∧
                needPtr A6 fun b98_2 o98_2 =>
                ∃ (p99_2 : Option Addr),
                w_26.cell? ⟨b98_2, o98_2 + x11_1.toNat * 1, none⟩ = some (.pointer p99_2) ∧
                Calls Try.prog 28 #[.pointer p99_2, .agg #[.int .i64 2, .int .i64 0, .int .i64 0]] w_26 fun e_14 w_28 =>
                ∃ (b101_2 : Bool),
                e_14 = .returned (.bool b101_2) ∧
                sel b5_4 (
                  sel b101_2 (
                    (0 : Int) ≤ x11_1 ∧ x11_1 < (n6 : Int) ∧
                    needPtr A6 fun b109_2 o109_2 =>
                    ∃ (p110_2 : Option Addr),
                    w_28.cell? ⟨b109_2, o109_2 + x11_1.toNat * 1, none⟩ = some (.pointer p110_2) ∧
                    needPtr p110_2 fun b111_2 o111_2 =>
                    ∃ (p113_2 : Option Addr),
                    w_28.cell? ⟨b111_2, o111_2 + 1, none⟩ = some (.pointer p113_2) ∧
                    Calls Try.prog 29 #[.pointer p113_2] w_28 fun e_15 w_29 =>
                    ∃ (x114_2 : Int),
                    e_15 = .returned (.int .i64 x114_2) ∧
                    let i76_6 : Int := IntKind.i64.wrap (x11_1 + 1);
                    ([.slice A6 n6 c6] : List Value) = ([.slice A6 n6 c6] : List Value) ∧ ∃ m, m < r_4 ∧ I_4 ((x114_2 : Int) == (0 : Int)) i76_6 w_29 m) (
                    let i76_7 : Int := IntKind.i64.wrap (x11_1 + 1);
                    ([.slice A6 n6 c6] : List Value) = ([.slice A6 n6 c6] : List Value) ∧ ∃ m, m < r_4 ∧ I_4 false i76_7 w_28 m)) (
                  let i76_8 : Int := IntKind.i64.wrap (x11_1 + 1);
                  ([.slice A6 n6 c6] : List Value) = ([.slice A6 n6 c6] : List Value) ∧ ∃ m, m < r_4 ∧ I_4 false i76_8 w_28 m))) (
              (0 : Int) ≤ x11_1 ∧ x11_1 < (n6 : Int) ∧
              needPtr A6 fun b98_3 o98_3 =>
              ∃ (p99_3 : Option Addr),
              w_26.cell? ⟨b98_3, o98_3 + x11_1.toNat * 1, none⟩ = some (.pointer p99_3) ∧
              Calls Try.prog 28 #[.pointer p99_3, .agg #[.int .i64 2, .int .i64 0, .int .i64 0]] w_26 fun e_16 w_30 =>
              ∃ (b101_3 : Bool),
              e_16 = .returned (.bool b101_3) ∧
              sel b5_4 (
                sel b101_3 (
                  (0 : Int) ≤ x11_1 ∧ x11_1 < (n6 : Int) ∧
                  needPtr A6 fun b109_3 o109_3 =>
                  ∃ (p110_3 : Option Addr),
                  w_30.cell? ⟨b109_3, o109_3 + x11_1.toNat * 1, none⟩ = some (.pointer p110_3) ∧
                  needPtr p110_3 fun b111_3 o111_3 =>
                  ∃ (p113_3 : Option Addr),
                  w_30.cell? ⟨b111_3, o111_3 + 1, none⟩ = some (.pointer p113_3) ∧
                  Calls Try.prog 29 #[.pointer p113_3] w_30 fun e_17 w_31 =>
                  ∃ (x114_3 : Int),
                  e_17 = .returned (.int .i64 x114_3) ∧
                  let i76_9 : Int := IntKind.i64.wrap (x11_1 + 1);
                  ([.slice A6 n6 c6] : List Value) = ([.slice A6 n6 c6] : List Value) ∧ ∃ m, m < r_4 ∧ I_4 ((x114_3 : Int) == (0 : Int)) i76_9 w_31 m) (
                  let i76_10 : Int := IntKind.i64.wrap (x11_1 + 1);
                  ([.slice A6 n6 c6] : List Value) = ([.slice A6 n6 c6] : List Value) ∧ ∃ m, m < r_4 ∧ I_4 false i76_10 w_30 m)) (
                let i76_11 : Int := IntKind.i64.wrap (x11_1 + 1);
                ([.slice A6 n6 c6] : List Value) = ([.slice A6 n6 c6] : List Value) ∧ ∃ m, m < r_4 ∧ I_4 false i76_11 w_30 m))) (
            R (.bool b5_3) w_25)) (
          R (.bool b5_3) w_25))) (
      ∃ I_6 : Bool → Int → World → Nat → Prop,
      (∃ n, I_6 b5 0 w_13 n) ∧
      ∀ d_6 : Env, ∀ (b5_5 : Bool) (x11_2 : Int) (w_32 : World) (r_6 : Nat), I_6 b5_5 x11_2 w_32 r_6 →
      sel (decide ((x11_2 : Int) < ((n6 : Int) : Int))) (
        sel b5_5 (
          ∃ I_7 : Bool → World → Nat → Prop,
          (∃ n, I_7 b5_5 w_32 n) ∧
          ∀ d_7 : Env, ∀ (b5_6 : Bool) (w_33 : World) (r_7 : Nat), I_7 b5_6 w_33 r_7 →
          (0 : Int) ≤ x11_2 ∧ x11_2 < (n6 : Int) ∧
          needPtr A6 fun b79_2 o79_2 =>
          ∃ (p80_2 : Option Addr),
          w_33.cell? ⟨b79_2, o79_2 + x11_2.toNat * 1, none⟩ = some (.pointer p80_2) ∧
          needPtr p80_2 fun b81_2 o81_2 =>
          ∃ (A84_2 : Option Addr) (n84_2 c84_2 : Nat),
          w_33.cell? ⟨b81_2, o81_2 + 2, none⟩ = some (.slice A84_2 n84_2 c84_2) ∧
          sel (decide ((0 : Int) < ((n84_2 : Int) : Int))) (
            sel b5_6 (
              (0 : Int) ≤ x11_2 ∧ x11_2 < (n6 : Int) ∧
              needPtr A6 fun b92_2 o92_2 =>
              ∃ (p93_2 : Option Addr),
              w_33.cell? ⟨b92_2, o92_2 + x11_2.toNat * 1, none⟩ = some (.pointer p93_2) ∧
              Calls Try.prog 28 #[.pointer p93_2, .agg #[.int .i64 2, .int .i64 0, .int .i64 0]] w_33 fun e_18 w_34 =>
              ∃ (b95_2 : Bool),
              e_18 = .returned (.bool b95_2) ∧
              ([.slice A6 n6 c6, .int .i64 x11_2] : List Value) = ([.slice A6 n6 c6, .int .i64 x11_2] : List Value) ∧ ∃ m, m < r_7 ∧ I_7 b95_2 w_34 m) (
              (0 : Int) ≤ x11_2 ∧ x11_2 < (n6 : Int) ∧
              needPtr A6 fun b98_4 o98_4 =>
              ∃ (p99_4 : Option Addr),
              w_33.cell? ⟨b98_4, o98_4 + x11_2.toNat * 1, none⟩ = some (.pointer p99_4) ∧
              Calls Try.prog 28 #[.pointer p99_4, .agg #[.int .i64 2, .int .i64 0, .int .i64 0]] w_33 fun e_19 w_35 =>
              ∃ (b101_4 : Bool),
              e_19 = .returned (.bool b101_4) ∧
              sel b5_6 (
                sel b101_4 (
                  (0 : Int) ≤ x11_2 ∧ x11_2 < (n6 : Int) ∧
                  needPtr A6 fun b109_4 o109_4 =>
                  ∃ (p110_4 : Option Addr),
                  w_35.cell? ⟨b109_4, o109_4 + x11_2.toNat * 1, none⟩ = some (.pointer p110_4) ∧
                  needPtr p110_4 fun b111_4 o111_4 =>
                  ∃ (p113_4 : Option Addr),
                  w_35.cell? ⟨b111_4, o111_4 + 1, none⟩ = some (.pointer p113_4) ∧
                  Calls Try.prog 29 #[.pointer p113_4] w_35 fun e_20 w_36 =>
                  ∃ (x114_4 : Int),
                  e_20 = .returned (.int .i64 x114_4) ∧
                  let i76_12 : Int := IntKind.i64.wrap (x11_2 + 1);
                  ([.slice A6 n6 c6] : List Value) = ([.slice A6 n6 c6] : List Value) ∧ ∃ m, m < r_6 ∧ I_6 ((x114_4 : Int) == (0 : Int)) i76_12 w_36 m) (
                  let i76_13 : Int := IntKind.i64.wrap (x11_2 + 1);
                  ([.slice A6 n6 c6] : List Value) = ([.slice A6 n6 c6] : List Value) ∧ ∃ m, m < r_6 ∧ I_6 false i76_13 w_35 m)) (
                let i76_14 : Int := IntKind.i64.wrap (x11_2 + 1);
                ([.slice A6 n6 c6] : List Value) = ([.slice A6 n6 c6] : List Value) ∧ ∃ m, m < r_6 ∧ I_6 false i76_14 w_35 m))) (
            (0 : Int) ≤ x11_2 ∧ x11_2 < (n6 : Int) ∧
            needPtr A6 fun b98_5 o98_5 =>
            ∃ (p99_5 : Option Addr),
            w_33.cell? ⟨b98_5, o98_5 + x11_2.toNat * 1, none⟩ = some (.pointer p99_5) ∧
            Calls Try.prog 28 #[.pointer p99_5, .agg #[.int .i64 2, .int .i64 0, .int .i64 0]] w_33 fun e_21 w_37 =>
            ∃ (b101_5 : Bool),
            e_21 = .returned (.bool b101_5) ∧
            sel b5_6 (
              sel b101_5 (
                (0 : Int) ≤ x11_2 ∧ x11_2 < (n6 : Int) ∧
                needPtr A6 fun b109_5 o109_5 =>
                ∃ (p110_5 : Option Addr),
                w_37.cell? ⟨b109_5, o109_5 + x11_2.toNat * 1, none⟩ = some (.pointer p110_5) ∧
                needPtr p110_5 fun b111_5 o111_5 =>
                ∃ (p113_5 : Option Addr),
                w_37.cell? ⟨b111_5, o111_5 + 1, none⟩ = some (.pointer p113_5) ∧
                Calls Try.prog 29 #[.pointer p113_5] w_37 fun e_22 w_38 =>
                ∃ (x114_5 : Int),
                e_22 = .returned (.int .i64 x114_5) ∧
                let i76_15 : Int := IntKind.i64.wrap (x11_2 + 1);
                ([.slice A6 n6 c6] : List Value) = ([.slice A6 n6 c6] : List Value) ∧ ∃ m, m < r_6 ∧ I_6 ((x114_5 : Int) == (0 : Int)) i76_15 w_38 m) (
                let i76_16 : Int := IntKind.i64.wrap (x11_2 + 1);
                ([.slice A6 n6 c6] : List Value) = ([.slice A6 n6 c6] : List Value) ∧ ∃ m, m < r_6 ∧ I_6 false i76_16 w_37 m)) (
              let i76_17 : Int := IntKind.i64.wrap (x11_2 + 1);
              ([.slice A6 n6 c6] : List Value) = ([.slice A6 n6 c6] : List Value) ∧ ∃ m, m < r_6 ∧ I_6 false i76_17 w_37 m))) (
          R (.bool b5_5) w_32)) (
        R (.bool b5_5) w_32)))
theorem f4.eq (Aa0 : Option Addr) (na0 ca0 : Nat) (Aa1 : Option Addr) (na1 ca1 : Nat) (w : World) (R : Value → World → Prop) : f4.VC Aa0 na0 ca0 Aa1 na1 ca1 w R = funV Try.prog Try.f4 f4.AL f4.AC #[.slice Aa0 na0 ca0, .slice Aa1 na1 ca1] w R := by kernel_rfl
theorem f4.calls {Aa0 : Option Addr} {na0 ca0 : Nat} {Aa1 : Option Addr} {na1 ca1 : Nat} {w : World} {R : Value → World → Prop} (h : f4.VC Aa0 na0 ca0 Aa1 na1 ca1 w R) : Calls Try.prog 4 #[.slice Aa0 na0 ca0, .slice Aa1 na1 ca1] w fun e w' => ∃ v, e = .returned v ∧ R v w' :=
  funV_sound (fn := Try.f4) (AL := f4.AL) (AC := f4.AC) V5.mixed (by kernel_rfl) (by rw [← f4.eq Aa0 na0 ca0 Aa1 na1 ca1]; exact h)

/-- gatehouse/gatehouselaw15.ArenaHeapSorts -/
def f5.AL : Nat → Option Ann := fun r => match r with | 6 => some ⟨[(5, .bool), (7, .int .i64)], [0, 3, 6]⟩ | 13 => some ⟨[(10, .slice), (11, .int .i64)], [0, 3, 5, 6]⟩ | 18 => some ⟨[(5, .bool), (13, .int .i64)], [0, 3, 6, 10, 12]⟩ | _ => none
def f5.AC : Nat → Option Ann := fun _ => none
def f5.VC (Aa0 : Option Addr) (na0 ca0 : Nat) (xa1 : Int) (w : World) (R : Value → World → Prop) : Prop :=
  let w_1 : World := World.alloc w (.cells #[.int .i64 xa1] 3);
  Calls Try.prog 11 #[] w_1 fun e_1 w_2 =>
  ∃ (b20 : Bool),
  e_1 = .returned (.bool b20) ∧
  Calls Try.prog 14 #[.func (.func 30) #[] #[.pointer (some ⟨w.heap.size, 0, none⟩)]] w_2 fun e_2 w_3 =>
  ∃ (p22 : Option Addr),
  e_2 = .returned (.pointer p22) ∧
  sel (Option.isNone p22) (
    R (.bool false) w_3) (
    ∃ I : Bool → Int → World → Nat → Prop,
    (∃ n, I b20 0 w_3 n) ∧
    ∀ d : Env, ∀ (b5 : Bool) (x7 : Int) (w_4 : World) (r : Nat), I b5 x7 w_4 r →
    sel (decide ((x7 : Int) < ((na0 : Int) : Int))) (
      (0 : Int) ≤ x7 ∧ x7 < (na0 : Int) ∧
      needPtr Aa0 fun b34 o34 =>
      ∃ (x35 : Int),
      w_4.cell? ⟨b34, o34 + x7.toNat * 1, none⟩ = some (.int .i64 x35) ∧
      Calls Try.prog 18 #[.pointer p22, .agg #[.int .i64 x35, .int .i64 x7]] w_4 fun e_3 w_5 =>
      e_3 = .returned (.tuple #[]) ∧
      Calls Try.prog 32 #[.pointer p22] w_5 fun e_4 w_6 =>
      ∃ (x41_0_0 : Int) (x41_0_1 : Int) (b41_1 : Bool),
      e_4 = .returned (.tuple #[.agg #[.int .i64 x41_0_0, .int .i64 x41_0_1], .bool b41_1]) ∧
      let w_7 : World := World.alloc w_6 (.cells #[.int .i64 0, .int .i64 0] 30);
      canStore w_7 w_6.heap.size 0 2 ∧
      let w_8 : World := setCs w_7 w_6.heap.size 0 [.int .i64 x41_0_0, .int .i64 x41_0_1];
      sel b5 (
        let i49 : Int := IntKind.i64.wrap (x7 + 1);
        Calls Try.prog 24 #[.pointer p22] w_8.drew fun e_5 w_9 =>
        ∃ (x47 : Int),
        e_5 = .returned (.int .i64 x47) ∧
        sel ((x47 : Int) == (i49 : Int)) (
          sel b41_1 (
            (0 : Int) ≤ 1 ∧ 1 < (2 : Int) ∧
            ∃ (x57 : Int),
            w_9.cell? ⟨w_6.heap.size, 1, none⟩ = some (.int .i64 x57) ∧
            sel (decide ((0 : Int) ≤ (x57 : Int))) (
              (0 : Int) ≤ 1 ∧ 1 < (2 : Int) ∧
              ∃ (x62 : Int),
              w_9.cell? ⟨w_6.heap.size, 1, none⟩ = some (.int .i64 x62) ∧
              sel (decide ((x62 : Int) ≤ (x7 : Int))) (
                (0 : Int) ≤ 0 ∧ 0 < (2 : Int) ∧
                (0 : Int) ≤ x7 ∧ x7 < (na0 : Int) ∧
                needPtr Aa0 fun b73 o73 =>
                ∃ (x68 : Int),
                w_9.cell? ⟨w_6.heap.size, 0, none⟩ = some (.int .i64 x68) ∧
                ∃ (x69 : Int),
                w_9.cell? ⟨w.heap.size, 0, none⟩ = some (.int .i64 x69) ∧
                (Calls Try.prog 31 #[.int .i64 x68, .int .i64 x69] w_9 fun e_6 w_10 =>
                  ∃ (x70 : Int),
                  e_6 = .returned (.int .i64 x70) ∧
                  ∃ (x74 : Int),
                  w_10.cell? ⟨b73, o73 + x7.toNat * 1, none⟩ = some (.int .i64 x74) ∧
                  ∃ (x75 : Int),
                  w_10.cell? ⟨w.heap.size, 0, none⟩ = some (.int .i64 x75) ∧
                  Calls Try.prog 31 #[.int .i64 x74, .int .i64 x75] w_10 fun e_7 w_11 =>
                  ∃ (x76 : Int),
                  e_7 = .returned (.int .i64 x76) ∧
                  let i30 : Int := IntKind.i64.wrap (x7 + 1);
                  ([.slice Aa0 na0 ca0, .pointer (some ⟨w.heap.size, 0, none⟩), .pointer p22] : List Value) = ([.slice Aa0 na0 ca0, .pointer (some ⟨w.heap.size, 0, none⟩), .pointer p22] : List Value) ∧ ∃ m, m < r ∧ I (decide ((x70 : Int) ≤ (x76 : Int))) i30 w_11 m) ∧
                (∃ (x74_1 : Int),
                  w_9.cell? ⟨b73, o73 + x7.toNat * 1, none⟩ = some (.int .i64 x74_1) ∧
                  (Calls Try.prog 31 #[.int .i64 x68, .int .i64 x69] w_9 fun e_8 w_12 =>
                    ∃ (x70_1 : Int),
                    e_8 = .returned (.int .i64 x70_1) ∧
                    ∃ (x75_1 : Int),
                    w_12.cell? ⟨w.heap.size, 0, none⟩ = some (.int .i64 x75_1) ∧
                    Calls Try.prog 31 #[.int .i64 x74_1, .int .i64 x75_1] w_12 fun e_9 w_13 =>
                    ∃ (x76_1 : Int),
                    e_9 = .returned (.int .i64 x76_1) ∧
                    let i30_1 : Int := IntKind.i64.wrap (x7 + 1);
                    ([.slice Aa0 na0 ca0, .pointer (some ⟨w.heap.size, 0, none⟩), .pointer p22] : List Value) = ([.slice Aa0 na0 ca0, .pointer (some ⟨w.heap.size, 0, none⟩), .pointer p22] : List Value) ∧ ∃ m, m < r ∧ I (decide ((x70_1 : Int) ≤ (x76_1 : Int))) i30_1 w_13 m) ∧
                  (∃ (x75_2 : Int),
                    w_9.cell? ⟨w.heap.size, 0, none⟩ = some (.int .i64 x75_2) ∧
                    Calls Try.prog 31 #[.int .i64 x68, .int .i64 x69] w_9 fun e_10 w_14 =>
                    ∃ (x70_2 : Int),
                    e_10 = .returned (.int .i64 x70_2) ∧
                    Calls Try.prog 31 #[.int .i64 x74_1, .int .i64 x75_2] w_14 fun e_11 w_15 =>
                    ∃ (x76_2 : Int),
                    e_11 = .returned (.int .i64 x76_2) ∧
                    let i30_2 : Int := IntKind.i64.wrap (x7 + 1);
                    ([.slice Aa0 na0 ca0, .pointer (some ⟨w.heap.size, 0, none⟩), .pointer p22] : List Value) = ([.slice Aa0 na0 ca0, .pointer (some ⟨w.heap.size, 0, none⟩), .pointer p22] : List Value) ∧ ∃ m, m < r ∧ I (decide ((x70_2 : Int) ≤ (x76_2 : Int))) i30_2 w_15 m) ∧ True) ∧
                (∃ (x75_3 : Int),
                  w_9.cell? ⟨w.heap.size, 0, none⟩ = some (.int .i64 x75_3) ∧
                  (Calls Try.prog 31 #[.int .i64 x68, .int .i64 x69] w_9 fun e_12 w_16 =>
                    ∃ (x70_3 : Int),
                    e_12 = .returned (.int .i64 x70_3) ∧
                    ∃ (x74_2 : Int),
                    w_16.cell? ⟨b73, o73 + x7.toNat * 1, none⟩ = some (.int .i64 x74_2) ∧
                    Calls Try.prog 31 #[.int .i64 x74_2, .int .i64 x75_3] w_16 fun e_13 w_17 =>
                    ∃ (x76_3 : Int),
                    e_13 = .returned (.int .i64 x76_3) ∧
                    let i30_3 : Int := IntKind.i64.wrap (x7 + 1);
                    ([.slice Aa0 na0 ca0, .pointer (some ⟨w.heap.size, 0, none⟩), .pointer p22] : List Value) = ([.slice Aa0 na0 ca0, .pointer (some ⟨w.heap.size, 0, none⟩), .pointer p22] : List Value) ∧ ∃ m, m < r ∧ I (decide ((x70_3 : Int) ≤ (x76_3 : Int))) i30_3 w_17 m) ∧
                  (∃ (x74_3 : Int),
                    w_9.cell? ⟨b73, o73 + x7.toNat * 1, none⟩ = some (.int .i64 x74_3) ∧
                    Calls Try.prog 31 #[.int .i64 x68, .int .i64 x69] w_9 fun e_14 w_18 =>
                    ∃ (x70_4 : Int),
                    e_14 = .returned (.int .i64 x70_4) ∧
                    Calls Try.prog 31 #[.int .i64 x74_3, .int .i64 x75_3] w_18 fun e_15 w_19 =>
                    ∃ (x76_4 : Int),
                    e_15 = .returned (.int .i64 x76_4) ∧
                    let i30_4 : Int := IntKind.i64.wrap (x7 + 1);
                    ([.slice Aa0 na0 ca0, .pointer (some ⟨w.heap.size, 0, none⟩), .pointer p22] : List Value) = ([.slice Aa0 na0 ca0, .pointer (some ⟨w.heap.size, 0, none⟩), .pointer p22] : List Value) ∧ ∃ m, m < r ∧ I (decide ((x70_4 : Int) ≤ (x76_4 : Int))) i30_4 w_19 m) ∧ True) ∧ True) (
                let i30_5 : Int := IntKind.i64.wrap (x7 + 1);
                ([.slice Aa0 na0 ca0, .pointer (some ⟨w.heap.size, 0, none⟩), .pointer p22] : List Value) = ([.slice Aa0 na0 ca0, .pointer (some ⟨w.heap.size, 0, none⟩), .pointer p22] : List Value) ∧ ∃ m, m < r ∧ I false i30_5 w_9 m)) (
              let i30_6 : Int := IntKind.i64.wrap (x7 + 1);
              ([.slice Aa0 na0 ca0, .pointer (some ⟨w.heap.size, 0, none⟩), .pointer p22] : List Value) = ([.slice Aa0 na0 ca0, .pointer (some ⟨w.heap.size, 0, none⟩), .pointer p22] : List Value) ∧ ∃ m, m < r ∧ I false i30_6 w_9 m)) (
            let i30_7 : Int := IntKind.i64.wrap (x7 + 1);
            ([.slice Aa0 na0 ca0, .pointer (some ⟨w.heap.size, 0, none⟩), .pointer p22] : List Value) = ([.slice Aa0 na0 ca0, .pointer (some ⟨w.heap.size, 0, none⟩), .pointer p22] : List Value) ∧ ∃ m, m < r ∧ I false i30_7 w_9 m)) (
          let i30_8 : Int := IntKind.i64.wrap (x7 + 1);
          ([.slice Aa0 na0 ca0, .pointer (some ⟨w.heap.size, 0, none⟩), .pointer p22] : List Value) = ([.slice Aa0 na0 ca0, .pointer (some ⟨w.heap.size, 0, none⟩), .pointer p22] : List Value) ∧ ∃ m, m < r ∧ I false i30_8 w_9 m)) (
        let i30_9 : Int := IntKind.i64.wrap (x7 + 1);
        ([.slice Aa0 na0 ca0, .pointer (some ⟨w.heap.size, 0, none⟩), .pointer p22] : List Value) = ([.slice Aa0 na0 ca0, .pointer (some ⟨w.heap.size, 0, none⟩), .pointer p22] : List Value) ∧ ∃ m, m < r ∧ I false i30_9 w_8.drew m)) (
      ∃ I_1 : Option Addr → Nat → Nat → Int → World → Nat → Prop,
      (∃ n, I_1 none 0 0 0 w_4 n) ∧
      ∀ d_1 : Env, ∀ (A10 : Option Addr) (n10 c10 : Nat) (x11 : Int) (w_20 : World) (r_1 : Nat), I_1 A10 n10 c10 x11 w_20 r_1 →
      sel (decide ((x11 : Int) < ((na0 : Int) : Int))) (
        let w_21 : World := World.alloc w_20 (.cells #[.bool false] 4);
        ∃ (A87 : Option Addr) (n87 c87 : Nat),
        ∃ w_22 : World, (Builtin.append_ #[61, 61] 61 #[.slice A10 n10 c10, .slice (some ⟨w_20.heap.size, 0, none⟩) 1 1]).run Try.prog w_21 = .ok (.slice A87 n87 c87) w_22 ∧
        let i84 : Int := IntKind.i64.wrap (x11 + 1);
        ([.slice Aa0 na0 ca0, .pointer (some ⟨w.heap.size, 0, none⟩), .bool b5, .pointer p22] : List Value) = ([.slice Aa0 na0 ca0, .pointer (some ⟨w.heap.size, 0, none⟩), .bool b5, .pointer p22] : List Value) ∧ ∃ m, m < r_1 ∧ I_1 A87 n87 c87 i84 w_22 m) (
        let w_23 : World := World.alloc w_20 (.cells #[.int .i64 0, .int .i64 0] 30);
        canStore w_23 w_20.heap.size 0 2 ∧
        let w_24 : World := setCs w_23 w_20.heap.size 0 [.int .i64 0, .int .i64 0];
        ∃ I_2 : Bool → Int → World → Nat → Prop,
        (∃ n, I_2 b5 0 w_24 n) ∧
        ∀ d_2 : Env, ∀ (b5_1 : Bool) (x13 : Int) (w_25 : World) (r_2 : Nat), I_2 b5_1 x13 w_25 r_2 →
        sel (decide ((x13 : Int) < ((na0 : Int) : Int))) (
          sel b5_1 (
            Calls Try.prog 22 #[.pointer p22] w_25 fun e_16 w_26 =>
            ∃ (x100_0_0 : Int) (x100_0_1 : Int) (b100_1 : Bool),
            e_16 = .returned (.tuple #[.agg #[.int .i64 x100_0_0, .int .i64 x100_0_1], .bool b100_1]) ∧
            let w_27 : World := World.alloc w_26 (.cells #[.int .i64 0, .int .i64 0] 30);
            canStore w_27 w_26.heap.size 0 2 ∧
            let w_28 : World := setCs w_27 w_26.heap.size 0 [.int .i64 x100_0_0, .int .i64 x100_0_1];
            sel (!b100_1) (
              R (.bool false) w_28.drew) (
              (0 : Int) ≤ 1 ∧ 1 < (2 : Int) ∧
              ∃ (x107 : Int),
              w_28.cell? ⟨w_26.heap.size, 1, none⟩ = some (.int .i64 x107) ∧
              sel (decide ((x107 : Int) < (0 : Int))) (
                R (.bool false) w_28.drew) (
                (0 : Int) ≤ 1 ∧ 1 < (2 : Int) ∧
                ∃ (x112 : Int),
                w_28.cell? ⟨w_26.heap.size, 1, none⟩ = some (.int .i64 x112) ∧
                sel (decide (((na0 : Int) : Int) ≤ (x112 : Int))) (
                  R (.bool false) w_28.drew) (
                  (0 : Int) ≤ 1 ∧ 1 < (2 : Int) ∧
                  ∃ (x120 : Int),
                  w_28.cell? ⟨w_26.heap.size, 1, none⟩ = some (.int .i64 x120) ∧
                  (0 : Int) ≤ x120 ∧ x120 < (n10 : Int) ∧
                  needPtr A10 fun b121 o121 =>
                  ∃ (b122 : Bool),
                  w_28.cell? ⟨b121, o121 + x120.toNat * 1, none⟩ = some (.bool b122) ∧
                  sel b122 (
                    R (.bool false) w_28.drew) (
                    (0 : Int) ≤ 0 ∧ 0 < (2 : Int) ∧
                    (0 : Int) ≤ 1 ∧ 1 < (2 : Int) ∧
                    ∃ (x126 : Int),
                    w_28.cell? ⟨w_26.heap.size, 0, none⟩ = some (.int .i64 x126) ∧
                    ∃ (x129 : Int),
                    w_28.cell? ⟨w_26.heap.size, 1, none⟩ = some (.int .i64 x129) ∧
                    (0 : Int) ≤ x129 ∧ x129 < (na0 : Int) ∧
                    needPtr Aa0 fun b130 o130 =>
                    ∃ (x131 : Int),
                    w_28.cell? ⟨b130, o130 + x129.toNat * 1, none⟩ = some (.int .i64 x131) ∧
                    sel ((x126 : Int) != (x131 : Int)) (
                      R (.bool false) w_28.drew) (
                      (0 : Int) ≤ 1 ∧ 1 < (2 : Int) ∧
                      ∃ (x136 : Int),
                      w_28.cell? ⟨w_26.heap.size, 1, none⟩ = some (.int .i64 x136) ∧
                      (0 : Int) ≤ x136 ∧ x136 < (n10 : Int) ∧
                      needPtr A10 fun b137 o137 =>
                      canStore w_28 b137 (o137 + x136.toNat * 1) 1 ∧
                      let w_29 : World := setCs w_28.drew b137 (o137 + x136.toNat * 1) [.bool true];
                      (0 : Int) ≤ 0 ∧ 0 < (2 : Int) ∧
                      ∃ (x139 : Int),
                      w_29.cell? ⟨w_20.heap.size, 0, none⟩ = some (.int .i64 x139) ∧
                      ∃ (x140 : Int),
                      w_29.cell? ⟨w.heap.size, 0, none⟩ = some (.int .i64 x140) ∧
                      Calls Try.prog 31 #[.int .i64 x139, .int .i64 x140] w_29 fun e_17 w_30 =>
                      ∃ (x141 : Int),
                      e_17 = .returned (.int .i64 x141) ∧
                      (0 : Int) ≤ 0 ∧ 0 < (2 : Int) ∧
                      ∃ (x143 : Int),
                      w_30.cell? ⟨w_26.heap.size, 0, none⟩ = some (.int .i64 x143) ∧
                      ∃ (x144 : Int),
                      w_30.cell? ⟨w.heap.size, 0, none⟩ = some (.int .i64 x144) ∧
                      Calls Try.prog 31 #[.int .i64 x143, .int .i64 x144] w_30 fun e_18 w_31 =>
                      ∃ (x145 : Int),
                      e_18 = .returned (.int .i64 x145) ∧
                      sel ((x13 : Int) == (0 : Int)) (
                        ∃ (x165_0 : Int),
                        w_31.cell? ⟨w_26.heap.size, 0, none⟩ = some (.int .i64 x165_0) ∧
                        ∃ (x165_1 : Int),
                        w_31.cell? ⟨w_26.heap.size, 1, none⟩ = some (.int .i64 x165_1) ∧
                        canStore w_31 w_20.heap.size 0 2 ∧
                        let w_32 : World := setCs w_31 w_20.heap.size 0 [.int .i64 x165_0, .int .i64 x165_1];
                        let i97 : Int := IntKind.i64.wrap (x13 + 1);
                        ([.slice Aa0 na0 ca0, .pointer (some ⟨w.heap.size, 0, none⟩), .pointer p22, .slice A10 n10 c10, .pointer (some ⟨w_20.heap.size, 0, none⟩)] : List Value) = ([.slice Aa0 na0 ca0, .pointer (some ⟨w.heap.size, 0, none⟩), .pointer p22, .slice A10 n10 c10, .pointer (some ⟨w_20.heap.size, 0, none⟩)] : List Value) ∧ ∃ m, m < r_2 ∧ I_2 true i97 w_32 m) (
                        sel (decide ((x141 : Int) < (x145 : Int))) (
                          ∃ (x165_0_1 : Int),
                          w_31.cell? ⟨w_26.heap.size, 0, none⟩ = some (.int .i64 x165_0_1) ∧
                          ∃ (x165_1_1 : Int),
                          w_31.cell? ⟨w_26.heap.size, 1, none⟩ = some (.int .i64 x165_1_1) ∧
                          canStore w_31 w_20.heap.size 0 2 ∧
                          let w_33 : World := setCs w_31 w_20.heap.size 0 [.int .i64 x165_0_1, .int .i64 x165_1_1];
                          let i97_1 : Int := IntKind.i64.wrap (x13 + 1);
                          ([.slice Aa0 na0 ca0, .pointer (some ⟨w.heap.size, 0, none⟩), .pointer p22, .slice A10 n10 c10, .pointer (some ⟨w_20.heap.size, 0, none⟩)] : List Value) = ([.slice Aa0 na0 ca0, .pointer (some ⟨w.heap.size, 0, none⟩), .pointer p22, .slice A10 n10 c10, .pointer (some ⟨w_20.heap.size, 0, none⟩)] : List Value) ∧ ∃ m, m < r_2 ∧ I_2 true i97_1 w_33 m) (
                          sel ((x141 : Int) == (x145 : Int)) (
                            (0 : Int) ≤ 1 ∧ 1 < (2 : Int) ∧
                            ∃ (x159 : Int),
                            w_31.cell? ⟨w_20.heap.size, 1, none⟩ = some (.int .i64 x159) ∧
                            (0 : Int) ≤ 1 ∧ 1 < (2 : Int) ∧
                            ∃ (x161 : Int),
                            w_31.cell? ⟨w_26.heap.size, 1, none⟩ = some (.int .i64 x161) ∧
                            ∃ (x165_0_2 : Int),
                            w_31.cell? ⟨w_26.heap.size, 0, none⟩ = some (.int .i64 x165_0_2) ∧
                            ∃ (x165_1_2 : Int),
                            w_31.cell? ⟨w_26.heap.size, 1, none⟩ = some (.int .i64 x165_1_2) ∧
                            canStore w_31 w_20.heap.size 0 2 ∧
                            let w_34 : World := setCs w_31 w_20.heap.size 0 [.int .i64 x165_0_2, .int .i64 x165_1_2];
                            let i97_2 : Int := IntKind.i64.wrap (x13 + 1);
                            ([.slice Aa0 na0 ca0, .pointer (some ⟨w.heap.size, 0, none⟩), .pointer p22, .slice A10 n10 c10, .pointer (some ⟨w_20.heap.size, 0, none⟩)] : List Value) = ([.slice Aa0 na0 ca0, .pointer (some ⟨w.heap.size, 0, none⟩), .pointer p22, .slice A10 n10 c10, .pointer (some ⟨w_20.heap.size, 0, none⟩)] : List Value) ∧ ∃ m, m < r_2 ∧ I_2 (decide ((x159 : Int) < (x161 : Int))) i97_2 w_34 m) (
                            ∃ (x165_0_3 : Int),
                            w_31.cell? ⟨w_26.heap.size, 0, none⟩ = some (.int .i64 x165_0_3) ∧
                            ∃ (x165_1_3 : Int),
                            w_31.cell? ⟨w_26.heap.size, 1, none⟩ = some (.int .i64 x165_1_3) ∧
                            canStore w_31 w_20.heap.size 0 2 ∧
                            let w_35 : World := setCs w_31 w_20.heap.size 0 [.int .i64 x165_0_3, .int .i64 x165_1_3];
                            let i97_3 : Int := IntKind.i64.wrap (x13 + 1);
                            ([.slice Aa0 na0 ca0, .pointer (some ⟨w.heap.size, 0, none⟩), .pointer p22, .slice A10 n10 c10, .pointer (some ⟨w_20.heap.size, 0, none⟩)] : List Value) = ([.slice Aa0 na0 ca0, .pointer (some ⟨w.heap.size, 0, none⟩), .pointer p22, .slice A10 n10 c10, .pointer (some ⟨w_20.heap.size, 0, none⟩)] : List Value) ∧ ∃ m, m < r_2 ∧ I_2 false i97_3 w_35 m))))))))) (
            Calls Try.prog 22 #[.pointer p22] w_25 fun e_19 w_36 =>
            ∃ (x168_0_0 : Int) (x168_0_1 : Int) (b168_1 : Bool),
            e_19 = .returned (.tuple #[.agg #[.int .i64 x168_0_0, .int .i64 x168_0_1], .bool b168_1]) ∧
            let w_37 : World := World.alloc w_36 (.cells #[.int .i64 0, .int .i64 0] 30);
            canStore w_37 w_36.heap.size 0 2 ∧
            let w_38 : World := setCs w_37 w_36.heap.size 0 [.int .i64 x168_0_0, .int .i64 x168_0_1];
            sel b5_1 (
              sel (!b168_1) (
                Calls Try.prog 24 #[.pointer p22] w_38 fun e_20 w_39 =>
                ∃ (x178 : Int),
                e_20 = .returned (.int .i64 x178) ∧
                R (.bool ((x178 : Int) == (0 : Int))) w_39) (
                R (.bool false) w_38)) (
              R (.bool false) w_38))) (
          Calls Try.prog 22 #[.pointer p22] w_25 fun e_21 w_40 =>
          ∃ (x168_0_0_1 : Int) (x168_0_1_1 : Int) (b168_1_1 : Bool),
          e_21 = .returned (.tuple #[.agg #[.int .i64 x168_0_0_1, .int .i64 x168_0_1_1], .bool b168_1_1]) ∧
          let w_41 : World := World.alloc w_40 (.cells #[.int .i64 0, .int .i64 0] 30);
          canStore w_41 w_40.heap.size 0 2 ∧
          let w_42 : World := setCs w_41 w_40.heap.size 0 [.int .i64 x168_0_0_1, .int .i64 x168_0_1_1];
          sel b5_1 (
            sel (!b168_1_1) (
              Calls Try.prog 24 #[.pointer p22] w_42 fun e_22 w_43 =>
              ∃ (x178_1 : Int),
              e_22 = .returned (.int .i64 x178_1) ∧
              R (.bool ((x178_1 : Int) == (0 : Int))) w_43) (
              R (.bool false) w_42)) (
            R (.bool false) w_42)))))
theorem f5.eq (Aa0 : Option Addr) (na0 ca0 : Nat) (xa1 : Int) (w : World) (R : Value → World → Prop) : f5.VC Aa0 na0 ca0 xa1 w R = funV Try.prog Try.f5 f5.AL f5.AC #[.slice Aa0 na0 ca0, .int .i64 xa1] w R := by kernel_rfl
theorem f5.calls {Aa0 : Option Addr} {na0 ca0 : Nat} {xa1 : Int} {w : World} {R : Value → World → Prop} (h : f5.VC Aa0 na0 ca0 xa1 w R) : Calls Try.prog 5 #[.slice Aa0 na0 ca0, .int .i64 xa1] w fun e w' => ∃ v, e = .returned v ∧ R v w' :=
  funV_sound (fn := Try.f5) (AL := f5.AL) (AC := f5.AC) V5.mixed (by kernel_rfl) (by rw [← f5.eq Aa0 na0 ca0 xa1]; exact h)

/-- gatehouse/gatehouselaw15.ArenaHeapAny -/
def f6.AL : Nat → Option Ann := fun r => match r with | 8 => some ⟨[(5, .bool), (8, .int .i64), (9, .int .i64)], [1, 6, 7]⟩ | _ => none
def f6.AC : Nat → Option Ann := fun _ => none
def f6.VC (Aa0 : Option Addr) (na0 ca0 : Nat) (Aa1 : Option Addr) (na1 ca1 : Nat) (w : World) (R : Value → World → Prop) : Prop :=
  let w_1 : World := World.alloc w (.cells #[.slice Aa0 na0 ca0] 61);
  Calls Try.prog 11 #[] w_1 fun e_1 w_2 =>
  ∃ (b14 : Bool),
  e_1 = .returned (.bool b14) ∧
  Calls Try.prog 25 #[.func (.func 33) #[] #[.pointer (some ⟨w.heap.size, 0, none⟩)]] w_2 fun e_2 w_3 =>
  ∃ (p16 : Option Addr),
  e_2 = .returned (.pointer p16) ∧
  sel (Option.isNone p16) (
    R (.bool false) w_3) (
    let w_4 : World := World.alloc w_3 (.cells #[.int .i64 0, .int .i64 0, .int .i64 0, .int .i64 0, .int .i64 0, .int .i64 0, .int .i64 0, .int .i64 0] 63);
    ∃ I : Bool → Int → Int → World → Nat → Prop,
    (∃ n, I b14 0 0 w_4 n) ∧
    ∀ d : Env, ∀ (b5 : Bool) (x8 : Int) (x9 : Int) (w_5 : World) (r : Nat), I b5 x8 x9 w_5 r →
    sel (decide ((x9 : Int) < ((na1 : Int) : Int))) (
      sel b5 (
        (0 : Int) ≤ x9 ∧ x9 < (na1 : Int) ∧
        needPtr Aa1 fun b30 o30 =>
        ∃ (x31 : Int),
        w_5.cell? ⟨b30, o30 + x9.toNat * 1, none⟩ = some (.int .i64 x31) ∧
        sel (decide ((0 : Int) ≤ (x31 : Int))) (
          (0 : Int) ≤ x9 ∧ x9 < (na1 : Int) ∧
          needPtr Aa1 fun b36 o36 =>
          ∃ (x37 : Int),
          w_5.cell? ⟨b36, o36 + x9.toNat * 1, none⟩ = some (.int .i64 x37) ∧
          let i38 : Int := bitsI .and .i64 x37 7;
          Calls Try.prog 34 #[.pointer p16, .int .i64 i38] w_5 fun e_3 w_6 =>
          e_3 = .returned (.tuple #[]) ∧
          (0 : Int) ≤ x9 ∧ x9 < (na1 : Int) ∧
          needPtr Aa1 fun b42 o42 =>
          ∃ (x43 : Int),
          w_6.cell? ⟨b42, o42 + x9.toNat * 1, none⟩ = some (.int .i64 x43) ∧
          let i44 : Int := bitsI .and .i64 x43 7;
          (0 : Int) ≤ i44 ∧ i44 < (8 : Int) ∧
          ∃ (x46 : Int),
          w_6.cell? ⟨w_3.heap.size, 0 + i44.toNat * 1, none⟩ = some (.int .i64 x46) ∧
          let i47 : Int := IntKind.i64.wrap (x46 + 1);
          (0 : Int) ≤ i44 ∧ i44 < (8 : Int) ∧
          canStore w_6 w_3.heap.size (0 + i44.toNat * 1) 1 ∧
          let w_7 : World := setCs w_6 w_3.heap.size (0 + i44.toNat * 1) [.int .i64 i47];
          let i50 : Int := IntKind.i64.wrap (x8 + 1);
          sel b5 (
            Calls Try.prog 29 #[.pointer p16] w_7 fun e_4 w_8 =>
            ∃ (x107 : Int),
            e_4 = .returned (.int .i64 x107) ∧
            let i27 : Int := IntKind.i64.wrap (x9 + 1);
            ([.slice Aa1 na1 ca1, .pointer p16, .pointer (some ⟨w_3.heap.size, 0, none⟩)] : List Value) = ([.slice Aa1 na1 ca1, .pointer p16, .pointer (some ⟨w_3.heap.size, 0, none⟩)] : List Value) ∧ ∃ m, m < r ∧ I ((x107 : Int) == (i50 : Int)) i50 i27 w_8 m) (
            let i27_1 : Int := IntKind.i64.wrap (x9 + 1);
            ([.slice Aa1 na1 ca1, .pointer p16, .pointer (some ⟨w_3.heap.size, 0, none⟩)] : List Value) = ([.slice Aa1 na1 ca1, .pointer p16, .pointer (some ⟨w_3.heap.size, 0, none⟩)] : List Value) ∧ ∃ m, m < r ∧ I false i50 i27_1 w_7 m)) (
          Calls Try.prog 35 #[.pointer p16] w_5 fun e_5 w_9 =>
          ∃ (x53_0 : Int) (b53_1 : Bool),
          e_5 = .returned (.tuple #[.int .i64 x53_0, .bool b53_1]) ∧
          Calls Try.prog 36 #[.pointer p16] w_9 fun e_6 w_10 =>
          ∃ (x58_0 : Int) (b58_1 : Bool),
          e_6 = .returned (.tuple #[.int .i64 x58_0, .bool b58_1]) ∧
          sel (!(b53_1 == (decide ((0 : Int) < (x8 : Int))))) (
            R (.bool false) w_10) (
            sel (!(b58_1 == b53_1)) (
              R (.bool false) w_10) (
              sel (decide ((x53_0 : Int) < (0 : Int))) (
                R (.bool false) w_10) (
                sel (decide ((7 : Int) < (x53_0 : Int))) (
                  R (.bool false) w_10) (
                  sel (decide ((x58_0 : Int) < (0 : Int))) (
                    R (.bool false) w_10) (
                    sel (decide ((7 : Int) < (x58_0 : Int))) (
                      R (.bool false) w_10) (
                      sel b53_1 (
                        (0 : Int) ≤ x53_0 ∧ x53_0 < (8 : Int) ∧
                        ∃ (x89 : Int),
                        w_10.cell? ⟨w_3.heap.size, 0 + x53_0.toNat * 1, none⟩ = some (.int .i64 x89) ∧
                        sel (decide ((0 : Int) < (x89 : Int))) (
                          (0 : Int) ≤ x58_0 ∧ x58_0 < (8 : Int) ∧
                          ∃ (x94 : Int),
                          w_10.cell? ⟨w_3.heap.size, 0 + x58_0.toNat * 1, none⟩ = some (.int .i64 x94) ∧
                          (0 : Int) ≤ x58_0 ∧ x58_0 < (8 : Int) ∧
                          ∃ (x99 : Int),
                          w_10.cell? ⟨w_3.heap.size, 0 + x58_0.toNat * 1, none⟩ = some (.int .i64 x99) ∧
                          let i100 : Int := IntKind.i64.wrap (x99 - 1);
                          (0 : Int) ≤ x58_0 ∧ x58_0 < (8 : Int) ∧
                          canStore w_10 w_3.heap.size (0 + x58_0.toNat * 1) 1 ∧
                          let w_11 : World := setCs w_10 w_3.heap.size (0 + x58_0.toNat * 1) [.int .i64 i100];
                          let i103 : Int := IntKind.i64.wrap (x8 - 1);
                          sel (decide ((0 : Int) < (x94 : Int))) (
                            Calls Try.prog 29 #[.pointer p16] w_11 fun e_7 w_12 =>
                            ∃ (x107_1 : Int),
                            e_7 = .returned (.int .i64 x107_1) ∧
                            let i27_2 : Int := IntKind.i64.wrap (x9 + 1);
                            ([.slice Aa1 na1 ca1, .pointer p16, .pointer (some ⟨w_3.heap.size, 0, none⟩)] : List Value) = ([.slice Aa1 na1 ca1, .pointer p16, .pointer (some ⟨w_3.heap.size, 0, none⟩)] : List Value) ∧ ∃ m, m < r ∧ I ((x107_1 : Int) == (i103 : Int)) i103 i27_2 w_12 m) (
                            let i27_3 : Int := IntKind.i64.wrap (x9 + 1);
                            ([.slice Aa1 na1 ca1, .pointer p16, .pointer (some ⟨w_3.heap.size, 0, none⟩)] : List Value) = ([.slice Aa1 na1 ca1, .pointer p16, .pointer (some ⟨w_3.heap.size, 0, none⟩)] : List Value) ∧ ∃ m, m < r ∧ I false i103 i27_3 w_11 m)) (
                          (0 : Int) ≤ x58_0 ∧ x58_0 < (8 : Int) ∧
                          ∃ (x99_1 : Int),
                          w_10.cell? ⟨w_3.heap.size, 0 + x58_0.toNat * 1, none⟩ = some (.int .i64 x99_1) ∧
                          let i100_1 : Int := IntKind.i64.wrap (x99_1 - 1);
                          (0 : Int) ≤ x58_0 ∧ x58_0 < (8 : Int) ∧
                          canStore w_10 w_3.heap.size (0 + x58_0.toNat * 1) 1 ∧
                          let w_13 : World := setCs w_10 w_3.heap.size (0 + x58_0.toNat * 1) [.int .i64 i100_1];
                          let i103_1 : Int := IntKind.i64.wrap (x8 - 1);
                          let i27_4 : Int := IntKind.i64.wrap (x9 + 1);
                          ([.slice Aa1 na1 ca1, .pointer p16, .pointer (some ⟨w_3.heap.size, 0, none⟩)] : List Value) = ([.slice Aa1 na1 ca1, .pointer p16, .pointer (some ⟨w_3.heap.size, 0, none⟩)] : List Value) ∧ ∃ m, m < r ∧ I false i103_1 i27_4 w_13 m)) (
                        sel b5 (
                          Calls Try.prog 29 #[.pointer p16] w_10 fun e_8 w_14 =>
                          ∃ (x107_2 : Int),
                          e_8 = .returned (.int .i64 x107_2) ∧
                          let i27_5 : Int := IntKind.i64.wrap (x9 + 1);
                          ([.slice Aa1 na1 ca1, .pointer p16, .pointer (some ⟨w_3.heap.size, 0, none⟩)] : List Value) = ([.slice Aa1 na1 ca1, .pointer p16, .pointer (some ⟨w_3.heap.size, 0, none⟩)] : List Value) ∧ ∃ m, m < r ∧ I ((x107_2 : Int) == (x8 : Int)) x8 i27_5 w_14 m) (
                          let i27_6 : Int := IntKind.i64.wrap (x9 + 1);
                          ([.slice Aa1 na1 ca1, .pointer p16, .pointer (some ⟨w_3.heap.size, 0, none⟩)] : List Value) = ([.slice Aa1 na1 ca1, .pointer p16, .pointer (some ⟨w_3.heap.size, 0, none⟩)] : List Value) ∧ ∃ m, m < r ∧ I false x8 i27_6 w_10 m)))))))))) (
        R (.bool b5) w_5)) (
      R (.bool b5) w_5))
theorem f6.eq (Aa0 : Option Addr) (na0 ca0 : Nat) (Aa1 : Option Addr) (na1 ca1 : Nat) (w : World) (R : Value → World → Prop) : f6.VC Aa0 na0 ca0 Aa1 na1 ca1 w R = funV Try.prog Try.f6 f6.AL f6.AC #[.slice Aa0 na0 ca0, .slice Aa1 na1 ca1] w R := by kernel_rfl
theorem f6.calls {Aa0 : Option Addr} {na0 ca0 : Nat} {Aa1 : Option Addr} {na1 ca1 : Nat} {w : World} {R : Value → World → Prop} (h : f6.VC Aa0 na0 ca0 Aa1 na1 ca1 w R) : Calls Try.prog 6 #[.slice Aa0 na0 ca0, .slice Aa1 na1 ca1] w fun e w' => ∃ v, e = .returned v ∧ R v w' :=
  funV_sound (fn := Try.f6) (AL := f6.AL) (AC := f6.AC) V5.mixed (by kernel_rfl) (by rw [← f6.eq Aa0 na0 ca0 Aa1 na1 ca1]; exact h)

end Go.Proofs.Ytebahglmdifmpaa
