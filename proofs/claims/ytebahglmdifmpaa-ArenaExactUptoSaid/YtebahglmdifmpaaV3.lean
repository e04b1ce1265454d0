/- The plain statements of some functions, printed by vcgen.py. -/
import Derived.Test.YtebahglmdifmpaaVcC
import Derived.Test.YtebahglmdifmpaaProg
import Derived.KernelRfl
set_option maxRecDepth 100000
set_option linter.unusedVariables false
namespace Go.Proofs.Ytebahglmdifmpaa
open Go Go.Proofs.Ytebahglmdifmpaa.Vc
theorem V3.mixed : Try.prog.follows .mixedOrders = true := by kernel_rfl
/-- (*gatehouse/arena.Heap[gatehouse/api.Block]).ahead -/
def f85.AL : Nat → Option Ann := fun _ => none
def f85.AC : Nat → Option Ann := fun r => match r with | 2 => some ⟨[(7, .blk), (8, .blk)], [0]⟩ | _ => none
def f85.VC (a0 : Nat) (xa1 : Int) (xa2 : Int) (w : World) (R : Value → World → Prop) : Prop :=
  ∃ M : Nat → Nat → Nat → Nat → World → Prop,
  (∃ (A12 : Option Addr) (n12 c12 : Nat),
    w.cell? ⟨a0, 1, none⟩ = some (.slice A12 n12 c12) ∧
    (0 : Int) ≤ xa1 ∧ xa1 < (n12 : Int) ∧
    needPtr A12 fun b14 o14 =>
    ∃ (x15_0 : Int),
    w.cell? ⟨b14, o14 + xa1.toNat * 4, none⟩ = some (.int .i64 x15_0) ∧
    ∃ (x15_1 : Int),
    w.cell? ⟨b14, o14 + xa1.toNat * 4 + 1, none⟩ = some (.int .i64 x15_1) ∧
    ∃ (b15_2 : Bool),
    w.cell? ⟨b14, o14 + xa1.toNat * 4 + 1 + 1, none⟩ = some (.bool b15_2) ∧
    ∃ (x15_3 : Int),
    w.cell? ⟨b14, o14 + xa1.toNat * 4 + 1 + 1 + 1, none⟩ = some (.int .i64 x15_3) ∧
    (∃ (A19 : Option Addr) (n19 c19 : Nat),
      w.cell? ⟨a0, 1, none⟩ = some (.slice A19 n19 c19) ∧
      (0 : Int) ≤ xa2 ∧ xa2 < (n19 : Int) ∧
      needPtr A19 fun b21 o21 =>
      (∃ (x22_0 : Int),
        w.cell? ⟨b21, o21 + xa2.toNat * 4, none⟩ = some (.int .i64 x22_0) ∧
        ∃ (x22_1 : Int),
        w.cell? ⟨b21, o21 + xa2.toNat * 4 + 1, none⟩ = some (.int .i64 x22_1) ∧
        ∃ (b22_2 : Bool),
        w.cell? ⟨b21, o21 + xa2.toNat * 4 + 1 + 1, none⟩ = some (.bool b22_2) ∧
        ∃ (x22_3 : Int),
        w.cell? ⟨b21, o21 + xa2.toNat * 4 + 1 + 1 + 1, none⟩ = some (.int .i64 x22_3) ∧
        (let w_1 : World := World.alloc w.drew (.cells #[.int .i64 0, .int .i64 0, .bool false, .int .i64 0] 163);
          let w_2 : World := World.alloc w_1 (.cells #[.int .i64 0, .int .i64 0, .bool false, .int .i64 0] 163);
          canStore w_2 w.heap.size 0 4 ∧
          let w_3 : World := setCs w_2 w.heap.size 0 [.int .i64 x15_0, .int .i64 x15_1, .bool b15_2, .int .i64 x15_3];
          canStore w_3 w_1.heap.size 0 4 ∧
          let w_4 : World := setCs w_3 w_1.heap.size 0 [.int .i64 x22_0, .int .i64 x22_1, .bool b22_2, .int .i64 x22_3];
          ([.pointer (some ⟨a0, 0, none⟩)] : List Value) = ([.pointer (some ⟨a0, 0, none⟩)] : List Value) ∧ M w.heap.size 0 w_1.heap.size 0 w_4) ∧
        (let w_5 : World := World.alloc w.drew (.cells #[.int .i64 0, .int .i64 0, .bool false, .int .i64 0] 163);
          let w_6 : World := World.alloc w_5 (.cells #[.int .i64 0, .int .i64 0, .bool false, .int .i64 0] 163);
          canStore w_6 w_5.heap.size 0 4 ∧
          let w_7 : World := setCs w_6 w_5.heap.size 0 [.int .i64 x15_0, .int .i64 x15_1, .bool b15_2, .int .i64 x15_3];
          canStore w_7 w.heap.size 0 4 ∧
          let w_8 : World := setCs w_7 w.heap.size 0 [.int .i64 x22_0, .int .i64 x22_1, .bool b22_2, .int .i64 x22_3];
          ([.pointer (some ⟨a0, 0, none⟩)] : List Value) = ([.pointer (some ⟨a0, 0, none⟩)] : List Value) ∧ M w_5.heap.size 0 w.heap.size 0 w_8) ∧ True) ∧
      (let w_9 : World := World.alloc w.drew (.cells #[.int .i64 0, .int .i64 0, .bool false, .int .i64 0] 163);
        (∃ (x22_0_1 : Int),
          w_9.cell? ⟨b21, o21 + xa2.toNat * 4, none⟩ = some (.int .i64 x22_0_1) ∧
          ∃ (x22_1_1 : Int),
          w_9.cell? ⟨b21, o21 + xa2.toNat * 4 + 1, none⟩ = some (.int .i64 x22_1_1) ∧
          ∃ (b22_2_1 : Bool),
          w_9.cell? ⟨b21, o21 + xa2.toNat * 4 + 1 + 1, none⟩ = some (.bool b22_2_1) ∧
          ∃ (x22_3_1 : Int),
          w_9.cell? ⟨b21, o21 + xa2.toNat * 4 + 1 + 1 + 1, none⟩ = some (.int .i64 x22_3_1) ∧
          let w_10 : World := World.alloc w_9 (.cells #[.int .i64 0, .int .i64 0, .bool false, .int .i64 0] 163);
          canStore w_10 w.heap.size 0 4 ∧
          let w_11 : World := setCs w_10 w.heap.size 0 [.int .i64 x15_0, .int .i64 x15_1, .bool b15_2, .int .i64 x15_3];
          canStore w_11 w_9.heap.size 0 4 ∧
          let w_12 : World := setCs w_11 w_9.heap.size 0 [.int .i64 x22_0_1, .int .i64 x22_1_1, .bool b22_2_1, .int .i64 x22_3_1];
          ([.pointer (some ⟨a0, 0, none⟩)] : List Value) = ([.pointer (some ⟨a0, 0, none⟩)] : List Value) ∧ M w.heap.size 0 w_9.heap.size 0 w_12) ∧
        (let w_13 : World := World.alloc w_9 (.cells #[.int .i64 0, .int .i64 0, .bool false, .int .i64 0] 163);
          (∃ (x22_0_2 : Int),
            w_13.cell? ⟨b21, o21 + xa2.toNat * 4, none⟩ = some (.int .i64 x22_0_2) ∧
            ∃ (x22_1_2 : Int),
            w_13.cell? ⟨b21, o21 + xa2.toNat * 4 + 1, none⟩ = some (.int .i64 x22_1_2) ∧
            ∃ (b22_2_2 : Bool),
            w_13.cell? ⟨b21, o21 + xa2.toNat * 4 + 1 + 1, none⟩ = some (.bool b22_2_2) ∧
            ∃ (x22_3_2 : Int),
            w_13.cell? ⟨b21, o21 + xa2.toNat * 4 + 1 + 1 + 1, none⟩ = some (.int .i64 x22_3_2) ∧
            canStore w_13 w.heap.size 0 4 ∧
            let w_14 : World := setCs w_13 w.heap.size 0 [.int .i64 x15_0, .int .i64 x15_1, .bool b15_2, .int .i64 x15_3];
            canStore w_14 w_9.heap.size 0 4 ∧
            let w_15 : World := setCs w_14 w_9.heap.size 0 [.int .i64 x22_0_2, .int .i64 x22_1_2, .bool b22_2_2, .int .i64 x22_3_2];
            ([.pointer (some ⟨a0, 0, none⟩)] : List Value) = ([.pointer (some ⟨a0, 0, none⟩)] : List Value) ∧ M w.heap.size 0 w_9.heap.size 0 w_15) ∧
          (canStore w_13 w.heap.size 0 4 ∧
            let w_16 : World := setCs w_13 w.heap.size 0 [.int .i64 x15_0, .int .i64 x15_1, .bool b15_2, .int .i64 x15_3];
            ∃ (x22_0_3 : Int),
            w_16.cell? ⟨b21, o21 + xa2.toNat * 4, none⟩ = some (.int .i64 x22_0_3) ∧
            ∃ (x22_1_3 : Int),
            w_16.cell? ⟨b21, o21 + xa2.toNat * 4 + 1, none⟩ = some (.int .i64 x22_1_3) ∧
            ∃ (b22_2_3 : Bool),
            w_16.cell? ⟨b21, o21 + xa2.toNat * 4 + 1 + 1, none⟩ = some (.bool b22_2_3) ∧
            ∃ (x22_3_3 : Int),
            w_16.cell? ⟨b21, o21 + xa2.toNat * 4 + 1 + 1 + 1, none⟩ = some (.int .i64 x22_3_3) ∧
            canStore w_16 w_9.heap.size 0 4 ∧
            let w_17 : World := setCs w_16 w_9.heap.size 0 [.int .i64 x22_0_3, .int .i64 x22_1_3, .bool b22_2_3, .int .i64 x22_3_3];
            ([.pointer (some ⟨a0, 0, none⟩)] : List Value) = ([.pointer (some ⟨a0, 0, none⟩)] : List Value) ∧ M w.heap.size 0 w_9.heap.size 0 w_17) ∧ True) ∧ True) ∧
      (let w_18 : World := World.alloc w.drew (.cells #[.int .i64 0, .int .i64 0, .bool false, .int .i64 0] 163);
        (∃ (x22_0_4 : Int),
          w_18.cell? ⟨b21, o21 + xa2.toNat * 4, none⟩ = some (.int .i64 x22_0_4) ∧
          ∃ (x22_1_4 : Int),
          w_18.cell? ⟨b21, o21 + xa2.toNat * 4 + 1, none⟩ = some (.int .i64 x22_1_4) ∧
          ∃ (b22_2_4 : Bool),
          w_18.cell? ⟨b21, o21 + xa2.toNat * 4 + 1 + 1, none⟩ = some (.bool b22_2_4) ∧
          ∃ (x22_3_4 : Int),
          w_18.cell? ⟨b21, o21 + xa2.toNat * 4 + 1 + 1 + 1, none⟩ = some (.int .i64 x22_3_4) ∧
          let w_19 : World := World.alloc w_18 (.cells #[.int .i64 0, .int .i64 0, .bool false, .int .i64 0] 163);
          canStore w_19 w_18.heap.size 0 4 ∧
          let w_20 : World := setCs w_19 w_18.heap.size 0 [.int .i64 x15_0, .int .i64 x15_1, .bool b15_2, .int .i64 x15_3];
          canStore w_20 w.heap.size 0 4 ∧
          let w_21 : World := setCs w_20 w.heap.size 0 [.int .i64 x22_0_4, .int .i64 x22_1_4, .bool b22_2_4, .int .i64 x22_3_4];
          ([.pointer (some ⟨a0, 0, none⟩)] : List Value) = ([.pointer (some ⟨a0, 0, none⟩)] : List Value) ∧ M w_18.heap.size 0 w.heap.size 0 w_21) ∧
        (let w_22 : World := World.alloc w_18 (.cells #[.int .i64 0, .int .i64 0, .bool false, .int .i64 0] 163);
          (∃ (x22_0_5 : Int),
            w_22.cell? ⟨b21, o21 + xa2.toNat * 4, none⟩ = some (.int .i64 x22_0_5) ∧
            ∃ (x22_1_5 : Int),
            w_22.cell? ⟨b21, o21 + xa2.toNat * 4 + 1, none⟩ = some (.int .i64 x22_1_5) ∧
            ∃ (b22_2_5 : Bool),
            w_22.cell? ⟨b21, o21 + xa2.toNat * 4 + 1 + 1, none⟩ = some (.bool b22_2_5) ∧
            ∃ (x22_3_5 : Int),
            w_22.cell? ⟨b21, o21 + xa2.toNat * 4 + 1 + 1 + 1, none⟩ = some (.int .i64 x22_3_5) ∧
            canStore w_22 w_18.heap.size 0 4 ∧
            let w_23 : World := setCs w_22 w_18.heap.size 0 [.int .i64 x15_0, .int .i64 x15_1, .bool b15_2, .int .i64 x15_3];
            canStore w_23 w.heap.size 0 4 ∧
            let w_24 : World := setCs w_23 w.heap.size 0 [.int .i64 x22_0_5, .int .i64 x22_1_5, .bool b22_2_5, .int .i64 x22_3_5];
            ([.pointer (some ⟨a0, 0, none⟩)] : List Value) = ([.pointer (some ⟨a0, 0, none⟩)] : List Value) ∧ M w_18.heap.size 0 w.heap.size 0 w_24) ∧
          (canStore w_22 w_18.heap.size 0 4 ∧
            let w_25 : World := setCs w_22 w_18.heap.size 0 [.int .i64 x15_0, .int .i64 x15_1, .bool b15_2, .int .i64 x15_3];
            ∃ (x22_0_6 : Int),
            w_25.cell? ⟨b21, o21 + xa2.toNat * 4, none⟩ = some (.int .i64 x22_0_6) ∧
            ∃ (x22_1_6 : Int),
            w_25.cell? ⟨b21, o21 + xa2.toNat * 4 + 1, none⟩ = some (.int .i64 x22_1_6) ∧
            ∃ (b22_2_6 : Bool),
            w_25.cell? ⟨b21, o21 + xa2.toNat * 4 + 1 + 1, none⟩ = some (.bool b22_2_6) ∧
            ∃ (x22_3_6 : Int),
            w_25.cell? ⟨b21, o21 + xa2.toNat * 4 + 1 + 1 + 1, none⟩ = some (.int .i64 x22_3_6) ∧
            canStore w_25 w.heap.size 0 4 ∧
            let w_26 : World := setCs w_25 w.heap.size 0 [.int .i64 x22_0_6, .int .i64 x22_1_6, .bool b22_2_6, .int .i64 x22_3_6];
            ([.pointer (some ⟨a0, 0, none⟩)] : List Value) = ([.pointer (some ⟨a0, 0, none⟩)] : List Value) ∧ M w_18.heap.size 0 w.heap.size 0 w_26) ∧ True) ∧ True) ∧ True) ∧
    (let w_27 : World := World.alloc w.drew (.cells #[.int .i64 0, .int .i64 0, .bool false, .int .i64 0] 163);
      (∃ (A19_1 : Option Addr) (n19_1 c19_1 : Nat),
        w_27.cell? ⟨a0, 1, none⟩ = some (.slice A19_1 n19_1 c19_1) ∧
        (0 : Int) ≤ xa2 ∧ xa2 < (n19_1 : Int) ∧
        needPtr A19_1 fun b21_1 o21_1 =>
        (∃ (x22_0_7 : Int),
          w_27.cell? ⟨b21_1, o21_1 + xa2.toNat * 4, none⟩ = some (.int .i64 x22_0_7) ∧
          ∃ (x22_1_7 : Int),
          w_27.cell? ⟨b21_1, o21_1 + xa2.toNat * 4 + 1, none⟩ = some (.int .i64 x22_1_7) ∧
          ∃ (b22_2_7 : Bool),
          w_27.cell? ⟨b21_1, o21_1 + xa2.toNat * 4 + 1 + 1, none⟩ = some (.bool b22_2_7) ∧
          ∃ (x22_3_7 : Int),
          w_27.cell? ⟨b21_1, o21_1 + xa2.toNat * 4 + 1 + 1 + 1, none⟩ = some (.int .i64 x22_3_7) ∧
          let w_28 : World := World.alloc w_27 (.cells #[.int .i64 0, .int .i64 0, .bool false, .int .i64 0] 163);
          canStore w_28 w.heap.size 0 4 ∧
          let w_29 : World := setCs w_28 w.heap.size 0 [.int .i64 x15_0, .int .i64 x15_1, .bool b15_2, .int .i64 x15_3];
          canStore w_29 w_27.heap.size 0 4 ∧
          let w_30 : World := setCs w_29 w_27.heap.size 0 [.int .i64 x22_0_7, .int .i64 x22_1_7, .bool b22_2_7, .int .i64 x22_3_7];
          ([.pointer (some ⟨a0, 0, none⟩)] : List Value) = ([.pointer (some ⟨a0, 0, none⟩)] : List Value) ∧ M w.heap.size 0 w_27.heap.size 0 w_30) ∧
        (let w_31 : World := World.alloc w_27 (.cells #[.int .i64 0, .int .i64 0, .bool false, .int .i64 0] 163);
          (∃ (x22_0_8 : Int),
            w_31.cell? ⟨b21_1, o21_1 + xa2.toNat * 4, none⟩ = some (.int .i64 x22_0_8) ∧
            ∃ (x22_1_8 : Int),
            w_31.cell? ⟨b21_1, o21_1 + xa2.toNat * 4 + 1, none⟩ = some (.int .i64 x22_1_8) ∧
            ∃ (b22_2_8 : Bool),
            w_31.cell? ⟨b21_1, o21_1 + xa2.toNat * 4 + 1 + 1, none⟩ = some (.bool b22_2_8) ∧
            ∃ (x22_3_8 : Int),
            w_31.cell? ⟨b21_1, o21_1 + xa2.toNat * 4 + 1 + 1 + 1, none⟩ = some (.int .i64 x22_3_8) ∧
            canStore w_31 w.heap.size 0 4 ∧
            let w_32 : World := setCs w_31 w.heap.size 0 [.int .i64 x15_0, .int .i64 x15_1, .bool b15_2, .int .i64 x15_3];
            canStore w_32 w_27.heap.size 0 4 ∧
            let w_33 : World := setCs w_32 w_27.heap.size 0 [.int .i64 x22_0_8, .int .i64 x22_1_8, .bool b22_2_8, .int .i64 x22_3_8];
            ([.pointer (some ⟨a0, 0, none⟩)] : List Value) = ([.pointer (some ⟨a0, 0, none⟩)] : List Value) ∧ M w.heap.size 0 w_27.heap.size 0 w_33) ∧
          (canStore w_31 w.heap.size 0 4 ∧
            let w_34 : World := setCs w_31 w.heap.size 0 [.int .i64 x15_0, .int .i64 x15_1, .bool b15_2, .int .i64 x15_3];
            ∃ (x22_0_9 : Int),
            w_34.cell? ⟨b21_1, o21_1 + xa2.toNat * 4, none⟩ = some (.int .i64 x22_0_9) ∧
            ∃ (x22_1_9 : Int),
            w_34.cell? ⟨b21_1, o21_1 + xa2.toNat * 4 + 1, none⟩ = some (.int .i64 x22_1_9) ∧
            ∃ (b22_2_9 : Bool),
            w_34.cell? ⟨b21_1, o21_1 + xa2.toNat * 4 + 1 + 1, none⟩ = some (.bool b22_2_9) ∧
            ∃ (x22_3_9 : Int),
            w_34.cell? ⟨b21_1, o21_1 + xa2.toNat * 4 + 1 + 1 + 1, none⟩ = some (.int .i64 x22_3_9) ∧
            canStore w_34 w_27.heap.size 0 4 ∧
            let w_35 : World := setCs w_34 w_27.heap.size 0 [.int .i64 x22_0_9, .int .i64 x22_1_9, .bool b22_2_9, .int .i64 x22_3_9];
            ([.pointer (some ⟨a0, 0, none⟩)] : List Value) = ([.pointer (some ⟨a0, 0, none⟩)] : List Value) ∧ M w.heap.size 0 w_27.heap.size 0 w_35) ∧ True) ∧ True) ∧
      (let w_36 : World := World.alloc w_27 (.cells #[.int .i64 0, .int .i64 0, .bool false, .int .i64 0] 163);
        (∃ (A19_2 : Option Addr) (n19_2 c19_2 : Nat),
          w_36.cell? ⟨a0, 1, none⟩ = some (.slice A19_2 n19_2 c19_2) ∧
          (0 : Int) ≤ xa2 ∧ xa2 < (n19_2 : Int) ∧
          needPtr A19_2 fun b21_2 o21_2 =>
          (∃ (x22_0_10 : Int),
            w_36.cell? ⟨b21_2, o21_2 + xa2.toNat * 4, none⟩ = some (.int .i64 x22_0_10) ∧
            ∃ (x22_1_10 : Int),
            w_36.cell? ⟨b21_2, o21_2 + xa2.toNat * 4 + 1, none⟩ = some (.int .i64 x22_1_10) ∧
            ∃ (b22_2_10 : Bool),
            w_36.cell? ⟨b21_2, o21_2 + xa2.toNat * 4 + 1 + 1, none⟩ = some (.bool b22_2_10) ∧
            ∃ (x22_3_10 : Int),
            w_36.cell? ⟨b21_2, o21_2 + xa2.toNat * 4 + 1 + 1 + 1, none⟩ = some (.int .i64 x22_3_10) ∧
            canStore w_36 w.heap.size 0 4 ∧
            let w_37 : World := setCs w_36 w.heap.size 0 [.int .i64 x15_0, .int .i64 x15_1, .bool b15_2, .int .i64 x15_3];
            canStore w_37 w_27.heap.size 0 4 ∧
            let w_38 : World := setCs w_37 w_27.heap.size 0 [.int .i64 x22_0_10, .int .i64 x22_1_10, .bool b22_2_10, .int .i64 x22_3_10];
            ([.pointer (some ⟨a0, 0, none⟩)] : List Value) = ([.pointer (some ⟨a0, 0, none⟩)] : List Value) ∧ M w.heap.size 0 w_27.heap.size 0 w_38) ∧
          (canStore w_36 w.heap.size 0 4 ∧
            let w_39 : World := setCs w_36 w.heap.size 0 [.int .i64 x15_0, .int .i64 x15_1, .bool b15_2, .int .i64 x15_3];
            ∃ (x22_0_11 : Int),
            w_39.cell? ⟨b21_2, o21_2 + xa2.toNat * 4, none⟩ = some (.int .i64 x22_0_11) ∧
            ∃ (x22_1_11 : Int),
            w_39.cell? ⟨b21_2, o21_2 + xa2.toNat * 4 + 1, none⟩ = some (.int .i64 x22_1_11) ∧
            ∃ (b22_2_11 : Bool),
            w_39.cell? ⟨b21_2, o21_2 + xa2.toNat * 4 + 1 + 1, none⟩ = some (.bool b22_2_11) ∧
            ∃ (x22_3_11 : Int),
            w_39.cell? ⟨b21_2, o21_2 + xa2.toNat * 4 + 1 + 1 + 1, none⟩ = some (.int .i64 x22_3_11) ∧
            canStore w_39 w_27.heap.size 0 4 ∧
            let w_40 : World := setCs w_39 w_27.heap.size 0 [.int .i64 x22_0_11, .int .i64 x22_1_11, .bool b22_2_11, .int .i64 x22_3_11];
            ([.pointer (some ⟨a0, 0, none⟩)] : List Value) = ([.pointer (some ⟨a0, 0, none⟩)] : List Value) ∧ M w.heap.size 0 w_27.heap.size 0 w_40) ∧ True) ∧
        (canStore w_36 w.heap.size 0 4 ∧
          let w_41 : World := setCs w_36 w.heap.size 0 [.int .i64 x15_0, .int .i64 x15_1, .bool b15_2, .int .i64 x15_3];
          ∃ (A19_3 : Option Addr) (n19_3 c19_3 : Nat),
          w_41.cell? ⟨a0, 1, none⟩ = some (.slice A19_3 n19_3 c19_3) ∧
          (0 : Int) ≤ xa2 ∧ xa2 < (n19_3 : Int) ∧
          needPtr A19_3 fun b21_3 o21_3 =>
          ∃ (x22_0_12 : Int),
          w_41.cell? ⟨b21_3, o21_3 + xa2.toNat * 4, none⟩ = some (.int .i64 x22_0_12) ∧
          ∃ (x22_1_12 : Int),
          w_41.cell? ⟨b21_3, o21_3 + xa2.toNat * 4 + 1, none⟩ = some (.int .i64 x22_1_12) ∧
          ∃ (b22_2_12 : Bool),
          w_41.cell? ⟨b21_3, o21_3 + xa2.toNat * 4 + 1 + 1, none⟩ = some (.bool b22_2_12) ∧
          ∃ (x22_3_12 : Int),
          w_41.cell? ⟨b21_3, o21_3 + xa2.toNat * 4 + 1 + 1 + 1, none⟩ = some (.int .i64 x22_3_12) ∧
          canStore w_41 w_27.heap.size 0 4 ∧
          let w_42 : World := setCs w_41 w_27.heap.size 0 [.int .i64 x22_0_12, .int .i64 x22_1_12, .bool b22_2_12, .int .i64 x22_3_12];
          ([.pointer (some ⟨a0, 0, none⟩)] : List Value) = ([.pointer (some ⟨a0, 0, none⟩)] : List Value) ∧ M w.heap.size 0 w_27.heap.size 0 w_42) ∧ True) ∧ True) ∧
    (let w_43 : World := World.alloc w.drew (.cells #[.int .i64 0, .int .i64 0, .bool false, .int .i64 0] 163);
      (∃ (A19_4 : Option Addr) (n19_4 c19_4 : Nat),
        w_43.cell? ⟨a0, 1, none⟩ = some (.slice A19_4 n19_4 c19_4) ∧
        (0 : Int) ≤ xa2 ∧ xa2 < (n19_4 : Int) ∧
        needPtr A19_4 fun b21_4 o21_4 =>
        (∃ (x22_0_13 : Int),
          w_43.cell? ⟨b21_4, o21_4 + xa2.toNat * 4, none⟩ = some (.int .i64 x22_0_13) ∧
          ∃ (x22_1_13 : Int),
          w_43.cell? ⟨b21_4, o21_4 + xa2.toNat * 4 + 1, none⟩ = some (.int .i64 x22_1_13) ∧
          ∃ (b22_2_13 : Bool),
          w_43.cell? ⟨b21_4, o21_4 + xa2.toNat * 4 + 1 + 1, none⟩ = some (.bool b22_2_13) ∧
          ∃ (x22_3_13 : Int),
          w_43.cell? ⟨b21_4, o21_4 + xa2.toNat * 4 + 1 + 1 + 1, none⟩ = some (.int .i64 x22_3_13) ∧
          let w_44 : World := World.alloc w_43 (.cells #[.int .i64 0, .int .i64 0, .bool false, .int .i64 0] 163);
          canStore w_44 w_43.heap.size 0 4 ∧
          let w_45 : World := setCs w_44 w_43.heap.size 0 [.int .i64 x15_0, .int .i64 x15_1, .bool b15_2, .int .i64 x15_3];
          canStore w_45 w.heap.size 0 4 ∧
          let w_46 : World := setCs w_45 w.heap.size 0 [.int .i64 x22_0_13, .int .i64 x22_1_13, .bool b22_2_13, .int .i64 x22_3_13];
          ([.pointer (some ⟨a0, 0, none⟩)] : List Value) = ([.pointer (some ⟨a0, 0, none⟩)] : List Value) ∧ M w_43.heap.size 0 w.heap.size 0 w_46) ∧
        (let w_47 : World := World.alloc w_43 (.cells #[.int .i64 0, .int .i64 0, .bool false, .int .i64 0] 163);
          (∃ (x22_0_14 : Int),
            w_47.cell? ⟨b21_4, o21_4 + xa2.toNat * 4, none⟩ = some (.int .i64 x22_0_14) ∧
            ∃ (x22_1_14 : Int),
            w_47.cell? ⟨b21_4, o21_4 + xa2.toNat * 4 + 1, none⟩ = some (.int .i64 x22_1_14) ∧
            ∃ (b22_2_14 : Bool),
            w_47.cell? ⟨b21_4, o21_4 + xa2.toNat * 4 + 1 + 1, none⟩ = some (.bool b22_2_14) ∧
            ∃ (x22_3_14 : Int),
            w_47.cell? ⟨b21_4, o21_4 + xa2.toNat * 4 + 1 + 1 + 1, none⟩ = some (.int .i64 x22_3_14) ∧
            canStore w_47 w_43.heap.size 0 4 ∧
            let w_48 : World := setCs w_47 w_43.heap.size 0 [.int .i64 x15_0, .int .i64 x15_1, .bool b15_2, .int .i64 x15_3];
            canStore w_48 w.heap.size 0 4 ∧
            let w_49 : World := setCs w_48 w.heap.size 0 [.int .i64 x22_0_14, .int .i64 x22_1_14, .bool b22_2_14, .int .i64 x22_3_14];
            ([.pointer (some ⟨a0, 0, none⟩)] : List Value) = ([.pointer (some ⟨a0, 0, none⟩)] : List Value) ∧ M w_43.heap.size 0 w.heap.size 0 w_49) ∧
          (canStore w_47 w_43.heap.size 0 4 ∧
            let w_50 : World := setCs w_47 w_43.heap.size 0 [.int .i64 x15_0, .int .i64 x15_1, .bool b15_2, .int .i64 x15_3];
            ∃ (x22_0_15 : Int),
            w_50.cell? ⟨b21_4, o21_4 + xa2.toNat * 4, none⟩ = some (.int .i64 x22_0_15) ∧
            ∃ (x22_1_15 : Int),
            w_50.cell? ⟨b21_4, o21_4 + xa2.toNat * 4 + 1, none⟩ = some (.int .i64 x22_1_15) ∧
            ∃ (b22_2_15 : Bool),
            w_50.cell? ⟨b21_4, o21_4 + xa2.toNat * 4 + 1 + 1, none⟩ = some (.bool b22_2_15) ∧
            ∃ (x22_3_15 : Int),
            w_50.cell? ⟨b21_4, o21_4 + xa2.toNat * 4 + 1 + 1 + 1, none⟩ = some (.int .i64 x22_3_15) ∧
            canStore w_50 w.heap.size 0 4 ∧
            let w_51 : World := setCs w_50 w.heap.size 0 [.int .i64 x22_0_15, .int .i64 x22_1_15, .bool b22_2_15, .int .i64 x22_3_15];
            ([.pointer (some ⟨a0, 0, none⟩)] : List Value) = ([.pointer (some ⟨a0, 0, none⟩)] : List Value) ∧ M w_43.heap.size 0 w.heap.size 0 w_51) ∧ True) ∧ True) ∧
      (let w_52 : World := World.alloc w_43 (.cells #[.int .i64 0, .int .i64 0, .bool false, .int .i64 0] 163);
        (∃ (A19_5 : Option Addr) (n19_5 c19_5 : Nat),
          w_52.cell? ⟨a0, 1, none⟩ = some (.slice A19_5 n19_5 c19_5) ∧
          (0 : Int) ≤ xa2 ∧ xa2 < (n19_5 : Int) ∧
          needPtr A19_5 fun b21_5 o21_5 =>
          (∃ (x22_0_16 : Int),
            w_52.cell? ⟨b21_5, o21_5 + xa2.toNat * 4, none⟩ = some (.int .i64 x22_0_16) ∧
            ∃ (x22_1_16 : Int),
            w_52.cell? ⟨b21_5, o21_5 + xa2.toNat * 4 + 1, none⟩ = some (.int .i64 x22_1_16) ∧
            ∃ (b22_2_16 : Bool),
            w_52.cell? ⟨b21_5, o21_5 + xa2.toNat * 4 + 1 + 1, none⟩ = some (.bool b22_2_16) ∧
            ∃ (x22_3_16 : Int),
            w_52.cell? ⟨b21_5, o21_5 + xa2.toNat * 4 + 1 + 1 + 1, none⟩ = some (.int .i64 x22_3_16) ∧
            canStore w_52 w_43.heap.size 0 4 ∧
            let w_53 : World := setCs w_52 w_43.heap.size 0 [.int .i64 x15_0, .int .i64 x15_1, .bool b15_2, .int .i64 x15_3];
            canStore w_53 w.heap.size 0 4 ∧
            let w_54 : World := setCs w_53 w.heap.size 0 [.int .i64 x22_0_16, .int .i64 x22_1_16, .bool b22_2_16, .int .i64 x22_3_16];
            ([.pointer (some ⟨a0, 0, none⟩)] : List Value) = ([.pointer (some ⟨a0, 0, none⟩)] : List Value) ∧ M w_43.heap.size 0 w.heap.size 0 w_54) ∧
          (canStore w_52 w_43.heap.size 0 4 ∧
            let w_55 : World := setCs w_52 w_43.heap.size 0 [.int .i64 x15_0, .int .i64 x15_1, .bool b15_2, .int .i64 x15_3];
            ∃ (x22_0_17 : Int),
            w_55.cell? ⟨b21_5, o21_5 + xa2.toNat * 4, none⟩ = some (.int .i64 x22_0_17) ∧
            ∃ (x22_1_17 : Int),
            w_55.cell? ⟨b21_5, o21_5 + xa2.toNat * 4 + 1, none⟩ = some (.int .i64 x22_1_17) ∧
            ∃ (b22_2_17 : Bool),
            w_55.cell? ⟨b21_5, o21_5 + xa2.toNat * 4 + 1 + 1, none⟩ = some (.bool b22_2_17) ∧
            ∃ (x22_3_17 : Int),
            w_55.cell? ⟨b21_5, o21_5 + xa2.toNat * 4 + 1 + 1 + 1, none⟩ = some (.int .i64 x22_3_17) ∧
            canStore w_55 w.heap.size 0 4 ∧
            let w_56 : World := setCs w_55 w.heap.size 0 [.int .i64 x22_0_17, .int .i64 x22_1_17, .bool b22_2_17, .int .i64 x22_3_17];
            ([.pointer (some ⟨a0, 0, none⟩)] : List Value) = ([.pointer (some ⟨a0, 0, none⟩)] : List Value) ∧ M w_43.heap.size 0 w.heap.size 0 w_56) ∧ True) ∧
        (canStore w_52 w_43.heap.size 0 4 ∧
          let w_57 : World := setCs w_52 w_43.heap.size 0 [.int .i64 x15_0, .int .i64 x15_1, .bool b15_2, .int .i64 x15_3];
          ∃ (A19_6 : Option Addr) (n19_6 c19_6 : Nat),
          w_57.cell? ⟨a0, 1, none⟩ = some (.slice A19_6 n19_6 c19_6) ∧
          (0 : Int) ≤ xa2 ∧ xa2 < (n19_6 : Int) ∧
          needPtr A19_6 fun b21_6 o21_6 =>
          ∃ (x22_0_18 : Int),
          w_57.cell? ⟨b21_6, o21_6 + xa2.toNat * 4, none⟩ = some (.int .i64 x22_0_18) ∧
          ∃ (x22_1_18 : Int),
          w_57.cell? ⟨b21_6, o21_6 + xa2.toNat * 4 + 1, none⟩ = some (.int .i64 x22_1_18) ∧
          ∃ (b22_2_18 : Bool),
          w_57.cell? ⟨b21_6, o21_6 + xa2.toNat * 4 + 1 + 1, none⟩ = some (.bool b22_2_18) ∧
          ∃ (x22_3_18 : Int),
          w_57.cell? ⟨b21_6, o21_6 + xa2.toNat * 4 + 1 + 1 + 1, none⟩ = some (.int .i64 x22_3_18) ∧
          canStore w_57 w.heap.size 0 4 ∧
          let w_58 : World := setCs w_57 w.heap.size 0 [.int .i64 x22_0_18, .int .i64 x22_1_18, .bool b22_2_18, .int .i64 x22_3_18];
          ([.pointer (some ⟨a0, 0, none⟩)] : List Value) = ([.pointer (some ⟨a0, 0, none⟩)] : List Value) ∧ M w_43.heap.size 0 w.heap.size 0 w_58) ∧ True) ∧ True) ∧ True) ∧
  ∀ d : Env, ∀ (b7 o7 : Nat) (b8 o8 : Nat) (w_59 : World), M b7 o7 b8 o8 w_59 →
  ∃ (v26 : Value),
  w_59.cell? ⟨a0, 0, none⟩ = some v26 ∧
  ∃ (x28_0 : Int),
  w_59.cell? ⟨b7, o7, none⟩ = some (.int .i64 x28_0) ∧
  ∃ (x28_1 : Int),
  w_59.cell? ⟨b7, o7 + 1, none⟩ = some (.int .i64 x28_1) ∧
  ∃ (b28_2 : Bool),
  w_59.cell? ⟨b7, o7 + 1 + 1, none⟩ = some (.bool b28_2) ∧
  ∃ (x30_0 : Int),
  w_59.cell? ⟨b8, o8, none⟩ = some (.int .i64 x30_0) ∧
  ∃ (x30_1 : Int),
  w_59.cell? ⟨b8, o8 + 1, none⟩ = some (.int .i64 x30_1) ∧
  ∃ (b30_2 : Bool),
  w_59.cell? ⟨b8, o8 + 1 + 1, none⟩ = some (.bool b30_2) ∧
  callT Try.prog v26 #[.agg #[.int .i64 x28_0, .int .i64 x28_1, .bool b28_2], .agg #[.int .i64 x30_0, .int .i64 x30_1, .bool b30_2]] w_59.drew fun e_1 w_60 =>
  ∃ (b31 : Bool),
  e_1 = .returned (.bool b31) ∧
  sel b31 (
    R (.bool true) w_60) (
    ∃ (v35 : Value),
    w_60.cell? ⟨a0, 0, none⟩ = some v35 ∧
    ∃ (x37_0 : Int),
    w_60.cell? ⟨b8, o8, none⟩ = some (.int .i64 x37_0) ∧
    ∃ (x37_1 : Int),
    w_60.cell? ⟨b8, o8 + 1, none⟩ = some (.int .i64 x37_1) ∧
    ∃ (b37_2 : Bool),
    w_60.cell? ⟨b8, o8 + 1 + 1, none⟩ = some (.bool b37_2) ∧
    ∃ (x39_0 : Int),
    w_60.cell? ⟨b7, o7, none⟩ = some (.int .i64 x39_0) ∧
    ∃ (x39_1 : Int),
    w_60.cell? ⟨b7, o7 + 1, none⟩ = some (.int .i64 x39_1) ∧
    ∃ (b39_2 : Bool),
    w_60.cell? ⟨b7, o7 + 1 + 1, none⟩ = some (.bool b39_2) ∧
    callT Try.prog v35 #[.agg #[.int .i64 x37_0, .int .i64 x37_1, .bool b37_2], .agg #[.int .i64 x39_0, .int .i64 x39_1, .bool b39_2]] w_60.drew fun e_2 w_61 =>
    ∃ (b40 : Bool),
    e_2 = .returned (.bool b40) ∧
    sel (!b40) (
      ∃ (x44 : Int),
      w_61.cell? ⟨b7, o7 + 3, none⟩ = some (.int .i64 x44) ∧
      ∃ (x46 : Int),
      w_61.cell? ⟨b8, o8 + 3, none⟩ = some (.int .i64 x46) ∧
      R (.bool (decide ((x44 : Int) < (x46 : Int)))) w_61) (
      R (.bool false) w_61))
theorem f85.eq (a0 : Nat) (xa1 : Int) (xa2 : Int) (w : World) (R : Value → World → Prop) : f85.VC a0 xa1 xa2 w R = funV Try.prog Try.f85 f85.AL f85.AC #[.pointer (some ⟨a0, 0, none⟩), .int .i64 xa1, .int .i64 xa2] w R := by kernel_rfl
theorem f85.calls {a0 : Nat} {xa1 : Int} {xa2 : Int} {w : World} {R : Value → World → Prop} (h : f85.VC a0 xa1 xa2 w R) : Calls Try.prog 85 #[.pointer (some ⟨a0, 0, none⟩), .int .i64 xa1, .int .i64 xa2] w fun e w' => ∃ v, e = .returned v ∧ R v w' :=
  funV_sound (fn := Try.f85) (AL := f85.AL) (AC := f85.AC) V3.mixed (by kernel_rfl) (by rw [← f85.eq a0 xa1 xa2]; exact h)

/-- (*gatehouse/arena.Heap[gatehouse/api.Block]).Push -/
def f70.AL : Nat → Option Ann := fun r => match r with | 4 => some ⟨[(4, .int .i64)], [0]⟩ | _ => none
def f70.AC : Nat → Option Ann := fun r => match r with | 2 => some ⟨[], [0]⟩ | _ => none
def f70.VC (a0 : Nat) (xa1_0 : Int) (xa1_1 : Int) (ba1_2 : Bool) (w : World) (R : Value → World → Prop) : Prop :=
  let w_1 : World := World.alloc w (.cells #[.int .i64 xa1_0, .int .i64 xa1_1, .bool ba1_2] 96);
  ∃ M : World → Prop,
  (∃ (A10 : Option Addr) (n10 c10 : Nat),
    w_1.cell? ⟨a0, 1, none⟩ = some (.slice A10 n10 c10) ∧
    ∃ (x11_0 : Int),
    w_1.cell? ⟨w.heap.size, 0, none⟩ = some (.int .i64 x11_0) ∧
    ∃ (x11_1 : Int),
    w_1.cell? ⟨w.heap.size, 1, none⟩ = some (.int .i64 x11_1) ∧
    ∃ (b11_2 : Bool),
    w_1.cell? ⟨w.heap.size, 2, none⟩ = some (.bool b11_2) ∧
    ∃ (x15 : Int),
    w_1.cell? ⟨a0, 2, none⟩ = some (.int .i64 x15) ∧
    let w_2 : World := World.alloc w_1.drew (.cells #[.int .i64 x11_0, .int .i64 x11_1, .bool b11_2, .int .i64 x15] 163);
    ∃ (A18 : Option Addr) (n18 c18 : Nat),
    ∃ w_3 : World, (Builtin.append_ #[159, 159] 159 #[.slice A10 n10 c10, .slice (some ⟨w_1.heap.size, 0, none⟩) 1 1]).run Try.prog w_2 = .ok (.slice A18 n18 c18) w_3 ∧
    canStore w_3 a0 1 1 ∧
    let w_4 : World := setCs w_3 a0 1 [.slice A18 n18 c18];
    ([.pointer (some ⟨a0, 0, none⟩)] : List Value) = ([.pointer (some ⟨a0, 0, none⟩)] : List Value) ∧ M w_4) ∧
  ∀ d : Env, ∀  (w_5 : World), M w_5 →
  ∃ (x24 : Int),
  w_5.cell? ⟨a0, 2, none⟩ = some (.int .i64 x24) ∧
  let i25 : Int := IntKind.i64.wrap (x24 + 1);
  canStore w_5 a0 2 1 ∧
  let w_6 : World := setCs w_5 a0 2 [.int .i64 i25];
  ∃ (A31 : Option Addr) (n31 c31 : Nat),
  w_6.cell? ⟨a0, 1, none⟩ = some (.slice A31 n31 c31) ∧
  let i33 : Int := IntKind.i64.wrap ((n31 : Int) - 1);
  ∃ I : Int → World → Nat → Prop,
  (∃ n, I i33 w_6 n) ∧
  ∀ d_1 : Env, ∀ (x4 : Int) (w_7 : World) (r : Nat), I x4 w_7 r →
  sel (decide ((0 : Int) < (x4 : Int))) (
    let i37 : Int := IntKind.i64.wrap (x4 - 1);
    2 ≠ (0 : Int) ∧
    let i38 : Int := IntKind.i64.wrap (Int.tdiv i37 2);
    Calls Try.prog 85 #[.pointer (some ⟨a0, 0, none⟩), .int .i64 x4, .int .i64 i38] w_7 fun e_1 w_8 =>
    ∃ (b42 : Bool),
    e_1 = .returned (.bool b42) ∧
    sel (!b42) (
      R (.tuple #[]) w_8) (
      ∃ (A47 : Option Addr) (n47 c47 : Nat),
      w_8.cell? ⟨a0, 1, none⟩ = some (.slice A47 n47 c47) ∧
      ∃ (A52 : Option Addr) (n52 c52 : Nat),
      w_8.cell? ⟨a0, 1, none⟩ = some (.slice A52 n52 c52) ∧
      ∃ (A57 : Option Addr) (n57 c57 : Nat),
      w_8.cell? ⟨a0, 1, none⟩ = some (.slice A57 n57 c57) ∧
      (0 : Int) ≤ i38 ∧ i38 < (n57 : Int) ∧
      needPtr A57 fun b59 o59 =>
      ∃ (x60_0 : Int),
      w_8.cell? ⟨b59, o59 + i38.toNat * 4, none⟩ = some (.int .i64 x60_0) ∧
      ∃ (x60_1 : Int),
      w_8.cell? ⟨b59, o59 + i38.toNat * 4 + 1, none⟩ = some (.int .i64 x60_1) ∧
      ∃ (b60_2 : Bool),
      w_8.cell? ⟨b59, o59 + i38.toNat * 4 + 1 + 1, none⟩ = some (.bool b60_2) ∧
      ∃ (x60_3 : Int),
      w_8.cell? ⟨b59, o59 + i38.toNat * 4 + 1 + 1 + 1, none⟩ = some (.int .i64 x60_3) ∧
      ∃ (A64 : Option Addr) (n64 c64 : Nat),
      w_8.cell? ⟨a0, 1, none⟩ = some (.slice A64 n64 c64) ∧
      (0 : Int) ≤ x4 ∧ x4 < (n64 : Int) ∧
      needPtr A64 fun b66 o66 =>
      ∃ (x67_0 : Int),
      w_8.cell? ⟨b66, o66 + x4.toNat * 4, none⟩ = some (.int .i64 x67_0) ∧
      ∃ (x67_1 : Int),
      w_8.cell? ⟨b66, o66 + x4.toNat * 4 + 1, none⟩ = some (.int .i64 x67_1) ∧
      ∃ (b67_2 : Bool),
      w_8.cell? ⟨b66, o66 + x4.toNat * 4 + 1 + 1, none⟩ = some (.bool b67_2) ∧
      ∃ (x67_3 : Int),
      w_8.cell? ⟨b66, o66 + x4.toNat * 4 + 1 + 1 + 1, none⟩ = some (.int .i64 x67_3) ∧
      (0 : Int) ≤ x4 ∧ x4 < (n47 : Int) ∧
      needPtr A47 fun b68 o68 =>
      canStore w_8 b68 (o68 + x4.toNat * 4) 4 ∧
      let w_9 : World := setCs w_8.drew b68 (o68 + x4.toNat * 4) [.int .i64 x60_0, .int .i64 x60_1, .bool b60_2, .int .i64 x60_3];
      (0 : Int) ≤ i38 ∧ i38 < (n52 : Int) ∧
      needPtr A52 fun b69 o69 =>
      canStore w_9 b69 (o69 + i38.toNat * 4) 4 ∧
      let w_10 : World := setCs w_9 b69 (o69 + i38.toNat * 4) [.int .i64 x67_0, .int .i64 x67_1, .bool b67_2, .int .i64 x67_3];
      ([.pointer (some ⟨a0, 0, none⟩)] : List Value) = ([.pointer (some ⟨a0, 0, none⟩)] : List Value) ∧ ∃ m, m < r ∧ I i38 w_10 m)) (
    R (.tuple #[]) w_7)
theorem f70.eq (a0 : Nat) (xa1_0 : Int) (xa1_1 : Int) (ba1_2 : Bool) (w : World) (R : Value → World → Prop) : f70.VC a0 xa1_0 xa1_1 ba1_2 w R = funV Try.prog Try.f70 f70.AL f70.AC #[.pointer (some ⟨a0, 0, none⟩), .agg #[.int .i64 xa1_0, .int .i64 xa1_1, .bool ba1_2]] w R := by kernel_rfl
theorem f70.calls {a0 : Nat} {xa1_0 : Int} {xa1_1 : Int} {ba1_2 : Bool} {w : World} {R : Value → World → Prop} (h : f70.VC a0 xa1_0 xa1_1 ba1_2 w R) : Calls Try.prog 70 #[.pointer (some ⟨a0, 0, none⟩), .agg #[.int .i64 xa1_0, .int .i64 xa1_1, .bool ba1_2]] w fun e w' => ∃ v, e = .returned v ∧ R v w' :=
  funV_sound (fn := Try.f70) (AL := f70.AL) (AC := f70.AC) V3.mixed (by kernel_rfl) (by rw [← f70.eq a0 xa1_0 xa1_1 ba1_2]; exact h)

/-- (*gatehouse/arena.Heap[gatehouse/api.Block]).Pop -/
def f73.AL : Nat → Option Ann := fun r => match r with | 9 => some ⟨[(5, .int .i64)], [0, 2, 4]⟩ | _ => none
def f73.AC : Nat → Option Ann := fun r => match r with | 14 => some ⟨[(6, .int .i64)], [0, 2, 4, 5]⟩ | _ => none
def f73.VC (a0 : Nat) (w : World) (R : Value → World → Prop) : Prop :=
  let w_1 : World := World.alloc w (.cells #[.int .i64 0, .int .i64 0, .bool false] 96);
  ∃ (A10 : Option Addr) (n10 c10 : Nat),
  w_1.cell? ⟨a0, 1, none⟩ = some (.slice A10 n10 c10) ∧
  let i12 : Int := IntKind.i64.wrap ((n10 : Int) - 1);
  sel (decide ((i12 : Int) < (0 : Int))) (
    ∃ (x15_0 : Int),
    w_1.cell? ⟨w.heap.size, 0, none⟩ = some (.int .i64 x15_0) ∧
    ∃ (x15_1 : Int),
    w_1.cell? ⟨w.heap.size, 1, none⟩ = some (.int .i64 x15_1) ∧
    ∃ (b15_2 : Bool),
    w_1.cell? ⟨w.heap.size, 2, none⟩ = some (.bool b15_2) ∧
    canStore w_1 w.heap.size 0 3 ∧
    let w_2 : World := setCs w_1 w.heap.size 0 [.int .i64 x15_0, .int .i64 x15_1, .bool b15_2];
    ∃ (x2_0 : Int),
    w_2.cell? ⟨w.heap.size, 0, none⟩ = some (.int .i64 x2_0) ∧
    ∃ (x2_1 : Int),
    w_2.cell? ⟨w.heap.size, 1, none⟩ = some (.int .i64 x2_1) ∧
    ∃ (b2_2 : Bool),
    w_2.cell? ⟨w.heap.size, 2, none⟩ = some (.bool b2_2) ∧
    R (.tuple #[.agg #[.int .i64 x2_0, .int .i64 x2_1, .bool b2_2], .bool false]) w_2) (
    ∃ (A19 : Option Addr) (n19 c19 : Nat),
    w_1.cell? ⟨a0, 1, none⟩ = some (.slice A19 n19 c19) ∧
    (0 : Int) ≤ 0 ∧ 0 < (n19 : Int) ∧
    needPtr A19 fun b20 o20 =>
    ∃ (x22_0 : Int),
    w_1.cell? ⟨b20, o20, none⟩ = some (.int .i64 x22_0) ∧
    ∃ (x22_1 : Int),
    w_1.cell? ⟨b20, o20 + 1, none⟩ = some (.int .i64 x22_1) ∧
    ∃ (b22_2 : Bool),
    w_1.cell? ⟨b20, o20 + 1 + 1, none⟩ = some (.bool b22_2) ∧
    canStore w_1 w.heap.size 0 3 ∧
    let w_3 : World := setCs w_1 w.heap.size 0 [.int .i64 x22_0, .int .i64 x22_1, .bool b22_2];
    ∃ (A26 : Option Addr) (n26 c26 : Nat),
    w_3.cell? ⟨a0, 1, none⟩ = some (.slice A26 n26 c26) ∧
    ∃ (A30 : Option Addr) (n30 c30 : Nat),
    w_3.cell? ⟨a0, 1, none⟩ = some (.slice A30 n30 c30) ∧
    (0 : Int) ≤ i12 ∧ i12 < (n30 : Int) ∧
    needPtr A30 fun b32 o32 =>
    ∃ (x33_0 : Int),
    w_3.cell? ⟨b32, o32 + i12.toNat * 4, none⟩ = some (.int .i64 x33_0) ∧
    ∃ (x33_1 : Int),
    w_3.cell? ⟨b32, o32 + i12.toNat * 4 + 1, none⟩ = some (.int .i64 x33_1) ∧
    ∃ (b33_2 : Bool),
    w_3.cell? ⟨b32, o32 + i12.toNat * 4 + 1 + 1, none⟩ = some (.bool b33_2) ∧
    ∃ (x33_3 : Int),
    w_3.cell? ⟨b32, o32 + i12.toNat * 4 + 1 + 1 + 1, none⟩ = some (.int .i64 x33_3) ∧
    (0 : Int) ≤ 0 ∧ 0 < (n26 : Int) ∧
    needPtr A26 fun b34 o34 =>
    canStore w_3 b34 o34 4 ∧
    let w_4 : World := setCs w_3.drew b34 o34 [.int .i64 x33_0, .int .i64 x33_1, .bool b33_2, .int .i64 x33_3];
    ∃ (A38 : Option Addr) (n38 c38 : Nat),
    w_4.cell? ⟨a0, 1, none⟩ = some (.slice A38 n38 c38) ∧
    (0 : Int) ≤ i12 ∧ i12 < (n38 : Int) ∧
    needPtr A38 fun b41 o41 =>
    canStore w_4 b41 (o41 + i12.toNat * 4) 4 ∧
    let w_5 : World := setCs w_4 b41 (o41 + i12.toNat * 4) [.int .i64 0, .int .i64 0, .bool false, .int .i64 0];
    ∃ (A46 : Option Addr) (n46 c46 : Nat),
    w_5.cell? ⟨a0, 1, none⟩ = some (.slice A46 n46 c46) ∧
    (0 : Int) ≤ i12 ∧ i12 ≤ (c46 : Int) ∧
    canStore w_5 a0 1 1 ∧
    let w_6 : World := setCs w_5 a0 1 [.slice A46 i12.toNat c46];
    ∃ I : Int → World → Nat → Prop,
    (∃ n, I 0 w_6 n) ∧
    ∀ d : Env, ∀ (x5 : Int) (w_7 : World) (r : Nat), I x5 w_7 r →
    let i52 : Int := IntKind.i64.wrap (2 * x5);
    let i53 : Int := IntKind.i64.wrap (i52 + 1);
    sel (decide ((i12 : Int) ≤ (i53 : Int))) (
      ∃ (x57_0 : Int),
      w_7.cell? ⟨w.heap.size, 0, none⟩ = some (.int .i64 x57_0) ∧
      ∃ (x57_1 : Int),
      w_7.cell? ⟨w.heap.size, 1, none⟩ = some (.int .i64 x57_1) ∧
      ∃ (b57_2 : Bool),
      w_7.cell? ⟨w.heap.size, 2, none⟩ = some (.bool b57_2) ∧
      canStore w_7 w.heap.size 0 3 ∧
      let w_8 : World := setCs w_7 w.heap.size 0 [.int .i64 x57_0, .int .i64 x57_1, .bool b57_2];
      ∃ (x2_0_1 : Int),
      w_8.cell? ⟨w.heap.size, 0, none⟩ = some (.int .i64 x2_0_1) ∧
      ∃ (x2_1_1 : Int),
      w_8.cell? ⟨w.heap.size, 1, none⟩ = some (.int .i64 x2_1_1) ∧
      ∃ (b2_2_1 : Bool),
      w_8.cell? ⟨w.heap.size, 2, none⟩ = some (.bool b2_2_1) ∧
      R (.tuple #[.agg #[.int .i64 x2_0_1, .int .i64 x2_1_1, .bool b2_2_1], .bool true]) w_8) (
      ∃ M : Int → World → Prop,
      (let i59 : Int := IntKind.i64.wrap (i53 + 1);
        sel (decide ((i59 : Int) < (i12 : Int))) (
          let i65 : Int := IntKind.i64.wrap (i53 + 1);
          Calls Try.prog 85 #[.pointer (some ⟨a0, 0, none⟩), .int .i64 i65, .int .i64 i53] w_7 fun e_1 w_9 =>
          ∃ (b67 : Bool),
          e_1 = .returned (.bool b67) ∧
          sel b67 (
            let i70 : Int := IntKind.i64.wrap (i53 + 1);
            ([.pointer (some ⟨a0, 0, none⟩), .pointer (some ⟨w.heap.size, 0, none⟩), .int .i64 i12, .int .i64 x5] : List Value) = ([.pointer (some ⟨a0, 0, none⟩), .pointer (some ⟨w.heap.size, 0, none⟩), .int .i64 i12, .int .i64 x5] : List Value) ∧ M i70 w_9) (
            ([.pointer (some ⟨a0, 0, none⟩), .pointer (some ⟨w.heap.size, 0, none⟩), .int .i64 i12, .int .i64 x5] : List Value) = ([.pointer (some ⟨a0, 0, none⟩), .pointer (some ⟨w.heap.size, 0, none⟩), .int .i64 i12, .int .i64 x5] : List Value) ∧ M i53 w_9)) (
          ([.pointer (some ⟨a0, 0, none⟩), .pointer (some ⟨w.heap.size, 0, none⟩), .int .i64 i12, .int .i64 x5] : List Value) = ([.pointer (some ⟨a0, 0, none⟩), .pointer (some ⟨w.heap.size, 0, none⟩), .int .i64 i12, .int .i64 x5] : List Value) ∧ M i53 w_7)) ∧
      ∀ d_1 : Env, ∀ (x6 : Int) (w_10 : World), M x6 w_10 →
      Calls Try.prog 85 #[.pointer (some ⟨a0, 0, none⟩), .int .i64 x6, .int .i64 x5] w_10 fun e_2 w_11 =>
      ∃ (b74 : Bool),
      e_2 = .returned (.bool b74) ∧
      sel (!b74) (
        ∃ (x76_0 : Int),
        w_11.cell? ⟨w.heap.size, 0, none⟩ = some (.int .i64 x76_0) ∧
        ∃ (x76_1 : Int),
        w_11.cell? ⟨w.heap.size, 1, none⟩ = some (.int .i64 x76_1) ∧
        ∃ (b76_2 : Bool),
        w_11.cell? ⟨w.heap.size, 2, none⟩ = some (.bool b76_2) ∧
        canStore w_11 w.heap.size 0 3 ∧
        let w_12 : World := setCs w_11 w.heap.size 0 [.int .i64 x76_0, .int .i64 x76_1, .bool b76_2];
        ∃ (x2_0_2 : Int),
        w_12.cell? ⟨w.heap.size, 0, none⟩ = some (.int .i64 x2_0_2) ∧
        ∃ (x2_1_2 : Int),
        w_12.cell? ⟨w.heap.size, 1, none⟩ = some (.int .i64 x2_1_2) ∧
        ∃ (b2_2_2 : Bool),
        w_12.cell? ⟨w.heap.size, 2, none⟩ = some (.bool b2_2_2) ∧
        R (.tuple #[.agg #[.int .i64 x2_0_2, .int .i64 x2_1_2, .bool b2_2_2], .bool true]) w_12) (
        ∃ (A80 : Option Addr) (n80 c80 : Nat),
        w_11.cell? ⟨a0, 1, none⟩ = some (.slice A80 n80 c80) ∧
        ∃ (A85 : Option Addr) (n85 c85 : Nat),
        w_11.cell? ⟨a0, 1, none⟩ = some (.slice A85 n85 c85) ∧
        ∃ (A90 : Option Addr) (n90 c90 : Nat),
        w_11.cell? ⟨a0, 1, none⟩ = some (.slice A90 n90 c90) ∧
        (0 : Int) ≤ x6 ∧ x6 < (n90 : Int) ∧
        needPtr A90 fun b92 o92 =>
        ∃ (x93_0 : Int),
        w_11.cell? ⟨b92, o92 + x6.toNat * 4, none⟩ = some (.int .i64 x93_0) ∧
        ∃ (x93_1 : Int),
        w_11.cell? ⟨b92, o92 + x6.toNat * 4 + 1, none⟩ = some (.int .i64 x93_1) ∧
        ∃ (b93_2 : Bool),
        w_11.cell? ⟨b92, o92 + x6.toNat * 4 + 1 + 1, none⟩ = some (.bool b93_2) ∧
        ∃ (x93_3 : Int),
        w_11.cell? ⟨b92, o92 + x6.toNat * 4 + 1 + 1 + 1, none⟩ = some (.int .i64 x93_3) ∧
        ∃ (A97 : Option Addr) (n97 c97 : Nat),
        w_11.cell? ⟨a0, 1, none⟩ = some (.slice A97 n97 c97) ∧
        (0 : Int) ≤ x5 ∧ x5 < (n97 : Int) ∧
        needPtr A97 fun b99 o99 =>
        ∃ (x100_0 : Int),
        w_11.cell? ⟨b99, o99 + x5.toNat * 4, none⟩ = some (.int .i64 x100_0) ∧
        ∃ (x100_1 : Int),
        w_11.cell? ⟨b99, o99 + x5.toNat * 4 + 1, none⟩ = some (.int .i64 x100_1) ∧
        ∃ (b100_2 : Bool),
        w_11.cell? ⟨b99, o99 + x5.toNat * 4 + 1 + 1, none⟩ = some (.bool b100_2) ∧
        ∃ (x100_3 : Int),
        w_11.cell? ⟨b99, o99 + x5.toNat * 4 + 1 + 1 + 1, none⟩ = some (.int .i64 x100_3) ∧
        (0 : Int) ≤ x5 ∧ x5 < (n80 : Int) ∧
        needPtr A80 fun b101 o101 =>
        canStore w_11 b101 (o101 + x5.toNat * 4) 4 ∧
        let w_13 : World := setCs w_11.drew b101 (o101 + x5.toNat * 4) [.int .i64 x93_0, .int .i64 x93_1, .bool b93_2, .int .i64 x93_3];
        (0 : Int) ≤ x6 ∧ x6 < (n85 : Int) ∧
        needPtr A85 fun b102 o102 =>
        canStore w_13 b102 (o102 + x6.toNat * 4) 4 ∧
        let w_14 : World := setCs w_13 b102 (o102 + x6.toNat * 4) [.int .i64 x100_0, .int .i64 x100_1, .bool b100_2, .int .i64 x100_3];
        ([.pointer (some ⟨a0, 0, none⟩), .pointer (some ⟨w.heap.size, 0, none⟩), .int .i64 i12] : List Value) = ([.pointer (some ⟨a0, 0, none⟩), .pointer (some ⟨w.heap.size, 0, none⟩), .int .i64 i12] : List Value) ∧ ∃ m, m < r ∧ I x6 w_14 m)))
theorem f73.eq (a0 : Nat) (w : World) (R : Value → World → Prop) : f73.VC a0 w R = funV Try.prog Try.f73 f73.AL f73.AC #[.pointer (some ⟨a0, 0, none⟩)] w R := by kernel_rfl
theorem f73.calls {a0 : Nat} {w : World} {R : Value → World → Prop} (h : f73.VC a0 w R) : Calls Try.prog 73 #[.pointer (some ⟨a0, 0, none⟩)] w fun e w' => ∃ v, e = .returned v ∧ R v w' :=
  funV_sound (fn := Try.f73) (AL := f73.AL) (AC := f73.AC) V3.mixed (by kernel_rfl) (by rw [← f73.eq a0]; exact h)

/-- gatehouse/arena.NewHeap[gatehouse/api.Block] -/
def f68.AL : Nat → Option Ann := fun _ => none
def f68.AC : Nat → Option Ann := fun _ => none
def f68.VC (a0 : Nat) (cap0 : Array Value) (w : World) (R : Value → World → Prop) : Prop :=
  ∃ b4 : Bool, (∀ w', (do eqGuard .eql 135 (.tmp 3) (.const .nilFunc) (.func (.func a0) #[] cap0) .nilFunc; binOp .eql 135 (.func (.func a0) #[] cap0) .nilFunc : Sem Value).run Try.prog w' = .ok (.bool b4) w') ∧
  sel b4 (
    R (.pointer none) w) (
    let w_1 : World := World.alloc w (.cells #[.func (.func a0) #[] cap0, .slice none 0 0, .int .i64 0] 161);
    R (.pointer (some ⟨w.heap.size, 0, none⟩)) w_1)
theorem f68.eq (a0 : Nat) (cap0 : Array Value) (w : World) (R : Value → World → Prop) : f68.VC a0 cap0 w R = funV Try.prog Try.f68 f68.AL f68.AC #[.func (.func a0) #[] cap0] w R := by kernel_rfl
theorem f68.calls {a0 : Nat} {cap0 : Array Value} {w : World} {R : Value → World → Prop} (h : f68.VC a0 cap0 w R) : Calls Try.prog 68 #[.func (.func a0) #[] cap0] w fun e w' => ∃ v, e = .returned v ∧ R v w' :=
  funV_sound (fn := Try.f68) (AL := f68.AL) (AC := f68.AC) V3.mixed (by kernel_rfl) (by rw [← f68.eq a0 cap0]; exact h)

end Go.Proofs.Ytebahglmdifmpaa
