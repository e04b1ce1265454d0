/- The plain statements of some functions, printed by vcgen.py. -/
import Derived.Test.YtjmlfknogjaemaaM4
import Derived.Test.YtjmlfknogjaemaaProg
import Derived.KernelRfl
set_option maxRecDepth 100000
set_option linter.unusedVariables false
namespace Go.Proofs.Ytjmlfknogjaemaa
open Go Go.Proofs.Ytjmlfknogjaemaa.Vc
theorem W21.mixed : Try.prog.follows .mixedOrders = true := by kernel_rfl
/-- gatehouse/gatehouselaw12.PageRead -/
def f6.AL : Nat → Option Ann := fun _ => none
def f6.AC : Nat → Option Ann := fun _ => none
def f6.VC (Aa0 : Option Addr) (na0 ca0 : Nat) (Aa1 : Option Addr) (na1 ca1 : Nat) (w : World) (R : Value → World → Prop) : Prop :=
  Calls Try.prog 10 #[] w fun e_1 w_1 =>
  ∃ (b19 : Bool),
  e_1 = .returned (.bool b19) ∧
  Calls Try.prog 13 #[.slice Aa1 na1 ca1] w_1 fun e_2 w_2 =>
  ∃ (p22_0 : Option Addr) (p22_1 : Option Addr),
  e_2 = .returned (.tuple #[.pointer p22_0, .pointer p22_1]) ∧
  sel (Option.isNone p22_0) (
    R (.bool false) w_2) (
    Calls Try.prog 24 #[.slice Aa0 na0 ca0, .int .i64 40] w_2 fun e_3 w_3 =>
    ∃ (A28 : Option Addr) (n28 c28 : Nat),
    e_3 = .returned (.slice A28 n28 c28) ∧
    Calls Try.prog 26 #[.slice Aa0 na0 ca0, .pointer p22_1] w_3 fun e_4 w_4 =>
    ∃ (x32_0 : Int) (A32_1_0 : Option Addr) (n32_1_0 c32_1_0 : Nat) (A32_1_1 : Option Addr) (n32_1_1 c32_1_1 : Nat) (A32_1_2 : Option Addr) (n32_1_2 c32_1_2 : Nat) (A32_1_3 : Option Addr) (n32_1_3 c32_1_3 : Nat) (A32_1_4 : Option Addr) (n32_1_4 c32_1_4 : Nat) (A32_1_5 : Option Addr) (n32_1_5 c32_1_5 : Nat) (x32_2 : Int),
    e_4 = .returned (.tuple #[.int .i64 x32_0, .agg #[.slice A32_1_0 n32_1_0 c32_1_0, .slice A32_1_1 n32_1_1 c32_1_1, .slice A32_1_2 n32_1_2 c32_1_2, .slice A32_1_3 n32_1_3 c32_1_3, .slice A32_1_4 n32_1_4 c32_1_4, .slice A32_1_5 n32_1_5 c32_1_5], .int .i64 x32_2]) ∧
    let w_5 : World := World.alloc w_4 (.cells #[.slice none 0 0, .slice none 0 0, .slice none 0 0, .slice none 0 0, .slice none 0 0, .slice none 0 0] 29);
    canStore w_5 w_4.heap.size 0 6 ∧
    let w_6 : World := setCs w_5 w_4.heap.size 0 [.slice A32_1_0 n32_1_0 c32_1_0, .slice A32_1_1 n32_1_1 c32_1_1, .slice A32_1_2 n32_1_2 c32_1_2, .slice A32_1_3 n32_1_3 c32_1_3, .slice A32_1_4 n32_1_4 c32_1_4, .slice A32_1_5 n32_1_5 c32_1_5];
    (0 : Int) ≤ (na0 : Int) ∧ (na0 : Int) ≤ (c28 : Int) ∧
    Calls Try.prog 27 #[.slice A28 (na0 : Int).toNat c28, .pointer p22_0] w_6 fun e_5 w_7 =>
    ∃ (x42_0 : Int) (A42_1_0 : Option Addr) (n42_1_0 c42_1_0 : Nat) (A42_1_1 : Option Addr) (n42_1_1 c42_1_1 : Nat) (A42_1_2 : Option Addr) (n42_1_2 c42_1_2 : Nat) (A42_1_3 : Option Addr) (n42_1_3 c42_1_3 : Nat) (A42_1_4 : Option Addr) (n42_1_4 c42_1_4 : Nat) (A42_1_5 : Option Addr) (n42_1_5 c42_1_5 : Nat) (x42_2 : Int),
    e_5 = .returned (.tuple #[.int .i64 x42_0, .agg #[.slice A42_1_0 n42_1_0 c42_1_0, .slice A42_1_1 n42_1_1 c42_1_1, .slice A42_1_2 n42_1_2 c42_1_2, .slice A42_1_3 n42_1_3 c42_1_3, .slice A42_1_4 n42_1_4 c42_1_4, .slice A42_1_5 n42_1_5 c42_1_5], .int .i64 x42_2]) ∧
    let w_8 : World := World.alloc w_7 (.cells #[.slice none 0 0, .slice none 0 0, .slice none 0 0, .slice none 0 0, .slice none 0 0, .slice none 0 0] 29);
    canStore w_8 w_7.heap.size 0 6 ∧
    let w_9 : World := setCs w_8 w_7.heap.size 0 [.slice A42_1_0 n42_1_0 c42_1_0, .slice A42_1_1 n42_1_1 c42_1_1, .slice A42_1_2 n42_1_2 c42_1_2, .slice A42_1_3 n42_1_3 c42_1_3, .slice A42_1_4 n42_1_4 c42_1_4, .slice A42_1_5 n42_1_5 c42_1_5];
    (0 : Int) ≤ (na0 : Int) ∧ (na0 : Int) ≤ (c28 : Int) ∧
    Calls Try.prog 27 #[.slice A28 (na0 : Int).toNat c28, .pointer none] w_9 fun e_6 w_10 =>
    ∃ (x51_0 : Int) (A51_1_0 : Option Addr) (n51_1_0 c51_1_0 : Nat) (A51_1_1 : Option Addr) (n51_1_1 c51_1_1 : Nat) (A51_1_2 : Option Addr) (n51_1_2 c51_1_2 : Nat) (A51_1_3 : Option Addr) (n51_1_3 c51_1_3 : Nat) (A51_1_4 : Option Addr) (n51_1_4 c51_1_4 : Nat) (A51_1_5 : Option Addr) (n51_1_5 c51_1_5 : Nat) (x51_2 : Int),
    e_6 = .returned (.tuple #[.int .i64 x51_0, .agg #[.slice A51_1_0 n51_1_0 c51_1_0, .slice A51_1_1 n51_1_1 c51_1_1, .slice A51_1_2 n51_1_2 c51_1_2, .slice A51_1_3 n51_1_3 c51_1_3, .slice A51_1_4 n51_1_4 c51_1_4, .slice A51_1_5 n51_1_5 c51_1_5], .int .i64 x51_2]) ∧
    let w_11 : World := World.alloc w_10 (.cells #[.slice none 0 0, .slice none 0 0, .slice none 0 0, .slice none 0 0, .slice none 0 0, .slice none 0 0] 29);
    canStore w_11 w_10.heap.size 0 6 ∧
    let w_12 : World := setCs w_11 w_10.heap.size 0 [.slice A51_1_0 n51_1_0 c51_1_0, .slice A51_1_1 n51_1_1 c51_1_1, .slice A51_1_2 n51_1_2 c51_1_2, .slice A51_1_3 n51_1_3 c51_1_3, .slice A51_1_4 n51_1_4 c51_1_4, .slice A51_1_5 n51_1_5 c51_1_5];
    sel ((x51_0 : Int) == (0 : Int)) (
      ∃ (A58_0 : Option Addr) (n58_0 c58_0 : Nat),
      w_12.cell? ⟨w_10.heap.size, 0, none⟩ = some (.slice A58_0 n58_0 c58_0) ∧
      ∃ (A58_1 : Option Addr) (n58_1 c58_1 : Nat),
      w_12.cell? ⟨w_10.heap.size, 1, none⟩ = some (.slice A58_1 n58_1 c58_1) ∧
      ∃ (A58_2 : Option Addr) (n58_2 c58_2 : Nat),
      w_12.cell? ⟨w_10.heap.size, 2, none⟩ = some (.slice A58_2 n58_2 c58_2) ∧
      ∃ (A58_3 : Option Addr) (n58_3 c58_3 : Nat),
      w_12.cell? ⟨w_10.heap.size, 3, none⟩ = some (.slice A58_3 n58_3 c58_3) ∧
      ∃ (A58_4 : Option Addr) (n58_4 c58_4 : Nat),
      w_12.cell? ⟨w_10.heap.size, 4, none⟩ = some (.slice A58_4 n58_4 c58_4) ∧
      ∃ (A58_5 : Option Addr) (n58_5 c58_5 : Nat),
      w_12.cell? ⟨w_10.heap.size, 5, none⟩ = some (.slice A58_5 n58_5 c58_5) ∧
      Calls Try.prog 22 #[.agg #[.slice A58_0 n58_0 c58_0, .slice A58_1 n58_1 c58_1, .slice A58_2 n58_2 c58_2, .slice A58_3 n58_3 c58_3, .slice A58_4 n58_4 c58_4, .slice A58_5 n58_5 c58_5], .agg #[.slice none 0 0, .slice none 0 0, .slice none 0 0, .slice none 0 0, .slice none 0 0, .slice none 0 0]] w_12 fun e_7 w_13 =>
      ∃ (b60 : Bool),
      e_7 = .returned (.bool b60) ∧
      sel b60 (
        sel b19 (
          sel ((x51_2 : Int) == (2 : Int)) (
            sel ((x42_0 : Int) == (x32_0 : Int)) (
              sel ((x42_2 : Int) == (x32_2 : Int)) (
                ∃ (A81_0 : Option Addr) (n81_0 c81_0 : Nat),
                w_13.cell? ⟨w_4.heap.size, 0, none⟩ = some (.slice A81_0 n81_0 c81_0) ∧
                ∃ (A81_1 : Option Addr) (n81_1 c81_1 : Nat),
                w_13.cell? ⟨w_4.heap.size, 1, none⟩ = some (.slice A81_1 n81_1 c81_1) ∧
                ∃ (A81_2 : Option Addr) (n81_2 c81_2 : Nat),
                w_13.cell? ⟨w_4.heap.size, 2, none⟩ = some (.slice A81_2 n81_2 c81_2) ∧
                ∃ (A81_3 : Option Addr) (n81_3 c81_3 : Nat),
                w_13.cell? ⟨w_4.heap.size, 3, none⟩ = some (.slice A81_3 n81_3 c81_3) ∧
                ∃ (A81_4 : Option Addr) (n81_4 c81_4 : Nat),
                w_13.cell? ⟨w_4.heap.size, 4, none⟩ = some (.slice A81_4 n81_4 c81_4) ∧
                ∃ (A81_5 : Option Addr) (n81_5 c81_5 : Nat),
                w_13.cell? ⟨w_4.heap.size, 5, none⟩ = some (.slice A81_5 n81_5 c81_5) ∧
                ∃ (A82_0 : Option Addr) (n82_0 c82_0 : Nat),
                w_13.cell? ⟨w_7.heap.size, 0, none⟩ = some (.slice A82_0 n82_0 c82_0) ∧
                ∃ (A82_1 : Option Addr) (n82_1 c82_1 : Nat),
                w_13.cell? ⟨w_7.heap.size, 1, none⟩ = some (.slice A82_1 n82_1 c82_1) ∧
                ∃ (A82_2 : Option Addr) (n82_2 c82_2 : Nat),
                w_13.cell? ⟨w_7.heap.size, 2, none⟩ = some (.slice A82_2 n82_2 c82_2) ∧
                ∃ (A82_3 : Option Addr) (n82_3 c82_3 : Nat),
                w_13.cell? ⟨w_7.heap.size, 3, none⟩ = some (.slice A82_3 n82_3 c82_3) ∧
                ∃ (A82_4 : Option Addr) (n82_4 c82_4 : Nat),
                w_13.cell? ⟨w_7.heap.size, 4, none⟩ = some (.slice A82_4 n82_4 c82_4) ∧
                ∃ (A82_5 : Option Addr) (n82_5 c82_5 : Nat),
                w_13.cell? ⟨w_7.heap.size, 5, none⟩ = some (.slice A82_5 n82_5 c82_5) ∧
                Calls Try.prog 22 #[.agg #[.slice A81_0 n81_0 c81_0, .slice A81_1 n81_1 c81_1, .slice A81_2 n81_2 c81_2, .slice A81_3 n81_3 c81_3, .slice A81_4 n81_4 c81_4, .slice A81_5 n81_5 c81_5], .agg #[.slice A82_0 n82_0 c82_0, .slice A82_1 n82_1 c82_1, .slice A82_2 n82_2 c82_2, .slice A82_3 n82_3 c82_3, .slice A82_4 n82_4 c82_4, .slice A82_5 n82_5 c82_5]] w_13 fun e_8 w_14 =>
                ∃ (b83 : Bool),
                e_8 = .returned (.bool b83) ∧
                sel b83 (
                  Calls Try.prog 24 #[.slice Aa0 na0 ca0, .int .i64 40] w_14 fun e_9 w_15 =>
                  ∃ (A88 : Option Addr) (n88 c88 : Nat),
                  e_9 = .returned (.slice A88 n88 c88) ∧
                  Calls Try.prog 18 #[.slice A28 n28 c28, .slice A88 n88 c88] w_15 fun e_10 w_16 =>
                  ∃ (b89 : Bool),
                  e_10 = .returned (.bool b89) ∧
                  sel b89 (
                    Calls Try.prog 19 #[.pointer p22_0, .pointer p22_1] w_16 fun e_11 w_17 =>
                    ∃ (b94 : Bool),
                    e_11 = .returned (.bool b94) ∧
                    R (.bool b94) w_17) (
                    R (.bool false) w_16)) (
                  R (.bool false) w_14)) (
                R (.bool false) w_13)) (
              R (.bool false) w_13)) (
            R (.bool false) w_13)) (
          R (.bool false) w_13)) (
        sel b19 (
          R (.bool false) w_13) (
          R (.bool false) w_13))) (
      sel b19 (
        R (.bool false) w_12) (
        R (.bool false) w_12)))
theorem f6.eq (Aa0 : Option Addr) (na0 ca0 : Nat) (Aa1 : Option Addr) (na1 ca1 : Nat) (w : World) (R : Value → World → Prop) : f6.VC Aa0 na0 ca0 Aa1 na1 ca1 w R = funV Try.prog Try.f6 f6.AL f6.AC #[.slice Aa0 na0 ca0, .slice Aa1 na1 ca1] w R := by kernel_rfl
theorem f6.calls {Aa0 : Option Addr} {na0 ca0 : Nat} {Aa1 : Option Addr} {na1 ca1 : Nat} {w : World} {R : Value → World → Prop} (h : f6.VC Aa0 na0 ca0 Aa1 na1 ca1 w R) : Calls Try.prog 6 #[.slice Aa0 na0 ca0, .slice Aa1 na1 ca1] w fun e w' => ∃ v, e = .returned v ∧ R v w' :=
  funV_sound (fn := Try.f6) (AL := f6.AL) (AC := f6.AC) W21.mixed (by kernel_rfl) (by rw [← f6.eq Aa0 na0 ca0 Aa1 na1 ca1]; exact h)

/-- gatehouse/page.Read -/
def f27n.AL : Nat → Option Ann := fun r => match r with | 23 => some ⟨[(151, .int .i64)], [0, 5, 7, 8, 12, 14, 149, 150]⟩ | 27 => some ⟨[(17, .slice), (160, .int .i64)], [0, 5, 7, 8, 12, 14, 16, 149, 150, 151, 158, 159]⟩ | _ => none
def f27n.AC : Nat → Option Ann := fun _ => none
def f27n.VC (Aa0 : Option Addr) (na0 ca0 : Nat) (a1 : Option Addr) (w : World) (R : Value → World → Prop) : Prop :=
  let w_1 : World := World.alloc w (.cells #[.slice none 0 0, .slice none 0 0, .slice none 0 0, .slice none 0 0, .slice none 0 0, .slice none 0 0] 29);
  sel (Option.isNone a1) (
    canStore w_1 w.heap.size 0 6 ∧
    let w_2 : World := setCs w_1 w.heap.size 0 [.slice none 0 0, .slice none 0 0, .slice none 0 0, .slice none 0 0, .slice none 0 0, .slice none 0 0];
    ∃ (A5_0 : Option Addr) (n5_0 c5_0 : Nat),
    w_2.cell? ⟨w.heap.size, 0, none⟩ = some (.slice A5_0 n5_0 c5_0) ∧
    ∃ (A5_1 : Option Addr) (n5_1 c5_1 : Nat),
    w_2.cell? ⟨w.heap.size, 1, none⟩ = some (.slice A5_1 n5_1 c5_1) ∧
    ∃ (A5_2 : Option Addr) (n5_2 c5_2 : Nat),
    w_2.cell? ⟨w.heap.size, 2, none⟩ = some (.slice A5_2 n5_2 c5_2) ∧
    ∃ (A5_3 : Option Addr) (n5_3 c5_3 : Nat),
    w_2.cell? ⟨w.heap.size, 3, none⟩ = some (.slice A5_3 n5_3 c5_3) ∧
    ∃ (A5_4 : Option Addr) (n5_4 c5_4 : Nat),
    w_2.cell? ⟨w.heap.size, 4, none⟩ = some (.slice A5_4 n5_4 c5_4) ∧
    ∃ (A5_5 : Option Addr) (n5_5 c5_5 : Nat),
    w_2.cell? ⟨w.heap.size, 5, none⟩ = some (.slice A5_5 n5_5 c5_5) ∧
    R (.tuple #[.int .i64 0, .agg #[.slice A5_0 n5_0 c5_0, .slice A5_1 n5_1 c5_1, .slice A5_2 n5_2 c5_2, .slice A5_3 n5_3 c5_3, .slice A5_4 n5_4 c5_4, .slice A5_5 n5_5 c5_5], .int .i64 2]) w_2) (
    Calls Try.prog 64 #[.slice Aa0 na0 ca0] w_1 fun e_1 w_3 =>
    ∃ (x25 : Int),
    e_1 = .returned (.int .i64 x25) ∧
    sel ((x25 : Int) == (0 : Int)) (
      canStore w_3 w.heap.size 0 6 ∧
      let w_4 : World := setCs w_3 w.heap.size 0 [.slice none 0 0, .slice none 0 0, .slice none 0 0, .slice none 0 0, .slice none 0 0, .slice none 0 0];
      ∃ (A5_0_1 : Option Addr) (n5_0_1 c5_0_1 : Nat),
      w_4.cell? ⟨w.heap.size, 0, none⟩ = some (.slice A5_0_1 n5_0_1 c5_0_1) ∧
      ∃ (A5_1_1 : Option Addr) (n5_1_1 c5_1_1 : Nat),
      w_4.cell? ⟨w.heap.size, 1, none⟩ = some (.slice A5_1_1 n5_1_1 c5_1_1) ∧
      ∃ (A5_2_1 : Option Addr) (n5_2_1 c5_2_1 : Nat),
      w_4.cell? ⟨w.heap.size, 2, none⟩ = some (.slice A5_2_1 n5_2_1 c5_2_1) ∧
      ∃ (A5_3_1 : Option Addr) (n5_3_1 c5_3_1 : Nat),
      w_4.cell? ⟨w.heap.size, 3, none⟩ = some (.slice A5_3_1 n5_3_1 c5_3_1) ∧
      ∃ (A5_4_1 : Option Addr) (n5_4_1 c5_4_1 : Nat),
      w_4.cell? ⟨w.heap.size, 4, none⟩ = some (.slice A5_4_1 n5_4_1 c5_4_1) ∧
      ∃ (A5_5_1 : Option Addr) (n5_5_1 c5_5_1 : Nat),
      w_4.cell? ⟨w.heap.size, 5, none⟩ = some (.slice A5_5_1 n5_5_1 c5_5_1) ∧
      R (.tuple #[.int .i64 0, .agg #[.slice A5_0_1 n5_0_1 c5_0_1, .slice A5_1_1 n5_1_1 c5_1_1, .slice A5_2_1 n5_2_1 c5_2_1, .slice A5_3_1 n5_3_1 c5_3_1, .slice A5_4_1 n5_4_1 c5_4_1, .slice A5_5_1 n5_5_1 c5_5_1], .int .i64 120]) w_4) (
      4 ≤ na0 ∧
      needPtr Aa0 fun b30 o30 =>
      ∃ (x31_0 : Int),
      w_3.cell? ⟨b30, o30, none⟩ = some (.int .i64 x31_0) ∧
      ∃ (x31_1 : Int),
      w_3.cell? ⟨b30, o30 + 1, none⟩ = some (.int .i64 x31_1) ∧
      ∃ (x31_2 : Int),
      w_3.cell? ⟨b30, o30 + 1 + 1, none⟩ = some (.int .i64 x31_2) ∧
      ∃ (x31_3 : Int),
      w_3.cell? ⟨b30, o30 + 1 + 1 + 1, none⟩ = some (.int .i64 x31_3) ∧
      let w_5 : World := World.alloc w_3 (.cells #[.int .i64 0, .int .i64 0, .int .i64 0, .int .i64 0] 108);
      canStore w_5 w_3.heap.size 0 4 ∧
      let w_6 : World := setCs w_5 w_3.heap.size 0 [.int .i64 x31_0, .int .i64 x31_1, .int .i64 x31_2, .int .i64 x31_3];
      (0 : Int) ≤ 0 ∧ 0 < (4 : Int) ∧
      ∃ (x33 : Int),
      w_6.cell? ⟨w_3.heap.size, 0, none⟩ = some (.int .i64 x33) ∧
      sel (decide ((1 : Int) ≤ (x33 : Int))) (
        (0 : Int) ≤ 0 ∧ 0 < (4 : Int) ∧
        ∃ (x37 : Int),
        w_6.cell? ⟨w_3.heap.size, 0, none⟩ = some (.int .i64 x37) ∧
        sel (decide ((x37 : Int) ≤ (2147483647 : Int))) (
          (0 : Int) ≤ 2 ∧ 2 < (4 : Int) ∧
          ∃ (x42 : Int),
          w_6.cell? ⟨w_3.heap.size, 2, none⟩ = some (.int .i64 x42) ∧
          sel (decide ((0 : Int) ≤ (x42 : Int))) (
            (0 : Int) ≤ 2 ∧ 2 < (4 : Int) ∧
            ∃ (x47 : Int),
            w_6.cell? ⟨w_3.heap.size, 2, none⟩ = some (.int .i64 x47) ∧
            sel (decide ((x47 : Int) ≤ (64 : Int))) (
              (0 : Int) ≤ 3 ∧ 3 < (4 : Int) ∧
              ∃ (x52 : Int),
              w_6.cell? ⟨w_3.heap.size, 3, none⟩ = some (.int .i64 x52) ∧
              sel (decide ((0 : Int) ≤ (x52 : Int))) (
                (0 : Int) ≤ 3 ∧ 3 < (4 : Int) ∧
                ∃ (x57 : Int),
                w_6.cell? ⟨w_3.heap.size, 3, none⟩ = some (.int .i64 x57) ∧
                sel (!(decide ((x57 : Int) ≤ (64 : Int)))) (
                  canStore w_6 w.heap.size 0 6 ∧
                  let w_7 : World := setCs w_6 w.heap.size 0 [.slice none 0 0, .slice none 0 0, .slice none 0 0, .slice none 0 0, .slice none 0 0, .slice none 0 0];
                  ∃ (A5_0_2 : Option Addr) (n5_0_2 c5_0_2 : Nat),
                  w_7.cell? ⟨w.heap.size, 0, none⟩ = some (.slice A5_0_2 n5_0_2 c5_0_2) ∧
                  ∃ (A5_1_2 : Option Addr) (n5_1_2 c5_1_2 : Nat),
                  w_7.cell? ⟨w.heap.size, 1, none⟩ = some (.slice A5_1_2 n5_1_2 c5_1_2) ∧
                  ∃ (A5_2_2 : Option Addr) (n5_2_2 c5_2_2 : Nat),
                  w_7.cell? ⟨w.heap.size, 2, none⟩ = some (.slice A5_2_2 n5_2_2 c5_2_2) ∧
                  ∃ (A5_3_2 : Option Addr) (n5_3_2 c5_3_2 : Nat),
                  w_7.cell? ⟨w.heap.size, 3, none⟩ = some (.slice A5_3_2 n5_3_2 c5_3_2) ∧
                  ∃ (A5_4_2 : Option Addr) (n5_4_2 c5_4_2 : Nat),
                  w_7.cell? ⟨w.heap.size, 4, none⟩ = some (.slice A5_4_2 n5_4_2 c5_4_2) ∧
                  ∃ (A5_5_2 : Option Addr) (n5_5_2 c5_5_2 : Nat),
                  w_7.cell? ⟨w.heap.size, 5, none⟩ = some (.slice A5_5_2 n5_5_2 c5_5_2) ∧
                  R (.tuple #[.int .i64 0, .agg #[.slice A5_0_2 n5_0_2 c5_0_2, .slice A5_1_2 n5_1_2 c5_1_2, .slice A5_2_2 n5_2_2 c5_2_2, .slice A5_3_2 n5_3_2 c5_3_2, .slice A5_4_2 n5_4_2 c5_4_2, .slice A5_5_2 n5_5_2 c5_5_2], .int .i64 120]) w_7) (
                  let i66 : Int := IntKind.i64.wrap (2 * x25);
                  let i67 : Int := IntKind.i64.wrap (4 + i66);
                  (0 : Int) ≤ 2 ∧ 2 < (4 : Int) ∧
                  ∃ (x69 : Int),
                  w_6.cell? ⟨w_3.heap.size, 2, none⟩ = some (.int .i64 x69) ∧
                  (0 : Int) ≤ 3 ∧ 3 < (4 : Int) ∧
                  ∃ (x71 : Int),
                  w_6.cell? ⟨w_3.heap.size, 3, none⟩ = some (.int .i64 x71) ∧
                  let i72 : Int := IntKind.i64.wrap (x69 * x71);
                  let i73 : Int := IntKind.i64.wrap (i67 + i72);
                  sel (((na0 : Int) : Int) != (i73 : Int)) (
                    canStore w_6 w.heap.size 0 6 ∧
                    let w_8 : World := setCs w_6 w.heap.size 0 [.slice none 0 0, .slice none 0 0, .slice none 0 0, .slice none 0 0, .slice none 0 0, .slice none 0 0];
                    ∃ (A5_0_3 : Option Addr) (n5_0_3 c5_0_3 : Nat),
                    w_8.cell? ⟨w.heap.size, 0, none⟩ = some (.slice A5_0_3 n5_0_3 c5_0_3) ∧
                    ∃ (A5_1_3 : Option Addr) (n5_1_3 c5_1_3 : Nat),
                    w_8.cell? ⟨w.heap.size, 1, none⟩ = some (.slice A5_1_3 n5_1_3 c5_1_3) ∧
                    ∃ (A5_2_3 : Option Addr) (n5_2_3 c5_2_3 : Nat),
                    w_8.cell? ⟨w.heap.size, 2, none⟩ = some (.slice A5_2_3 n5_2_3 c5_2_3) ∧
                    ∃ (A5_3_3 : Option Addr) (n5_3_3 c5_3_3 : Nat),
                    w_8.cell? ⟨w.heap.size, 3, none⟩ = some (.slice A5_3_3 n5_3_3 c5_3_3) ∧
                    ∃ (A5_4_3 : Option Addr) (n5_4_3 c5_4_3 : Nat),
                    w_8.cell? ⟨w.heap.size, 4, none⟩ = some (.slice A5_4_3 n5_4_3 c5_4_3) ∧
                    ∃ (A5_5_3 : Option Addr) (n5_5_3 c5_5_3 : Nat),
                    w_8.cell? ⟨w.heap.size, 5, none⟩ = some (.slice A5_5_3 n5_5_3 c5_5_3) ∧
                    R (.tuple #[.int .i64 0, .agg #[.slice A5_0_3 n5_0_3 c5_0_3, .slice A5_1_3 n5_1_3 c5_1_3, .slice A5_2_3 n5_2_3 c5_2_3, .slice A5_3_3 n5_3_3 c5_3_3, .slice A5_4_3 n5_4_3 c5_4_3, .slice A5_5_3 n5_5_3 c5_5_3], .int .i64 120]) w_8) (
                    Calls Try.prog 65 #[.slice Aa0 na0 ca0, .int .i64 x25, .pointer a1] w_6 fun e_2 w_9 =>
                    ∃ (A81_0_0 : Option Addr) (n81_0_0 c81_0_0 : Nat) (A81_0_1 : Option Addr) (n81_0_1 c81_0_1 : Nat) (A81_0_2 : Option Addr) (n81_0_2 c81_0_2 : Nat) (A81_0_3 : Option Addr) (n81_0_3 c81_0_3 : Nat) (b81_1 : Bool),
                    e_2 = .returned (.tuple #[.agg #[.slice A81_0_0 n81_0_0 c81_0_0, .slice A81_0_1 n81_0_1 c81_0_1, .slice A81_0_2 n81_0_2 c81_0_2, .slice A81_0_3 n81_0_3 c81_0_3], .bool b81_1]) ∧
                    let w_10 : World := World.alloc w_9 (.cells #[.slice none 0 0, .slice none 0 0, .slice none 0 0, .slice none 0 0] 110);
                    canStore w_10 w_9.heap.size 0 4 ∧
                    let w_11 : World := setCs w_10 w_9.heap.size 0 [.slice A81_0_0 n81_0_0 c81_0_0, .slice A81_0_1 n81_0_1 c81_0_1, .slice A81_0_2 n81_0_2 c81_0_2, .slice A81_0_3 n81_0_3 c81_0_3];
                    sel (!b81_1) (
                      canStore w_11 w.heap.size 0 6 ∧
                      let w_12 : World := setCs w_11 w.heap.size 0 [.slice none 0 0, .slice none 0 0, .slice none 0 0, .slice none 0 0, .slice none 0 0, .slice none 0 0];
                      ∃ (A5_0_4 : Option Addr) (n5_0_4 c5_0_4 : Nat),
                      w_12.cell? ⟨w.heap.size, 0, none⟩ = some (.slice A5_0_4 n5_0_4 c5_0_4) ∧
                      ∃ (A5_1_4 : Option Addr) (n5_1_4 c5_1_4 : Nat),
                      w_12.cell? ⟨w.heap.size, 1, none⟩ = some (.slice A5_1_4 n5_1_4 c5_1_4) ∧
                      ∃ (A5_2_4 : Option Addr) (n5_2_4 c5_2_4 : Nat),
                      w_12.cell? ⟨w.heap.size, 2, none⟩ = some (.slice A5_2_4 n5_2_4 c5_2_4) ∧
                      ∃ (A5_3_4 : Option Addr) (n5_3_4 c5_3_4 : Nat),
                      w_12.cell? ⟨w.heap.size, 3, none⟩ = some (.slice A5_3_4 n5_3_4 c5_3_4) ∧
                      ∃ (A5_4_4 : Option Addr) (n5_4_4 c5_4_4 : Nat),
                      w_12.cell? ⟨w.heap.size, 4, none⟩ = some (.slice A5_4_4 n5_4_4 c5_4_4) ∧
                      ∃ (A5_5_4 : Option Addr) (n5_5_4 c5_5_4 : Nat),
                      w_12.cell? ⟨w.heap.size, 5, none⟩ = some (.slice A5_5_4 n5_5_4 c5_5_4) ∧
                      R (.tuple #[.int .i64 0, .agg #[.slice A5_0_4 n5_0_4 c5_0_4, .slice A5_1_4 n5_1_4 c5_1_4, .slice A5_2_4 n5_2_4 c5_2_4, .slice A5_3_4 n5_3_4 c5_3_4, .slice A5_4_4 n5_4_4 c5_4_4, .slice A5_5_4 n5_5_4 c5_5_4], .int .i64 120]) w_12) (
                      (0 : Int) ≤ 3 ∧ 3 < (4 : Int) ∧
                      ∃ (A88 : Option Addr) (n88 c88 : Nat),
                      w_11.cell? ⟨w_9.heap.size, 3, none⟩ = some (.slice A88 n88 c88) ∧
                      (0 : Int) ≤ 1 ∧ 1 < (4 : Int) ∧
                      ∃ (A91 : Option Addr) (n91 c91 : Nat),
                      w_11.cell? ⟨w_9.heap.size, 1, none⟩ = some (.slice A91 n91 c91) ∧
                      let i93 : Int := IntKind.i64.wrap ((n88 : Int) + (n91 : Int));
                      (0 : Int) ≤ 2 ∧ 2 < (4 : Int) ∧
                      ∃ (A95 : Option Addr) (n95 c95 : Nat),
                      w_11.cell? ⟨w_9.heap.size, 2, none⟩ = some (.slice A95 n95 c95) ∧
                      let i97 : Int := IntKind.i64.wrap (i93 + (n95 : Int));
                      ∃ (A98 : Option Addr) (n98 c98 : Nat),
                      ∃ w_13 : World, (Instr.makeSlice 25 (.int .i64 i97) (.int .i64 i97)).run Try.prog w_11 = .ok (.slice A98 n98 c98) w_13 ∧
                      Calls Try.prog 47 #[.agg #[.slice A98 n98 c98, .slice none 0 0, .slice none 0 0, .slice none 0 0, .slice none 0 0, .slice none 0 0]] w_13 fun e_3 w_14 =>
                      ∃ (x100 : Int),
                      e_3 = .returned (.int .i64 x100) ∧
                      sel ((x100 : Int) != (x25 : Int)) (
                        canStore w_14 w.heap.size 0 6 ∧
                        let w_15 : World := setCs w_14 w.heap.size 0 [.slice none 0 0, .slice none 0 0, .slice none 0 0, .slice none 0 0, .slice none 0 0, .slice none 0 0];
                        ∃ (A5_0_5 : Option Addr) (n5_0_5 c5_0_5 : Nat),
                        w_15.cell? ⟨w.heap.size, 0, none⟩ = some (.slice A5_0_5 n5_0_5 c5_0_5) ∧
                        ∃ (A5_1_5 : Option Addr) (n5_1_5 c5_1_5 : Nat),
                        w_15.cell? ⟨w.heap.size, 1, none⟩ = some (.slice A5_1_5 n5_1_5 c5_1_5) ∧
                        ∃ (A5_2_5 : Option Addr) (n5_2_5 c5_2_5 : Nat),
                        w_15.cell? ⟨w.heap.size, 2, none⟩ = some (.slice A5_2_5 n5_2_5 c5_2_5) ∧
                        ∃ (A5_3_5 : Option Addr) (n5_3_5 c5_3_5 : Nat),
                        w_15.cell? ⟨w.heap.size, 3, none⟩ = some (.slice A5_3_5 n5_3_5 c5_3_5) ∧
                        ∃ (A5_4_5 : Option Addr) (n5_4_5 c5_4_5 : Nat),
                        w_15.cell? ⟨w.heap.size, 4, none⟩ = some (.slice A5_4_5 n5_4_5 c5_4_5) ∧
                        ∃ (A5_5_5 : Option Addr) (n5_5_5 c5_5_5 : Nat),
                        w_15.cell? ⟨w.heap.size, 5, none⟩ = some (.slice A5_5_5 n5_5_5 c5_5_5) ∧
                        R (.tuple #[.int .i64 0, .agg #[.slice A5_0_5 n5_0_5 c5_0_5, .slice A5_1_5 n5_1_5 c5_1_5, .slice A5_2_5 n5_2_5 c5_2_5, .slice A5_3_5 n5_3_5 c5_3_5, .slice A5_4_5 n5_4_5 c5_4_5, .slice A5_5_5 n5_5_5 c5_5_5], .int .i64 120]) w_15) (
                        let w_16 : World := World.alloc w_14 (.cells #[.slice none 0 0, .slice none 0 0, .slice none 0 0, .slice none 0 0, .slice none 0 0, .slice none 0 0] 29);
                        (0 : Int) ≤ 3 ∧ 3 < (4 : Int) ∧
                        ∃ (A107 : Option Addr) (n107 c107 : Nat),
                        w_16.cell? ⟨w_9.heap.size, 3, none⟩ = some (.slice A107 n107 c107) ∧
                        Calls Try.prog 66 #[.slice A107 n107 c107, .pointer a1] w_16 fun e_4 w_17 =>
                        ∃ (A109_0 : Option Addr) (n109_0 c109_0 : Nat) (b109_1 : Bool),
                        e_4 = .returned (.tuple #[.slice A109_0 n109_0 c109_0, .bool b109_1]) ∧
                        canStore w_17 w_14.heap.size 0 1 ∧
                        let w_18 : World := setCs w_17 w_14.heap.size 0 [.slice A109_0 n109_0 c109_0];
                        sel (!b109_1) (
                          canStore w_18 w.heap.size 0 6 ∧
                          let w_19 : World := setCs w_18 w.heap.size 0 [.slice none 0 0, .slice none 0 0, .slice none 0 0, .slice none 0 0, .slice none 0 0, .slice none 0 0];
                          ∃ (A5_0_6 : Option Addr) (n5_0_6 c5_0_6 : Nat),
                          w_19.cell? ⟨w.heap.size, 0, none⟩ = some (.slice A5_0_6 n5_0_6 c5_0_6) ∧
                          ∃ (A5_1_6 : Option Addr) (n5_1_6 c5_1_6 : Nat),
                          w_19.cell? ⟨w.heap.size, 1, none⟩ = some (.slice A5_1_6 n5_1_6 c5_1_6) ∧
                          ∃ (A5_2_6 : Option Addr) (n5_2_6 c5_2_6 : Nat),
                          w_19.cell? ⟨w.heap.size, 2, none⟩ = some (.slice A5_2_6 n5_2_6 c5_2_6) ∧
                          ∃ (A5_3_6 : Option Addr) (n5_3_6 c5_3_6 : Nat),
                          w_19.cell? ⟨w.heap.size, 3, none⟩ = some (.slice A5_3_6 n5_3_6 c5_3_6) ∧
                          ∃ (A5_4_6 : Option Addr) (n5_4_6 c5_4_6 : Nat),
                          w_19.cell? ⟨w.heap.size, 4, none⟩ = some (.slice A5_4_6 n5_4_6 c5_4_6) ∧
                          ∃ (A5_5_6 : Option Addr) (n5_5_6 c5_5_6 : Nat),
                          w_19.cell? ⟨w.heap.size, 5, none⟩ = some (.slice A5_5_6 n5_5_6 c5_5_6) ∧
                          R (.tuple #[.int .i64 0, .agg #[.slice A5_0_6 n5_0_6 c5_0_6, .slice A5_1_6 n5_1_6 c5_1_6, .slice A5_2_6 n5_2_6 c5_2_6, .slice A5_3_6 n5_3_6 c5_3_6, .slice A5_4_6 n5_4_6 c5_4_6, .slice A5_5_6 n5_5_6 c5_5_6], .int .i64 120]) w_19) (
                          (0 : Int) ≤ 1 ∧ 1 < (4 : Int) ∧
                          ∃ (A118 : Option Addr) (n118 c118 : Nat),
                          w_18.cell? ⟨w_9.heap.size, 1, none⟩ = some (.slice A118 n118 c118) ∧
                          Calls Try.prog 67 #[.slice A118 n118 c118, .pointer a1] w_18 fun e_5 w_20 =>
                          ∃ (A120_0 : Option Addr) (n120_0 c120_0 : Nat) (A120_1 : Option Addr) (n120_1 c120_1 : Nat) (A120_2 : Option Addr) (n120_2 c120_2 : Nat),
                          e_5 = .returned (.tuple #[.slice A120_0 n120_0 c120_0, .slice A120_1 n120_1 c120_1, .slice A120_2 n120_2 c120_2]) ∧
                          canStore w_20 w_14.heap.size 1 1 ∧
                          let w_21 : World := setCs w_20 w_14.heap.size 1 [.slice A120_0 n120_0 c120_0];
                          canStore w_21 w_14.heap.size 3 1 ∧
                          let w_22 : World := setCs w_21 w_14.heap.size 3 [.slice A120_1 n120_1 c120_1];
                          (0 : Int) ≤ 2 ∧ 2 < (4 : Int) ∧
                          ∃ (A128 : Option Addr) (n128 c128 : Nat),
                          w_22.cell? ⟨w_9.heap.size, 2, none⟩ = some (.slice A128 n128 c128) ∧
                          Calls Try.prog 67 #[.slice A128 n128 c128, .pointer a1] w_22 fun e_6 w_23 =>
                          ∃ (A130_0 : Option Addr) (n130_0 c130_0 : Nat) (A130_1 : Option Addr) (n130_1 c130_1 : Nat) (A130_2 : Option Addr) (n130_2 c130_2 : Nat),
                          e_6 = .returned (.tuple #[.slice A130_0 n130_0 c130_0, .slice A130_1 n130_1 c130_1, .slice A130_2 n130_2 c130_2]) ∧
                          canStore w_23 w_14.heap.size 2 1 ∧
                          let w_24 : World := setCs w_23 w_14.heap.size 2 [.slice A130_0 n130_0 c130_0];
                          canStore w_24 w_14.heap.size 4 1 ∧
                          let w_25 : World := setCs w_24 w_14.heap.size 4 [.slice A130_1 n130_1 c130_1];
                          (0 : Int) ≤ 2 ∧ 2 < (4 : Int) ∧
                          ∃ (x138 : Int),
                          w_25.cell? ⟨w_3.heap.size, 2, none⟩ = some (.int .i64 x138) ∧
                          Calls Try.prog 68 #[.slice A120_2 n120_2 c120_2, .int .i64 x138] w_25 fun e_7 w_26 =>
                          ∃ (b139 : Bool),
                          e_7 = .returned (.bool b139) ∧
                          sel (!b139) (
                            canStore w_26 w.heap.size 0 6 ∧
                            let w_27 : World := setCs w_26 w.heap.size 0 [.slice none 0 0, .slice none 0 0, .slice none 0 0, .slice none 0 0, .slice none 0 0, .slice none 0 0];
                            ∃ (A5_0_7 : Option Addr) (n5_0_7 c5_0_7 : Nat),
                            w_27.cell? ⟨w.heap.size, 0, none⟩ = some (.slice A5_0_7 n5_0_7 c5_0_7) ∧
                            ∃ (A5_1_7 : Option Addr) (n5_1_7 c5_1_7 : Nat),
                            w_27.cell? ⟨w.heap.size, 1, none⟩ = some (.slice A5_1_7 n5_1_7 c5_1_7) ∧
                            ∃ (A5_2_7 : Option Addr) (n5_2_7 c5_2_7 : Nat),
                            w_27.cell? ⟨w.heap.size, 2, none⟩ = some (.slice A5_2_7 n5_2_7 c5_2_7) ∧
                            ∃ (A5_3_7 : Option Addr) (n5_3_7 c5_3_7 : Nat),
                            w_27.cell? ⟨w.heap.size, 3, none⟩ = some (.slice A5_3_7 n5_3_7 c5_3_7) ∧
                            ∃ (A5_4_7 : Option Addr) (n5_4_7 c5_4_7 : Nat),
                            w_27.cell? ⟨w.heap.size, 4, none⟩ = some (.slice A5_4_7 n5_4_7 c5_4_7) ∧
                            ∃ (A5_5_7 : Option Addr) (n5_5_7 c5_5_7 : Nat),
                            w_27.cell? ⟨w.heap.size, 5, none⟩ = some (.slice A5_5_7 n5_5_7 c5_5_7) ∧
                            R (.tuple #[.int .i64 0, .agg #[.slice A5_0_7 n5_0_7 c5_0_7, .slice A5_1_7 n5_1_7 c5_1_7, .slice A5_2_7 n5_2_7 c5_2_7, .slice A5_3_7 n5_3_7 c5_3_7, .slice A5_4_7 n5_4_7 c5_4_7, .slice A5_5_7 n5_5_7 c5_5_7], .int .i64 120]) w_27) (
                            (0 : Int) ≤ 3 ∧ 3 < (4 : Int) ∧
                            ∃ (x144 : Int),
                            w_26.cell? ⟨w_3.heap.size, 3, none⟩ = some (.int .i64 x144) ∧
                            Calls Try.prog 68 #[.slice A130_2 n130_2 c130_2, .int .i64 x144] w_26 fun e_8 w_28 =>
                            ∃ (b145 : Bool),
                            e_8 = .returned (.bool b145) ∧
                            sel (!b145) (
                              canStore w_28 w.heap.size 0 6 ∧
                              let w_29 : World := setCs w_28 w.heap.size 0 [.slice none 0 0, .slice none 0 0, .slice none 0 0, .slice none 0 0, .slice none 0 0, .slice none 0 0];
                              ∃ (A5_0_8 : Option Addr) (n5_0_8 c5_0_8 : Nat),
                              w_29.cell? ⟨w.heap.size, 0, none⟩ = some (.slice A5_0_8 n5_0_8 c5_0_8) ∧
                              ∃ (A5_1_8 : Option Addr) (n5_1_8 c5_1_8 : Nat),
                              w_29.cell? ⟨w.heap.size, 1, none⟩ = some (.slice A5_1_8 n5_1_8 c5_1_8) ∧
                              ∃ (A5_2_8 : Option Addr) (n5_2_8 c5_2_8 : Nat),
                              w_29.cell? ⟨w.heap.size, 2, none⟩ = some (.slice A5_2_8 n5_2_8 c5_2_8) ∧
                              ∃ (A5_3_8 : Option Addr) (n5_3_8 c5_3_8 : Nat),
                              w_29.cell? ⟨w.heap.size, 3, none⟩ = some (.slice A5_3_8 n5_3_8 c5_3_8) ∧
                              ∃ (A5_4_8 : Option Addr) (n5_4_8 c5_4_8 : Nat),
                              w_29.cell? ⟨w.heap.size, 4, none⟩ = some (.slice A5_4_8 n5_4_8 c5_4_8) ∧
                              ∃ (A5_5_8 : Option Addr) (n5_5_8 c5_5_8 : Nat),
                              w_29.cell? ⟨w.heap.size, 5, none⟩ = some (.slice A5_5_8 n5_5_8 c5_5_8) ∧
                              R (.tuple #[.int .i64 0, .agg #[.slice A5_0_8 n5_0_8 c5_0_8, .slice A5_1_8 n5_1_8 c5_1_8, .slice A5_2_8 n5_2_8 c5_2_8, .slice A5_3_8 n5_3_8 c5_3_8, .slice A5_4_8 n5_4_8 c5_4_8, .slice A5_5_8 n5_5_8 c5_5_8], .int .i64 120]) w_29) (
                              ∃ I : Int → World → Nat → Prop,
                              (∃ n, I 0 w_28 n) ∧
                              ∀ d : Env, ∀ (x151 : Int) (w_30 : World) (r : Nat), I x151 w_30 r →
                              sel (decide ((x151 : Int) < ((n120_2 : Int) : Int))) (
                                (0 : Int) ≤ x151 ∧ x151 < (n120_2 : Int) ∧
                                needPtr A120_2 fun b153 o153 =>
                                ∃ (x154 : Int),
                                w_30.cell? ⟨b153, o153 + x151.toNat * 1, none⟩ = some (.int .i64 x154) ∧
                                ∃ (A157 : Option Addr) (n157 c157 : Nat),
                                ∃ w_31 : World, (Instr.makeSlice 82 (.int .i64 0) (.int .i64 (n130_2 : Int))).run Try.prog w_30 = .ok (.slice A157 n157 c157) w_31 ∧
                                ∃ I_1 : Option Addr → Nat → Nat → Int → World → Nat → Prop,
                                (∃ n, I_1 A157 n157 c157 0 w_31 n) ∧
                                ∀ d_1 : Env, ∀ (A17 : Option Addr) (n17 c17 : Nat) (x160 : Int) (w_32 : World) (r_1 : Nat), I_1 A17 n17 c17 x160 w_32 r_1 →
                                sel (decide ((x160 : Int) < ((n130_2 : Int) : Int))) (
                                  (0 : Int) ≤ x160 ∧ x160 < (n130_2 : Int) ∧
                                  needPtr A130_2 fun b162 o162 =>
                                  ∃ (x163 : Int),
                                  w_32.cell? ⟨b162, o162 + x160.toNat * 1, none⟩ = some (.int .i64 x163) ∧
                                  let i166 : Int := IntKind.i64.wrap (2 * x25);
                                  let i167 : Int := IntKind.i64.wrap (4 + i166);
                                  let i169 : Int := IntKind.i64.wrap (x154 - 1);
                                  (0 : Int) ≤ 3 ∧ 3 < (4 : Int) ∧
                                  ∃ (x171 : Int),
                                  w_32.cell? ⟨w_3.heap.size, 3, none⟩ = some (.int .i64 x171) ∧
                                  let i172 : Int := IntKind.i64.wrap (i169 * x171);
                                  let i173 : Int := IntKind.i64.wrap (i167 + i172);
                                  let i175 : Int := IntKind.i64.wrap (i173 + x163);
                                  let i176 : Int := IntKind.i64.wrap (i175 - 1);
                                  (0 : Int) ≤ i176 ∧ i176 < (na0 : Int) ∧
                                  needPtr Aa0 fun b177 o177 =>
                                  ∃ (x178 : Int),
                                  w_32.cell? ⟨b177, o177 + i176.toNat * 1, none⟩ = some (.int .i64 x178) ∧
                                  sel (decide ((x178 : Int) < (0 : Int))) (
                                    canStore w_32 w.heap.size 0 6 ∧
                                    let w_33 : World := setCs w_32 w.heap.size 0 [.slice none 0 0, .slice none 0 0, .slice none 0 0, .slice none 0 0, .slice none 0 0, .slice none 0 0];
                                    ∃ (A5_0_9 : Option Addr) (n5_0_9 c5_0_9 : Nat),
                                    w_33.cell? ⟨w.heap.size, 0, none⟩ = some (.slice A5_0_9 n5_0_9 c5_0_9) ∧
                                    ∃ (A5_1_9 : Option Addr) (n5_1_9 c5_1_9 : Nat),
                                    w_33.cell? ⟨w.heap.size, 1, none⟩ = some (.slice A5_1_9 n5_1_9 c5_1_9) ∧
                                    ∃ (A5_2_9 : Option Addr) (n5_2_9 c5_2_9 : Nat),
                                    w_33.cell? ⟨w.heap.size, 2, none⟩ = some (.slice A5_2_9 n5_2_9 c5_2_9) ∧
                                    ∃ (A5_3_9 : Option Addr) (n5_3_9 c5_3_9 : Nat),
                                    w_33.cell? ⟨w.heap.size, 3, none⟩ = some (.slice A5_3_9 n5_3_9 c5_3_9) ∧
                                    ∃ (A5_4_9 : Option Addr) (n5_4_9 c5_4_9 : Nat),
                                    w_33.cell? ⟨w.heap.size, 4, none⟩ = some (.slice A5_4_9 n5_4_9 c5_4_9) ∧
                                    ∃ (A5_5_9 : Option Addr) (n5_5_9 c5_5_9 : Nat),
                                    w_33.cell? ⟨w.heap.size, 5, none⟩ = some (.slice A5_5_9 n5_5_9 c5_5_9) ∧
                                    R (.tuple #[.int .i64 0, .agg #[.slice A5_0_9 n5_0_9 c5_0_9, .slice A5_1_9 n5_1_9 c5_1_9, .slice A5_2_9 n5_2_9 c5_2_9, .slice A5_3_9 n5_3_9 c5_3_9, .slice A5_4_9 n5_4_9 c5_4_9, .slice A5_5_9 n5_5_9 c5_5_9], .int .i64 120]) w_33) (
                                    sel (decide ((65535 : Int) < (x178 : Int))) (
                                      canStore w_32 w.heap.size 0 6 ∧
                                      let w_34 : World := setCs w_32 w.heap.size 0 [.slice none 0 0, .slice none 0 0, .slice none 0 0, .slice none 0 0, .slice none 0 0, .slice none 0 0];
                                      ∃ (A5_0_10 : Option Addr) (n5_0_10 c5_0_10 : Nat),
                                      w_34.cell? ⟨w.heap.size, 0, none⟩ = some (.slice A5_0_10 n5_0_10 c5_0_10) ∧
                                      ∃ (A5_1_10 : Option Addr) (n5_1_10 c5_1_10 : Nat),
                                      w_34.cell? ⟨w.heap.size, 1, none⟩ = some (.slice A5_1_10 n5_1_10 c5_1_10) ∧
                                      ∃ (A5_2_10 : Option Addr) (n5_2_10 c5_2_10 : Nat),
                                      w_34.cell? ⟨w.heap.size, 2, none⟩ = some (.slice A5_2_10 n5_2_10 c5_2_10) ∧
                                      ∃ (A5_3_10 : Option Addr) (n5_3_10 c5_3_10 : Nat),
                                      w_34.cell? ⟨w.heap.size, 3, none⟩ = some (.slice A5_3_10 n5_3_10 c5_3_10) ∧
                                      ∃ (A5_4_10 : Option Addr) (n5_4_10 c5_4_10 : Nat),
                                      w_34.cell? ⟨w.heap.size, 4, none⟩ = some (.slice A5_4_10 n5_4_10 c5_4_10) ∧
                                      ∃ (A5_5_10 : Option Addr) (n5_5_10 c5_5_10 : Nat),
                                      w_34.cell? ⟨w.heap.size, 5, none⟩ = some (.slice A5_5_10 n5_5_10 c5_5_10) ∧
                                      R (.tuple #[.int .i64 0, .agg #[.slice A5_0_10 n5_0_10 c5_0_10, .slice A5_1_10 n5_1_10 c5_1_10, .slice A5_2_10 n5_2_10 c5_2_10, .slice A5_3_10 n5_3_10 c5_3_10, .slice A5_4_10 n5_4_10 c5_4_10, .slice A5_5_10 n5_5_10 c5_5_10], .int .i64 120]) w_34) (
                                      let i188 : Int := IntKind.u16.wrap x178;
                                      let w_35 : World := World.alloc w_32 (.cells #[.int .u16 i188] 79);
                                      ∃ (A190 : Option Addr) (n190 c190 : Nat),
                                      ∃ w_36 : World, (Builtin.append_ #[82, 82] 82 #[.slice A17 n17 c17, .slice (some ⟨w_32.heap.size, 0, none⟩) 1 1]).run Try.prog w_35 = .ok (.slice A190 n190 c190) w_36 ∧
                                      let i191 : Int := IntKind.i64.wrap (x160 + 1);
                                      ([.slice Aa0 na0 ca0, .pointer (some ⟨w.heap.size, 0, none⟩), .int .i64 x25, .pointer (some ⟨w_3.heap.size, 0, none⟩), .pointer (some ⟨w_14.heap.size, 0, none⟩), .slice A130_2 n130_2 c130_2, .int .i64 x154, .slice A120_2 n120_2 c120_2, .int .i64 (n120_2 : Int), .int .i64 x151, .slice A130_2 n130_2 c130_2, .int .i64 (n130_2 : Int)] : List Value) = ([.slice Aa0 na0 ca0, .pointer (some ⟨w.heap.size, 0, none⟩), .int .i64 x25, .pointer (some ⟨w_3.heap.size, 0, none⟩), .pointer (some ⟨w_14.heap.size, 0, none⟩), .slice A130_2 n130_2 c130_2, .int .i64 x154, .slice A120_2 n120_2 c120_2, .int .i64 (n120_2 : Int), .int .i64 x151, .slice A130_2 n130_2 c130_2, .int .i64 (n130_2 : Int)] : List Value) ∧ ∃ m, m < r_1 ∧ I_1 A190 n190 c190 i191 w_36 m))) (
                                  ∃ (A193 : Option Addr) (n193 c193 : Nat),
                                  w_32.cell? ⟨w_14.heap.size, 5, none⟩ = some (.slice A193 n193 c193) ∧
                                  let w_37 : World := World.alloc w_32 (.cells #[.slice A17 n17 c17] 82);
                                  ∃ (A196 : Option Addr) (n196 c196 : Nat),
                                  ∃ w_38 : World, (Builtin.append_ #[27, 27] 27 #[.slice A193 n193 c193, .slice (some ⟨w_32.heap.size, 0, none⟩) 1 1]).run Try.prog w_37 = .ok (.slice A196 n196 c196) w_38 ∧
                                  canStore w_38 w_14.heap.size 5 1 ∧
                                  let w_39 : World := setCs w_38 w_14.heap.size 5 [.slice A196 n196 c196];
                                  let i198 : Int := IntKind.i64.wrap (x151 + 1);
                                  ([.slice Aa0 na0 ca0, .pointer (some ⟨w.heap.size, 0, none⟩), .int .i64 x25, .pointer (some ⟨w_3.heap.size, 0, none⟩), .pointer (some ⟨w_14.heap.size, 0, none⟩), .slice A130_2 n130_2 c130_2, .slice A120_2 n120_2 c120_2, .int .i64 (n120_2 : Int)] : List Value) = ([.slice Aa0 na0 ca0, .pointer (some ⟨w.heap.size, 0, none⟩), .int .i64 x25, .pointer (some ⟨w_3.heap.size, 0, none⟩), .pointer (some ⟨w_14.heap.size, 0, none⟩), .slice A130_2 n130_2 c130_2, .slice A120_2 n120_2 c120_2, .int .i64 (n120_2 : Int)] : List Value) ∧ ∃ m, m < r ∧ I i198 w_39 m)) (
                                ∃ (A199_0 : Option Addr) (n199_0 c199_0 : Nat),
                                w_30.cell? ⟨w_14.heap.size, 0, none⟩ = some (.slice A199_0 n199_0 c199_0) ∧
                                ∃ (A199_1 : Option Addr) (n199_1 c199_1 : Nat),
                                w_30.cell? ⟨w_14.heap.size, 1, none⟩ = some (.slice A199_1 n199_1 c199_1) ∧
                                ∃ (A199_2 : Option Addr) (n199_2 c199_2 : Nat),
                                w_30.cell? ⟨w_14.heap.size, 2, none⟩ = some (.slice A199_2 n199_2 c199_2) ∧
                                ∃ (A199_3 : Option Addr) (n199_3 c199_3 : Nat),
                                w_30.cell? ⟨w_14.heap.size, 3, none⟩ = some (.slice A199_3 n199_3 c199_3) ∧
                                ∃ (A199_4 : Option Addr) (n199_4 c199_4 : Nat),
                                w_30.cell? ⟨w_14.heap.size, 4, none⟩ = some (.slice A199_4 n199_4 c199_4) ∧
                                ∃ (A199_5 : Option Addr) (n199_5 c199_5 : Nat),
                                w_30.cell? ⟨w_14.heap.size, 5, none⟩ = some (.slice A199_5 n199_5 c199_5) ∧
                                Calls Try.prog 34 #[.agg #[.slice A199_0 n199_0 c199_0, .slice A199_1 n199_1 c199_1, .slice A199_2 n199_2 c199_2, .slice A199_3 n199_3 c199_3, .slice A199_4 n199_4 c199_4, .slice A199_5 n199_5 c199_5]] w_30 fun e_9 w_40 =>
                                ∃ (b200 : Bool),
                                e_9 = .returned (.bool b200) ∧
                                sel (!b200) (
                                  canStore w_40 w.heap.size 0 6 ∧
                                  let w_41 : World := setCs w_40 w.heap.size 0 [.slice none 0 0, .slice none 0 0, .slice none 0 0, .slice none 0 0, .slice none 0 0, .slice none 0 0];
                                  ∃ (A5_0_11 : Option Addr) (n5_0_11 c5_0_11 : Nat),
                                  w_41.cell? ⟨w.heap.size, 0, none⟩ = some (.slice A5_0_11 n5_0_11 c5_0_11) ∧
                                  ∃ (A5_1_11 : Option Addr) (n5_1_11 c5_1_11 : Nat),
                                  w_41.cell? ⟨w.heap.size, 1, none⟩ = some (.slice A5_1_11 n5_1_11 c5_1_11) ∧
                                  ∃ (A5_2_11 : Option Addr) (n5_2_11 c5_2_11 : Nat),
                                  w_41.cell? ⟨w.heap.size, 2, none⟩ = some (.slice A5_2_11 n5_2_11 c5_2_11) ∧
                                  ∃ (A5_3_11 : Option Addr) (n5_3_11 c5_3_11 : Nat),
                                  w_41.cell? ⟨w.heap.size, 3, none⟩ = some (.slice A5_3_11 n5_3_11 c5_3_11) ∧
                                  ∃ (A5_4_11 : Option Addr) (n5_4_11 c5_4_11 : Nat),
                                  w_41.cell? ⟨w.heap.size, 4, none⟩ = some (.slice A5_4_11 n5_4_11 c5_4_11) ∧
                                  ∃ (A5_5_11 : Option Addr) (n5_5_11 c5_5_11 : Nat),
                                  w_41.cell? ⟨w.heap.size, 5, none⟩ = some (.slice A5_5_11 n5_5_11 c5_5_11) ∧
                                  R (.tuple #[.int .i64 0, .agg #[.slice A5_0_11 n5_0_11 c5_0_11, .slice A5_1_11 n5_1_11 c5_1_11, .slice A5_2_11 n5_2_11 c5_2_11, .slice A5_3_11 n5_3_11 c5_3_11, .slice A5_4_11 n5_4_11 c5_4_11, .slice A5_5_11 n5_5_11 c5_5_11], .int .i64 120]) w_41) (
                                  (0 : Int) ≤ 0 ∧ 0 < (4 : Int) ∧
                                  ∃ (x204 : Int),
                                  w_40.cell? ⟨w_3.heap.size, 0, none⟩ = some (.int .i64 x204) ∧
                                  ∃ (A205_0 : Option Addr) (n205_0 c205_0 : Nat),
                                  w_40.cell? ⟨w_14.heap.size, 0, none⟩ = some (.slice A205_0 n205_0 c205_0) ∧
                                  ∃ (A205_1 : Option Addr) (n205_1 c205_1 : Nat),
                                  w_40.cell? ⟨w_14.heap.size, 1, none⟩ = some (.slice A205_1 n205_1 c205_1) ∧
                                  ∃ (A205_2 : Option Addr) (n205_2 c205_2 : Nat),
                                  w_40.cell? ⟨w_14.heap.size, 2, none⟩ = some (.slice A205_2 n205_2 c205_2) ∧
                                  ∃ (A205_3 : Option Addr) (n205_3 c205_3 : Nat),
                                  w_40.cell? ⟨w_14.heap.size, 3, none⟩ = some (.slice A205_3 n205_3 c205_3) ∧
                                  ∃ (A205_4 : Option Addr) (n205_4 c205_4 : Nat),
                                  w_40.cell? ⟨w_14.heap.size, 4, none⟩ = some (.slice A205_4 n205_4 c205_4) ∧
                                  ∃ (A205_5 : Option Addr) (n205_5 c205_5 : Nat),
                                  w_40.cell? ⟨w_14.heap.size, 5, none⟩ = some (.slice A205_5 n205_5 c205_5) ∧
                                  canStore w_40 w.heap.size 0 6 ∧
                                  let w_42 : World := setCs w_40.drew w.heap.size 0 [.slice A205_0 n205_0 c205_0, .slice A205_1 n205_1 c205_1, .slice A205_2 n205_2 c205_2, .slice A205_3 n205_3 c205_3, .slice A205_4 n205_4 c205_4, .slice A205_5 n205_5 c205_5];
                                  ∃ (A5_0_12 : Option Addr) (n5_0_12 c5_0_12 : Nat),
                                  w_42.cell? ⟨w.heap.size, 0, none⟩ = some (.slice A5_0_12 n5_0_12 c5_0_12) ∧
                                  ∃ (A5_1_12 : Option Addr) (n5_1_12 c5_1_12 : Nat),
                                  w_42.cell? ⟨w.heap.size, 1, none⟩ = some (.slice A5_1_12 n5_1_12 c5_1_12) ∧
                                  ∃ (A5_2_12 : Option Addr) (n5_2_12 c5_2_12 : Nat),
                                  w_42.cell? ⟨w.heap.size, 2, none⟩ = some (.slice A5_2_12 n5_2_12 c5_2_12) ∧
                                  ∃ (A5_3_12 : Option Addr) (n5_3_12 c5_3_12 : Nat),
                                  w_42.cell? ⟨w.heap.size, 3, none⟩ = some (.slice A5_3_12 n5_3_12 c5_3_12) ∧
                                  ∃ (A5_4_12 : Option Addr) (n5_4_12 c5_4_12 : Nat),
                                  w_42.cell? ⟨w.heap.size, 4, none⟩ = some (.slice A5_4_12 n5_4_12 c5_4_12) ∧
                                  ∃ (A5_5_12 : Option Addr) (n5_5_12 c5_5_12 : Nat),
                                  w_42.cell? ⟨w.heap.size, 5, none⟩ = some (.slice A5_5_12 n5_5_12 c5_5_12) ∧
                                  R (.tuple #[.int .i64 x204, .agg #[.slice A5_0_12 n5_0_12 c5_0_12, .slice A5_1_12 n5_1_12 c5_1_12, .slice A5_2_12 n5_2_12 c5_2_12, .slice A5_3_12 n5_3_12 c5_3_12, .slice A5_4_12 n5_4_12 c5_4_12, .slice A5_5_12 n5_5_12 c5_5_12], .int .i64 0]) w_42)))))))))) (
                canStore w_6 w.heap.size 0 6 ∧
                let w_43 : World := setCs w_6 w.heap.size 0 [.slice none 0 0, .slice none 0 0, .slice none 0 0, .slice none 0 0, .slice none 0 0, .slice none 0 0];
                ∃ (A5_0_13 : Option Addr) (n5_0_13 c5_0_13 : Nat),
                w_43.cell? ⟨w.heap.size, 0, none⟩ = some (.slice A5_0_13 n5_0_13 c5_0_13) ∧
                ∃ (A5_1_13 : Option Addr) (n5_1_13 c5_1_13 : Nat),
                w_43.cell? ⟨w.heap.size, 1, none⟩ = some (.slice A5_1_13 n5_1_13 c5_1_13) ∧
                ∃ (A5_2_13 : Option Addr) (n5_2_13 c5_2_13 : Nat),
                w_43.cell? ⟨w.heap.size, 2, none⟩ = some (.slice A5_2_13 n5_2_13 c5_2_13) ∧
                ∃ (A5_3_13 : Option Addr) (n5_3_13 c5_3_13 : Nat),
                w_43.cell? ⟨w.heap.size, 3, none⟩ = some (.slice A5_3_13 n5_3_13 c5_3_13) ∧
                ∃ (A5_4_13 : Option Addr) (n5_4_13 c5_4_13 : Nat),
                w_43.cell? ⟨w.heap.size, 4, none⟩ = some (.slice A5_4_13 n5_4_13 c5_4_13) ∧
                ∃ (A5_5_13 : Option Addr) (n5_5_13 c5_5_13 : Nat),
                w_43.cell? ⟨w.heap.size, 5, none⟩ = some (.slice A5_5_13 n5_5_13 c5_5_13) ∧
                R (.tuple #[.int .i64 0, .agg #[.slice A5_0_13 n5_0_13 c5_0_13, .slice A5_1_13 n5_1_13 c5_1_13, .slice A5_2_13 n5_2_13 c5_2_13, .slice A5_3_13 n5_3_13 c5_3_13, .slice A5_4_13 n5_4_13 c5_4_13, .slice A5_5_13 n5_5_13 c5_5_13], .int .i64 120]) w_43)) (
              canStore w_6 w.heap.size 0 6 ∧
              let w_44 : World := setCs w_6 w.heap.size 0 [.slice none 0 0, .slice none 0 0, .slice none 0 0, .slice none 0 0, .slice none 0 0, .slice none 0 0];
              ∃ (A5_0_14 : Option Addr) (n5_0_14 c5_0_14 : Nat),
              w_44.cell? ⟨w.heap.size, 0, none⟩ = some (.slice A5_0_14 n5_0_14 c5_0_14) ∧
              ∃ (A5_1_14 : Option Addr) (n5_1_14 c5_1_14 : Nat),
              w_44.cell? ⟨w.heap.size, 1, none⟩ = some (.slice A5_1_14 n5_1_14 c5_1_14) ∧
              ∃ (A5_2_14 : Option Addr) (n5_2_14 c5_2_14 : Nat),
              w_44.cell? ⟨w.heap.size, 2, none⟩ = some (.slice A5_2_14 n5_2_14 c5_2_14) ∧
              ∃ (A5_3_14 : Option Addr) (n5_3_14 c5_3_14 : Nat),
              w_44.cell? ⟨w.heap.size, 3, none⟩ = some (.slice A5_3_14 n5_3_14 c5_3_14) ∧
              ∃ (A5_4_14 : Option Addr) (n5_4_14 c5_4_14 : Nat),
              w_44.cell? ⟨w.heap.size, 4, none⟩ = some (.slice A5_4_14 n5_4_14 c5_4_14) ∧
              ∃ (A5_5_14 : Option Addr) (n5_5_14 c5_5_14 : Nat),
              w_44.cell? ⟨w.heap.size, 5, none⟩ = some (.slice A5_5_14 n5_5_14 c5_5_14) ∧
              R (.tuple #[.int .i64 0, .agg #[.slice A5_0_14 n5_0_14 c5_0_14, .slice A5_1_14 n5_1_14 c5_1_14, .slice A5_2_14 n5_2_14 c5_2_14, .slice A5_3_14 n5_3_14 c5_3_14, .slice A5_4_14 n5_4_14 c5_4_14, .slice A5_5_14 n5_5_14 c5_5_14], .int .i64 120]) w_44)) (
            canStore w_6 w.heap.size 0 6 ∧
            let w_45 : World := setCs w_6 w.heap.size 0 [.slice none 0 0, .slice none 0 0, .slice none 0 0, .slice none 0 0, .slice none 0 0, .slice none 0 0];
            ∃ (A5_0_15 : Option Addr) (n5_0_15 c5_0_15 : Nat),
            w_45.cell? ⟨w.heap.size, 0, none⟩ = some (.slice A5_0_15 n5_0_15 c5_0_15) ∧
            ∃ (A5_1_15 : Option Addr) (n5_1_15 c5_1_15 : Nat),
            w_45.cell? ⟨w.heap.size, 1, none⟩ = some (.slice A5_1_15 n5_1_15 c5_1_15) ∧
            ∃ (A5_2_15 : Option Addr) (n5_2_15 c5_2_15 : Nat),
            w_45.cell? ⟨w.heap.size, 2, none⟩ = some (.slice A5_2_15 n5_2_15 c5_2_15) ∧
            ∃ (A5_3_15 : Option Addr) (n5_3_15 c5_3_15 : Nat),
            w_45.cell? ⟨w.heap.size, 3, none⟩ = some (.slice A5_3_15 n5_3_15 c5_3_15) ∧
            ∃ (A5_4_15 : Option Addr) (n5_4_15 c5_4_15 : Nat),
            w_45.cell? ⟨w.heap.size, 4, none⟩ = some (.slice A5_4_15 n5_4_15 c5_4_15) ∧
            ∃ (A5_5_15 : Option Addr) (n5_5_15 c5_5_15 : Nat),
            w_45.cell? ⟨w.heap.size, 5, none⟩ = some (.slice A5_5_15 n5_5_15 c5_5_15) ∧
            R (.tuple #[.int .i64 0, .agg #[.slice A5_0_15 n5_0_15 c5_0_15, .slice A5_1_15 n5_1_15 c5_1_15, .slice A5_2_15 n5_2_15 c5_2_15, .slice A5_3_15 n5_3_15 c5_3_15, .slice A5_4_15 n5_4_15 c5_4_15, .slice A5_5_15 n5_5_15 c5_5_15], .int .i64 120]) w_45)) (
          canStore w_6 w.heap.size 0 6 ∧
          let w_46 : World := setCs w_6 w.heap.size 0 [.slice none 0 0, .slice none 0 0, .slice none 0 0, .slice none 0 0, .slice none 0 0, .slice none 0 0];
          ∃ (A5_0_16 : Option Addr) (n5_0_16 c5_0_16 : Nat),
          w_46.cell? ⟨w.heap.size, 0, none⟩ = some (.slice A5_0_16 n5_0_16 c5_0_16) ∧
          ∃ (A5_1_16 : Option Addr) (n5_1_16 c5_1_16 : Nat),
          w_46.cell? ⟨w.heap.size, 1, none⟩ = some (.slice A5_1_16 n5_1_16 c5_1_16) ∧
          ∃ (A5_2_16 : Option Addr) (n5_2_16 c5_2_16 : Nat),
          w_46.cell? ⟨w.heap.size, 2, none⟩ = some (.slice A5_2_16 n5_2_16 c5_2_16) ∧
          ∃ (A5_3_16 : Option Addr) (n5_3_16 c5_3_16 : Nat),
          w_46.cell? ⟨w.heap.size, 3, none⟩ = some (.slice A5_3_16 n5_3_16 c5_3_16) ∧
          ∃ (A5_4_16 : Option Addr) (n5_4_16 c5_4_16 : Nat),
          w_46.cell? ⟨w.heap.size, 4, none⟩ = some (.slice A5_4_16 n5_4_16 c5_4_16) ∧
          ∃ (A5_5_16 : Option Addr) (n5_5_16 c5_5_16 : Nat),
          w_46.cell? ⟨w.heap.size, 5, none⟩ = some (.slice A5_5_16 n5_5_16 c5_5_16) ∧
          R (.tuple #[.int .i64 0, .agg #[.slice A5_0_16 n5_0_16 c5_0_16, .slice A5_1_16 n5_1_16 c5_1_16, .slice A5_2_16 n5_2_16 c5_2_16, .slice A5_3_16 n5_3_16 c5_3_16, .slice A5_4_16 n5_4_16 c5_4_16, .slice A5_5_16 n5_5_16 c5_5_16], .int .i64 120]) w_46)) (
        canStore w_6 w.heap.size 0 6 ∧
        let w_47 : World := setCs w_6 w.heap.size 0 [.slice none 0 0, .slice none 0 0, .slice none 0 0, .slice none 0 0, .slice none 0 0, .slice none 0 0];
        ∃ (A5_0_17 : Option Addr) (n5_0_17 c5_0_17 : Nat),
        w_47.cell? ⟨w.heap.size, 0, none⟩ = some (.slice A5_0_17 n5_0_17 c5_0_17) ∧
        ∃ (A5_1_17 : Option Addr) (n5_1_17 c5_1_17 : Nat),
        w_47.cell? ⟨w.heap.size, 1, none⟩ = some (.slice A5_1_17 n5_1_17 c5_1_17) ∧
        ∃ (A5_2_17 : Option Addr) (n5_2_17 c5_2_17 : Nat),
        w_47.cell? ⟨w.heap.size, 2, none⟩ = some (.slice A5_2_17 n5_2_17 c5_2_17) ∧
        ∃ (A5_3_17 : Option Addr) (n5_3_17 c5_3_17 : Nat),
        w_47.cell? ⟨w.heap.size, 3, none⟩ = some (.slice A5_3_17 n5_3_17 c5_3_17) ∧
        ∃ (A5_4_17 : Option Addr) (n5_4_17 c5_4_17 : Nat),
        w_47.cell? ⟨w.heap.size, 4, none⟩ = some (.slice A5_4_17 n5_4_17 c5_4_17) ∧
        ∃ (A5_5_17 : Option Addr) (n5_5_17 c5_5_17 : Nat),
        w_47.cell? ⟨w.heap.size, 5, none⟩ = some (.slice A5_5_17 n5_5_17 c5_5_17) ∧
        R (.tuple #[.int .i64 0, .agg #[.slice A5_0_17 n5_0_17 c5_0_17, .slice A5_1_17 n5_1_17 c5_1_17, .slice A5_2_17 n5_2_17 c5_2_17, .slice A5_3_17 n5_3_17 c5_3_17, .slice A5_4_17 n5_4_17 c5_4_17, .slice A5_5_17 n5_5_17 c5_5_17], .int .i64 120]) w_47)))
theorem f27n.eq (Aa0 : Option Addr) (na0 ca0 : Nat) (a1 : Option Addr) (w : World) (R : Value → World → Prop) : f27n.VC Aa0 na0 ca0 a1 w R = funV Try.prog Try.f27 f27n.AL f27n.AC #[.slice Aa0 na0 ca0, .pointer a1] w R := by kernel_rfl
theorem f27n.calls {Aa0 : Option Addr} {na0 ca0 : Nat} {a1 : Option Addr} {w : World} {R : Value → World → Prop} (h : f27n.VC Aa0 na0 ca0 a1 w R) : Calls Try.prog 27 #[.slice Aa0 na0 ca0, .pointer a1] w fun e w' => ∃ v, e = .returned v ∧ R v w' :=
  funV_sound (fn := Try.f27) (AL := f27n.AL) (AC := f27n.AC) W21.mixed (by kernel_rfl) (by rw [← f27n.eq Aa0 na0 ca0 a1]; exact h)

end Go.Proofs.Ytjmlfknogjaemaa
