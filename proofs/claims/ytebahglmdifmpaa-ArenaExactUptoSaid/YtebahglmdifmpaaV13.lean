/- The plain statements of some functions, printed by vcgen.py. -/
import Derived.Test.YtebahglmdifmpaaVcC
import Derived.Test.YtebahglmdifmpaaProg
import Derived.KernelRfl
set_option maxRecDepth 100000
set_option linter.unusedVariables false
namespace Go.Proofs.Ytebahglmdifmpaa
open Go Go.Proofs.Ytebahglmdifmpaa.Vc
theorem V13.mixed : Try.prog.follows .mixedOrders = true := by kernel_rfl
/-- (*gatehouse/gatehouselaw15.pair).one -/
def f57.AL : Nat → Option Ann := fun _ => none
def f57.AC : Nat → Option Ann := fun _ => none
def f57.VC (a0 : Nat) (xa1_0 : Int) (xa1_1 : Int) (xa1_2 : Int) (xa1_3 : Int) (w : World) (R : Value → World → Prop) : Prop :=
  let w_1 : World := World.alloc w (.cells #[.int .i64 xa1_0, .int .i64 xa1_1, .int .i64 xa1_2, .int .i64 xa1_3] 90);
  ∃ (x12 : Int),
  w_1.cell? ⟨w.heap.size, 0, none⟩ = some (.int .i64 x12) ∧
  sel ((x12 : Int) == (1 : Int)) (
    ∃ (p19 : Option Addr),
    w_1.cell? ⟨a0, 1, none⟩ = some (.pointer p19) ∧
    ∃ (x21 : Int),
    w_1.cell? ⟨w.heap.size, 2, none⟩ = some (.int .i64 x21) ∧
    Calls Try.prog 43 #[.pointer p19, .int .i64 x21] w_1.drew fun e_1 w_2 =>
    ∃ (x22_0 : Int) (x22_1 : Int),
    e_1 = .returned (.tuple #[.int .i64 x22_0, .int .i64 x22_1]) ∧
    ∃ (p29 : Option Addr),
    w_2.cell? ⟨a0, 2, none⟩ = some (.pointer p29) ∧
    ∃ (x31 : Int),
    w_2.cell? ⟨w.heap.size, 2, none⟩ = some (.int .i64 x31) ∧
    Calls Try.prog 44 #[.pointer p29, .int .i64 x31] w_2.drew fun e_2 w_3 =>
    ∃ (x32_0 : Int) (x32_1 : Int),
    e_2 = .returned (.tuple #[.int .i64 x32_0, .int .i64 x32_1]) ∧
    sel ((x22_0 : Int) == (x32_0 : Int)) (
      R (.bool ((x22_1 : Int) == (x32_1 : Int))) w_3) (
      R (.bool false) w_3)) (
    sel ((x12 : Int) == (2 : Int)) (
      ∃ (p48 : Option Addr),
      w_1.cell? ⟨a0, 1, none⟩ = some (.pointer p48) ∧
      ∃ (x50 : Int),
      w_1.cell? ⟨w.heap.size, 2, none⟩ = some (.int .i64 x50) ∧
      (Calls Try.prog 41 #[.pointer p48, .int .i64 x50] w_1.drew fun e_3 w_4 =>
        ∃ (x51 : Int),
        e_3 = .returned (.int .i64 x51) ∧
        ∃ (p55 : Option Addr),
        w_4.cell? ⟨a0, 2, none⟩ = some (.pointer p55) ∧
        ∃ (x57 : Int),
        w_4.cell? ⟨w.heap.size, 2, none⟩ = some (.int .i64 x57) ∧
        Calls Try.prog 42 #[.pointer p55, .int .i64 x57] w_4 fun e_4 w_5 =>
        ∃ (x58 : Int),
        e_4 = .returned (.int .i64 x58) ∧
        R (.bool ((x51 : Int) == (x58 : Int))) w_5) ∧
      (∃ (p55_1 : Option Addr),
        w_1.cell? ⟨a0, 2, none⟩ = some (.pointer p55_1) ∧
        (Calls Try.prog 41 #[.pointer p48, .int .i64 x50] w_1.drew fun e_5 w_6 =>
          ∃ (x51_1 : Int),
          e_5 = .returned (.int .i64 x51_1) ∧
          ∃ (x57_1 : Int),
          w_6.cell? ⟨w.heap.size, 2, none⟩ = some (.int .i64 x57_1) ∧
          Calls Try.prog 42 #[.pointer p55_1, .int .i64 x57_1] w_6 fun e_6 w_7 =>
          ∃ (x58_1 : Int),
          e_6 = .returned (.int .i64 x58_1) ∧
          R (.bool ((x51_1 : Int) == (x58_1 : Int))) w_7) ∧
        (∃ (x57_2 : Int),
          w_1.cell? ⟨w.heap.size, 2, none⟩ = some (.int .i64 x57_2) ∧
          Calls Try.prog 41 #[.pointer p48, .int .i64 x50] w_1.drew fun e_7 w_8 =>
          ∃ (x51_2 : Int),
          e_7 = .returned (.int .i64 x51_2) ∧
          Calls Try.prog 42 #[.pointer p55_1, .int .i64 x57_2] w_8 fun e_8 w_9 =>
          ∃ (x58_2 : Int),
          e_8 = .returned (.int .i64 x58_2) ∧
          R (.bool ((x51_2 : Int) == (x58_2 : Int))) w_9) ∧ True) ∧
      (∃ (x57_3 : Int),
        w_1.cell? ⟨w.heap.size, 2, none⟩ = some (.int .i64 x57_3) ∧
        (Calls Try.prog 41 #[.pointer p48, .int .i64 x50] w_1.drew fun e_9 w_10 =>
          ∃ (x51_3 : Int),
          e_9 = .returned (.int .i64 x51_3) ∧
          ∃ (p55_2 : Option Addr),
          w_10.cell? ⟨a0, 2, none⟩ = some (.pointer p55_2) ∧
          Calls Try.prog 42 #[.pointer p55_2, .int .i64 x57_3] w_10 fun e_10 w_11 =>
          ∃ (x58_3 : Int),
          e_10 = .returned (.int .i64 x58_3) ∧
          R (.bool ((x51_3 : Int) == (x58_3 : Int))) w_11) ∧
        (∃ (p55_3 : Option Addr),
          w_1.cell? ⟨a0, 2, none⟩ = some (.pointer p55_3) ∧
          Calls Try.prog 41 #[.pointer p48, .int .i64 x50] w_1.drew fun e_11 w_12 =>
          ∃ (x51_4 : Int),
          e_11 = .returned (.int .i64 x51_4) ∧
          Calls Try.prog 42 #[.pointer p55_3, .int .i64 x57_3] w_12 fun e_12 w_13 =>
          ∃ (x58_4 : Int),
          e_12 = .returned (.int .i64 x58_4) ∧
          R (.bool ((x51_4 : Int) == (x58_4 : Int))) w_13) ∧ True) ∧ True) (
      sel ((x12 : Int) == (3 : Int)) (
        ∃ (p65 : Option Addr),
        w_1.cell? ⟨a0, 2, none⟩ = some (.pointer p65) ∧
        ∃ (x67 : Int),
        w_1.cell? ⟨w.heap.size, 2, none⟩ = some (.int .i64 x67) ∧
        Calls Try.prog 40 #[.pointer p65, .int .i64 x67] w_1.drew fun e_13 w_14 =>
        ∃ (x68 : Int),
        e_13 = .returned (.int .i64 x68) ∧
        ∃ (p72 : Option Addr),
        w_14.cell? ⟨a0, 1, none⟩ = some (.pointer p72) ∧
        (Calls Try.prog 41 #[.pointer p72, .int .i64 x68] w_14.drew fun e_14 w_15 =>
          ∃ (x74 : Int),
          e_14 = .returned (.int .i64 x74) ∧
          ∃ (p78 : Option Addr),
          w_15.cell? ⟨a0, 2, none⟩ = some (.pointer p78) ∧
          Calls Try.prog 42 #[.pointer p78, .int .i64 x68] w_15 fun e_15 w_16 =>
          ∃ (x80 : Int),
          e_15 = .returned (.int .i64 x80) ∧
          R (.bool ((x74 : Int) == (x80 : Int))) w_16) ∧
        (∃ (p78_1 : Option Addr),
          w_14.cell? ⟨a0, 2, none⟩ = some (.pointer p78_1) ∧
          Calls Try.prog 41 #[.pointer p72, .int .i64 x68] w_14.drew fun e_16 w_17 =>
          ∃ (x74_1 : Int),
          e_16 = .returned (.int .i64 x74_1) ∧
          Calls Try.prog 42 #[.pointer p78_1, .int .i64 x68] w_17 fun e_17 w_18 =>
          ∃ (x80_1 : Int),
          e_17 = .returned (.int .i64 x80_1) ∧
          R (.bool ((x74_1 : Int) == (x80_1 : Int))) w_18) ∧ True) (
        sel ((x12 : Int) == (4 : Int)) (
          ∃ (p87 : Option Addr),
          w_1.cell? ⟨a0, 1, none⟩ = some (.pointer p87) ∧
          (Calls Try.prog 49 #[.pointer p87] w_1.drew fun e_18 w_19 =>
            ∃ (x88 : Int),
            e_18 = .returned (.int .i64 x88) ∧
            ∃ (p92 : Option Addr),
            w_19.cell? ⟨a0, 2, none⟩ = some (.pointer p92) ∧
            Calls Try.prog 50 #[.pointer p92] w_19 fun e_19 w_20 =>
            ∃ (x93 : Int),
            e_19 = .returned (.int .i64 x93) ∧
            R (.bool ((x88 : Int) == (x93 : Int))) w_20) ∧
          (∃ (p92_1 : Option Addr),
            w_1.cell? ⟨a0, 2, none⟩ = some (.pointer p92_1) ∧
            Calls Try.prog 49 #[.pointer p87] w_1.drew fun e_20 w_21 =>
            ∃ (x88_1 : Int),
            e_20 = .returned (.int .i64 x88_1) ∧
            Calls Try.prog 50 #[.pointer p92_1] w_21 fun e_21 w_22 =>
            ∃ (x93_1 : Int),
            e_21 = .returned (.int .i64 x93_1) ∧
            R (.bool ((x88_1 : Int) == (x93_1 : Int))) w_22) ∧ True) (
          sel ((x12 : Int) == (5 : Int)) (
            ∃ (p100 : Option Addr),
            w_1.cell? ⟨a0, 1, none⟩ = some (.pointer p100) ∧
            (Calls Try.prog 45 #[.pointer p100] w_1.drew fun e_22 w_23 =>
              ∃ (A101 : Option Addr) (n101 c101 : Nat),
              e_22 = .returned (.slice A101 n101 c101) ∧
              ∃ (p105 : Option Addr),
              w_23.cell? ⟨a0, 2, none⟩ = some (.pointer p105) ∧
              Calls Try.prog 47 #[.pointer p105] w_23 fun e_23 w_24 =>
              ∃ (A106 : Option Addr) (n106 c106 : Nat),
              e_23 = .returned (.slice A106 n106 c106) ∧
              Calls Try.prog 46 #[.slice A101 n101 c101, .slice A106 n106 c106] w_24 fun e_24 w_25 =>
              ∃ (b107 : Bool),
              e_24 = .returned (.bool b107) ∧
              R (.bool b107) w_25) ∧
            (∃ (p105_1 : Option Addr),
              w_1.cell? ⟨a0, 2, none⟩ = some (.pointer p105_1) ∧
              Calls Try.prog 45 #[.pointer p100] w_1.drew fun e_25 w_26 =>
              ∃ (A101_1 : Option Addr) (n101_1 c101_1 : Nat),
              e_25 = .returned (.slice A101_1 n101_1 c101_1) ∧
              Calls Try.prog 47 #[.pointer p105_1] w_26 fun e_26 w_27 =>
              ∃ (A106_1 : Option Addr) (n106_1 c106_1 : Nat),
              e_26 = .returned (.slice A106_1 n106_1 c106_1) ∧
              Calls Try.prog 46 #[.slice A101_1 n101_1 c101_1, .slice A106_1 n106_1 c106_1] w_27 fun e_27 w_28 =>
              ∃ (b107_1 : Bool),
              e_27 = .returned (.bool b107_1) ∧
              R (.bool b107_1) w_28) ∧ True) (
            sel ((x12 : Int) == (6 : Int)) (
              ∃ (x111 : Int),
              w_1.cell? ⟨w.heap.size, 2, none⟩ = some (.int .i64 x111) ∧
              ∃ (p115 : Option Addr),
              w_1.cell? ⟨a0, 2, none⟩ = some (.pointer p115) ∧
              needPtr p115 fun b116 o116 =>
              ∃ (A118 : Option Addr) (n118 c118 : Nat),
              w_1.cell? ⟨b116, o116 + 1, none⟩ = some (.slice A118 n118 c118) ∧
              Calls Try.prog 19 #[.int .i64 x111, .int .i64 (n118 : Int)] w_1.drew fun e_28 w_29 =>
              ∃ (x120 : Int),
              e_28 = .returned (.int .i64 x120) ∧
              ∃ (x122 : Int),
              w_29.cell? ⟨w.heap.size, 3, none⟩ = some (.int .i64 x122) ∧
              sel ((x122 : Int) != ((-4611686018427387904) : Int)) (
                ∃ (p128 : Option Addr),
                w_29.cell? ⟨a0, 2, none⟩ = some (.pointer p128) ∧
                needPtr p128 fun b129 o129 =>
                ∃ (A131 : Option Addr) (n131 c131 : Nat),
                w_29.cell? ⟨b129, o129 + 1, none⟩ = some (.slice A131 n131 c131) ∧
                (0 : Int) ≤ x120 ∧ x120 < (n131 : Int) ∧
                needPtr A131 fun b133 o133 =>
                ∃ (x134 : Int),
                w_29.cell? ⟨b133, o133 + x120.toNat * 1, none⟩ = some (.int .i64 x134) ∧
                sel ((x134 : Int) != ((-4611686018427387904) : Int)) (
                  ∃ (p140 : Option Addr),
                  w_29.cell? ⟨a0, 0, none⟩ = some (.pointer p140) ∧
                  ∃ (x143 : Int),
                  w_29.cell? ⟨w.heap.size, 3, none⟩ = some (.int .i64 x143) ∧
                  Calls Try.prog 83 #[.pointer p140, .int .i64 x120, .int .i64 x143] w_29.drew fun e_29 w_30 =>
                  ∃ (x144 : Int),
                  e_29 = .returned (.int .i64 x144) ∧
                  ∃ (p148 : Option Addr),
                  w_30.cell? ⟨a0, 2, none⟩ = some (.pointer p148) ∧
                  needPtr p148 fun b149 o149 =>
                  ∃ (A151 : Option Addr) (n151 c151 : Nat),
                  w_30.cell? ⟨b149, o149 + 1, none⟩ = some (.slice A151 n151 c151) ∧
                  ∃ (x154 : Int),
                  w_30.cell? ⟨w.heap.size, 3, none⟩ = some (.int .i64 x154) ∧
                  (0 : Int) ≤ x120 ∧ x120 < (n151 : Int) ∧
                  needPtr A151 fun b155 o155 =>
                  canStore w_30 b155 (o155 + x120.toNat * 1) 1 ∧
                  let w_31 : World := setCs w_30.drew b155 (o155 + x120.toNat * 1) [.int .i64 x154];
                  ∃ (x159 : Int),
                  w_31.cell? ⟨a0, 3, none⟩ = some (.int .i64 x159) ∧
                  let i160 : Int := IntKind.i64.wrap (x159 + 1);
                  canStore w_31 a0 3 1 ∧
                  let w_32 : World := setCs w_31 a0 3 [.int .i64 i160];
                  R (.bool true) w_32) (
                  R (.bool true) w_29)) (
                R (.bool true) w_29)) (
              R (.bool true) w_1))))))
theorem f57.eq (a0 : Nat) (xa1_0 : Int) (xa1_1 : Int) (xa1_2 : Int) (xa1_3 : Int) (w : World) (R : Value → World → Prop) : f57.VC a0 xa1_0 xa1_1 xa1_2 xa1_3 w R = funV Try.prog Try.f57 f57.AL f57.AC #[.pointer (some ⟨a0, 0, none⟩), .agg #[.int .i64 xa1_0, .int .i64 xa1_1, .int .i64 xa1_2, .int .i64 xa1_3]] w R := by kernel_rfl
theorem f57.calls {a0 : Nat} {xa1_0 : Int} {xa1_1 : Int} {xa1_2 : Int} {xa1_3 : Int} {w : World} {R : Value → World → Prop} (h : f57.VC a0 xa1_0 xa1_1 xa1_2 xa1_3 w R) : Calls Try.prog 57 #[.pointer (some ⟨a0, 0, none⟩), .agg #[.int .i64 xa1_0, .int .i64 xa1_1, .int .i64 xa1_2, .int .i64 xa1_3]] w fun e w' => ∃ v, e = .returned v ∧ R v w' :=
  funV_sound (fn := Try.f57) (AL := f57.AL) (AC := f57.AC) V13.mixed (by kernel_rfl) (by rw [← f57.eq a0 xa1_0 xa1_1 xa1_2 xa1_3]; exact h)

end Go.Proofs.Ytebahglmdifmpaa
