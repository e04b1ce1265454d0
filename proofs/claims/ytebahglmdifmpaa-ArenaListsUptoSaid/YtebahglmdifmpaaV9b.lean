/- The plain statements of some functions, printed by vcgen.py. -/
import Derived.Test.YtebahglmdifmpaaVcC
import Derived.Test.YtebahglmdifmpaaProg
import Derived.KernelRfl
set_option maxRecDepth 100000
set_option linter.unusedVariables false
namespace Go.Proofs.Ytebahglmdifmpaa
open Go Go.Proofs.Ytebahglmdifmpaa.Vc
theorem V9b.mixed : Try.prog.follows .mixedOrders = true := by kernel_rfl
/-- gatehouse/gatehouselaw15.ArenaLists -/
def f7.AL : Nat → Option Ann := fun r => match r with | 10 => some ⟨[(5, .bool), (13, .slice), (14, .int .i64)], [1, 9, 11]⟩ | _ => none
def f7.AC : Nat → Option Ann := fun _ => none
def f7.VC (xa0 : Int) (Aa1 : Option Addr) (na1 ca1 : Nat) (w : World) (R : Value → World → Prop) : Prop :=
  Calls Try.prog 11 #[] w fun e_1 w_1 =>
  ∃ (b20 : Bool),
  e_1 = .returned (.bool b20) ∧
  Calls Try.prog 19 #[.int .i64 xa0, .int .i64 200] w_1 fun e_2 w_2 =>
  ∃ (x22 : Int),
  e_2 = .returned (.int .i64 x22) ∧
  let i23 : Int := IntKind.i64.wrap (1 + x22);
  Calls Try.prog 37 #[.int .i64 i23] w_2 fun e_3 w_3 =>
  ∃ (p26_0 : Option Addr) (x26_1 : Int),
  e_3 = .returned (.tuple #[.pointer p26_0, .int .i64 x26_1]) ∧
  Calls Try.prog 38 #[.pointer p26_0, .int .i64 0] w_3 fun e_4 w_4 =>
  ∃ (p31_0 : Option Addr) (x31_1 : Int),
  e_4 = .returned (.tuple #[.pointer p31_0, .int .i64 x31_1]) ∧
  Calls Try.prog 39 #[.int .i64 i23, .int .i64 0] w_4 fun e_5 w_5 =>
  ∃ (p36_0 : Option Addr) (x36_1 : Int),
  e_5 = .returned (.tuple #[.pointer p36_0, .int .i64 x36_1]) ∧
  sel (Option.isNone p26_0) (
    R (.bool false) w_5) (
    sel (Option.isNone p31_0) (
      R (.bool false) w_5) (
      sel ((x31_1 : Int) != (0 : Int)) (
        R (.bool false) w_5) (
        ∃ I : Bool → Option Addr → Nat → Nat → Int → World → Nat → Prop,
        (∃ n, I b20 none 0 0 0 w_5 n) ∧
        ∀ d : Env, ∀ (b5 : Bool) (A13 : Option Addr) (n13 c13 : Nat) (x14 : Int) (w_6 : World) (r : Nat), I b5 A13 n13 c13 x14 w_6 r →
        sel (decide ((x14 : Int) < ((na1 : Int) : Int))) (
          sel (decide ((x14 : Int) < (30 : Int))) (
            (0 : Int) ≤ x14 ∧ x14 < (na1 : Int) ∧
            needPtr Aa1 fun b61 o61 =>
            ∃ (x62 : Int),
            w_6.cell? ⟨b61, o61 + x14.toNat * 1, none⟩ = some (.int .i64 x62) ∧
            sel (decide ((x62 : Int) < (0 : Int))) (
              (0 : Int) ≤ x14 ∧ x14 < (na1 : Int) ∧
              needPtr Aa1 fun b67 o67 =>
              ∃ (x68 : Int),
              w_6.cell? ⟨b67, o67 + x14.toNat * 1, none⟩ = some (.int .i64 x68) ∧
              let i69 : Int := IntKind.i64.wrap (0 - x68);
              Calls Try.prog 40 #[.pointer p36_0, .int .i64 i69] w_6 fun e_6 w_7 =>
              ∃ (x70 : Int),
              e_6 = .returned (.int .i64 x70) ∧
              Calls Try.prog 41 #[.pointer p31_0, .int .i64 x70] w_7 fun e_7 w_8 =>
              ∃ (x73 : Int),
              e_7 = .returned (.int .i64 x73) ∧
              Calls Try.prog 42 #[.pointer p36_0, .int .i64 x70] w_8 fun e_8 w_9 =>
              ∃ (x76 : Int),
              e_8 = .returned (.int .i64 x76) ∧
              Calls Try.prog 45 #[.pointer p31_0] w_9 fun e_9 w_10 =>
              ∃ (A90 : Option Addr) (n90 c90 : Nat),
              e_9 = .returned (.slice A90 n90 c90) ∧
              sel b5 (
                Calls Try.prog 47 #[.pointer p36_0] w_10 fun e_10 w_11 =>
                ∃ (A95 : Option Addr) (n95 c95 : Nat),
                e_10 = .returned (.slice A95 n95 c95) ∧
                Calls Try.prog 46 #[.slice A90 n90 c90, .slice A95 n95 c95] w_11 fun e_11 w_12 =>
                ∃ (b96 : Bool),
                e_11 = .returned (.bool b96) ∧
                let w_13 : World := World.alloc w_12 (.cells #[.slice A90 n90 c90] 83);
                ∃ (A101 : Option Addr) (n101 c101 : Nat),
                ∃ w_14 : World, (Builtin.append_ #[78, 78] 78 #[.slice A13 n13 c13, .slice (some ⟨w_12.heap.size, 0, none⟩) 1 1]).run Try.prog w_13 = .ok (.slice A101 n101 c101) w_14 ∧
                let i58 : Int := IntKind.i64.wrap (x14 + 1);
                ([.slice Aa1 na1 ca1, .pointer p31_0, .pointer p36_0] : List Value) = ([.slice Aa1 na1 ca1, .pointer p31_0, .pointer p36_0] : List Value) ∧ ∃ m, m < r ∧ I b96 A101 n101 c101 i58 w_14 m) (
                let w_15 : World := World.alloc w_10 (.cells #[.slice A90 n90 c90] 83);
                ∃ (A101_1 : Option Addr) (n101_1 c101_1 : Nat),
                ∃ w_16 : World, (Builtin.append_ #[78, 78] 78 #[.slice A13 n13 c13, .slice (some ⟨w_10.heap.size, 0, none⟩) 1 1]).run Try.prog w_15 = .ok (.slice A101_1 n101_1 c101_1) w_16 ∧
                let i58_1 : Int := IntKind.i64.wrap (x14 + 1);
                ([.slice Aa1 na1 ca1, .pointer p31_0, .pointer p36_0] : List Value) = ([.slice Aa1 na1 ca1, .pointer p31_0, .pointer p36_0] : List Value) ∧ ∃ m, m < r ∧ I false A101_1 n101_1 c101_1 i58_1 w_16 m)) (
              (0 : Int) ≤ x14 ∧ x14 < (na1 : Int) ∧
              needPtr Aa1 fun b80 o80 =>
              ∃ (x81 : Int),
              w_6.cell? ⟨b80, o80 + x14.toNat * 1, none⟩ = some (.int .i64 x81) ∧
              Calls Try.prog 43 #[.pointer p31_0, .int .i64 x81] w_6 fun e_12 w_17 =>
              ∃ (x82_0 : Int) (x82_1 : Int),
              e_12 = .returned (.tuple #[.int .i64 x82_0, .int .i64 x82_1]) ∧
              (0 : Int) ≤ x14 ∧ x14 < (na1 : Int) ∧
              needPtr Aa1 fun b86 o86 =>
              ∃ (x87 : Int),
              w_17.cell? ⟨b86, o86 + x14.toNat * 1, none⟩ = some (.int .i64 x87) ∧
              Calls Try.prog 44 #[.pointer p36_0, .int .i64 x87] w_17 fun e_13 w_18 =>
              ∃ (x88_0 : Int) (x88_1 : Int),
              e_13 = .returned (.tuple #[.int .i64 x88_0, .int .i64 x88_1]) ∧
              Calls Try.prog 45 #[.pointer p31_0] w_18 fun e_14 w_19 =>
              ∃ (A90_1 : Option Addr) (n90_1 c90_1 : Nat),
              e_14 = .returned (.slice A90_1 n90_1 c90_1) ∧
              sel b5 (
                Calls Try.prog 47 #[.pointer p36_0] w_19 fun e_15 w_20 =>
                ∃ (A95_1 : Option Addr) (n95_1 c95_1 : Nat),
                e_15 = .returned (.slice A95_1 n95_1 c95_1) ∧
                Calls Try.prog 46 #[.slice A90_1 n90_1 c90_1, .slice A95_1 n95_1 c95_1] w_20 fun e_16 w_21 =>
                ∃ (b96_1 : Bool),
                e_16 = .returned (.bool b96_1) ∧
                let w_22 : World := World.alloc w_21 (.cells #[.slice A90_1 n90_1 c90_1] 83);
                ∃ (A101_2 : Option Addr) (n101_2 c101_2 : Nat),
                ∃ w_23 : World, (Builtin.append_ #[78, 78] 78 #[.slice A13 n13 c13, .slice (some ⟨w_21.heap.size, 0, none⟩) 1 1]).run Try.prog w_22 = .ok (.slice A101_2 n101_2 c101_2) w_23 ∧
                let i58_2 : Int := IntKind.i64.wrap (x14 + 1);
                ([.slice Aa1 na1 ca1, .pointer p31_0, .pointer p36_0] : List Value) = ([.slice Aa1 na1 ca1, .pointer p31_0, .pointer p36_0] : List Value) ∧ ∃ m, m < r ∧ I b96_1 A101_2 n101_2 c101_2 i58_2 w_23 m) (
                let w_24 : World := World.alloc w_19 (.cells #[.slice A90_1 n90_1 c90_1] 83);
                ∃ (A101_3 : Option Addr) (n101_3 c101_3 : Nat),
                ∃ w_25 : World, (Builtin.append_ #[78, 78] 78 #[.slice A13 n13 c13, .slice (some ⟨w_19.heap.size, 0, none⟩) 1 1]).run Try.prog w_24 = .ok (.slice A101_3 n101_3 c101_3) w_25 ∧
                let i58_3 : Int := IntKind.i64.wrap (x14 + 1);
                ([.slice Aa1 na1 ca1, .pointer p31_0, .pointer p36_0] : List Value) = ([.slice Aa1 na1 ca1, .pointer p31_0, .pointer p36_0] : List Value) ∧ ∃ m, m < r ∧ I false A101_3 n101_3 c101_3 i58_3 w_25 m))) (
            Calls Try.prog 45 #[.pointer p31_0] w_6 fun e_17 w_26 =>
            ∃ (A103 : Option Addr) (n103 c103 : Nat),
            e_17 = .returned (.slice A103 n103 c103) ∧
            Calls Try.prog 45 #[.pointer p31_0] w_26 fun e_18 w_27 =>
            ∃ (A105 : Option Addr) (n105 c105 : Nat),
            e_18 = .returned (.slice A105 n105 c105) ∧
            sel b5 (
              Calls Try.prog 47 #[.pointer p36_0] w_27 fun e_19 w_28 =>
              ∃ (A110 : Option Addr) (n110 c110 : Nat),
              e_19 = .returned (.slice A110 n110 c110) ∧
              Calls Try.prog 46 #[.slice A103 n103 c103, .slice A110 n110 c110] w_28 fun e_20 w_29 =>
              ∃ (b111 : Bool),
              e_20 = .returned (.bool b111) ∧
              sel b111 (
                Calls Try.prog 47 #[.pointer p36_0] w_29 fun e_21 w_30 =>
                ∃ (A116 : Option Addr) (n116 c116 : Nat),
                e_21 = .returned (.slice A116 n116 c116) ∧
                Calls Try.prog 46 #[.slice A105 n105 c105, .slice A116 n116 c116] w_30 fun e_22 w_31 =>
                ∃ (b117 : Bool),
                e_22 = .returned (.bool b117) ∧
                let w_32 : World := World.alloc w_31 (.cells #[.slice A103 n103 c103, .slice A105 n105 c105] 83);
                ∃ (A123 : Option Addr) (n123 c123 : Nat),
                ∃ w_33 : World, (Builtin.append_ #[78, 78] 78 #[.slice A13 n13 c13, .slice (some ⟨w_31.heap.size, 0, none⟩) 2 2]).run Try.prog w_32 = .ok (.slice A123 n123 c123) w_33 ∧
                Calls Try.prog 48 #[.slice A123 n123 c123] w_33 fun e_23 w_34 =>
                ∃ (b125 : Bool),
                e_23 = .returned (.bool b125) ∧
                sel b117 (
                  sel b125 (
                    Calls Try.prog 45 #[.pointer p31_0] w_34 fun e_24 w_35 =>
                    ∃ (A132 : Option Addr) (n132 c132 : Nat),
                    e_24 = .returned (.slice A132 n132 c132) ∧
                    Calls Try.prog 47 #[.pointer p36_0] w_35 fun e_25 w_36 =>
                    ∃ (A134 : Option Addr) (n134 c134 : Nat),
                    e_25 = .returned (.slice A134 n134 c134) ∧
                    Calls Try.prog 46 #[.slice A132 n132 c132, .slice A134 n134 c134] w_36 fun e_26 w_37 =>
                    ∃ (b135 : Bool),
                    e_26 = .returned (.bool b135) ∧
                    sel b135 (
                      Calls Try.prog 49 #[.pointer p31_0] w_37 fun e_27 w_38 =>
                      ∃ (x139 : Int),
                      e_27 = .returned (.int .i64 x139) ∧
                      Calls Try.prog 50 #[.pointer p36_0] w_38 fun e_28 w_39 =>
                      ∃ (x141 : Int),
                      e_28 = .returned (.int .i64 x141) ∧
                      R (.bool ((x139 : Int) == (x141 : Int))) w_39) (
                      R (.bool false) w_37)) (
                    R (.bool false) w_34)) (
                  R (.bool false) w_34)) (
                let w_40 : World := World.alloc w_29 (.cells #[.slice A103 n103 c103, .slice A105 n105 c105] 83);
                ∃ (A123_1 : Option Addr) (n123_1 c123_1 : Nat),
                ∃ w_41 : World, (Builtin.append_ #[78, 78] 78 #[.slice A13 n13 c13, .slice (some ⟨w_29.heap.size, 0, none⟩) 2 2]).run Try.prog w_40 = .ok (.slice A123_1 n123_1 c123_1) w_41 ∧
                Calls Try.prog 48 #[.slice A123_1 n123_1 c123_1] w_41 fun e_29 w_42 =>
                ∃ (b125_1 : Bool),
                e_29 = .returned (.bool b125_1) ∧
                R (.bool false) w_42)) (
              let w_43 : World := World.alloc w_27 (.cells #[.slice A103 n103 c103, .slice A105 n105 c105] 83);
              ∃ (A123_2 : Option Addr) (n123_2 c123_2 : Nat),
              ∃ w_44 : World, (Builtin.append_ #[78, 78] 78 #[.slice A13 n13 c13, .slice (some ⟨w_27.heap.size, 0, none⟩) 2 2]).run Try.prog w_43 = .ok (.slice A123_2 n123_2 c123_2) w_44 ∧
              Calls Try.prog 48 #[.slice A123_2 n123_2 c123_2] w_44 fun e_30 w_45 =>
              ∃ (b125_2 : Bool),
              e_30 = .returned (.bool b125_2) ∧
              R (.bool false) w_45))) (
          Calls Try.prog 45 #[.pointer p31_0] w_6 fun e_31 w_46 =>
          ∃ (A103_1 : Option Addr) (n103_1 c103_1 : Nat),
          e_31 = .returned (.slice A103_1 n103_1 c103_1) ∧
          Calls Try.prog 45 #[.pointer p31_0] w_46 fun e_32 w_47 =>
          ∃ (A105_1 : Option Addr) (n105_1 c105_1 : Nat),
          e_32 = .returned (.slice A105_1 n105_1 c105_1) ∧
          sel b5 (
            Calls Try.prog 47 #[.pointer p36_0] w_47 fun e_33 w_48 =>
            ∃ (A110_1 : Option Addr) (n110_1 c110_1 : Nat),
            e_33 = .returned (.slice A110_1 n110_1 c110_1) ∧
            Calls Try.prog 46 #[.slice A103_1 n103_1 c103_1, .slice A110_1 n110_1 c110_1] w_48 fun e_34 w_49 =>
            ∃ (b111_1 : Bool),
            e_34 = .returned (.bool b111_1) ∧
            sel b111_1 (
              Calls Try.prog 47 #[.pointer p36_0] w_49 fun e_35 w_50 =>
              ∃ (A116_1 : Option Addr) (n116_1 c116_1 : Nat),
              e_35 = .returned (.slice A116_1 n116_1 c116_1) ∧
              Calls Try.prog 46 #[.slice A105_1 n105_1 c105_1, .slice A116_1 n116_1 c116_1] w_50 fun e_36 w_51 =>
              ∃ (b117_1 : Bool),
              e_36 = .returned (.bool b117_1) ∧
              let w_52 : World := World.alloc w_51 (.cells #[.slice A103_1 n103_1 c103_1, .slice A105_1 n105_1 c105_1] 83);
              ∃ (A123_3 : Option Addr) (n123_3 c123_3 : Nat),
              ∃ w_53 : World, (Builtin.append_ #[78, 78] 78 #[.slice A13 n13 c13, .slice (some ⟨w_51.heap.size, 0, none⟩) 2 2]).run Try.prog w_52 = .ok (.slice A123_3 n123_3 c123_3) w_53 ∧
              Calls Try.prog 48 #[.slice A123_3 n123_3 c123_3] w_53 fun e_37 w_54 =>
              ∃ (b125_3 : Bool),
              e_37 = .returned (.bool b125_3) ∧
              sel b117_1 (
                sel b125_3 (
                  Calls Try.prog 45 #[.pointer p31_0] w_54 fun e_38 w_55 =>
                  ∃ (A132_1 : Option Addr) (n132_1 c132_1 : Nat),
                  e_38 = .returned (.slice A132_1 n132_1 c132_1) ∧
                  Calls Try.prog 47 #[.pointer p36_0] w_55 fun e_39 w_56 =>
                  ∃ (A134_1 : Option Addr) (n134_1 c134_1 : Nat),
                  e_39 = .returned (.slice A134_1 n134_1 c134_1) ∧
                  Calls Try.prog 46 #[.slice A132_1 n132_1 c132_1, .slice A134_1 n134_1 c134_1] w_56 fun e_40 w_57 =>
                  ∃ (b135_1 : Bool),
                  e_40 = .returned (.bool b135_1) ∧
                  sel b135_1 (
                    Calls Try.prog 49 #[.pointer p31_0] w_57 fun e_41 w_58 =>
                    ∃ (x139_1 : Int),
                    e_41 = .returned (.int .i64 x139_1) ∧
                    Calls Try.prog 50 #[.pointer p36_0] w_58 fun e_42 w_59 =>
                    ∃ (x141_1 : Int),
                    e_42 = .returned (.int .i64 x141_1) ∧
                    R (.bool ((x139_1 : Int) == (x141_1 : Int))) w_59) (
                    R (.bool false) w_57)) (
                  R (.bool false) w_54)) (
                R (.bool false) w_54)) (
              let w_60 : World := World.alloc w_49 (.cells #[.slice A103_1 n103_1 c103_1, .slice A105_1 n105_1 c105_1] 83);
              ∃ (A123_4 : Option Addr) (n123_4 c123_4 : Nat),
              ∃ w_61 : World, (Builtin.append_ #[78, 78] 78 #[.slice A13 n13 c13, .slice (some ⟨w_49.heap.size, 0, none⟩) 2 2]).run Try.prog w_60 = .ok (.slice A123_4 n123_4 c123_4) w_61 ∧
              Calls Try.prog 48 #[.slice A123_4 n123_4 c123_4] w_61 fun e_43 w_62 =>
              ∃ (b125_4 : Bool),
              e_43 = .returned (.bool b125_4) ∧
              R (.bool false) w_62)) (
            let w_63 : World := World.alloc w_47 (.cells #[.slice A103_1 n103_1 c103_1, .slice A105_1 n105_1 c105_1] 83);
            ∃ (A123_5 : Option Addr) (n123_5 c123_5 : Nat),
            ∃ w_64 : World, (Builtin.append_ #[78, 78] 78 #[.slice A13 n13 c13, .slice (some ⟨w_47.heap.size, 0, none⟩) 2 2]).run Try.prog w_63 = .ok (.slice A123_5 n123_5 c123_5) w_64 ∧
            Calls Try.prog 48 #[.slice A123_5 n123_5 c123_5] w_64 fun e_44 w_65 =>
            ∃ (b125_5 : Bool),
            e_44 = .returned (.bool b125_5) ∧
            R (.bool false) w_65)))))
theorem f7.eq (xa0 : Int) (Aa1 : Option Addr) (na1 ca1 : Nat) (w : World) (R : Value → World → Prop) : f7.VC xa0 Aa1 na1 ca1 w R = funV Try.prog Try.f7 f7.AL f7.AC #[.int .i64 xa0, .slice Aa1 na1 ca1] w R := by kernel_rfl
theorem f7.calls {xa0 : Int} {Aa1 : Option Addr} {na1 ca1 : Nat} {w : World} {R : Value → World → Prop} (h : f7.VC xa0 Aa1 na1 ca1 w R) : Calls Try.prog 7 #[.int .i64 xa0, .slice Aa1 na1 ca1] w fun e w' => ∃ v, e = .returned v ∧ R v w' :=
  funV_sound (fn := Try.f7) (AL := f7.AL) (AC := f7.AC) V9b.mixed (by kernel_rfl) (by rw [← f7.eq xa0 Aa1 na1 ca1]; exact h)

end Go.Proofs.Ytebahglmdifmpaa
