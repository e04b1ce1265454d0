/- The plain statements of some functions, printed by vcgen.py. -/
import Derived.Test.YtebahglmdifmpaaVcC
import Derived.Test.YtebahglmdifmpaaProg
import Derived.KernelRfl
set_option maxRecDepth 100000
set_option linter.unusedVariables false
namespace Go.Proofs.Ytebahglmdifmpaa
open Go Go.Proofs.Ytebahglmdifmpaa.Vc
theorem V9a.mixed : Try.prog.follows .mixedOrders = true := by kernel_rfl
/-- gatehouse/gatehouselaw15.ArenaBack -/
def f9.AL : Nat → Option Ann := fun r => match r with | 11 => some ⟨[(13, .slice), (14, .int .i64)], [1, 2, 7, 8, 9, 11]⟩ | 19 => some ⟨[(7, .bool), (13, .slice), (17, .int .i64)], [2, 8, 9, 11]⟩ | 27 => some ⟨[(19, .slice), (20, .int .i64)], [2, 7, 8, 9, 11, 13, 17, 18]⟩ | 38 => some ⟨[(28, .bool), (29, .int .i64)], [7, 8, 21, 23, 24, 25, 26]⟩ | _ => none
def f9.AC : Nat → Option Ann := fun _ => none
def f9.VC (xa0 : Int) (Aa1 : Option Addr) (na1 ca1 : Nat) (Aa2 : Option Addr) (na2 ca2 : Nat) (w : World) (R : Value → World → Prop) : Prop :=
  Calls Try.prog 11 #[] w fun e_1 w_1 =>
  ∃ (b30 : Bool),
  e_1 = .returned (.bool b30) ∧
  Calls Try.prog 19 #[.int .i64 xa0, .int .i64 200] w_1 fun e_2 w_2 =>
  ∃ (x32 : Int),
  e_2 = .returned (.int .i64 x32) ∧
  let i33 : Int := IntKind.i64.wrap (1 + x32);
  Calls Try.prog 37 #[.int .i64 i33] w_2 fun e_3 w_3 =>
  ∃ (p36_0 : Option Addr) (x36_1 : Int),
  e_3 = .returned (.tuple #[.pointer p36_0, .int .i64 x36_1]) ∧
  sel (Option.isNone p36_0) (
    R (.bool false) w_3) (
    Calls Try.prog 38 #[.pointer p36_0, .int .i64 0] w_3 fun e_4 w_4 =>
    ∃ (p43_0 : Option Addr) (x43_1 : Int),
    e_4 = .returned (.tuple #[.pointer p43_0, .int .i64 x43_1]) ∧
    sel ((x43_1 : Int) != (0 : Int)) (
      R (.bool false) w_4) (
      sel (Option.isNone p43_0) (
        R (.bool false) w_4) (
        ∃ I : Option Addr → Nat → Nat → Int → World → Nat → Prop,
        (∃ n, I none 0 0 0 w_4 n) ∧
        ∀ d : Env, ∀ (A13 : Option Addr) (n13 c13 : Nat) (x14 : Int) (w_5 : World) (r : Nat), I A13 n13 c13 x14 w_5 r →
        sel (decide ((x14 : Int) < ((na1 : Int) : Int))) (
          (0 : Int) ≤ x14 ∧ x14 < (na1 : Int) ∧
          needPtr Aa1 fun b62 o62 =>
          ∃ (x63 : Int),
          w_5.cell? ⟨b62, o62 + x14.toNat * 1, none⟩ = some (.int .i64 x63) ∧
          Calls Try.prog 43 #[.pointer p43_0, .int .i64 x63] w_5 fun e_5 w_6 =>
          ∃ (x64_0 : Int) (x64_1 : Int),
          e_5 = .returned (.tuple #[.int .i64 x64_0, .int .i64 x64_1]) ∧
          sel ((x64_1 : Int) == (0 : Int)) (
            let w_7 : World := World.alloc w_6 (.cells #[.int .i64 x64_0] 3);
            ∃ (A72 : Option Addr) (n72 c72 : Nat),
            ∃ w_8 : World, (Builtin.append_ #[23, 23] 23 #[.slice A13 n13 c13, .slice (some ⟨w_6.heap.size, 0, none⟩) 1 1]).run Try.prog w_7 = .ok (.slice A72 n72 c72) w_8 ∧
            let i57 : Int := IntKind.i64.wrap (x14 + 1);
            ([.slice Aa1 na1 ca1, .slice Aa2 na2 ca2, .bool b30, .int .i64 i33, .pointer p36_0, .pointer p43_0] : List Value) = ([.slice Aa1 na1 ca1, .slice Aa2 na2 ca2, .bool b30, .int .i64 i33, .pointer p36_0, .pointer p43_0] : List Value) ∧ ∃ m, m < r ∧ I A72 n72 c72 i57 w_8 m) (
            let i57_1 : Int := IntKind.i64.wrap (x14 + 1);
            ([.slice Aa1 na1 ca1, .slice Aa2 na2 ca2, .bool b30, .int .i64 i33, .pointer p36_0, .pointer p43_0] : List Value) = ([.slice Aa1 na1 ca1, .slice Aa2 na2 ca2, .bool b30, .int .i64 i33, .pointer p36_0, .pointer p43_0] : List Value) ∧ ∃ m, m < r ∧ I A13 n13 c13 i57_1 w_6 m)) (
          Calls Try.prog 49 #[.pointer p43_0] w_5 fun e_6 w_9 =>
          ∃ (x74 : Int),
          e_6 = .returned (.int .i64 x74) ∧
          sel ((x74 : Int) != ((n13 : Int) : Int)) (
            R (.bool false) w_9) (
            ∃ I_1 : Bool → Option Addr → Nat → Nat → Int → World → Nat → Prop,
            (∃ n, I_1 b30 A13 n13 c13 0 w_9 n) ∧
            ∀ d_1 : Env, ∀ (b7 : Bool) (A13_1 : Option Addr) (n13_1 c13_1 : Nat) (x17 : Int) (w_10 : World) (r_1 : Nat), I_1 b7 A13_1 n13_1 c13_1 x17 w_10 r_1 →
            sel (decide ((0 : Int) < ((n13_1 : Int) : Int))) (
              sel b7 (
                sel (decide ((x17 : Int) < ((na2 : Int) : Int))) (
                  (0 : Int) ≤ x17 ∧ x17 < (na2 : Int) ∧
                  needPtr Aa2 fun b92 o92 =>
                  ∃ (x93 : Int),
                  w_10.cell? ⟨b92, o92 + x17.toNat * 1, none⟩ = some (.int .i64 x93) ∧
                  Calls Try.prog 19 #[.int .i64 x93, .int .i64 (n13_1 : Int)] w_10 fun e_7 w_11 =>
                  ∃ (x96 : Int),
                  e_7 = .returned (.int .i64 x96) ∧
                  (0 : Int) ≤ x96 ∧ x96 < (n13_1 : Int) ∧
                  needPtr A13_1 fun b100 o100 =>
                  ∃ (x101 : Int),
                  w_11.cell? ⟨b100, o100 + x96.toNat * 1, none⟩ = some (.int .i64 x101) ∧
                  Calls Try.prog 41 #[.pointer p43_0, .int .i64 x101] w_11 fun e_8 w_12 =>
                  ∃ (x102 : Int),
                  e_8 = .returned (.int .i64 x102) ∧
                  sel ((x102 : Int) == (0 : Int)) (
                    (0 : Int) ≤ x96 ∧ x96 < (n13_1 : Int) ∧
                    needPtr A13_1 fun b108 o108 =>
                    ∃ (x109 : Int),
                    w_12.cell? ⟨b108, o108 + x96.toNat * 1, none⟩ = some (.int .i64 x109) ∧
                    Calls Try.prog 41 #[.pointer p43_0, .int .i64 x109] w_12 fun e_9 w_13 =>
                    ∃ (x110 : Int),
                    e_9 = .returned (.int .i64 x110) ∧
                    ∃ I_2 : Option Addr → Nat → Nat → Int → World → Nat → Prop,
                    (∃ n, I_2 none 0 0 0 w_13 n) ∧
                    ∀ d_2 : Env, ∀ (A19 : Option Addr) (n19 c19 : Nat) (x20 : Int) (w_14 : World) (r_2 : Nat), I_2 A19 n19 c19 x20 w_14 r_2 →
                    sel (decide ((x20 : Int) < ((n13_1 : Int) : Int))) (
                      sel ((x20 : Int) != (x96 : Int)) (
                        (0 : Int) ≤ x20 ∧ x20 < (n13_1 : Int) ∧
                        needPtr A13_1 fun b125 o125 =>
                        ∃ (x126 : Int),
                        w_14.cell? ⟨b125, o125 + x20.toNat * 1, none⟩ = some (.int .i64 x126) ∧
                        let w_15 : World := World.alloc w_14 (.cells #[.int .i64 x126] 3);
                        ∃ (A128 : Option Addr) (n128 c128 : Nat),
                        ∃ w_16 : World, (Builtin.append_ #[23, 23] 23 #[.slice A19 n19 c19, .slice (some ⟨w_14.heap.size, 0, none⟩) 1 1]).run Try.prog w_15 = .ok (.slice A128 n128 c128) w_16 ∧
                        let i118 : Int := IntKind.i64.wrap (x20 + 1);
                        ([.slice Aa2 na2 ca2, .bool ((x110 : Int) == (151 : Int)), .int .i64 i33, .pointer p36_0, .pointer p43_0, .slice A13_1 n13_1 c13_1, .int .i64 x17, .int .i64 x96] : List Value) = ([.slice Aa2 na2 ca2, .bool ((x110 : Int) == (151 : Int)), .int .i64 i33, .pointer p36_0, .pointer p43_0, .slice A13_1 n13_1 c13_1, .int .i64 x17, .int .i64 x96] : List Value) ∧ ∃ m, m < r_2 ∧ I_2 A128 n128 c128 i118 w_16 m) (
                        let i118_1 : Int := IntKind.i64.wrap (x20 + 1);
                        ([.slice Aa2 na2 ca2, .bool ((x110 : Int) == (151 : Int)), .int .i64 i33, .pointer p36_0, .pointer p43_0, .slice A13_1 n13_1 c13_1, .int .i64 x17, .int .i64 x96] : List Value) = ([.slice Aa2 na2 ca2, .bool ((x110 : Int) == (151 : Int)), .int .i64 i33, .pointer p36_0, .pointer p43_0, .slice A13_1 n13_1 c13_1, .int .i64 x17, .int .i64 x96] : List Value) ∧ ∃ m, m < r_2 ∧ I_2 A19 n19 c19 i118_1 w_14 m)) (
                      let i85 : Int := IntKind.i64.wrap (x17 + 1);
                      ([.slice Aa2 na2 ca2, .int .i64 i33, .pointer p36_0, .pointer p43_0] : List Value) = ([.slice Aa2 na2 ca2, .int .i64 i33, .pointer p36_0, .pointer p43_0] : List Value) ∧ ∃ m, m < r_1 ∧ I_1 ((x110 : Int) == (151 : Int)) A19 n19 c19 i85 w_14 m)) (
                    ∃ I_3 : Option Addr → Nat → Nat → Int → World → Nat → Prop,
                    (∃ n, I_3 none 0 0 0 w_12 n) ∧
                    ∀ d_3 : Env, ∀ (A19_1 : Option Addr) (n19_1 c19_1 : Nat) (x20_1 : Int) (w_17 : World) (r_3 : Nat), I_3 A19_1 n19_1 c19_1 x20_1 w_17 r_3 →
                    sel (decide ((x20_1 : Int) < ((n13_1 : Int) : Int))) (
                      sel ((x20_1 : Int) != (x96 : Int)) (
                        (0 : Int) ≤ x20_1 ∧ x20_1 < (n13_1 : Int) ∧
                        needPtr A13_1 fun b125_1 o125_1 =>
                        ∃ (x126_1 : Int),
                        w_17.cell? ⟨b125_1, o125_1 + x20_1.toNat * 1, none⟩ = some (.int .i64 x126_1) ∧
                        let w_18 : World := World.alloc w_17 (.cells #[.int .i64 x126_1] 3);
                        ∃ (A128_1 : Option Addr) (n128_1 c128_1 : Nat),
                        ∃ w_19 : World, (Builtin.append_ #[23, 23] 23 #[.slice A19_1 n19_1 c19_1, .slice (some ⟨w_17.heap.size, 0, none⟩) 1 1]).run Try.prog w_18 = .ok (.slice A128_1 n128_1 c128_1) w_19 ∧
                        let i118_2 : Int := IntKind.i64.wrap (x20_1 + 1);
                        ([.slice Aa2 na2 ca2, .bool false, .int .i64 i33, .pointer p36_0, .pointer p43_0, .slice A13_1 n13_1 c13_1, .int .i64 x17, .int .i64 x96] : List Value) = ([.slice Aa2 na2 ca2, .bool false, .int .i64 i33, .pointer p36_0, .pointer p43_0, .slice A13_1 n13_1 c13_1, .int .i64 x17, .int .i64 x96] : List Value) ∧ ∃ m, m < r_3 ∧ I_3 A128_1 n128_1 c128_1 i118_2 w_19 m) (
                        let i118_3 : Int := IntKind.i64.wrap (x20_1 + 1);
                        ([.slice Aa2 na2 ca2, .bool false, .int .i64 i33, .pointer p36_0, .pointer p43_0, .slice A13_1 n13_1 c13_1, .int .i64 x17, .int .i64 x96] : List Value) = ([.slice Aa2 na2 ca2, .bool false, .int .i64 i33, .pointer p36_0, .pointer p43_0, .slice A13_1 n13_1 c13_1, .int .i64 x17, .int .i64 x96] : List Value) ∧ ∃ m, m < r_3 ∧ I_3 A19_1 n19_1 c19_1 i118_3 w_17 m)) (
                      let i85_1 : Int := IntKind.i64.wrap (x17 + 1);
                      ([.slice Aa2 na2 ca2, .int .i64 i33, .pointer p36_0, .pointer p43_0] : List Value) = ([.slice Aa2 na2 ca2, .int .i64 i33, .pointer p36_0, .pointer p43_0] : List Value) ∧ ∃ m, m < r_1 ∧ I_1 false A19_1 n19_1 c19_1 i85_1 w_17 m))) (
                  (0 : Int) ≤ 0 ∧ 0 < (n13_1 : Int) ∧
                  needPtr A13_1 fun b100_1 o100_1 =>
                  ∃ (x101_1 : Int),
                  w_10.cell? ⟨b100_1, o100_1, none⟩ = some (.int .i64 x101_1) ∧
                  Calls Try.prog 41 #[.pointer p43_0, .int .i64 x101_1] w_10 fun e_10 w_20 =>
                  ∃ (x102_1 : Int),
                  e_10 = .returned (.int .i64 x102_1) ∧
                  sel ((x102_1 : Int) == (0 : Int)) (
                    (0 : Int) ≤ 0 ∧ 0 < (n13_1 : Int) ∧
                    needPtr A13_1 fun b108_1 o108_1 =>
                    ∃ (x109_1 : Int),
                    w_20.cell? ⟨b108_1, o108_1, none⟩ = some (.int .i64 x109_1) ∧
                    Calls Try.prog 41 #[.pointer p43_0, .int .i64 x109_1] w_20 fun e_11 w_21 =>
                    ∃ (x110_1 : Int),
                    e_11 = .returned (.int .i64 x110_1) ∧
                    ∃ I_4 : Option Addr → Nat → Nat → Int → World → Nat → Prop,
                    (∃ n, I_4 none 0 0 0 w_21 n) ∧
                    ∀ d_4 : Env, ∀ (A19_2 : Option Addr) (n19_2 c19_2 : Nat) (x20_2 : Int) (w_22 : World) (r_4 : Nat), I_4 A19_2 n19_2 c19_2 x20_2 w_22 r_4 →
                    sel (decide ((x20_2 : Int) < ((n13_1 : Int) : Int))) (
                      sel ((x20_2 : Int) != (0 : Int)) (
                        (0 : Int) ≤ x20_2 ∧ x20_2 < (n13_1 : Int) ∧
                        needPtr A13_1 fun b125_2 o125_2 =>
                        ∃ (x126_2 : Int),
                        w_22.cell? ⟨b125_2, o125_2 + x20_2.toNat * 1, none⟩ = some (.int .i64 x126_2) ∧
                        let w_23 : World := World.alloc w_22 (.cells #[.int .i64 x126_2] 3);
                        ∃ (A128_2 : Option Addr) (n128_2 c128_2 : Nat),
                        ∃ w_24 : World, (Builtin.append_ #[23, 23] 23 #[.slice A19_2 n19_2 c19_2, .slice (some ⟨w_22.heap.size, 0, none⟩) 1 1]).run Try.prog w_23 = .ok (.slice A128_2 n128_2 c128_2) w_24 ∧
                        let i118_4 : Int := IntKind.i64.wrap (x20_2 + 1);
                        ([.slice Aa2 na2 ca2, .bool ((x110_1 : Int) == (151 : Int)), .int .i64 i33, .pointer p36_0, .pointer p43_0, .slice A13_1 n13_1 c13_1, .int .i64 x17, .int .i64 0] : List Value) = ([.slice Aa2 na2 ca2, .bool ((x110_1 : Int) == (151 : Int)), .int .i64 i33, .pointer p36_0, .pointer p43_0, .slice A13_1 n13_1 c13_1, .int .i64 x17, .int .i64 0] : List Value) ∧ ∃ m, m < r_4 ∧ I_4 A128_2 n128_2 c128_2 i118_4 w_24 m) (
                        let i118_5 : Int := IntKind.i64.wrap (x20_2 + 1);
                        ([.slice Aa2 na2 ca2, .bool ((x110_1 : Int) == (151 : Int)), .int .i64 i33, .pointer p36_0, .pointer p43_0, .slice A13_1 n13_1 c13_1, .int .i64 x17, .int .i64 0] : List Value) = ([.slice Aa2 na2 ca2, .bool ((x110_1 : Int) == (151 : Int)), .int .i64 i33, .pointer p36_0, .pointer p43_0, .slice A13_1 n13_1 c13_1, .int .i64 x17, .int .i64 0] : List Value) ∧ ∃ m, m < r_4 ∧ I_4 A19_2 n19_2 c19_2 i118_5 w_22 m)) (
                      let i85_2 : Int := IntKind.i64.wrap (x17 + 1);
                      ([.slice Aa2 na2 ca2, .int .i64 i33, .pointer p36_0, .pointer p43_0] : List Value) = ([.slice Aa2 na2 ca2, .int .i64 i33, .pointer p36_0, .pointer p43_0] : List Value) ∧ ∃ m, m < r_1 ∧ I_1 ((x110_1 : Int) == (151 : Int)) A19_2 n19_2 c19_2 i85_2 w_22 m)) (
                    ∃ I_5 : Option Addr → Nat → Nat → Int → World → Nat → Prop,
                    (∃ n, I_5 none 0 0 0 w_20 n) ∧
                    ∀ d_5 : Env, ∀ (A19_3 : Option Addr) (n19_3 c19_3 : Nat) (x20_3 : Int) (w_25 : World) (r_5 : Nat), I_5 A19_3 n19_3 c19_3 x20_3 w_25 r_5 →
                    sel (decide ((x20_3 : Int) < ((n13_1 : Int) : Int))) (
                      sel ((x20_3 : Int) != (0 : Int)) (
                        (0 : Int) ≤ x20_3 ∧ x20_3 < (n13_1 : Int) ∧
                        needPtr A13_1 fun b125_3 o125_3 =>
                        ∃ (x126_3 : Int),
                        w_25.cell? ⟨b125_3, o125_3 + x20_3.toNat * 1, none⟩ = some (.int .i64 x126_3) ∧
                        let w_26 : World := World.alloc w_25 (.cells #[.int .i64 x126_3] 3);
                        ∃ (A128_3 : Option Addr) (n128_3 c128_3 : Nat),
                        ∃ w_27 : World, (Builtin.append_ #[23, 23] 23 #[.slice A19_3 n19_3 c19_3, .slice (some ⟨w_25.heap.size, 0, none⟩) 1 1]).run Try.prog w_26 = .ok (.slice A128_3 n128_3 c128_3) w_27 ∧
                        let i118_6 : Int := IntKind.i64.wrap (x20_3 + 1);
                        ([.slice Aa2 na2 ca2, .bool false, .int .i64 i33, .pointer p36_0, .pointer p43_0, .slice A13_1 n13_1 c13_1, .int .i64 x17, .int .i64 0] : List Value) = ([.slice Aa2 na2 ca2, .bool false, .int .i64 i33, .pointer p36_0, .pointer p43_0, .slice A13_1 n13_1 c13_1, .int .i64 x17, .int .i64 0] : List Value) ∧ ∃ m, m < r_5 ∧ I_5 A128_3 n128_3 c128_3 i118_6 w_27 m) (
                        let i118_7 : Int := IntKind.i64.wrap (x20_3 + 1);
                        ([.slice Aa2 na2 ca2, .bool false, .int .i64 i33, .pointer p36_0, .pointer p43_0, .slice A13_1 n13_1 c13_1, .int .i64 x17, .int .i64 0] : List Value) = ([.slice Aa2 na2 ca2, .bool false, .int .i64 i33, .pointer p36_0, .pointer p43_0, .slice A13_1 n13_1 c13_1, .int .i64 x17, .int .i64 0] : List Value) ∧ ∃ m, m < r_5 ∧ I_5 A19_3 n19_3 c19_3 i118_7 w_25 m)) (
                      let i85_3 : Int := IntKind.i64.wrap (x17 + 1);
                      ([.slice Aa2 na2 ca2, .int .i64 i33, .pointer p36_0, .pointer p43_0] : List Value) = ([.slice Aa2 na2 ca2, .int .i64 i33, .pointer p36_0, .pointer p43_0] : List Value) ∧ ∃ m, m < r_1 ∧ I_1 false A19_3 n19_3 c19_3 i85_3 w_25 m)))) (
                Calls Try.prog 45 #[.pointer p43_0] w_10 fun e_12 w_28 =>
                ∃ (A131 : Option Addr) (n131 c131 : Nat),
                e_12 = .returned (.slice A131 n131 c131) ∧
                let i135 : Int := IntKind.i64.wrap (i33 + 1);
                Calls Try.prog 43 #[.pointer p43_0, .int .i64 i135] w_28 fun e_13 w_29 =>
                ∃ (x136_0 : Int) (x136_1 : Int),
                e_13 = .returned (.tuple #[.int .i64 x136_0, .int .i64 x136_1]) ∧
                Calls Try.prog 43 #[.pointer p43_0, .int .i64 i33] w_29 fun e_14 w_30 =>
                ∃ (x142_0 : Int) (x142_1 : Int),
                e_14 = .returned (.tuple #[.int .i64 x142_0, .int .i64 x142_1]) ∧
                Calls Try.prog 51 #[.pointer p36_0, .int .i64 0, .int .i64 i33] w_30 fun e_15 w_31 =>
                ∃ (A148_0 : Option Addr) (n148_0 c148_0 : Nat) (x148_1 : Int),
                e_15 = .returned (.tuple #[.slice A148_0 n148_0 c148_0, .int .i64 x148_1]) ∧
                sel ((x148_1 : Int) == (0 : Int)) (
                  ∃ I_6 : Bool → Int → World → Nat → Prop,
                  (∃ n, I_6 (((n148_0 : Int) : Int) == (i33 : Int)) 0 w_31 n) ∧
                  ∀ d_6 : Env, ∀ (b28 : Bool) (x29 : Int) (w_32 : World) (r_6 : Nat), I_6 b28 x29 w_32 r_6 →
                  sel (decide ((x29 : Int) < ((n148_0 : Int) : Int))) (
                    sel b28 (
                      (0 : Int) ≤ x29 ∧ x29 < (n148_0 : Int) ∧
                      needPtr A148_0 fun b169 o169 =>
                      ∃ (x170 : Int),
                      w_32.cell? ⟨b169, o169 + x29.toNat * 1, none⟩ = some (.int .i64 x170) ∧
                      let i164 : Int := IntKind.i64.wrap (x29 + 1);
                      ([.bool b7, .int .i64 i33, .slice A131 n131 c131, .int .i64 x136_1, .int .i64 x142_0, .int .i64 x142_1, .slice A148_0 n148_0 c148_0] : List Value) = ([.bool b7, .int .i64 i33, .slice A131 n131 c131, .int .i64 x136_1, .int .i64 x142_0, .int .i64 x142_1, .slice A148_0 n148_0 c148_0] : List Value) ∧ ∃ m, m < r_6 ∧ I_6 ((x170 : Int) == (0 : Int)) i164 w_32 m) (
                      let i164_1 : Int := IntKind.i64.wrap (x29 + 1);
                      ([.bool b7, .int .i64 i33, .slice A131 n131 c131, .int .i64 x136_1, .int .i64 x142_0, .int .i64 x142_1, .slice A148_0 n148_0 c148_0] : List Value) = ([.bool b7, .int .i64 i33, .slice A131 n131 c131, .int .i64 x136_1, .int .i64 x142_0, .int .i64 x142_1, .slice A148_0 n148_0 c148_0] : List Value) ∧ ∃ m, m < r_6 ∧ I_6 false i164_1 w_32 m)) (
                    sel b7 (
                      sel (((n131 : Int) : Int) == (1 : Int)) (
                        (0 : Int) ≤ 0 ∧ 0 < (n131 : Int) ∧
                        needPtr A131 fun b181 o181 =>
                        ∃ (x182_0 : Int),
                        w_32.cell? ⟨b181, o181, none⟩ = some (.int .i64 x182_0) ∧
                        ∃ (x182_1 : Int),
                        w_32.cell? ⟨b181, o181 + 1, none⟩ = some (.int .i64 x182_1) ∧
                        ∃ (b182_2 : Bool),
                        w_32.cell? ⟨b181, o181 + 1 + 1, none⟩ = some (.bool b182_2) ∧
                        ∃ b185 : Bool, (∀ w', (do eqGuard .eql 96 (.tmp 182) (.tmp 184) (.agg #[.int .i64 x182_0, .int .i64 x182_1, .bool b182_2]) (.agg #[.int .i64 0, .int .i64 i33, .bool true]); binOp .eql 96 (.agg #[.int .i64 x182_0, .int .i64 x182_1, .bool b182_2]) (.agg #[.int .i64 0, .int .i64 i33, .bool true]) : Sem Value).run Try.prog w' = .ok (.bool b185) w') ∧
                        sel b185 (
                          sel ((x136_1 : Int) == (150 : Int)) (
                            sel ((x142_0 : Int) == (0 : Int)) (
                              sel ((x142_1 : Int) == (0 : Int)) (
                                R (.bool b28) w_32) (
                                R (.bool false) w_32)) (
                              R (.bool false) w_32)) (
                            R (.bool false) w_32)) (
                          R (.bool false) w_32)) (
                        R (.bool false) w_32)) (
                      R (.bool false) w_32))) (
                  ∃ I_7 : Bool → Int → World → Nat → Prop,
                  (∃ n, I_7 false 0 w_31 n) ∧
                  ∀ d_7 : Env, ∀ (b28_1 : Bool) (x29_1 : Int) (w_33 : World) (r_7 : Nat), I_7 b28_1 x29_1 w_33 r_7 →
                  sel (decide ((x29_1 : Int) < ((n148_0 : Int) : Int))) (
                    sel b28_1 (
                      (0 : Int) ≤ x29_1 ∧ x29_1 < (n148_0 : Int) ∧
                      needPtr A148_0 fun b169_1 o169_1 =>
                      ∃ (x170_1 : Int),
                      w_33.cell? ⟨b169_1, o169_1 + x29_1.toNat * 1, none⟩ = some (.int .i64 x170_1) ∧
                      let i164_2 : Int := IntKind.i64.wrap (x29_1 + 1);
                      ([.bool b7, .int .i64 i33, .slice A131 n131 c131, .int .i64 x136_1, .int .i64 x142_0, .int .i64 x142_1, .slice A148_0 n148_0 c148_0] : List Value) = ([.bool b7, .int .i64 i33, .slice A131 n131 c131, .int .i64 x136_1, .int .i64 x142_0, .int .i64 x142_1, .slice A148_0 n148_0 c148_0] : List Value) ∧ ∃ m, m < r_7 ∧ I_7 ((x170_1 : Int) == (0 : Int)) i164_2 w_33 m) (
                      let i164_3 : Int := IntKind.i64.wrap (x29_1 + 1);
                      ([.bool b7, .int .i64 i33, .slice A131 n131 c131, .int .i64 x136_1, .int .i64 x142_0, .int .i64 x142_1, .slice A148_0 n148_0 c148_0] : List Value) = ([.bool b7, .int .i64 i33, .slice A131 n131 c131, .int .i64 x136_1, .int .i64 x142_0, .int .i64 x142_1, .slice A148_0 n148_0 c148_0] : List Value) ∧ ∃ m, m < r_7 ∧ I_7 false i164_3 w_33 m)) (
                    sel b7 (
                      sel (((n131 : Int) : Int) == (1 : Int)) (
                        (0 : Int) ≤ 0 ∧ 0 < (n131 : Int) ∧
                        needPtr A131 fun b181_1 o181_1 =>
                        ∃ (x182_0_1 : Int),
                        w_33.cell? ⟨b181_1, o181_1, none⟩ = some (.int .i64 x182_0_1) ∧
                        ∃ (x182_1_1 : Int),
                        w_33.cell? ⟨b181_1, o181_1 + 1, none⟩ = some (.int .i64 x182_1_1) ∧
                        ∃ (b182_2_1 : Bool),
                        w_33.cell? ⟨b181_1, o181_1 + 1 + 1, none⟩ = some (.bool b182_2_1) ∧
                        ∃ b185_1 : Bool, (∀ w', (do eqGuard .eql 96 (.tmp 182) (.tmp 184) (.agg #[.int .i64 x182_0_1, .int .i64 x182_1_1, .bool b182_2_1]) (.agg #[.int .i64 0, .int .i64 i33, .bool true]); binOp .eql 96 (.agg #[.int .i64 x182_0_1, .int .i64 x182_1_1, .bool b182_2_1]) (.agg #[.int .i64 0, .int .i64 i33, .bool true]) : Sem Value).run Try.prog w' = .ok (.bool b185_1) w') ∧
                        sel b185_1 (
                          sel ((x136_1 : Int) == (150 : Int)) (
                            sel ((x142_0 : Int) == (0 : Int)) (
                              sel ((x142_1 : Int) == (0 : Int)) (
                                R (.bool b28_1) w_33) (
                                R (.bool false) w_33)) (
                              R (.bool false) w_33)) (
                            R (.bool false) w_33)) (
                          R (.bool false) w_33)) (
                        R (.bool false) w_33)) (
                      R (.bool false) w_33))))) (
              Calls Try.prog 45 #[.pointer p43_0] w_10 fun e_16 w_34 =>
              ∃ (A131_1 : Option Addr) (n131_1 c131_1 : Nat),
              e_16 = .returned (.slice A131_1 n131_1 c131_1) ∧
              let i135_1 : Int := IntKind.i64.wrap (i33 + 1);
              Calls Try.prog 43 #[.pointer p43_0, .int .i64 i135_1] w_34 fun e_17 w_35 =>
              ∃ (x136_0_1 : Int) (x136_1_1 : Int),
              e_17 = .returned (.tuple #[.int .i64 x136_0_1, .int .i64 x136_1_1]) ∧
              Calls Try.prog 43 #[.pointer p43_0, .int .i64 i33] w_35 fun e_18 w_36 =>
              ∃ (x142_0_1 : Int) (x142_1_1 : Int),
              e_18 = .returned (.tuple #[.int .i64 x142_0_1, .int .i64 x142_1_1]) ∧
              Calls Try.prog 51 #[.pointer p36_0, .int .i64 0, .int .i64 i33] w_36 fun e_19 w_37 =>
              ∃ (A148_0_1 : Option Addr) (n148_0_1 c148_0_1 : Nat) (x148_1_1 : Int),
              e_19 = .returned (.tuple #[.slice A148_0_1 n148_0_1 c148_0_1, .int .i64 x148_1_1]) ∧
              sel ((x148_1_1 : Int) == (0 : Int)) (
                ∃ I_8 : Bool → Int → World → Nat → Prop,
                (∃ n, I_8 (((n148_0_1 : Int) : Int) == (i33 : Int)) 0 w_37 n) ∧
                ∀ d_8 : Env, ∀ (b28_2 : Bool) (x29_2 : Int) (w_38 : World) (r_8 : Nat), I_8 b28_2 x29_2 w_38 r_8 →
                sel (decide ((x29_2 : Int) < ((n148_0_1 : Int) : Int))) (
                  sel b28_2 (
                    (0 : Int) ≤ x29_2 ∧ x29_2 < (n148_0_1 : Int) ∧
                    needPtr A148_0_1 fun b169_2 o169_2 =>
                    ∃ (x170_2 : Int),
                    w_38.cell? ⟨b169_2, o169_2 + x29_2.toNat * 1, none⟩ = some (.int .i64 x170_2) ∧
                    let i164_4 : Int := IntKind.i64.wrap (x29_2 + 1);
                    ([.bool b7, .int .i64 i33, .slice A131_1 n131_1 c131_1, .int .i64 x136_1_1, .int .i64 x142_0_1, .int .i64 x142_1_1, .slice A148_0_1 n148_0_1 c148_0_1] : List Value) = ([.bool b7, .int .i64 i33, .slice A131_1 n131_1 c131_1, .int .i64 x136_1_1, .int .i64 x142_0_1, .int .i64 x142_1_1, .slice A148_0_1 n148_0_1 c148_0_1] : List Value) ∧ ∃ m, m < r_8 ∧ I_8 ((x170_2 : Int) == (0 : Int)) i164_4 w_38 m) (
                    let i164_5 : Int := IntKind.i64.wrap (x29_2 + 1);
                    ([.bool b7, .int .i64 i33, .slice A131_1 n131_1 c131_1, .int .i64 x136_1_1, .int .i64 x142_0_1, .int .i64 x142_1_1, .slice A148_0_1 n148_0_1 c148_0_1] : List Value) = ([.bool b7, .int .i64 i33, .slice A131_1 n131_1 c131_1, .int .i64 x136_1_1, .int .i64 x142_0_1, .int .i64 x142_1_1, .slice A148_0_1 n148_0_1 c148_0_1] : List Value) ∧ ∃ m, m < r_8 ∧ I_8 false i164_5 w_38 m)) (
                  sel b7 (
                    sel (((n131_1 : Int) : Int) == (1 : Int)) (
                      (0 : Int) ≤ 0 ∧ 0 < (n131_1 : Int) ∧
                      needPtr A131_1 fun b181_2 o181_2 =>
                      ∃ (x182_0_2 : Int),
                      w_38.cell? ⟨b181_2, o181_2, none⟩ = some (.int .i64 x182_0_2) ∧
                      ∃ (x182_1_2 : Int),
                      w_38.cell? ⟨b181_2, o181_2 + 1, none⟩ = some (.int .i64 x182_1_2) ∧
                      ∃ (b182_2_2 : Bool),
                      w_38.cell? ⟨b181_2, o181_2 + 1 + 1, none⟩ = some (.bool b182_2_2) ∧
                      ∃ b185_2 : Bool, (∀ w', (do eqGuard .eql 96 (.tmp 182) (.tmp 184) (.agg #[.int .i64 x182_0_2, .int .i64 x182_1_2, .bool b182_2_2]) (.agg #[.int .i64 0, .int .i64 i33, .bool true]); binOp .eql 96 (.agg #[.int .i64 x182_0_2, .int .i64 x182_1_2, .bool b182_2_2]) (.agg #[.int .i64 0, .int .i64 i33, .bool true]) : Sem Value).run Try.prog w' = .ok (.bool b185_2) w') ∧
                      sel b185_2 (
                        sel ((x136_1_1 : Int) == (150 : Int)) (
                          sel ((x142_0_1 : Int) == (0 : Int)) (
                            sel ((x142_1_1 : Int) == (0 : Int)) (
                              R (.bool b28_2) w_38) (
                              R (.bool false) w_38)) (
                            R (.bool false) w_38)) (
                          R (.bool false) w_38)) (
                        R (.bool false) w_38)) (
                      R (.bool false) w_38)) (
                    R (.bool false) w_38))) (
                ∃ I_9 : Bool → Int → World → Nat → Prop,
                (∃ n, I_9 false 0 w_37 n) ∧
                ∀ d_9 : Env, ∀ (b28_3 : Bool) (x29_3 : Int) (w_39 : World) (r_9 : Nat), I_9 b28_3 x29_3 w_39 r_9 →
                sel (decide ((x29_3 : Int) < ((n148_0_1 : Int) : Int))) (
                  sel b28_3 (
                    (0 : Int) ≤ x29_3 ∧ x29_3 < (n148_0_1 : Int) ∧
                    needPtr A148_0_1 fun b169_3 o169_3 =>
                    ∃ (x170_3 : Int),
                    w_39.cell? ⟨b169_3, o169_3 + x29_3.toNat * 1, none⟩ = some (.int .i64 x170_3) ∧
                    let i164_6 : Int := IntKind.i64.wrap (x29_3 + 1);
                    ([.bool b7, .int .i64 i33, .slice A131_1 n131_1 c131_1, .int .i64 x136_1_1, .int .i64 x142_0_1, .int .i64 x142_1_1, .slice A148_0_1 n148_0_1 c148_0_1] : List Value) = ([.bool b7, .int .i64 i33, .slice A131_1 n131_1 c131_1, .int .i64 x136_1_1, .int .i64 x142_0_1, .int .i64 x142_1_1, .slice A148_0_1 n148_0_1 c148_0_1] : List Value) ∧ ∃ m, m < r_9 ∧ I_9 ((x170_3 : Int) == (0 : Int)) i164_6 w_39 m) (
                    let i164_7 : Int := IntKind.i64.wrap (x29_3 + 1);
                    ([.bool b7, .int .i64 i33, .slice A131_1 n131_1 c131_1, .int .i64 x136_1_1, .int .i64 x142_0_1, .int .i64 x142_1_1, .slice A148_0_1 n148_0_1 c148_0_1] : List Value) = ([.bool b7, .int .i64 i33, .slice A131_1 n131_1 c131_1, .int .i64 x136_1_1, .int .i64 x142_0_1, .int .i64 x142_1_1, .slice A148_0_1 n148_0_1 c148_0_1] : List Value) ∧ ∃ m, m < r_9 ∧ I_9 false i164_7 w_39 m)) (
                  sel b7 (
                    sel (((n131_1 : Int) : Int) == (1 : Int)) (
                      (0 : Int) ≤ 0 ∧ 0 < (n131_1 : Int) ∧
                      needPtr A131_1 fun b181_3 o181_3 =>
                      ∃ (x182_0_3 : Int),
                      w_39.cell? ⟨b181_3, o181_3, none⟩ = some (.int .i64 x182_0_3) ∧
                      ∃ (x182_1_3 : Int),
                      w_39.cell? ⟨b181_3, o181_3 + 1, none⟩ = some (.int .i64 x182_1_3) ∧
                      ∃ (b182_2_3 : Bool),
                      w_39.cell? ⟨b181_3, o181_3 + 1 + 1, none⟩ = some (.bool b182_2_3) ∧
                      ∃ b185_3 : Bool, (∀ w', (do eqGuard .eql 96 (.tmp 182) (.tmp 184) (.agg #[.int .i64 x182_0_3, .int .i64 x182_1_3, .bool b182_2_3]) (.agg #[.int .i64 0, .int .i64 i33, .bool true]); binOp .eql 96 (.agg #[.int .i64 x182_0_3, .int .i64 x182_1_3, .bool b182_2_3]) (.agg #[.int .i64 0, .int .i64 i33, .bool true]) : Sem Value).run Try.prog w' = .ok (.bool b185_3) w') ∧
                      sel b185_3 (
                        sel ((x136_1_1 : Int) == (150 : Int)) (
                          sel ((x142_0_1 : Int) == (0 : Int)) (
                            sel ((x142_1_1 : Int) == (0 : Int)) (
                              R (.bool b28_3) w_39) (
                              R (.bool false) w_39)) (
                            R (.bool false) w_39)) (
                          R (.bool false) w_39)) (
                        R (.bool false) w_39)) (
                      R (.bool false) w_39)) (
                    R (.bool false) w_39)))))))))
theorem f9.eq (xa0 : Int) (Aa1 : Option Addr) (na1 ca1 : Nat) (Aa2 : Option Addr) (na2 ca2 : Nat) (w : World) (R : Value → World → Prop) : f9.VC xa0 Aa1 na1 ca1 Aa2 na2 ca2 w R = funV Try.prog Try.f9 f9.AL f9.AC #[.int .i64 xa0, .slice Aa1 na1 ca1, .slice Aa2 na2 ca2] w R := by kernel_rfl
theorem f9.calls {xa0 : Int} {Aa1 : Option Addr} {na1 ca1 : Nat} {Aa2 : Option Addr} {na2 ca2 : Nat} {w : World} {R : Value → World → Prop} (h : f9.VC xa0 Aa1 na1 ca1 Aa2 na2 ca2 w R) : Calls Try.prog 9 #[.int .i64 xa0, .slice Aa1 na1 ca1, .slice Aa2 na2 ca2] w fun e w' => ∃ v, e = .returned v ∧ R v w' :=
  funV_sound (fn := Try.f9) (AL := f9.AL) (AC := f9.AC) V9a.mixed (by kernel_rfl) (by rw [← f9.eq xa0 Aa1 na1 ca1 Aa2 na2 ca2]; exact h)

end Go.Proofs.Ytebahglmdifmpaa
