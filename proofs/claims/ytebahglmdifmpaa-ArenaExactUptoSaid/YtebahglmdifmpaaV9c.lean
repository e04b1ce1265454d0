/- The plain statements of some functions, printed by vcgen.py. -/
import Derived.Test.YtebahglmdifmpaaVcC
import Derived.Test.YtebahglmdifmpaaProg
import Derived.KernelRfl
set_option maxRecDepth 100000
set_option linter.unusedVariables false
namespace Go.Proofs.Ytebahglmdifmpaa
open Go Go.Proofs.Ytebahglmdifmpaa.Vc
theorem V9c.mixed : Try.prog.follows .mixedOrders = true := by kernel_rfl
/-- gatehouse/gatehouselaw15.ArenaPieces -/
def f8.AL : Nat → Option Ann := fun r => match r with | 11 => some ⟨[(7, .bool), (14, .int .i64)], [2, 8, 9, 10, 12]⟩ | _ => none
def f8.AC : Nat → Option Ann := fun r => match r with | 17 => some ⟨[(83, .bool)], [2, 8, 9, 10, 12, 14, 15, 16, 17]⟩ | 26 => some ⟨[(144, .bool)], [2, 8, 9, 10, 12, 14, 15, 16, 17, 19, 20, 21, 23]⟩ | 31 => some ⟨[(149, .bool)], [2, 8, 9, 10, 12, 14, 15, 16, 17, 19, 20, 21]⟩ | 33 => some ⟨[(161, .bool)], [2, 8, 9, 10, 12, 14, 15, 16, 17, 21]⟩ | 34 => some ⟨[(21, .int .i64)], [2, 8, 9, 10, 12, 14, 15, 16, 17]⟩ | 38 => some ⟨[(190, .bool)], [2, 8, 9, 10, 12, 14, 15, 16, 17, 19, 20, 21]⟩ | 39 => some ⟨[(19, .int .i64), (20, .int .i64), (21, .int .i64)], [2, 8, 9, 10, 12, 14, 15, 16, 17]⟩ | 42 => some ⟨[(7, .bool)], [2, 8, 9, 10, 12, 14, 15, 16, 20, 21, 27]⟩ | 43 => some ⟨[(228, .bool)], [2, 7, 8, 9, 10, 12, 14, 16, 20, 21, 27]⟩ | _ => none
def f8.VC (xa0 : Int) (xa1 : Int) (Aa2 : Option Addr) (na2 ca2 : Nat) (w : World) (R : Value → World → Prop) : Prop :=
  Calls Try.prog 11 #[] w fun e_1 w_1 =>
  ∃ (b28 : Bool),
  e_1 = .returned (.bool b28) ∧
  Calls Try.prog 19 #[.int .i64 xa0, .int .i64 120] w_1 fun e_2 w_2 =>
  ∃ (x30 : Int),
  e_2 = .returned (.int .i64 x30) ∧
  let i31 : Int := IntKind.i64.wrap (1 + x30);
  Calls Try.prog 19 #[.int .i64 xa1, .int .i64 i31] w_2 fun e_3 w_3 =>
  ∃ (x34 : Int),
  e_3 = .returned (.int .i64 x34) ∧
  Calls Try.prog 37 #[.int .i64 i31] w_3 fun e_4 w_4 =>
  ∃ (p37_0 : Option Addr) (x37_1 : Int),
  e_4 = .returned (.tuple #[.pointer p37_0, .int .i64 x37_1]) ∧
  sel (Option.isNone p37_0) (
    R (.bool false) w_4) (
    Calls Try.prog 38 #[.pointer p37_0, .int .i64 x34] w_4 fun e_5 w_5 =>
    ∃ (p45_0 : Option Addr) (x45_1 : Int),
    e_5 = .returned (.tuple #[.pointer p45_0, .int .i64 x45_1]) ∧
    sel ((x45_1 : Int) != (0 : Int)) (
      R (.bool false) w_5) (
      sel (Option.isNone p45_0) (
        R (.bool false) w_5) (
        ∃ I : Bool → Int → World → Nat → Prop,
        (∃ n, I b28 0 w_5 n) ∧
        ∀ d : Env, ∀ (b7 : Bool) (x14 : Int) (w_6 : World) (r : Nat), I b7 x14 w_6 r →
        sel (decide ((x14 : Int) < ((na2 : Int) : Int))) (
          sel b7 (
            (0 : Int) ≤ x14 ∧ x14 < (na2 : Int) ∧
            needPtr Aa2 fun b65 o65 =>
            ∃ (x66_0 : Int),
            w_6.cell? ⟨b65, o65 + x14.toNat * 4, none⟩ = some (.int .i64 x66_0) ∧
            ∃ (x66_1 : Int),
            w_6.cell? ⟨b65, o65 + x14.toNat * 4 + 1, none⟩ = some (.int .i64 x66_1) ∧
            ∃ (x66_2 : Int),
            w_6.cell? ⟨b65, o65 + x14.toNat * 4 + 1 + 1, none⟩ = some (.int .i64 x66_2) ∧
            ∃ (x66_3 : Int),
            w_6.cell? ⟨b65, o65 + x14.toNat * 4 + 1 + 1 + 1, none⟩ = some (.int .i64 x66_3) ∧
            let w_7 : World := World.alloc w_6 (.cells #[.int .i64 0, .int .i64 0, .int .i64 0, .int .i64 0] 90);
            canStore w_7 w_6.heap.size 0 4 ∧
            let w_8 : World := setCs w_7 w_6.heap.size 0 [.int .i64 x66_0, .int .i64 x66_1, .int .i64 x66_2, .int .i64 x66_3];
            Calls Try.prog 45 #[.pointer p45_0] w_8 fun e_6 w_9 =>
            ∃ (A68 : Option Addr) (n68 c68 : Nat),
            e_6 = .returned (.slice A68 n68 c68) ∧
            Calls Try.prog 51 #[.pointer p37_0, .int .i64 0, .int .i64 i31] w_9 fun e_7 w_10 =>
            ∃ (A72_0 : Option Addr) (n72_0 c72_0 : Nat) (x72_1 : Int),
            e_7 = .returned (.tuple #[.slice A72_0 n72_0 c72_0, .int .i64 x72_1]) ∧
            ∃ M : Bool → World → Prop,
            (sel ((x72_1 : Int) != (0 : Int)) (
                ([.slice Aa2 na2 ca2, .int .i64 i31, .int .i64 x34, .pointer p37_0, .pointer p45_0, .int .i64 x14, .pointer (some ⟨w_6.heap.size, 0, none⟩), .slice A68 n68 c68, .slice A72_0 n72_0 c72_0] : List Value) = ([.slice Aa2 na2 ca2, .int .i64 i31, .int .i64 x34, .pointer p37_0, .pointer p45_0, .int .i64 x14, .pointer (some ⟨w_6.heap.size, 0, none⟩), .slice A68 n68 c68, .slice A72_0 n72_0 c72_0] : List Value) ∧ M true w_10) (
                Calls Try.prog 52 #[.slice A68 n68 c68, .int .i64 x34, .int .i64 i31] w_10 fun e_8 w_11 =>
                ∃ (b81 : Bool),
                e_8 = .returned (.bool b81) ∧
                ([.slice Aa2 na2 ca2, .int .i64 i31, .int .i64 x34, .pointer p37_0, .pointer p45_0, .int .i64 x14, .pointer (some ⟨w_6.heap.size, 0, none⟩), .slice A68 n68 c68, .slice A72_0 n72_0 c72_0] : List Value) = ([.slice Aa2 na2 ca2, .int .i64 i31, .int .i64 x34, .pointer p37_0, .pointer p45_0, .int .i64 x14, .pointer (some ⟨w_6.heap.size, 0, none⟩), .slice A68 n68 c68, .slice A72_0 n72_0 c72_0] : List Value) ∧ M (!b81) w_11)) ∧
            ∀ d_1 : Env, ∀ (b83 : Bool) (w_12 : World), M b83 w_12 →
            sel b83 (
              R (.bool false) w_12) (
              ∃ M_1 : Int → Int → Int → World → Prop,
              (∃ (x85 : Int),
                w_12.cell? ⟨w_6.heap.size, 0, none⟩ = some (.int .i64 x85) ∧
                sel ((x85 : Int) == (1 : Int)) (
                  ∃ (x91 : Int),
                  w_12.cell? ⟨w_6.heap.size, 2, none⟩ = some (.int .i64 x91) ∧
                  Calls Try.prog 43 #[.pointer p45_0, .int .i64 x91] w_12 fun e_9 w_13 =>
                  ∃ (x92_0 : Int) (x92_1 : Int),
                  e_9 = .returned (.tuple #[.int .i64 x92_0, .int .i64 x92_1]) ∧
                  ∃ (x97 : Int),
                  w_13.cell? ⟨w_6.heap.size, 2, none⟩ = some (.int .i64 x97) ∧
                  Calls Try.prog 53 #[.slice A68 n68 c68, .int .i64 x97] w_13 fun e_10 w_14 =>
                  ∃ (x98 : Int),
                  e_10 = .returned (.int .i64 x98) ∧
                  ∃ M_2 : Bool → World → Prop,
                  (∃ (x100 : Int),
                    w_14.cell? ⟨w_6.heap.size, 2, none⟩ = some (.int .i64 x100) ∧
                    sel (decide ((x100 : Int) < (1 : Int))) (
                      sel ((x92_1 : Int) != (1 : Int)) (
                        ([.slice Aa2 na2 ca2, .int .i64 i31, .int .i64 x34, .pointer p37_0, .pointer p45_0, .int .i64 x14, .pointer (some ⟨w_6.heap.size, 0, none⟩), .slice A68 n68 c68, .slice A72_0 n72_0 c72_0, .int .i64 0, .int .i64 0, .int .i64 x98, .int .i64 x92_1] : List Value) = ([.slice Aa2 na2 ca2, .int .i64 i31, .int .i64 x34, .pointer p37_0, .pointer p45_0, .int .i64 x14, .pointer (some ⟨w_6.heap.size, 0, none⟩), .slice A68 n68 c68, .slice A72_0 n72_0 c72_0, .int .i64 0, .int .i64 0, .int .i64 x98, .int .i64 x92_1] : List Value) ∧ M_2 true w_14) (
                        sel ((x92_0 : Int) != (0 : Int)) (
                          ([.slice Aa2 na2 ca2, .int .i64 i31, .int .i64 x34, .pointer p37_0, .pointer p45_0, .int .i64 x14, .pointer (some ⟨w_6.heap.size, 0, none⟩), .slice A68 n68 c68, .slice A72_0 n72_0 c72_0, .int .i64 0, .int .i64 0, .int .i64 x98, .int .i64 x92_1] : List Value) = ([.slice Aa2 na2 ca2, .int .i64 i31, .int .i64 x34, .pointer p37_0, .pointer p45_0, .int .i64 x14, .pointer (some ⟨w_6.heap.size, 0, none⟩), .slice A68 n68 c68, .slice A72_0 n72_0 c72_0, .int .i64 0, .int .i64 0, .int .i64 x98, .int .i64 x92_1] : List Value) ∧ M_2 true w_14) (
                          ∃ (x112 : Int),
                          w_14.cell? ⟨w_6.heap.size, 2, none⟩ = some (.int .i64 x112) ∧
                          sel (decide ((1 : Int) ≤ (x112 : Int))) (
                            sel (decide ((x98 : Int) < (0 : Int))) (
                              sel ((x92_1 : Int) != (150 : Int)) (
                                ([.slice Aa2 na2 ca2, .int .i64 i31, .int .i64 x34, .pointer p37_0, .pointer p45_0, .int .i64 x14, .pointer (some ⟨w_6.heap.size, 0, none⟩), .slice A68 n68 c68, .slice A72_0 n72_0 c72_0, .int .i64 0, .int .i64 0, .int .i64 x98, .int .i64 x92_1] : List Value) = ([.slice Aa2 na2 ca2, .int .i64 i31, .int .i64 x34, .pointer p37_0, .pointer p45_0, .int .i64 x14, .pointer (some ⟨w_6.heap.size, 0, none⟩), .slice A68 n68 c68, .slice A72_0 n72_0 c72_0, .int .i64 0, .int .i64 0, .int .i64 x98, .int .i64 x92_1] : List Value) ∧ M_2 true w_14) (
                                sel ((x92_0 : Int) != (0 : Int)) (
                                  ([.slice Aa2 na2 ca2, .int .i64 i31, .int .i64 x34, .pointer p37_0, .pointer p45_0, .int .i64 x14, .pointer (some ⟨w_6.heap.size, 0, none⟩), .slice A68 n68 c68, .slice A72_0 n72_0 c72_0, .int .i64 0, .int .i64 0, .int .i64 x98, .int .i64 x92_1] : List Value) = ([.slice Aa2 na2 ca2, .int .i64 i31, .int .i64 x34, .pointer p37_0, .pointer p45_0, .int .i64 x14, .pointer (some ⟨w_6.heap.size, 0, none⟩), .slice A68 n68 c68, .slice A72_0 n72_0 c72_0, .int .i64 0, .int .i64 0, .int .i64 x98, .int .i64 x92_1] : List Value) ∧ M_2 true w_14) (
                                  ∃ (x129 : Int),
                                  w_14.cell? ⟨w_6.heap.size, 2, none⟩ = some (.int .i64 x129) ∧
                                  sel (decide ((1 : Int) ≤ (x129 : Int))) (
                                    sel (decide ((0 : Int) ≤ (x98 : Int))) (
                                      sel ((x92_1 : Int) != (0 : Int)) (
                                        ([.slice Aa2 na2 ca2, .int .i64 i31, .int .i64 x34, .pointer p37_0, .pointer p45_0, .int .i64 x14, .pointer (some ⟨w_6.heap.size, 0, none⟩), .slice A68 n68 c68, .slice A72_0 n72_0 c72_0, .int .i64 0, .int .i64 0, .int .i64 x98, .int .i64 x92_1] : List Value) = ([.slice Aa2 na2 ca2, .int .i64 i31, .int .i64 x34, .pointer p37_0, .pointer p45_0, .int .i64 x14, .pointer (some ⟨w_6.heap.size, 0, none⟩), .slice A68 n68 c68, .slice A72_0 n72_0 c72_0, .int .i64 0, .int .i64 0, .int .i64 x98, .int .i64 x92_1] : List Value) ∧ M_2 true w_14) (
                                        ([.slice Aa2 na2 ca2, .int .i64 i31, .int .i64 x34, .pointer p37_0, .pointer p45_0, .int .i64 x14, .pointer (some ⟨w_6.heap.size, 0, none⟩), .slice A68 n68 c68, .slice A72_0 n72_0 c72_0, .int .i64 0, .int .i64 0, .int .i64 x98, .int .i64 x92_1] : List Value) = ([.slice Aa2 na2 ca2, .int .i64 i31, .int .i64 x34, .pointer p37_0, .pointer p45_0, .int .i64 x14, .pointer (some ⟨w_6.heap.size, 0, none⟩), .slice A68 n68 c68, .slice A72_0 n72_0 c72_0, .int .i64 0, .int .i64 0, .int .i64 x98, .int .i64 x92_1] : List Value) ∧ M_2 ((x92_0 : Int) != (x98 : Int)) w_14)) (
                                      ([.slice Aa2 na2 ca2, .int .i64 i31, .int .i64 x34, .pointer p37_0, .pointer p45_0, .int .i64 x14, .pointer (some ⟨w_6.heap.size, 0, none⟩), .slice A68 n68 c68, .slice A72_0 n72_0 c72_0, .int .i64 0, .int .i64 0, .int .i64 x98, .int .i64 x92_1] : List Value) = ([.slice Aa2 na2 ca2, .int .i64 i31, .int .i64 x34, .pointer p37_0, .pointer p45_0, .int .i64 x14, .pointer (some ⟨w_6.heap.size, 0, none⟩), .slice A68 n68 c68, .slice A72_0 n72_0 c72_0, .int .i64 0, .int .i64 0, .int .i64 x98, .int .i64 x92_1] : List Value) ∧ M_2 false w_14)) (
                                    ([.slice Aa2 na2 ca2, .int .i64 i31, .int .i64 x34, .pointer p37_0, .pointer p45_0, .int .i64 x14, .pointer (some ⟨w_6.heap.size, 0, none⟩), .slice A68 n68 c68, .slice A72_0 n72_0 c72_0, .int .i64 0, .int .i64 0, .int .i64 x98, .int .i64 x92_1] : List Value) = ([.slice Aa2 na2 ca2, .int .i64 i31, .int .i64 x34, .pointer p37_0, .pointer p45_0, .int .i64 x14, .pointer (some ⟨w_6.heap.size, 0, none⟩), .slice A68 n68 c68, .slice A72_0 n72_0 c72_0, .int .i64 0, .int .i64 0, .int .i64 x98, .int .i64 x92_1] : List Value) ∧ M_2 false w_14)))) (
                              ∃ (x129_1 : Int),
                              w_14.cell? ⟨w_6.heap.size, 2, none⟩ = some (.int .i64 x129_1) ∧
                              sel (decide ((1 : Int) ≤ (x129_1 : Int))) (
                                sel (decide ((0 : Int) ≤ (x98 : Int))) (
                                  sel ((x92_1 : Int) != (0 : Int)) (
                                    ([.slice Aa2 na2 ca2, .int .i64 i31, .int .i64 x34, .pointer p37_0, .pointer p45_0, .int .i64 x14, .pointer (some ⟨w_6.heap.size, 0, none⟩), .slice A68 n68 c68, .slice A72_0 n72_0 c72_0, .int .i64 0, .int .i64 0, .int .i64 x98, .int .i64 x92_1] : List Value) = ([.slice Aa2 na2 ca2, .int .i64 i31, .int .i64 x34, .pointer p37_0, .pointer p45_0, .int .i64 x14, .pointer (some ⟨w_6.heap.size, 0, none⟩), .slice A68 n68 c68, .slice A72_0 n72_0 c72_0, .int .i64 0, .int .i64 0, .int .i64 x98, .int .i64 x92_1] : List Value) ∧ M_2 true w_14) (
                                    ([.slice Aa2 na2 ca2, .int .i64 i31, .int .i64 x34, .pointer p37_0, .pointer p45_0, .int .i64 x14, .pointer (some ⟨w_6.heap.size, 0, none⟩), .slice A68 n68 c68, .slice A72_0 n72_0 c72_0, .int .i64 0, .int .i64 0, .int .i64 x98, .int .i64 x92_1] : List Value) = ([.slice Aa2 na2 ca2, .int .i64 i31, .int .i64 x34, .pointer p37_0, .pointer p45_0, .int .i64 x14, .pointer (some ⟨w_6.heap.size, 0, none⟩), .slice A68 n68 c68, .slice A72_0 n72_0 c72_0, .int .i64 0, .int .i64 0, .int .i64 x98, .int .i64 x92_1] : List Value) ∧ M_2 ((x92_0 : Int) != (x98 : Int)) w_14)) (
                                  ([.slice Aa2 na2 ca2, .int .i64 i31, .int .i64 x34, .pointer p37_0, .pointer p45_0, .int .i64 x14, .pointer (some ⟨w_6.heap.size, 0, none⟩), .slice A68 n68 c68, .slice A72_0 n72_0 c72_0, .int .i64 0, .int .i64 0, .int .i64 x98, .int .i64 x92_1] : List Value) = ([.slice Aa2 na2 ca2, .int .i64 i31, .int .i64 x34, .pointer p37_0, .pointer p45_0, .int .i64 x14, .pointer (some ⟨w_6.heap.size, 0, none⟩), .slice A68 n68 c68, .slice A72_0 n72_0 c72_0, .int .i64 0, .int .i64 0, .int .i64 x98, .int .i64 x92_1] : List Value) ∧ M_2 false w_14)) (
                                ([.slice Aa2 na2 ca2, .int .i64 i31, .int .i64 x34, .pointer p37_0, .pointer p45_0, .int .i64 x14, .pointer (some ⟨w_6.heap.size, 0, none⟩), .slice A68 n68 c68, .slice A72_0 n72_0 c72_0, .int .i64 0, .int .i64 0, .int .i64 x98, .int .i64 x92_1] : List Value) = ([.slice Aa2 na2 ca2, .int .i64 i31, .int .i64 x34, .pointer p37_0, .pointer p45_0, .int .i64 x14, .pointer (some ⟨w_6.heap.size, 0, none⟩), .slice A68 n68 c68, .slice A72_0 n72_0 c72_0, .int .i64 0, .int .i64 0, .int .i64 x98, .int .i64 x92_1] : List Value) ∧ M_2 false w_14))) (
                            ∃ (x129_2 : Int),
                            w_14.cell? ⟨w_6.heap.size, 2, none⟩ = some (.int .i64 x129_2) ∧
                            sel (decide ((1 : Int) ≤ (x129_2 : Int))) (
                              sel (decide ((0 : Int) ≤ (x98 : Int))) (
                                sel ((x92_1 : Int) != (0 : Int)) (
                                  ([.slice Aa2 na2 ca2, .int .i64 i31, .int .i64 x34, .pointer p37_0, .pointer p45_0, .int .i64 x14, .pointer (some ⟨w_6.heap.size, 0, none⟩), .slice A68 n68 c68, .slice A72_0 n72_0 c72_0, .int .i64 0, .int .i64 0, .int .i64 x98, .int .i64 x92_1] : List Value) = ([.slice Aa2 na2 ca2, .int .i64 i31, .int .i64 x34, .pointer p37_0, .pointer p45_0, .int .i64 x14, .pointer (some ⟨w_6.heap.size, 0, none⟩), .slice A68 n68 c68, .slice A72_0 n72_0 c72_0, .int .i64 0, .int .i64 0, .int .i64 x98, .int .i64 x92_1] : List Value) ∧ M_2 true w_14) (
                                  ([.slice Aa2 na2 ca2, .int .i64 i31, .int .i64 x34, .pointer p37_0, .pointer p45_0, .int .i64 x14, .pointer (some ⟨w_6.heap.size, 0, none⟩), .slice A68 n68 c68, .slice A72_0 n72_0 c72_0, .int .i64 0, .int .i64 0, .int .i64 x98, .int .i64 x92_1] : List Value) = ([.slice Aa2 na2 ca2, .int .i64 i31, .int .i64 x34, .pointer p37_0, .pointer p45_0, .int .i64 x14, .pointer (some ⟨w_6.heap.size, 0, none⟩), .slice A68 n68 c68, .slice A72_0 n72_0 c72_0, .int .i64 0, .int .i64 0, .int .i64 x98, .int .i64 x92_1] : List Value) ∧ M_2 ((x92_0 : Int) != (x98 : Int)) w_14)) (
                                ([.slice Aa2 na2 ca2, .int .i64 i31, .int .i64 x34, .pointer p37_0, .pointer p45_0, .int .i64 x14, .pointer (some ⟨w_6.heap.size, 0, none⟩), .slice A68 n68 c68, .slice A72_0 n72_0 c72_0, .int .i64 0, .int .i64 0, .int .i64 x98, .int .i64 x92_1] : List Value) = ([.slice Aa2 na2 ca2, .int .i64 i31, .int .i64 x34, .pointer p37_0, .pointer p45_0, .int .i64 x14, .pointer (some ⟨w_6.heap.size, 0, none⟩), .slice A68 n68 c68, .slice A72_0 n72_0 c72_0, .int .i64 0, .int .i64 0, .int .i64 x98, .int .i64 x92_1] : List Value) ∧ M_2 false w_14)) (
                              ([.slice Aa2 na2 ca2, .int .i64 i31, .int .i64 x34, .pointer p37_0, .pointer p45_0, .int .i64 x14, .pointer (some ⟨w_6.heap.size, 0, none⟩), .slice A68 n68 c68, .slice A72_0 n72_0 c72_0, .int .i64 0, .int .i64 0, .int .i64 x98, .int .i64 x92_1] : List Value) = ([.slice Aa2 na2 ca2, .int .i64 i31, .int .i64 x34, .pointer p37_0, .pointer p45_0, .int .i64 x14, .pointer (some ⟨w_6.heap.size, 0, none⟩), .slice A68 n68 c68, .slice A72_0 n72_0 c72_0, .int .i64 0, .int .i64 0, .int .i64 x98, .int .i64 x92_1] : List Value) ∧ M_2 false w_14))))) (
                      ∃ (x112_1 : Int),
                      w_14.cell? ⟨w_6.heap.size, 2, none⟩ = some (.int .i64 x112_1) ∧
                      sel (decide ((1 : Int) ≤ (x112_1 : Int))) (
                        sel (decide ((x98 : Int) < (0 : Int))) (
                          sel ((x92_1 : Int) != (150 : Int)) (
                            ([.slice Aa2 na2 ca2, .int .i64 i31, .int .i64 x34, .pointer p37_0, .pointer p45_0, .int .i64 x14, .pointer (some ⟨w_6.heap.size, 0, none⟩), .slice A68 n68 c68, .slice A72_0 n72_0 c72_0, .int .i64 0, .int .i64 0, .int .i64 x98, .int .i64 x92_1] : List Value) = ([.slice Aa2 na2 ca2, .int .i64 i31, .int .i64 x34, .pointer p37_0, .pointer p45_0, .int .i64 x14, .pointer (some ⟨w_6.heap.size, 0, none⟩), .slice A68 n68 c68, .slice A72_0 n72_0 c72_0, .int .i64 0, .int .i64 0, .int .i64 x98, .int .i64 x92_1] : List Value) ∧ M_2 true w_14) (
                            sel ((x92_0 : Int) != (0 : Int)) (
                              ([.slice Aa2 na2 ca2, .int .i64 i31, .int .i64 x34, .pointer p37_0, .pointer p45_0, .int .i64 x14, .pointer (some ⟨w_6.heap.size, 0, none⟩), .slice A68 n68 c68, .slice A72_0 n72_0 c72_0, .int .i64 0, .int .i64 0, .int .i64 x98, .int .i64 x92_1] : List Value) = ([.slice Aa2 na2 ca2, .int .i64 i31, .int .i64 x34, .pointer p37_0, .pointer p45_0, .int .i64 x14, .pointer (some ⟨w_6.heap.size, 0, none⟩), .slice A68 n68 c68, .slice A72_0 n72_0 c72_0, .int .i64 0, .int .i64 0, .int .i64 x98, .int .i64 x92_1] : List Value) ∧ M_2 true w_14) (
                              ∃ (x129_3 : Int),
                              w_14.cell? ⟨w_6.heap.size, 2, none⟩ = some (.int .i64 x129_3) ∧
                              sel (decide ((1 : Int) ≤ (x129_3 : Int))) (
                                sel (decide ((0 : Int) ≤ (x98 : Int))) (
                                  sel ((x92_1 : Int) != (0 : Int)) (
                                    ([.slice Aa2 na2 ca2, .int .i64 i31, .int .i64 x34, .pointer p37_0, .pointer p45_0, .int .i64 x14, .pointer (some ⟨w_6.heap.size, 0, none⟩), .slice A68 n68 c68, .slice A72_0 n72_0 c72_0, .int .i64 0, .int .i64 0, .int .i64 x98, .int .i64 x92_1] : List Value) = ([.slice Aa2 na2 ca2, .int .i64 i31, .int .i64 x34, .pointer p37_0, .pointer p45_0, .int .i64 x14, .pointer (some ⟨w_6.heap.size, 0, none⟩), .slice A68 n68 c68, .slice A72_0 n72_0 c72_0, .int .i64 0, .int .i64 0, .int .i64 x98, .int .i64 x92_1] : List Value) ∧ M_2 true w_14) (
                                    ([.slice Aa2 na2 ca2, .int .i64 i31, .int .i64 x34, .pointer p37_0, .pointer p45_0, .int .i64 x14, .pointer (some ⟨w_6.heap.size, 0, none⟩), .slice A68 n68 c68, .slice A72_0 n72_0 c72_0, .int .i64 0, .int .i64 0, .int .i64 x98, .int .i64 x92_1] : List Value) = ([.slice Aa2 na2 ca2, .int .i64 i31, .int .i64 x34, .pointer p37_0, .pointer p45_0, .int .i64 x14, .pointer (some ⟨w_6.heap.size, 0, none⟩), .slice A68 n68 c68, .slice A72_0 n72_0 c72_0, .int .i64 0, .int .i64 0, .int .i64 x98, .int .i64 x92_1] : List Value) ∧ M_2 ((x92_0 : Int) != (x98 : Int)) w_14)) (
                                  ([.slice Aa2 na2 ca2, .int .i64 i31, .int .i64 x34, .pointer p37_0, .pointer p45_0, .int .i64 x14, .pointer (some ⟨w_6.heap.size, 0, none⟩), .slice A68 n68 c68, .slice A72_0 n72_0 c72_0, .int .i64 0, .int .i64 0, .int .i64 x98, .int .i64 x92_1] : List Value) = ([.slice Aa2 na2 ca2, .int .i64 i31, .int .i64 x34, .pointer p37_0, .pointer p45_0, .int .i64 x14, .pointer (some ⟨w_6.heap.size, 0, none⟩), .slice A68 n68 c68, .slice A72_0 n72_0 c72_0, .int .i64 0, .int .i64 0, .int .i64 x98, .int .i64 x92_1] : List Value) ∧ M_2 false w_14)) (
                                ([.slice Aa2 na2 ca2, .int .i64 i31, .int .i64 x34, .pointer p37_0, .pointer p45_0, .int .i64 x14, .pointer (some ⟨w_6.heap.size, 0, none⟩), .slice A68 n68 c68, .slice A72_0 n72_0 c72_0, .int .i64 0, .int .i64 0, .int .i64 x98, .int .i64 x92_1] : List Value) = ([.slice Aa2 na2 ca2, .int .i64 i31, .int .i64 x34, .pointer p37_0, .pointer p45_0, .int .i64 x14, .pointer (some ⟨w_6.heap.size, 0, none⟩), .slice A68 n68 c68, .slice A72_0 n72_0 c72_0, .int .i64 0, .int .i64 0, .int .i64 x98, .int .i64 x92_1] : List Value) ∧ M_2 false w_14)))) (
                          ∃ (x129_4 : Int),
                          w_14.cell? ⟨w_6.heap.size, 2, none⟩ = some (.int .i64 x129_4) ∧
                          sel (decide ((1 : Int) ≤ (x129_4 : Int))) (
                            sel (decide ((0 : Int) ≤ (x98 : Int))) (
                              sel ((x92_1 : Int) != (0 : Int)) (
                                ([.slice Aa2 na2 ca2, .int .i64 i31, .int .i64 x34, .pointer p37_0, .pointer p45_0, .int .i64 x14, .pointer (some ⟨w_6.heap.size, 0, none⟩), .slice A68 n68 c68, .slice A72_0 n72_0 c72_0, .int .i64 0, .int .i64 0, .int .i64 x98, .int .i64 x92_1] : List Value) = ([.slice Aa2 na2 ca2, .int .i64 i31, .int .i64 x34, .pointer p37_0, .pointer p45_0, .int .i64 x14, .pointer (some ⟨w_6.heap.size, 0, none⟩), .slice A68 n68 c68, .slice A72_0 n72_0 c72_0, .int .i64 0, .int .i64 0, .int .i64 x98, .int .i64 x92_1] : List Value) ∧ M_2 true w_14) (
                                ([.slice Aa2 na2 ca2, .int .i64 i31, .int .i64 x34, .pointer p37_0, .pointer p45_0, .int .i64 x14, .pointer (some ⟨w_6.heap.size, 0, none⟩), .slice A68 n68 c68, .slice A72_0 n72_0 c72_0, .int .i64 0, .int .i64 0, .int .i64 x98, .int .i64 x92_1] : List Value) = ([.slice Aa2 na2 ca2, .int .i64 i31, .int .i64 x34, .pointer p37_0, .pointer p45_0, .int .i64 x14, .pointer (some ⟨w_6.heap.size, 0, none⟩), .slice A68 n68 c68, .slice A72_0 n72_0 c72_0, .int .i64 0, .int .i64 0, .int .i64 x98, .int .i64 x92_1] : List Value) ∧ M_2 ((x92_0 : Int) != (x98 : Int)) w_14)) (
                              ([.slice Aa2 na2 ca2, .int .i64 i31, .int .i64 x34, .pointer p37_0, .pointer p45_0, .int .i64 x14, .pointer (some ⟨w_6.heap.size, 0, none⟩), .slice A68 n68 c68, .slice A72_0 n72_0 c72_0, .int .i64 0, .int .i64 0, .int .i64 x98, .int .i64 x92_1] : List Value) = ([.slice Aa2 na2 ca2, .int .i64 i31, .int .i64 x34, .pointer p37_0, .pointer p45_0, .int .i64 x14, .pointer (some ⟨w_6.heap.size, 0, none⟩), .slice A68 n68 c68, .slice A72_0 n72_0 c72_0, .int .i64 0, .int .i64 0, .int .i64 x98, .int .i64 x92_1] : List Value) ∧ M_2 false w_14)) (
                            ([.slice Aa2 na2 ca2, .int .i64 i31, .int .i64 x34, .pointer p37_0, .pointer p45_0, .int .i64 x14, .pointer (some ⟨w_6.heap.size, 0, none⟩), .slice A68 n68 c68, .slice A72_0 n72_0 c72_0, .int .i64 0, .int .i64 0, .int .i64 x98, .int .i64 x92_1] : List Value) = ([.slice Aa2 na2 ca2, .int .i64 i31, .int .i64 x34, .pointer p37_0, .pointer p45_0, .int .i64 x14, .pointer (some ⟨w_6.heap.size, 0, none⟩), .slice A68 n68 c68, .slice A72_0 n72_0 c72_0, .int .i64 0, .int .i64 0, .int .i64 x98, .int .i64 x92_1] : List Value) ∧ M_2 false w_14))) (
                        ∃ (x129_5 : Int),
                        w_14.cell? ⟨w_6.heap.size, 2, none⟩ = some (.int .i64 x129_5) ∧
                        sel (decide ((1 : Int) ≤ (x129_5 : Int))) (
                          sel (decide ((0 : Int) ≤ (x98 : Int))) (
                            sel ((x92_1 : Int) != (0 : Int)) (
                              ([.slice Aa2 na2 ca2, .int .i64 i31, .int .i64 x34, .pointer p37_0, .pointer p45_0, .int .i64 x14, .pointer (some ⟨w_6.heap.size, 0, none⟩), .slice A68 n68 c68, .slice A72_0 n72_0 c72_0, .int .i64 0, .int .i64 0, .int .i64 x98, .int .i64 x92_1] : List Value) = ([.slice Aa2 na2 ca2, .int .i64 i31, .int .i64 x34, .pointer p37_0, .pointer p45_0, .int .i64 x14, .pointer (some ⟨w_6.heap.size, 0, none⟩), .slice A68 n68 c68, .slice A72_0 n72_0 c72_0, .int .i64 0, .int .i64 0, .int .i64 x98, .int .i64 x92_1] : List Value) ∧ M_2 true w_14) (
                              ([.slice Aa2 na2 ca2, .int .i64 i31, .int .i64 x34, .pointer p37_0, .pointer p45_0, .int .i64 x14, .pointer (some ⟨w_6.heap.size, 0, none⟩), .slice A68 n68 c68, .slice A72_0 n72_0 c72_0, .int .i64 0, .int .i64 0, .int .i64 x98, .int .i64 x92_1] : List Value) = ([.slice Aa2 na2 ca2, .int .i64 i31, .int .i64 x34, .pointer p37_0, .pointer p45_0, .int .i64 x14, .pointer (some ⟨w_6.heap.size, 0, none⟩), .slice A68 n68 c68, .slice A72_0 n72_0 c72_0, .int .i64 0, .int .i64 0, .int .i64 x98, .int .i64 x92_1] : List Value) ∧ M_2 ((x92_0 : Int) != (x98 : Int)) w_14)) (
                            ([.slice Aa2 na2 ca2, .int .i64 i31, .int .i64 x34, .pointer p37_0, .pointer p45_0, .int .i64 x14, .pointer (some ⟨w_6.heap.size, 0, none⟩), .slice A68 n68 c68, .slice A72_0 n72_0 c72_0, .int .i64 0, .int .i64 0, .int .i64 x98, .int .i64 x92_1] : List Value) = ([.slice Aa2 na2 ca2, .int .i64 i31, .int .i64 x34, .pointer p37_0, .pointer p45_0, .int .i64 x14, .pointer (some ⟨w_6.heap.size, 0, none⟩), .slice A68 n68 c68, .slice A72_0 n72_0 c72_0, .int .i64 0, .int .i64 0, .int .i64 x98, .int .i64 x92_1] : List Value) ∧ M_2 false w_14)) (
                          ([.slice Aa2 na2 ca2, .int .i64 i31, .int .i64 x34, .pointer p37_0, .pointer p45_0, .int .i64 x14, .pointer (some ⟨w_6.heap.size, 0, none⟩), .slice A68 n68 c68, .slice A72_0 n72_0 c72_0, .int .i64 0, .int .i64 0, .int .i64 x98, .int .i64 x92_1] : List Value) = ([.slice Aa2 na2 ca2, .int .i64 i31, .int .i64 x34, .pointer p37_0, .pointer p45_0, .int .i64 x14, .pointer (some ⟨w_6.heap.size, 0, none⟩), .slice A68 n68 c68, .slice A72_0 n72_0 c72_0, .int .i64 0, .int .i64 0, .int .i64 x98, .int .i64 x92_1] : List Value) ∧ M_2 false w_14)))) ∧
                  ∀ d_2 : Env, ∀ (b144 : Bool) (w_15 : World), M_2 b144 w_15 →
                  sel b144 (
                    R (.bool false) w_15) (
                    sel ((x92_1 : Int) == (0 : Int)) (
                      ∃ (x148 : Int),
                      w_15.cell? ⟨w_6.heap.size, 2, none⟩ = some (.int .i64 x148) ∧
                      ([.slice Aa2 na2 ca2, .int .i64 i31, .int .i64 x34, .pointer p37_0, .pointer p45_0, .int .i64 x14, .pointer (some ⟨w_6.heap.size, 0, none⟩), .slice A68 n68 c68, .slice A72_0 n72_0 c72_0] : List Value) = ([.slice Aa2 na2 ca2, .int .i64 i31, .int .i64 x34, .pointer p37_0, .pointer p45_0, .int .i64 x14, .pointer (some ⟨w_6.heap.size, 0, none⟩), .slice A68 n68 c68, .slice A72_0 n72_0 c72_0] : List Value) ∧ M_1 0 x148 x98 w_15) (
                      ([.slice Aa2 na2 ca2, .int .i64 i31, .int .i64 x34, .pointer p37_0, .pointer p45_0, .int .i64 x14, .pointer (some ⟨w_6.heap.size, 0, none⟩), .slice A68 n68 c68, .slice A72_0 n72_0 c72_0] : List Value) = ([.slice Aa2 na2 ca2, .int .i64 i31, .int .i64 x34, .pointer p37_0, .pointer p45_0, .int .i64 x14, .pointer (some ⟨w_6.heap.size, 0, none⟩), .slice A68 n68 c68, .slice A72_0 n72_0 c72_0] : List Value) ∧ M_1 0 0 x98 w_15))) (
                  ∃ M_3 : Bool → World → Prop,
                  (sel ((x85 : Int) == (2 : Int)) (
                      ([.slice Aa2 na2 ca2, .int .i64 i31, .int .i64 x34, .pointer p37_0, .pointer p45_0, .int .i64 x14, .pointer (some ⟨w_6.heap.size, 0, none⟩), .slice A68 n68 c68, .slice A72_0 n72_0 c72_0, .int .i64 0, .int .i64 0, .int .i64 0] : List Value) = ([.slice Aa2 na2 ca2, .int .i64 i31, .int .i64 x34, .pointer p37_0, .pointer p45_0, .int .i64 x14, .pointer (some ⟨w_6.heap.size, 0, none⟩), .slice A68 n68 c68, .slice A72_0 n72_0 c72_0, .int .i64 0, .int .i64 0, .int .i64 0] : List Value) ∧ M_3 ((x85 : Int) == (2 : Int)) w_12) (
                      ([.slice Aa2 na2 ca2, .int .i64 i31, .int .i64 x34, .pointer p37_0, .pointer p45_0, .int .i64 x14, .pointer (some ⟨w_6.heap.size, 0, none⟩), .slice A68 n68 c68, .slice A72_0 n72_0 c72_0, .int .i64 0, .int .i64 0, .int .i64 0] : List Value) = ([.slice Aa2 na2 ca2, .int .i64 i31, .int .i64 x34, .pointer p37_0, .pointer p45_0, .int .i64 x14, .pointer (some ⟨w_6.heap.size, 0, none⟩), .slice A68 n68 c68, .slice A72_0 n72_0 c72_0, .int .i64 0, .int .i64 0, .int .i64 0] : List Value) ∧ M_3 ((x85 : Int) == (3 : Int)) w_12)) ∧
                  ∀ d_3 : Env, ∀ (b149 : Bool) (w_16 : World), M_3 b149 w_16 →
                  sel b149 (
                    ∃ (x153 : Int),
                    w_16.cell? ⟨w_6.heap.size, 2, none⟩ = some (.int .i64 x153) ∧
                    ∃ M_4 : Int → World → Prop,
                    (∃ M_5 : Bool → World → Prop,
                      (∃ (x155 : Int),
                        w_16.cell? ⟨w_6.heap.size, 0, none⟩ = some (.int .i64 x155) ∧
                        sel ((x155 : Int) == (3 : Int)) (
                          ([.slice Aa2 na2 ca2, .int .i64 i31, .int .i64 x34, .pointer p37_0, .pointer p45_0, .int .i64 x14, .pointer (some ⟨w_6.heap.size, 0, none⟩), .slice A68 n68 c68, .slice A72_0 n72_0 c72_0, .int .i64 x153] : List Value) = ([.slice Aa2 na2 ca2, .int .i64 i31, .int .i64 x34, .pointer p37_0, .pointer p45_0, .int .i64 x14, .pointer (some ⟨w_6.heap.size, 0, none⟩), .slice A68 n68 c68, .slice A72_0 n72_0 c72_0, .int .i64 x153] : List Value) ∧ M_5 (decide ((0 : Int) < ((n68 : Int) : Int))) w_16) (
                          ([.slice Aa2 na2 ca2, .int .i64 i31, .int .i64 x34, .pointer p37_0, .pointer p45_0, .int .i64 x14, .pointer (some ⟨w_6.heap.size, 0, none⟩), .slice A68 n68 c68, .slice A72_0 n72_0 c72_0, .int .i64 x153] : List Value) = ([.slice Aa2 na2 ca2, .int .i64 i31, .int .i64 x34, .pointer p37_0, .pointer p45_0, .int .i64 x14, .pointer (some ⟨w_6.heap.size, 0, none⟩), .slice A68 n68 c68, .slice A72_0 n72_0 c72_0, .int .i64 x153] : List Value) ∧ M_5 false w_16)) ∧
                      ∀ d_4 : Env, ∀ (b161 : Bool) (w_17 : World), M_5 b161 w_17 →
                      sel b161 (
                        ∃ (x164 : Int),
                        w_17.cell? ⟨w_6.heap.size, 2, none⟩ = some (.int .i64 x164) ∧
                        Calls Try.prog 19 #[.int .i64 x164, .int .i64 (n68 : Int)] w_17 fun e_11 w_18 =>
                        ∃ (x167 : Int),
                        e_11 = .returned (.int .i64 x167) ∧
                        (0 : Int) ≤ x167 ∧ x167 < (n68 : Int) ∧
                        needPtr A68 fun b168 o168 =>
                        ∃ (x170 : Int),
                        w_18.cell? ⟨b168, o168 + x167.toNat * 3, none⟩ = some (.int .i64 x170) ∧
                        ([.slice Aa2 na2 ca2, .int .i64 i31, .int .i64 x34, .pointer p37_0, .pointer p45_0, .int .i64 x14, .pointer (some ⟨w_6.heap.size, 0, none⟩), .slice A68 n68 c68, .slice A72_0 n72_0 c72_0] : List Value) = ([.slice Aa2 na2 ca2, .int .i64 i31, .int .i64 x34, .pointer p37_0, .pointer p45_0, .int .i64 x14, .pointer (some ⟨w_6.heap.size, 0, none⟩), .slice A68 n68 c68, .slice A72_0 n72_0 c72_0] : List Value) ∧ M_4 x170 w_18) (
                        ([.slice Aa2 na2 ca2, .int .i64 i31, .int .i64 x34, .pointer p37_0, .pointer p45_0, .int .i64 x14, .pointer (some ⟨w_6.heap.size, 0, none⟩), .slice A68 n68 c68, .slice A72_0 n72_0 c72_0] : List Value) = ([.slice Aa2 na2 ca2, .int .i64 i31, .int .i64 x34, .pointer p37_0, .pointer p45_0, .int .i64 x14, .pointer (some ⟨w_6.heap.size, 0, none⟩), .slice A68 n68 c68, .slice A72_0 n72_0 c72_0] : List Value) ∧ M_4 x153 w_17)) ∧
                    ∀ d_5 : Env, ∀ (x21 : Int) (w_19 : World), M_4 x21 w_19 →
                    Calls Try.prog 54 #[.slice A68 n68 c68, .int .i64 x21] w_19 fun e_12 w_20 =>
                    ∃ (x173 : Int),
                    e_12 = .returned (.int .i64 x173) ∧
                    Calls Try.prog 41 #[.pointer p45_0, .int .i64 x21] w_20 fun e_13 w_21 =>
                    ∃ (x176 : Int),
                    e_13 = .returned (.int .i64 x176) ∧
                    ∃ M_6 : Bool → World → Prop,
                    (sel ((x173 : Int) == (0 : Int)) (
                        sel ((x176 : Int) != (151 : Int)) (
                          ([.slice Aa2 na2 ca2, .int .i64 i31, .int .i64 x34, .pointer p37_0, .pointer p45_0, .int .i64 x14, .pointer (some ⟨w_6.heap.size, 0, none⟩), .slice A68 n68 c68, .slice A72_0 n72_0 c72_0, .int .i64 (-4611686018427387904), .int .i64 x173, .int .i64 x21] : List Value) = ([.slice Aa2 na2 ca2, .int .i64 i31, .int .i64 x34, .pointer p37_0, .pointer p45_0, .int .i64 x14, .pointer (some ⟨w_6.heap.size, 0, none⟩), .slice A68 n68 c68, .slice A72_0 n72_0 c72_0, .int .i64 (-4611686018427387904), .int .i64 x173, .int .i64 x21] : List Value) ∧ M_6 true w_21) (
                          sel (decide ((0 : Int) < (x173 : Int))) (
                            ([.slice Aa2 na2 ca2, .int .i64 i31, .int .i64 x34, .pointer p37_0, .pointer p45_0, .int .i64 x14, .pointer (some ⟨w_6.heap.size, 0, none⟩), .slice A68 n68 c68, .slice A72_0 n72_0 c72_0, .int .i64 (-4611686018427387904), .int .i64 x173, .int .i64 x21] : List Value) = ([.slice Aa2 na2 ca2, .int .i64 i31, .int .i64 x34, .pointer p37_0, .pointer p45_0, .int .i64 x14, .pointer (some ⟨w_6.heap.size, 0, none⟩), .slice A68 n68 c68, .slice A72_0 n72_0 c72_0, .int .i64 (-4611686018427387904), .int .i64 x173, .int .i64 x21] : List Value) ∧ M_6 ((x176 : Int) != (0 : Int)) w_21) (
                            ([.slice Aa2 na2 ca2, .int .i64 i31, .int .i64 x34, .pointer p37_0, .pointer p45_0, .int .i64 x14, .pointer (some ⟨w_6.heap.size, 0, none⟩), .slice A68 n68 c68, .slice A72_0 n72_0 c72_0, .int .i64 (-4611686018427387904), .int .i64 x173, .int .i64 x21] : List Value) = ([.slice Aa2 na2 ca2, .int .i64 i31, .int .i64 x34, .pointer p37_0, .pointer p45_0, .int .i64 x14, .pointer (some ⟨w_6.heap.size, 0, none⟩), .slice A68 n68 c68, .slice A72_0 n72_0 c72_0, .int .i64 (-4611686018427387904), .int .i64 x173, .int .i64 x21] : List Value) ∧ M_6 false w_21))) (
                        sel (decide ((0 : Int) < (x173 : Int))) (
                          ([.slice Aa2 na2 ca2, .int .i64 i31, .int .i64 x34, .pointer p37_0, .pointer p45_0, .int .i64 x14, .pointer (some ⟨w_6.heap.size, 0, none⟩), .slice A68 n68 c68, .slice A72_0 n72_0 c72_0, .int .i64 (-4611686018427387904), .int .i64 x173, .int .i64 x21] : List Value) = ([.slice Aa2 na2 ca2, .int .i64 i31, .int .i64 x34, .pointer p37_0, .pointer p45_0, .int .i64 x14, .pointer (some ⟨w_6.heap.size, 0, none⟩), .slice A68 n68 c68, .slice A72_0 n72_0 c72_0, .int .i64 (-4611686018427387904), .int .i64 x173, .int .i64 x21] : List Value) ∧ M_6 ((x176 : Int) != (0 : Int)) w_21) (
                          ([.slice Aa2 na2 ca2, .int .i64 i31, .int .i64 x34, .pointer p37_0, .pointer p45_0, .int .i64 x14, .pointer (some ⟨w_6.heap.size, 0, none⟩), .slice A68 n68 c68, .slice A72_0 n72_0 c72_0, .int .i64 (-4611686018427387904), .int .i64 x173, .int .i64 x21] : List Value) = ([.slice Aa2 na2 ca2, .int .i64 i31, .int .i64 x34, .pointer p37_0, .pointer p45_0, .int .i64 x14, .pointer (some ⟨w_6.heap.size, 0, none⟩), .slice A68 n68 c68, .slice A72_0 n72_0 c72_0, .int .i64 (-4611686018427387904), .int .i64 x173, .int .i64 x21] : List Value) ∧ M_6 false w_21))) ∧
                    ∀ d_6 : Env, ∀ (b190 : Bool) (w_22 : World), M_6 b190 w_22 →
                    sel b190 (
                      R (.bool false) w_22) (
                      ([.slice Aa2 na2 ca2, .int .i64 i31, .int .i64 x34, .pointer p37_0, .pointer p45_0, .int .i64 x14, .pointer (some ⟨w_6.heap.size, 0, none⟩), .slice A68 n68 c68, .slice A72_0 n72_0 c72_0] : List Value) = ([.slice Aa2 na2 ca2, .int .i64 i31, .int .i64 x34, .pointer p37_0, .pointer p45_0, .int .i64 x14, .pointer (some ⟨w_6.heap.size, 0, none⟩), .slice A68 n68 c68, .slice A72_0 n72_0 c72_0] : List Value) ∧ M_1 (-4611686018427387904) x173 x21 w_22)) (
                    ([.slice Aa2 na2 ca2, .int .i64 i31, .int .i64 x34, .pointer p37_0, .pointer p45_0, .int .i64 x14, .pointer (some ⟨w_6.heap.size, 0, none⟩), .slice A68 n68 c68, .slice A72_0 n72_0 c72_0] : List Value) = ([.slice Aa2 na2 ca2, .int .i64 i31, .int .i64 x34, .pointer p37_0, .pointer p45_0, .int .i64 x14, .pointer (some ⟨w_6.heap.size, 0, none⟩), .slice A68 n68 c68, .slice A72_0 n72_0 c72_0] : List Value) ∧ M_1 0 0 0 w_16))) ∧
              ∀ d_7 : Env, ∀ (x19 : Int) (x20 : Int) (x21_1 : Int) (w_23 : World), M_1 x19 x20 x21_1 w_23 →
              Calls Try.prog 51 #[.pointer p37_0, .int .i64 0, .int .i64 i31] w_23 fun e_14 w_24 =>
              ∃ (A194_0 : Option Addr) (n194_0 c194_0 : Nat) (x194_1 : Int),
              e_14 = .returned (.tuple #[.slice A194_0 n194_0 c194_0, .int .i64 x194_1]) ∧
              Calls Try.prog 45 #[.pointer p45_0] w_24 fun e_15 w_25 =>
              ∃ (A198 : Option Addr) (n198 c198 : Nat),
              e_15 = .returned (.slice A198 n198 c198) ∧
              ∃ M_7 : Bool → World → Prop,
              (sel ((x194_1 : Int) == (0 : Int)) (
                  Calls Try.prog 55 #[.slice A72_0 n72_0 c72_0, .slice A194_0 n194_0 c194_0, .int .i64 x21_1, .int .i64 x20, .int .i64 x19] w_25 fun e_16 w_26 =>
                  ∃ (b207 : Bool),
                  e_16 = .returned (.bool b207) ∧
                  sel b207 (
                    Calls Try.prog 52 #[.slice A198 n198 c198, .int .i64 x34, .int .i64 i31] w_26 fun e_17 w_27 =>
                    ∃ (b213 : Bool),
                    e_17 = .returned (.bool b213) ∧
                    sel b213 (
                      Calls Try.prog 49 #[.pointer p45_0] w_27 fun e_18 w_28 =>
                      ∃ (x217 : Int),
                      e_18 = .returned (.int .i64 x217) ∧
                      Calls Try.prog 56 #[.slice A198 n198 c198] w_28 fun e_19 w_29 =>
                      ∃ (x219 : Int),
                      e_19 = .returned (.int .i64 x219) ∧
                      ([.slice Aa2 na2 ca2, .int .i64 i31, .int .i64 x34, .pointer p37_0, .pointer p45_0, .int .i64 x14, .pointer (some ⟨w_6.heap.size, 0, none⟩), .slice A68 n68 c68, .int .i64 x20, .int .i64 x21_1, .slice A198 n198 c198] : List Value) = ([.slice Aa2 na2 ca2, .int .i64 i31, .int .i64 x34, .pointer p37_0, .pointer p45_0, .int .i64 x14, .pointer (some ⟨w_6.heap.size, 0, none⟩), .slice A68 n68 c68, .int .i64 x20, .int .i64 x21_1, .slice A198 n198 c198] : List Value) ∧ M_7 ((x217 : Int) == (x219 : Int)) w_29) (
                      ([.slice Aa2 na2 ca2, .int .i64 i31, .int .i64 x34, .pointer p37_0, .pointer p45_0, .int .i64 x14, .pointer (some ⟨w_6.heap.size, 0, none⟩), .slice A68 n68 c68, .int .i64 x20, .int .i64 x21_1, .slice A198 n198 c198] : List Value) = ([.slice Aa2 na2 ca2, .int .i64 i31, .int .i64 x34, .pointer p37_0, .pointer p45_0, .int .i64 x14, .pointer (some ⟨w_6.heap.size, 0, none⟩), .slice A68 n68 c68, .int .i64 x20, .int .i64 x21_1, .slice A198 n198 c198] : List Value) ∧ M_7 false w_27)) (
                    ([.slice Aa2 na2 ca2, .int .i64 i31, .int .i64 x34, .pointer p37_0, .pointer p45_0, .int .i64 x14, .pointer (some ⟨w_6.heap.size, 0, none⟩), .slice A68 n68 c68, .int .i64 x20, .int .i64 x21_1, .slice A198 n198 c198] : List Value) = ([.slice Aa2 na2 ca2, .int .i64 i31, .int .i64 x34, .pointer p37_0, .pointer p45_0, .int .i64 x14, .pointer (some ⟨w_6.heap.size, 0, none⟩), .slice A68 n68 c68, .int .i64 x20, .int .i64 x21_1, .slice A198 n198 c198] : List Value) ∧ M_7 false w_26)) (
                  ([.slice Aa2 na2 ca2, .int .i64 i31, .int .i64 x34, .pointer p37_0, .pointer p45_0, .int .i64 x14, .pointer (some ⟨w_6.heap.size, 0, none⟩), .slice A68 n68 c68, .int .i64 x20, .int .i64 x21_1, .slice A198 n198 c198] : List Value) = ([.slice Aa2 na2 ca2, .int .i64 i31, .int .i64 x34, .pointer p37_0, .pointer p45_0, .int .i64 x14, .pointer (some ⟨w_6.heap.size, 0, none⟩), .slice A68 n68 c68, .int .i64 x20, .int .i64 x21_1, .slice A198 n198 c198] : List Value) ∧ M_7 false w_25)) ∧
              ∀ d_8 : Env, ∀ (b7_1 : Bool) (w_30 : World), M_7 b7_1 w_30 →
              ∃ M_8 : Bool → World → Prop,
              (sel (decide ((0 : Int) < (x20 : Int))) (
                  ∃ (x226 : Int),
                  w_30.cell? ⟨w_6.heap.size, 0, none⟩ = some (.int .i64 x226) ∧
                  ([.slice Aa2 na2 ca2, .bool b7_1, .int .i64 i31, .int .i64 x34, .pointer p37_0, .pointer p45_0, .int .i64 x14, .slice A68 n68 c68, .int .i64 x20, .int .i64 x21_1, .slice A198 n198 c198] : List Value) = ([.slice Aa2 na2 ca2, .bool b7_1, .int .i64 i31, .int .i64 x34, .pointer p37_0, .pointer p45_0, .int .i64 x14, .slice A68 n68 c68, .int .i64 x20, .int .i64 x21_1, .slice A198 n198 c198] : List Value) ∧ M_8 ((x226 : Int) == (1 : Int)) w_30) (
                  ([.slice Aa2 na2 ca2, .bool b7_1, .int .i64 i31, .int .i64 x34, .pointer p37_0, .pointer p45_0, .int .i64 x14, .slice A68 n68 c68, .int .i64 x20, .int .i64 x21_1, .slice A198 n198 c198] : List Value) = ([.slice Aa2 na2 ca2, .bool b7_1, .int .i64 i31, .int .i64 x34, .pointer p37_0, .pointer p45_0, .int .i64 x14, .slice A68 n68 c68, .int .i64 x20, .int .i64 x21_1, .slice A198 n198 c198] : List Value) ∧ M_8 false w_30)) ∧
              ∀ d_9 : Env, ∀ (b228 : Bool) (w_31 : World), M_8 b228 w_31 →
              sel b228 (
                sel b7_1 (
                  Calls Try.prog 54 #[.slice A198 n198 c198, .int .i64 x21_1] w_31 fun e_20 w_32 =>
                  ∃ (x233 : Int),
                  e_20 = .returned (.int .i64 x233) ∧
                  sel ((x233 : Int) == (x20 : Int)) (
                    Calls Try.prog 56 #[.slice A198 n198 c198] w_32 fun e_21 w_33 =>
                    ∃ (x239 : Int),
                    e_21 = .returned (.int .i64 x239) ∧
                    Calls Try.prog 56 #[.slice A68 n68 c68] w_33 fun e_22 w_34 =>
                    ∃ (x241 : Int),
                    e_22 = .returned (.int .i64 x241) ∧
                    let i242 : Int := IntKind.i64.wrap (x241 + 1);
                    let i62 : Int := IntKind.i64.wrap (x14 + 1);
                    ([.slice Aa2 na2 ca2, .int .i64 i31, .int .i64 x34, .pointer p37_0, .pointer p45_0] : List Value) = ([.slice Aa2 na2 ca2, .int .i64 i31, .int .i64 x34, .pointer p37_0, .pointer p45_0] : List Value) ∧ ∃ m, m < r ∧ I ((x239 : Int) == (i242 : Int)) i62 w_34 m) (
                    let i62_1 : Int := IntKind.i64.wrap (x14 + 1);
                    ([.slice Aa2 na2 ca2, .int .i64 i31, .int .i64 x34, .pointer p37_0, .pointer p45_0] : List Value) = ([.slice Aa2 na2 ca2, .int .i64 i31, .int .i64 x34, .pointer p37_0, .pointer p45_0] : List Value) ∧ ∃ m, m < r ∧ I false i62_1 w_32 m)) (
                  let i62_2 : Int := IntKind.i64.wrap (x14 + 1);
                  ([.slice Aa2 na2 ca2, .int .i64 i31, .int .i64 x34, .pointer p37_0, .pointer p45_0] : List Value) = ([.slice Aa2 na2 ca2, .int .i64 i31, .int .i64 x34, .pointer p37_0, .pointer p45_0] : List Value) ∧ ∃ m, m < r ∧ I false i62_2 w_31 m)) (
                sel (decide ((0 : Int) < (x20 : Int))) (
                  sel b7_1 (
                    Calls Try.prog 54 #[.slice A198 n198 c198, .int .i64 x21_1] w_31 fun e_23 w_35 =>
                    ∃ (x251 : Int),
                    e_23 = .returned (.int .i64 x251) ∧
                    sel ((x251 : Int) == (0 : Int)) (
                      Calls Try.prog 56 #[.slice A198 n198 c198] w_35 fun e_24 w_36 =>
                      ∃ (x256 : Int),
                      e_24 = .returned (.int .i64 x256) ∧
                      Calls Try.prog 56 #[.slice A68 n68 c68] w_36 fun e_25 w_37 =>
                      ∃ (x258 : Int),
                      e_25 = .returned (.int .i64 x258) ∧
                      let i259 : Int := IntKind.i64.wrap (x258 - 1);
                      let i62_3 : Int := IntKind.i64.wrap (x14 + 1);
                      ([.slice Aa2 na2 ca2, .int .i64 i31, .int .i64 x34, .pointer p37_0, .pointer p45_0] : List Value) = ([.slice Aa2 na2 ca2, .int .i64 i31, .int .i64 x34, .pointer p37_0, .pointer p45_0] : List Value) ∧ ∃ m, m < r ∧ I ((x256 : Int) == (i259 : Int)) i62_3 w_37 m) (
                      let i62_4 : Int := IntKind.i64.wrap (x14 + 1);
                      ([.slice Aa2 na2 ca2, .int .i64 i31, .int .i64 x34, .pointer p37_0, .pointer p45_0] : List Value) = ([.slice Aa2 na2 ca2, .int .i64 i31, .int .i64 x34, .pointer p37_0, .pointer p45_0] : List Value) ∧ ∃ m, m < r ∧ I false i62_4 w_35 m)) (
                    let i62_5 : Int := IntKind.i64.wrap (x14 + 1);
                    ([.slice Aa2 na2 ca2, .int .i64 i31, .int .i64 x34, .pointer p37_0, .pointer p45_0] : List Value) = ([.slice Aa2 na2 ca2, .int .i64 i31, .int .i64 x34, .pointer p37_0, .pointer p45_0] : List Value) ∧ ∃ m, m < r ∧ I false i62_5 w_31 m)) (
                  let i62_6 : Int := IntKind.i64.wrap (x14 + 1);
                  ([.slice Aa2 na2 ca2, .int .i64 i31, .int .i64 x34, .pointer p37_0, .pointer p45_0] : List Value) = ([.slice Aa2 na2 ca2, .int .i64 i31, .int .i64 x34, .pointer p37_0, .pointer p45_0] : List Value) ∧ ∃ m, m < r ∧ I b7_1 i62_6 w_31 m)))) (
            R (.bool b7) w_6)) (
          R (.bool b7) w_6))))
theorem f8.eq (xa0 : Int) (xa1 : Int) (Aa2 : Option Addr) (na2 ca2 : Nat) (w : World) (R : Value → World → Prop) : f8.VC xa0 xa1 Aa2 na2 ca2 w R = funV Try.prog Try.f8 f8.AL f8.AC #[.int .i64 xa0, .int .i64 xa1, .slice Aa2 na2 ca2] w R := by kernel_rfl
theorem f8.calls {xa0 : Int} {xa1 : Int} {Aa2 : Option Addr} {na2 ca2 : Nat} {w : World} {R : Value → World → Prop} (h : f8.VC xa0 xa1 Aa2 na2 ca2 w R) : Calls Try.prog 8 #[.int .i64 xa0, .int .i64 xa1, .slice Aa2 na2 ca2] w fun e w' => ∃ v, e = .returned v ∧ R v w' :=
  funV_sound (fn := Try.f8) (AL := f8.AL) (AC := f8.AC) V9c.mixed (by kernel_rfl) (by rw [← f8.eq xa0 xa1 Aa2 na2 ca2]; exact h)

end Go.Proofs.Ytebahglmdifmpaa
