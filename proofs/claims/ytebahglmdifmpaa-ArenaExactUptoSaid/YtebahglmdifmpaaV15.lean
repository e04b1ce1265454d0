/- The plain statements of some functions, printed by vcgen.py. -/
import Derived.Test.YtebahglmdifmpaaVcC
import Derived.Test.YtebahglmdifmpaaProg
import Derived.KernelRfl
set_option maxRecDepth 100000
set_option linter.unusedVariables false
namespace Go.Proofs.Ytebahglmdifmpaa
open Go Go.Proofs.Ytebahglmdifmpaa.Vc
theorem V15.mixed : Try.prog.follows .mixedOrders = true := by kernel_rfl
/-- gatehouse/gatehouselaw15.ArenaExact -/
def f10.AL : Nat → Option Ann := fun r => match r with | 7 => some ⟨[(8, .slice), (9, .int .i64)], [0, 1, 5]⟩ | 20 => some ⟨[(5, .bool), (17, .int .i64)], [1, 8]⟩ | 24 => some ⟨[(5, .bool), (18, .int .i64)], [8]⟩ | _ => none
def f10.AC : Nat → Option Ann := fun r => match r with | 16 => some ⟨[(82, .bool)], [0, 1, 5, 8, 9, 11, 13, 15]⟩ | 17 => some ⟨[], [0, 1, 5, 8, 9, 11, 13, 15]⟩ | 21 => some ⟨[(5, .bool)], [1, 8, 17]⟩ | 23 => some ⟨[(5, .bool)], [8]⟩ | _ => none
def f10.VC (Aa0 : Option Addr) (na0 ca0 : Nat) (Aa1 : Option Addr) (na1 ca1 : Nat) (w : World) (R : Value → World → Prop) : Prop :=
  Calls Try.prog 11 #[] w fun e_1 w_1 =>
  ∃ (b22 : Bool),
  e_1 = .returned (.bool b22) ∧
  Calls Try.prog 38 #[.pointer none, .int .i64 0] w_1 fun e_2 w_2 =>
  ∃ (p24_0 : Option Addr) (x24_1 : Int),
  e_2 = .returned (.tuple #[.pointer p24_0, .int .i64 x24_1]) ∧
  sel (!(Option.isNone p24_0)) (
    R (.bool false) w_2) (
    sel ((x24_1 : Int) != (2 : Int)) (
      R (.bool false) w_2) (
      ∃ I : Option Addr → Nat → Nat → Int → World → Nat → Prop,
      (∃ n, I none 0 0 0 w_2 n) ∧
      ∀ d : Env, ∀ (A8 : Option Addr) (n8 c8 : Nat) (x9 : Int) (w_3 : World) (r : Nat), I A8 n8 c8 x9 w_3 r →
      sel (decide ((x9 : Int) < ((na0 : Int) : Int))) (
        (0 : Int) ≤ x9 ∧ x9 < (na0 : Int) ∧
        needPtr Aa0 fun b41 o41 =>
        ∃ (x43 : Int),
        w_3.cell? ⟨b41, o41 + x9.toNat * 2, none⟩ = some (.int .i64 x43) ∧
        Calls Try.prog 19 #[.int .i64 x43, .int .i64 200] w_3 fun e_3 w_4 =>
        ∃ (x44 : Int),
        e_3 = .returned (.int .i64 x44) ∧
        let i45 : Int := IntKind.i64.wrap (1 + x44);
        Calls Try.prog 37 #[.int .i64 i45] w_4 fun e_4 w_5 =>
        ∃ (p48_0 : Option Addr) (x48_1 : Int),
        e_4 = .returned (.tuple #[.pointer p48_0, .int .i64 x48_1]) ∧
        sel (Option.isNone p48_0) (
          R (.bool false) w_5) (
          (0 : Int) ≤ x9 ∧ x9 < (na0 : Int) ∧
          needPtr Aa0 fun b57 o57 =>
          ∃ (x59 : Int),
          w_5.cell? ⟨b57, o57 + x9.toNat * 2 + 1, none⟩ = some (.int .i64 x59) ∧
          Calls Try.prog 38 #[.pointer p48_0, .int .i64 x59] w_5 fun e_5 w_6 =>
          ∃ (p60_0 : Option Addr) (x60_1 : Int),
          e_5 = .returned (.tuple #[.pointer p60_0, .int .i64 x60_1]) ∧
          (0 : Int) ≤ x9 ∧ x9 < (na0 : Int) ∧
          needPtr Aa0 fun b67 o67 =>
          ∃ (x69 : Int),
          w_6.cell? ⟨b67, o67 + x9.toNat * 2 + 1, none⟩ = some (.int .i64 x69) ∧
          Calls Try.prog 39 #[.int .i64 i45, .int .i64 x69] w_6 fun e_6 w_7 =>
          ∃ (p70_0 : Option Addr) (x70_1 : Int),
          e_6 = .returned (.tuple #[.pointer p70_0, .int .i64 x70_1]) ∧
          ∃ M : World → Prop,
          (∃ M_1 : Bool → World → Prop,
            (sel ((x60_1 : Int) != (x70_1 : Int)) (
                ([.slice Aa0 na0 ca0, .slice Aa1 na1 ca1, .bool b22, .slice A8 n8 c8, .int .i64 x9, .pointer p48_0, .pointer p60_0, .pointer p70_0] : List Value) = ([.slice Aa0 na0 ca0, .slice Aa1 na1 ca1, .bool b22, .slice A8 n8 c8, .int .i64 x9, .pointer p48_0, .pointer p60_0, .pointer p70_0] : List Value) ∧ M_1 true w_7) (
                ([.slice Aa0 na0 ca0, .slice Aa1 na1 ca1, .bool b22, .slice A8 n8 c8, .int .i64 x9, .pointer p48_0, .pointer p60_0, .pointer p70_0] : List Value) = ([.slice Aa0 na0 ca0, .slice Aa1 na1 ca1, .bool b22, .slice A8 n8 c8, .int .i64 x9, .pointer p48_0, .pointer p60_0, .pointer p70_0] : List Value) ∧ M_1 (!((Option.isNone p60_0) == (Option.isNone p70_0))) w_7)) ∧
            ∀ d_1 : Env, ∀ (b82 : Bool) (w_8 : World), M_1 b82 w_8 →
            sel b82 (
              R (.bool false) w_8) (
              ([.slice Aa0 na0 ca0, .slice Aa1 na1 ca1, .bool b22, .slice A8 n8 c8, .int .i64 x9, .pointer p48_0, .pointer p60_0, .pointer p70_0] : List Value) = ([.slice Aa0 na0 ca0, .slice Aa1 na1 ca1, .bool b22, .slice A8 n8 c8, .int .i64 x9, .pointer p48_0, .pointer p60_0, .pointer p70_0] : List Value) ∧ M w_8)) ∧
          ∀ d_2 : Env, ∀  (w_9 : World), M w_9 →
          sel (!(Option.isNone p70_0)) (
            let w_10 : World := World.alloc w_9 (.cells #[.pointer p48_0, .pointer p60_0, .pointer p70_0, .int .i64 0] 107);
            let w_11 : World := World.alloc w_10 (.cells #[.pointer (some ⟨w_9.heap.size, 0, none⟩)] 105);
            ∃ (A92 : Option Addr) (n92 c92 : Nat),
            ∃ w_12 : World, (Builtin.append_ #[102, 102] 102 #[.slice A8 n8 c8, .slice (some ⟨w_10.heap.size, 0, none⟩) 1 1]).run Try.prog w_11 = .ok (.slice A92 n92 c92) w_12 ∧
            let i38 : Int := IntKind.i64.wrap (x9 + 1);
            ([.slice Aa0 na0 ca0, .slice Aa1 na1 ca1, .bool b22] : List Value) = ([.slice Aa0 na0 ca0, .slice Aa1 na1 ca1, .bool b22] : List Value) ∧ ∃ m, m < r ∧ I A92 n92 c92 i38 w_12 m) (
            let i38_1 : Int := IntKind.i64.wrap (x9 + 1);
            ([.slice Aa0 na0 ca0, .slice Aa1 na1 ca1, .bool b22] : List Value) = ([.slice Aa0 na0 ca0, .slice Aa1 na1 ca1, .bool b22] : List Value) ∧ ∃ m, m < r ∧ I A8 n8 c8 i38_1 w_9 m))) (
        ∃ M_2 : Bool → World → Prop,
        (∃ I_1 : Bool → Int → World → Nat → Prop,
          (∃ n, I_1 b22 0 w_3 n) ∧
          ∀ d_3 : Env, ∀ (b5 : Bool) (x17 : Int) (w_13 : World) (r_1 : Nat), I_1 b5 x17 w_13 r_1 →
          sel (decide ((x17 : Int) < ((na1 : Int) : Int))) (
            sel (decide ((0 : Int) < ((n8 : Int) : Int))) (
              sel b5 (
                ∃ M_3 : Bool → World → Prop,
                ((0 : Int) ≤ x17 ∧ x17 < (na1 : Int) ∧
                  needPtr Aa1 fun b110 o110 =>
                  (0 : Int) ≤ x17 ∧ x17 < (na1 : Int) ∧
                  needPtr Aa1 fun b120 o120 =>
                  ∃ (x112 : Int),
                  w_13.cell? ⟨b110, o110 + x17.toNat * 4 + 1, none⟩ = some (.int .i64 x112) ∧
                  (Calls Try.prog 19 #[.int .i64 x112, .int .i64 (n8 : Int)] w_13.drew fun e_7 w_14 =>
                    ∃ (x115 : Int),
                    e_7 = .returned (.int .i64 x115) ∧
                    (0 : Int) ≤ x115 ∧ x115 < (n8 : Int) ∧
                    needPtr A8 fun b116 o116 =>
                    ∃ (p117 : Option Addr),
                    w_14.cell? ⟨b116, o116 + x115.toNat * 1, none⟩ = some (.pointer p117) ∧
                    ∃ (x121_0 : Int),
                    w_14.cell? ⟨b120, o120 + x17.toNat * 4, none⟩ = some (.int .i64 x121_0) ∧
                    ∃ (x121_1 : Int),
                    w_14.cell? ⟨b120, o120 + x17.toNat * 4 + 1, none⟩ = some (.int .i64 x121_1) ∧
                    ∃ (x121_2 : Int),
                    w_14.cell? ⟨b120, o120 + x17.toNat * 4 + 1 + 1, none⟩ = some (.int .i64 x121_2) ∧
                    ∃ (x121_3 : Int),
                    w_14.cell? ⟨b120, o120 + x17.toNat * 4 + 1 + 1 + 1, none⟩ = some (.int .i64 x121_3) ∧
                    Calls Try.prog 57 #[.pointer p117, .agg #[.int .i64 x121_0, .int .i64 x121_1, .int .i64 x121_2, .int .i64 x121_3]] w_14 fun e_8 w_15 =>
                    ∃ (b122 : Bool),
                    e_8 = .returned (.bool b122) ∧
                    ([.slice Aa1 na1 ca1, .slice A8 n8 c8, .int .i64 x17] : List Value) = ([.slice Aa1 na1 ca1, .slice A8 n8 c8, .int .i64 x17] : List Value) ∧ M_3 b122 w_15) ∧
                  (∃ (x121_0_1 : Int),
                    w_13.cell? ⟨b120, o120 + x17.toNat * 4, none⟩ = some (.int .i64 x121_0_1) ∧
                    ∃ (x121_1_1 : Int),
                    w_13.cell? ⟨b120, o120 + x17.toNat * 4 + 1, none⟩ = some (.int .i64 x121_1_1) ∧
                    ∃ (x121_2_1 : Int),
                    w_13.cell? ⟨b120, o120 + x17.toNat * 4 + 1 + 1, none⟩ = some (.int .i64 x121_2_1) ∧
                    ∃ (x121_3_1 : Int),
                    w_13.cell? ⟨b120, o120 + x17.toNat * 4 + 1 + 1 + 1, none⟩ = some (.int .i64 x121_3_1) ∧
                    Calls Try.prog 19 #[.int .i64 x112, .int .i64 (n8 : Int)] w_13.drew fun e_9 w_16 =>
                    ∃ (x115_1 : Int),
                    e_9 = .returned (.int .i64 x115_1) ∧
                    (0 : Int) ≤ x115_1 ∧ x115_1 < (n8 : Int) ∧
                    needPtr A8 fun b116_1 o116_1 =>
                    ∃ (p117_1 : Option Addr),
                    w_16.cell? ⟨b116_1, o116_1 + x115_1.toNat * 1, none⟩ = some (.pointer p117_1) ∧
                    Calls Try.prog 57 #[.pointer p117_1, .agg #[.int .i64 x121_0_1, .int .i64 x121_1_1, .int .i64 x121_2_1, .int .i64 x121_3_1]] w_16 fun e_10 w_17 =>
                    ∃ (b122_1 : Bool),
                    e_10 = .returned (.bool b122_1) ∧
                    ([.slice Aa1 na1 ca1, .slice A8 n8 c8, .int .i64 x17] : List Value) = ([.slice Aa1 na1 ca1, .slice A8 n8 c8, .int .i64 x17] : List Value) ∧ M_3 b122_1 w_17) ∧ True) ∧
                ∀ d_4 : Env, ∀ (b5_1 : Bool) (w_18 : World), M_3 b5_1 w_18 →
                let i106 : Int := IntKind.i64.wrap (x17 + 1);
                ([.slice Aa1 na1 ca1, .slice A8 n8 c8] : List Value) = ([.slice Aa1 na1 ca1, .slice A8 n8 c8] : List Value) ∧ ∃ m, m < r_1 ∧ I_1 b5_1 i106 w_18 m) (
                ([.slice A8 n8 c8] : List Value) = ([.slice A8 n8 c8] : List Value) ∧ M_2 b5 w_13)) (
              ([.slice A8 n8 c8] : List Value) = ([.slice A8 n8 c8] : List Value) ∧ M_2 b5 w_13)) (
            ([.slice A8 n8 c8] : List Value) = ([.slice A8 n8 c8] : List Value) ∧ M_2 b5 w_13)) ∧
        ∀ d_5 : Env, ∀ (b5_2 : Bool) (w_19 : World), M_2 b5_2 w_19 →
        ∃ I_2 : Bool → Int → World → Nat → Prop,
        (∃ n, I_2 b5_2 0 w_19 n) ∧
        ∀ d_6 : Env, ∀ (b5_3 : Bool) (x18 : Int) (w_20 : World) (r_2 : Nat), I_2 b5_3 x18 w_20 r_2 →
        sel (decide ((x18 : Int) < ((n8 : Int) : Int))) (
          sel b5_3 (
            (0 : Int) ≤ x18 ∧ x18 < (n8 : Int) ∧
            needPtr A8 fun b134 o134 =>
            ∃ (p135 : Option Addr),
            w_20.cell? ⟨b134, o134 + x18.toNat * 1, none⟩ = some (.pointer p135) ∧
            needPtr p135 fun b138 o138 =>
            needPtr p135 fun b142 o142 =>
            ∃ (p140 : Option Addr),
            w_20.cell? ⟨b138, o138, none⟩ = some (.pointer p140) ∧
            ∃ (p144 : Option Addr),
            w_20.cell? ⟨b142, o142 + 2, none⟩ = some (.pointer p144) ∧
            needPtr p144 fun b145 o145 =>
            ∃ (A147 : Option Addr) (n147 c147 : Nat),
            w_20.cell? ⟨b145, o145 + 1, none⟩ = some (.slice A147 n147 c147) ∧
            Calls Try.prog 51 #[.pointer p140, .int .i64 0, .int .i64 (n147 : Int)] w_20.drew fun e_11 w_21 =>
            ∃ (A149_0 : Option Addr) (n149_0 c149_0 : Nat) (x149_1 : Int),
            e_11 = .returned (.tuple #[.slice A149_0 n149_0 c149_0, .int .i64 x149_1]) ∧
            sel ((x149_1 : Int) == (0 : Int)) (
              needPtr p135 fun b157 o157 =>
              ∃ (p159 : Option Addr),
              w_21.cell? ⟨b157, o157 + 2, none⟩ = some (.pointer p159) ∧
              needPtr p159 fun b160 o160 =>
              ∃ (A162 : Option Addr) (n162 c162 : Nat),
              w_21.cell? ⟨b160, o160 + 1, none⟩ = some (.slice A162 n162 c162) ∧
              Calls Try.prog 58 #[.slice A149_0 n149_0 c149_0, .slice A162 n162 c162] w_21.drew fun e_12 w_22 =>
              ∃ (b163 : Bool),
              e_12 = .returned (.bool b163) ∧
              sel b163 (
                needPtr p135 fun b167 o167 =>
                needPtr p135 fun b172 o172 =>
                ∃ (p169 : Option Addr),
                w_22.cell? ⟨b167, o167 + 1, none⟩ = some (.pointer p169) ∧
                (Calls Try.prog 45 #[.pointer p169] w_22 fun e_13 w_23 =>
                  ∃ (A170 : Option Addr) (n170 c170 : Nat),
                  e_13 = .returned (.slice A170 n170 c170) ∧
                  ∃ (p174 : Option Addr),
                  w_23.cell? ⟨b172, o172 + 2, none⟩ = some (.pointer p174) ∧
                  Calls Try.prog 47 #[.pointer p174] w_23 fun e_14 w_24 =>
                  ∃ (A175 : Option Addr) (n175 c175 : Nat),
                  e_14 = .returned (.slice A175 n175 c175) ∧
                  Calls Try.prog 46 #[.slice A170 n170 c170, .slice A175 n175 c175] w_24 fun e_15 w_25 =>
                  ∃ (b176 : Bool),
                  e_15 = .returned (.bool b176) ∧
                  sel b176 (
                    needPtr p135 fun b180 o180 =>
                    needPtr p135 fun b185 o185 =>
                    ∃ (p182 : Option Addr),
                    w_25.cell? ⟨b180, o180 + 1, none⟩ = some (.pointer p182) ∧
                    (Calls Try.prog 49 #[.pointer p182] w_25 fun e_16 w_26 =>
                      ∃ (x183 : Int),
                      e_16 = .returned (.int .i64 x183) ∧
                      ∃ (p187 : Option Addr),
                      w_26.cell? ⟨b185, o185 + 2, none⟩ = some (.pointer p187) ∧
                      Calls Try.prog 50 #[.pointer p187] w_26 fun e_17 w_27 =>
                      ∃ (x188 : Int),
                      e_17 = .returned (.int .i64 x188) ∧
                      sel ((x183 : Int) == (x188 : Int)) (
                        needPtr p135 fun b193 o193 =>
                        needPtr p135 fun b199 o199 =>
                        ∃ (p195 : Option Addr),
                        w_27.cell? ⟨b193, o193, none⟩ = some (.pointer p195) ∧
                        (Calls Try.prog 59 #[.pointer p195] w_27 fun e_18 w_28 =>
                          ∃ (A196 : Option Addr) (n196 c196 : Nat),
                          e_18 = .returned (.slice A196 n196 c196) ∧
                          ∃ (x201 : Int),
                          w_28.cell? ⟨b199, o199 + 3, none⟩ = some (.int .i64 x201) ∧
                          sel (((n196 : Int) : Int) == (x201 : Int)) (
                            needPtr p135 fun b206 o206 =>
                            ∃ (p208 : Option Addr),
                            w_28.cell? ⟨b206, o206, none⟩ = some (.pointer p208) ∧
                            Calls Try.prog 60 #[.pointer p208] w_28 fun e_19 w_29 =>
                            ∃ (x209 : Int),
                            e_19 = .returned (.int .i64 x209) ∧
                            let i131 : Int := IntKind.i64.wrap (x18 + 1);
                            ([.slice A8 n8 c8] : List Value) = ([.slice A8 n8 c8] : List Value) ∧ ∃ m, m < r_2 ∧ I_2 ((x209 : Int) == (0 : Int)) i131 w_29 m) (
                            let i131_1 : Int := IntKind.i64.wrap (x18 + 1);
                            ([.slice A8 n8 c8] : List Value) = ([.slice A8 n8 c8] : List Value) ∧ ∃ m, m < r_2 ∧ I_2 false i131_1 w_28 m)) ∧
                        (∃ (x201_1 : Int),
                          w_27.cell? ⟨b199, o199 + 3, none⟩ = some (.int .i64 x201_1) ∧
                          Calls Try.prog 59 #[.pointer p195] w_27 fun e_20 w_30 =>
                          ∃ (A196_1 : Option Addr) (n196_1 c196_1 : Nat),
                          e_20 = .returned (.slice A196_1 n196_1 c196_1) ∧
                          sel (((n196_1 : Int) : Int) == (x201_1 : Int)) (
                            needPtr p135 fun b206_1 o206_1 =>
                            ∃ (p208_1 : Option Addr),
                            w_30.cell? ⟨b206_1, o206_1, none⟩ = some (.pointer p208_1) ∧
                            Calls Try.prog 60 #[.pointer p208_1] w_30 fun e_21 w_31 =>
                            ∃ (x209_1 : Int),
                            e_21 = .returned (.int .i64 x209_1) ∧
                            let i131_2 : Int := IntKind.i64.wrap (x18 + 1);
                            ([.slice A8 n8 c8] : List Value) = ([.slice A8 n8 c8] : List Value) ∧ ∃ m, m < r_2 ∧ I_2 ((x209_1 : Int) == (0 : Int)) i131_2 w_31 m) (
                            let i131_3 : Int := IntKind.i64.wrap (x18 + 1);
                            ([.slice A8 n8 c8] : List Value) = ([.slice A8 n8 c8] : List Value) ∧ ∃ m, m < r_2 ∧ I_2 false i131_3 w_30 m)) ∧ True) (
                        let i131_4 : Int := IntKind.i64.wrap (x18 + 1);
                        ([.slice A8 n8 c8] : List Value) = ([.slice A8 n8 c8] : List Value) ∧ ∃ m, m < r_2 ∧ I_2 false i131_4 w_27 m)) ∧
                    (∃ (p187_1 : Option Addr),
                      w_25.cell? ⟨b185, o185 + 2, none⟩ = some (.pointer p187_1) ∧
                      Calls Try.prog 49 #[.pointer p182] w_25 fun e_22 w_32 =>
                      ∃ (x183_1 : Int),
                      e_22 = .returned (.int .i64 x183_1) ∧
                      Calls Try.prog 50 #[.pointer p187_1] w_32 fun e_23 w_33 =>
                      ∃ (x188_1 : Int),
                      e_23 = .returned (.int .i64 x188_1) ∧
                      sel ((x183_1 : Int) == (x188_1 : Int)) (
                        needPtr p135 fun b193_1 o193_1 =>
                        needPtr p135 fun b199_1 o199_1 =>
                        ∃ (p195_1 : Option Addr),
                        w_33.cell? ⟨b193_1, o193_1, none⟩ = some (.pointer p195_1) ∧
                        (Calls Try.prog 59 #[.pointer p195_1] w_33 fun e_24 w_34 =>
                          ∃ (A196_2 : Option Addr) (n196_2 c196_2 : Nat),
                          e_24 = .returned (.slice A196_2 n196_2 c196_2) ∧
                          ∃ (x201_2 : Int),
                          w_34.cell? ⟨b199_1, o199_1 + 3, none⟩ = some (.int .i64 x201_2) ∧
                          sel (((n196_2 : Int) : Int) == (x201_2 : Int)) (
                            needPtr p135 fun b206_2 o206_2 =>
                            ∃ (p208_2 : Option Addr),
                            w_34.cell? ⟨b206_2, o206_2, none⟩ = some (.pointer p208_2) ∧
                            Calls Try.prog 60 #[.pointer p208_2] w_34 fun e_25 w_35 =>
                            ∃ (x209_2 : Int),
                            e_25 = .returned (.int .i64 x209_2) ∧
                            let i131_5 : Int := IntKind.i64.wrap (x18 + 1);
                            ([.slice A8 n8 c8] : List Value) = ([.slice A8 n8 c8] : List Value) ∧ ∃ m, m < r_2 ∧ I_2 ((x209_2 : Int) == (0 : Int)) i131_5 w_35 m) (
                            let i131_6 : Int := IntKind.i64.wrap (x18 + 1);
                            ([.slice A8 n8 c8] : List Value) = ([.slice A8 n8 c8] : List Value) ∧ ∃ m, m < r_2 ∧ I_2 false i131_6 w_34 m)) ∧
                        (∃ (x201_3 : Int),
                          w_33.cell? ⟨b199_1, o199_1 + 3, none⟩ = some (.int .i64 x201_3) ∧
                          Calls Try.prog 59 #[.pointer p195_1] w_33 fun e_26 w_36 =>
                          ∃ (A196_3 : Option Addr) (n196_3 c196_3 : Nat),
                          e_26 = .returned (.slice A196_3 n196_3 c196_3) ∧
                          sel (((n196_3 : Int) : Int) == (x201_3 : Int)) (
                            needPtr p135 fun b206_3 o206_3 =>
                            ∃ (p208_3 : Option Addr),
                            w_36.cell? ⟨b206_3, o206_3, none⟩ = some (.pointer p208_3) ∧
                            Calls Try.prog 60 #[.pointer p208_3] w_36 fun e_27 w_37 =>
                            ∃ (x209_3 : Int),
                            e_27 = .returned (.int .i64 x209_3) ∧
                            let i131_7 : Int := IntKind.i64.wrap (x18 + 1);
                            ([.slice A8 n8 c8] : List Value) = ([.slice A8 n8 c8] : List Value) ∧ ∃ m, m < r_2 ∧ I_2 ((x209_3 : Int) == (0 : Int)) i131_7 w_37 m) (
                            let i131_8 : Int := IntKind.i64.wrap (x18 + 1);
                            ([.slice A8 n8 c8] : List Value) = ([.slice A8 n8 c8] : List Value) ∧ ∃ m, m < r_2 ∧ I_2 false i131_8 w_36 m)) ∧ True) (
                        let i131_9 : Int := IntKind.i64.wrap (x18 + 1);
                        ([.slice A8 n8 c8] : List Value) = ([.slice A8 n8 c8] : List Value) ∧ ∃ m, m < r_2 ∧ I_2 false i131_9 w_33 m)) ∧ True) (
                    let i131_10 : Int := IntKind.i64.wrap (x18 + 1);
                    ([.slice A8 n8 c8] : List Value) = ([.slice A8 n8 c8] : List Value) ∧ ∃ m, m < r_2 ∧ I_2 false i131_10 w_25 m)) ∧
                (∃ (p174_1 : Option Addr),
                  w_22.cell? ⟨b172, o172 + 2, none⟩ = some (.pointer p174_1) ∧
                  Calls Try.prog 45 #[.pointer p169] w_22 fun e_28 w_38 =>
                  ∃ (A170_1 : Option Addr) (n170_1 c170_1 : Nat),
                  e_28 = .returned (.slice A170_1 n170_1 c170_1) ∧
                  Calls Try.prog 47 #[.pointer p174_1] w_38 fun e_29 w_39 =>
                  ∃ (A175_1 : Option Addr) (n175_1 c175_1 : Nat),
                  e_29 = .returned (.slice A175_1 n175_1 c175_1) ∧
                  Calls Try.prog 46 #[.slice A170_1 n170_1 c170_1, .slice A175_1 n175_1 c175_1] w_39 fun e_30 w_40 =>
                  ∃ (b176_1 : Bool),
                  e_30 = .returned (.bool b176_1) ∧
                  sel b176_1 (
                    needPtr p135 fun b180_1 o180_1 =>
                    needPtr p135 fun b185_1 o185_1 =>
                    ∃ (p182_1 : Option Addr),
                    w_40.cell? ⟨b180_1, o180_1 + 1, none⟩ = some (.pointer p182_1) ∧
                    (Calls Try.prog 49 #[.pointer p182_1] w_40 fun e_31 w_41 =>
                      ∃ (x183_2 : Int),
                      e_31 = .returned (.int .i64 x183_2) ∧
                      ∃ (p187_2 : Option Addr),
                      w_41.cell? ⟨b185_1, o185_1 + 2, none⟩ = some (.pointer p187_2) ∧
                      Calls Try.prog 50 #[.pointer p187_2] w_41 fun e_32 w_42 =>
                      ∃ (x188_2 : Int),
                      e_32 = .returned (.int .i64 x188_2) ∧
                      sel ((x183_2 : Int) == (x188_2 : Int)) (
                        needPtr p135 fun b193_2 o193_2 =>
                        needPtr p135 fun b199_2 o199_2 =>
                        ∃ (p195_2 : Option Addr),
                        w_42.cell? ⟨b193_2, o193_2, none⟩ = some (.pointer p195_2) ∧
                        (Calls Try.prog 59 #[.pointer p195_2] w_42 fun e_33 w_43 =>
                          ∃ (A196_4 : Option Addr) (n196_4 c196_4 : Nat),
                          e_33 = .returned (.slice A196_4 n196_4 c196_4) ∧
                          ∃ (x201_4 : Int),
                          w_43.cell? ⟨b199_2, o199_2 + 3, none⟩ = some (.int .i64 x201_4) ∧
                          sel (((n196_4 : Int) : Int) == (x201_4 : Int)) (
                            needPtr p135 fun b206_4 o206_4 =>
                            ∃ (p208_4 : Option Addr),
                            w_43.cell? ⟨b206_4, o206_4, none⟩ = some (.pointer p208_4) ∧
                            Calls Try.prog 60 #[.pointer p208_4] w_43 fun e_34 w_44 =>
                            ∃ (x209_4 : Int),
                            e_34 = .returned (.int .i64 x209_4) ∧
                            let i131_11 : Int := IntKind.i64.wrap (x18 + 1);
                            ([.slice A8 n8 c8] : List Value) = ([.slice A8 n8 c8] : List Value) ∧ ∃ m, m < r_2 ∧ I_2 ((x209_4 : Int) == (0 : Int)) i131_11 w_44 m) (
                            let i131_12 : Int := IntKind.i64.wrap (x18 + 1);
                            ([.slice A8 n8 c8] : List Value) = ([.slice A8 n8 c8] : List Value) ∧ ∃ m, m < r_2 ∧ I_2 false i131_12 w_43 m)) ∧
                        (∃ (x201_5 : Int),
                          w_42.cell? ⟨b199_2, o199_2 + 3, none⟩ = some (.int .i64 x201_5) ∧
                          Calls Try.prog 59 #[.pointer p195_2] w_42 fun e_35 w_45 =>
                          ∃ (A196_5 : Option Addr) (n196_5 c196_5 : Nat),
                          e_35 = .returned (.slice A196_5 n196_5 c196_5) ∧
                          sel (((n196_5 : Int) : Int) == (x201_5 : Int)) (
                            needPtr p135 fun b206_5 o206_5 =>
                            ∃ (p208_5 : Option Addr),
                            w_45.cell? ⟨b206_5, o206_5, none⟩ = some (.pointer p208_5) ∧
                            Calls Try.prog 60 #[.pointer p208_5] w_45 fun e_36 w_46 =>
                            ∃ (x209_5 : Int),
                            e_36 = .returned (.int .i64 x209_5) ∧
                            let i131_13 : Int := IntKind.i64.wrap (x18 + 1);
                            ([.slice A8 n8 c8] : List Value) = ([.slice A8 n8 c8] : List Value) ∧ ∃ m, m < r_2 ∧ I_2 ((x209_5 : Int) == (0 : Int)) i131_13 w_46 m) (
                            let i131_14 : Int := IntKind.i64.wrap (x18 + 1);
                            ([.slice A8 n8 c8] : List Value) = ([.slice A8 n8 c8] : List Value) ∧ ∃ m, m < r_2 ∧ I_2 false i131_14 w_45 m)) ∧ True) (
                        let i131_15 : Int := IntKind.i64.wrap (x18 + 1);
                        ([.slice A8 n8 c8] : List Value) = ([.slice A8 n8 c8] : List Value) ∧ ∃ m, m < r_2 ∧ I_2 false i131_15 w_42 m)) ∧
                    (∃ (p187_3 : Option Addr),
                      w_40.cell? ⟨b185_1, o185_1 + 2, none⟩ = some (.pointer p187_3) ∧
                      Calls Try.prog 49 #[.pointer p182_1] w_40 fun e_37 w_47 =>
                      ∃ (x183_3 : Int),
                      e_37 = .returned (.int .i64 x183_3) ∧
                      Calls Try.prog 50 #[.pointer p187_3] w_47 fun e_38 w_48 =>
                      ∃ (x188_3 : Int),
                      e_38 = .returned (.int .i64 x188_3) ∧
                      sel ((x183_3 : Int) == (x188_3 : Int)) (
                        needPtr p135 fun b193_3 o193_3 =>
                        needPtr p135 fun b199_3 o199_3 =>
                        ∃ (p195_3 : Option Addr),
                        w_48.cell? ⟨b193_3, o193_3, none⟩ = some (.pointer p195_3) ∧
                        (Calls Try.prog 59 #[.pointer p195_3] w_48 fun e_39 w_49 =>
                          ∃ (A196_6 : Option Addr) (n196_6 c196_6 : Nat),
                          e_39 = .returned (.slice A196_6 n196_6 c196_6) ∧
                          ∃ (x201_6 : Int),
                          w_49.cell? ⟨b199_3, o199_3 + 3, none⟩ = some (.int .i64 x201_6) ∧
                          sel (((n196_6 : Int) : Int) == (x201_6 : Int)) (
                            needPtr p135 fun b206_6 o206_6 =>
                            ∃ (p208_6 : Option Addr),
                            w_49.cell? ⟨b206_6, o206_6, none⟩ = some (.pointer p208_6) ∧
                            Calls Try.prog 60 #[.pointer p208_6] w_49 fun e_40 w_50 =>
                            ∃ (x209_6 : Int),
                            e_40 = .returned (.int .i64 x209_6) ∧
                            let i131_16 : Int := IntKind.i64.wrap (x18 + 1);
                            ([.slice A8 n8 c8] : List Value) = ([.slice A8 n8 c8] : List Value) ∧ ∃ m, m < r_2 ∧ I_2 ((x209_6 : Int) == (0 : Int)) i131_16 w_50 m) (
                            let i131_17 : Int := IntKind.i64.wrap (x18 + 1);
                            ([.slice A8 n8 c8] : List Value) = ([.slice A8 n8 c8] : List Value) ∧ ∃ m, m < r_2 ∧ I_2 false i131_17 w_49 m)) ∧
                        (∃ (x201_7 : Int),
                          w_48.cell? ⟨b199_3, o199_3 + 3, none⟩ = some (.int .i64 x201_7) ∧
                          Calls Try.prog 59 #[.pointer p195_3] w_48 fun e_41 w_51 =>
                          ∃ (A196_7 : Option Addr) (n196_7 c196_7 : Nat),
                          e_41 = .returned (.slice A196_7 n196_7 c196_7) ∧
                          sel (((n196_7 : Int) : Int) == (x201_7 : Int)) (
                            needPtr p135 fun b206_7 o206_7 =>
                            ∃ (p208_7 : Option Addr),
                            w_51.cell? ⟨b206_7, o206_7, none⟩ = some (.pointer p208_7) ∧
                            Calls Try.prog 60 #[.pointer p208_7] w_51 fun e_42 w_52 =>
                            ∃ (x209_7 : Int),
                            e_42 = .returned (.int .i64 x209_7) ∧
                            let i131_18 : Int := IntKind.i64.wrap (x18 + 1);
                            ([.slice A8 n8 c8] : List Value) = ([.slice A8 n8 c8] : List Value) ∧ ∃ m, m < r_2 ∧ I_2 ((x209_7 : Int) == (0 : Int)) i131_18 w_52 m) (
                            let i131_19 : Int := IntKind.i64.wrap (x18 + 1);
                            ([.slice A8 n8 c8] : List Value) = ([.slice A8 n8 c8] : List Value) ∧ ∃ m, m < r_2 ∧ I_2 false i131_19 w_51 m)) ∧ True) (
                        let i131_20 : Int := IntKind.i64.wrap (x18 + 1);
                        ([.slice A8 n8 c8] : List Value) = ([.slice A8 n8 c8] : List Value) ∧ ∃ m, m < r_2 ∧ I_2 false i131_20 w_48 m)) ∧ True) (
                    let i131_21 : Int := IntKind.i64.wrap (x18 + 1);
                    ([.slice A8 n8 c8] : List Value) = ([.slice A8 n8 c8] : List Value) ∧ ∃ m, m < r_2 ∧ I_2 false i131_21 w_40 m)) ∧ True) (
                let i131_22 : Int := IntKind.i64.wrap (x18 + 1);
                ([.slice A8 n8 c8] : List Value) = ([.slice A8 n8 c8] : List Value) ∧ ∃ m, m < r_2 ∧ I_2 false i131_22 w_22 m)) (
              let i131_23 : Int := IntKind.i64.wrap (x18 + 1);
              ([.slice A8 n8 c8] : List Value) = ([.slice A8 n8 c8] : List Value) ∧ ∃ m, m < r_2 ∧ I_2 false i131_23 w_21.drew m)) (
            R (.bool b5_3) w_20)) (
          R (.bool b5_3) w_20))))
theorem f10.eq (Aa0 : Option Addr) (na0 ca0 : Nat) (Aa1 : Option Addr) (na1 ca1 : Nat) (w : World) (R : Value → World → Prop) : f10.VC Aa0 na0 ca0 Aa1 na1 ca1 w R = funV Try.prog Try.f10 f10.AL f10.AC #[.slice Aa0 na0 ca0, .slice Aa1 na1 ca1] w R := by kernel_rfl
theorem f10.calls {Aa0 : Option Addr} {na0 ca0 : Nat} {Aa1 : Option Addr} {na1 ca1 : Nat} {w : World} {R : Value → World → Prop} (h : f10.VC Aa0 na0 ca0 Aa1 na1 ca1 w R) : Calls Try.prog 10 #[.slice Aa0 na0 ca0, .slice Aa1 na1 ca1] w fun e w' => ∃ v, e = .returned v ∧ R v w' :=
  funV_sound (fn := Try.f10) (AL := f10.AL) (AC := f10.AC) V15.mixed (by kernel_rfl) (by rw [← f10.eq Aa0 na0 ca0 Aa1 na1 ca1]; exact h)

end Go.Proofs.Ytebahglmdifmpaa
