/- The plain statements of some functions, printed by vcgen.py. -/
import Derived.Test.YtjmlfknogjaemaaM4
import Derived.Test.YtjmlfknogjaemaaProg
import Derived.KernelRfl
set_option maxRecDepth 100000
set_option linter.unusedVariables false
namespace Go.Proofs.Ytjmlfknogjaemaa
open Go Go.Proofs.Ytjmlfknogjaemaa.Vc
theorem W25.mixed : Try.prog.follows .mixedOrders = true := by kernel_rfl
/-- gatehouse/gatehouselaw12.PageTable -/
def f8.AL : Nat → Option Ann := fun r => match r with | 14 => some ⟨[(14, .int .i64), (15, .int .i64)], [2, 3, 7, 9, 11, 13]⟩ | 19 => some ⟨[(7, .bool), (16, .int .i64)], [2, 3, 9, 11, 13, 14]⟩ | 24 => some ⟨[(7, .bool), (19, .int .i64)], [2, 3, 9, 11, 13, 14]⟩ | 29 => some ⟨[(7, .bool), (22, .int .i64)], [2, 3, 9, 11, 13, 14]⟩ | _ => none
def f8.AC : Nat → Option Ann := fun _ => none
def f8.VC (Aa0_0 : Option Addr) (na0_0 ca0_0 : Nat) (Aa0_1 : Option Addr) (na0_1 ca0_1 : Nat) (Aa0_2 : Option Addr) (na0_2 ca0_2 : Nat) (Aa0_3 : Option Addr) (na0_3 ca0_3 : Nat) (Aa0_4 : Option Addr) (na0_4 ca0_4 : Nat) (Aa0_5 : Option Addr) (na0_5 ca0_5 : Nat) (Aa1 : Option Addr) (na1 ca1 : Nat) (sa2 : ByteArray) (w : World) (R : Value → World → Prop) : Prop :=
  let w_1 : World := World.alloc w (.cells #[.slice Aa0_0 na0_0 ca0_0, .slice Aa0_1 na0_1 ca0_1, .slice Aa0_2 na0_2 ca0_2, .slice Aa0_3 na0_3 ca0_3, .slice Aa0_4 na0_4 ca0_4, .slice Aa0_5 na0_5 ca0_5] 29);
  Calls Try.prog 10 #[] w_1 fun e_1 w_2 =>
  ∃ (b28 : Bool),
  e_1 = .returned (.bool b28) ∧
  ∃ (A29_0 : Option Addr) (n29_0 c29_0 : Nat),
  w_2.cell? ⟨w.heap.size, 0, none⟩ = some (.slice A29_0 n29_0 c29_0) ∧
  ∃ (A29_1 : Option Addr) (n29_1 c29_1 : Nat),
  w_2.cell? ⟨w.heap.size, 1, none⟩ = some (.slice A29_1 n29_1 c29_1) ∧
  ∃ (A29_2 : Option Addr) (n29_2 c29_2 : Nat),
  w_2.cell? ⟨w.heap.size, 2, none⟩ = some (.slice A29_2 n29_2 c29_2) ∧
  ∃ (A29_3 : Option Addr) (n29_3 c29_3 : Nat),
  w_2.cell? ⟨w.heap.size, 3, none⟩ = some (.slice A29_3 n29_3 c29_3) ∧
  ∃ (A29_4 : Option Addr) (n29_4 c29_4 : Nat),
  w_2.cell? ⟨w.heap.size, 4, none⟩ = some (.slice A29_4 n29_4 c29_4) ∧
  ∃ (A29_5 : Option Addr) (n29_5 c29_5 : Nat),
  w_2.cell? ⟨w.heap.size, 5, none⟩ = some (.slice A29_5 n29_5 c29_5) ∧
  Calls Try.prog 28 #[.agg #[.slice A29_0 n29_0 c29_0, .slice A29_1 n29_1 c29_1, .slice A29_2 n29_2 c29_2, .slice A29_3 n29_3 c29_3, .slice A29_4 n29_4 c29_4, .slice A29_5 n29_5 c29_5]] w_2 fun e_2 w_3 =>
  ∃ (b30 : Bool),
  e_2 = .returned (.bool b30) ∧
  sel (!b30) (
    R (.bool b28) w_3) (
    sel (decide ((1000000 : Int) < ((na1 : Int) : Int))) (
      R (.bool b28) w_3) (
      Calls Try.prog 13 #[.slice Aa1 na1 ca1] w_3 fun e_3 w_4 =>
      ∃ (p41_0 : Option Addr) (p41_1 : Option Addr),
      e_3 = .returned (.tuple #[.pointer p41_0, .pointer p41_1]) ∧
      sel (Option.isNone p41_0) (
        R (.bool false) w_4) (
        ∃ (A47_0 : Option Addr) (n47_0 c47_0 : Nat),
        w_4.cell? ⟨w.heap.size, 0, none⟩ = some (.slice A47_0 n47_0 c47_0) ∧
        ∃ (A47_1 : Option Addr) (n47_1 c47_1 : Nat),
        w_4.cell? ⟨w.heap.size, 1, none⟩ = some (.slice A47_1 n47_1 c47_1) ∧
        ∃ (A47_2 : Option Addr) (n47_2 c47_2 : Nat),
        w_4.cell? ⟨w.heap.size, 2, none⟩ = some (.slice A47_2 n47_2 c47_2) ∧
        ∃ (A47_3 : Option Addr) (n47_3 c47_3 : Nat),
        w_4.cell? ⟨w.heap.size, 3, none⟩ = some (.slice A47_3 n47_3 c47_3) ∧
        ∃ (A47_4 : Option Addr) (n47_4 c47_4 : Nat),
        w_4.cell? ⟨w.heap.size, 4, none⟩ = some (.slice A47_4 n47_4 c47_4) ∧
        ∃ (A47_5 : Option Addr) (n47_5 c47_5 : Nat),
        w_4.cell? ⟨w.heap.size, 5, none⟩ = some (.slice A47_5 n47_5 c47_5) ∧
        Calls Try.prog 15 #[.agg #[.slice A47_0 n47_0 c47_0, .slice A47_1 n47_1 c47_1, .slice A47_2 n47_2 c47_2, .slice A47_3 n47_3 c47_3, .slice A47_4 n47_4 c47_4, .slice A47_5 n47_5 c47_5]] w_4 fun e_4 w_5 =>
        ∃ (A48_0 : Option Addr) (n48_0 c48_0 : Nat) (A48_1 : Option Addr) (n48_1 c48_1 : Nat) (A48_2 : Option Addr) (n48_2 c48_2 : Nat) (A48_3 : Option Addr) (n48_3 c48_3 : Nat) (A48_4 : Option Addr) (n48_4 c48_4 : Nat) (A48_5 : Option Addr) (n48_5 c48_5 : Nat),
        e_4 = .returned (.agg #[.slice A48_0 n48_0 c48_0, .slice A48_1 n48_1 c48_1, .slice A48_2 n48_2 c48_2, .slice A48_3 n48_3 c48_3, .slice A48_4 n48_4 c48_4, .slice A48_5 n48_5 c48_5]) ∧
        Calls Try.prog 17 #[.int .i64 1, .agg #[.slice A48_0 n48_0 c48_0, .slice A48_1 n48_1 c48_1, .slice A48_2 n48_2 c48_2, .slice A48_3 n48_3 c48_3, .slice A48_4 n48_4 c48_4, .slice A48_5 n48_5 c48_5], .pointer p41_0] w_5 fun e_5 w_6 =>
        ∃ (A50_0 : Option Addr) (n50_0 c50_0 : Nat) (x50_1 : Int),
        e_5 = .returned (.tuple #[.slice A50_0 n50_0 c50_0, .int .i64 x50_1]) ∧
        sel ((x50_1 : Int) != (0 : Int)) (
          R (.bool false) w_6) (
          sel (decide (((n50_0 : Int) : Int) < (4 : Int))) (
            R (.bool false) w_6) (
            (0 : Int) ≤ 1 ∧ 1 < (n50_0 : Int) ∧
            needPtr A50_0 fun b62 o62 =>
            ∃ (x63 : Int),
            w_6.cell? ⟨b62, o62 + 1, none⟩ = some (.int .i64 x63) ∧
            sel (decide ((x63 : Int) < (2 : Int))) (
              R (.bool false) w_6) (
              (0 : Int) ≤ 1 ∧ 1 < (n50_0 : Int) ∧
              needPtr A50_0 fun b68 o68 =>
              ∃ (x69 : Int),
              w_6.cell? ⟨b68, o68 + 1, none⟩ = some (.int .i64 x69) ∧
              sel (decide ((4096 : Int) < (x69 : Int))) (
                R (.bool false) w_6) (
                (0 : Int) ≤ 1 ∧ 1 < (n50_0 : Int) ∧
                needPtr A50_0 fun b76 o76 =>
                ∃ (x77 : Int),
                w_6.cell? ⟨b76, o76 + 1, none⟩ = some (.int .i64 x77) ∧
                let i78 : Int := IntKind.i64.wrap (2 * x77);
                let i79 : Int := IntKind.i64.wrap (4 + i78);
                sel (decide (((n50_0 : Int) : Int) < (i79 : Int))) (
                  R (.bool false) w_6) (
                  ∃ (A83 : Option Addr) (n83 c83 : Nat),
                  w_6.cell? ⟨w.heap.size, 0, none⟩ = some (.slice A83 n83 c83) ∧
                  ∃ (A86 : Option Addr) (n86 c86 : Nat),
                  w_6.cell? ⟨w.heap.size, 1, none⟩ = some (.slice A86 n86 c86) ∧
                  let i88 : Int := IntKind.i64.wrap ((n83 : Int) + (n86 : Int));
                  ∃ (A90 : Option Addr) (n90 c90 : Nat),
                  w_6.cell? ⟨w.heap.size, 2, none⟩ = some (.slice A90 n90 c90) ∧
                  let i92 : Int := IntKind.i64.wrap (i88 + (n90 : Int));
                  ∃ I : Int → Int → World → Nat → Prop,
                  (∃ n, I 0 0 w_6 n) ∧
                  ∀ d : Env, ∀ (x14 : Int) (x15 : Int) (w_7 : World) (r : Nat), I x14 x15 w_7 r →
                  (0 : Int) ≤ 1 ∧ 1 < (n50_0 : Int) ∧
                  needPtr A50_0 fun b95 o95 =>
                  ∃ (x96 : Int),
                  w_7.cell? ⟨b95, o95 + 1, none⟩ = some (.int .i64 x96) ∧
                  sel (decide ((x15 : Int) < (x96 : Int))) (
                    let i102 : Int := IntKind.i64.wrap (2 * x15);
                    let i103 : Int := IntKind.i64.wrap (4 + i102);
                    (0 : Int) ≤ i103 ∧ i103 < (n50_0 : Int) ∧
                    needPtr A50_0 fun b104 o104 =>
                    ∃ (x105 : Int),
                    w_7.cell? ⟨b104, o104 + i103.toNat * 1, none⟩ = some (.int .i64 x105) ∧
                    sel ((x105 : Int) != (0 : Int)) (
                      let i108 : Int := IntKind.i64.wrap (x14 + 1);
                      let i99 : Int := IntKind.i64.wrap (x15 + 1);
                      ([.string sa2, .pointer (some ⟨w.heap.size, 0, none⟩), .bool b28, .pointer p41_0, .slice A50_0 n50_0 c50_0, .int .i64 i92] : List Value) = ([.string sa2, .pointer (some ⟨w.heap.size, 0, none⟩), .bool b28, .pointer p41_0, .slice A50_0 n50_0 c50_0, .int .i64 i92] : List Value) ∧ ∃ m, m < r ∧ I i108 i99 w_7 m) (
                      let i99_1 : Int := IntKind.i64.wrap (x15 + 1);
                      ([.string sa2, .pointer (some ⟨w.heap.size, 0, none⟩), .bool b28, .pointer p41_0, .slice A50_0 n50_0 c50_0, .int .i64 i92] : List Value) = ([.string sa2, .pointer (some ⟨w.heap.size, 0, none⟩), .bool b28, .pointer p41_0, .slice A50_0 n50_0 c50_0, .int .i64 i92] : List Value) ∧ ∃ m, m < r ∧ I x14 i99_1 w_7 m)) (
                    ∃ I_1 : Bool → Int → World → Nat → Prop,
                    (∃ n, I_1 b28 0 w_7 n) ∧
                    ∀ d_1 : Env, ∀ (b7 : Bool) (x16 : Int) (w_8 : World) (r_1 : Nat), I_1 b7 x16 w_8 r_1 →
                    ∃ (A111 : Option Addr) (n111 c111 : Nat),
                    w_8.cell? ⟨w.heap.size, 0, none⟩ = some (.slice A111 n111 c111) ∧
                    sel (decide ((x16 : Int) < ((n111 : Int) : Int))) (
                      ∃ (A120 : Option Addr) (n120 c120 : Nat),
                      w_8.cell? ⟨w.heap.size, 0, none⟩ = some (.slice A120 n120 c120) ∧
                      (0 : Int) ≤ x16 ∧ x16 < (n120 : Int) ∧
                      needPtr A120 fun b122 o122 =>
                      ∃ (s123 : ByteArray),
                      w_8.cell? ⟨b122, o122 + x16.toNat * 1, none⟩ = some (.string s123) ∧
                      Calls Try.prog 32 #[.pointer p41_0, .string s123] w_8 fun e_6 w_9 =>
                      ∃ (x124 : Int),
                      e_6 = .returned (.int .i64 x124) ∧
                      Calls Try.prog 31 #[.slice A50_0 n50_0 c50_0, .int .i64 x124, .int .i8 3] w_9 fun e_7 w_10 =>
                      ∃ (x125_0 : Int) (x125_1 : Int),
                      e_7 = .returned (.tuple #[.int .i64 x125_0, .int .i64 x125_1]) ∧
                      sel b7 (
                        let i132 : Int := IntKind.i64.wrap (x16 + 1);
                        sel ((x125_0 : Int) == (i132 : Int)) (
                          sel (decide ((1 : Int) ≤ (x125_1 : Int))) (
                            let i115 : Int := IntKind.i64.wrap (x16 + 1);
                            ([.string sa2, .pointer (some ⟨w.heap.size, 0, none⟩), .pointer p41_0, .slice A50_0 n50_0 c50_0, .int .i64 i92, .int .i64 x14] : List Value) = ([.string sa2, .pointer (some ⟨w.heap.size, 0, none⟩), .pointer p41_0, .slice A50_0 n50_0 c50_0, .int .i64 i92, .int .i64 x14] : List Value) ∧ ∃ m, m < r_1 ∧ I_1 (decide ((x125_1 : Int) ≤ (i92 : Int))) i115 w_10 m) (
                            let i115_1 : Int := IntKind.i64.wrap (x16 + 1);
                            ([.string sa2, .pointer (some ⟨w.heap.size, 0, none⟩), .pointer p41_0, .slice A50_0 n50_0 c50_0, .int .i64 i92, .int .i64 x14] : List Value) = ([.string sa2, .pointer (some ⟨w.heap.size, 0, none⟩), .pointer p41_0, .slice A50_0 n50_0 c50_0, .int .i64 i92, .int .i64 x14] : List Value) ∧ ∃ m, m < r_1 ∧ I_1 false i115_1 w_10 m)) (
                          let i115_2 : Int := IntKind.i64.wrap (x16 + 1);
                          ([.string sa2, .pointer (some ⟨w.heap.size, 0, none⟩), .pointer p41_0, .slice A50_0 n50_0 c50_0, .int .i64 i92, .int .i64 x14] : List Value) = ([.string sa2, .pointer (some ⟨w.heap.size, 0, none⟩), .pointer p41_0, .slice A50_0 n50_0 c50_0, .int .i64 i92, .int .i64 x14] : List Value) ∧ ∃ m, m < r_1 ∧ I_1 false i115_2 w_10 m)) (
                        let i115_3 : Int := IntKind.i64.wrap (x16 + 1);
                        ([.string sa2, .pointer (some ⟨w.heap.size, 0, none⟩), .pointer p41_0, .slice A50_0 n50_0 c50_0, .int .i64 i92, .int .i64 x14] : List Value) = ([.string sa2, .pointer (some ⟨w.heap.size, 0, none⟩), .pointer p41_0, .slice A50_0 n50_0 c50_0, .int .i64 i92, .int .i64 x14] : List Value) ∧ ∃ m, m < r_1 ∧ I_1 false i115_3 w_10 m)) (
                      ∃ I_2 : Bool → Int → World → Nat → Prop,
                      (∃ n, I_2 b7 0 w_8 n) ∧
                      ∀ d_2 : Env, ∀ (b7_1 : Bool) (x19 : Int) (w_11 : World) (r_2 : Nat), I_2 b7_1 x19 w_11 r_2 →
                      ∃ (A146 : Option Addr) (n146 c146 : Nat),
                      w_11.cell? ⟨w.heap.size, 1, none⟩ = some (.slice A146 n146 c146) ∧
                      sel (decide ((x19 : Int) < ((n146 : Int) : Int))) (
                        ∃ (A155 : Option Addr) (n155 c155 : Nat),
                        w_11.cell? ⟨w.heap.size, 1, none⟩ = some (.slice A155 n155 c155) ∧
                        (0 : Int) ≤ x19 ∧ x19 < (n155 : Int) ∧
                        needPtr A155 fun b157 o157 =>
                        ∃ (s158 : ByteArray),
                        w_11.cell? ⟨b157, o157 + x19.toNat * 1, none⟩ = some (.string s158) ∧
                        Calls Try.prog 32 #[.pointer p41_0, .string s158] w_11 fun e_8 w_12 =>
                        ∃ (x159 : Int),
                        e_8 = .returned (.int .i64 x159) ∧
                        Calls Try.prog 31 #[.slice A50_0 n50_0 c50_0, .int .i64 x159, .int .i8 1] w_12 fun e_9 w_13 =>
                        ∃ (x160_0 : Int) (x160_1 : Int),
                        e_9 = .returned (.tuple #[.int .i64 x160_0, .int .i64 x160_1]) ∧
                        sel b7_1 (
                          ∃ (A167 : Option Addr) (n167 c167 : Nat),
                          w_13.cell? ⟨w.heap.size, 3, none⟩ = some (.slice A167 n167 c167) ∧
                          (0 : Int) ≤ x19 ∧ x19 < (n167 : Int) ∧
                          needPtr A167 fun b169 o169 =>
                          ∃ (x170 : Int),
                          w_13.cell? ⟨b169, o169 + x19.toNat * 1, none⟩ = some (.int .i64 x170) ∧
                          sel ((x160_0 : Int) == (x170 : Int)) (
                            sel (decide ((1 : Int) ≤ (x160_1 : Int))) (
                              let i150 : Int := IntKind.i64.wrap (x19 + 1);
                              ([.string sa2, .pointer (some ⟨w.heap.size, 0, none⟩), .pointer p41_0, .slice A50_0 n50_0 c50_0, .int .i64 i92, .int .i64 x14] : List Value) = ([.string sa2, .pointer (some ⟨w.heap.size, 0, none⟩), .pointer p41_0, .slice A50_0 n50_0 c50_0, .int .i64 i92, .int .i64 x14] : List Value) ∧ ∃ m, m < r_2 ∧ I_2 (decide ((x160_1 : Int) ≤ (i92 : Int))) i150 w_13 m) (
                              let i150_1 : Int := IntKind.i64.wrap (x19 + 1);
                              ([.string sa2, .pointer (some ⟨w.heap.size, 0, none⟩), .pointer p41_0, .slice A50_0 n50_0 c50_0, .int .i64 i92, .int .i64 x14] : List Value) = ([.string sa2, .pointer (some ⟨w.heap.size, 0, none⟩), .pointer p41_0, .slice A50_0 n50_0 c50_0, .int .i64 i92, .int .i64 x14] : List Value) ∧ ∃ m, m < r_2 ∧ I_2 false i150_1 w_13 m)) (
                            let i150_2 : Int := IntKind.i64.wrap (x19 + 1);
                            ([.string sa2, .pointer (some ⟨w.heap.size, 0, none⟩), .pointer p41_0, .slice A50_0 n50_0 c50_0, .int .i64 i92, .int .i64 x14] : List Value) = ([.string sa2, .pointer (some ⟨w.heap.size, 0, none⟩), .pointer p41_0, .slice A50_0 n50_0 c50_0, .int .i64 i92, .int .i64 x14] : List Value) ∧ ∃ m, m < r_2 ∧ I_2 false i150_2 w_13 m)) (
                          let i150_3 : Int := IntKind.i64.wrap (x19 + 1);
                          ([.string sa2, .pointer (some ⟨w.heap.size, 0, none⟩), .pointer p41_0, .slice A50_0 n50_0 c50_0, .int .i64 i92, .int .i64 x14] : List Value) = ([.string sa2, .pointer (some ⟨w.heap.size, 0, none⟩), .pointer p41_0, .slice A50_0 n50_0 c50_0, .int .i64 i92, .int .i64 x14] : List Value) ∧ ∃ m, m < r_2 ∧ I_2 false i150_3 w_13 m)) (
                        ∃ I_3 : Bool → Int → World → Nat → Prop,
                        (∃ n, I_3 b7_1 0 w_11 n) ∧
                        ∀ d_3 : Env, ∀ (b7_2 : Bool) (x22 : Int) (w_14 : World) (r_3 : Nat), I_3 b7_2 x22 w_14 r_3 →
                        ∃ (A184 : Option Addr) (n184 c184 : Nat),
                        w_14.cell? ⟨w.heap.size, 2, none⟩ = some (.slice A184 n184 c184) ∧
                        sel (decide ((x22 : Int) < ((n184 : Int) : Int))) (
                          ∃ (A193 : Option Addr) (n193 c193 : Nat),
                          w_14.cell? ⟨w.heap.size, 2, none⟩ = some (.slice A193 n193 c193) ∧
                          (0 : Int) ≤ x22 ∧ x22 < (n193 : Int) ∧
                          needPtr A193 fun b195 o195 =>
                          ∃ (s196 : ByteArray),
                          w_14.cell? ⟨b195, o195 + x22.toNat * 1, none⟩ = some (.string s196) ∧
                          Calls Try.prog 32 #[.pointer p41_0, .string s196] w_14 fun e_10 w_15 =>
                          ∃ (x197 : Int),
                          e_10 = .returned (.int .i64 x197) ∧
                          Calls Try.prog 31 #[.slice A50_0 n50_0 c50_0, .int .i64 x197, .int .i8 2] w_15 fun e_11 w_16 =>
                          ∃ (x198_0 : Int) (x198_1 : Int),
                          e_11 = .returned (.tuple #[.int .i64 x198_0, .int .i64 x198_1]) ∧
                          sel b7_2 (
                            ∃ (A205 : Option Addr) (n205 c205 : Nat),
                            w_16.cell? ⟨w.heap.size, 4, none⟩ = some (.slice A205 n205 c205) ∧
                            (0 : Int) ≤ x22 ∧ x22 < (n205 : Int) ∧
                            needPtr A205 fun b207 o207 =>
                            ∃ (x208 : Int),
                            w_16.cell? ⟨b207, o207 + x22.toNat * 1, none⟩ = some (.int .i64 x208) ∧
                            sel ((x198_0 : Int) == (x208 : Int)) (
                              sel (decide ((1 : Int) ≤ (x198_1 : Int))) (
                                let i188 : Int := IntKind.i64.wrap (x22 + 1);
                                ([.string sa2, .pointer (some ⟨w.heap.size, 0, none⟩), .pointer p41_0, .slice A50_0 n50_0 c50_0, .int .i64 i92, .int .i64 x14] : List Value) = ([.string sa2, .pointer (some ⟨w.heap.size, 0, none⟩), .pointer p41_0, .slice A50_0 n50_0 c50_0, .int .i64 i92, .int .i64 x14] : List Value) ∧ ∃ m, m < r_3 ∧ I_3 (decide ((x198_1 : Int) ≤ (i92 : Int))) i188 w_16 m) (
                                let i188_1 : Int := IntKind.i64.wrap (x22 + 1);
                                ([.string sa2, .pointer (some ⟨w.heap.size, 0, none⟩), .pointer p41_0, .slice A50_0 n50_0 c50_0, .int .i64 i92, .int .i64 x14] : List Value) = ([.string sa2, .pointer (some ⟨w.heap.size, 0, none⟩), .pointer p41_0, .slice A50_0 n50_0 c50_0, .int .i64 i92, .int .i64 x14] : List Value) ∧ ∃ m, m < r_3 ∧ I_3 false i188_1 w_16 m)) (
                              let i188_2 : Int := IntKind.i64.wrap (x22 + 1);
                              ([.string sa2, .pointer (some ⟨w.heap.size, 0, none⟩), .pointer p41_0, .slice A50_0 n50_0 c50_0, .int .i64 i92, .int .i64 x14] : List Value) = ([.string sa2, .pointer (some ⟨w.heap.size, 0, none⟩), .pointer p41_0, .slice A50_0 n50_0 c50_0, .int .i64 i92, .int .i64 x14] : List Value) ∧ ∃ m, m < r_3 ∧ I_3 false i188_2 w_16 m)) (
                            let i188_3 : Int := IntKind.i64.wrap (x22 + 1);
                            ([.string sa2, .pointer (some ⟨w.heap.size, 0, none⟩), .pointer p41_0, .slice A50_0 n50_0 c50_0, .int .i64 i92, .int .i64 x14] : List Value) = ([.string sa2, .pointer (some ⟨w.heap.size, 0, none⟩), .pointer p41_0, .slice A50_0 n50_0 c50_0, .int .i64 i92, .int .i64 x14] : List Value) ∧ ∃ m, m < r_3 ∧ I_3 false i188_3 w_16 m)) (
                          ∃ (A221 : Option Addr) (n221 c221 : Nat),
                          w_14.cell? ⟨w.heap.size, 1, none⟩ = some (.slice A221 n221 c221) ∧
                          Calls Try.prog 33 #[.slice A221 n221 c221, .string sa2] w_14 fun e_12 w_17 =>
                          ∃ (b223 : Bool),
                          e_12 = .returned (.bool b223) ∧
                          Calls Try.prog 32 #[.pointer p41_0, .string sa2] w_17 fun e_13 w_18 =>
                          ∃ (x229 : Int),
                          e_13 = .returned (.int .i64 x229) ∧
                          Calls Try.prog 31 #[.slice A50_0 n50_0 c50_0, .int .i64 x229, .int .i8 1] w_18 fun e_14 w_19 =>
                          ∃ (x230_0 : Int) (x230_1 : Int),
                          e_14 = .returned (.tuple #[.int .i64 x230_0, .int .i64 x230_1]) ∧
                          sel b7_2 (
                            sel ((x14 : Int) == (i92 : Int)) (
                              let i241 : Int := IntKind.i64.wrap (2 * x14);
                              (0 : Int) ≤ 1 ∧ 1 < (n50_0 : Int) ∧
                              needPtr A50_0 fun b243 o243 =>
                              ∃ (x244 : Int),
                              w_19.cell? ⟨b243, o243 + 1, none⟩ = some (.int .i64 x244) ∧
                              sel (decide ((i241 : Int) ≤ (x244 : Int))) (
                                sel (!(!b223)) (
                                  R (.bool true) w_19) (
                                  sel ((x230_0 : Int) == (0 : Int)) (
                                    sel (decide ((1 : Int) ≤ (x230_1 : Int))) (
                                      let i260 : Int := IntKind.i64.wrap (i92 + 1);
                                      R (.bool (decide ((x230_1 : Int) ≤ (i260 : Int)))) w_19) (
                                      R (.bool false) w_19)) (
                                    R (.bool false) w_19))) (
                                R (.bool false) w_19)) (
                              R (.bool false) w_19)) (
                            R (.bool false) w_19)))))))))))))
theorem f8.eq (Aa0_0 : Option Addr) (na0_0 ca0_0 : Nat) (Aa0_1 : Option Addr) (na0_1 ca0_1 : Nat) (Aa0_2 : Option Addr) (na0_2 ca0_2 : Nat) (Aa0_3 : Option Addr) (na0_3 ca0_3 : Nat) (Aa0_4 : Option Addr) (na0_4 ca0_4 : Nat) (Aa0_5 : Option Addr) (na0_5 ca0_5 : Nat) (Aa1 : Option Addr) (na1 ca1 : Nat) (sa2 : ByteArray) (w : World) (R : Value → World → Prop) : f8.VC Aa0_0 na0_0 ca0_0 Aa0_1 na0_1 ca0_1 Aa0_2 na0_2 ca0_2 Aa0_3 na0_3 ca0_3 Aa0_4 na0_4 ca0_4 Aa0_5 na0_5 ca0_5 Aa1 na1 ca1 sa2 w R = funV Try.prog Try.f8 f8.AL f8.AC #[.agg #[.slice Aa0_0 na0_0 ca0_0, .slice Aa0_1 na0_1 ca0_1, .slice Aa0_2 na0_2 ca0_2, .slice Aa0_3 na0_3 ca0_3, .slice Aa0_4 na0_4 ca0_4, .slice Aa0_5 na0_5 ca0_5], .slice Aa1 na1 ca1, .string sa2] w R := by kernel_rfl
theorem f8.calls {Aa0_0 : Option Addr} {na0_0 ca0_0 : Nat} {Aa0_1 : Option Addr} {na0_1 ca0_1 : Nat} {Aa0_2 : Option Addr} {na0_2 ca0_2 : Nat} {Aa0_3 : Option Addr} {na0_3 ca0_3 : Nat} {Aa0_4 : Option Addr} {na0_4 ca0_4 : Nat} {Aa0_5 : Option Addr} {na0_5 ca0_5 : Nat} {Aa1 : Option Addr} {na1 ca1 : Nat} {sa2 : ByteArray} {w : World} {R : Value → World → Prop} (h : f8.VC Aa0_0 na0_0 ca0_0 Aa0_1 na0_1 ca0_1 Aa0_2 na0_2 ca0_2 Aa0_3 na0_3 ca0_3 Aa0_4 na0_4 ca0_4 Aa0_5 na0_5 ca0_5 Aa1 na1 ca1 sa2 w R) : Calls Try.prog 8 #[.agg #[.slice Aa0_0 na0_0 ca0_0, .slice Aa0_1 na0_1 ca0_1, .slice Aa0_2 na0_2 ca0_2, .slice Aa0_3 na0_3 ca0_3, .slice Aa0_4 na0_4 ca0_4, .slice Aa0_5 na0_5 ca0_5], .slice Aa1 na1 ca1, .string sa2] w fun e w' => ∃ v, e = .returned v ∧ R v w' :=
  funV_sound (fn := Try.f8) (AL := f8.AL) (AC := f8.AC) W25.mixed (by kernel_rfl) (by rw [← f8.eq Aa0_0 na0_0 ca0_0 Aa0_1 na0_1 ca0_1 Aa0_2 na0_2 ca0_2 Aa0_3 na0_3 ca0_3 Aa0_4 na0_4 ca0_4 Aa0_5 na0_5 ca0_5 Aa1 na1 ca1 sa2]; exact h)

/-- gatehouse/gatehouselaw12.in -/
def f33.AL : Nat → Option Ann := fun r => match r with | 2 => some ⟨[(5, .int .i64)], [0, 1]⟩ | _ => none
def f33.AC : Nat → Option Ann := fun _ => none
def f33.VC (Aa0 : Option Addr) (na0 ca0 : Nat) (sa1 : ByteArray) (w : World) (R : Value → World → Prop) : Prop :=
  ∃ I : Int → World → Nat → Prop,
  (∃ n, I 0 w n) ∧
  ∀ d : Env, ∀ (x5 : Int) (w_1 : World) (r : Nat), I x5 w_1 r →
  sel (decide ((x5 : Int) < ((na0 : Int) : Int))) (
    (0 : Int) ≤ x5 ∧ x5 < (na0 : Int) ∧
    needPtr Aa0 fun b14 o14 =>
    ∃ (s15 : ByteArray),
    w_1.cell? ⟨b14, o14 + x5.toNat * 1, none⟩ = some (.string s15) ∧
    sel (decide (s15 = sa1)) (
      R (.bool true) w_1) (
      let i11 : Int := IntKind.i64.wrap (x5 + 1);
      ([.slice Aa0 na0 ca0, .string sa1] : List Value) = ([.slice Aa0 na0 ca0, .string sa1] : List Value) ∧ ∃ m, m < r ∧ I i11 w_1 m)) (
    R (.bool false) w_1)
theorem f33.eq (Aa0 : Option Addr) (na0 ca0 : Nat) (sa1 : ByteArray) (w : World) (R : Value → World → Prop) : f33.VC Aa0 na0 ca0 sa1 w R = funV Try.prog Try.f33 f33.AL f33.AC #[.slice Aa0 na0 ca0, .string sa1] w R := by kernel_rfl
theorem f33.calls {Aa0 : Option Addr} {na0 ca0 : Nat} {sa1 : ByteArray} {w : World} {R : Value → World → Prop} (h : f33.VC Aa0 na0 ca0 sa1 w R) : Calls Try.prog 33 #[.slice Aa0 na0 ca0, .string sa1] w fun e w' => ∃ v, e = .returned v ∧ R v w' :=
  funV_sound (fn := Try.f33) (AL := f33.AL) (AC := f33.AC) W25.mixed (by kernel_rfl) (by rw [← f33.eq Aa0 na0 ca0 sa1]; exact h)

end Go.Proofs.Ytjmlfknogjaemaa
