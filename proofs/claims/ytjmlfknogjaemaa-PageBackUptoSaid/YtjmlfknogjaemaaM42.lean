/- The plain statements of some functions, printed by vcgen.py. -/
import Derived.Test.YtjmlfknogjaemaaM4
import Derived.Test.YtjmlfknogjaemaaProg
import Derived.KernelRfl
import Derived.Test.YtjmlfknogjaemaaM41
import Derived.Test.YtjmlfknogjaemaaM30
set_option maxRecDepth 100000
set_option linter.unusedVariables false
namespace Go.Proofs.Ytjmlfknogjaemaa
open Go Go.Proofs.Ytjmlfknogjaemaa.Vc
theorem W26.mixed : Try.prog.follows .mixedOrders = true := by kernel_rfl
/-- gatehouse/gatehouselaw12.PageBack -/
def f7.AL : Nat → Option Ann := fun _ => none
def f7.AC : Nat → Option Ann := fun r => match r with | 1000014 => some ⟨[], []⟩ | _ => none
def f7.VC (xa0 : Int) (xa1 : Int) (Aa2_0 : Option Addr) (na2_0 ca2_0 : Nat) (Aa2_1 : Option Addr) (na2_1 ca2_1 : Nat) (Aa2_2 : Option Addr) (na2_2 ca2_2 : Nat) (Aa2_3 : Option Addr) (na2_3 ca2_3 : Nat) (Aa2_4 : Option Addr) (na2_4 ca2_4 : Nat) (Aa2_5 : Option Addr) (na2_5 ca2_5 : Nat) (w : World) (R : Value → World → Prop) : Prop :=
  let w_1 : World := World.alloc w (.cells #[.slice Aa2_0 na2_0 ca2_0, .slice Aa2_1 na2_1 ca2_1, .slice Aa2_2 na2_2 ca2_2, .slice Aa2_3 na2_3 ca2_3, .slice Aa2_4 na2_4 ca2_4, .slice Aa2_5 na2_5 ca2_5] 29);
  Calls Try.prog 10 #[] w_1 fun e_1 w_2 =>
  ∃ (b19 : Bool),
  e_1 = .returned (.bool b19) ∧
  ∃ (A20_0 : Option Addr) (n20_0 c20_0 : Nat),
  w_2.cell? ⟨w.heap.size, 0, none⟩ = some (.slice A20_0 n20_0 c20_0) ∧
  ∃ (A20_1 : Option Addr) (n20_1 c20_1 : Nat),
  w_2.cell? ⟨w.heap.size, 1, none⟩ = some (.slice A20_1 n20_1 c20_1) ∧
  ∃ (A20_2 : Option Addr) (n20_2 c20_2 : Nat),
  w_2.cell? ⟨w.heap.size, 2, none⟩ = some (.slice A20_2 n20_2 c20_2) ∧
  ∃ (A20_3 : Option Addr) (n20_3 c20_3 : Nat),
  w_2.cell? ⟨w.heap.size, 3, none⟩ = some (.slice A20_3 n20_3 c20_3) ∧
  ∃ (A20_4 : Option Addr) (n20_4 c20_4 : Nat),
  w_2.cell? ⟨w.heap.size, 4, none⟩ = some (.slice A20_4 n20_4 c20_4) ∧
  ∃ (A20_5 : Option Addr) (n20_5 c20_5 : Nat),
  w_2.cell? ⟨w.heap.size, 5, none⟩ = some (.slice A20_5 n20_5 c20_5) ∧
  Calls Try.prog 28 #[.agg #[.slice A20_0 n20_0 c20_0, .slice A20_1 n20_1 c20_1, .slice A20_2 n20_2 c20_2, .slice A20_3 n20_3 c20_3, .slice A20_4 n20_4 c20_4, .slice A20_5 n20_5 c20_5]] w_2 fun e_2 w_3 =>
  ∃ (b21 : Bool),
  e_2 = .returned (.bool b21) ∧
  sel (!b21) (
  R (.bool b19) w_3) (
  sel (decide ((xa0 : Int) < (1 : Int))) (
  R (.bool b19) w_3) (
  sel (decide ((2147483647 : Int) < (xa0 : Int))) (
  R (.bool b19) w_3) (
  sel (decide ((xa1 : Int) < (1 : Int))) (
  R (.bool b19) w_3) (
  sel (decide ((2147483647 : Int) < (xa1 : Int))) (
  R (.bool b19) w_3) (
  Calls Try.prog 29 #[] w_3 fun e_3 w_4 =>
  ∃ (p41 : Option Addr),
  e_3 = .returned (.pointer p41) ∧
  sel (Option.isNone p41) (
  R (.bool false) w_4) (
  ∃ (A46_0 : Option Addr) (n46_0 c46_0 : Nat),
  w_4.cell? ⟨w.heap.size, 0, none⟩ = some (.slice A46_0 n46_0 c46_0) ∧
  ∃ (A46_1 : Option Addr) (n46_1 c46_1 : Nat),
  w_4.cell? ⟨w.heap.size, 1, none⟩ = some (.slice A46_1 n46_1 c46_1) ∧
  ∃ (A46_2 : Option Addr) (n46_2 c46_2 : Nat),
  w_4.cell? ⟨w.heap.size, 2, none⟩ = some (.slice A46_2 n46_2 c46_2) ∧
  ∃ (A46_3 : Option Addr) (n46_3 c46_3 : Nat),
  w_4.cell? ⟨w.heap.size, 3, none⟩ = some (.slice A46_3 n46_3 c46_3) ∧
  ∃ (A46_4 : Option Addr) (n46_4 c46_4 : Nat),
  w_4.cell? ⟨w.heap.size, 4, none⟩ = some (.slice A46_4 n46_4 c46_4) ∧
  ∃ (A46_5 : Option Addr) (n46_5 c46_5 : Nat),
  w_4.cell? ⟨w.heap.size, 5, none⟩ = some (.slice A46_5 n46_5 c46_5) ∧
  Calls Try.prog 15 #[.agg #[.slice A46_0 n46_0 c46_0, .slice A46_1 n46_1 c46_1, .slice A46_2 n46_2 c46_2, .slice A46_3 n46_3 c46_3, .slice A46_4 n46_4 c46_4, .slice A46_5 n46_5 c46_5]] w_4 fun e_4 w_5 =>
  ∃ (A47_0 : Option Addr) (n47_0 c47_0 : Nat) (A47_1 : Option Addr) (n47_1 c47_1 : Nat) (A47_2 : Option Addr) (n47_2 c47_2 : Nat) (A47_3 : Option Addr) (n47_3 c47_3 : Nat) (A47_4 : Option Addr) (n47_4 c47_4 : Nat) (A47_5 : Option Addr) (n47_5 c47_5 : Nat),
  e_4 = .returned (.agg #[.slice A47_0 n47_0 c47_0, .slice A47_1 n47_1 c47_1, .slice A47_2 n47_2 c47_2, .slice A47_3 n47_3 c47_3, .slice A47_4 n47_4 c47_4, .slice A47_5 n47_5 c47_5]) ∧
  Calls Try.prog 17 #[.int .i64 xa0, .agg #[.slice A47_0 n47_0 c47_0, .slice A47_1 n47_1 c47_1, .slice A47_2 n47_2 c47_2, .slice A47_3 n47_3 c47_3, .slice A47_4 n47_4 c47_4, .slice A47_5 n47_5 c47_5], .pointer p41] w_5 fun e_5 w_6 =>
  ∃ (A49_0 : Option Addr) (n49_0 c49_0 : Nat) (x49_1 : Int),
  e_5 = .returned (.tuple #[.slice A49_0 n49_0 c49_0, .int .i64 x49_1]) ∧
  ∃ (A54_0 : Option Addr) (n54_0 c54_0 : Nat),
  w_6.cell? ⟨w.heap.size, 0, none⟩ = some (.slice A54_0 n54_0 c54_0) ∧
  ∃ (A54_1 : Option Addr) (n54_1 c54_1 : Nat),
  w_6.cell? ⟨w.heap.size, 1, none⟩ = some (.slice A54_1 n54_1 c54_1) ∧
  ∃ (A54_2 : Option Addr) (n54_2 c54_2 : Nat),
  w_6.cell? ⟨w.heap.size, 2, none⟩ = some (.slice A54_2 n54_2 c54_2) ∧
  ∃ (A54_3 : Option Addr) (n54_3 c54_3 : Nat),
  w_6.cell? ⟨w.heap.size, 3, none⟩ = some (.slice A54_3 n54_3 c54_3) ∧
  ∃ (A54_4 : Option Addr) (n54_4 c54_4 : Nat),
  w_6.cell? ⟨w.heap.size, 4, none⟩ = some (.slice A54_4 n54_4 c54_4) ∧
  ∃ (A54_5 : Option Addr) (n54_5 c54_5 : Nat),
  w_6.cell? ⟨w.heap.size, 5, none⟩ = some (.slice A54_5 n54_5 c54_5) ∧
  Calls Try.prog 15 #[.agg #[.slice A54_0 n54_0 c54_0, .slice A54_1 n54_1 c54_1, .slice A54_2 n54_2 c54_2, .slice A54_3 n54_3 c54_3, .slice A54_4 n54_4 c54_4, .slice A54_5 n54_5 c54_5]] w_6 fun e_6 w_7 =>
  ∃ (A55_0 : Option Addr) (n55_0 c55_0 : Nat) (A55_1 : Option Addr) (n55_1 c55_1 : Nat) (A55_2 : Option Addr) (n55_2 c55_2 : Nat) (A55_3 : Option Addr) (n55_3 c55_3 : Nat) (A55_4 : Option Addr) (n55_4 c55_4 : Nat) (A55_5 : Option Addr) (n55_5 c55_5 : Nat),
  e_6 = .returned (.agg #[.slice A55_0 n55_0 c55_0, .slice A55_1 n55_1 c55_1, .slice A55_2 n55_2 c55_2, .slice A55_3 n55_3 c55_3, .slice A55_4 n55_4 c55_4, .slice A55_5 n55_5 c55_5]) ∧
  Calls Try.prog 17 #[.int .i64 xa0, .agg #[.slice A55_0 n55_0 c55_0, .slice A55_1 n55_1 c55_1, .slice A55_2 n55_2 c55_2, .slice A55_3 n55_3 c55_3, .slice A55_4 n55_4 c55_4, .slice A55_5 n55_5 c55_5], .pointer p41] w_7 fun e_7 w_8 =>
  ∃ (A57_0 : Option Addr) (n57_0 c57_0 : Nat) (x57_1 : Int),
  e_7 = .returned (.tuple #[.slice A57_0 n57_0 c57_0, .int .i64 x57_1]) ∧
  ∃ (A62_0 : Option Addr) (n62_0 c62_0 : Nat),
  w_8.cell? ⟨w.heap.size, 0, none⟩ = some (.slice A62_0 n62_0 c62_0) ∧
  ∃ (A62_1 : Option Addr) (n62_1 c62_1 : Nat),
  w_8.cell? ⟨w.heap.size, 1, none⟩ = some (.slice A62_1 n62_1 c62_1) ∧
  ∃ (A62_2 : Option Addr) (n62_2 c62_2 : Nat),
  w_8.cell? ⟨w.heap.size, 2, none⟩ = some (.slice A62_2 n62_2 c62_2) ∧
  ∃ (A62_3 : Option Addr) (n62_3 c62_3 : Nat),
  w_8.cell? ⟨w.heap.size, 3, none⟩ = some (.slice A62_3 n62_3 c62_3) ∧
  ∃ (A62_4 : Option Addr) (n62_4 c62_4 : Nat),
  w_8.cell? ⟨w.heap.size, 4, none⟩ = some (.slice A62_4 n62_4 c62_4) ∧
  ∃ (A62_5 : Option Addr) (n62_5 c62_5 : Nat),
  w_8.cell? ⟨w.heap.size, 5, none⟩ = some (.slice A62_5 n62_5 c62_5) ∧
  Calls Try.prog 15 #[.agg #[.slice A62_0 n62_0 c62_0, .slice A62_1 n62_1 c62_1, .slice A62_2 n62_2 c62_2, .slice A62_3 n62_3 c62_3, .slice A62_4 n62_4 c62_4, .slice A62_5 n62_5 c62_5]] w_8 fun e_8 w_9 =>
  ∃ (A63_0 : Option Addr) (n63_0 c63_0 : Nat) (A63_1 : Option Addr) (n63_1 c63_1 : Nat) (A63_2 : Option Addr) (n63_2 c63_2 : Nat) (A63_3 : Option Addr) (n63_3 c63_3 : Nat) (A63_4 : Option Addr) (n63_4 c63_4 : Nat) (A63_5 : Option Addr) (n63_5 c63_5 : Nat),
  e_8 = .returned (.agg #[.slice A63_0 n63_0 c63_0, .slice A63_1 n63_1 c63_1, .slice A63_2 n63_2 c63_2, .slice A63_3 n63_3 c63_3, .slice A63_4 n63_4 c63_4, .slice A63_5 n63_5 c63_5]) ∧
  Calls Try.prog 17 #[.int .i64 xa1, .agg #[.slice A63_0 n63_0 c63_0, .slice A63_1 n63_1 c63_1, .slice A63_2 n63_2 c63_2, .slice A63_3 n63_3 c63_3, .slice A63_4 n63_4 c63_4, .slice A63_5 n63_5 c63_5], .pointer p41] w_9 fun e_9 w_10 =>
  ∃ (A65_0 : Option Addr) (n65_0 c65_0 : Nat) (x65_1 : Int),
  e_9 = .returned (.tuple #[.slice A65_0 n65_0 c65_0, .int .i64 x65_1]) ∧
  sel ((x49_1 : Int) != (0 : Int)) (
  R (.bool false) w_10) (
  sel ((x57_1 : Int) != (0 : Int)) (
  R (.bool false) w_10) (
  sel ((x65_1 : Int) != (0 : Int)) (
  R (.bool false) w_10) (
  Calls Try.prog 18 #[.slice A49_0 n49_0 c49_0, .slice A57_0 n57_0 c57_0] w_10 fun e_10 w_11 =>
  ∃ (b81 : Bool),
  e_10 = .returned (.bool b81) ∧
  sel (!b81) (
  R (.bool false) w_11) (
  sel (((n65_0 : Int) : Int) != ((n49_0 : Int) : Int)) (
  R (.bool false) w_11) (
  sel (decide (((n49_0 : Int) : Int) < (4 : Int))) (
  R (.bool false) w_11) (
  (0 : Int) ≤ 0 ∧ 0 < (n49_0 : Int) ∧
  needPtr A49_0 fun b98 o98 =>
  ∃ (x99 : Int),
  w_11.cell? ⟨b98, o98, none⟩ = some (.int .i64 x99) ∧
  sel ((x99 : Int) != (xa0 : Int)) (
  R (.bool false) w_11) (
  (0 : Int) ≤ 0 ∧ 0 < (n65_0 : Int) ∧
  needPtr A65_0 fun b105 o105 =>
  ∃ (x106 : Int),
  w_11.cell? ⟨b105, o105, none⟩ = some (.int .i64 x106) ∧
  sel ((x106 : Int) != (xa1 : Int)) (
  R (.bool false) w_11) (
  (0 : Int) ≤ 0 ∧ 0 < (n65_0 : Int) ∧
  needPtr A65_0 fun b112 o112 =>
  canStore w_11 b112 o112 1 ∧
  let w_12 : World := setCs w_11 b112 o112 [.int .i64 xa0];
  ∃ (A116 : Option Addr) (n116 c116 : Nat),
  w_12.cell? ⟨w.heap.size, 0, none⟩ = some (.slice A116 n116 c116) ∧
  ∃ (A119 : Option Addr) (n119 c119 : Nat),
  w_12.cell? ⟨w.heap.size, 1, none⟩ = some (.slice A119 n119 c119) ∧
  let i121 : Int := IntKind.i64.wrap ((n116 : Int) + (n119 : Int));
  ∃ (A123 : Option Addr) (n123 c123 : Nat),
  w_12.cell? ⟨w.heap.size, 2, none⟩ = some (.slice A123 n123 c123) ∧
  let i125 : Int := IntKind.i64.wrap (i121 + (n123 : Int));
  Calls Try.prog 30 #[.pointer p41] w_12.drew fun e_11 w_13 =>
  ∃ (x114 : Int),
  e_11 = .returned (.int .i64 x114) ∧
  (w_13.cell? ⟨w.heap.size, 2, none⟩ = some (.slice A123 n123 c123) ∧ w_13.cell? ⟨w.heap.size, 1, none⟩ = some (.slice A119 n119 c119) ∧ w_13.cell? ⟨w.heap.size, 0, none⟩ = some (.slice A116 n116 c116) ∧ True) ∧
  sel (decide ((x114 : Int) < (i125 : Int))) (
  sel b19 (
  Calls Try.prog 18 #[.slice A49_0 n49_0 c49_0, .slice A65_0 n65_0 c65_0] w_13 fun e_12 w_14 =>
  ∃ (b131 : Bool),
  e_12 = .returned (.bool b131) ∧
  R (.bool b131) w_14) (
  R (.bool false) w_13)) (
  Calls Try.prog 27 #[.slice A49_0 n49_0 c49_0, .pointer p41] w_13 fun e_13 w_15 =>
  ∃ (x136_0 : Int) (A136_1_0 : Option Addr) (n136_1_0 c136_1_0 : Nat) (A136_1_1 : Option Addr) (n136_1_1 c136_1_1 : Nat) (A136_1_2 : Option Addr) (n136_1_2 c136_1_2 : Nat) (A136_1_3 : Option Addr) (n136_1_3 c136_1_3 : Nat) (A136_1_4 : Option Addr) (n136_1_4 c136_1_4 : Nat) (A136_1_5 : Option Addr) (n136_1_5 c136_1_5 : Nat) (x136_2 : Int),
  e_13 = .returned (.tuple #[.int .i64 x136_0, .agg #[.slice A136_1_0 n136_1_0 c136_1_0, .slice A136_1_1 n136_1_1 c136_1_1, .slice A136_1_2 n136_1_2 c136_1_2, .slice A136_1_3 n136_1_3 c136_1_3, .slice A136_1_4 n136_1_4 c136_1_4, .slice A136_1_5 n136_1_5 c136_1_5], .int .i64 x136_2]) ∧
  let w_16 : World := World.alloc w_15 (.cells #[.slice none 0 0, .slice none 0 0, .slice none 0 0, .slice none 0 0, .slice none 0 0, .slice none 0 0] 29);
  canStore w_16 w_15.heap.size 0 6 ∧
  let w_17 : World := setCs w_16 w_15.heap.size 0 [.slice A136_1_0 n136_1_0 c136_1_0, .slice A136_1_1 n136_1_1 c136_1_1, .slice A136_1_2 n136_1_2 c136_1_2, .slice A136_1_3 n136_1_3 c136_1_3, .slice A136_1_4 n136_1_4 c136_1_4, .slice A136_1_5 n136_1_5 c136_1_5];
  sel b19 (
  Calls Try.prog 18 #[.slice A49_0 n49_0 c49_0, .slice A65_0 n65_0 c65_0] w_17 fun e_14 w_18 =>
  ∃ (b144 : Bool),
  e_14 = .returned (.bool b144) ∧
  sel b144 (
  sel ((x136_2 : Int) == (0 : Int)) (
  sel ((x136_0 : Int) == (xa0 : Int)) (
  ∃ (A156_0 : Option Addr) (n156_0 c156_0 : Nat),
  w_18.cell? ⟨w.heap.size, 0, none⟩ = some (.slice A156_0 n156_0 c156_0) ∧
  ∃ (A156_1 : Option Addr) (n156_1 c156_1 : Nat),
  w_18.cell? ⟨w.heap.size, 1, none⟩ = some (.slice A156_1 n156_1 c156_1) ∧
  ∃ (A156_2 : Option Addr) (n156_2 c156_2 : Nat),
  w_18.cell? ⟨w.heap.size, 2, none⟩ = some (.slice A156_2 n156_2 c156_2) ∧
  ∃ (A156_3 : Option Addr) (n156_3 c156_3 : Nat),
  w_18.cell? ⟨w.heap.size, 3, none⟩ = some (.slice A156_3 n156_3 c156_3) ∧
  ∃ (A156_4 : Option Addr) (n156_4 c156_4 : Nat),
  w_18.cell? ⟨w.heap.size, 4, none⟩ = some (.slice A156_4 n156_4 c156_4) ∧
  ∃ (A156_5 : Option Addr) (n156_5 c156_5 : Nat),
  w_18.cell? ⟨w.heap.size, 5, none⟩ = some (.slice A156_5 n156_5 c156_5) ∧
  ∃ (A157_0 : Option Addr) (n157_0 c157_0 : Nat),
  w_18.cell? ⟨w_15.heap.size, 0, none⟩ = some (.slice A157_0 n157_0 c157_0) ∧
  ∃ (A157_1 : Option Addr) (n157_1 c157_1 : Nat),
  w_18.cell? ⟨w_15.heap.size, 1, none⟩ = some (.slice A157_1 n157_1 c157_1) ∧
  ∃ (A157_2 : Option Addr) (n157_2 c157_2 : Nat),
  w_18.cell? ⟨w_15.heap.size, 2, none⟩ = some (.slice A157_2 n157_2 c157_2) ∧
  ∃ (A157_3 : Option Addr) (n157_3 c157_3 : Nat),
  w_18.cell? ⟨w_15.heap.size, 3, none⟩ = some (.slice A157_3 n157_3 c157_3) ∧
  ∃ (A157_4 : Option Addr) (n157_4 c157_4 : Nat),
  w_18.cell? ⟨w_15.heap.size, 4, none⟩ = some (.slice A157_4 n157_4 c157_4) ∧
  ∃ (A157_5 : Option Addr) (n157_5 c157_5 : Nat),
  w_18.cell? ⟨w_15.heap.size, 5, none⟩ = some (.slice A157_5 n157_5 c157_5) ∧
  Calls Try.prog 22 #[.agg #[.slice A156_0 n156_0 c156_0, .slice A156_1 n156_1 c156_1, .slice A156_2 n156_2 c156_2, .slice A156_3 n156_3 c156_3, .slice A156_4 n156_4 c156_4, .slice A156_5 n156_5 c156_5], .agg #[.slice A157_0 n157_0 c157_0, .slice A157_1 n157_1 c157_1, .slice A157_2 n157_2 c157_2, .slice A157_3 n157_3 c157_3, .slice A157_4 n157_4 c157_4, .slice A157_5 n157_5 c157_5]] w_18 fun e_15 w_19 =>
  ∃ (b158 : Bool),
  e_15 = .returned (.bool b158) ∧
  R (.bool b158) w_19) (
  R (.bool false) w_18)) (
  R (.bool false) w_18)) (
  R (.bool false) w_18)) (
  R (.bool false) w_17))))))))))))))))
theorem f7.eq (xa0 : Int) (xa1 : Int) (Aa2_0 : Option Addr) (na2_0 ca2_0 : Nat) (Aa2_1 : Option Addr) (na2_1 ca2_1 : Nat) (Aa2_2 : Option Addr) (na2_2 ca2_2 : Nat) (Aa2_3 : Option Addr) (na2_3 ca2_3 : Nat) (Aa2_4 : Option Addr) (na2_4 ca2_4 : Nat) (Aa2_5 : Option Addr) (na2_5 ca2_5 : Nat) (w : World) (R : Value → World → Prop) : f7.VC xa0 xa1 Aa2_0 na2_0 ca2_0 Aa2_1 na2_1 ca2_1 Aa2_2 na2_2 ca2_2 Aa2_3 na2_3 ca2_3 Aa2_4 na2_4 ca2_4 Aa2_5 na2_5 ca2_5 w R = funV Try.prog Try.f7 f7.AL f7.AC #[.int .i64 xa0, .int .i64 xa1, .agg #[.slice Aa2_0 na2_0 ca2_0, .slice Aa2_1 na2_1 ca2_1, .slice Aa2_2 na2_2 ca2_2, .slice Aa2_3 na2_3 ca2_3, .slice Aa2_4 na2_4 ca2_4, .slice Aa2_5 na2_5 ca2_5]] w R := by kernel_rfl
theorem f7.calls {xa0 : Int} {xa1 : Int} {Aa2_0 : Option Addr} {na2_0 ca2_0 : Nat} {Aa2_1 : Option Addr} {na2_1 ca2_1 : Nat} {Aa2_2 : Option Addr} {na2_2 ca2_2 : Nat} {Aa2_3 : Option Addr} {na2_3 ca2_3 : Nat} {Aa2_4 : Option Addr} {na2_4 ca2_4 : Nat} {Aa2_5 : Option Addr} {na2_5 ca2_5 : Nat} {w : World} {R : Value → World → Prop} (h : f7.VC xa0 xa1 Aa2_0 na2_0 ca2_0 Aa2_1 na2_1 ca2_1 Aa2_2 na2_2 ca2_2 Aa2_3 na2_3 ca2_3 Aa2_4 na2_4 ca2_4 Aa2_5 na2_5 ca2_5 w R) : Calls Try.prog 7 #[.int .i64 xa0, .int .i64 xa1, .agg #[.slice Aa2_0 na2_0 ca2_0, .slice Aa2_1 na2_1 ca2_1, .slice Aa2_2 na2_2 ca2_2, .slice Aa2_3 na2_3 ca2_3, .slice Aa2_4 na2_4 ca2_4, .slice Aa2_5 na2_5 ca2_5]] w fun e w' => ∃ v, e = .returned v ∧ R v w' :=
  funV_sound (fn := Try.f7) (AL := f7.AL) (AC := f7.AC) W26.mixed (by kernel_rfl) (by rw [← f7.eq xa0 xa1 Aa2_0 na2_0 ca2_0 Aa2_1 na2_1 ca2_1 Aa2_2 na2_2 ca2_2 Aa2_3 na2_3 ca2_3 Aa2_4 na2_4 ca2_4 Aa2_5 na2_5 ca2_5]; exact h)

end Go.Proofs.Ytjmlfknogjaemaa
/- Page: the law PageBack, the walk. -/
set_option linter.unusedVariables false
set_option linter.unusedSimpArgs false
set_option linter.unusedSectionVars false
set_option maxRecDepth 10000
namespace Go.Proofs.Ytjmlfknogjaemaa
open Go Go.Proofs.Ytjmlfknogjaemaa.Vc
namespace PG
open Vc.PG NI
/-- A laid page's words are small. -/
theorem LaidW.small {W : List Int} {L : List ByteArray} {v : Int} {g : Gd} {Z : List Pz} (h : LaidW W L v g Z) (hv : validP g = true) (hL : L.length ≤ 1048576) (hver : v ≤ 2147483647) (hu : ∀ r ∈ gM g, ∀ x ∈ r, 0 ≤ x ∧ x < 65536) (i : Nat) : W.getD i 0 ≤ 9223372036854775807 := by
  obtain ⟨⟨p1, p2, p3, p4, p5⟩, _, q1, q2, q3, q4, q5, q6, q7⟩ := valid_parts hv
  have ht := tOf_le hv
  have hzl := h.zl
  rcases Nat.lt_or_ge i 4 with h4 | h4
  · rcases (show i = 0 ∨ i = 1 ∨ i = 2 ∨ i = 3 by omega) with rfl | rfl | rfl | rfl
    · rw [h.h0]; omega
    · rw [h.h1]; omega
    · rw [h.h2]; omega
    · rw [h.h3]; omega
  rcases Nat.lt_or_ge i (4 + 2 * tOf g) with ht4 | ht4
  · have key : ∀ j, j < Z.length → (Z.getD j pz0).1 ≤ 9000000 ∧ (Z.getD j pz0).2 ≤ 9000000 := by
      intro j hj
      by_cases h0 : (Z.getD j pz0).1 = 0
      · rw [h.tab.zero j hj h0]; decide
      · have hm := h.tab.mem j hj h0
        have each : ∀ {k : Int} {l : List ByteArray} {n : List Int} (hk : (k = 3 ∧ l = gA g ∧ n = upTo (gA g).length) ∨ (k = 1 ∧ l = gS g ∧ n = gF g) ∨ (k = 2 ∧ l = gO g ∧ n = gN g)), (∀ i, i < l.length → n.getD i 0 ≤ 64) → Z.getD j pz0 ∈ entP L (ensOf l k n) → (Z.getD j pz0).1 ≤ 9000000 ∧ (Z.getD j pz0).2 ≤ 9000000 := by
          intro k l n hk hn hp
          obtain ⟨e1, e2, e3, e4, e5, e6, e7⟩ := h.ent hv hk
          obtain ⟨q, hq, he⟩ := (ent_mem e1).1 hp
          have h1 := hn q hq
          have h2 := num_le L (l.getD q ByteArray.empty)
          rw [he]
          exact ⟨by dsimp only; omega, by dsimp only; omega⟩
        unfold ens at hm
        rw [ent_app, ent_app] at hm
        rcases List.mem_append.1 hm with hm | hm
        · rcases List.mem_append.1 hm with hm | hm
          · exact each (.inl ⟨rfl, rfl, rfl⟩) (fun i hi => by rw [upTo_get hi]; omega) hm
          · exact each (.inr (.inl ⟨rfl, rfl, rfl⟩)) (fun i hi => by
              have := (great_ge _ _ _ q1).2 _ ((mem_getD 0 _ _).2 ⟨i, by omega, rfl⟩); omega) hm
        · exact each (.inr (.inr ⟨rfl, rfl, rfl⟩)) (fun i hi => by
              have := (great_ge _ _ _ q2).2 _ ((mem_getD 0 _ _).2 ⟨i, by omega, rfl⟩); omega) hm
    rcases (show (∃ j, j < tOf g ∧ i = 4 + 2 * j) ∨ ∃ j, j < tOf g ∧ i = 4 + 2 * j + 1 by
      rcases Nat.mod_two_eq_zero_or_one i with hm | hm
      · exact .inl ⟨(i - 4) / 2, by omega, by omega⟩
      · exact .inr ⟨(i - 4) / 2, by omega, by omega⟩) with ⟨j, hj, rfl⟩ | ⟨j, hj, rfl⟩
    · rw [(h.reads j (by omega)).1]
      have := (key j (by omega)).1; omega
    · rw [(h.reads j (by omega)).2]
      have := (key j (by omega)).2; omega
  · rcases Nat.lt_or_ge i W.length with hi | hi
    · have hlen := h.len
      have hpos : 0 < topOf (gN g) := by
        rcases Nat.eq_zero_or_pos (topOf (gN g)) with h0 | h0
        · rw [h0, Nat.mul_zero] at hlen; omega
        · exact h0
      have hdm := Nat.div_add_mod (i - (4 + 2 * tOf g)) (topOf (gN g))
      have hy := Nat.mod_lt (i - (4 + 2 * tOf g)) hpos
      have hx : (i - (4 + 2 * tOf g)) / topOf (gN g) < topOf (gF g) := Nat.div_lt_of_lt_mul (by rw [Nat.mul_comm (topOf (gN g)) (topOf (gF g))]; omega)
      have hm := h.mask _ hx _ hy
      rw [Nat.mul_comm] at hdm
      rw [show 4 + 2 * tOf g + (i - (4 + 2 * tOf g)) / topOf (gN g) * topOf (gN g) + (i - (4 + 2 * tOf g)) % topOf (gN g) = i by omega] at hm
      rw [hm]
      obtain ⟨r1, r2⟩ := valid_rows hv
      have hr : (gM g).getD ((i - (4 + 2 * tOf g)) / topOf (gN g)) [] ∈ gM g := (mem_getD _ _ _).2 ⟨_, by omega, rfl⟩
      have hl := r2 _ hr
      have := hu _ hr _ ((mem_getD 0 _ _).2 ⟨_, by rw [hl]; exact hy, rfl⟩)
      omega
    · rw [List.getD_eq_getElem?_getD, List.getElem?_eq_none hi]; decide
theorem lay_L {v : Int} {g : Gd} {l : List ByteArray} (h : (layP v g l).2.1 = 0) : (layP v g l).2.2 = all l (names g) := by
  unfold layP at h ⊢
  split at h
  · cases h
  split at h
  · cases h
  split at h
  · cases h
  rename_i hver hv0 hr
  rw [if_neg hver, if_neg hv0, if_neg hr]
  have hv : validP g = true := by cases h : validP g with | true => rfl | false => exact absurd h hv0
  rw [layZ_eq hv (by omega) []]
theorem lawBack {w : World} {v : GV} {g : Gd} (hv : InG w v g) (bv : SmallG v g) (ver nxt : Int) :
    Calls Try.prog 7 #[.int .i64 ver, .int .i64 nxt, v.v] w fun e w' => e = .returned (.bool true) ∧ Fr [] w w' := by
  refine Calls.mono (f7.calls (R := fun v w' => v = .bool true ∧ Fr [] w w') ?_) ?_
  · dsimp only [f7.VC]
    have bv3 : v.a.2.1 ≤ 1100000 ∧ v.s.2.1 ≤ 1100000 ∧ v.o.2.1 ≤ 1100000 := ⟨bv.1.1, bv.1.2.1, bv.1.2.2.1⟩
    have hS0 := (St.start w).alloc v.cells 29
    generalize World.alloc w (.cells v.cells 29) = w1 at *
    generalize w.heap.size = b1 at *
    refine Calls.mono (awake w1) ?_
    rintro _ w2 ⟨rfl, f1⟩
    have hS2 := hS0.go f1
    clear hS0 f1
    refine ⟨_, rfl, ?_⟩
    refine ⟨_, _, _, (hS2.blk 0 rfl).cell rfl, _, _, _, (hS2.blk 0 rfl).cell rfl, _, _, _, (hS2.blk 0 rfl).cell rfl, _, _, _, (hS2.blk 0 rfl).cell rfl, _, _, _, (hS2.blk 0 rfl).cell rfl, _, _, _, (hS2.blk 0 rfl).cell rfl, ?_⟩
    refine Calls.mono (hS2.step0 (validR (hv.fr hS2.frame) bv3)) ?_
    clear hS2
    rintro _ w3 ⟨rfl, hS3⟩
    refine ⟨_, rfl, sel_of (fun _ => ⟨rfl, hS3.frame⟩) (fun hval => ?_)⟩
    have hval : validP g = true := by simpa using hval
    refine sel_of (fun _ => ⟨rfl, hS3.frame⟩) (fun c1 => sel_of (fun _ => ⟨rfl, hS3.frame⟩) (fun c2 => sel_of (fun _ => ⟨rfl, hS3.frame⟩) (fun c3 => sel_of (fun _ => ⟨rfl, hS3.frame⟩) (fun c4 => ?_))))
    have c1 := of_decide_eq_false c1
    have c2 := of_decide_eq_false c2
    have c3 := of_decide_eq_false c3
    have c4 := of_decide_eq_false c4
    refine Calls.mono (NI.new hS3) ?_
    clear hS3
    rintro _ w4 ⟨x, rfl, hS⟩
    refine ⟨_, rfl, sel_of (fun h => by cases h) (fun _ => ?_)⟩
    refine ⟨_, _, _, (hS.blk 1 rfl).cell rfl, _, _, _, (hS.blk 1 rfl).cell rfl, _, _, _, (hS.blk 1 rfl).cell rfl, _, _, _, (hS.blk 1 rfl).cell rfl, _, _, _, (hS.blk 1 rfl).cell rfl, _, _, _, (hS.blk 1 rfl).cell rfl, ?_⟩
    refine Calls.mono (twinC hS (hv.fr hS.frame) bv) ?_
    clear hS
    rintro _ w5 ⟨t, rfl, hS⟩
    refine ⟨_, _, _, _, _, _, _, _, _, _, _, _, _, _, _, _, _, _, rfl, ?_⟩
    have bt : SmallG t g := bv.of hv (hS.says 0 rfl)
    have hlay := layCs hS 1 0 (by decide) rfl rfl (v := t) (g := g) (fun w h => h) (by decide) ⟨bt.1.1, bt.1.2.1, bt.1.2.2.1⟩ ver
    have hok := lay_ok (v := ver) (l := []) hval (by omega) (by omega) (by decide)
    have hL := lay_le ver g (l := []) (by decide)
    have hp := lay_small ver g []
    obtain ⟨_, _, _, Z, hZ⟩ := laidW_of hok
    have hag := lay_again ver g (l := []) (l2 := (layP ver g []).2.2) ⟨[], by simp⟩ hL
    have hall := lay_L hok
    have hokA := hok
    generalize layP ver g [] = P at *
    obtain ⟨W, e, L⟩ := P
    dsimp only at *
    subst hokA
    have hvr := lay_ver (v := ver) (u := nxt) (g := g) (l := L) (by rw [hag]) ⟨by omega, by omega⟩
    rw [hag] at hvr
    dsimp only at hvr
    refine Calls.mono hlay ?_
    clear hS hlay
    rintro _ w6 ⟨A1, n1, c1', rfl, hS⟩
    refine ⟨_, _, _, _, rfl, ?_⟩
    have hS : St [] w w6 [ints (.slice A1 n1 c1') W, gC t g, idxC x L, Chunk.blk b1 v.cells 29] := hS
    refine ⟨_, _, _, (hS.blk 3 rfl).cell rfl, _, _, _, (hS.blk 3 rfl).cell rfl, _, _, _, (hS.blk 3 rfl).cell rfl, _, _, _, (hS.blk 3 rfl).cell rfl, _, _, _, (hS.blk 3 rfl).cell rfl, _, _, _, (hS.blk 3 rfl).cell rfl, ?_⟩
    refine Calls.mono (twinC hS (hv.fr hS.frame) bv) ?_
    clear hS
    rintro _ w7 ⟨t2, rfl, hS⟩
    refine ⟨_, _, _, _, _, _, _, _, _, _, _, _, _, _, _, _, _, _, rfl, ?_⟩
    have bt : SmallG t2 g := bv.of hv (hS.says 0 rfl)
    have hlay := layCs hS 3 0 (by decide) rfl rfl (v := t2) (g := g) (fun w h => h) hL ⟨bt.1.1, bt.1.2.1, bt.1.2.2.1⟩ ver
    rw [hag] at hlay
    refine Calls.mono hlay ?_
    clear hS hlay
    rintro _ w8 ⟨A2, n2, c2', rfl, hS⟩
    refine ⟨_, _, _, _, rfl, ?_⟩
    have hS : St [] w w8 [ints (.slice A2 n2 c2') W, gC t2 g, ints (.slice A1 n1 c1') W, gC t g, idxC x L, Chunk.blk b1 v.cells 29] := hS
    refine ⟨_, _, _, (hS.blk 5 rfl).cell rfl, _, _, _, (hS.blk 5 rfl).cell rfl, _, _, _, (hS.blk 5 rfl).cell rfl, _, _, _, (hS.blk 5 rfl).cell rfl, _, _, _, (hS.blk 5 rfl).cell rfl, _, _, _, (hS.blk 5 rfl).cell rfl, ?_⟩
    refine Calls.mono (twinC hS (hv.fr hS.frame) bv) ?_
    clear hS
    rintro _ w9 ⟨t3, rfl, hS⟩
    refine ⟨_, _, _, _, _, _, _, _, _, _, _, _, _, _, _, _, _, _, rfl, ?_⟩
    have bt : SmallG t3 g := bv.of hv (hS.says 0 rfl)
    have hlay := layCs hS 5 0 (by decide) rfl rfl (v := t3) (g := g) (fun w h => h) hL ⟨bt.1.1, bt.1.2.1, bt.1.2.2.1⟩ nxt
    rw [hvr] at hlay
    refine Calls.mono hlay ?_
    clear hS hlay
    rintro _ w10 ⟨A3, n3, c3', rfl, hS⟩
    refine ⟨_, _, _, _, rfl, ?_⟩
    have hS : St [] w w10 [ints (.slice A3 n3 c3') (W.set 0 nxt), gC t3 g, ints (.slice A2 n2 c2') W, gC t2 g, ints (.slice A1 n1 c1') W, gC t g, idxC x L, Chunk.blk b1 v.cells 29] := hS
    refine sel_of (fun h => by simp at h) (fun _ => sel_of (fun h => by simp at h) (fun _ => sel_of (fun h => by simp at h) (fun _ => ?_)))
    have hlen := hZ.len
    have hn1 : n1 = W.length := hS.lsLen 4 rfl
    have hn3 : n3 = W.length := by have := hS.lsLen 0 rfl; rw [List.length_set] at this; exact this
    have hW4 : 4 ≤ W.length := by rw [hlen]; omega
    refine Calls.mono (sameInts hS 4 2 (x := (A1, n1, c1')) (y := (A2, n2, c2')) rfl rfl (by omega)) ?_
    clear hS
    rintro _ w11 ⟨rfl, hS⟩
    refine ⟨_, rfl, sel_of (fun h => by cases h) (fun _ => sel_of (fun h => by simp at h; omega) (fun _ => sel_of (fun h => by have := of_decide_eq_true h; omega) (fun _ => ?_)))⟩
    obtain ⟨b, q, hA1, hc1⟩ := (St.inI hS 4 rfl).2 (by omega)
    refine ⟨by decide, by omega, needPtr_of hA1 ⟨_, hc1 0 (by omega), sel_of (fun h => by rw [hZ.h0] at h; simp at h) (fun _ => ?_)⟩⟩
    obtain ⟨b3, q3, hA3, hc3⟩ := (St.inI hS 0 rfl).2 (by omega)
    have hg0 : (W.set 0 nxt).getD 0 0 = nxt := by
      cases W with
      | nil => simp at hW4
      | cons a W => rfl
    refine ⟨by decide, by omega, needPtr_of hA3 ⟨_, hc3 0 (by omega), sel_of (fun h => by rw [hg0] at h; simp at h) (fun _ => ?_)⟩⟩
    obtain ⟨b4, hA4, hcan, hS⟩ := hS.lsSet 0 rfl (k := 0) (by rw [List.length_set]; omega) ver
    have hback : (W.set 0 nxt).set 0 ver = W := by
      have := hZ.h0
      cases W with
      | nil => rfl
      | cons a W =>
        have ha : a = ver := this
        rw [ha]; rfl
    rw [hback] at hS
    have hS : St [] w _ [ints (.slice A3 n3 c3') W, gC t3 g, ints (.slice A2 n2 c2') W, gC t2 g, ints (.slice A1 n1 c1') W, gC t g, idxC x L, Chunk.blk b1 v.cells 29] := hS
    refine ⟨by decide, by omega, needPtr_of hA4 ⟨hcan, ?_⟩⟩
    have hS := hS
    generalize setCs w11 b4 _ [encN ver] = w12 at *
    refine ⟨_, _, _, (hS.blk 7 rfl).cell rfl, _, _, _, (hS.blk 7 rfl).cell rfl, _, _, _, (hS.blk 7 rfl).cell rfl, ?_⟩
    have hnl := names_len g
    have ha := hv.a.1.1
    have hs := hv.s.1.1
    have ho := hv.o.1.1
    have hvp := valid_parts hval
    have ek : IntKind.i64.wrap (IntKind.i64.wrap ((v.a.2.1 : Int) + (v.s.2.1 : Int)) + (v.o.2.1 : Int)) = ((names g).length : Int) := by
      rw [i64_id (x := (v.a.2.1 : Int) + (v.s.2.1 : Int)) (by omega) (by omega), i64_id (by omega) (by omega)]; omega
    rw [ek]
    have hS := hS.drew
    refine Calls.mono (lenE (idxAt hS 6 rfl)) ?_
    rintro _ w13 ⟨rfl, rfl⟩
    refine ⟨_, rfl, ?_⟩
    refine ⟨⟨(hS.blk 7 rfl).cell rfl, (hS.blk 7 rfl).cell rfl, (hS.blk 7 rfl).cell rfl, trivial⟩, sel_of (fun _ => sel_of (fun _ => ?_) (fun h => by cases h)) (fun hlen2 => ?_)⟩
    · refine Calls.mono (sameInts hS 4 0 (x := (A1, n1, c1')) (y := (A3, n3, c3')) rfl rfl (by omega)) ?_
      clear hS
      rintro _ w14 ⟨rfl, hS⟩
      exact ⟨_, rfl, rfl, hS.frame⟩
    have hlen2 := of_decide_eq_false hlen2
    obtain ⟨hnd, hown⟩ := all_own (names g) [] (by simp) (by rw [← hall, List.length_nil]; omega)
    rw [List.nil_append] at hnd hown
    have hLn : L = names g := hall.trans hown
    have hrd := (hZ.read hval hL (by rw [hLn]; exact hnd) hv.u ⟨by omega, by omega⟩).1
    have hgr : graphP W (tOf g) L = g := by
      have hZ' := hZ
      rw [hLn] at hZ' ⊢
      exact hZ'.own hval hnd
    rw [hgr] at hrd
    have hr := readC (c := c1') (St.inI hS 4 rfl) (idxAt hS 6 rfl) hL (by omega) (fun i => hZ.small hval hL (by omega) hv.u i)
    rw [hrd] at hr
    refine Calls.mono hr ?_
    rintro _ w15 ⟨_, rfl, u, rfl, hG⟩
    have hS := hS.gone hG
    have hS : St [] w w15 [gC u g, ints (.slice A3 n3 c3') W, gC t3 g, ints (.slice A2 n2 c2') W, gC t2 g, ints (.slice A1 n1 c1') W, gC t g, idxC x L, Chunk.blk b1 v.cells 29] := hS
    have hSa := hS.alloc #[.slice none 0 0, .slice none 0 0, .slice none 0 0, .slice none 0 0, .slice none 0 0, .slice none 0 0] 29
    have hSb := hSa.over 0 rfl [u.a.v, u.s.v, u.o.v, u.f.v, u.n.v, u.m.v] rfl
    refine ⟨_, _, _, _, _, _, _, _, _, _, _, _, _, _, _, _, _, _, _, _, rfl, (hSa.blk 0 rfl).can (by decide), sel_of (fun _ => ?_) (fun h => by cases h)⟩
    clear hSa hG
    generalize setCs (World.alloc w15 (.cells #[.slice none 0 0, .slice none 0 0, .slice none 0 0, .slice none 0 0, .slice none 0 0, .slice none 0 0] 29)) w15.heap.size 0 [u.a.v, u.s.v, u.o.v, u.f.v, u.n.v, u.m.v] = w17 at *
    generalize w15.heap.size = b17 at *
    have hS : St [] w w17 [Chunk.blk b17 u.cells 29, gC u g, ints (.slice A3 n3 c3') W, gC t3 g, ints (.slice A2 n2 c2') W, gC t2 g, ints (.slice A1 n1 c1') W, gC t g, idxC x L, Chunk.blk b1 v.cells 29] := hSb
    clear hSb
    refine Calls.mono (sameInts hS 6 2 (x := (A1, n1, c1')) (y := (A3, n3, c3')) rfl rfl (by omega)) ?_
    clear hS
    rintro _ w18 ⟨rfl, hS⟩
    refine ⟨_, rfl, sel_of (fun _ => sel_of (fun _ => sel_of (fun _ => ?_) (fun h => by simp at h)) (fun h => by simp at h)) (fun h => by cases h)⟩

    refine ⟨_, _, _, (hS.blk 9 rfl).cell rfl, _, _, _, (hS.blk 9 rfl).cell rfl, _, _, _, (hS.blk 9 rfl).cell rfl, _, _, _, (hS.blk 9 rfl).cell rfl, _, _, _, (hS.blk 9 rfl).cell rfl, _, _, _, (hS.blk 9 rfl).cell rfl, ?_⟩
    refine ⟨_, _, _, (hS.blk 0 rfl).cell rfl, _, _, _, (hS.blk 0 rfl).cell rfl, _, _, _, (hS.blk 0 rfl).cell rfl, _, _, _, (hS.blk 0 rfl).cell rfl, _, _, _, (hS.blk 0 rfl).cell rfl, _, _, _, (hS.blk 0 rfl).cell rfl, ?_⟩
    refine Calls.mono (hS.step0 (sameOne (hv.fr hS.frame) (hS.says 1 rfl) bv)) ?_
    clear hS
    rintro _ w19 ⟨rfl, hS⟩
    exact ⟨_, rfl, rfl, hS.frame⟩
  · rintro e w' ⟨v, rfl, rfl, h⟩; exact ⟨rfl, h⟩
end PG
end Go.Proofs.Ytjmlfknogjaemaa
