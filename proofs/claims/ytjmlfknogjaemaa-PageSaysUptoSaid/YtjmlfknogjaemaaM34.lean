/- The plain statements of some functions, printed by vcgen.py. -/
import Derived.Test.YtjmlfknogjaemaaM4
import Derived.Test.YtjmlfknogjaemaaProg
import Derived.KernelRfl
set_option maxRecDepth 100000
set_option linter.unusedVariables false
namespace Go.Proofs.Ytjmlfknogjaemaa
open Go Go.Proofs.Ytjmlfknogjaemaa.Vc
theorem W27.mixed : Try.prog.follows .mixedOrders = true := by kernel_rfl
/-- gatehouse/gatehouselaw12.PageSays -/
def f9.AL : Nat → Option Ann := fun r => match r with | 15 => some ⟨[(11, .bool), (20, .int .i64)], [3, 4, 6, 13, 15, 18]⟩ | _ => none
def f9.AC : Nat → Option Ann := fun r => match r with | 19 => some ⟨[(22, .blk)], [3, 4, 6, 13, 15, 18, 20]⟩ | 1000018 => some ⟨[], []⟩ | _ => none
def f9.VC (xa0 : Int) (Aa1_0 : Option Addr) (na1_0 ca1_0 : Nat) (Aa1_1 : Option Addr) (na1_1 ca1_1 : Nat) (Aa1_2 : Option Addr) (na1_2 ca1_2 : Nat) (Aa1_3 : Option Addr) (na1_3 ca1_3 : Nat) (Aa1_4 : Option Addr) (na1_4 ca1_4 : Nat) (Aa1_5 : Option Addr) (na1_5 ca1_5 : Nat) (Aa2 : Option Addr) (na2 ca2 : Nat) (Aa3 : Option Addr) (na3 ca3 : Nat) (sa4 : ByteArray) (w : World) (R : Value → World → Prop) : Prop :=
  let w_1 : World := World.alloc w (.cells #[.slice Aa1_0 na1_0 ca1_0, .slice Aa1_1 na1_1 ca1_1, .slice Aa1_2 na1_2 ca1_2, .slice Aa1_3 na1_3 ca1_3, .slice Aa1_4 na1_4 ca1_4, .slice Aa1_5 na1_5 ca1_5] 29);
  Calls Try.prog 10 #[] w_1 fun e_1 w_2 =>
  ∃ (b28 : Bool),
  e_1 = .returned (.bool b28) ∧
  ∃ (A29_0 : Option Addr) (n29_0 c29_0 : Nat),
  w_2.cell? ⟨w.heap.size, 0, none⟩ = some (.slice A29_0 n29_0 c29_0) ∧
  ∃ (A29_1 : Option Addr) (n29_1 c29_1 : Nat),
  w_2.cell? ⟨w.heap.size, 1, none⟩ = some (.slice A29_1 n29_1 c29_1) ∧
  ∃ (A29_2 : Option Addr) (n29_2 c29_2 : Nat),
  w_2.cell? ⟨w.heap.size, 2, none⟩ = some (.slice A29_2 n29_2 c29_2) ∧
  ∃ (A29_3 : Option Addr) (n29_3 c29_3 : Nat),
  w_2.cell? ⟨w.heap.size, 3, none⟩ = some (.slice A29_3 n29_3 c29_3) ∧
  ∃ (A29_4 : Option Addr) (n29_4 c29_4 : Nat),
  w_2.cell? ⟨w.heap.size, 4, none⟩ = some (.slice A29_4 n29_4 c29_4) ∧
  ∃ (A29_5 : Option Addr) (n29_5 c29_5 : Nat),
  w_2.cell? ⟨w.heap.size, 5, none⟩ = some (.slice A29_5 n29_5 c29_5) ∧
  Calls Try.prog 28 #[.agg #[.slice A29_0 n29_0 c29_0, .slice A29_1 n29_1 c29_1, .slice A29_2 n29_2 c29_2, .slice A29_3 n29_3 c29_3, .slice A29_4 n29_4 c29_4, .slice A29_5 n29_5 c29_5]] w_2 fun e_2 w_3 =>
  ∃ (b30 : Bool),
  e_2 = .returned (.bool b30) ∧
  sel (!b30) (
  R (.bool b28) w_3) (
  sel (decide ((xa0 : Int) < (1 : Int))) (
  R (.bool b28) w_3) (
  sel (decide ((2147483647 : Int) < (xa0 : Int))) (
  R (.bool b28) w_3) (
  sel (decide ((1000000 : Int) < ((na2 : Int) : Int))) (
  R (.bool b28) w_3) (
  Calls Try.prog 13 #[.slice Aa2 na2 ca2] w_3 fun e_3 w_4 =>
  ∃ (p49_0 : Option Addr) (p49_1 : Option Addr),
  e_3 = .returned (.tuple #[.pointer p49_0, .pointer p49_1]) ∧
  sel (Option.isNone p49_0) (
  R (.bool false) w_4) (
  ∃ (A56_0 : Option Addr) (n56_0 c56_0 : Nat),
  w_4.cell? ⟨w.heap.size, 0, none⟩ = some (.slice A56_0 n56_0 c56_0) ∧
  ∃ (A56_1 : Option Addr) (n56_1 c56_1 : Nat),
  w_4.cell? ⟨w.heap.size, 1, none⟩ = some (.slice A56_1 n56_1 c56_1) ∧
  ∃ (A56_2 : Option Addr) (n56_2 c56_2 : Nat),
  w_4.cell? ⟨w.heap.size, 2, none⟩ = some (.slice A56_2 n56_2 c56_2) ∧
  ∃ (A56_3 : Option Addr) (n56_3 c56_3 : Nat),
  w_4.cell? ⟨w.heap.size, 3, none⟩ = some (.slice A56_3 n56_3 c56_3) ∧
  ∃ (A56_4 : Option Addr) (n56_4 c56_4 : Nat),
  w_4.cell? ⟨w.heap.size, 4, none⟩ = some (.slice A56_4 n56_4 c56_4) ∧
  ∃ (A56_5 : Option Addr) (n56_5 c56_5 : Nat),
  w_4.cell? ⟨w.heap.size, 5, none⟩ = some (.slice A56_5 n56_5 c56_5) ∧
  Calls Try.prog 15 #[.agg #[.slice A56_0 n56_0 c56_0, .slice A56_1 n56_1 c56_1, .slice A56_2 n56_2 c56_2, .slice A56_3 n56_3 c56_3, .slice A56_4 n56_4 c56_4, .slice A56_5 n56_5 c56_5]] w_4 fun e_4 w_5 =>
  ∃ (A57_0 : Option Addr) (n57_0 c57_0 : Nat) (A57_1 : Option Addr) (n57_1 c57_1 : Nat) (A57_2 : Option Addr) (n57_2 c57_2 : Nat) (A57_3 : Option Addr) (n57_3 c57_3 : Nat) (A57_4 : Option Addr) (n57_4 c57_4 : Nat) (A57_5 : Option Addr) (n57_5 c57_5 : Nat),
  e_4 = .returned (.agg #[.slice A57_0 n57_0 c57_0, .slice A57_1 n57_1 c57_1, .slice A57_2 n57_2 c57_2, .slice A57_3 n57_3 c57_3, .slice A57_4 n57_4 c57_4, .slice A57_5 n57_5 c57_5]) ∧
  Calls Try.prog 17 #[.int .i64 xa0, .agg #[.slice A57_0 n57_0 c57_0, .slice A57_1 n57_1 c57_1, .slice A57_2 n57_2 c57_2, .slice A57_3 n57_3 c57_3, .slice A57_4 n57_4 c57_4, .slice A57_5 n57_5 c57_5], .pointer p49_0] w_5 fun e_5 w_6 =>
  ∃ (A59_0 : Option Addr) (n59_0 c59_0 : Nat) (x59_1 : Int),
  e_5 = .returned (.tuple #[.slice A59_0 n59_0 c59_0, .int .i64 x59_1]) ∧
  sel ((x59_1 : Int) != (0 : Int)) (
  R (.bool false) w_6) (
  sel (decide (((n59_0 : Int) : Int) < (4 : Int))) (
  R (.bool false) w_6) (
  ∃ (A72_0 : Option Addr) (n72_0 c72_0 : Nat),
  w_6.cell? ⟨w.heap.size, 0, none⟩ = some (.slice A72_0 n72_0 c72_0) ∧
  ∃ (A72_1 : Option Addr) (n72_1 c72_1 : Nat),
  w_6.cell? ⟨w.heap.size, 1, none⟩ = some (.slice A72_1 n72_1 c72_1) ∧
  ∃ (A72_2 : Option Addr) (n72_2 c72_2 : Nat),
  w_6.cell? ⟨w.heap.size, 2, none⟩ = some (.slice A72_2 n72_2 c72_2) ∧
  ∃ (A72_3 : Option Addr) (n72_3 c72_3 : Nat),
  w_6.cell? ⟨w.heap.size, 3, none⟩ = some (.slice A72_3 n72_3 c72_3) ∧
  ∃ (A72_4 : Option Addr) (n72_4 c72_4 : Nat),
  w_6.cell? ⟨w.heap.size, 4, none⟩ = some (.slice A72_4 n72_4 c72_4) ∧
  ∃ (A72_5 : Option Addr) (n72_5 c72_5 : Nat),
  w_6.cell? ⟨w.heap.size, 5, none⟩ = some (.slice A72_5 n72_5 c72_5) ∧
  Calls Try.prog 15 #[.agg #[.slice A72_0 n72_0 c72_0, .slice A72_1 n72_1 c72_1, .slice A72_2 n72_2 c72_2, .slice A72_3 n72_3 c72_3, .slice A72_4 n72_4 c72_4, .slice A72_5 n72_5 c72_5]] w_6 fun e_6 w_7 =>
  ∃ (A73_0 : Option Addr) (n73_0 c73_0 : Nat) (A73_1 : Option Addr) (n73_1 c73_1 : Nat) (A73_2 : Option Addr) (n73_2 c73_2 : Nat) (A73_3 : Option Addr) (n73_3 c73_3 : Nat) (A73_4 : Option Addr) (n73_4 c73_4 : Nat) (A73_5 : Option Addr) (n73_5 c73_5 : Nat),
  e_6 = .returned (.agg #[.slice A73_0 n73_0 c73_0, .slice A73_1 n73_1 c73_1, .slice A73_2 n73_2 c73_2, .slice A73_3 n73_3 c73_3, .slice A73_4 n73_4 c73_4, .slice A73_5 n73_5 c73_5]) ∧
  Calls Try.prog 20 #[.agg #[.slice A73_0 n73_0 c73_0, .slice A73_1 n73_1 c73_1, .slice A73_2 n73_2 c73_2, .slice A73_3 n73_3 c73_3, .slice A73_4 n73_4 c73_4, .slice A73_5 n73_5 c73_5]] w_7 fun e_7 w_8 =>
  ∃ (x74 : Int),
  e_7 = .returned (.int .i64 x74) ∧
  sel (((n59_0 : Int) : Int) != (x74 : Int)) (
  R (.bool false) w_8) (
  Calls Try.prog 24 #[.slice A59_0 n59_0 c59_0, .int .i64 0] w_8 fun e_8 w_9 =>
  ∃ (A79 : Option Addr) (n79 c79 : Nat),
  e_8 = .returned (.slice A79 n79 c79) ∧
  Calls Try.prog 27 #[.slice A79 n79 c79, .pointer p49_0] w_9 fun e_9 w_10 =>
  ∃ (x81_0 : Int) (A81_1_0 : Option Addr) (n81_1_0 c81_1_0 : Nat) (A81_1_1 : Option Addr) (n81_1_1 c81_1_1 : Nat) (A81_1_2 : Option Addr) (n81_1_2 c81_1_2 : Nat) (A81_1_3 : Option Addr) (n81_1_3 c81_1_3 : Nat) (A81_1_4 : Option Addr) (n81_1_4 c81_1_4 : Nat) (A81_1_5 : Option Addr) (n81_1_5 c81_1_5 : Nat) (x81_2 : Int),
  e_9 = .returned (.tuple #[.int .i64 x81_0, .agg #[.slice A81_1_0 n81_1_0 c81_1_0, .slice A81_1_1 n81_1_1 c81_1_1, .slice A81_1_2 n81_1_2 c81_1_2, .slice A81_1_3 n81_1_3 c81_1_3, .slice A81_1_4 n81_1_4 c81_1_4, .slice A81_1_5 n81_1_5 c81_1_5], .int .i64 x81_2]) ∧
  let w_11 : World := World.alloc w_10 (.cells #[.slice none 0 0, .slice none 0 0, .slice none 0 0, .slice none 0 0, .slice none 0 0, .slice none 0 0] 29);
  canStore w_11 w_10.heap.size 0 6 ∧
  let w_12 : World := setCs w_11 w_10.heap.size 0 [.slice A81_1_0 n81_1_0 c81_1_0, .slice A81_1_1 n81_1_1 c81_1_1, .slice A81_1_2 n81_1_2 c81_1_2, .slice A81_1_3 n81_1_3 c81_1_3, .slice A81_1_4 n81_1_4 c81_1_4, .slice A81_1_5 n81_1_5 c81_1_5];
  sel ((x81_2 : Int) != (0 : Int)) (
  R (.bool false) w_12) (
  sel ((x81_0 : Int) != (xa0 : Int)) (
  R (.bool false) w_12) (
  ∃ (A93_0 : Option Addr) (n93_0 c93_0 : Nat),
  w_12.cell? ⟨w_10.heap.size, 0, none⟩ = some (.slice A93_0 n93_0 c93_0) ∧
  ∃ (A93_1 : Option Addr) (n93_1 c93_1 : Nat),
  w_12.cell? ⟨w_10.heap.size, 1, none⟩ = some (.slice A93_1 n93_1 c93_1) ∧
  ∃ (A93_2 : Option Addr) (n93_2 c93_2 : Nat),
  w_12.cell? ⟨w_10.heap.size, 2, none⟩ = some (.slice A93_2 n93_2 c93_2) ∧
  ∃ (A93_3 : Option Addr) (n93_3 c93_3 : Nat),
  w_12.cell? ⟨w_10.heap.size, 3, none⟩ = some (.slice A93_3 n93_3 c93_3) ∧
  ∃ (A93_4 : Option Addr) (n93_4 c93_4 : Nat),
  w_12.cell? ⟨w_10.heap.size, 4, none⟩ = some (.slice A93_4 n93_4 c93_4) ∧
  ∃ (A93_5 : Option Addr) (n93_5 c93_5 : Nat),
  w_12.cell? ⟨w_10.heap.size, 5, none⟩ = some (.slice A93_5 n93_5 c93_5) ∧
  Calls Try.prog 15 #[.agg #[.slice A93_0 n93_0 c93_0, .slice A93_1 n93_1 c93_1, .slice A93_2 n93_2 c93_2, .slice A93_3 n93_3 c93_3, .slice A93_4 n93_4 c93_4, .slice A93_5 n93_5 c93_5]] w_12 fun e_10 w_13 =>
  ∃ (A94_0 : Option Addr) (n94_0 c94_0 : Nat) (A94_1 : Option Addr) (n94_1 c94_1 : Nat) (A94_2 : Option Addr) (n94_2 c94_2 : Nat) (A94_3 : Option Addr) (n94_3 c94_3 : Nat) (A94_4 : Option Addr) (n94_4 c94_4 : Nat) (A94_5 : Option Addr) (n94_5 c94_5 : Nat),
  e_10 = .returned (.agg #[.slice A94_0 n94_0 c94_0, .slice A94_1 n94_1 c94_1, .slice A94_2 n94_2 c94_2, .slice A94_3 n94_3 c94_3, .slice A94_4 n94_4 c94_4, .slice A94_5 n94_5 c94_5]) ∧
  Calls Try.prog 34 #[.agg #[.slice A94_0 n94_0 c94_0, .slice A94_1 n94_1 c94_1, .slice A94_2 n94_2 c94_2, .slice A94_3 n94_3 c94_3, .slice A94_4 n94_4 c94_4, .slice A94_5 n94_5 c94_5]] w_13 fun e_11 w_14 =>
  ∃ (b95 : Bool),
  e_11 = .returned (.bool b95) ∧
  sel (!b95) (
  R (.bool false) w_14) (
  ∃ I : Bool → Int → World → Nat → Prop,
  (∃ n, I b28 0 w_14 n) ∧
  ∀ d : Env, ∀ (b11 : Bool) (x20 : Int) (w_15 : World) (r : Nat), I b11 x20 w_15 r →
  sel (decide ((x20 : Int) < ((na3 : Int) : Int))) (
  sel b11 (
  (0 : Int) ≤ x20 ∧ x20 < (na3 : Int) ∧
  needPtr Aa3 fun b109 o109 =>
  ∃ (x110_0 : Int),
  w_15.cell? ⟨b109, o109 + x20.toNat * 3, none⟩ = some (.int .i64 x110_0) ∧
  ∃ (x110_1 : Int),
  w_15.cell? ⟨b109, o109 + x20.toNat * 3 + 1, none⟩ = some (.int .i64 x110_1) ∧
  ∃ (x110_2 : Int),
  w_15.cell? ⟨b109, o109 + x20.toNat * 3 + 1 + 1, none⟩ = some (.int .i64 x110_2) ∧
  let w_16 : World := World.alloc w_15 (.cells #[.int .i64 0, .int .i64 0, .int .i64 0] 70);
  canStore w_16 w_15.heap.size 0 3 ∧
  let w_17 : World := setCs w_16 w_15.heap.size 0 [.int .i64 x110_0, .int .i64 x110_1, .int .i64 x110_2];
  ∃ M : Nat → Nat → World → Prop,
  ((0 : Int) ≤ 0 ∧ 0 < (3 : Int) ∧
  (0 : Int) ≤ 1 ∧ 1 < (3 : Int) ∧
  (0 : Int) ≤ 2 ∧ 2 < (3 : Int) ∧
  ∃ (A112 : Option Addr) (n112 c112 : Nat),
  w_17.cell? ⟨w.heap.size, 1, none⟩ = some (.slice A112 n112 c112) ∧
  ∃ (x114 : Int),
  w_17.cell? ⟨w_15.heap.size, 0, none⟩ = some (.int .i64 x114) ∧
  ∃ (A118 : Option Addr) (n118 c118 : Nat),
  w_17.cell? ⟨w.heap.size, 2, none⟩ = some (.slice A118 n118 c118) ∧
  ∃ (x120 : Int),
  w_17.cell? ⟨w_15.heap.size, 1, none⟩ = some (.int .i64 x120) ∧
  ∃ (A124 : Option Addr) (n124 c124 : Nat),
  w_17.cell? ⟨w.heap.size, 0, none⟩ = some (.slice A124 n124 c124) ∧
  ∃ (x126 : Int),
  w_17.cell? ⟨w_15.heap.size, 2, none⟩ = some (.int .i64 x126) ∧
  (Calls Try.prog 35 #[.slice A112 n112 c112, .int .i64 x114, .string sa4] w_17.drew fun e_12 w_18 =>
  ∃ (s116 : ByteArray),
  e_12 = .returned (.string s116) ∧
  (w_18.cell? ⟨w_15.heap.size, 2, none⟩ = some (.int .i64 x126) ∧ w_18.cell? ⟨w.heap.size, 0, none⟩ = some (.slice A124 n124 c124) ∧ w_18.cell? ⟨w_15.heap.size, 1, none⟩ = some (.int .i64 x120) ∧ w_18.cell? ⟨w.heap.size, 2, none⟩ = some (.slice A118 n118 c118) ∧ w_18.cell? ⟨w_15.heap.size, 0, none⟩ = some (.int .i64 x114) ∧ w_18.cell? ⟨w.heap.size, 1, none⟩ = some (.slice A112 n112 c112) ∧ True) ∧
  (Calls Try.prog 35 #[.slice A118 n118 c118, .int .i64 x120, .string sa4] w_18 fun e_13 w_19 =>
  ∃ (s122 : ByteArray),
  e_13 = .returned (.string s122) ∧
  (w_19.cell? ⟨w_15.heap.size, 2, none⟩ = some (.int .i64 x126) ∧ w_19.cell? ⟨w.heap.size, 0, none⟩ = some (.slice A124 n124 c124) ∧ w_19.cell? ⟨w_15.heap.size, 1, none⟩ = some (.int .i64 x120) ∧ w_19.cell? ⟨w.heap.size, 2, none⟩ = some (.slice A118 n118 c118) ∧ w_19.cell? ⟨w_15.heap.size, 0, none⟩ = some (.int .i64 x114) ∧ w_19.cell? ⟨w.heap.size, 1, none⟩ = some (.slice A112 n112 c112) ∧ True) ∧
  (Calls Try.prog 35 #[.slice A124 n124 c124, .int .i64 x126, .string sa4] w_19 fun e_14 w_20 =>
  ∃ (s128 : ByteArray),
  e_14 = .returned (.string s128) ∧
  (w_20.cell? ⟨w_15.heap.size, 2, none⟩ = some (.int .i64 x126) ∧ w_20.cell? ⟨w.heap.size, 0, none⟩ = some (.slice A124 n124 c124) ∧ w_20.cell? ⟨w_15.heap.size, 1, none⟩ = some (.int .i64 x120) ∧ w_20.cell? ⟨w.heap.size, 2, none⟩ = some (.slice A118 n118 c118) ∧ w_20.cell? ⟨w_15.heap.size, 0, none⟩ = some (.int .i64 x114) ∧ w_20.cell? ⟨w.heap.size, 1, none⟩ = some (.slice A112 n112 c112) ∧ True) ∧
  let w_21 : World := World.alloc w_20 (.cells #[.string ⟨#[]⟩, .string ⟨#[]⟩, .string ⟨#[]⟩] 73);
  (w_21.cell? ⟨w_15.heap.size, 2, none⟩ = some (.int .i64 x126) ∧ w_21.cell? ⟨w.heap.size, 0, none⟩ = some (.slice A124 n124 c124) ∧ w_21.cell? ⟨w_15.heap.size, 1, none⟩ = some (.int .i64 x120) ∧ w_21.cell? ⟨w.heap.size, 2, none⟩ = some (.slice A118 n118 c118) ∧ w_21.cell? ⟨w_15.heap.size, 0, none⟩ = some (.int .i64 x114) ∧ w_21.cell? ⟨w.heap.size, 1, none⟩ = some (.slice A112 n112 c112) ∧ True) ∧
  canStore w_21 w_20.heap.size 0 3 ∧
  let w_22 : World := setCs w_21 w_20.heap.size 0 [.string s116, .string s122, .string s128];
  (w_22.cell? ⟨w_15.heap.size, 2, none⟩ = some (.int .i64 x126) ∧ w_22.cell? ⟨w.heap.size, 0, none⟩ = some (.slice A124 n124 c124) ∧ w_22.cell? ⟨w_15.heap.size, 1, none⟩ = some (.int .i64 x120) ∧ w_22.cell? ⟨w.heap.size, 2, none⟩ = some (.slice A118 n118 c118) ∧ w_22.cell? ⟨w_15.heap.size, 0, none⟩ = some (.int .i64 x114) ∧ w_22.cell? ⟨w.heap.size, 1, none⟩ = some (.slice A112 n112 c112) ∧ True) ∧
  ([.slice Aa3 na3 ca3, .string sa4, .pointer (some ⟨w.heap.size, 0, none⟩), .pointer p49_0, .slice A59_0 n59_0 c59_0, .pointer (some ⟨w_10.heap.size, 0, none⟩), .int .i64 x20] : List Value) = ([.slice Aa3 na3 ca3, .string sa4, .pointer (some ⟨w.heap.size, 0, none⟩), .pointer p49_0, .slice A59_0 n59_0 c59_0, .pointer (some ⟨w_10.heap.size, 0, none⟩), .int .i64 x20] : List Value) ∧ M w_20.heap.size 0 w_22) ∧
  (let w_23 : World := World.alloc w_19 (.cells #[.string ⟨#[]⟩, .string ⟨#[]⟩, .string ⟨#[]⟩] 73);
  (w_23.cell? ⟨w_15.heap.size, 2, none⟩ = some (.int .i64 x126) ∧ w_23.cell? ⟨w.heap.size, 0, none⟩ = some (.slice A124 n124 c124) ∧ w_23.cell? ⟨w_15.heap.size, 1, none⟩ = some (.int .i64 x120) ∧ w_23.cell? ⟨w.heap.size, 2, none⟩ = some (.slice A118 n118 c118) ∧ w_23.cell? ⟨w_15.heap.size, 0, none⟩ = some (.int .i64 x114) ∧ w_23.cell? ⟨w.heap.size, 1, none⟩ = some (.slice A112 n112 c112) ∧ True) ∧
  Calls Try.prog 35 #[.slice A124 n124 c124, .int .i64 x126, .string sa4] w_23 fun e_15 w_24 =>
  ∃ (s128_1 : ByteArray),
  e_15 = .returned (.string s128_1) ∧
  (w_24.cell? ⟨w_15.heap.size, 2, none⟩ = some (.int .i64 x126) ∧ w_24.cell? ⟨w.heap.size, 0, none⟩ = some (.slice A124 n124 c124) ∧ w_24.cell? ⟨w_15.heap.size, 1, none⟩ = some (.int .i64 x120) ∧ w_24.cell? ⟨w.heap.size, 2, none⟩ = some (.slice A118 n118 c118) ∧ w_24.cell? ⟨w_15.heap.size, 0, none⟩ = some (.int .i64 x114) ∧ w_24.cell? ⟨w.heap.size, 1, none⟩ = some (.slice A112 n112 c112) ∧ True) ∧
  canStore w_24 w_19.heap.size 0 3 ∧
  let w_25 : World := setCs w_24 w_19.heap.size 0 [.string s116, .string s122, .string s128_1];
  (w_25.cell? ⟨w_15.heap.size, 2, none⟩ = some (.int .i64 x126) ∧ w_25.cell? ⟨w.heap.size, 0, none⟩ = some (.slice A124 n124 c124) ∧ w_25.cell? ⟨w_15.heap.size, 1, none⟩ = some (.int .i64 x120) ∧ w_25.cell? ⟨w.heap.size, 2, none⟩ = some (.slice A118 n118 c118) ∧ w_25.cell? ⟨w_15.heap.size, 0, none⟩ = some (.int .i64 x114) ∧ w_25.cell? ⟨w.heap.size, 1, none⟩ = some (.slice A112 n112 c112) ∧ True) ∧
  ([.slice Aa3 na3 ca3, .string sa4, .pointer (some ⟨w.heap.size, 0, none⟩), .pointer p49_0, .slice A59_0 n59_0 c59_0, .pointer (some ⟨w_10.heap.size, 0, none⟩), .int .i64 x20] : List Value) = ([.slice Aa3 na3 ca3, .string sa4, .pointer (some ⟨w.heap.size, 0, none⟩), .pointer p49_0, .slice A59_0 n59_0 c59_0, .pointer (some ⟨w_10.heap.size, 0, none⟩), .int .i64 x20] : List Value) ∧ M w_19.heap.size 0 w_25) ∧ True) ∧
  (let w_26 : World := World.alloc w_18 (.cells #[.string ⟨#[]⟩, .string ⟨#[]⟩, .string ⟨#[]⟩] 73);
  (w_26.cell? ⟨w_15.heap.size, 2, none⟩ = some (.int .i64 x126) ∧ w_26.cell? ⟨w.heap.size, 0, none⟩ = some (.slice A124 n124 c124) ∧ w_26.cell? ⟨w_15.heap.size, 1, none⟩ = some (.int .i64 x120) ∧ w_26.cell? ⟨w.heap.size, 2, none⟩ = some (.slice A118 n118 c118) ∧ w_26.cell? ⟨w_15.heap.size, 0, none⟩ = some (.int .i64 x114) ∧ w_26.cell? ⟨w.heap.size, 1, none⟩ = some (.slice A112 n112 c112) ∧ True) ∧
  Calls Try.prog 35 #[.slice A118 n118 c118, .int .i64 x120, .string sa4] w_26 fun e_16 w_27 =>
  ∃ (s122_1 : ByteArray),
  e_16 = .returned (.string s122_1) ∧
  (w_27.cell? ⟨w_15.heap.size, 2, none⟩ = some (.int .i64 x126) ∧ w_27.cell? ⟨w.heap.size, 0, none⟩ = some (.slice A124 n124 c124) ∧ w_27.cell? ⟨w_15.heap.size, 1, none⟩ = some (.int .i64 x120) ∧ w_27.cell? ⟨w.heap.size, 2, none⟩ = some (.slice A118 n118 c118) ∧ w_27.cell? ⟨w_15.heap.size, 0, none⟩ = some (.int .i64 x114) ∧ w_27.cell? ⟨w.heap.size, 1, none⟩ = some (.slice A112 n112 c112) ∧ True) ∧
  Calls Try.prog 35 #[.slice A124 n124 c124, .int .i64 x126, .string sa4] w_27 fun e_17 w_28 =>
  ∃ (s128_2 : ByteArray),
  e_17 = .returned (.string s128_2) ∧
  (w_28.cell? ⟨w_15.heap.size, 2, none⟩ = some (.int .i64 x126) ∧ w_28.cell? ⟨w.heap.size, 0, none⟩ = some (.slice A124 n124 c124) ∧ w_28.cell? ⟨w_15.heap.size, 1, none⟩ = some (.int .i64 x120) ∧ w_28.cell? ⟨w.heap.size, 2, none⟩ = some (.slice A118 n118 c118) ∧ w_28.cell? ⟨w_15.heap.size, 0, none⟩ = some (.int .i64 x114) ∧ w_28.cell? ⟨w.heap.size, 1, none⟩ = some (.slice A112 n112 c112) ∧ True) ∧
  canStore w_28 w_18.heap.size 0 3 ∧
  let w_29 : World := setCs w_28 w_18.heap.size 0 [.string s116, .string s122_1, .string s128_2];
  (w_29.cell? ⟨w_15.heap.size, 2, none⟩ = some (.int .i64 x126) ∧ w_29.cell? ⟨w.heap.size, 0, none⟩ = some (.slice A124 n124 c124) ∧ w_29.cell? ⟨w_15.heap.size, 1, none⟩ = some (.int .i64 x120) ∧ w_29.cell? ⟨w.heap.size, 2, none⟩ = some (.slice A118 n118 c118) ∧ w_29.cell? ⟨w_15.heap.size, 0, none⟩ = some (.int .i64 x114) ∧ w_29.cell? ⟨w.heap.size, 1, none⟩ = some (.slice A112 n112 c112) ∧ True) ∧
  ([.slice Aa3 na3 ca3, .string sa4, .pointer (some ⟨w.heap.size, 0, none⟩), .pointer p49_0, .slice A59_0 n59_0 c59_0, .pointer (some ⟨w_10.heap.size, 0, none⟩), .int .i64 x20] : List Value) = ([.slice Aa3 na3 ca3, .string sa4, .pointer (some ⟨w.heap.size, 0, none⟩), .pointer p49_0, .slice A59_0 n59_0 c59_0, .pointer (some ⟨w_10.heap.size, 0, none⟩), .int .i64 x20] : List Value) ∧ M w_18.heap.size 0 w_29) ∧ True) ∧
  (let w_30 : World := World.alloc w_17.drew (.cells #[.string ⟨#[]⟩, .string ⟨#[]⟩, .string ⟨#[]⟩] 73);
  (w_30.cell? ⟨w_15.heap.size, 2, none⟩ = some (.int .i64 x126) ∧ w_30.cell? ⟨w.heap.size, 0, none⟩ = some (.slice A124 n124 c124) ∧ w_30.cell? ⟨w_15.heap.size, 1, none⟩ = some (.int .i64 x120) ∧ w_30.cell? ⟨w.heap.size, 2, none⟩ = some (.slice A118 n118 c118) ∧ w_30.cell? ⟨w_15.heap.size, 0, none⟩ = some (.int .i64 x114) ∧ w_30.cell? ⟨w.heap.size, 1, none⟩ = some (.slice A112 n112 c112) ∧ True) ∧
  Calls Try.prog 35 #[.slice A112 n112 c112, .int .i64 x114, .string sa4] w_30 fun e_18 w_31 =>
  ∃ (s116_1 : ByteArray),
  e_18 = .returned (.string s116_1) ∧
  (w_31.cell? ⟨w_15.heap.size, 2, none⟩ = some (.int .i64 x126) ∧ w_31.cell? ⟨w.heap.size, 0, none⟩ = some (.slice A124 n124 c124) ∧ w_31.cell? ⟨w_15.heap.size, 1, none⟩ = some (.int .i64 x120) ∧ w_31.cell? ⟨w.heap.size, 2, none⟩ = some (.slice A118 n118 c118) ∧ w_31.cell? ⟨w_15.heap.size, 0, none⟩ = some (.int .i64 x114) ∧ w_31.cell? ⟨w.heap.size, 1, none⟩ = some (.slice A112 n112 c112) ∧ True) ∧
  Calls Try.prog 35 #[.slice A118 n118 c118, .int .i64 x120, .string sa4] w_31 fun e_19 w_32 =>
  ∃ (s122_2 : ByteArray),
  e_19 = .returned (.string s122_2) ∧
  (w_32.cell? ⟨w_15.heap.size, 2, none⟩ = some (.int .i64 x126) ∧ w_32.cell? ⟨w.heap.size, 0, none⟩ = some (.slice A124 n124 c124) ∧ w_32.cell? ⟨w_15.heap.size, 1, none⟩ = some (.int .i64 x120) ∧ w_32.cell? ⟨w.heap.size, 2, none⟩ = some (.slice A118 n118 c118) ∧ w_32.cell? ⟨w_15.heap.size, 0, none⟩ = some (.int .i64 x114) ∧ w_32.cell? ⟨w.heap.size, 1, none⟩ = some (.slice A112 n112 c112) ∧ True) ∧
  Calls Try.prog 35 #[.slice A124 n124 c124, .int .i64 x126, .string sa4] w_32 fun e_20 w_33 =>
  ∃ (s128_3 : ByteArray),
  e_20 = .returned (.string s128_3) ∧
  (w_33.cell? ⟨w_15.heap.size, 2, none⟩ = some (.int .i64 x126) ∧ w_33.cell? ⟨w.heap.size, 0, none⟩ = some (.slice A124 n124 c124) ∧ w_33.cell? ⟨w_15.heap.size, 1, none⟩ = some (.int .i64 x120) ∧ w_33.cell? ⟨w.heap.size, 2, none⟩ = some (.slice A118 n118 c118) ∧ w_33.cell? ⟨w_15.heap.size, 0, none⟩ = some (.int .i64 x114) ∧ w_33.cell? ⟨w.heap.size, 1, none⟩ = some (.slice A112 n112 c112) ∧ True) ∧
  canStore w_33 w_17.heap.size 0 3 ∧
  let w_34 : World := setCs w_33 w_17.heap.size 0 [.string s116_1, .string s122_2, .string s128_3];
  (w_34.cell? ⟨w_15.heap.size, 2, none⟩ = some (.int .i64 x126) ∧ w_34.cell? ⟨w.heap.size, 0, none⟩ = some (.slice A124 n124 c124) ∧ w_34.cell? ⟨w_15.heap.size, 1, none⟩ = some (.int .i64 x120) ∧ w_34.cell? ⟨w.heap.size, 2, none⟩ = some (.slice A118 n118 c118) ∧ w_34.cell? ⟨w_15.heap.size, 0, none⟩ = some (.int .i64 x114) ∧ w_34.cell? ⟨w.heap.size, 1, none⟩ = some (.slice A112 n112 c112) ∧ True) ∧
  ([.slice Aa3 na3 ca3, .string sa4, .pointer (some ⟨w.heap.size, 0, none⟩), .pointer p49_0, .slice A59_0 n59_0 c59_0, .pointer (some ⟨w_10.heap.size, 0, none⟩), .int .i64 x20] : List Value) = ([.slice Aa3 na3 ca3, .string sa4, .pointer (some ⟨w.heap.size, 0, none⟩), .pointer p49_0, .slice A59_0 n59_0 c59_0, .pointer (some ⟨w_10.heap.size, 0, none⟩), .int .i64 x20] : List Value) ∧ M w_17.heap.size 0 w_34) ∧ True) ∧
  ∀ d_1 : Env, ∀ (b22 o22 : Nat) (w_35 : World), M b22 o22 w_35 →
  ∃ (s132 : ByteArray),
  w_35.cell? ⟨b22, o22, none⟩ = some (.string s132) ∧
  Calls Try.prog 32 #[.pointer p49_0, .string s132] w_35 fun e_21 w_36 =>
  ∃ (x133 : Int),
  e_21 = .returned (.int .i64 x133) ∧
  ∃ (s136 : ByteArray),
  w_36.cell? ⟨b22, o22 + 1, none⟩ = some (.string s136) ∧
  Calls Try.prog 32 #[.pointer p49_0, .string s136] w_36 fun e_22 w_37 =>
  ∃ (x137 : Int),
  e_22 = .returned (.int .i64 x137) ∧
  ∃ (s140 : ByteArray),
  w_37.cell? ⟨b22, o22 + 2, none⟩ = some (.string s140) ∧
  Calls Try.prog 32 #[.pointer p49_0, .string s140] w_37 fun e_23 w_38 =>
  ∃ (x141 : Int),
  e_23 = .returned (.int .i64 x141) ∧
  Calls Try.prog 36 #[.slice A59_0 n59_0 c59_0, .int .i64 x133, .int .i64 x137, .int .i64 x141] w_38 fun e_24 w_39 =>
  ∃ (b147_0 : Bool) (x147_1 : Int),
  e_24 = .returned (.tuple #[.bool b147_0, .int .i64 x147_1]) ∧
  ∃ (A151_0 : Option Addr) (n151_0 c151_0 : Nat),
  w_39.cell? ⟨w.heap.size, 0, none⟩ = some (.slice A151_0 n151_0 c151_0) ∧
  ∃ (A151_1 : Option Addr) (n151_1 c151_1 : Nat),
  w_39.cell? ⟨w.heap.size, 1, none⟩ = some (.slice A151_1 n151_1 c151_1) ∧
  ∃ (A151_2 : Option Addr) (n151_2 c151_2 : Nat),
  w_39.cell? ⟨w.heap.size, 2, none⟩ = some (.slice A151_2 n151_2 c151_2) ∧
  ∃ (A151_3 : Option Addr) (n151_3 c151_3 : Nat),
  w_39.cell? ⟨w.heap.size, 3, none⟩ = some (.slice A151_3 n151_3 c151_3) ∧
  ∃ (A151_4 : Option Addr) (n151_4 c151_4 : Nat),
  w_39.cell? ⟨w.heap.size, 4, none⟩ = some (.slice A151_4 n151_4 c151_4) ∧
  ∃ (A151_5 : Option Addr) (n151_5 c151_5 : Nat),
  w_39.cell? ⟨w.heap.size, 5, none⟩ = some (.slice A151_5 n151_5 c151_5) ∧
  ∃ (s152_0 : ByteArray),
  w_39.cell? ⟨b22, o22, none⟩ = some (.string s152_0) ∧
  ∃ (s152_1 : ByteArray),
  w_39.cell? ⟨b22, o22 + 1, none⟩ = some (.string s152_1) ∧
  ∃ (s152_2 : ByteArray),
  w_39.cell? ⟨b22, o22 + 1 + 1, none⟩ = some (.string s152_2) ∧
  Calls Try.prog 37 #[.agg #[.slice A151_0 n151_0 c151_0, .slice A151_1 n151_1 c151_1, .slice A151_2 n151_2 c151_2, .slice A151_3 n151_3 c151_3, .slice A151_4 n151_4 c151_4, .slice A151_5 n151_5 c151_5], .agg #[.string s152_0, .string s152_1, .string s152_2]] w_39 fun e_25 w_40 =>
  ∃ (b153 : Bool),
  e_25 = .returned (.bool b153) ∧
  sel (b147_0 == b153) (
  ∃ (A157_0 : Option Addr) (n157_0 c157_0 : Nat),
  w_40.cell? ⟨w_10.heap.size, 0, none⟩ = some (.slice A157_0 n157_0 c157_0) ∧
  ∃ (A157_1 : Option Addr) (n157_1 c157_1 : Nat),
  w_40.cell? ⟨w_10.heap.size, 1, none⟩ = some (.slice A157_1 n157_1 c157_1) ∧
  ∃ (A157_2 : Option Addr) (n157_2 c157_2 : Nat),
  w_40.cell? ⟨w_10.heap.size, 2, none⟩ = some (.slice A157_2 n157_2 c157_2) ∧
  ∃ (A157_3 : Option Addr) (n157_3 c157_3 : Nat),
  w_40.cell? ⟨w_10.heap.size, 3, none⟩ = some (.slice A157_3 n157_3 c157_3) ∧
  ∃ (A157_4 : Option Addr) (n157_4 c157_4 : Nat),
  w_40.cell? ⟨w_10.heap.size, 4, none⟩ = some (.slice A157_4 n157_4 c157_4) ∧
  ∃ (A157_5 : Option Addr) (n157_5 c157_5 : Nat),
  w_40.cell? ⟨w_10.heap.size, 5, none⟩ = some (.slice A157_5 n157_5 c157_5) ∧
  ∃ (s158_0 : ByteArray),
  w_40.cell? ⟨b22, o22, none⟩ = some (.string s158_0) ∧
  ∃ (s158_1 : ByteArray),
  w_40.cell? ⟨b22, o22 + 1, none⟩ = some (.string s158_1) ∧
  ∃ (s158_2 : ByteArray),
  w_40.cell? ⟨b22, o22 + 1 + 1, none⟩ = some (.string s158_2) ∧
  Calls Try.prog 37 #[.agg #[.slice A157_0 n157_0 c157_0, .slice A157_1 n157_1 c157_1, .slice A157_2 n157_2 c157_2, .slice A157_3 n157_3 c157_3, .slice A157_4 n157_4 c157_4, .slice A157_5 n157_5 c157_5], .agg #[.string s158_0, .string s158_1, .string s158_2]] w_40 fun e_26 w_41 =>
  ∃ (b159 : Bool),
  e_26 = .returned (.bool b159) ∧
  sel (b147_0 == b159) (
  (0 : Int) ≤ 1 ∧ 1 < (n59_0 : Int) ∧
  needPtr A59_0 fun b165 o165 =>
  ∃ (x166 : Int),
  w_41.cell? ⟨b165, o165 + 1, none⟩ = some (.int .i64 x166) ∧
  let i167 : Int := IntKind.i64.wrap (3 * x166);
  let i168 : Int := IntKind.i64.wrap (6 + i167);
  let i106 : Int := IntKind.i64.wrap (x20 + 1);
  ([.slice Aa3 na3 ca3, .string sa4, .pointer (some ⟨w.heap.size, 0, none⟩), .pointer p49_0, .slice A59_0 n59_0 c59_0, .pointer (some ⟨w_10.heap.size, 0, none⟩)] : List Value) = ([.slice Aa3 na3 ca3, .string sa4, .pointer (some ⟨w.heap.size, 0, none⟩), .pointer p49_0, .slice A59_0 n59_0 c59_0, .pointer (some ⟨w_10.heap.size, 0, none⟩)] : List Value) ∧ ∃ m, m < r ∧ I (decide ((x147_1 : Int) ≤ (i168 : Int))) i106 w_41 m) (
  let i106_1 : Int := IntKind.i64.wrap (x20 + 1);
  ([.slice Aa3 na3 ca3, .string sa4, .pointer (some ⟨w.heap.size, 0, none⟩), .pointer p49_0, .slice A59_0 n59_0 c59_0, .pointer (some ⟨w_10.heap.size, 0, none⟩)] : List Value) = ([.slice Aa3 na3 ca3, .string sa4, .pointer (some ⟨w.heap.size, 0, none⟩), .pointer p49_0, .slice A59_0 n59_0 c59_0, .pointer (some ⟨w_10.heap.size, 0, none⟩)] : List Value) ∧ ∃ m, m < r ∧ I false i106_1 w_41 m)) (
  let i106_2 : Int := IntKind.i64.wrap (x20 + 1);
  ([.slice Aa3 na3 ca3, .string sa4, .pointer (some ⟨w.heap.size, 0, none⟩), .pointer p49_0, .slice A59_0 n59_0 c59_0, .pointer (some ⟨w_10.heap.size, 0, none⟩)] : List Value) = ([.slice Aa3 na3 ca3, .string sa4, .pointer (some ⟨w.heap.size, 0, none⟩), .pointer p49_0, .slice A59_0 n59_0 c59_0, .pointer (some ⟨w_10.heap.size, 0, none⟩)] : List Value) ∧ ∃ m, m < r ∧ I false i106_2 w_40 m)) (
  R (.bool b11) w_15)) (
  R (.bool b11) w_15))))))))))))
theorem f9.eq (xa0 : Int) (Aa1_0 : Option Addr) (na1_0 ca1_0 : Nat) (Aa1_1 : Option Addr) (na1_1 ca1_1 : Nat) (Aa1_2 : Option Addr) (na1_2 ca1_2 : Nat) (Aa1_3 : Option Addr) (na1_3 ca1_3 : Nat) (Aa1_4 : Option Addr) (na1_4 ca1_4 : Nat) (Aa1_5 : Option Addr) (na1_5 ca1_5 : Nat) (Aa2 : Option Addr) (na2 ca2 : Nat) (Aa3 : Option Addr) (na3 ca3 : Nat) (sa4 : ByteArray) (w : World) (R : Value → World → Prop) : f9.VC xa0 Aa1_0 na1_0 ca1_0 Aa1_1 na1_1 ca1_1 Aa1_2 na1_2 ca1_2 Aa1_3 na1_3 ca1_3 Aa1_4 na1_4 ca1_4 Aa1_5 na1_5 ca1_5 Aa2 na2 ca2 Aa3 na3 ca3 sa4 w R = funV Try.prog Try.f9 f9.AL f9.AC #[.int .i64 xa0, .agg #[.slice Aa1_0 na1_0 ca1_0, .slice Aa1_1 na1_1 ca1_1, .slice Aa1_2 na1_2 ca1_2, .slice Aa1_3 na1_3 ca1_3, .slice Aa1_4 na1_4 ca1_4, .slice Aa1_5 na1_5 ca1_5], .slice Aa2 na2 ca2, .slice Aa3 na3 ca3, .string sa4] w R := by kernel_rfl
theorem f9.calls {xa0 : Int} {Aa1_0 : Option Addr} {na1_0 ca1_0 : Nat} {Aa1_1 : Option Addr} {na1_1 ca1_1 : Nat} {Aa1_2 : Option Addr} {na1_2 ca1_2 : Nat} {Aa1_3 : Option Addr} {na1_3 ca1_3 : Nat} {Aa1_4 : Option Addr} {na1_4 ca1_4 : Nat} {Aa1_5 : Option Addr} {na1_5 ca1_5 : Nat} {Aa2 : Option Addr} {na2 ca2 : Nat} {Aa3 : Option Addr} {na3 ca3 : Nat} {sa4 : ByteArray} {w : World} {R : Value → World → Prop} (h : f9.VC xa0 Aa1_0 na1_0 ca1_0 Aa1_1 na1_1 ca1_1 Aa1_2 na1_2 ca1_2 Aa1_3 na1_3 ca1_3 Aa1_4 na1_4 ca1_4 Aa1_5 na1_5 ca1_5 Aa2 na2 ca2 Aa3 na3 ca3 sa4 w R) : Calls Try.prog 9 #[.int .i64 xa0, .agg #[.slice Aa1_0 na1_0 ca1_0, .slice Aa1_1 na1_1 ca1_1, .slice Aa1_2 na1_2 ca1_2, .slice Aa1_3 na1_3 ca1_3, .slice Aa1_4 na1_4 ca1_4, .slice Aa1_5 na1_5 ca1_5], .slice Aa2 na2 ca2, .slice Aa3 na3 ca3, .string sa4] w fun e w' => ∃ v, e = .returned v ∧ R v w' :=
  funV_sound (fn := Try.f9) (AL := f9.AL) (AC := f9.AC) W27.mixed (by kernel_rfl) (by rw [← f9.eq xa0 Aa1_0 na1_0 ca1_0 Aa1_1 na1_1 ca1_1 Aa1_2 na1_2 ca1_2 Aa1_3 na1_3 ca1_3 Aa1_4 na1_4 ca1_4 Aa1_5 na1_5 ca1_5 Aa2 na2 ca2 Aa3 na3 ca3 sa4]; exact h)

/-- gatehouse/gatehouselaw12.some -/
def f35.AL : Nat → Option Ann := fun _ => none
def f35.AC : Nat → Option Ann := fun _ => none
def f35.VC (Aa0 : Option Addr) (na0 ca0 : Nat) (xa1 : Int) (sa2 : ByteArray) (w : World) (R : Value → World → Prop) : Prop :=
  sel (((na0 : Int) : Int) == (0 : Int)) (
  R (.string sa2) w) (
  sel (decide ((xa1 : Int) < (0 : Int))) (
  R (.string sa2) w) (
  (na0 : Int) ≠ (0 : Int) ∧
  let i19 : Int := Int.tmod xa1 (na0 : Int);
  (0 : Int) ≤ i19 ∧ i19 < (na0 : Int) ∧
  needPtr Aa0 fun b20 o20 =>
  ∃ (s21 : ByteArray),
  w.cell? ⟨b20, o20 + i19.toNat * 1, none⟩ = some (.string s21) ∧
  R (.string s21) w))
theorem f35.eq (Aa0 : Option Addr) (na0 ca0 : Nat) (xa1 : Int) (sa2 : ByteArray) (w : World) (R : Value → World → Prop) : f35.VC Aa0 na0 ca0 xa1 sa2 w R = funV Try.prog Try.f35 f35.AL f35.AC #[.slice Aa0 na0 ca0, .int .i64 xa1, .string sa2] w R := by kernel_rfl
theorem f35.calls {Aa0 : Option Addr} {na0 ca0 : Nat} {xa1 : Int} {sa2 : ByteArray} {w : World} {R : Value → World → Prop} (h : f35.VC Aa0 na0 ca0 xa1 sa2 w R) : Calls Try.prog 35 #[.slice Aa0 na0 ca0, .int .i64 xa1, .string sa2] w fun e w' => ∃ v, e = .returned v ∧ R v w' :=
  funV_sound (fn := Try.f35) (AL := f35.AL) (AC := f35.AC) W27.mixed (by kernel_rfl) (by rw [← f35.eq Aa0 na0 ca0 xa1 sa2]; exact h)

/-- gatehouse/graph.Decide -/
def f37.AL : Nat → Option Ann := fun _ => none
def f37.AC : Nat → Option Ann := fun r => match r with | 1000001 => some ⟨[], []⟩ | 1000002 => some ⟨[], []⟩ | _ => none
def f37.VC (Aa0_0 : Option Addr) (na0_0 ca0_0 : Nat) (Aa0_1 : Option Addr) (na0_1 ca0_1 : Nat) (Aa0_2 : Option Addr) (na0_2 ca0_2 : Nat) (Aa0_3 : Option Addr) (na0_3 ca0_3 : Nat) (Aa0_4 : Option Addr) (na0_4 ca0_4 : Nat) (Aa0_5 : Option Addr) (na0_5 ca0_5 : Nat) (sa1_0 : ByteArray) (sa1_1 : ByteArray) (sa1_2 : ByteArray) (w : World) (R : Value → World → Prop) : Prop :=
  let w_1 : World := World.alloc w (.cells #[.slice Aa0_0 na0_0 ca0_0, .slice Aa0_1 na0_1 ca0_1, .slice Aa0_2 na0_2 ca0_2, .slice Aa0_3 na0_3 ca0_3, .slice Aa0_4 na0_4 ca0_4, .slice Aa0_5 na0_5 ca0_5] 29);
  let w_2 : World := World.alloc w_1 (.cells #[.string sa1_0, .string sa1_1, .string sa1_2] 73);
  ∃ (A10 : Option Addr) (n10 c10 : Nat),
  w_2.cell? ⟨w.heap.size, 3, none⟩ = some (.slice A10 n10 c10) ∧
  ∃ (A12 : Option Addr) (n12 c12 : Nat),
  w_2.cell? ⟨w.heap.size, 1, none⟩ = some (.slice A12 n12 c12) ∧
  ∃ (s14 : ByteArray),
  w_2.cell? ⟨w_1.heap.size, 0, none⟩ = some (.string s14) ∧
  Calls Try.prog 79 #[.slice A12 n12 c12, .string s14] w_2.drew fun e_1 w_3 =>
  ∃ (x15 : Int),
  e_1 = .returned (.int .i64 x15) ∧
  (w_3.cell? ⟨w_1.heap.size, 0, none⟩ = some (.string s14) ∧ w_3.cell? ⟨w.heap.size, 1, none⟩ = some (.slice A12 n12 c12) ∧ w_3.cell? ⟨w.heap.size, 3, none⟩ = some (.slice A10 n10 c10) ∧ True) ∧
  Calls Try.prog 78 #[.slice A10 n10 c10, .int .i64 x15] w_3 fun e_2 w_4 =>
  ∃ (x16 : Int),
  e_2 = .returned (.int .i64 x16) ∧
  (w_4.cell? ⟨w_1.heap.size, 0, none⟩ = some (.string s14) ∧ w_4.cell? ⟨w.heap.size, 1, none⟩ = some (.slice A12 n12 c12) ∧ w_4.cell? ⟨w.heap.size, 3, none⟩ = some (.slice A10 n10 c10) ∧ True) ∧
  ∃ (A18 : Option Addr) (n18 c18 : Nat),
  w_4.cell? ⟨w.heap.size, 4, none⟩ = some (.slice A18 n18 c18) ∧
  ∃ (A20 : Option Addr) (n20 c20 : Nat),
  w_4.cell? ⟨w.heap.size, 2, none⟩ = some (.slice A20 n20 c20) ∧
  ∃ (s22 : ByteArray),
  w_4.cell? ⟨w_1.heap.size, 1, none⟩ = some (.string s22) ∧
  Calls Try.prog 79 #[.slice A20 n20 c20, .string s22] w_4.drew fun e_3 w_5 =>
  ∃ (x23 : Int),
  e_3 = .returned (.int .i64 x23) ∧
  (w_5.cell? ⟨w_1.heap.size, 1, none⟩ = some (.string s22) ∧ w_5.cell? ⟨w.heap.size, 2, none⟩ = some (.slice A20 n20 c20) ∧ w_5.cell? ⟨w.heap.size, 4, none⟩ = some (.slice A18 n18 c18) ∧ True) ∧
  Calls Try.prog 78 #[.slice A18 n18 c18, .int .i64 x23] w_5 fun e_4 w_6 =>
  ∃ (x24 : Int),
  e_4 = .returned (.int .i64 x24) ∧
  (w_6.cell? ⟨w_1.heap.size, 1, none⟩ = some (.string s22) ∧ w_6.cell? ⟨w.heap.size, 2, none⟩ = some (.slice A20 n20 c20) ∧ w_6.cell? ⟨w.heap.size, 4, none⟩ = some (.slice A18 n18 c18) ∧ True) ∧
  ∃ (A26 : Option Addr) (n26 c26 : Nat),
  w_6.cell? ⟨w.heap.size, 0, none⟩ = some (.slice A26 n26 c26) ∧
  ∃ (s28 : ByteArray),
  w_6.cell? ⟨w_1.heap.size, 2, none⟩ = some (.string s28) ∧
  Calls Try.prog 79 #[.slice A26 n26 c26, .string s28] w_6 fun e_5 w_7 =>
  ∃ (x29 : Int),
  e_5 = .returned (.int .i64 x29) ∧
  sel (decide ((x16 : Int) < (0 : Int))) (
  R (.bool false) w_7) (
  ∃ (A35 : Option Addr) (n35 c35 : Nat),
  w_7.cell? ⟨w.heap.size, 5, none⟩ = some (.slice A35 n35 c35) ∧
  sel (decide (((n35 : Int) : Int) ≤ (x16 : Int))) (
  R (.bool false) w_7) (
  sel (decide ((x24 : Int) < (0 : Int))) (
  R (.bool false) w_7) (
  ∃ (A46 : Option Addr) (n46 c46 : Nat),
  w_7.cell? ⟨w.heap.size, 5, none⟩ = some (.slice A46 n46 c46) ∧
  (0 : Int) ≤ x16 ∧ x16 < (n46 : Int) ∧
  needPtr A46 fun b48 o48 =>
  ∃ (A49 : Option Addr) (n49 c49 : Nat),
  w_7.cell? ⟨b48, o48 + x16.toNat * 1, none⟩ = some (.slice A49 n49 c49) ∧
  sel (decide (((n49 : Int) : Int) ≤ (x24 : Int))) (
  R (.bool false) w_7) (
  sel (decide ((x29 : Int) < (0 : Int))) (
  R (.bool false) w_7) (
  sel (decide ((16 : Int) ≤ (x29 : Int))) (
  R (.bool false) w_7) (
  ∃ (A62 : Option Addr) (n62 c62 : Nat),
  w_7.cell? ⟨w.heap.size, 5, none⟩ = some (.slice A62 n62 c62) ∧
  (0 : Int) ≤ x16 ∧ x16 < (n62 : Int) ∧
  needPtr A62 fun b64 o64 =>
  ∃ (A65 : Option Addr) (n65 c65 : Nat),
  w_7.cell? ⟨b64, o64 + x16.toNat * 1, none⟩ = some (.slice A65 n65 c65) ∧
  (0 : Int) ≤ x24 ∧ x24 < (n65 : Int) ∧
  needPtr A65 fun b67 o67 =>
  ∃ (x68 : Int),
  w_7.cell? ⟨b67, o67 + x24.toNat * 1, none⟩ = some (.int .u16 x68) ∧
  (0 : Int) ≤ x29 ∧
  let i71 : Int := shlI .u16 1 x29;
  let i72 : Int := bitsI .andNot .u16 x68 i71;
  R (.bool ((i72 : Int) != (x68 : Int))) w_7))))))
theorem f37.eq (Aa0_0 : Option Addr) (na0_0 ca0_0 : Nat) (Aa0_1 : Option Addr) (na0_1 ca0_1 : Nat) (Aa0_2 : Option Addr) (na0_2 ca0_2 : Nat) (Aa0_3 : Option Addr) (na0_3 ca0_3 : Nat) (Aa0_4 : Option Addr) (na0_4 ca0_4 : Nat) (Aa0_5 : Option Addr) (na0_5 ca0_5 : Nat) (sa1_0 : ByteArray) (sa1_1 : ByteArray) (sa1_2 : ByteArray) (w : World) (R : Value → World → Prop) : f37.VC Aa0_0 na0_0 ca0_0 Aa0_1 na0_1 ca0_1 Aa0_2 na0_2 ca0_2 Aa0_3 na0_3 ca0_3 Aa0_4 na0_4 ca0_4 Aa0_5 na0_5 ca0_5 sa1_0 sa1_1 sa1_2 w R = funV Try.prog Try.f37 f37.AL f37.AC #[.agg #[.slice Aa0_0 na0_0 ca0_0, .slice Aa0_1 na0_1 ca0_1, .slice Aa0_2 na0_2 ca0_2, .slice Aa0_3 na0_3 ca0_3, .slice Aa0_4 na0_4 ca0_4, .slice Aa0_5 na0_5 ca0_5], .agg #[.string sa1_0, .string sa1_1, .string sa1_2]] w R := by kernel_rfl
theorem f37.calls {Aa0_0 : Option Addr} {na0_0 ca0_0 : Nat} {Aa0_1 : Option Addr} {na0_1 ca0_1 : Nat} {Aa0_2 : Option Addr} {na0_2 ca0_2 : Nat} {Aa0_3 : Option Addr} {na0_3 ca0_3 : Nat} {Aa0_4 : Option Addr} {na0_4 ca0_4 : Nat} {Aa0_5 : Option Addr} {na0_5 ca0_5 : Nat} {sa1_0 : ByteArray} {sa1_1 : ByteArray} {sa1_2 : ByteArray} {w : World} {R : Value → World → Prop} (h : f37.VC Aa0_0 na0_0 ca0_0 Aa0_1 na0_1 ca0_1 Aa0_2 na0_2 ca0_2 Aa0_3 na0_3 ca0_3 Aa0_4 na0_4 ca0_4 Aa0_5 na0_5 ca0_5 sa1_0 sa1_1 sa1_2 w R) : Calls Try.prog 37 #[.agg #[.slice Aa0_0 na0_0 ca0_0, .slice Aa0_1 na0_1 ca0_1, .slice Aa0_2 na0_2 ca0_2, .slice Aa0_3 na0_3 ca0_3, .slice Aa0_4 na0_4 ca0_4, .slice Aa0_5 na0_5 ca0_5], .agg #[.string sa1_0, .string sa1_1, .string sa1_2]] w fun e w' => ∃ v, e = .returned v ∧ R v w' :=
  funV_sound (fn := Try.f37) (AL := f37.AL) (AC := f37.AC) W27.mixed (by kernel_rfl) (by rw [← f37.eq Aa0_0 na0_0 ca0_0 Aa0_1 na0_1 ca0_1 Aa0_2 na0_2 ca0_2 Aa0_3 na0_3 ca0_3 Aa0_4 na0_4 ca0_4 Aa0_5 na0_5 ca0_5 sa1_0 sa1_1 sa1_2]; exact h)

/-- gatehouse/graph.at -/
def f78.AL : Nat → Option Ann := fun _ => none
def f78.AC : Nat → Option Ann := fun _ => none
def f78.VC (Aa0 : Option Addr) (na0 ca0 : Nat) (xa1 : Int) (w : World) (R : Value → World → Prop) : Prop :=
  sel (decide ((xa1 : Int) < (0 : Int))) (
  R (.int .i64 (-1)) w) (
  sel (decide (((na0 : Int) : Int) ≤ (xa1 : Int))) (
  R (.int .i64 (-1)) w) (
  (0 : Int) ≤ xa1 ∧ xa1 < (na0 : Int) ∧
  needPtr Aa0 fun b15 o15 =>
  ∃ (x16 : Int),
  w.cell? ⟨b15, o15 + xa1.toNat * 1, none⟩ = some (.int .i64 x16) ∧
  let i17 : Int := IntKind.i64.wrap (x16 - 1);
  R (.int .i64 i17) w))
theorem f78.eq (Aa0 : Option Addr) (na0 ca0 : Nat) (xa1 : Int) (w : World) (R : Value → World → Prop) : f78.VC Aa0 na0 ca0 xa1 w R = funV Try.prog Try.f78 f78.AL f78.AC #[.slice Aa0 na0 ca0, .int .i64 xa1] w R := by kernel_rfl
theorem f78.calls {Aa0 : Option Addr} {na0 ca0 : Nat} {xa1 : Int} {w : World} {R : Value → World → Prop} (h : f78.VC Aa0 na0 ca0 xa1 w R) : Calls Try.prog 78 #[.slice Aa0 na0 ca0, .int .i64 xa1] w fun e w' => ∃ v, e = .returned v ∧ R v w' :=
  funV_sound (fn := Try.f78) (AL := f78.AL) (AC := f78.AC) W27.mixed (by kernel_rfl) (by rw [← f78.eq Aa0 na0 ca0 xa1]; exact h)

end Go.Proofs.Ytjmlfknogjaemaa
