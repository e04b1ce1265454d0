/- The plain statements of some functions, printed by vcgen.py. -/
import Derived.Test.YtjmlfknogjaemaaDoorM4
import Derived.Test.YtjmlfknogjaemaaDoorProg
import Derived.KernelRfl
set_option maxRecDepth 100000
set_option linter.unusedVariables false
namespace Go.Proofs.YtjmlfknogjaemaaDoor
open Go Go.Proofs.YtjmlfknogjaemaaDoor.Vc
theorem W22.mixed : Tryd.prog.follows .mixedOrders = true := by kernel_rfl
/-- gatehouse/gatehouselaw12.twin -/
def f13.AL : Nat → Option Ann := fun r => match r with | 3 => some ⟨[(4, .int .i64)], [1, 2, 3]⟩ | _ => none
def f13.AC : Nat → Option Ann := fun r => match r with | 2 => some ⟨[(3, .blk)], [1, 2]⟩ | 1000001 => some ⟨[], []⟩ | _ => none
def f13.VC (Aa0_0 : Option Addr) (na0_0 ca0_0 : Nat) (Aa0_1 : Option Addr) (na0_1 ca0_1 : Nat) (Aa0_2 : Option Addr) (na0_2 ca0_2 : Nat) (Aa0_3 : Option Addr) (na0_3 ca0_3 : Nat) (Aa0_4 : Option Addr) (na0_4 ca0_4 : Nat) (Aa0_5 : Option Addr) (na0_5 ca0_5 : Nat) (w : World) (R : Value → World → Prop) : Prop :=
  let w_1 : World := World.alloc w (.cells #[.slice Aa0_0 na0_0 ca0_0, .slice Aa0_1 na0_1 ca0_1, .slice Aa0_2 na0_2 ca0_2, .slice Aa0_3 na0_3 ca0_3, .slice Aa0_4 na0_4 ca0_4, .slice Aa0_5 na0_5 ca0_5] 32);
  let w_2 : World := World.alloc w_1 (.cells #[.slice none 0 0, .slice none 0 0, .slice none 0 0, .slice none 0 0, .slice none 0 0, .slice none 0 0] 32);
  ∃ M : Nat → Nat → World → Prop,
  (∃ (A7 : Option Addr) (n7 c7 : Nat),
  w_2.cell? ⟨w.heap.size, 0, none⟩ = some (.slice A7 n7 c7) ∧
  ∃ (A10 : Option Addr) (n10 c10 : Nat),
  w_2.cell? ⟨w.heap.size, 1, none⟩ = some (.slice A10 n10 c10) ∧
  ∃ (A13 : Option Addr) (n13 c13 : Nat),
  w_2.cell? ⟨w.heap.size, 2, none⟩ = some (.slice A13 n13 c13) ∧
  ∃ (A16 : Option Addr) (n16 c16 : Nat),
  w_2.cell? ⟨w.heap.size, 3, none⟩ = some (.slice A16 n16 c16) ∧
  ∃ (A19 : Option Addr) (n19 c19 : Nat),
  w_2.cell? ⟨w.heap.size, 4, none⟩ = some (.slice A19 n19 c19) ∧
  (Calls Tryd.prog 37 #[.slice A7 n7 c7] w_2.drew fun e_1 w_3 =>
  ∃ (A8 : Option Addr) (n8 c8 : Nat),
  e_1 = .returned (.slice A8 n8 c8) ∧
  (w_3.cell? ⟨w.heap.size, 4, none⟩ = some (.slice A19 n19 c19) ∧ w_3.cell? ⟨w.heap.size, 3, none⟩ = some (.slice A16 n16 c16) ∧ w_3.cell? ⟨w.heap.size, 2, none⟩ = some (.slice A13 n13 c13) ∧ w_3.cell? ⟨w.heap.size, 1, none⟩ = some (.slice A10 n10 c10) ∧ w_3.cell? ⟨w.heap.size, 0, none⟩ = some (.slice A7 n7 c7) ∧ True) ∧
  (Calls Tryd.prog 37 #[.slice A10 n10 c10] w_3 fun e_2 w_4 =>
  ∃ (A11 : Option Addr) (n11 c11 : Nat),
  e_2 = .returned (.slice A11 n11 c11) ∧
  (w_4.cell? ⟨w.heap.size, 4, none⟩ = some (.slice A19 n19 c19) ∧ w_4.cell? ⟨w.heap.size, 3, none⟩ = some (.slice A16 n16 c16) ∧ w_4.cell? ⟨w.heap.size, 2, none⟩ = some (.slice A13 n13 c13) ∧ w_4.cell? ⟨w.heap.size, 1, none⟩ = some (.slice A10 n10 c10) ∧ w_4.cell? ⟨w.heap.size, 0, none⟩ = some (.slice A7 n7 c7) ∧ True) ∧
  (Calls Tryd.prog 37 #[.slice A13 n13 c13] w_4 fun e_3 w_5 =>
  ∃ (A14 : Option Addr) (n14 c14 : Nat),
  e_3 = .returned (.slice A14 n14 c14) ∧
  (w_5.cell? ⟨w.heap.size, 4, none⟩ = some (.slice A19 n19 c19) ∧ w_5.cell? ⟨w.heap.size, 3, none⟩ = some (.slice A16 n16 c16) ∧ w_5.cell? ⟨w.heap.size, 2, none⟩ = some (.slice A13 n13 c13) ∧ w_5.cell? ⟨w.heap.size, 1, none⟩ = some (.slice A10 n10 c10) ∧ w_5.cell? ⟨w.heap.size, 0, none⟩ = some (.slice A7 n7 c7) ∧ True) ∧
  (Calls Tryd.prog 14 #[.slice A16 n16 c16, .int .i64 0] w_5 fun e_4 w_6 =>
  ∃ (A17 : Option Addr) (n17 c17 : Nat),
  e_4 = .returned (.slice A17 n17 c17) ∧
  (w_6.cell? ⟨w.heap.size, 4, none⟩ = some (.slice A19 n19 c19) ∧ w_6.cell? ⟨w.heap.size, 3, none⟩ = some (.slice A16 n16 c16) ∧ w_6.cell? ⟨w.heap.size, 2, none⟩ = some (.slice A13 n13 c13) ∧ w_6.cell? ⟨w.heap.size, 1, none⟩ = some (.slice A10 n10 c10) ∧ w_6.cell? ⟨w.heap.size, 0, none⟩ = some (.slice A7 n7 c7) ∧ True) ∧
  (Calls Tryd.prog 14 #[.slice A19 n19 c19, .int .i64 0] w_6 fun e_5 w_7 =>
  ∃ (A20 : Option Addr) (n20 c20 : Nat),
  e_5 = .returned (.slice A20 n20 c20) ∧
  (w_7.cell? ⟨w.heap.size, 4, none⟩ = some (.slice A19 n19 c19) ∧ w_7.cell? ⟨w.heap.size, 3, none⟩ = some (.slice A16 n16 c16) ∧ w_7.cell? ⟨w.heap.size, 2, none⟩ = some (.slice A13 n13 c13) ∧ w_7.cell? ⟨w.heap.size, 1, none⟩ = some (.slice A10 n10 c10) ∧ w_7.cell? ⟨w.heap.size, 0, none⟩ = some (.slice A7 n7 c7) ∧ True) ∧
  let w_8 : World := World.alloc w_7 (.cells #[.slice none 0 0, .slice none 0 0, .slice none 0 0, .slice none 0 0, .slice none 0 0, .slice none 0 0] 32);
  (w_8.cell? ⟨w.heap.size, 4, none⟩ = some (.slice A19 n19 c19) ∧ w_8.cell? ⟨w.heap.size, 3, none⟩ = some (.slice A16 n16 c16) ∧ w_8.cell? ⟨w.heap.size, 2, none⟩ = some (.slice A13 n13 c13) ∧ w_8.cell? ⟨w.heap.size, 1, none⟩ = some (.slice A10 n10 c10) ∧ w_8.cell? ⟨w.heap.size, 0, none⟩ = some (.slice A7 n7 c7) ∧ True) ∧
  canStore w_8 w_7.heap.size 0 6 ∧
  let w_9 : World := setCs w_8 w_7.heap.size 0 [.slice A8 n8 c8, .slice A11 n11 c11, .slice A14 n14 c14, .slice A17 n17 c17, .slice A20 n20 c20, .slice none 0 0];
  (w_9.cell? ⟨w.heap.size, 4, none⟩ = some (.slice A19 n19 c19) ∧ w_9.cell? ⟨w.heap.size, 3, none⟩ = some (.slice A16 n16 c16) ∧ w_9.cell? ⟨w.heap.size, 2, none⟩ = some (.slice A13 n13 c13) ∧ w_9.cell? ⟨w.heap.size, 1, none⟩ = some (.slice A10 n10 c10) ∧ w_9.cell? ⟨w.heap.size, 0, none⟩ = some (.slice A7 n7 c7) ∧ True) ∧
  ([.pointer (some ⟨w.heap.size, 0, none⟩), .pointer (some ⟨w_1.heap.size, 0, none⟩)] : List Value) = ([.pointer (some ⟨w.heap.size, 0, none⟩), .pointer (some ⟨w_1.heap.size, 0, none⟩)] : List Value) ∧ M w_7.heap.size 0 w_9) ∧
  (let w_10 : World := World.alloc w_6 (.cells #[.slice none 0 0, .slice none 0 0, .slice none 0 0, .slice none 0 0, .slice none 0 0, .slice none 0 0] 32);
  (w_10.cell? ⟨w.heap.size, 4, none⟩ = some (.slice A19 n19 c19) ∧ w_10.cell? ⟨w.heap.size, 3, none⟩ = some (.slice A16 n16 c16) ∧ w_10.cell? ⟨w.heap.size, 2, none⟩ = some (.slice A13 n13 c13) ∧ w_10.cell? ⟨w.heap.size, 1, none⟩ = some (.slice A10 n10 c10) ∧ w_10.cell? ⟨w.heap.size, 0, none⟩ = some (.slice A7 n7 c7) ∧ True) ∧
  Calls Tryd.prog 14 #[.slice A19 n19 c19, .int .i64 0] w_10 fun e_6 w_11 =>
  ∃ (A20_1 : Option Addr) (n20_1 c20_1 : Nat),
  e_6 = .returned (.slice A20_1 n20_1 c20_1) ∧
  (w_11.cell? ⟨w.heap.size, 4, none⟩ = some (.slice A19 n19 c19) ∧ w_11.cell? ⟨w.heap.size, 3, none⟩ = some (.slice A16 n16 c16) ∧ w_11.cell? ⟨w.heap.size, 2, none⟩ = some (.slice A13 n13 c13) ∧ w_11.cell? ⟨w.heap.size, 1, none⟩ = some (.slice A10 n10 c10) ∧ w_11.cell? ⟨w.heap.size, 0, none⟩ = some (.slice A7 n7 c7) ∧ True) ∧
  canStore w_11 w_6.heap.size 0 6 ∧
  let w_12 : World := setCs w_11 w_6.heap.size 0 [.slice A8 n8 c8, .slice A11 n11 c11, .slice A14 n14 c14, .slice A17 n17 c17, .slice A20_1 n20_1 c20_1, .slice none 0 0];
  (w_12.cell? ⟨w.heap.size, 4, none⟩ = some (.slice A19 n19 c19) ∧ w_12.cell? ⟨w.heap.size, 3, none⟩ = some (.slice A16 n16 c16) ∧ w_12.cell? ⟨w.heap.size, 2, none⟩ = some (.slice A13 n13 c13) ∧ w_12.cell? ⟨w.heap.size, 1, none⟩ = some (.slice A10 n10 c10) ∧ w_12.cell? ⟨w.heap.size, 0, none⟩ = some (.slice A7 n7 c7) ∧ True) ∧
  ([.pointer (some ⟨w.heap.size, 0, none⟩), .pointer (some ⟨w_1.heap.size, 0, none⟩)] : List Value) = ([.pointer (some ⟨w.heap.size, 0, none⟩), .pointer (some ⟨w_1.heap.size, 0, none⟩)] : List Value) ∧ M w_6.heap.size 0 w_12) ∧ True) ∧
  (let w_13 : World := World.alloc w_5 (.cells #[.slice none 0 0, .slice none 0 0, .slice none 0 0, .slice none 0 0, .slice none 0 0, .slice none 0 0] 32);
  (w_13.cell? ⟨w.heap.size, 4, none⟩ = some (.slice A19 n19 c19) ∧ w_13.cell? ⟨w.heap.size, 3, none⟩ = some (.slice A16 n16 c16) ∧ w_13.cell? ⟨w.heap.size, 2, none⟩ = some (.slice A13 n13 c13) ∧ w_13.cell? ⟨w.heap.size, 1, none⟩ = some (.slice A10 n10 c10) ∧ w_13.cell? ⟨w.heap.size, 0, none⟩ = some (.slice A7 n7 c7) ∧ True) ∧
  Calls Tryd.prog 14 #[.slice A16 n16 c16, .int .i64 0] w_13 fun e_7 w_14 =>
  ∃ (A17_1 : Option Addr) (n17_1 c17_1 : Nat),
  e_7 = .returned (.slice A17_1 n17_1 c17_1) ∧
  (w_14.cell? ⟨w.heap.size, 4, none⟩ = some (.slice A19 n19 c19) ∧ w_14.cell? ⟨w.heap.size, 3, none⟩ = some (.slice A16 n16 c16) ∧ w_14.cell? ⟨w.heap.size, 2, none⟩ = some (.slice A13 n13 c13) ∧ w_14.cell? ⟨w.heap.size, 1, none⟩ = some (.slice A10 n10 c10) ∧ w_14.cell? ⟨w.heap.size, 0, none⟩ = some (.slice A7 n7 c7) ∧ True) ∧
  Calls Tryd.prog 14 #[.slice A19 n19 c19, .int .i64 0] w_14 fun e_8 w_15 =>
  ∃ (A20_2 : Option Addr) (n20_2 c20_2 : Nat),
  e_8 = .returned (.slice A20_2 n20_2 c20_2) ∧
  (w_15.cell? ⟨w.heap.size, 4, none⟩ = some (.slice A19 n19 c19) ∧ w_15.cell? ⟨w.heap.size, 3, none⟩ = some (.slice A16 n16 c16) ∧ w_15.cell? ⟨w.heap.size, 2, none⟩ = some (.slice A13 n13 c13) ∧ w_15.cell? ⟨w.heap.size, 1, none⟩ = some (.slice A10 n10 c10) ∧ w_15.cell? ⟨w.heap.size, 0, none⟩ = some (.slice A7 n7 c7) ∧ True) ∧
  canStore w_15 w_5.heap.size 0 6 ∧
  let w_16 : World := setCs w_15 w_5.heap.size 0 [.slice A8 n8 c8, .slice A11 n11 c11, .slice A14 n14 c14, .slice A17_1 n17_1 c17_1, .slice A20_2 n20_2 c20_2, .slice none 0 0];
  (w_16.cell? ⟨w.heap.size, 4, none⟩ = some (.slice A19 n19 c19) ∧ w_16.cell? ⟨w.heap.size, 3, none⟩ = some (.slice A16 n16 c16) ∧ w_16.cell? ⟨w.heap.size, 2, none⟩ = some (.slice A13 n13 c13) ∧ w_16.cell? ⟨w.heap.size, 1, none⟩ = some (.slice A10 n10 c10) ∧ w_16.cell? ⟨w.heap.size, 0, none⟩ = some (.slice A7 n7 c7) ∧ True) ∧
  ([.pointer (some ⟨w.heap.size, 0, none⟩), .pointer (some ⟨w_1.heap.size, 0, none⟩)] : List Value) = ([.pointer (some ⟨w.heap.size, 0, none⟩), .pointer (some ⟨w_1.heap.size, 0, none⟩)] : List Value) ∧ M w_5.heap.size 0 w_16) ∧ True) ∧
  (let w_17 : World := World.alloc w_4 (.cells #[.slice none 0 0, .slice none 0 0, .slice none 0 0, .slice none 0 0, .slice none 0 0, .slice none 0 0] 32);
  (w_17.cell? ⟨w.heap.size, 4, none⟩ = some (.slice A19 n19 c19) ∧ w_17.cell? ⟨w.heap.size, 3, none⟩ = some (.slice A16 n16 c16) ∧ w_17.cell? ⟨w.heap.size, 2, none⟩ = some (.slice A13 n13 c13) ∧ w_17.cell? ⟨w.heap.size, 1, none⟩ = some (.slice A10 n10 c10) ∧ w_17.cell? ⟨w.heap.size, 0, none⟩ = some (.slice A7 n7 c7) ∧ True) ∧
  Calls Tryd.prog 37 #[.slice A13 n13 c13] w_17 fun e_9 w_18 =>
  ∃ (A14_1 : Option Addr) (n14_1 c14_1 : Nat),
  e_9 = .returned (.slice A14_1 n14_1 c14_1) ∧
  (w_18.cell? ⟨w.heap.size, 4, none⟩ = some (.slice A19 n19 c19) ∧ w_18.cell? ⟨w.heap.size, 3, none⟩ = some (.slice A16 n16 c16) ∧ w_18.cell? ⟨w.heap.size, 2, none⟩ = some (.slice A13 n13 c13) ∧ w_18.cell? ⟨w.heap.size, 1, none⟩ = some (.slice A10 n10 c10) ∧ w_18.cell? ⟨w.heap.size, 0, none⟩ = some (.slice A7 n7 c7) ∧ True) ∧
  Calls Tryd.prog 14 #[.slice A16 n16 c16, .int .i64 0] w_18 fun e_10 w_19 =>
  ∃ (A17_2 : Option Addr) (n17_2 c17_2 : Nat),
  e_10 = .returned (.slice A17_2 n17_2 c17_2) ∧
  (w_19.cell? ⟨w.heap.size, 4, none⟩ = some (.slice A19 n19 c19) ∧ w_19.cell? ⟨w.heap.size, 3, none⟩ = some (.slice A16 n16 c16) ∧ w_19.cell? ⟨w.heap.size, 2, none⟩ = some (.slice A13 n13 c13) ∧ w_19.cell? ⟨w.heap.size, 1, none⟩ = some (.slice A10 n10 c10) ∧ w_19.cell? ⟨w.heap.size, 0, none⟩ = some (.slice A7 n7 c7) ∧ True) ∧
  Calls Tryd.prog 14 #[.slice A19 n19 c19, .int .i64 0] w_19 fun e_11 w_20 =>
  ∃ (A20_3 : Option Addr) (n20_3 c20_3 : Nat),
  e_11 = .returned (.slice A20_3 n20_3 c20_3) ∧
  (w_20.cell? ⟨w.heap.size, 4, none⟩ = some (.slice A19 n19 c19) ∧ w_20.cell? ⟨w.heap.size, 3, none⟩ = some (.slice A16 n16 c16) ∧ w_20.cell? ⟨w.heap.size, 2, none⟩ = some (.slice A13 n13 c13) ∧ w_20.cell? ⟨w.heap.size, 1, none⟩ = some (.slice A10 n10 c10) ∧ w_20.cell? ⟨w.heap.size, 0, none⟩ = some (.slice A7 n7 c7) ∧ True) ∧
  canStore w_20 w_4.heap.size 0 6 ∧
  let w_21 : World := setCs w_20 w_4.heap.size 0 [.slice A8 n8 c8, .slice A11 n11 c11, .slice A14_1 n14_1 c14_1, .slice A17_2 n17_2 c17_2, .slice A20_3 n20_3 c20_3, .slice none 0 0];
  (w_21.cell? ⟨w.heap.size, 4, none⟩ = some (.slice A19 n19 c19) ∧ w_21.cell? ⟨w.heap.size, 3, none⟩ = some (.slice A16 n16 c16) ∧ w_21.cell? ⟨w.heap.size, 2, none⟩ = some (.slice A13 n13 c13) ∧ w_21.cell? ⟨w.heap.size, 1, none⟩ = some (.slice A10 n10 c10) ∧ w_21.cell? ⟨w.heap.size, 0, none⟩ = some (.slice A7 n7 c7) ∧ True) ∧
  ([.pointer (some ⟨w.heap.size, 0, none⟩), .pointer (some ⟨w_1.heap.size, 0, none⟩)] : List Value) = ([.pointer (some ⟨w.heap.size, 0, none⟩), .pointer (some ⟨w_1.heap.size, 0, none⟩)] : List Value) ∧ M w_4.heap.size 0 w_21) ∧ True) ∧
  (let w_22 : World := World.alloc w_3 (.cells #[.slice none 0 0, .slice none 0 0, .slice none 0 0, .slice none 0 0, .slice none 0 0, .slice none 0 0] 32);
  (w_22.cell? ⟨w.heap.size, 4, none⟩ = some (.slice A19 n19 c19) ∧ w_22.cell? ⟨w.heap.size, 3, none⟩ = some (.slice A16 n16 c16) ∧ w_22.cell? ⟨w.heap.size, 2, none⟩ = some (.slice A13 n13 c13) ∧ w_22.cell? ⟨w.heap.size, 1, none⟩ = some (.slice A10 n10 c10) ∧ w_22.cell? ⟨w.heap.size, 0, none⟩ = some (.slice A7 n7 c7) ∧ True) ∧
  Calls Tryd.prog 37 #[.slice A10 n10 c10] w_22 fun e_12 w_23 =>
  ∃ (A11_1 : Option Addr) (n11_1 c11_1 : Nat),
  e_12 = .returned (.slice A11_1 n11_1 c11_1) ∧
  (w_23.cell? ⟨w.heap.size, 4, none⟩ = some (.slice A19 n19 c19) ∧ w_23.cell? ⟨w.heap.size, 3, none⟩ = some (.slice A16 n16 c16) ∧ w_23.cell? ⟨w.heap.size, 2, none⟩ = some (.slice A13 n13 c13) ∧ w_23.cell? ⟨w.heap.size, 1, none⟩ = some (.slice A10 n10 c10) ∧ w_23.cell? ⟨w.heap.size, 0, none⟩ = some (.slice A7 n7 c7) ∧ True) ∧
  Calls Tryd.prog 37 #[.slice A13 n13 c13] w_23 fun e_13 w_24 =>
  ∃ (A14_2 : Option Addr) (n14_2 c14_2 : Nat),
  e_13 = .returned (.slice A14_2 n14_2 c14_2) ∧
  (w_24.cell? ⟨w.heap.size, 4, none⟩ = some (.slice A19 n19 c19) ∧ w_24.cell? ⟨w.heap.size, 3, none⟩ = some (.slice A16 n16 c16) ∧ w_24.cell? ⟨w.heap.size, 2, none⟩ = some (.slice A13 n13 c13) ∧ w_24.cell? ⟨w.heap.size, 1, none⟩ = some (.slice A10 n10 c10) ∧ w_24.cell? ⟨w.heap.size, 0, none⟩ = some (.slice A7 n7 c7) ∧ True) ∧
  Calls Tryd.prog 14 #[.slice A16 n16 c16, .int .i64 0] w_24 fun e_14 w_25 =>
  ∃ (A17_3 : Option Addr) (n17_3 c17_3 : Nat),
  e_14 = .returned (.slice A17_3 n17_3 c17_3) ∧
  (w_25.cell? ⟨w.heap.size, 4, none⟩ = some (.slice A19 n19 c19) ∧ w_25.cell? ⟨w.heap.size, 3, none⟩ = some (.slice A16 n16 c16) ∧ w_25.cell? ⟨w.heap.size, 2, none⟩ = some (.slice A13 n13 c13) ∧ w_25.cell? ⟨w.heap.size, 1, none⟩ = some (.slice A10 n10 c10) ∧ w_25.cell? ⟨w.heap.size, 0, none⟩ = some (.slice A7 n7 c7) ∧ True) ∧
  Calls Tryd.prog 14 #[.slice A19 n19 c19, .int .i64 0] w_25 fun e_15 w_26 =>
  ∃ (A20_4 : Option Addr) (n20_4 c20_4 : Nat),
  e_15 = .returned (.slice A20_4 n20_4 c20_4) ∧
  (w_26.cell? ⟨w.heap.size, 4, none⟩ = some (.slice A19 n19 c19) ∧ w_26.cell? ⟨w.heap.size, 3, none⟩ = some (.slice A16 n16 c16) ∧ w_26.cell? ⟨w.heap.size, 2, none⟩ = some (.slice A13 n13 c13) ∧ w_26.cell? ⟨w.heap.size, 1, none⟩ = some (.slice A10 n10 c10) ∧ w_26.cell? ⟨w.heap.size, 0, none⟩ = some (.slice A7 n7 c7) ∧ True) ∧
  canStore w_26 w_3.heap.size 0 6 ∧
  let w_27 : World := setCs w_26 w_3.heap.size 0 [.slice A8 n8 c8, .slice A11_1 n11_1 c11_1, .slice A14_2 n14_2 c14_2, .slice A17_3 n17_3 c17_3, .slice A20_4 n20_4 c20_4, .slice none 0 0];
  (w_27.cell? ⟨w.heap.size, 4, none⟩ = some (.slice A19 n19 c19) ∧ w_27.cell? ⟨w.heap.size, 3, none⟩ = some (.slice A16 n16 c16) ∧ w_27.cell? ⟨w.heap.size, 2, none⟩ = some (.slice A13 n13 c13) ∧ w_27.cell? ⟨w.heap.size, 1, none⟩ = some (.slice A10 n10 c10) ∧ w_27.cell? ⟨w.heap.size, 0, none⟩ = some (.slice A7 n7 c7) ∧ True) ∧
  ([.pointer (some ⟨w.heap.size, 0, none⟩), .pointer (some ⟨w_1.heap.size, 0, none⟩)] : List Value) = ([.pointer (some ⟨w.heap.size, 0, none⟩), .pointer (some ⟨w_1.heap.size, 0, none⟩)] : List Value) ∧ M w_3.heap.size 0 w_27) ∧ True) ∧
  (let w_28 : World := World.alloc w_2.drew (.cells #[.slice none 0 0, .slice none 0 0, .slice none 0 0, .slice none 0 0, .slice none 0 0, .slice none 0 0] 32);
  (w_28.cell? ⟨w.heap.size, 4, none⟩ = some (.slice A19 n19 c19) ∧ w_28.cell? ⟨w.heap.size, 3, none⟩ = some (.slice A16 n16 c16) ∧ w_28.cell? ⟨w.heap.size, 2, none⟩ = some (.slice A13 n13 c13) ∧ w_28.cell? ⟨w.heap.size, 1, none⟩ = some (.slice A10 n10 c10) ∧ w_28.cell? ⟨w.heap.size, 0, none⟩ = some (.slice A7 n7 c7) ∧ True) ∧
  Calls Tryd.prog 37 #[.slice A7 n7 c7] w_28 fun e_16 w_29 =>
  ∃ (A8_1 : Option Addr) (n8_1 c8_1 : Nat),
  e_16 = .returned (.slice A8_1 n8_1 c8_1) ∧
  (w_29.cell? ⟨w.heap.size, 4, none⟩ = some (.slice A19 n19 c19) ∧ w_29.cell? ⟨w.heap.size, 3, none⟩ = some (.slice A16 n16 c16) ∧ w_29.cell? ⟨w.heap.size, 2, none⟩ = some (.slice A13 n13 c13) ∧ w_29.cell? ⟨w.heap.size, 1, none⟩ = some (.slice A10 n10 c10) ∧ w_29.cell? ⟨w.heap.size, 0, none⟩ = some (.slice A7 n7 c7) ∧ True) ∧
  Calls Tryd.prog 37 #[.slice A10 n10 c10] w_29 fun e_17 w_30 =>
  ∃ (A11_2 : Option Addr) (n11_2 c11_2 : Nat),
  e_17 = .returned (.slice A11_2 n11_2 c11_2) ∧
  (w_30.cell? ⟨w.heap.size, 4, none⟩ = some (.slice A19 n19 c19) ∧ w_30.cell? ⟨w.heap.size, 3, none⟩ = some (.slice A16 n16 c16) ∧ w_30.cell? ⟨w.heap.size, 2, none⟩ = some (.slice A13 n13 c13) ∧ w_30.cell? ⟨w.heap.size, 1, none⟩ = some (.slice A10 n10 c10) ∧ w_30.cell? ⟨w.heap.size, 0, none⟩ = some (.slice A7 n7 c7) ∧ True) ∧
  Calls Tryd.prog 37 #[.slice A13 n13 c13] w_30 fun e_18 w_31 =>
  ∃ (A14_3 : Option Addr) (n14_3 c14_3 : Nat),
  e_18 = .returned (.slice A14_3 n14_3 c14_3) ∧
  (w_31.cell? ⟨w.heap.size, 4, none⟩ = some (.slice A19 n19 c19) ∧ w_31.cell? ⟨w.heap.size, 3, none⟩ = some (.slice A16 n16 c16) ∧ w_31.cell? ⟨w.heap.size, 2, none⟩ = some (.slice A13 n13 c13) ∧ w_31.cell? ⟨w.heap.size, 1, none⟩ = some (.slice A10 n10 c10) ∧ w_31.cell? ⟨w.heap.size, 0, none⟩ = some (.slice A7 n7 c7) ∧ True) ∧
  Calls Tryd.prog 14 #[.slice A16 n16 c16, .int .i64 0] w_31 fun e_19 w_32 =>
  ∃ (A17_4 : Option Addr) (n17_4 c17_4 : Nat),
  e_19 = .returned (.slice A17_4 n17_4 c17_4) ∧
  (w_32.cell? ⟨w.heap.size, 4, none⟩ = some (.slice A19 n19 c19) ∧ w_32.cell? ⟨w.heap.size, 3, none⟩ = some (.slice A16 n16 c16) ∧ w_32.cell? ⟨w.heap.size, 2, none⟩ = some (.slice A13 n13 c13) ∧ w_32.cell? ⟨w.heap.size, 1, none⟩ = some (.slice A10 n10 c10) ∧ w_32.cell? ⟨w.heap.size, 0, none⟩ = some (.slice A7 n7 c7) ∧ True) ∧
  Calls Tryd.prog 14 #[.slice A19 n19 c19, .int .i64 0] w_32 fun e_20 w_33 =>
  ∃ (A20_5 : Option Addr) (n20_5 c20_5 : Nat),
  e_20 = .returned (.slice A20_5 n20_5 c20_5) ∧
  (w_33.cell? ⟨w.heap.size, 4, none⟩ = some (.slice A19 n19 c19) ∧ w_33.cell? ⟨w.heap.size, 3, none⟩ = some (.slice A16 n16 c16) ∧ w_33.cell? ⟨w.heap.size, 2, none⟩ = some (.slice A13 n13 c13) ∧ w_33.cell? ⟨w.heap.size, 1, none⟩ = some (.slice A10 n10 c10) ∧ w_33.cell? ⟨w.heap.size, 0, none⟩ = some (.slice A7 n7 c7) ∧ True) ∧
  canStore w_33 w_2.heap.size 0 6 ∧
  let w_34 : World := setCs w_33 w_2.heap.size 0 [.slice A8_1 n8_1 c8_1, .slice A11_2 n11_2 c11_2, .slice A14_3 n14_3 c14_3, .slice A17_4 n17_4 c17_4, .slice A20_5 n20_5 c20_5, .slice none 0 0];
  (w_34.cell? ⟨w.heap.size, 4, none⟩ = some (.slice A19 n19 c19) ∧ w_34.cell? ⟨w.heap.size, 3, none⟩ = some (.slice A16 n16 c16) ∧ w_34.cell? ⟨w.heap.size, 2, none⟩ = some (.slice A13 n13 c13) ∧ w_34.cell? ⟨w.heap.size, 1, none⟩ = some (.slice A10 n10 c10) ∧ w_34.cell? ⟨w.heap.size, 0, none⟩ = some (.slice A7 n7 c7) ∧ True) ∧
  ([.pointer (some ⟨w.heap.size, 0, none⟩), .pointer (some ⟨w_1.heap.size, 0, none⟩)] : List Value) = ([.pointer (some ⟨w.heap.size, 0, none⟩), .pointer (some ⟨w_1.heap.size, 0, none⟩)] : List Value) ∧ M w_2.heap.size 0 w_34) ∧ True) ∧
  ∀ d : Env, ∀ (b3 o3 : Nat) (w_35 : World), M b3 o3 w_35 →
  ∃ I : Int → World → Nat → Prop,
  (∃ n, I 0 w_35 n) ∧
  ∀ d_1 : Env, ∀ (x4 : Int) (w_36 : World) (r : Nat), I x4 w_36 r →
  ∃ (A24 : Option Addr) (n24 c24 : Nat),
  w_36.cell? ⟨w.heap.size, 5, none⟩ = some (.slice A24 n24 c24) ∧
  sel (decide ((x4 : Int) < ((n24 : Int) : Int))) (
  ∃ (A31 : Option Addr) (n31 c31 : Nat),
  w_36.cell? ⟨w.heap.size, 5, none⟩ = some (.slice A31 n31 c31) ∧
  (0 : Int) ≤ x4 ∧ x4 < (n31 : Int) ∧
  needPtr A31 fun b33 o33 =>
  ∃ (A34 : Option Addr) (n34 c34 : Nat),
  w_36.cell? ⟨b33, o33 + x4.toNat * 1, none⟩ = some (.slice A34 n34 c34) ∧
  ∃ (A35 : Option Addr) (n35 c35 : Nat),
  ∃ w_37 : World, (Builtin.append_ #[29, 29] 29 #[.slice none 0 0, .slice A34 n34 c34]).run Tryd.prog w_36 = .ok (.slice A35 n35 c35) w_37 ∧
  ∃ (A37 : Option Addr) (n37 c37 : Nat),
  w_37.cell? ⟨b3, o3 + 5, none⟩ = some (.slice A37 n37 c37) ∧
  let w_38 : World := World.alloc w_37 (.cells #[.slice A35 n35 c35] 29);
  ∃ (A40 : Option Addr) (n40 c40 : Nat),
  ∃ w_39 : World, (Builtin.append_ #[30, 30] 30 #[.slice A37 n37 c37, .slice (some ⟨w_37.heap.size, 0, none⟩) 1 1]).run Tryd.prog w_38 = .ok (.slice A40 n40 c40) w_39 ∧
  canStore w_39 b3 (o3 + 5) 1 ∧
  let w_40 : World := setCs w_39 b3 (o3 + 5) [.slice A40 n40 c40];
  let i28 : Int := IntKind.i64.wrap (x4 + 1);
  ([.pointer (some ⟨w.heap.size, 0, none⟩), .pointer (some ⟨w_1.heap.size, 0, none⟩), .pointer (some ⟨b3, o3, none⟩)] : List Value) = ([.pointer (some ⟨w.heap.size, 0, none⟩), .pointer (some ⟨w_1.heap.size, 0, none⟩), .pointer (some ⟨b3, o3, none⟩)] : List Value) ∧ ∃ m, m < r ∧ I i28 w_40 m) (
  ∃ (A42_0 : Option Addr) (n42_0 c42_0 : Nat),
  w_36.cell? ⟨b3, o3, none⟩ = some (.slice A42_0 n42_0 c42_0) ∧
  ∃ (A42_1 : Option Addr) (n42_1 c42_1 : Nat),
  w_36.cell? ⟨b3, o3 + 1, none⟩ = some (.slice A42_1 n42_1 c42_1) ∧
  ∃ (A42_2 : Option Addr) (n42_2 c42_2 : Nat),
  w_36.cell? ⟨b3, o3 + 1 + 1, none⟩ = some (.slice A42_2 n42_2 c42_2) ∧
  ∃ (A42_3 : Option Addr) (n42_3 c42_3 : Nat),
  w_36.cell? ⟨b3, o3 + 1 + 1 + 1, none⟩ = some (.slice A42_3 n42_3 c42_3) ∧
  ∃ (A42_4 : Option Addr) (n42_4 c42_4 : Nat),
  w_36.cell? ⟨b3, o3 + 1 + 1 + 1 + 1, none⟩ = some (.slice A42_4 n42_4 c42_4) ∧
  ∃ (A42_5 : Option Addr) (n42_5 c42_5 : Nat),
  w_36.cell? ⟨b3, o3 + 1 + 1 + 1 + 1 + 1, none⟩ = some (.slice A42_5 n42_5 c42_5) ∧
  canStore w_36 w_1.heap.size 0 6 ∧
  let w_41 : World := setCs w_36 w_1.heap.size 0 [.slice A42_0 n42_0 c42_0, .slice A42_1 n42_1 c42_1, .slice A42_2 n42_2 c42_2, .slice A42_3 n42_3 c42_3, .slice A42_4 n42_4 c42_4, .slice A42_5 n42_5 c42_5];
  ∃ (A2_0 : Option Addr) (n2_0 c2_0 : Nat),
  w_41.cell? ⟨w_1.heap.size, 0, none⟩ = some (.slice A2_0 n2_0 c2_0) ∧
  ∃ (A2_1 : Option Addr) (n2_1 c2_1 : Nat),
  w_41.cell? ⟨w_1.heap.size, 1, none⟩ = some (.slice A2_1 n2_1 c2_1) ∧
  ∃ (A2_2 : Option Addr) (n2_2 c2_2 : Nat),
  w_41.cell? ⟨w_1.heap.size, 2, none⟩ = some (.slice A2_2 n2_2 c2_2) ∧
  ∃ (A2_3 : Option Addr) (n2_3 c2_3 : Nat),
  w_41.cell? ⟨w_1.heap.size, 3, none⟩ = some (.slice A2_3 n2_3 c2_3) ∧
  ∃ (A2_4 : Option Addr) (n2_4 c2_4 : Nat),
  w_41.cell? ⟨w_1.heap.size, 4, none⟩ = some (.slice A2_4 n2_4 c2_4) ∧
  ∃ (A2_5 : Option Addr) (n2_5 c2_5 : Nat),
  w_41.cell? ⟨w_1.heap.size, 5, none⟩ = some (.slice A2_5 n2_5 c2_5) ∧
  R (.agg #[.slice A2_0 n2_0 c2_0, .slice A2_1 n2_1 c2_1, .slice A2_2 n2_2 c2_2, .slice A2_3 n2_3 c2_3, .slice A2_4 n2_4 c2_4, .slice A2_5 n2_5 c2_5]) w_41)
theorem f13.eq (Aa0_0 : Option Addr) (na0_0 ca0_0 : Nat) (Aa0_1 : Option Addr) (na0_1 ca0_1 : Nat) (Aa0_2 : Option Addr) (na0_2 ca0_2 : Nat) (Aa0_3 : Option Addr) (na0_3 ca0_3 : Nat) (Aa0_4 : Option Addr) (na0_4 ca0_4 : Nat) (Aa0_5 : Option Addr) (na0_5 ca0_5 : Nat) (w : World) (R : Value → World → Prop) : f13.VC Aa0_0 na0_0 ca0_0 Aa0_1 na0_1 ca0_1 Aa0_2 na0_2 ca0_2 Aa0_3 na0_3 ca0_3 Aa0_4 na0_4 ca0_4 Aa0_5 na0_5 ca0_5 w R = funV Tryd.prog Tryd.f13 f13.AL f13.AC #[.agg #[.slice Aa0_0 na0_0 ca0_0, .slice Aa0_1 na0_1 ca0_1, .slice Aa0_2 na0_2 ca0_2, .slice Aa0_3 na0_3 ca0_3, .slice Aa0_4 na0_4 ca0_4, .slice Aa0_5 na0_5 ca0_5]] w R := by kernel_rfl
theorem f13.calls {Aa0_0 : Option Addr} {na0_0 ca0_0 : Nat} {Aa0_1 : Option Addr} {na0_1 ca0_1 : Nat} {Aa0_2 : Option Addr} {na0_2 ca0_2 : Nat} {Aa0_3 : Option Addr} {na0_3 ca0_3 : Nat} {Aa0_4 : Option Addr} {na0_4 ca0_4 : Nat} {Aa0_5 : Option Addr} {na0_5 ca0_5 : Nat} {w : World} {R : Value → World → Prop} (h : f13.VC Aa0_0 na0_0 ca0_0 Aa0_1 na0_1 ca0_1 Aa0_2 na0_2 ca0_2 Aa0_3 na0_3 ca0_3 Aa0_4 na0_4 ca0_4 Aa0_5 na0_5 ca0_5 w R) : Calls Tryd.prog 13 #[.agg #[.slice Aa0_0 na0_0 ca0_0, .slice Aa0_1 na0_1 ca0_1, .slice Aa0_2 na0_2 ca0_2, .slice Aa0_3 na0_3 ca0_3, .slice Aa0_4 na0_4 ca0_4, .slice Aa0_5 na0_5 ca0_5]] w fun e w' => ∃ v, e = .returned v ∧ R v w' :=
  funV_sound (fn := Tryd.f13) (AL := f13.AL) (AC := f13.AC) W22.mixed (by kernel_rfl) (by rw [← f13.eq Aa0_0 na0_0 ca0_0 Aa0_1 na0_1 ca0_1 Aa0_2 na0_2 ca0_2 Aa0_3 na0_3 ca0_3 Aa0_4 na0_4 ca0_4 Aa0_5 na0_5 ca0_5]; exact h)

/-- gatehouse/gatehouselaw12.texts -/
def f37.AL : Nat → Option Ann := fun _ => none
def f37.AC : Nat → Option Ann := fun _ => none
def f37.VC (Aa0 : Option Addr) (na0 ca0 : Nat) (w : World) (R : Value → World → Prop) : Prop :=
  ∃ (A6 : Option Addr) (n6 c6 : Nat),
  ∃ w_1 : World, (Builtin.append_ #[27, 27] 27 #[.slice none 0 0, .slice Aa0 na0 ca0]).run Tryd.prog w = .ok (.slice A6 n6 c6) w_1 ∧
  R (.slice A6 n6 c6) w_1
theorem f37.eq (Aa0 : Option Addr) (na0 ca0 : Nat) (w : World) (R : Value → World → Prop) : f37.VC Aa0 na0 ca0 w R = funV Tryd.prog Tryd.f37 f37.AL f37.AC #[.slice Aa0 na0 ca0] w R := by kernel_rfl
theorem f37.calls {Aa0 : Option Addr} {na0 ca0 : Nat} {w : World} {R : Value → World → Prop} (h : f37.VC Aa0 na0 ca0 w R) : Calls Tryd.prog 37 #[.slice Aa0 na0 ca0] w fun e w' => ∃ v, e = .returned v ∧ R v w' :=
  funV_sound (fn := Tryd.f37) (AL := f37.AL) (AC := f37.AC) W22.mixed (by kernel_rfl) (by rw [← f37.eq Aa0 na0 ca0]; exact h)

end Go.Proofs.YtjmlfknogjaemaaDoor
