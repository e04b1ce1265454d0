/- The plain statements of some functions, printed by vcgen.py. -/
import Derived.Test.YtjmlfknogjaemaaDoorM4
import Derived.Test.YtjmlfknogjaemaaDoorProg
import Derived.KernelRfl
set_option maxRecDepth 100000
set_option linter.unusedVariables false
namespace Go.Proofs.YtjmlfknogjaemaaDoor
open Go Go.Proofs.YtjmlfknogjaemaaDoor.Vc
theorem W16.mixed : Tryd.prog.follows .mixedOrders = true := by kernel_rfl
/-- gatehouse/page.Read -/
def f16.AL : Nat → Option Ann := fun r => match r with | 23 => some ⟨[(151, .int .i64)], [0, 5, 7, 8, 12, 14, 149, 150]⟩ | 27 => some ⟨[(17, .slice), (160, .int .i64)], [0, 5, 7, 8, 12, 14, 16, 149, 150, 151, 158, 159]⟩ | _ => none
def f16.AC : Nat → Option Ann := fun _ => none
def f16.VC (Aa0 : Option Addr) (na0 ca0 : Nat) (a1 : Nat) (w : World) (R : Value → World → Prop) : Prop :=
  let w_1 : World := World.alloc w (.cells #[.slice none 0 0, .slice none 0 0, .slice none 0 0, .slice none 0 0, .slice none 0 0, .slice none 0 0] 32);
  Calls Tryd.prog 38 #[.slice Aa0 na0 ca0] w_1 fun e_1 w_2 =>
  ∃ (x25 : Int),
  e_1 = .returned (.int .i64 x25) ∧
  sel ((x25 : Int) == (0 : Int)) (
  canStore w_2 w.heap.size 0 6 ∧
  let w_3 : World := setCs w_2 w.heap.size 0 [.slice none 0 0, .slice none 0 0, .slice none 0 0, .slice none 0 0, .slice none 0 0, .slice none 0 0];
  ∃ (A5_0 : Option Addr) (n5_0 c5_0 : Nat),
  w_3.cell? ⟨w.heap.size, 0, none⟩ = some (.slice A5_0 n5_0 c5_0) ∧
  ∃ (A5_1 : Option Addr) (n5_1 c5_1 : Nat),
  w_3.cell? ⟨w.heap.size, 1, none⟩ = some (.slice A5_1 n5_1 c5_1) ∧
  ∃ (A5_2 : Option Addr) (n5_2 c5_2 : Nat),
  w_3.cell? ⟨w.heap.size, 2, none⟩ = some (.slice A5_2 n5_2 c5_2) ∧
  ∃ (A5_3 : Option Addr) (n5_3 c5_3 : Nat),
  w_3.cell? ⟨w.heap.size, 3, none⟩ = some (.slice A5_3 n5_3 c5_3) ∧
  ∃ (A5_4 : Option Addr) (n5_4 c5_4 : Nat),
  w_3.cell? ⟨w.heap.size, 4, none⟩ = some (.slice A5_4 n5_4 c5_4) ∧
  ∃ (A5_5 : Option Addr) (n5_5 c5_5 : Nat),
  w_3.cell? ⟨w.heap.size, 5, none⟩ = some (.slice A5_5 n5_5 c5_5) ∧
  R (.tuple #[.int .i64 0, .agg #[.slice A5_0 n5_0 c5_0, .slice A5_1 n5_1 c5_1, .slice A5_2 n5_2 c5_2, .slice A5_3 n5_3 c5_3, .slice A5_4 n5_4 c5_4, .slice A5_5 n5_5 c5_5], .int .i64 120]) w_3) (
  4 ≤ na0 ∧
  needPtr Aa0 fun b30 o30 =>
  ∃ (x31_0 : Int),
  w_2.cell? ⟨b30, o30, none⟩ = some (.int .i64 x31_0) ∧
  ∃ (x31_1 : Int),
  w_2.cell? ⟨b30, o30 + 1, none⟩ = some (.int .i64 x31_1) ∧
  ∃ (x31_2 : Int),
  w_2.cell? ⟨b30, o30 + 1 + 1, none⟩ = some (.int .i64 x31_2) ∧
  ∃ (x31_3 : Int),
  w_2.cell? ⟨b30, o30 + 1 + 1 + 1, none⟩ = some (.int .i64 x31_3) ∧
  let w_4 : World := World.alloc w_2 (.cells #[.int .i64 0, .int .i64 0, .int .i64 0, .int .i64 0] 66);
  canStore w_4 w_2.heap.size 0 4 ∧
  let w_5 : World := setCs w_4 w_2.heap.size 0 [.int .i64 x31_0, .int .i64 x31_1, .int .i64 x31_2, .int .i64 x31_3];
  (0 : Int) ≤ 0 ∧ 0 < (4 : Int) ∧
  ∃ (x33 : Int),
  w_5.cell? ⟨w_2.heap.size, 0, none⟩ = some (.int .i64 x33) ∧
  sel (decide ((1 : Int) ≤ (x33 : Int))) (
  (0 : Int) ≤ 0 ∧ 0 < (4 : Int) ∧
  ∃ (x37 : Int),
  w_5.cell? ⟨w_2.heap.size, 0, none⟩ = some (.int .i64 x37) ∧
  sel (decide ((x37 : Int) ≤ (2147483647 : Int))) (
  (0 : Int) ≤ 2 ∧ 2 < (4 : Int) ∧
  ∃ (x42 : Int),
  w_5.cell? ⟨w_2.heap.size, 2, none⟩ = some (.int .i64 x42) ∧
  sel (decide ((0 : Int) ≤ (x42 : Int))) (
  (0 : Int) ≤ 2 ∧ 2 < (4 : Int) ∧
  ∃ (x47 : Int),
  w_5.cell? ⟨w_2.heap.size, 2, none⟩ = some (.int .i64 x47) ∧
  sel (decide ((x47 : Int) ≤ (64 : Int))) (
  (0 : Int) ≤ 3 ∧ 3 < (4 : Int) ∧
  ∃ (x52 : Int),
  w_5.cell? ⟨w_2.heap.size, 3, none⟩ = some (.int .i64 x52) ∧
  sel (decide ((0 : Int) ≤ (x52 : Int))) (
  (0 : Int) ≤ 3 ∧ 3 < (4 : Int) ∧
  ∃ (x57 : Int),
  w_5.cell? ⟨w_2.heap.size, 3, none⟩ = some (.int .i64 x57) ∧
  sel (!(decide ((x57 : Int) ≤ (64 : Int)))) (
  canStore w_5 w.heap.size 0 6 ∧
  let w_6 : World := setCs w_5 w.heap.size 0 [.slice none 0 0, .slice none 0 0, .slice none 0 0, .slice none 0 0, .slice none 0 0, .slice none 0 0];
  ∃ (A5_0_1 : Option Addr) (n5_0_1 c5_0_1 : Nat),
  w_6.cell? ⟨w.heap.size, 0, none⟩ = some (.slice A5_0_1 n5_0_1 c5_0_1) ∧
  ∃ (A5_1_1 : Option Addr) (n5_1_1 c5_1_1 : Nat),
  w_6.cell? ⟨w.heap.size, 1, none⟩ = some (.slice A5_1_1 n5_1_1 c5_1_1) ∧
  ∃ (A5_2_1 : Option Addr) (n5_2_1 c5_2_1 : Nat),
  w_6.cell? ⟨w.heap.size, 2, none⟩ = some (.slice A5_2_1 n5_2_1 c5_2_1) ∧
  ∃ (A5_3_1 : Option Addr) (n5_3_1 c5_3_1 : Nat),
  w_6.cell? ⟨w.heap.size, 3, none⟩ = some (.slice A5_3_1 n5_3_1 c5_3_1) ∧
  ∃ (A5_4_1 : Option Addr) (n5_4_1 c5_4_1 : Nat),
  w_6.cell? ⟨w.heap.size, 4, none⟩ = some (.slice A5_4_1 n5_4_1 c5_4_1) ∧
  ∃ (A5_5_1 : Option Addr) (n5_5_1 c5_5_1 : Nat),
  w_6.cell? ⟨w.heap.size, 5, none⟩ = some (.slice A5_5_1 n5_5_1 c5_5_1) ∧
  R (.tuple #[.int .i64 0, .agg #[.slice A5_0_1 n5_0_1 c5_0_1, .slice A5_1_1 n5_1_1 c5_1_1, .slice A5_2_1 n5_2_1 c5_2_1, .slice A5_3_1 n5_3_1 c5_3_1, .slice A5_4_1 n5_4_1 c5_4_1, .slice A5_5_1 n5_5_1 c5_5_1], .int .i64 120]) w_6) (
  let i66 : Int := IntKind.i64.wrap (2 * x25);
  let i67 : Int := IntKind.i64.wrap (4 + i66);
  (0 : Int) ≤ 2 ∧ 2 < (4 : Int) ∧
  ∃ (x69 : Int),
  w_5.cell? ⟨w_2.heap.size, 2, none⟩ = some (.int .i64 x69) ∧
  (0 : Int) ≤ 3 ∧ 3 < (4 : Int) ∧
  ∃ (x71 : Int),
  w_5.cell? ⟨w_2.heap.size, 3, none⟩ = some (.int .i64 x71) ∧
  let i72 : Int := IntKind.i64.wrap (x69 * x71);
  let i73 : Int := IntKind.i64.wrap (i67 + i72);
  sel (((na0 : Int) : Int) != (i73 : Int)) (
  canStore w_5 w.heap.size 0 6 ∧
  let w_7 : World := setCs w_5 w.heap.size 0 [.slice none 0 0, .slice none 0 0, .slice none 0 0, .slice none 0 0, .slice none 0 0, .slice none 0 0];
  ∃ (A5_0_2 : Option Addr) (n5_0_2 c5_0_2 : Nat),
  w_7.cell? ⟨w.heap.size, 0, none⟩ = some (.slice A5_0_2 n5_0_2 c5_0_2) ∧
  ∃ (A5_1_2 : Option Addr) (n5_1_2 c5_1_2 : Nat),
  w_7.cell? ⟨w.heap.size, 1, none⟩ = some (.slice A5_1_2 n5_1_2 c5_1_2) ∧
  ∃ (A5_2_2 : Option Addr) (n5_2_2 c5_2_2 : Nat),
  w_7.cell? ⟨w.heap.size, 2, none⟩ = some (.slice A5_2_2 n5_2_2 c5_2_2) ∧
  ∃ (A5_3_2 : Option Addr) (n5_3_2 c5_3_2 : Nat),
  w_7.cell? ⟨w.heap.size, 3, none⟩ = some (.slice A5_3_2 n5_3_2 c5_3_2) ∧
  ∃ (A5_4_2 : Option Addr) (n5_4_2 c5_4_2 : Nat),
  w_7.cell? ⟨w.heap.size, 4, none⟩ = some (.slice A5_4_2 n5_4_2 c5_4_2) ∧
  ∃ (A5_5_2 : Option Addr) (n5_5_2 c5_5_2 : Nat),
  w_7.cell? ⟨w.heap.size, 5, none⟩ = some (.slice A5_5_2 n5_5_2 c5_5_2) ∧
  R (.tuple #[.int .i64 0, .agg #[.slice A5_0_2 n5_0_2 c5_0_2, .slice A5_1_2 n5_1_2 c5_1_2, .slice A5_2_2 n5_2_2 c5_2_2, .slice A5_3_2 n5_3_2 c5_3_2, .slice A5_4_2 n5_4_2 c5_4_2, .slice A5_5_2 n5_5_2 c5_5_2], .int .i64 120]) w_7) (
  Calls Tryd.prog 39 #[.slice Aa0 na0 ca0, .int .i64 x25, .pointer (some ⟨a1, 0, none⟩)] w_5 fun e_2 w_8 =>
  ∃ (A81_0_0 : Option Addr) (n81_0_0 c81_0_0 : Nat) (A81_0_1 : Option Addr) (n81_0_1 c81_0_1 : Nat) (A81_0_2 : Option Addr) (n81_0_2 c81_0_2 : Nat) (A81_0_3 : Option Addr) (n81_0_3 c81_0_3 : Nat) (b81_1 : Bool),
  e_2 = .returned (.tuple #[.agg #[.slice A81_0_0 n81_0_0 c81_0_0, .slice A81_0_1 n81_0_1 c81_0_1, .slice A81_0_2 n81_0_2 c81_0_2, .slice A81_0_3 n81_0_3 c81_0_3], .bool b81_1]) ∧
  let w_9 : World := World.alloc w_8 (.cells #[.slice none 0 0, .slice none 0 0, .slice none 0 0, .slice none 0 0] 68);
  canStore w_9 w_8.heap.size 0 4 ∧
  let w_10 : World := setCs w_9 w_8.heap.size 0 [.slice A81_0_0 n81_0_0 c81_0_0, .slice A81_0_1 n81_0_1 c81_0_1, .slice A81_0_2 n81_0_2 c81_0_2, .slice A81_0_3 n81_0_3 c81_0_3];
  sel (!b81_1) (
  canStore w_10 w.heap.size 0 6 ∧
  let w_11 : World := setCs w_10 w.heap.size 0 [.slice none 0 0, .slice none 0 0, .slice none 0 0, .slice none 0 0, .slice none 0 0, .slice none 0 0];
  ∃ (A5_0_3 : Option Addr) (n5_0_3 c5_0_3 : Nat),
  w_11.cell? ⟨w.heap.size, 0, none⟩ = some (.slice A5_0_3 n5_0_3 c5_0_3) ∧
  ∃ (A5_1_3 : Option Addr) (n5_1_3 c5_1_3 : Nat),
  w_11.cell? ⟨w.heap.size, 1, none⟩ = some (.slice A5_1_3 n5_1_3 c5_1_3) ∧
  ∃ (A5_2_3 : Option Addr) (n5_2_3 c5_2_3 : Nat),
  w_11.cell? ⟨w.heap.size, 2, none⟩ = some (.slice A5_2_3 n5_2_3 c5_2_3) ∧
  ∃ (A5_3_3 : Option Addr) (n5_3_3 c5_3_3 : Nat),
  w_11.cell? ⟨w.heap.size, 3, none⟩ = some (.slice A5_3_3 n5_3_3 c5_3_3) ∧
  ∃ (A5_4_3 : Option Addr) (n5_4_3 c5_4_3 : Nat),
  w_11.cell? ⟨w.heap.size, 4, none⟩ = some (.slice A5_4_3 n5_4_3 c5_4_3) ∧
  ∃ (A5_5_3 : Option Addr) (n5_5_3 c5_5_3 : Nat),
  w_11.cell? ⟨w.heap.size, 5, none⟩ = some (.slice A5_5_3 n5_5_3 c5_5_3) ∧
  R (.tuple #[.int .i64 0, .agg #[.slice A5_0_3 n5_0_3 c5_0_3, .slice A5_1_3 n5_1_3 c5_1_3, .slice A5_2_3 n5_2_3 c5_2_3, .slice A5_3_3 n5_3_3 c5_3_3, .slice A5_4_3 n5_4_3 c5_4_3, .slice A5_5_3 n5_5_3 c5_5_3], .int .i64 120]) w_11) (
  (0 : Int) ≤ 3 ∧ 3 < (4 : Int) ∧
  ∃ (A88 : Option Addr) (n88 c88 : Nat),
  w_10.cell? ⟨w_8.heap.size, 3, none⟩ = some (.slice A88 n88 c88) ∧
  (0 : Int) ≤ 1 ∧ 1 < (4 : Int) ∧
  ∃ (A91 : Option Addr) (n91 c91 : Nat),
  w_10.cell? ⟨w_8.heap.size, 1, none⟩ = some (.slice A91 n91 c91) ∧
  let i93 : Int := IntKind.i64.wrap ((n88 : Int) + (n91 : Int));
  (0 : Int) ≤ 2 ∧ 2 < (4 : Int) ∧
  ∃ (A95 : Option Addr) (n95 c95 : Nat),
  w_10.cell? ⟨w_8.heap.size, 2, none⟩ = some (.slice A95 n95 c95) ∧
  let i97 : Int := IntKind.i64.wrap (i93 + (n95 : Int));
  ∃ (A98 : Option Addr) (n98 c98 : Nat),
  ∃ w_12 : World, (Instr.makeSlice 27 (.int .i64 i97) (.int .i64 i97)).run Tryd.prog w_10 = .ok (.slice A98 n98 c98) w_12 ∧
  Calls Tryd.prog 26 #[.agg #[.slice A98 n98 c98, .slice none 0 0, .slice none 0 0, .slice none 0 0, .slice none 0 0, .slice none 0 0]] w_12 fun e_3 w_13 =>
  ∃ (x100 : Int),
  e_3 = .returned (.int .i64 x100) ∧
  sel ((x100 : Int) != (x25 : Int)) (
  canStore w_13 w.heap.size 0 6 ∧
  let w_14 : World := setCs w_13 w.heap.size 0 [.slice none 0 0, .slice none 0 0, .slice none 0 0, .slice none 0 0, .slice none 0 0, .slice none 0 0];
  ∃ (A5_0_4 : Option Addr) (n5_0_4 c5_0_4 : Nat),
  w_14.cell? ⟨w.heap.size, 0, none⟩ = some (.slice A5_0_4 n5_0_4 c5_0_4) ∧
  ∃ (A5_1_4 : Option Addr) (n5_1_4 c5_1_4 : Nat),
  w_14.cell? ⟨w.heap.size, 1, none⟩ = some (.slice A5_1_4 n5_1_4 c5_1_4) ∧
  ∃ (A5_2_4 : Option Addr) (n5_2_4 c5_2_4 : Nat),
  w_14.cell? ⟨w.heap.size, 2, none⟩ = some (.slice A5_2_4 n5_2_4 c5_2_4) ∧
  ∃ (A5_3_4 : Option Addr) (n5_3_4 c5_3_4 : Nat),
  w_14.cell? ⟨w.heap.size, 3, none⟩ = some (.slice A5_3_4 n5_3_4 c5_3_4) ∧
  ∃ (A5_4_4 : Option Addr) (n5_4_4 c5_4_4 : Nat),
  w_14.cell? ⟨w.heap.size, 4, none⟩ = some (.slice A5_4_4 n5_4_4 c5_4_4) ∧
  ∃ (A5_5_4 : Option Addr) (n5_5_4 c5_5_4 : Nat),
  w_14.cell? ⟨w.heap.size, 5, none⟩ = some (.slice A5_5_4 n5_5_4 c5_5_4) ∧
  R (.tuple #[.int .i64 0, .agg #[.slice A5_0_4 n5_0_4 c5_0_4, .slice A5_1_4 n5_1_4 c5_1_4, .slice A5_2_4 n5_2_4 c5_2_4, .slice A5_3_4 n5_3_4 c5_3_4, .slice A5_4_4 n5_4_4 c5_4_4, .slice A5_5_4 n5_5_4 c5_5_4], .int .i64 120]) w_14) (
  let w_15 : World := World.alloc w_13 (.cells #[.slice none 0 0, .slice none 0 0, .slice none 0 0, .slice none 0 0, .slice none 0 0, .slice none 0 0] 32);
  (0 : Int) ≤ 3 ∧ 3 < (4 : Int) ∧
  ∃ (A107 : Option Addr) (n107 c107 : Nat),
  w_15.cell? ⟨w_8.heap.size, 3, none⟩ = some (.slice A107 n107 c107) ∧
  Calls Tryd.prog 40 #[.slice A107 n107 c107, .pointer (some ⟨a1, 0, none⟩)] w_15 fun e_4 w_16 =>
  ∃ (A109_0 : Option Addr) (n109_0 c109_0 : Nat) (b109_1 : Bool),
  e_4 = .returned (.tuple #[.slice A109_0 n109_0 c109_0, .bool b109_1]) ∧
  canStore w_16 w_13.heap.size 0 1 ∧
  let w_17 : World := setCs w_16 w_13.heap.size 0 [.slice A109_0 n109_0 c109_0];
  sel (!b109_1) (
  canStore w_17 w.heap.size 0 6 ∧
  let w_18 : World := setCs w_17 w.heap.size 0 [.slice none 0 0, .slice none 0 0, .slice none 0 0, .slice none 0 0, .slice none 0 0, .slice none 0 0];
  ∃ (A5_0_5 : Option Addr) (n5_0_5 c5_0_5 : Nat),
  w_18.cell? ⟨w.heap.size, 0, none⟩ = some (.slice A5_0_5 n5_0_5 c5_0_5) ∧
  ∃ (A5_1_5 : Option Addr) (n5_1_5 c5_1_5 : Nat),
  w_18.cell? ⟨w.heap.size, 1, none⟩ = some (.slice A5_1_5 n5_1_5 c5_1_5) ∧
  ∃ (A5_2_5 : Option Addr) (n5_2_5 c5_2_5 : Nat),
  w_18.cell? ⟨w.heap.size, 2, none⟩ = some (.slice A5_2_5 n5_2_5 c5_2_5) ∧
  ∃ (A5_3_5 : Option Addr) (n5_3_5 c5_3_5 : Nat),
  w_18.cell? ⟨w.heap.size, 3, none⟩ = some (.slice A5_3_5 n5_3_5 c5_3_5) ∧
  ∃ (A5_4_5 : Option Addr) (n5_4_5 c5_4_5 : Nat),
  w_18.cell? ⟨w.heap.size, 4, none⟩ = some (.slice A5_4_5 n5_4_5 c5_4_5) ∧
  ∃ (A5_5_5 : Option Addr) (n5_5_5 c5_5_5 : Nat),
  w_18.cell? ⟨w.heap.size, 5, none⟩ = some (.slice A5_5_5 n5_5_5 c5_5_5) ∧
  R (.tuple #[.int .i64 0, .agg #[.slice A5_0_5 n5_0_5 c5_0_5, .slice A5_1_5 n5_1_5 c5_1_5, .slice A5_2_5 n5_2_5 c5_2_5, .slice A5_3_5 n5_3_5 c5_3_5, .slice A5_4_5 n5_4_5 c5_4_5, .slice A5_5_5 n5_5_5 c5_5_5], .int .i64 120]) w_18) (
  (0 : Int) ≤ 1 ∧ 1 < (4 : Int) ∧
  ∃ (A118 : Option Addr) (n118 c118 : Nat),
  w_17.cell? ⟨w_8.heap.size, 1, none⟩ = some (.slice A118 n118 c118) ∧
  Calls Tryd.prog 41 #[.slice A118 n118 c118, .pointer (some ⟨a1, 0, none⟩)] w_17 fun e_5 w_19 =>
  ∃ (A120_0 : Option Addr) (n120_0 c120_0 : Nat) (A120_1 : Option Addr) (n120_1 c120_1 : Nat) (A120_2 : Option Addr) (n120_2 c120_2 : Nat),
  e_5 = .returned (.tuple #[.slice A120_0 n120_0 c120_0, .slice A120_1 n120_1 c120_1, .slice A120_2 n120_2 c120_2]) ∧
  canStore w_19 w_13.heap.size 1 1 ∧
  let w_20 : World := setCs w_19 w_13.heap.size 1 [.slice A120_0 n120_0 c120_0];
  canStore w_20 w_13.heap.size 3 1 ∧
  let w_21 : World := setCs w_20 w_13.heap.size 3 [.slice A120_1 n120_1 c120_1];
  (0 : Int) ≤ 2 ∧ 2 < (4 : Int) ∧
  ∃ (A128 : Option Addr) (n128 c128 : Nat),
  w_21.cell? ⟨w_8.heap.size, 2, none⟩ = some (.slice A128 n128 c128) ∧
  Calls Tryd.prog 41 #[.slice A128 n128 c128, .pointer (some ⟨a1, 0, none⟩)] w_21 fun e_6 w_22 =>
  ∃ (A130_0 : Option Addr) (n130_0 c130_0 : Nat) (A130_1 : Option Addr) (n130_1 c130_1 : Nat) (A130_2 : Option Addr) (n130_2 c130_2 : Nat),
  e_6 = .returned (.tuple #[.slice A130_0 n130_0 c130_0, .slice A130_1 n130_1 c130_1, .slice A130_2 n130_2 c130_2]) ∧
  canStore w_22 w_13.heap.size 2 1 ∧
  let w_23 : World := setCs w_22 w_13.heap.size 2 [.slice A130_0 n130_0 c130_0];
  canStore w_23 w_13.heap.size 4 1 ∧
  let w_24 : World := setCs w_23 w_13.heap.size 4 [.slice A130_1 n130_1 c130_1];
  (0 : Int) ≤ 2 ∧ 2 < (4 : Int) ∧
  ∃ (x138 : Int),
  w_24.cell? ⟨w_2.heap.size, 2, none⟩ = some (.int .i64 x138) ∧
  Calls Tryd.prog 42 #[.slice A120_2 n120_2 c120_2, .int .i64 x138] w_24 fun e_7 w_25 =>
  ∃ (b139 : Bool),
  e_7 = .returned (.bool b139) ∧
  sel (!b139) (
  canStore w_25 w.heap.size 0 6 ∧
  let w_26 : World := setCs w_25 w.heap.size 0 [.slice none 0 0, .slice none 0 0, .slice none 0 0, .slice none 0 0, .slice none 0 0, .slice none 0 0];
  ∃ (A5_0_6 : Option Addr) (n5_0_6 c5_0_6 : Nat),
  w_26.cell? ⟨w.heap.size, 0, none⟩ = some (.slice A5_0_6 n5_0_6 c5_0_6) ∧
  ∃ (A5_1_6 : Option Addr) (n5_1_6 c5_1_6 : Nat),
  w_26.cell? ⟨w.heap.size, 1, none⟩ = some (.slice A5_1_6 n5_1_6 c5_1_6) ∧
  ∃ (A5_2_6 : Option Addr) (n5_2_6 c5_2_6 : Nat),
  w_26.cell? ⟨w.heap.size, 2, none⟩ = some (.slice A5_2_6 n5_2_6 c5_2_6) ∧
  ∃ (A5_3_6 : Option Addr) (n5_3_6 c5_3_6 : Nat),
  w_26.cell? ⟨w.heap.size, 3, none⟩ = some (.slice A5_3_6 n5_3_6 c5_3_6) ∧
  ∃ (A5_4_6 : Option Addr) (n5_4_6 c5_4_6 : Nat),
  w_26.cell? ⟨w.heap.size, 4, none⟩ = some (.slice A5_4_6 n5_4_6 c5_4_6) ∧
  ∃ (A5_5_6 : Option Addr) (n5_5_6 c5_5_6 : Nat),
  w_26.cell? ⟨w.heap.size, 5, none⟩ = some (.slice A5_5_6 n5_5_6 c5_5_6) ∧
  R (.tuple #[.int .i64 0, .agg #[.slice A5_0_6 n5_0_6 c5_0_6, .slice A5_1_6 n5_1_6 c5_1_6, .slice A5_2_6 n5_2_6 c5_2_6, .slice A5_3_6 n5_3_6 c5_3_6, .slice A5_4_6 n5_4_6 c5_4_6, .slice A5_5_6 n5_5_6 c5_5_6], .int .i64 120]) w_26) (
  (0 : Int) ≤ 3 ∧ 3 < (4 : Int) ∧
  ∃ (x144 : Int),
  w_25.cell? ⟨w_2.heap.size, 3, none⟩ = some (.int .i64 x144) ∧
  Calls Tryd.prog 42 #[.slice A130_2 n130_2 c130_2, .int .i64 x144] w_25 fun e_8 w_27 =>
  ∃ (b145 : Bool),
  e_8 = .returned (.bool b145) ∧
  sel (!b145) (
  canStore w_27 w.heap.size 0 6 ∧
  let w_28 : World := setCs w_27 w.heap.size 0 [.slice none 0 0, .slice none 0 0, .slice none 0 0, .slice none 0 0, .slice none 0 0, .slice none 0 0];
  ∃ (A5_0_7 : Option Addr) (n5_0_7 c5_0_7 : Nat),
  w_28.cell? ⟨w.heap.size, 0, none⟩ = some (.slice A5_0_7 n5_0_7 c5_0_7) ∧
  ∃ (A5_1_7 : Option Addr) (n5_1_7 c5_1_7 : Nat),
  w_28.cell? ⟨w.heap.size, 1, none⟩ = some (.slice A5_1_7 n5_1_7 c5_1_7) ∧
  ∃ (A5_2_7 : Option Addr) (n5_2_7 c5_2_7 : Nat),
  w_28.cell? ⟨w.heap.size, 2, none⟩ = some (.slice A5_2_7 n5_2_7 c5_2_7) ∧
  ∃ (A5_3_7 : Option Addr) (n5_3_7 c5_3_7 : Nat),
  w_28.cell? ⟨w.heap.size, 3, none⟩ = some (.slice A5_3_7 n5_3_7 c5_3_7) ∧
  ∃ (A5_4_7 : Option Addr) (n5_4_7 c5_4_7 : Nat),
  w_28.cell? ⟨w.heap.size, 4, none⟩ = some (.slice A5_4_7 n5_4_7 c5_4_7) ∧
  ∃ (A5_5_7 : Option Addr) (n5_5_7 c5_5_7 : Nat),
  w_28.cell? ⟨w.heap.size, 5, none⟩ = some (.slice A5_5_7 n5_5_7 c5_5_7) ∧
  R (.tuple #[.int .i64 0, .agg #[.slice A5_0_7 n5_0_7 c5_0_7, .slice A5_1_7 n5_1_7 c5_1_7, .slice A5_2_7 n5_2_7 c5_2_7, .slice A5_3_7 n5_3_7 c5_3_7, .slice A5_4_7 n5_4_7 c5_4_7, .slice A5_5_7 n5_5_7 c5_5_7], .int .i64 120]) w_28) (
  ∃ I : Int → World → Nat → Prop,
  (∃ n, I 0 w_27 n) ∧
  ∀ d : Env, ∀ (x151 : Int) (w_29 : World) (r : Nat), I x151 w_29 r →
  sel (decide ((x151 : Int) < ((n120_2 : Int) : Int))) (
  (0 : Int) ≤ x151 ∧ x151 < (n120_2 : Int) ∧
  needPtr A120_2 fun b153 o153 =>
  ∃ (x154 : Int),
  w_29.cell? ⟨b153, o153 + x151.toNat * 1, none⟩ = some (.int .i64 x154) ∧
  ∃ (A157 : Option Addr) (n157 c157 : Nat),
  ∃ w_30 : World, (Instr.makeSlice 29 (.int .i64 0) (.int .i64 (n130_2 : Int))).run Tryd.prog w_29 = .ok (.slice A157 n157 c157) w_30 ∧
  ∃ I_1 : Option Addr → Nat → Nat → Int → World → Nat → Prop,
  (∃ n, I_1 A157 n157 c157 0 w_30 n) ∧
  ∀ d_1 : Env, ∀ (A17 : Option Addr) (n17 c17 : Nat) (x160 : Int) (w_31 : World) (r_1 : Nat), I_1 A17 n17 c17 x160 w_31 r_1 →
  sel (decide ((x160 : Int) < ((n130_2 : Int) : Int))) (
  (0 : Int) ≤ x160 ∧ x160 < (n130_2 : Int) ∧
  needPtr A130_2 fun b162 o162 =>
  ∃ (x163 : Int),
  w_31.cell? ⟨b162, o162 + x160.toNat * 1, none⟩ = some (.int .i64 x163) ∧
  let i166 : Int := IntKind.i64.wrap (2 * x25);
  let i167 : Int := IntKind.i64.wrap (4 + i166);
  let i169 : Int := IntKind.i64.wrap (x154 - 1);
  (0 : Int) ≤ 3 ∧ 3 < (4 : Int) ∧
  ∃ (x171 : Int),
  w_31.cell? ⟨w_2.heap.size, 3, none⟩ = some (.int .i64 x171) ∧
  let i172 : Int := IntKind.i64.wrap (i169 * x171);
  let i173 : Int := IntKind.i64.wrap (i167 + i172);
  let i175 : Int := IntKind.i64.wrap (i173 + x163);
  let i176 : Int := IntKind.i64.wrap (i175 - 1);
  (0 : Int) ≤ i176 ∧ i176 < (na0 : Int) ∧
  needPtr Aa0 fun b177 o177 =>
  ∃ (x178 : Int),
  w_31.cell? ⟨b177, o177 + i176.toNat * 1, none⟩ = some (.int .i64 x178) ∧
  sel (decide ((x178 : Int) < (0 : Int))) (
  canStore w_31 w.heap.size 0 6 ∧
  let w_32 : World := setCs w_31 w.heap.size 0 [.slice none 0 0, .slice none 0 0, .slice none 0 0, .slice none 0 0, .slice none 0 0, .slice none 0 0];
  ∃ (A5_0_8 : Option Addr) (n5_0_8 c5_0_8 : Nat),
  w_32.cell? ⟨w.heap.size, 0, none⟩ = some (.slice A5_0_8 n5_0_8 c5_0_8) ∧
  ∃ (A5_1_8 : Option Addr) (n5_1_8 c5_1_8 : Nat),
  w_32.cell? ⟨w.heap.size, 1, none⟩ = some (.slice A5_1_8 n5_1_8 c5_1_8) ∧
  ∃ (A5_2_8 : Option Addr) (n5_2_8 c5_2_8 : Nat),
  w_32.cell? ⟨w.heap.size, 2, none⟩ = some (.slice A5_2_8 n5_2_8 c5_2_8) ∧
  ∃ (A5_3_8 : Option Addr) (n5_3_8 c5_3_8 : Nat),
  w_32.cell? ⟨w.heap.size, 3, none⟩ = some (.slice A5_3_8 n5_3_8 c5_3_8) ∧
  ∃ (A5_4_8 : Option Addr) (n5_4_8 c5_4_8 : Nat),
  w_32.cell? ⟨w.heap.size, 4, none⟩ = some (.slice A5_4_8 n5_4_8 c5_4_8) ∧
  ∃ (A5_5_8 : Option Addr) (n5_5_8 c5_5_8 : Nat),
  w_32.cell? ⟨w.heap.size, 5, none⟩ = some (.slice A5_5_8 n5_5_8 c5_5_8) ∧
  R (.tuple #[.int .i64 0, .agg #[.slice A5_0_8 n5_0_8 c5_0_8, .slice A5_1_8 n5_1_8 c5_1_8, .slice A5_2_8 n5_2_8 c5_2_8, .slice A5_3_8 n5_3_8 c5_3_8, .slice A5_4_8 n5_4_8 c5_4_8, .slice A5_5_8 n5_5_8 c5_5_8], .int .i64 120]) w_32) (
  sel (decide ((65535 : Int) < (x178 : Int))) (
  canStore w_31 w.heap.size 0 6 ∧
  let w_33 : World := setCs w_31 w.heap.size 0 [.slice none 0 0, .slice none 0 0, .slice none 0 0, .slice none 0 0, .slice none 0 0, .slice none 0 0];
  ∃ (A5_0_9 : Option Addr) (n5_0_9 c5_0_9 : Nat),
  w_33.cell? ⟨w.heap.size, 0, none⟩ = some (.slice A5_0_9 n5_0_9 c5_0_9) ∧
  ∃ (A5_1_9 : Option Addr) (n5_1_9 c5_1_9 : Nat),
  w_33.cell? ⟨w.heap.size, 1, none⟩ = some (.slice A5_1_9 n5_1_9 c5_1_9) ∧
  ∃ (A5_2_9 : Option Addr) (n5_2_9 c5_2_9 : Nat),
  w_33.cell? ⟨w.heap.size, 2, none⟩ = some (.slice A5_2_9 n5_2_9 c5_2_9) ∧
  ∃ (A5_3_9 : Option Addr) (n5_3_9 c5_3_9 : Nat),
  w_33.cell? ⟨w.heap.size, 3, none⟩ = some (.slice A5_3_9 n5_3_9 c5_3_9) ∧
  ∃ (A5_4_9 : Option Addr) (n5_4_9 c5_4_9 : Nat),
  w_33.cell? ⟨w.heap.size, 4, none⟩ = some (.slice A5_4_9 n5_4_9 c5_4_9) ∧
  ∃ (A5_5_9 : Option Addr) (n5_5_9 c5_5_9 : Nat),
  w_33.cell? ⟨w.heap.size, 5, none⟩ = some (.slice A5_5_9 n5_5_9 c5_5_9) ∧
  R (.tuple #[.int .i64 0, .agg #[.slice A5_0_9 n5_0_9 c5_0_9, .slice A5_1_9 n5_1_9 c5_1_9, .slice A5_2_9 n5_2_9 c5_2_9, .slice A5_3_9 n5_3_9 c5_3_9, .slice A5_4_9 n5_4_9 c5_4_9, .slice A5_5_9 n5_5_9 c5_5_9], .int .i64 120]) w_33) (
  let i188 : Int := IntKind.u16.wrap x178;
  let w_34 : World := World.alloc w_31 (.cells #[.int .u16 i188] 59);
  ∃ (A190 : Option Addr) (n190 c190 : Nat),
  ∃ w_35 : World, (Builtin.append_ #[29, 29] 29 #[.slice A17 n17 c17, .slice (some ⟨w_31.heap.size, 0, none⟩) 1 1]).run Tryd.prog w_34 = .ok (.slice A190 n190 c190) w_35 ∧
  let i191 : Int := IntKind.i64.wrap (x160 + 1);
  ([.slice Aa0 na0 ca0, .pointer (some ⟨w.heap.size, 0, none⟩), .int .i64 x25, .pointer (some ⟨w_2.heap.size, 0, none⟩), .pointer (some ⟨w_13.heap.size, 0, none⟩), .slice A130_2 n130_2 c130_2, .int .i64 x154, .slice A120_2 n120_2 c120_2, .int .i64 (n120_2 : Int), .int .i64 x151, .slice A130_2 n130_2 c130_2, .int .i64 (n130_2 : Int)] : List Value) = ([.slice Aa0 na0 ca0, .pointer (some ⟨w.heap.size, 0, none⟩), .int .i64 x25, .pointer (some ⟨w_2.heap.size, 0, none⟩), .pointer (some ⟨w_13.heap.size, 0, none⟩), .slice A130_2 n130_2 c130_2, .int .i64 x154, .slice A120_2 n120_2 c120_2, .int .i64 (n120_2 : Int), .int .i64 x151, .slice A130_2 n130_2 c130_2, .int .i64 (n130_2 : Int)] : List Value) ∧ ∃ m, m < r_1 ∧ I_1 A190 n190 c190 i191 w_35 m))) (
  ∃ (A193 : Option Addr) (n193 c193 : Nat),
  w_31.cell? ⟨w_13.heap.size, 5, none⟩ = some (.slice A193 n193 c193) ∧
  let w_36 : World := World.alloc w_31 (.cells #[.slice A17 n17 c17] 29);
  ∃ (A196 : Option Addr) (n196 c196 : Nat),
  ∃ w_37 : World, (Builtin.append_ #[30, 30] 30 #[.slice A193 n193 c193, .slice (some ⟨w_31.heap.size, 0, none⟩) 1 1]).run Tryd.prog w_36 = .ok (.slice A196 n196 c196) w_37 ∧
  canStore w_37 w_13.heap.size 5 1 ∧
  let w_38 : World := setCs w_37 w_13.heap.size 5 [.slice A196 n196 c196];
  let i198 : Int := IntKind.i64.wrap (x151 + 1);
  ([.slice Aa0 na0 ca0, .pointer (some ⟨w.heap.size, 0, none⟩), .int .i64 x25, .pointer (some ⟨w_2.heap.size, 0, none⟩), .pointer (some ⟨w_13.heap.size, 0, none⟩), .slice A130_2 n130_2 c130_2, .slice A120_2 n120_2 c120_2, .int .i64 (n120_2 : Int)] : List Value) = ([.slice Aa0 na0 ca0, .pointer (some ⟨w.heap.size, 0, none⟩), .int .i64 x25, .pointer (some ⟨w_2.heap.size, 0, none⟩), .pointer (some ⟨w_13.heap.size, 0, none⟩), .slice A130_2 n130_2 c130_2, .slice A120_2 n120_2 c120_2, .int .i64 (n120_2 : Int)] : List Value) ∧ ∃ m, m < r ∧ I i198 w_38 m)) (
  ∃ (A199_0 : Option Addr) (n199_0 c199_0 : Nat),
  w_29.cell? ⟨w_13.heap.size, 0, none⟩ = some (.slice A199_0 n199_0 c199_0) ∧
  ∃ (A199_1 : Option Addr) (n199_1 c199_1 : Nat),
  w_29.cell? ⟨w_13.heap.size, 1, none⟩ = some (.slice A199_1 n199_1 c199_1) ∧
  ∃ (A199_2 : Option Addr) (n199_2 c199_2 : Nat),
  w_29.cell? ⟨w_13.heap.size, 2, none⟩ = some (.slice A199_2 n199_2 c199_2) ∧
  ∃ (A199_3 : Option Addr) (n199_3 c199_3 : Nat),
  w_29.cell? ⟨w_13.heap.size, 3, none⟩ = some (.slice A199_3 n199_3 c199_3) ∧
  ∃ (A199_4 : Option Addr) (n199_4 c199_4 : Nat),
  w_29.cell? ⟨w_13.heap.size, 4, none⟩ = some (.slice A199_4 n199_4 c199_4) ∧
  ∃ (A199_5 : Option Addr) (n199_5 c199_5 : Nat),
  w_29.cell? ⟨w_13.heap.size, 5, none⟩ = some (.slice A199_5 n199_5 c199_5) ∧
  Calls Tryd.prog 24 #[.agg #[.slice A199_0 n199_0 c199_0, .slice A199_1 n199_1 c199_1, .slice A199_2 n199_2 c199_2, .slice A199_3 n199_3 c199_3, .slice A199_4 n199_4 c199_4, .slice A199_5 n199_5 c199_5]] w_29 fun e_9 w_39 =>
  ∃ (b200 : Bool),
  e_9 = .returned (.bool b200) ∧
  sel (!b200) (
  canStore w_39 w.heap.size 0 6 ∧
  let w_40 : World := setCs w_39 w.heap.size 0 [.slice none 0 0, .slice none 0 0, .slice none 0 0, .slice none 0 0, .slice none 0 0, .slice none 0 0];
  ∃ (A5_0_10 : Option Addr) (n5_0_10 c5_0_10 : Nat),
  w_40.cell? ⟨w.heap.size, 0, none⟩ = some (.slice A5_0_10 n5_0_10 c5_0_10) ∧
  ∃ (A5_1_10 : Option Addr) (n5_1_10 c5_1_10 : Nat),
  w_40.cell? ⟨w.heap.size, 1, none⟩ = some (.slice A5_1_10 n5_1_10 c5_1_10) ∧
  ∃ (A5_2_10 : Option Addr) (n5_2_10 c5_2_10 : Nat),
  w_40.cell? ⟨w.heap.size, 2, none⟩ = some (.slice A5_2_10 n5_2_10 c5_2_10) ∧
  ∃ (A5_3_10 : Option Addr) (n5_3_10 c5_3_10 : Nat),
  w_40.cell? ⟨w.heap.size, 3, none⟩ = some (.slice A5_3_10 n5_3_10 c5_3_10) ∧
  ∃ (A5_4_10 : Option Addr) (n5_4_10 c5_4_10 : Nat),
  w_40.cell? ⟨w.heap.size, 4, none⟩ = some (.slice A5_4_10 n5_4_10 c5_4_10) ∧
  ∃ (A5_5_10 : Option Addr) (n5_5_10 c5_5_10 : Nat),
  w_40.cell? ⟨w.heap.size, 5, none⟩ = some (.slice A5_5_10 n5_5_10 c5_5_10) ∧
  R (.tuple #[.int .i64 0, .agg #[.slice A5_0_10 n5_0_10 c5_0_10, .slice A5_1_10 n5_1_10 c5_1_10, .slice A5_2_10 n5_2_10 c5_2_10, .slice A5_3_10 n5_3_10 c5_3_10, .slice A5_4_10 n5_4_10 c5_4_10, .slice A5_5_10 n5_5_10 c5_5_10], .int .i64 120]) w_40) (
  (0 : Int) ≤ 0 ∧ 0 < (4 : Int) ∧
  ∃ (x204 : Int),
  w_39.cell? ⟨w_2.heap.size, 0, none⟩ = some (.int .i64 x204) ∧
  ∃ (A205_0 : Option Addr) (n205_0 c205_0 : Nat),
  w_39.cell? ⟨w_13.heap.size, 0, none⟩ = some (.slice A205_0 n205_0 c205_0) ∧
  ∃ (A205_1 : Option Addr) (n205_1 c205_1 : Nat),
  w_39.cell? ⟨w_13.heap.size, 1, none⟩ = some (.slice A205_1 n205_1 c205_1) ∧
  ∃ (A205_2 : Option Addr) (n205_2 c205_2 : Nat),
  w_39.cell? ⟨w_13.heap.size, 2, none⟩ = some (.slice A205_2 n205_2 c205_2) ∧
  ∃ (A205_3 : Option Addr) (n205_3 c205_3 : Nat),
  w_39.cell? ⟨w_13.heap.size, 3, none⟩ = some (.slice A205_3 n205_3 c205_3) ∧
  ∃ (A205_4 : Option Addr) (n205_4 c205_4 : Nat),
  w_39.cell? ⟨w_13.heap.size, 4, none⟩ = some (.slice A205_4 n205_4 c205_4) ∧
  ∃ (A205_5 : Option Addr) (n205_5 c205_5 : Nat),
  w_39.cell? ⟨w_13.heap.size, 5, none⟩ = some (.slice A205_5 n205_5 c205_5) ∧
  canStore w_39 w.heap.size 0 6 ∧
  let w_41 : World := setCs w_39.drew w.heap.size 0 [.slice A205_0 n205_0 c205_0, .slice A205_1 n205_1 c205_1, .slice A205_2 n205_2 c205_2, .slice A205_3 n205_3 c205_3, .slice A205_4 n205_4 c205_4, .slice A205_5 n205_5 c205_5];
  ∃ (A5_0_11 : Option Addr) (n5_0_11 c5_0_11 : Nat),
  w_41.cell? ⟨w.heap.size, 0, none⟩ = some (.slice A5_0_11 n5_0_11 c5_0_11) ∧
  ∃ (A5_1_11 : Option Addr) (n5_1_11 c5_1_11 : Nat),
  w_41.cell? ⟨w.heap.size, 1, none⟩ = some (.slice A5_1_11 n5_1_11 c5_1_11) ∧
  ∃ (A5_2_11 : Option Addr) (n5_2_11 c5_2_11 : Nat),
  w_41.cell? ⟨w.heap.size, 2, none⟩ = some (.slice A5_2_11 n5_2_11 c5_2_11) ∧
  ∃ (A5_3_11 : Option Addr) (n5_3_11 c5_3_11 : Nat),
  w_41.cell? ⟨w.heap.size, 3, none⟩ = some (.slice A5_3_11 n5_3_11 c5_3_11) ∧
  ∃ (A5_4_11 : Option Addr) (n5_4_11 c5_4_11 : Nat),
  w_41.cell? ⟨w.heap.size, 4, none⟩ = some (.slice A5_4_11 n5_4_11 c5_4_11) ∧
  ∃ (A5_5_11 : Option Addr) (n5_5_11 c5_5_11 : Nat),
  w_41.cell? ⟨w.heap.size, 5, none⟩ = some (.slice A5_5_11 n5_5_11 c5_5_11) ∧
  R (.tuple #[.int .i64 x204, .agg #[.slice A5_0_11 n5_0_11 c5_0_11, .slice A5_1_11 n5_1_11 c5_1_11, .slice A5_2_11 n5_2_11 c5_2_11, .slice A5_3_11 n5_3_11 c5_3_11, .slice A5_4_11 n5_4_11 c5_4_11, .slice A5_5_11 n5_5_11 c5_5_11], .int .i64 0]) w_41)))))))))) (
  canStore w_5 w.heap.size 0 6 ∧
  let w_42 : World := setCs w_5 w.heap.size 0 [.slice none 0 0, .slice none 0 0, .slice none 0 0, .slice none 0 0, .slice none 0 0, .slice none 0 0];
  ∃ (A5_0_12 : Option Addr) (n5_0_12 c5_0_12 : Nat),
  w_42.cell? ⟨w.heap.size, 0, none⟩ = some (.slice A5_0_12 n5_0_12 c5_0_12) ∧
  ∃ (A5_1_12 : Option Addr) (n5_1_12 c5_1_12 : Nat),
  w_42.cell? ⟨w.heap.size, 1, none⟩ = some (.slice A5_1_12 n5_1_12 c5_1_12) ∧
  ∃ (A5_2_12 : Option Addr) (n5_2_12 c5_2_12 : Nat),
  w_42.cell? ⟨w.heap.size, 2, none⟩ = some (.slice A5_2_12 n5_2_12 c5_2_12) ∧
  ∃ (A5_3_12 : Option Addr) (n5_3_12 c5_3_12 : Nat),
  w_42.cell? ⟨w.heap.size, 3, none⟩ = some (.slice A5_3_12 n5_3_12 c5_3_12) ∧
  ∃ (A5_4_12 : Option Addr) (n5_4_12 c5_4_12 : Nat),
  w_42.cell? ⟨w.heap.size, 4, none⟩ = some (.slice A5_4_12 n5_4_12 c5_4_12) ∧
  ∃ (A5_5_12 : Option Addr) (n5_5_12 c5_5_12 : Nat),
  w_42.cell? ⟨w.heap.size, 5, none⟩ = some (.slice A5_5_12 n5_5_12 c5_5_12) ∧
  R (.tuple #[.int .i64 0, .agg #[.slice A5_0_12 n5_0_12 c5_0_12, .slice A5_1_12 n5_1_12 c5_1_12, .slice A5_2_12 n5_2_12 c5_2_12, .slice A5_3_12 n5_3_12 c5_3_12, .slice A5_4_12 n5_4_12 c5_4_12, .slice A5_5_12 n5_5_12 c5_5_12], .int .i64 120]) w_42)) (
  canStore w_5 w.heap.size 0 6 ∧
  let w_43 : World := setCs w_5 w.heap.size 0 [.slice none 0 0, .slice none 0 0, .slice none 0 0, .slice none 0 0, .slice none 0 0, .slice none 0 0];
  ∃ (A5_0_13 : Option Addr) (n5_0_13 c5_0_13 : Nat),
  w_43.cell? ⟨w.heap.size, 0, none⟩ = some (.slice A5_0_13 n5_0_13 c5_0_13) ∧
  ∃ (A5_1_13 : Option Addr) (n5_1_13 c5_1_13 : Nat),
  w_43.cell? ⟨w.heap.size, 1, none⟩ = some (.slice A5_1_13 n5_1_13 c5_1_13) ∧
  ∃ (A5_2_13 : Option Addr) (n5_2_13 c5_2_13 : Nat),
  w_43.cell? ⟨w.heap.size, 2, none⟩ = some (.slice A5_2_13 n5_2_13 c5_2_13) ∧
  ∃ (A5_3_13 : Option Addr) (n5_3_13 c5_3_13 : Nat),
  w_43.cell? ⟨w.heap.size, 3, none⟩ = some (.slice A5_3_13 n5_3_13 c5_3_13) ∧
  ∃ (A5_4_13 : Option Addr) (n5_4_13 c5_4_13 : Nat),
  w_43.cell? ⟨w.heap.size, 4, none⟩ = some (.slice A5_4_13 n5_4_13 c5_4_13) ∧
  ∃ (A5_5_13 : Option Addr) (n5_5_13 c5_5_13 : Nat),
  w_43.cell? ⟨w.heap.size, 5, none⟩ = some (.slice A5_5_13 n5_5_13 c5_5_13) ∧
  R (.tuple #[.int .i64 0, .agg #[.slice A5_0_13 n5_0_13 c5_0_13, .slice A5_1_13 n5_1_13 c5_1_13, .slice A5_2_13 n5_2_13 c5_2_13, .slice A5_3_13 n5_3_13 c5_3_13, .slice A5_4_13 n5_4_13 c5_4_13, .slice A5_5_13 n5_5_13 c5_5_13], .int .i64 120]) w_43)) (
  canStore w_5 w.heap.size 0 6 ∧
  let w_44 : World := setCs w_5 w.heap.size 0 [.slice none 0 0, .slice none 0 0, .slice none 0 0, .slice none 0 0, .slice none 0 0, .slice none 0 0];
  ∃ (A5_0_14 : Option Addr) (n5_0_14 c5_0_14 : Nat),
  w_44.cell? ⟨w.heap.size, 0, none⟩ = some (.slice A5_0_14 n5_0_14 c5_0_14) ∧
  ∃ (A5_1_14 : Option Addr) (n5_1_14 c5_1_14 : Nat),
  w_44.cell? ⟨w.heap.size, 1, none⟩ = some (.slice A5_1_14 n5_1_14 c5_1_14) ∧
  ∃ (A5_2_14 : Option Addr) (n5_2_14 c5_2_14 : Nat),
  w_44.cell? ⟨w.heap.size, 2, none⟩ = some (.slice A5_2_14 n5_2_14 c5_2_14) ∧
  ∃ (A5_3_14 : Option Addr) (n5_3_14 c5_3_14 : Nat),
  w_44.cell? ⟨w.heap.size, 3, none⟩ = some (.slice A5_3_14 n5_3_14 c5_3_14) ∧
  ∃ (A5_4_14 : Option Addr) (n5_4_14 c5_4_14 : Nat),
  w_44.cell? ⟨w.heap.size, 4, none⟩ = some (.slice A5_4_14 n5_4_14 c5_4_14) ∧
  ∃ (A5_5_14 : Option Addr) (n5_5_14 c5_5_14 : Nat),
  w_44.cell? ⟨w.heap.size, 5, none⟩ = some (.slice A5_5_14 n5_5_14 c5_5_14) ∧
  R (.tuple #[.int .i64 0, .agg #[.slice A5_0_14 n5_0_14 c5_0_14, .slice A5_1_14 n5_1_14 c5_1_14, .slice A5_2_14 n5_2_14 c5_2_14, .slice A5_3_14 n5_3_14 c5_3_14, .slice A5_4_14 n5_4_14 c5_4_14, .slice A5_5_14 n5_5_14 c5_5_14], .int .i64 120]) w_44)) (
  canStore w_5 w.heap.size 0 6 ∧
  let w_45 : World := setCs w_5 w.heap.size 0 [.slice none 0 0, .slice none 0 0, .slice none 0 0, .slice none 0 0, .slice none 0 0, .slice none 0 0];
  ∃ (A5_0_15 : Option Addr) (n5_0_15 c5_0_15 : Nat),
  w_45.cell? ⟨w.heap.size, 0, none⟩ = some (.slice A5_0_15 n5_0_15 c5_0_15) ∧
  ∃ (A5_1_15 : Option Addr) (n5_1_15 c5_1_15 : Nat),
  w_45.cell? ⟨w.heap.size, 1, none⟩ = some (.slice A5_1_15 n5_1_15 c5_1_15) ∧
  ∃ (A5_2_15 : Option Addr) (n5_2_15 c5_2_15 : Nat),
  w_45.cell? ⟨w.heap.size, 2, none⟩ = some (.slice A5_2_15 n5_2_15 c5_2_15) ∧
  ∃ (A5_3_15 : Option Addr) (n5_3_15 c5_3_15 : Nat),
  w_45.cell? ⟨w.heap.size, 3, none⟩ = some (.slice A5_3_15 n5_3_15 c5_3_15) ∧
  ∃ (A5_4_15 : Option Addr) (n5_4_15 c5_4_15 : Nat),
  w_45.cell? ⟨w.heap.size, 4, none⟩ = some (.slice A5_4_15 n5_4_15 c5_4_15) ∧
  ∃ (A5_5_15 : Option Addr) (n5_5_15 c5_5_15 : Nat),
  w_45.cell? ⟨w.heap.size, 5, none⟩ = some (.slice A5_5_15 n5_5_15 c5_5_15) ∧
  R (.tuple #[.int .i64 0, .agg #[.slice A5_0_15 n5_0_15 c5_0_15, .slice A5_1_15 n5_1_15 c5_1_15, .slice A5_2_15 n5_2_15 c5_2_15, .slice A5_3_15 n5_3_15 c5_3_15, .slice A5_4_15 n5_4_15 c5_4_15, .slice A5_5_15 n5_5_15 c5_5_15], .int .i64 120]) w_45)) (
  canStore w_5 w.heap.size 0 6 ∧
  let w_46 : World := setCs w_5 w.heap.size 0 [.slice none 0 0, .slice none 0 0, .slice none 0 0, .slice none 0 0, .slice none 0 0, .slice none 0 0];
  ∃ (A5_0_16 : Option Addr) (n5_0_16 c5_0_16 : Nat),
  w_46.cell? ⟨w.heap.size, 0, none⟩ = some (.slice A5_0_16 n5_0_16 c5_0_16) ∧
  ∃ (A5_1_16 : Option Addr) (n5_1_16 c5_1_16 : Nat),
  w_46.cell? ⟨w.heap.size, 1, none⟩ = some (.slice A5_1_16 n5_1_16 c5_1_16) ∧
  ∃ (A5_2_16 : Option Addr) (n5_2_16 c5_2_16 : Nat),
  w_46.cell? ⟨w.heap.size, 2, none⟩ = some (.slice A5_2_16 n5_2_16 c5_2_16) ∧
  ∃ (A5_3_16 : Option Addr) (n5_3_16 c5_3_16 : Nat),
  w_46.cell? ⟨w.heap.size, 3, none⟩ = some (.slice A5_3_16 n5_3_16 c5_3_16) ∧
  ∃ (A5_4_16 : Option Addr) (n5_4_16 c5_4_16 : Nat),
  w_46.cell? ⟨w.heap.size, 4, none⟩ = some (.slice A5_4_16 n5_4_16 c5_4_16) ∧
  ∃ (A5_5_16 : Option Addr) (n5_5_16 c5_5_16 : Nat),
  w_46.cell? ⟨w.heap.size, 5, none⟩ = some (.slice A5_5_16 n5_5_16 c5_5_16) ∧
  R (.tuple #[.int .i64 0, .agg #[.slice A5_0_16 n5_0_16 c5_0_16, .slice A5_1_16 n5_1_16 c5_1_16, .slice A5_2_16 n5_2_16 c5_2_16, .slice A5_3_16 n5_3_16 c5_3_16, .slice A5_4_16 n5_4_16 c5_4_16, .slice A5_5_16 n5_5_16 c5_5_16], .int .i64 120]) w_46))
theorem f16.eq (Aa0 : Option Addr) (na0 ca0 : Nat) (a1 : Nat) (w : World) (R : Value → World → Prop) : f16.VC Aa0 na0 ca0 a1 w R = funV Tryd.prog Tryd.f16 f16.AL f16.AC #[.slice Aa0 na0 ca0, .pointer (some ⟨a1, 0, none⟩)] w R := by kernel_rfl
theorem f16.calls {Aa0 : Option Addr} {na0 ca0 : Nat} {a1 : Nat} {w : World} {R : Value → World → Prop} (h : f16.VC Aa0 na0 ca0 a1 w R) : Calls Tryd.prog 16 #[.slice Aa0 na0 ca0, .pointer (some ⟨a1, 0, none⟩)] w fun e w' => ∃ v, e = .returned v ∧ R v w' :=
  funV_sound (fn := Tryd.f16) (AL := f16.AL) (AC := f16.AC) W16.mixed (by kernel_rfl) (by rw [← f16.eq Aa0 na0 ca0 a1]; exact h)

/-- cmp.isNaN[int] -/
def f68.AL : Nat → Option Ann := fun _ => none
def f68.AC : Nat → Option Ann := fun _ => none
def f68.VC (xa0 : Int) (w : World) (R : Value → World → Prop) : Prop :=
  R (.bool ((xa0 : Int) != (xa0 : Int))) w
theorem f68.eq (xa0 : Int) (w : World) (R : Value → World → Prop) : f68.VC xa0 w R = funV Tryd.prog Tryd.f68 f68.AL f68.AC #[.int .i64 xa0] w R := by kernel_rfl
theorem f68.calls {xa0 : Int} {w : World} {R : Value → World → Prop} (h : f68.VC xa0 w R) : Calls Tryd.prog 68 #[.int .i64 xa0] w fun e w' => ∃ v, e = .returned v ∧ R v w' :=
  funV_sound (fn := Tryd.f68) (AL := f68.AL) (AC := f68.AC) W16.mixed (by kernel_rfl) (by rw [← f68.eq xa0]; exact h)

/-- gatehouse/gatehouselaw12.awake -/
def f5.AL : Nat → Option Ann := fun _ => none
def f5.AC : Nat → Option Ann := fun _ => none
def f5.VC  (w : World) (R : Value → World → Prop) : Prop :=
  Calls Tryd.prog 6 #[] w fun e_1 w_1 =>
  ∃ (p11 : Option Addr),
  e_1 = .returned (.pointer p11) ∧
  sel (Option.isNone p11) (
  R (.bool false) w_1) (
  Calls Tryd.prog 20 #[] w_1 fun e_2 w_2 =>
  ∃ (A15_0 : Option Addr) (n15_0 c15_0 : Nat) (A15_1 : Option Addr) (n15_1 c15_1 : Nat) (A15_2 : Option Addr) (n15_2 c15_2 : Nat) (A15_3 : Option Addr) (n15_3 c15_3 : Nat) (A15_4 : Option Addr) (n15_4 c15_4 : Nat) (A15_5 : Option Addr) (n15_5 c15_5 : Nat),
  e_2 = .returned (.agg #[.slice A15_0 n15_0 c15_0, .slice A15_1 n15_1 c15_1, .slice A15_2 n15_2 c15_2, .slice A15_3 n15_3 c15_3, .slice A15_4 n15_4 c15_4, .slice A15_5 n15_5 c15_5]) ∧
  Calls Tryd.prog 19 #[.agg #[.slice A15_0 n15_0 c15_0, .slice A15_1 n15_1 c15_1, .slice A15_2 n15_2 c15_2, .slice A15_3 n15_3 c15_3, .slice A15_4 n15_4 c15_4, .slice A15_5 n15_5 c15_5]] w_2 fun e_3 w_3 =>
  ∃ (x16 : Int),
  e_3 = .returned (.int .i64 x16) ∧
  sel ((x16 : Int) != (21 : Int)) (
  R (.bool false) w_3) (
  Calls Tryd.prog 20 #[] w_3 fun e_4 w_4 =>
  ∃ (A20_0 : Option Addr) (n20_0 c20_0 : Nat) (A20_1 : Option Addr) (n20_1 c20_1 : Nat) (A20_2 : Option Addr) (n20_2 c20_2 : Nat) (A20_3 : Option Addr) (n20_3 c20_3 : Nat) (A20_4 : Option Addr) (n20_4 c20_4 : Nat) (A20_5 : Option Addr) (n20_5 c20_5 : Nat),
  e_4 = .returned (.agg #[.slice A20_0 n20_0 c20_0, .slice A20_1 n20_1 c20_1, .slice A20_2 n20_2 c20_2, .slice A20_3 n20_3 c20_3, .slice A20_4 n20_4 c20_4, .slice A20_5 n20_5 c20_5]) ∧
  Calls Tryd.prog 9 #[.int .i64 5, .agg #[.slice A20_0 n20_0 c20_0, .slice A20_1 n20_1 c20_1, .slice A20_2 n20_2 c20_2, .slice A20_3 n20_3 c20_3, .slice A20_4 n20_4 c20_4, .slice A20_5 n20_5 c20_5], .pointer p11] w_4 fun e_5 w_5 =>
  ∃ (A22_0 : Option Addr) (n22_0 c22_0 : Nat) (x22_1 : Int),
  e_5 = .returned (.tuple #[.slice A22_0 n22_0 c22_0, .int .i64 x22_1]) ∧
  sel ((x22_1 : Int) != (0 : Int)) (
  R (.bool false) w_5) (
  let w_6 : World := World.alloc w_5 (.cells #[.int .i64 5, .int .i64 8, .int .i64 1, .int .i64 1, .int .i64 0, .int .i64 0, .int .i64 7, .int .i64 1, .int .i64 14, .int .i64 1, .int .i64 0, .int .i64 0, .int .i64 0, .int .i64 0, .int .i64 0, .int .i64 0, .int .i64 0, .int .i64 0, .int .i64 9, .int .i64 1, .int .i64 1] 3);
  Calls Tryd.prog 15 #[.slice A22_0 n22_0 c22_0, .slice (some ⟨w_5.heap.size, 0, none⟩) 21 21] w_6 fun e_6 w_7 =>
  ∃ (b30 : Bool),
  e_6 = .returned (.bool b30) ∧
  sel (!b30) (
  R (.bool false) w_7) (
  Calls Tryd.prog 21 #[.slice A22_0 n22_0 c22_0, .int .i64 2, .int .i64 3, .int .i64 1] w_7 fun e_7 w_8 =>
  ∃ (b35_0 : Bool) (x35_1 : Int),
  e_7 = .returned (.tuple #[.bool b35_0, .int .i64 x35_1]) ∧
  Calls Tryd.prog 21 #[.slice A22_0 n22_0 c22_0, .int .i64 2, .int .i64 3, .int .i64 2] w_8 fun e_8 w_9 =>
  ∃ (b40_0 : Bool) (x40_1 : Int),
  e_8 = .returned (.tuple #[.bool b40_0, .int .i64 x40_1]) ∧
  Calls Tryd.prog 16 #[.slice A22_0 n22_0 c22_0, .pointer p11] w_9 fun e_9 w_10 =>
  ∃ (x46_0 : Int) (A46_1_0 : Option Addr) (n46_1_0 c46_1_0 : Nat) (A46_1_1 : Option Addr) (n46_1_1 c46_1_1 : Nat) (A46_1_2 : Option Addr) (n46_1_2 c46_1_2 : Nat) (A46_1_3 : Option Addr) (n46_1_3 c46_1_3 : Nat) (A46_1_4 : Option Addr) (n46_1_4 c46_1_4 : Nat) (A46_1_5 : Option Addr) (n46_1_5 c46_1_5 : Nat) (x46_2 : Int),
  e_9 = .returned (.tuple #[.int .i64 x46_0, .agg #[.slice A46_1_0 n46_1_0 c46_1_0, .slice A46_1_1 n46_1_1 c46_1_1, .slice A46_1_2 n46_1_2 c46_1_2, .slice A46_1_3 n46_1_3 c46_1_3, .slice A46_1_4 n46_1_4 c46_1_4, .slice A46_1_5 n46_1_5 c46_1_5], .int .i64 x46_2]) ∧
  let w_11 : World := World.alloc w_10 (.cells #[.slice none 0 0, .slice none 0 0, .slice none 0 0, .slice none 0 0, .slice none 0 0, .slice none 0 0] 32);
  canStore w_11 w_10.heap.size 0 6 ∧
  let w_12 : World := setCs w_11 w_10.heap.size 0 [.slice A46_1_0 n46_1_0 c46_1_0, .slice A46_1_1 n46_1_1 c46_1_1, .slice A46_1_2 n46_1_2 c46_1_2, .slice A46_1_3 n46_1_3 c46_1_3, .slice A46_1_4 n46_1_4 c46_1_4, .slice A46_1_5 n46_1_5 c46_1_5];
  sel b35_0 (
  sel ((x35_1 : Int) == (9 : Int)) (
  sel (!b40_0) (
  sel ((x40_1 : Int) == (6 : Int)) (
  sel ((x46_0 : Int) == (5 : Int)) (
  sel ((x46_2 : Int) == (0 : Int)) (
  ∃ (A73 : Option Addr) (n73 c73 : Nat),
  w_12.cell? ⟨w_10.heap.size, 1, none⟩ = some (.slice A73 n73 c73) ∧
  sel (((n73 : Int) : Int) == (1 : Int)) (
  Calls Tryd.prog 22 #[.int .i64 9, .int .i64 8] w_12 fun e_10 w_13 =>
  ∃ (x78 : Int),
  e_10 = .returned (.int .i64 x78) ∧
  R (.bool ((x78 : Int) == (7 : Int))) w_13) (
  R (.bool false) w_12)) (
  R (.bool false) w_12)) (
  R (.bool false) w_12)) (
  R (.bool false) w_12)) (
  R (.bool false) w_12)) (
  R (.bool false) w_12)) (
  R (.bool false) w_12)))))
theorem f5.eq  (w : World) (R : Value → World → Prop) : f5.VC  w R = funV Tryd.prog Tryd.f5 f5.AL f5.AC #[] w R := by kernel_rfl
theorem f5.calls {w : World} {R : Value → World → Prop} (h : f5.VC  w R) : Calls Tryd.prog 5 #[] w fun e w' => ∃ v, e = .returned v ∧ R v w' :=
  funV_sound (fn := Tryd.f5) (AL := f5.AL) (AC := f5.AC) W16.mixed (by kernel_rfl) (by rw [← f5.eq ]; exact h)

end Go.Proofs.YtjmlfknogjaemaaDoor
