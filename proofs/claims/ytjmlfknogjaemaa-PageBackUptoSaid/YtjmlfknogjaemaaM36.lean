/- The plain statements of some functions, printed by vcgen.py. -/
import Derived.Test.YtjmlfknogjaemaaM4
import Derived.Test.YtjmlfknogjaemaaProg
import Derived.KernelRfl
set_option maxRecDepth 100000
set_option linter.unusedVariables false
namespace Go.Proofs.Ytjmlfknogjaemaa
open Go Go.Proofs.Ytjmlfknogjaemaa.Vc
theorem W24.mixed : Try.prog.follows .mixedOrders = true := by kernel_rfl
/-- gatehouse/gatehouselaw12.PageLay -/
def f4.AL : Nat → Option Ann := fun _ => none
def f4.AC : Nat → Option Ann := fun r => match r with | 10 => some ⟨[(21, .bool)], [0, 5, 6, 9, 10, 11, 12, 13, 14, 15, 16, 17, 18, 19]⟩ | 13 => some ⟨[(26, .bool)], [0, 5, 6, 9, 10, 12, 13, 14, 15, 16, 17, 18, 19, 21]⟩ | 15 => some ⟨[(28, .bool)], [0, 5, 6, 9, 12, 13, 14, 15, 16, 21, 26]⟩ | _ => none
def f4.VC (xa0 : Int) (Aa1_0 : Option Addr) (na1_0 ca1_0 : Nat) (Aa1_1 : Option Addr) (na1_1 ca1_1 : Nat) (Aa1_2 : Option Addr) (na1_2 ca1_2 : Nat) (Aa1_3 : Option Addr) (na1_3 ca1_3 : Nat) (Aa1_4 : Option Addr) (na1_4 ca1_4 : Nat) (Aa1_5 : Option Addr) (na1_5 ca1_5 : Nat) (Aa2_0 : Option Addr) (na2_0 ca2_0 : Nat) (Aa2_1 : Option Addr) (na2_1 ca2_1 : Nat) (Aa2_2 : Option Addr) (na2_2 ca2_2 : Nat) (Aa2_3 : Option Addr) (na2_3 ca2_3 : Nat) (Aa2_4 : Option Addr) (na2_4 ca2_4 : Nat) (Aa2_5 : Option Addr) (na2_5 ca2_5 : Nat) (Aa3 : Option Addr) (na3 ca3 : Nat) (w : World) (R : Value → World → Prop) : Prop :=
  let w_1 : World := World.alloc w (.cells #[.slice Aa1_0 na1_0 ca1_0, .slice Aa1_1 na1_1 ca1_1, .slice Aa1_2 na1_2 ca1_2, .slice Aa1_3 na1_3 ca1_3, .slice Aa1_4 na1_4 ca1_4, .slice Aa1_5 na1_5 ca1_5] 29);
  let w_2 : World := World.alloc w_1 (.cells #[.slice Aa2_0 na2_0 ca2_0, .slice Aa2_1 na2_1 ca2_1, .slice Aa2_2 na2_2 ca2_2, .slice Aa2_3 na2_3 ca2_3, .slice Aa2_4 na2_4 ca2_4, .slice Aa2_5 na2_5 ca2_5] 29);
  Calls Try.prog 10 #[] w_2 fun e_1 w_3 =>
  ∃ (b30 : Bool),
  e_1 = .returned (.bool b30) ∧
  Calls Try.prog 13 #[.slice Aa3 na3 ca3] w_3 fun e_2 w_4 =>
  ∃ (p33_0 : Option Addr) (p33_1 : Option Addr),
  e_2 = .returned (.tuple #[.pointer p33_0, .pointer p33_1]) ∧
  sel (Option.isNone p33_0) (
  R (.bool false) w_4) (
  ∃ (A39_0 : Option Addr) (n39_0 c39_0 : Nat),
  w_4.cell? ⟨w.heap.size, 0, none⟩ = some (.slice A39_0 n39_0 c39_0) ∧
  ∃ (A39_1 : Option Addr) (n39_1 c39_1 : Nat),
  w_4.cell? ⟨w.heap.size, 1, none⟩ = some (.slice A39_1 n39_1 c39_1) ∧
  ∃ (A39_2 : Option Addr) (n39_2 c39_2 : Nat),
  w_4.cell? ⟨w.heap.size, 2, none⟩ = some (.slice A39_2 n39_2 c39_2) ∧
  ∃ (A39_3 : Option Addr) (n39_3 c39_3 : Nat),
  w_4.cell? ⟨w.heap.size, 3, none⟩ = some (.slice A39_3 n39_3 c39_3) ∧
  ∃ (A39_4 : Option Addr) (n39_4 c39_4 : Nat),
  w_4.cell? ⟨w.heap.size, 4, none⟩ = some (.slice A39_4 n39_4 c39_4) ∧
  ∃ (A39_5 : Option Addr) (n39_5 c39_5 : Nat),
  w_4.cell? ⟨w.heap.size, 5, none⟩ = some (.slice A39_5 n39_5 c39_5) ∧
  Calls Try.prog 14 #[.agg #[.slice A39_0 n39_0 c39_0, .slice A39_1 n39_1 c39_1, .slice A39_2 n39_2 c39_2, .slice A39_3 n39_3 c39_3, .slice A39_4 n39_4 c39_4, .slice A39_5 n39_5 c39_5]] w_4 fun e_3 w_5 =>
  ∃ (A40_0_0 : Option Addr) (n40_0_0 c40_0_0 : Nat) (A40_0_1 : Option Addr) (n40_0_1 c40_0_1 : Nat) (A40_0_2 : Option Addr) (n40_0_2 c40_0_2 : Nat) (A40_0_3 : Option Addr) (n40_0_3 c40_0_3 : Nat) (A40_0_4 : Option Addr) (n40_0_4 c40_0_4 : Nat) (A40_0_5 : Option Addr) (n40_0_5 c40_0_5 : Nat) (A40_1 : Option Addr) (n40_1 c40_1 : Nat) (A40_2 : Option Addr) (n40_2 c40_2 : Nat) (A40_3 : Option Addr) (n40_3 c40_3 : Nat),
  e_3 = .returned (.tuple #[.agg #[.slice A40_0_0 n40_0_0 c40_0_0, .slice A40_0_1 n40_0_1 c40_0_1, .slice A40_0_2 n40_0_2 c40_0_2, .slice A40_0_3 n40_0_3 c40_0_3, .slice A40_0_4 n40_0_4 c40_0_4, .slice A40_0_5 n40_0_5 c40_0_5], .slice A40_1 n40_1 c40_1, .slice A40_2 n40_2 c40_2, .slice A40_3 n40_3 c40_3]) ∧
  let w_6 : World := World.alloc w_5 (.cells #[.slice none 0 0, .slice none 0 0, .slice none 0 0, .slice none 0 0, .slice none 0 0, .slice none 0 0] 29);
  canStore w_6 w_5.heap.size 0 6 ∧
  let w_7 : World := setCs w_6 w_5.heap.size 0 [.slice A40_0_0 n40_0_0 c40_0_0, .slice A40_0_1 n40_0_1 c40_0_1, .slice A40_0_2 n40_0_2 c40_0_2, .slice A40_0_3 n40_0_3 c40_0_3, .slice A40_0_4 n40_0_4 c40_0_4, .slice A40_0_5 n40_0_5 c40_0_5];
  ∃ (A45_0 : Option Addr) (n45_0 c45_0 : Nat),
  w_7.cell? ⟨w_1.heap.size, 0, none⟩ = some (.slice A45_0 n45_0 c45_0) ∧
  ∃ (A45_1 : Option Addr) (n45_1 c45_1 : Nat),
  w_7.cell? ⟨w_1.heap.size, 1, none⟩ = some (.slice A45_1 n45_1 c45_1) ∧
  ∃ (A45_2 : Option Addr) (n45_2 c45_2 : Nat),
  w_7.cell? ⟨w_1.heap.size, 2, none⟩ = some (.slice A45_2 n45_2 c45_2) ∧
  ∃ (A45_3 : Option Addr) (n45_3 c45_3 : Nat),
  w_7.cell? ⟨w_1.heap.size, 3, none⟩ = some (.slice A45_3 n45_3 c45_3) ∧
  ∃ (A45_4 : Option Addr) (n45_4 c45_4 : Nat),
  w_7.cell? ⟨w_1.heap.size, 4, none⟩ = some (.slice A45_4 n45_4 c45_4) ∧
  ∃ (A45_5 : Option Addr) (n45_5 c45_5 : Nat),
  w_7.cell? ⟨w_1.heap.size, 5, none⟩ = some (.slice A45_5 n45_5 c45_5) ∧
  Calls Try.prog 15 #[.agg #[.slice A45_0 n45_0 c45_0, .slice A45_1 n45_1 c45_1, .slice A45_2 n45_2 c45_2, .slice A45_3 n45_3 c45_3, .slice A45_4 n45_4 c45_4, .slice A45_5 n45_5 c45_5]] w_7 fun e_4 w_8 =>
  ∃ (A46_0 : Option Addr) (n46_0 c46_0 : Nat) (A46_1 : Option Addr) (n46_1 c46_1 : Nat) (A46_2 : Option Addr) (n46_2 c46_2 : Nat) (A46_3 : Option Addr) (n46_3 c46_3 : Nat) (A46_4 : Option Addr) (n46_4 c46_4 : Nat) (A46_5 : Option Addr) (n46_5 c46_5 : Nat),
  e_4 = .returned (.agg #[.slice A46_0 n46_0 c46_0, .slice A46_1 n46_1 c46_1, .slice A46_2 n46_2 c46_2, .slice A46_3 n46_3 c46_3, .slice A46_4 n46_4 c46_4, .slice A46_5 n46_5 c46_5]) ∧
  let w_9 : World := World.alloc w_8 (.cells #[.slice none 0 0, .slice none 0 0, .slice none 0 0, .slice none 0 0, .slice none 0 0, .slice none 0 0] 29);
  canStore w_9 w_8.heap.size 0 6 ∧
  let w_10 : World := setCs w_9 w_8.heap.size 0 [.slice A46_0 n46_0 c46_0, .slice A46_1 n46_1 c46_1, .slice A46_2 n46_2 c46_2, .slice A46_3 n46_3 c46_3, .slice A46_4 n46_4 c46_4, .slice A46_5 n46_5 c46_5];
  ∃ (A49_0 : Option Addr) (n49_0 c49_0 : Nat),
  w_10.cell? ⟨w.heap.size, 0, none⟩ = some (.slice A49_0 n49_0 c49_0) ∧
  ∃ (A49_1 : Option Addr) (n49_1 c49_1 : Nat),
  w_10.cell? ⟨w.heap.size, 1, none⟩ = some (.slice A49_1 n49_1 c49_1) ∧
  ∃ (A49_2 : Option Addr) (n49_2 c49_2 : Nat),
  w_10.cell? ⟨w.heap.size, 2, none⟩ = some (.slice A49_2 n49_2 c49_2) ∧
  ∃ (A49_3 : Option Addr) (n49_3 c49_3 : Nat),
  w_10.cell? ⟨w.heap.size, 3, none⟩ = some (.slice A49_3 n49_3 c49_3) ∧
  ∃ (A49_4 : Option Addr) (n49_4 c49_4 : Nat),
  w_10.cell? ⟨w.heap.size, 4, none⟩ = some (.slice A49_4 n49_4 c49_4) ∧
  ∃ (A49_5 : Option Addr) (n49_5 c49_5 : Nat),
  w_10.cell? ⟨w.heap.size, 5, none⟩ = some (.slice A49_5 n49_5 c49_5) ∧
  Calls Try.prog 16 #[.int .i64 xa0, .agg #[.slice A49_0 n49_0 c49_0, .slice A49_1 n49_1 c49_1, .slice A49_2 n49_2 c49_2, .slice A49_3 n49_3 c49_3, .slice A49_4 n49_4 c49_4, .slice A49_5 n49_5 c49_5], .pointer p33_1] w_10 fun e_5 w_11 =>
  ∃ (A51_0 : Option Addr) (n51_0 c51_0 : Nat) (x51_1 : Int),
  e_5 = .returned (.tuple #[.slice A51_0 n51_0 c51_0, .int .i64 x51_1]) ∧
  ∃ (A56_0 : Option Addr) (n56_0 c56_0 : Nat),
  w_11.cell? ⟨w_5.heap.size, 0, none⟩ = some (.slice A56_0 n56_0 c56_0) ∧
  ∃ (A56_1 : Option Addr) (n56_1 c56_1 : Nat),
  w_11.cell? ⟨w_5.heap.size, 1, none⟩ = some (.slice A56_1 n56_1 c56_1) ∧
  ∃ (A56_2 : Option Addr) (n56_2 c56_2 : Nat),
  w_11.cell? ⟨w_5.heap.size, 2, none⟩ = some (.slice A56_2 n56_2 c56_2) ∧
  ∃ (A56_3 : Option Addr) (n56_3 c56_3 : Nat),
  w_11.cell? ⟨w_5.heap.size, 3, none⟩ = some (.slice A56_3 n56_3 c56_3) ∧
  ∃ (A56_4 : Option Addr) (n56_4 c56_4 : Nat),
  w_11.cell? ⟨w_5.heap.size, 4, none⟩ = some (.slice A56_4 n56_4 c56_4) ∧
  ∃ (A56_5 : Option Addr) (n56_5 c56_5 : Nat),
  w_11.cell? ⟨w_5.heap.size, 5, none⟩ = some (.slice A56_5 n56_5 c56_5) ∧
  Calls Try.prog 17 #[.int .i64 xa0, .agg #[.slice A56_0 n56_0 c56_0, .slice A56_1 n56_1 c56_1, .slice A56_2 n56_2 c56_2, .slice A56_3 n56_3 c56_3, .slice A56_4 n56_4 c56_4, .slice A56_5 n56_5 c56_5], .pointer p33_0] w_11 fun e_6 w_12 =>
  ∃ (A58_0 : Option Addr) (n58_0 c58_0 : Nat) (x58_1 : Int),
  e_6 = .returned (.tuple #[.slice A58_0 n58_0 c58_0, .int .i64 x58_1]) ∧
  ∃ M : Bool → World → Prop,
  (sel ((x58_1 : Int) == (x51_1 : Int)) (
  Calls Try.prog 18 #[.slice A58_0 n58_0 c58_0, .slice A51_0 n51_0 c51_0] w_12.drew fun e_7 w_13 =>
  ∃ (b67 : Bool),
  e_7 = .returned (.bool b67) ∧
  sel b67 (
  Calls Try.prog 19 #[.pointer p33_0, .pointer p33_1] w_13 fun e_8 w_14 =>
  ∃ (b72 : Bool),
  e_8 = .returned (.bool b72) ∧
  sel b72 (
  ∃ (A75_0 : Option Addr) (n75_0 c75_0 : Nat),
  w_14.cell? ⟨w_5.heap.size, 0, none⟩ = some (.slice A75_0 n75_0 c75_0) ∧
  ∃ (A75_1 : Option Addr) (n75_1 c75_1 : Nat),
  w_14.cell? ⟨w_5.heap.size, 1, none⟩ = some (.slice A75_1 n75_1 c75_1) ∧
  ∃ (A75_2 : Option Addr) (n75_2 c75_2 : Nat),
  w_14.cell? ⟨w_5.heap.size, 2, none⟩ = some (.slice A75_2 n75_2 c75_2) ∧
  ∃ (A75_3 : Option Addr) (n75_3 c75_3 : Nat),
  w_14.cell? ⟨w_5.heap.size, 3, none⟩ = some (.slice A75_3 n75_3 c75_3) ∧
  ∃ (A75_4 : Option Addr) (n75_4 c75_4 : Nat),
  w_14.cell? ⟨w_5.heap.size, 4, none⟩ = some (.slice A75_4 n75_4 c75_4) ∧
  ∃ (A75_5 : Option Addr) (n75_5 c75_5 : Nat),
  w_14.cell? ⟨w_5.heap.size, 5, none⟩ = some (.slice A75_5 n75_5 c75_5) ∧
  (Calls Try.prog 20 #[.agg #[.slice A75_0 n75_0 c75_0, .slice A75_1 n75_1 c75_1, .slice A75_2 n75_2 c75_2, .slice A75_3 n75_3 c75_3, .slice A75_4 n75_4 c75_4, .slice A75_5 n75_5 c75_5]] w_14 fun e_9 w_15 =>
  ∃ (x76 : Int),
  e_9 = .returned (.int .i64 x76) ∧
  ∃ (A77_0 : Option Addr) (n77_0 c77_0 : Nat),
  w_15.cell? ⟨w.heap.size, 0, none⟩ = some (.slice A77_0 n77_0 c77_0) ∧
  ∃ (A77_1 : Option Addr) (n77_1 c77_1 : Nat),
  w_15.cell? ⟨w.heap.size, 1, none⟩ = some (.slice A77_1 n77_1 c77_1) ∧
  ∃ (A77_2 : Option Addr) (n77_2 c77_2 : Nat),
  w_15.cell? ⟨w.heap.size, 2, none⟩ = some (.slice A77_2 n77_2 c77_2) ∧
  ∃ (A77_3 : Option Addr) (n77_3 c77_3 : Nat),
  w_15.cell? ⟨w.heap.size, 3, none⟩ = some (.slice A77_3 n77_3 c77_3) ∧
  ∃ (A77_4 : Option Addr) (n77_4 c77_4 : Nat),
  w_15.cell? ⟨w.heap.size, 4, none⟩ = some (.slice A77_4 n77_4 c77_4) ∧
  ∃ (A77_5 : Option Addr) (n77_5 c77_5 : Nat),
  w_15.cell? ⟨w.heap.size, 5, none⟩ = some (.slice A77_5 n77_5 c77_5) ∧
  Calls Try.prog 21 #[.agg #[.slice A77_0 n77_0 c77_0, .slice A77_1 n77_1 c77_1, .slice A77_2 n77_2 c77_2, .slice A77_3 n77_3 c77_3, .slice A77_4 n77_4 c77_4, .slice A77_5 n77_5 c77_5]] w_15 fun e_10 w_16 =>
  ∃ (x78 : Int),
  e_10 = .returned (.int .i64 x78) ∧
  ([.int .i64 xa0, .pointer (some ⟨w.heap.size, 0, none⟩), .pointer (some ⟨w_1.heap.size, 0, none⟩), .bool b30, .pointer p33_0, .pointer p33_1, .pointer (some ⟨w_5.heap.size, 0, none⟩), .slice A40_1 n40_1 c40_1, .slice A40_2 n40_2 c40_2, .slice A40_3 n40_3 c40_3, .pointer (some ⟨w_8.heap.size, 0, none⟩), .slice A51_0 n51_0 c51_0, .int .i64 x51_1, .slice A58_0 n58_0 c58_0] : List Value) = ([.int .i64 xa0, .pointer (some ⟨w.heap.size, 0, none⟩), .pointer (some ⟨w_1.heap.size, 0, none⟩), .bool b30, .pointer p33_0, .pointer p33_1, .pointer (some ⟨w_5.heap.size, 0, none⟩), .slice A40_1 n40_1 c40_1, .slice A40_2 n40_2 c40_2, .slice A40_3 n40_3 c40_3, .pointer (some ⟨w_8.heap.size, 0, none⟩), .slice A51_0 n51_0 c51_0, .int .i64 x51_1, .slice A58_0 n58_0 c58_0] : List Value) ∧ M ((x76 : Int) == (x78 : Int)) w_16) ∧
  (∃ (A77_0_1 : Option Addr) (n77_0_1 c77_0_1 : Nat),
  w_14.cell? ⟨w.heap.size, 0, none⟩ = some (.slice A77_0_1 n77_0_1 c77_0_1) ∧
  ∃ (A77_1_1 : Option Addr) (n77_1_1 c77_1_1 : Nat),
  w_14.cell? ⟨w.heap.size, 1, none⟩ = some (.slice A77_1_1 n77_1_1 c77_1_1) ∧
  ∃ (A77_2_1 : Option Addr) (n77_2_1 c77_2_1 : Nat),
  w_14.cell? ⟨w.heap.size, 2, none⟩ = some (.slice A77_2_1 n77_2_1 c77_2_1) ∧
  ∃ (A77_3_1 : Option Addr) (n77_3_1 c77_3_1 : Nat),
  w_14.cell? ⟨w.heap.size, 3, none⟩ = some (.slice A77_3_1 n77_3_1 c77_3_1) ∧
  ∃ (A77_4_1 : Option Addr) (n77_4_1 c77_4_1 : Nat),
  w_14.cell? ⟨w.heap.size, 4, none⟩ = some (.slice A77_4_1 n77_4_1 c77_4_1) ∧
  ∃ (A77_5_1 : Option Addr) (n77_5_1 c77_5_1 : Nat),
  w_14.cell? ⟨w.heap.size, 5, none⟩ = some (.slice A77_5_1 n77_5_1 c77_5_1) ∧
  Calls Try.prog 20 #[.agg #[.slice A75_0 n75_0 c75_0, .slice A75_1 n75_1 c75_1, .slice A75_2 n75_2 c75_2, .slice A75_3 n75_3 c75_3, .slice A75_4 n75_4 c75_4, .slice A75_5 n75_5 c75_5]] w_14 fun e_11 w_17 =>
  ∃ (x76_1 : Int),
  e_11 = .returned (.int .i64 x76_1) ∧
  Calls Try.prog 21 #[.agg #[.slice A77_0_1 n77_0_1 c77_0_1, .slice A77_1_1 n77_1_1 c77_1_1, .slice A77_2_1 n77_2_1 c77_2_1, .slice A77_3_1 n77_3_1 c77_3_1, .slice A77_4_1 n77_4_1 c77_4_1, .slice A77_5_1 n77_5_1 c77_5_1]] w_17 fun e_12 w_18 =>
  ∃ (x78_1 : Int),
  e_12 = .returned (.int .i64 x78_1) ∧
  ([.int .i64 xa0, .pointer (some ⟨w.heap.size, 0, none⟩), .pointer (some ⟨w_1.heap.size, 0, none⟩), .bool b30, .pointer p33_0, .pointer p33_1, .pointer (some ⟨w_5.heap.size, 0, none⟩), .slice A40_1 n40_1 c40_1, .slice A40_2 n40_2 c40_2, .slice A40_3 n40_3 c40_3, .pointer (some ⟨w_8.heap.size, 0, none⟩), .slice A51_0 n51_0 c51_0, .int .i64 x51_1, .slice A58_0 n58_0 c58_0] : List Value) = ([.int .i64 xa0, .pointer (some ⟨w.heap.size, 0, none⟩), .pointer (some ⟨w_1.heap.size, 0, none⟩), .bool b30, .pointer p33_0, .pointer p33_1, .pointer (some ⟨w_5.heap.size, 0, none⟩), .slice A40_1 n40_1 c40_1, .slice A40_2 n40_2 c40_2, .slice A40_3 n40_3 c40_3, .pointer (some ⟨w_8.heap.size, 0, none⟩), .slice A51_0 n51_0 c51_0, .int .i64 x51_1, .slice A58_0 n58_0 c58_0] : List Value) ∧ M ((x76_1 : Int) == (x78_1 : Int)) w_18) ∧ True) (
  ([.int .i64 xa0, .pointer (some ⟨w.heap.size, 0, none⟩), .pointer (some ⟨w_1.heap.size, 0, none⟩), .bool b30, .pointer p33_0, .pointer p33_1, .pointer (some ⟨w_5.heap.size, 0, none⟩), .slice A40_1 n40_1 c40_1, .slice A40_2 n40_2 c40_2, .slice A40_3 n40_3 c40_3, .pointer (some ⟨w_8.heap.size, 0, none⟩), .slice A51_0 n51_0 c51_0, .int .i64 x51_1, .slice A58_0 n58_0 c58_0] : List Value) = ([.int .i64 xa0, .pointer (some ⟨w.heap.size, 0, none⟩), .pointer (some ⟨w_1.heap.size, 0, none⟩), .bool b30, .pointer p33_0, .pointer p33_1, .pointer (some ⟨w_5.heap.size, 0, none⟩), .slice A40_1 n40_1 c40_1, .slice A40_2 n40_2 c40_2, .slice A40_3 n40_3 c40_3, .pointer (some ⟨w_8.heap.size, 0, none⟩), .slice A51_0 n51_0 c51_0, .int .i64 x51_1, .slice A58_0 n58_0 c58_0] : List Value) ∧ M false w_14)) (
  ([.int .i64 xa0, .pointer (some ⟨w.heap.size, 0, none⟩), .pointer (some ⟨w_1.heap.size, 0, none⟩), .bool b30, .pointer p33_0, .pointer p33_1, .pointer (some ⟨w_5.heap.size, 0, none⟩), .slice A40_1 n40_1 c40_1, .slice A40_2 n40_2 c40_2, .slice A40_3 n40_3 c40_3, .pointer (some ⟨w_8.heap.size, 0, none⟩), .slice A51_0 n51_0 c51_0, .int .i64 x51_1, .slice A58_0 n58_0 c58_0] : List Value) = ([.int .i64 xa0, .pointer (some ⟨w.heap.size, 0, none⟩), .pointer (some ⟨w_1.heap.size, 0, none⟩), .bool b30, .pointer p33_0, .pointer p33_1, .pointer (some ⟨w_5.heap.size, 0, none⟩), .slice A40_1 n40_1 c40_1, .slice A40_2 n40_2 c40_2, .slice A40_3 n40_3 c40_3, .pointer (some ⟨w_8.heap.size, 0, none⟩), .slice A51_0 n51_0 c51_0, .int .i64 x51_1, .slice A58_0 n58_0 c58_0] : List Value) ∧ M false w_13)) (
  ([.int .i64 xa0, .pointer (some ⟨w.heap.size, 0, none⟩), .pointer (some ⟨w_1.heap.size, 0, none⟩), .bool b30, .pointer p33_0, .pointer p33_1, .pointer (some ⟨w_5.heap.size, 0, none⟩), .slice A40_1 n40_1 c40_1, .slice A40_2 n40_2 c40_2, .slice A40_3 n40_3 c40_3, .pointer (some ⟨w_8.heap.size, 0, none⟩), .slice A51_0 n51_0 c51_0, .int .i64 x51_1, .slice A58_0 n58_0 c58_0] : List Value) = ([.int .i64 xa0, .pointer (some ⟨w.heap.size, 0, none⟩), .pointer (some ⟨w_1.heap.size, 0, none⟩), .bool b30, .pointer p33_0, .pointer p33_1, .pointer (some ⟨w_5.heap.size, 0, none⟩), .slice A40_1 n40_1 c40_1, .slice A40_2 n40_2 c40_2, .slice A40_3 n40_3 c40_3, .pointer (some ⟨w_8.heap.size, 0, none⟩), .slice A51_0 n51_0 c51_0, .int .i64 x51_1, .slice A58_0 n58_0 c58_0] : List Value) ∧ M false w_12.drew)) ∧
  ∀ d : Env, ∀ (b21 : Bool) (w_19 : World), M b21 w_19 →
  ∃ (A83_0 : Option Addr) (n83_0 c83_0 : Nat),
  w_19.cell? ⟨w_1.heap.size, 0, none⟩ = some (.slice A83_0 n83_0 c83_0) ∧
  ∃ (A83_1 : Option Addr) (n83_1 c83_1 : Nat),
  w_19.cell? ⟨w_1.heap.size, 1, none⟩ = some (.slice A83_1 n83_1 c83_1) ∧
  ∃ (A83_2 : Option Addr) (n83_2 c83_2 : Nat),
  w_19.cell? ⟨w_1.heap.size, 2, none⟩ = some (.slice A83_2 n83_2 c83_2) ∧
  ∃ (A83_3 : Option Addr) (n83_3 c83_3 : Nat),
  w_19.cell? ⟨w_1.heap.size, 3, none⟩ = some (.slice A83_3 n83_3 c83_3) ∧
  ∃ (A83_4 : Option Addr) (n83_4 c83_4 : Nat),
  w_19.cell? ⟨w_1.heap.size, 4, none⟩ = some (.slice A83_4 n83_4 c83_4) ∧
  ∃ (A83_5 : Option Addr) (n83_5 c83_5 : Nat),
  w_19.cell? ⟨w_1.heap.size, 5, none⟩ = some (.slice A83_5 n83_5 c83_5) ∧
  Calls Try.prog 16 #[.int .i64 xa0, .agg #[.slice A83_0 n83_0 c83_0, .slice A83_1 n83_1 c83_1, .slice A83_2 n83_2 c83_2, .slice A83_3 n83_3 c83_3, .slice A83_4 n83_4 c83_4, .slice A83_5 n83_5 c83_5], .pointer p33_1] w_19 fun e_13 w_20 =>
  ∃ (A85_0 : Option Addr) (n85_0 c85_0 : Nat) (x85_1 : Int),
  e_13 = .returned (.tuple #[.slice A85_0 n85_0 c85_0, .int .i64 x85_1]) ∧
  ∃ (A90_0 : Option Addr) (n90_0 c90_0 : Nat),
  w_20.cell? ⟨w_8.heap.size, 0, none⟩ = some (.slice A90_0 n90_0 c90_0) ∧
  ∃ (A90_1 : Option Addr) (n90_1 c90_1 : Nat),
  w_20.cell? ⟨w_8.heap.size, 1, none⟩ = some (.slice A90_1 n90_1 c90_1) ∧
  ∃ (A90_2 : Option Addr) (n90_2 c90_2 : Nat),
  w_20.cell? ⟨w_8.heap.size, 2, none⟩ = some (.slice A90_2 n90_2 c90_2) ∧
  ∃ (A90_3 : Option Addr) (n90_3 c90_3 : Nat),
  w_20.cell? ⟨w_8.heap.size, 3, none⟩ = some (.slice A90_3 n90_3 c90_3) ∧
  ∃ (A90_4 : Option Addr) (n90_4 c90_4 : Nat),
  w_20.cell? ⟨w_8.heap.size, 4, none⟩ = some (.slice A90_4 n90_4 c90_4) ∧
  ∃ (A90_5 : Option Addr) (n90_5 c90_5 : Nat),
  w_20.cell? ⟨w_8.heap.size, 5, none⟩ = some (.slice A90_5 n90_5 c90_5) ∧
  Calls Try.prog 17 #[.int .i64 xa0, .agg #[.slice A90_0 n90_0 c90_0, .slice A90_1 n90_1 c90_1, .slice A90_2 n90_2 c90_2, .slice A90_3 n90_3 c90_3, .slice A90_4 n90_4 c90_4, .slice A90_5 n90_5 c90_5], .pointer p33_0] w_20 fun e_14 w_21 =>
  ∃ (A92_0 : Option Addr) (n92_0 c92_0 : Nat) (x92_1 : Int),
  e_14 = .returned (.tuple #[.slice A92_0 n92_0 c92_0, .int .i64 x92_1]) ∧
  ∃ M_1 : Bool → World → Prop,
  (sel ((x92_1 : Int) == (x85_1 : Int)) (
  Calls Try.prog 18 #[.slice A92_0 n92_0 c92_0, .slice A85_0 n85_0 c85_0] w_21.drew fun e_15 w_22 =>
  ∃ (b101 : Bool),
  e_15 = .returned (.bool b101) ∧
  sel b101 (
  Calls Try.prog 19 #[.pointer p33_0, .pointer p33_1] w_22 fun e_16 w_23 =>
  ∃ (b106 : Bool),
  e_16 = .returned (.bool b106) ∧
  sel b106 (
  ∃ (A109_0 : Option Addr) (n109_0 c109_0 : Nat),
  w_23.cell? ⟨w_8.heap.size, 0, none⟩ = some (.slice A109_0 n109_0 c109_0) ∧
  ∃ (A109_1 : Option Addr) (n109_1 c109_1 : Nat),
  w_23.cell? ⟨w_8.heap.size, 1, none⟩ = some (.slice A109_1 n109_1 c109_1) ∧
  ∃ (A109_2 : Option Addr) (n109_2 c109_2 : Nat),
  w_23.cell? ⟨w_8.heap.size, 2, none⟩ = some (.slice A109_2 n109_2 c109_2) ∧
  ∃ (A109_3 : Option Addr) (n109_3 c109_3 : Nat),
  w_23.cell? ⟨w_8.heap.size, 3, none⟩ = some (.slice A109_3 n109_3 c109_3) ∧
  ∃ (A109_4 : Option Addr) (n109_4 c109_4 : Nat),
  w_23.cell? ⟨w_8.heap.size, 4, none⟩ = some (.slice A109_4 n109_4 c109_4) ∧
  ∃ (A109_5 : Option Addr) (n109_5 c109_5 : Nat),
  w_23.cell? ⟨w_8.heap.size, 5, none⟩ = some (.slice A109_5 n109_5 c109_5) ∧
  (Calls Try.prog 20 #[.agg #[.slice A109_0 n109_0 c109_0, .slice A109_1 n109_1 c109_1, .slice A109_2 n109_2 c109_2, .slice A109_3 n109_3 c109_3, .slice A109_4 n109_4 c109_4, .slice A109_5 n109_5 c109_5]] w_23 fun e_17 w_24 =>
  ∃ (x110 : Int),
  e_17 = .returned (.int .i64 x110) ∧
  ∃ (A111_0 : Option Addr) (n111_0 c111_0 : Nat),
  w_24.cell? ⟨w_1.heap.size, 0, none⟩ = some (.slice A111_0 n111_0 c111_0) ∧
  ∃ (A111_1 : Option Addr) (n111_1 c111_1 : Nat),
  w_24.cell? ⟨w_1.heap.size, 1, none⟩ = some (.slice A111_1 n111_1 c111_1) ∧
  ∃ (A111_2 : Option Addr) (n111_2 c111_2 : Nat),
  w_24.cell? ⟨w_1.heap.size, 2, none⟩ = some (.slice A111_2 n111_2 c111_2) ∧
  ∃ (A111_3 : Option Addr) (n111_3 c111_3 : Nat),
  w_24.cell? ⟨w_1.heap.size, 3, none⟩ = some (.slice A111_3 n111_3 c111_3) ∧
  ∃ (A111_4 : Option Addr) (n111_4 c111_4 : Nat),
  w_24.cell? ⟨w_1.heap.size, 4, none⟩ = some (.slice A111_4 n111_4 c111_4) ∧
  ∃ (A111_5 : Option Addr) (n111_5 c111_5 : Nat),
  w_24.cell? ⟨w_1.heap.size, 5, none⟩ = some (.slice A111_5 n111_5 c111_5) ∧
  Calls Try.prog 21 #[.agg #[.slice A111_0 n111_0 c111_0, .slice A111_1 n111_1 c111_1, .slice A111_2 n111_2 c111_2, .slice A111_3 n111_3 c111_3, .slice A111_4 n111_4 c111_4, .slice A111_5 n111_5 c111_5]] w_24 fun e_18 w_25 =>
  ∃ (x112 : Int),
  e_18 = .returned (.int .i64 x112) ∧
  ([.int .i64 xa0, .pointer (some ⟨w.heap.size, 0, none⟩), .pointer (some ⟨w_1.heap.size, 0, none⟩), .bool b30, .pointer p33_0, .pointer (some ⟨w_5.heap.size, 0, none⟩), .slice A40_1 n40_1 c40_1, .slice A40_2 n40_2 c40_2, .slice A40_3 n40_3 c40_3, .pointer (some ⟨w_8.heap.size, 0, none⟩), .slice A51_0 n51_0 c51_0, .int .i64 x51_1, .slice A58_0 n58_0 c58_0, .bool b21] : List Value) = ([.int .i64 xa0, .pointer (some ⟨w.heap.size, 0, none⟩), .pointer (some ⟨w_1.heap.size, 0, none⟩), .bool b30, .pointer p33_0, .pointer (some ⟨w_5.heap.size, 0, none⟩), .slice A40_1 n40_1 c40_1, .slice A40_2 n40_2 c40_2, .slice A40_3 n40_3 c40_3, .pointer (some ⟨w_8.heap.size, 0, none⟩), .slice A51_0 n51_0 c51_0, .int .i64 x51_1, .slice A58_0 n58_0 c58_0, .bool b21] : List Value) ∧ M_1 ((x110 : Int) == (x112 : Int)) w_25) ∧
  (∃ (A111_0_1 : Option Addr) (n111_0_1 c111_0_1 : Nat),
  w_23.cell? ⟨w_1.heap.size, 0, none⟩ = some (.slice A111_0_1 n111_0_1 c111_0_1) ∧
  ∃ (A111_1_1 : Option Addr) (n111_1_1 c111_1_1 : Nat),
  w_23.cell? ⟨w_1.heap.size, 1, none⟩ = some (.slice A111_1_1 n111_1_1 c111_1_1) ∧
  ∃ (A111_2_1 : Option Addr) (n111_2_1 c111_2_1 : Nat),
  w_23.cell? ⟨w_1.heap.size, 2, none⟩ = some (.slice A111_2_1 n111_2_1 c111_2_1) ∧
  ∃ (A111_3_1 : Option Addr) (n111_3_1 c111_3_1 : Nat),
  w_23.cell? ⟨w_1.heap.size, 3, none⟩ = some (.slice A111_3_1 n111_3_1 c111_3_1) ∧
  ∃ (A111_4_1 : Option Addr) (n111_4_1 c111_4_1 : Nat),
  w_23.cell? ⟨w_1.heap.size, 4, none⟩ = some (.slice A111_4_1 n111_4_1 c111_4_1) ∧
  ∃ (A111_5_1 : Option Addr) (n111_5_1 c111_5_1 : Nat),
  w_23.cell? ⟨w_1.heap.size, 5, none⟩ = some (.slice A111_5_1 n111_5_1 c111_5_1) ∧
  Calls Try.prog 20 #[.agg #[.slice A109_0 n109_0 c109_0, .slice A109_1 n109_1 c109_1, .slice A109_2 n109_2 c109_2, .slice A109_3 n109_3 c109_3, .slice A109_4 n109_4 c109_4, .slice A109_5 n109_5 c109_5]] w_23 fun e_19 w_26 =>
  ∃ (x110_1 : Int),
  e_19 = .returned (.int .i64 x110_1) ∧
  Calls Try.prog 21 #[.agg #[.slice A111_0_1 n111_0_1 c111_0_1, .slice A111_1_1 n111_1_1 c111_1_1, .slice A111_2_1 n111_2_1 c111_2_1, .slice A111_3_1 n111_3_1 c111_3_1, .slice A111_4_1 n111_4_1 c111_4_1, .slice A111_5_1 n111_5_1 c111_5_1]] w_26 fun e_20 w_27 =>
  ∃ (x112_1 : Int),
  e_20 = .returned (.int .i64 x112_1) ∧
  ([.int .i64 xa0, .pointer (some ⟨w.heap.size, 0, none⟩), .pointer (some ⟨w_1.heap.size, 0, none⟩), .bool b30, .pointer p33_0, .pointer (some ⟨w_5.heap.size, 0, none⟩), .slice A40_1 n40_1 c40_1, .slice A40_2 n40_2 c40_2, .slice A40_3 n40_3 c40_3, .pointer (some ⟨w_8.heap.size, 0, none⟩), .slice A51_0 n51_0 c51_0, .int .i64 x51_1, .slice A58_0 n58_0 c58_0, .bool b21] : List Value) = ([.int .i64 xa0, .pointer (some ⟨w.heap.size, 0, none⟩), .pointer (some ⟨w_1.heap.size, 0, none⟩), .bool b30, .pointer p33_0, .pointer (some ⟨w_5.heap.size, 0, none⟩), .slice A40_1 n40_1 c40_1, .slice A40_2 n40_2 c40_2, .slice A40_3 n40_3 c40_3, .pointer (some ⟨w_8.heap.size, 0, none⟩), .slice A51_0 n51_0 c51_0, .int .i64 x51_1, .slice A58_0 n58_0 c58_0, .bool b21] : List Value) ∧ M_1 ((x110_1 : Int) == (x112_1 : Int)) w_27) ∧ True) (
  ([.int .i64 xa0, .pointer (some ⟨w.heap.size, 0, none⟩), .pointer (some ⟨w_1.heap.size, 0, none⟩), .bool b30, .pointer p33_0, .pointer (some ⟨w_5.heap.size, 0, none⟩), .slice A40_1 n40_1 c40_1, .slice A40_2 n40_2 c40_2, .slice A40_3 n40_3 c40_3, .pointer (some ⟨w_8.heap.size, 0, none⟩), .slice A51_0 n51_0 c51_0, .int .i64 x51_1, .slice A58_0 n58_0 c58_0, .bool b21] : List Value) = ([.int .i64 xa0, .pointer (some ⟨w.heap.size, 0, none⟩), .pointer (some ⟨w_1.heap.size, 0, none⟩), .bool b30, .pointer p33_0, .pointer (some ⟨w_5.heap.size, 0, none⟩), .slice A40_1 n40_1 c40_1, .slice A40_2 n40_2 c40_2, .slice A40_3 n40_3 c40_3, .pointer (some ⟨w_8.heap.size, 0, none⟩), .slice A51_0 n51_0 c51_0, .int .i64 x51_1, .slice A58_0 n58_0 c58_0, .bool b21] : List Value) ∧ M_1 false w_23)) (
  ([.int .i64 xa0, .pointer (some ⟨w.heap.size, 0, none⟩), .pointer (some ⟨w_1.heap.size, 0, none⟩), .bool b30, .pointer p33_0, .pointer (some ⟨w_5.heap.size, 0, none⟩), .slice A40_1 n40_1 c40_1, .slice A40_2 n40_2 c40_2, .slice A40_3 n40_3 c40_3, .pointer (some ⟨w_8.heap.size, 0, none⟩), .slice A51_0 n51_0 c51_0, .int .i64 x51_1, .slice A58_0 n58_0 c58_0, .bool b21] : List Value) = ([.int .i64 xa0, .pointer (some ⟨w.heap.size, 0, none⟩), .pointer (some ⟨w_1.heap.size, 0, none⟩), .bool b30, .pointer p33_0, .pointer (some ⟨w_5.heap.size, 0, none⟩), .slice A40_1 n40_1 c40_1, .slice A40_2 n40_2 c40_2, .slice A40_3 n40_3 c40_3, .pointer (some ⟨w_8.heap.size, 0, none⟩), .slice A51_0 n51_0 c51_0, .int .i64 x51_1, .slice A58_0 n58_0 c58_0, .bool b21] : List Value) ∧ M_1 false w_22)) (
  ([.int .i64 xa0, .pointer (some ⟨w.heap.size, 0, none⟩), .pointer (some ⟨w_1.heap.size, 0, none⟩), .bool b30, .pointer p33_0, .pointer (some ⟨w_5.heap.size, 0, none⟩), .slice A40_1 n40_1 c40_1, .slice A40_2 n40_2 c40_2, .slice A40_3 n40_3 c40_3, .pointer (some ⟨w_8.heap.size, 0, none⟩), .slice A51_0 n51_0 c51_0, .int .i64 x51_1, .slice A58_0 n58_0 c58_0, .bool b21] : List Value) = ([.int .i64 xa0, .pointer (some ⟨w.heap.size, 0, none⟩), .pointer (some ⟨w_1.heap.size, 0, none⟩), .bool b30, .pointer p33_0, .pointer (some ⟨w_5.heap.size, 0, none⟩), .slice A40_1 n40_1 c40_1, .slice A40_2 n40_2 c40_2, .slice A40_3 n40_3 c40_3, .pointer (some ⟨w_8.heap.size, 0, none⟩), .slice A51_0 n51_0 c51_0, .int .i64 x51_1, .slice A58_0 n58_0 c58_0, .bool b21] : List Value) ∧ M_1 false w_21.drew)) ∧
  ∀ d_1 : Env, ∀ (b26 : Bool) (w_28 : World), M_1 b26 w_28 →
  ∃ (A117_0 : Option Addr) (n117_0 c117_0 : Nat),
  w_28.cell? ⟨w_5.heap.size, 0, none⟩ = some (.slice A117_0 n117_0 c117_0) ∧
  ∃ (A117_1 : Option Addr) (n117_1 c117_1 : Nat),
  w_28.cell? ⟨w_5.heap.size, 1, none⟩ = some (.slice A117_1 n117_1 c117_1) ∧
  ∃ (A117_2 : Option Addr) (n117_2 c117_2 : Nat),
  w_28.cell? ⟨w_5.heap.size, 2, none⟩ = some (.slice A117_2 n117_2 c117_2) ∧
  ∃ (A117_3 : Option Addr) (n117_3 c117_3 : Nat),
  w_28.cell? ⟨w_5.heap.size, 3, none⟩ = some (.slice A117_3 n117_3 c117_3) ∧
  ∃ (A117_4 : Option Addr) (n117_4 c117_4 : Nat),
  w_28.cell? ⟨w_5.heap.size, 4, none⟩ = some (.slice A117_4 n117_4 c117_4) ∧
  ∃ (A117_5 : Option Addr) (n117_5 c117_5 : Nat),
  w_28.cell? ⟨w_5.heap.size, 5, none⟩ = some (.slice A117_5 n117_5 c117_5) ∧
  Calls Try.prog 17 #[.int .i64 xa0, .agg #[.slice A117_0 n117_0 c117_0, .slice A117_1 n117_1 c117_1, .slice A117_2 n117_2 c117_2, .slice A117_3 n117_3 c117_3, .slice A117_4 n117_4 c117_4, .slice A117_5 n117_5 c117_5], .pointer p33_0] w_28 fun e_21 w_29 =>
  ∃ (A119_0 : Option Addr) (n119_0 c119_0 : Nat) (x119_1 : Int),
  e_21 = .returned (.tuple #[.slice A119_0 n119_0 c119_0, .int .i64 x119_1]) ∧
  ∃ M_2 : Bool → World → Prop,
  (sel ((x119_1 : Int) == (x51_1 : Int)) (
  Calls Try.prog 18 #[.slice A119_0 n119_0 c119_0, .slice A51_0 n51_0 c51_0] w_29 fun e_22 w_30 =>
  ∃ (b128 : Bool),
  e_22 = .returned (.bool b128) ∧
  sel b128 (
  Calls Try.prog 18 #[.slice A58_0 n58_0 c58_0, .slice A51_0 n51_0 c51_0] w_30 fun e_23 w_31 =>
  ∃ (b133 : Bool),
  e_23 = .returned (.bool b133) ∧
  ([.int .i64 xa0, .pointer (some ⟨w.heap.size, 0, none⟩), .pointer (some ⟨w_1.heap.size, 0, none⟩), .bool b30, .pointer (some ⟨w_5.heap.size, 0, none⟩), .slice A40_1 n40_1 c40_1, .slice A40_2 n40_2 c40_2, .slice A40_3 n40_3 c40_3, .pointer (some ⟨w_8.heap.size, 0, none⟩), .bool b21, .bool b26] : List Value) = ([.int .i64 xa0, .pointer (some ⟨w.heap.size, 0, none⟩), .pointer (some ⟨w_1.heap.size, 0, none⟩), .bool b30, .pointer (some ⟨w_5.heap.size, 0, none⟩), .slice A40_1 n40_1 c40_1, .slice A40_2 n40_2 c40_2, .slice A40_3 n40_3 c40_3, .pointer (some ⟨w_8.heap.size, 0, none⟩), .bool b21, .bool b26] : List Value) ∧ M_2 b133 w_31) (
  ([.int .i64 xa0, .pointer (some ⟨w.heap.size, 0, none⟩), .pointer (some ⟨w_1.heap.size, 0, none⟩), .bool b30, .pointer (some ⟨w_5.heap.size, 0, none⟩), .slice A40_1 n40_1 c40_1, .slice A40_2 n40_2 c40_2, .slice A40_3 n40_3 c40_3, .pointer (some ⟨w_8.heap.size, 0, none⟩), .bool b21, .bool b26] : List Value) = ([.int .i64 xa0, .pointer (some ⟨w.heap.size, 0, none⟩), .pointer (some ⟨w_1.heap.size, 0, none⟩), .bool b30, .pointer (some ⟨w_5.heap.size, 0, none⟩), .slice A40_1 n40_1 c40_1, .slice A40_2 n40_2 c40_2, .slice A40_3 n40_3 c40_3, .pointer (some ⟨w_8.heap.size, 0, none⟩), .bool b21, .bool b26] : List Value) ∧ M_2 false w_30)) (
  ([.int .i64 xa0, .pointer (some ⟨w.heap.size, 0, none⟩), .pointer (some ⟨w_1.heap.size, 0, none⟩), .bool b30, .pointer (some ⟨w_5.heap.size, 0, none⟩), .slice A40_1 n40_1 c40_1, .slice A40_2 n40_2 c40_2, .slice A40_3 n40_3 c40_3, .pointer (some ⟨w_8.heap.size, 0, none⟩), .bool b21, .bool b26] : List Value) = ([.int .i64 xa0, .pointer (some ⟨w.heap.size, 0, none⟩), .pointer (some ⟨w_1.heap.size, 0, none⟩), .bool b30, .pointer (some ⟨w_5.heap.size, 0, none⟩), .slice A40_1 n40_1 c40_1, .slice A40_2 n40_2 c40_2, .slice A40_3 n40_3 c40_3, .pointer (some ⟨w_8.heap.size, 0, none⟩), .bool b21, .bool b26] : List Value) ∧ M_2 false w_29)) ∧
  ∀ d_2 : Env, ∀ (b28 : Bool) (w_32 : World), M_2 b28 w_32 →
  ∃ (A137_0 : Option Addr) (n137_0 c137_0 : Nat),
  w_32.cell? ⟨w_5.heap.size, 0, none⟩ = some (.slice A137_0 n137_0 c137_0) ∧
  ∃ (A137_1 : Option Addr) (n137_1 c137_1 : Nat),
  w_32.cell? ⟨w_5.heap.size, 1, none⟩ = some (.slice A137_1 n137_1 c137_1) ∧
  ∃ (A137_2 : Option Addr) (n137_2 c137_2 : Nat),
  w_32.cell? ⟨w_5.heap.size, 2, none⟩ = some (.slice A137_2 n137_2 c137_2) ∧
  ∃ (A137_3 : Option Addr) (n137_3 c137_3 : Nat),
  w_32.cell? ⟨w_5.heap.size, 3, none⟩ = some (.slice A137_3 n137_3 c137_3) ∧
  ∃ (A137_4 : Option Addr) (n137_4 c137_4 : Nat),
  w_32.cell? ⟨w_5.heap.size, 4, none⟩ = some (.slice A137_4 n137_4 c137_4) ∧
  ∃ (A137_5 : Option Addr) (n137_5 c137_5 : Nat),
  w_32.cell? ⟨w_5.heap.size, 5, none⟩ = some (.slice A137_5 n137_5 c137_5) ∧
  Calls Try.prog 17 #[.int .i64 xa0, .agg #[.slice A137_0 n137_0 c137_0, .slice A137_1 n137_1 c137_1, .slice A137_2 n137_2 c137_2, .slice A137_3 n137_3 c137_3, .slice A137_4 n137_4 c137_4, .slice A137_5 n137_5 c137_5], .pointer none] w_32 fun e_24 w_33 =>
  ∃ (A138_0 : Option Addr) (n138_0 c138_0 : Nat) (x138_1 : Int),
  e_24 = .returned (.tuple #[.slice A138_0 n138_0 c138_0, .int .i64 x138_1]) ∧
  sel b30 (
  sel b21 (
  sel b26 (
  sel b28 (
  sel ((x138_1 : Int) == (2 : Int)) (
  sel (((n138_0 : Int) : Int) == (0 : Int)) (
  ∃ (A161_0 : Option Addr) (n161_0 c161_0 : Nat),
  w_33.cell? ⟨w_5.heap.size, 0, none⟩ = some (.slice A161_0 n161_0 c161_0) ∧
  ∃ (A161_1 : Option Addr) (n161_1 c161_1 : Nat),
  w_33.cell? ⟨w_5.heap.size, 1, none⟩ = some (.slice A161_1 n161_1 c161_1) ∧
  ∃ (A161_2 : Option Addr) (n161_2 c161_2 : Nat),
  w_33.cell? ⟨w_5.heap.size, 2, none⟩ = some (.slice A161_2 n161_2 c161_2) ∧
  ∃ (A161_3 : Option Addr) (n161_3 c161_3 : Nat),
  w_33.cell? ⟨w_5.heap.size, 3, none⟩ = some (.slice A161_3 n161_3 c161_3) ∧
  ∃ (A161_4 : Option Addr) (n161_4 c161_4 : Nat),
  w_33.cell? ⟨w_5.heap.size, 4, none⟩ = some (.slice A161_4 n161_4 c161_4) ∧
  ∃ (A161_5 : Option Addr) (n161_5 c161_5 : Nat),
  w_33.cell? ⟨w_5.heap.size, 5, none⟩ = some (.slice A161_5 n161_5 c161_5) ∧
  ∃ (A162_0 : Option Addr) (n162_0 c162_0 : Nat),
  w_33.cell? ⟨w.heap.size, 0, none⟩ = some (.slice A162_0 n162_0 c162_0) ∧
  ∃ (A162_1 : Option Addr) (n162_1 c162_1 : Nat),
  w_33.cell? ⟨w.heap.size, 1, none⟩ = some (.slice A162_1 n162_1 c162_1) ∧
  ∃ (A162_2 : Option Addr) (n162_2 c162_2 : Nat),
  w_33.cell? ⟨w.heap.size, 2, none⟩ = some (.slice A162_2 n162_2 c162_2) ∧
  ∃ (A162_3 : Option Addr) (n162_3 c162_3 : Nat),
  w_33.cell? ⟨w.heap.size, 3, none⟩ = some (.slice A162_3 n162_3 c162_3) ∧
  ∃ (A162_4 : Option Addr) (n162_4 c162_4 : Nat),
  w_33.cell? ⟨w.heap.size, 4, none⟩ = some (.slice A162_4 n162_4 c162_4) ∧
  ∃ (A162_5 : Option Addr) (n162_5 c162_5 : Nat),
  w_33.cell? ⟨w.heap.size, 5, none⟩ = some (.slice A162_5 n162_5 c162_5) ∧
  Calls Try.prog 22 #[.agg #[.slice A161_0 n161_0 c161_0, .slice A161_1 n161_1 c161_1, .slice A161_2 n161_2 c161_2, .slice A161_3 n161_3 c161_3, .slice A161_4 n161_4 c161_4, .slice A161_5 n161_5 c161_5], .agg #[.slice A162_0 n162_0 c162_0, .slice A162_1 n162_1 c162_1, .slice A162_2 n162_2 c162_2, .slice A162_3 n162_3 c162_3, .slice A162_4 n162_4 c162_4, .slice A162_5 n162_5 c162_5]] w_33 fun e_25 w_34 =>
  ∃ (b163 : Bool),
  e_25 = .returned (.bool b163) ∧
  sel b163 (
  ∃ (A166_0 : Option Addr) (n166_0 c166_0 : Nat),
  w_34.cell? ⟨w_8.heap.size, 0, none⟩ = some (.slice A166_0 n166_0 c166_0) ∧
  ∃ (A166_1 : Option Addr) (n166_1 c166_1 : Nat),
  w_34.cell? ⟨w_8.heap.size, 1, none⟩ = some (.slice A166_1 n166_1 c166_1) ∧
  ∃ (A166_2 : Option Addr) (n166_2 c166_2 : Nat),
  w_34.cell? ⟨w_8.heap.size, 2, none⟩ = some (.slice A166_2 n166_2 c166_2) ∧
  ∃ (A166_3 : Option Addr) (n166_3 c166_3 : Nat),
  w_34.cell? ⟨w_8.heap.size, 3, none⟩ = some (.slice A166_3 n166_3 c166_3) ∧
  ∃ (A166_4 : Option Addr) (n166_4 c166_4 : Nat),
  w_34.cell? ⟨w_8.heap.size, 4, none⟩ = some (.slice A166_4 n166_4 c166_4) ∧
  ∃ (A166_5 : Option Addr) (n166_5 c166_5 : Nat),
  w_34.cell? ⟨w_8.heap.size, 5, none⟩ = some (.slice A166_5 n166_5 c166_5) ∧
  ∃ (A167_0 : Option Addr) (n167_0 c167_0 : Nat),
  w_34.cell? ⟨w_1.heap.size, 0, none⟩ = some (.slice A167_0 n167_0 c167_0) ∧
  ∃ (A167_1 : Option Addr) (n167_1 c167_1 : Nat),
  w_34.cell? ⟨w_1.heap.size, 1, none⟩ = some (.slice A167_1 n167_1 c167_1) ∧
  ∃ (A167_2 : Option Addr) (n167_2 c167_2 : Nat),
  w_34.cell? ⟨w_1.heap.size, 2, none⟩ = some (.slice A167_2 n167_2 c167_2) ∧
  ∃ (A167_3 : Option Addr) (n167_3 c167_3 : Nat),
  w_34.cell? ⟨w_1.heap.size, 3, none⟩ = some (.slice A167_3 n167_3 c167_3) ∧
  ∃ (A167_4 : Option Addr) (n167_4 c167_4 : Nat),
  w_34.cell? ⟨w_1.heap.size, 4, none⟩ = some (.slice A167_4 n167_4 c167_4) ∧
  ∃ (A167_5 : Option Addr) (n167_5 c167_5 : Nat),
  w_34.cell? ⟨w_1.heap.size, 5, none⟩ = some (.slice A167_5 n167_5 c167_5) ∧
  Calls Try.prog 22 #[.agg #[.slice A166_0 n166_0 c166_0, .slice A166_1 n166_1 c166_1, .slice A166_2 n166_2 c166_2, .slice A166_3 n166_3 c166_3, .slice A166_4 n166_4 c166_4, .slice A166_5 n166_5 c166_5], .agg #[.slice A167_0 n167_0 c167_0, .slice A167_1 n167_1 c167_1, .slice A167_2 n167_2 c167_2, .slice A167_3 n167_3 c167_3, .slice A167_4 n167_4 c167_4, .slice A167_5 n167_5 c167_5]] w_34 fun e_26 w_35 =>
  ∃ (b168 : Bool),
  e_26 = .returned (.bool b168) ∧
  sel b168 (
  Calls Try.prog 23 #[.slice A40_1 n40_1 c40_1, .slice A40_2 n40_2 c40_2, .slice A40_3 n40_3 c40_3] w_35 fun e_27 w_36 =>
  ∃ (b174 : Bool),
  e_27 = .returned (.bool b174) ∧
  R (.bool b174) w_36) (
  R (.bool false) w_35)) (
  R (.bool false) w_34)) (
  R (.bool false) w_33)) (
  R (.bool false) w_33)) (
  R (.bool false) w_33)) (
  R (.bool false) w_33)) (
  R (.bool false) w_33)) (
  R (.bool false) w_33))
theorem f4.eq (xa0 : Int) (Aa1_0 : Option Addr) (na1_0 ca1_0 : Nat) (Aa1_1 : Option Addr) (na1_1 ca1_1 : Nat) (Aa1_2 : Option Addr) (na1_2 ca1_2 : Nat) (Aa1_3 : Option Addr) (na1_3 ca1_3 : Nat) (Aa1_4 : Option Addr) (na1_4 ca1_4 : Nat) (Aa1_5 : Option Addr) (na1_5 ca1_5 : Nat) (Aa2_0 : Option Addr) (na2_0 ca2_0 : Nat) (Aa2_1 : Option Addr) (na2_1 ca2_1 : Nat) (Aa2_2 : Option Addr) (na2_2 ca2_2 : Nat) (Aa2_3 : Option Addr) (na2_3 ca2_3 : Nat) (Aa2_4 : Option Addr) (na2_4 ca2_4 : Nat) (Aa2_5 : Option Addr) (na2_5 ca2_5 : Nat) (Aa3 : Option Addr) (na3 ca3 : Nat) (w : World) (R : Value → World → Prop) : f4.VC xa0 Aa1_0 na1_0 ca1_0 Aa1_1 na1_1 ca1_1 Aa1_2 na1_2 ca1_2 Aa1_3 na1_3 ca1_3 Aa1_4 na1_4 ca1_4 Aa1_5 na1_5 ca1_5 Aa2_0 na2_0 ca2_0 Aa2_1 na2_1 ca2_1 Aa2_2 na2_2 ca2_2 Aa2_3 na2_3 ca2_3 Aa2_4 na2_4 ca2_4 Aa2_5 na2_5 ca2_5 Aa3 na3 ca3 w R = funV Try.prog Try.f4 f4.AL f4.AC #[.int .i64 xa0, .agg #[.slice Aa1_0 na1_0 ca1_0, .slice Aa1_1 na1_1 ca1_1, .slice Aa1_2 na1_2 ca1_2, .slice Aa1_3 na1_3 ca1_3, .slice Aa1_4 na1_4 ca1_4, .slice Aa1_5 na1_5 ca1_5], .agg #[.slice Aa2_0 na2_0 ca2_0, .slice Aa2_1 na2_1 ca2_1, .slice Aa2_2 na2_2 ca2_2, .slice Aa2_3 na2_3 ca2_3, .slice Aa2_4 na2_4 ca2_4, .slice Aa2_5 na2_5 ca2_5], .slice Aa3 na3 ca3] w R := by kernel_rfl
theorem f4.calls {xa0 : Int} {Aa1_0 : Option Addr} {na1_0 ca1_0 : Nat} {Aa1_1 : Option Addr} {na1_1 ca1_1 : Nat} {Aa1_2 : Option Addr} {na1_2 ca1_2 : Nat} {Aa1_3 : Option Addr} {na1_3 ca1_3 : Nat} {Aa1_4 : Option Addr} {na1_4 ca1_4 : Nat} {Aa1_5 : Option Addr} {na1_5 ca1_5 : Nat} {Aa2_0 : Option Addr} {na2_0 ca2_0 : Nat} {Aa2_1 : Option Addr} {na2_1 ca2_1 : Nat} {Aa2_2 : Option Addr} {na2_2 ca2_2 : Nat} {Aa2_3 : Option Addr} {na2_3 ca2_3 : Nat} {Aa2_4 : Option Addr} {na2_4 ca2_4 : Nat} {Aa2_5 : Option Addr} {na2_5 ca2_5 : Nat} {Aa3 : Option Addr} {na3 ca3 : Nat} {w : World} {R : Value → World → Prop} (h : f4.VC xa0 Aa1_0 na1_0 ca1_0 Aa1_1 na1_1 ca1_1 Aa1_2 na1_2 ca1_2 Aa1_3 na1_3 ca1_3 Aa1_4 na1_4 ca1_4 Aa1_5 na1_5 ca1_5 Aa2_0 na2_0 ca2_0 Aa2_1 na2_1 ca2_1 Aa2_2 na2_2 ca2_2 Aa2_3 na2_3 ca2_3 Aa2_4 na2_4 ca2_4 Aa2_5 na2_5 ca2_5 Aa3 na3 ca3 w R) : Calls Try.prog 4 #[.int .i64 xa0, .agg #[.slice Aa1_0 na1_0 ca1_0, .slice Aa1_1 na1_1 ca1_1, .slice Aa1_2 na1_2 ca1_2, .slice Aa1_3 na1_3 ca1_3, .slice Aa1_4 na1_4 ca1_4, .slice Aa1_5 na1_5 ca1_5], .agg #[.slice Aa2_0 na2_0 ca2_0, .slice Aa2_1 na2_1 ca2_1, .slice Aa2_2 na2_2 ca2_2, .slice Aa2_3 na2_3 ca2_3, .slice Aa2_4 na2_4 ca2_4, .slice Aa2_5 na2_5 ca2_5], .slice Aa3 na3 ca3] w fun e w' => ∃ v, e = .returned v ∧ R v w' :=
  funV_sound (fn := Try.f4) (AL := f4.AL) (AC := f4.AC) W24.mixed (by kernel_rfl) (by rw [← f4.eq xa0 Aa1_0 na1_0 ca1_0 Aa1_1 na1_1 ca1_1 Aa1_2 na1_2 ca1_2 Aa1_3 na1_3 ca1_3 Aa1_4 na1_4 ca1_4 Aa1_5 na1_5 ca1_5 Aa2_0 na2_0 ca2_0 Aa2_1 na2_1 ca2_1 Aa2_2 na2_2 ca2_2 Aa2_3 na2_3 ca2_3 Aa2_4 na2_4 ca2_4 Aa2_5 na2_5 ca2_5 Aa3 na3 ca3]; exact h)

end Go.Proofs.Ytjmlfknogjaemaa
