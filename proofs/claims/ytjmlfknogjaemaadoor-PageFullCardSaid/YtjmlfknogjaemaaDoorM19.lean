/- The plain statements of some functions, printed by vcgen.py. -/
import Derived.Test.YtjmlfknogjaemaaDoorM4
import Derived.Test.YtjmlfknogjaemaaDoorProg
import Derived.KernelRfl
set_option maxRecDepth 100000
set_option linter.unusedVariables false
namespace Go.Proofs.YtjmlfknogjaemaaDoor
open Go Go.Proofs.YtjmlfknogjaemaaDoor.Vc
theorem W12.mixed : Tryd.prog.follows .mixedOrders = true := by kernel_rfl
/-- gatehouse/page.Lay -/
def f9.AL : Nat → Option Ann := fun r => match r with | 17 => some ⟨[(71, .int .i64)], [9, 69, 70]⟩ | 20 => some ⟨[(77, .int .i64)], [9, 69, 70, 71, 75, 76]⟩ | _ => none
def f9.AC : Nat → Option Ann := fun r => match r with | 9 => some ⟨[], [0, 4, 5]⟩ | 10 => some ⟨[(8, .blk)], [0, 4, 5]⟩ | 11 => some ⟨[(9, .blk)], [0, 4, 5, 8]⟩ | 12 => some ⟨[], [4, 5, 8, 9]⟩ | 13 => some ⟨[(10, .any)], [4, 9]⟩ | 14 => some ⟨[], [4, 9, 10]⟩ | 15 => some ⟨[], [4, 9, 10]⟩ | 16 => some ⟨[], [4, 9]⟩ | _ => none
def f9.VC (xa0 : Int) (Aa1_0 : Option Addr) (na1_0 ca1_0 : Nat) (Aa1_1 : Option Addr) (na1_1 ca1_1 : Nat) (Aa1_2 : Option Addr) (na1_2 ca1_2 : Nat) (Aa1_3 : Option Addr) (na1_3 ca1_3 : Nat) (Aa1_4 : Option Addr) (na1_4 ca1_4 : Nat) (Aa1_5 : Option Addr) (na1_5 ca1_5 : Nat) (a2 : Option Addr) (w : World) (R : Value → World → Prop) : Prop :=
  let w_1 : World := World.alloc w (.cells #[.slice Aa1_0 na1_0 ca1_0, .slice Aa1_1 na1_1 ca1_1, .slice Aa1_2 na1_2 ca1_2, .slice Aa1_3 na1_3 ca1_3, .slice Aa1_4 na1_4 ca1_4, .slice Aa1_5 na1_5 ca1_5] 32);
  let w_2 : World := World.alloc w_1 (.cells #[.pointer a2] 23);
  ∃ M : World → Prop,
  (∃ (p16 : Option Addr),
  w_2.cell? ⟨w_1.heap.size, 0, none⟩ = some (.pointer p16) ∧
  sel (Option.isNone p16) (
  R (.tuple #[.slice none 0 0, .int .i64 2]) w_2) (
  sel (decide ((xa0 : Int) < (1 : Int))) (
  R (.tuple #[.slice none 0 0, .int .i64 3]) w_2) (
  sel (decide ((2147483647 : Int) < (xa0 : Int))) (
  R (.tuple #[.slice none 0 0, .int .i64 3]) w_2) (
  ∃ (A26_0 : Option Addr) (n26_0 c26_0 : Nat),
  w_2.cell? ⟨w.heap.size, 0, none⟩ = some (.slice A26_0 n26_0 c26_0) ∧
  ∃ (A26_1 : Option Addr) (n26_1 c26_1 : Nat),
  w_2.cell? ⟨w.heap.size, 1, none⟩ = some (.slice A26_1 n26_1 c26_1) ∧
  ∃ (A26_2 : Option Addr) (n26_2 c26_2 : Nat),
  w_2.cell? ⟨w.heap.size, 2, none⟩ = some (.slice A26_2 n26_2 c26_2) ∧
  ∃ (A26_3 : Option Addr) (n26_3 c26_3 : Nat),
  w_2.cell? ⟨w.heap.size, 3, none⟩ = some (.slice A26_3 n26_3 c26_3) ∧
  ∃ (A26_4 : Option Addr) (n26_4 c26_4 : Nat),
  w_2.cell? ⟨w.heap.size, 4, none⟩ = some (.slice A26_4 n26_4 c26_4) ∧
  ∃ (A26_5 : Option Addr) (n26_5 c26_5 : Nat),
  w_2.cell? ⟨w.heap.size, 5, none⟩ = some (.slice A26_5 n26_5 c26_5) ∧
  Calls Tryd.prog 24 #[.agg #[.slice A26_0 n26_0 c26_0, .slice A26_1 n26_1 c26_1, .slice A26_2 n26_2 c26_2, .slice A26_3 n26_3 c26_3, .slice A26_4 n26_4 c26_4, .slice A26_5 n26_5 c26_5]] w_2 fun e_1 w_3 =>
  ∃ (b27 : Bool),
  e_1 = .returned (.bool b27) ∧
  sel (!b27) (
  R (.tuple #[.slice none 0 0, .int .i64 120]) w_3) (
  ∃ (A30_0 : Option Addr) (n30_0 c30_0 : Nat),
  w_3.cell? ⟨w.heap.size, 0, none⟩ = some (.slice A30_0 n30_0 c30_0) ∧
  ∃ (A30_1 : Option Addr) (n30_1 c30_1 : Nat),
  w_3.cell? ⟨w.heap.size, 1, none⟩ = some (.slice A30_1 n30_1 c30_1) ∧
  ∃ (A30_2 : Option Addr) (n30_2 c30_2 : Nat),
  w_3.cell? ⟨w.heap.size, 2, none⟩ = some (.slice A30_2 n30_2 c30_2) ∧
  ∃ (A30_3 : Option Addr) (n30_3 c30_3 : Nat),
  w_3.cell? ⟨w.heap.size, 3, none⟩ = some (.slice A30_3 n30_3 c30_3) ∧
  ∃ (A30_4 : Option Addr) (n30_4 c30_4 : Nat),
  w_3.cell? ⟨w.heap.size, 4, none⟩ = some (.slice A30_4 n30_4 c30_4) ∧
  ∃ (A30_5 : Option Addr) (n30_5 c30_5 : Nat),
  w_3.cell? ⟨w.heap.size, 5, none⟩ = some (.slice A30_5 n30_5 c30_5) ∧
  ∃ (p31 : Option Addr),
  w_3.cell? ⟨w_1.heap.size, 0, none⟩ = some (.pointer p31) ∧
  Calls Tryd.prog 25 #[.agg #[.slice A30_0 n30_0 c30_0, .slice A30_1 n30_1 c30_1, .slice A30_2 n30_2 c30_2, .slice A30_3 n30_3 c30_3, .slice A30_4 n30_4 c30_4, .slice A30_5 n30_5 c30_5], .pointer p31] w_3 fun e_2 w_4 =>
  ∃ (b32 : Bool),
  e_2 = .returned (.bool b32) ∧
  sel (!b32) (
  R (.tuple #[.slice none 0 0, .int .i64 4]) w_4) (
  ([.int .i64 xa0, .pointer (some ⟨w.heap.size, 0, none⟩), .pointer (some ⟨w_1.heap.size, 0, none⟩)] : List Value) = ([.int .i64 xa0, .pointer (some ⟨w.heap.size, 0, none⟩), .pointer (some ⟨w_1.heap.size, 0, none⟩)] : List Value) ∧ M w_4)))))) ∧
  ∀ d : Env, ∀  (w_5 : World), M w_5 →
  ∃ M_1 : Nat → Nat → World → Prop,
  (∃ (A34_0 : Option Addr) (n34_0 c34_0 : Nat),
  w_5.cell? ⟨w.heap.size, 0, none⟩ = some (.slice A34_0 n34_0 c34_0) ∧
  ∃ (A34_1 : Option Addr) (n34_1 c34_1 : Nat),
  w_5.cell? ⟨w.heap.size, 1, none⟩ = some (.slice A34_1 n34_1 c34_1) ∧
  ∃ (A34_2 : Option Addr) (n34_2 c34_2 : Nat),
  w_5.cell? ⟨w.heap.size, 2, none⟩ = some (.slice A34_2 n34_2 c34_2) ∧
  ∃ (A34_3 : Option Addr) (n34_3 c34_3 : Nat),
  w_5.cell? ⟨w.heap.size, 3, none⟩ = some (.slice A34_3 n34_3 c34_3) ∧
  ∃ (A34_4 : Option Addr) (n34_4 c34_4 : Nat),
  w_5.cell? ⟨w.heap.size, 4, none⟩ = some (.slice A34_4 n34_4 c34_4) ∧
  ∃ (A34_5 : Option Addr) (n34_5 c34_5 : Nat),
  w_5.cell? ⟨w.heap.size, 5, none⟩ = some (.slice A34_5 n34_5 c34_5) ∧
  Calls Tryd.prog 26 #[.agg #[.slice A34_0 n34_0 c34_0, .slice A34_1 n34_1 c34_1, .slice A34_2 n34_2 c34_2, .slice A34_3 n34_3 c34_3, .slice A34_4 n34_4 c34_4, .slice A34_5 n34_5 c34_5]] w_5 fun e_3 w_6 =>
  ∃ (x35 : Int),
  e_3 = .returned (.int .i64 x35) ∧
  let w_7 : World := World.alloc w_6 (.cells #[.int .i64 0] 3);
  canStore w_7 w_6.heap.size 0 1 ∧
  let w_8 : World := setCs w_7 w_6.heap.size 0 [.int .i64 x35];
  ([.int .i64 xa0, .pointer (some ⟨w.heap.size, 0, none⟩), .pointer (some ⟨w_1.heap.size, 0, none⟩)] : List Value) = ([.int .i64 xa0, .pointer (some ⟨w.heap.size, 0, none⟩), .pointer (some ⟨w_1.heap.size, 0, none⟩)] : List Value) ∧ M_1 w_6.heap.size 0 w_8) ∧
  ∀ d_1 : Env, ∀ (b8 o8 : Nat) (w_9 : World), M_1 b8 o8 w_9 →
  ∃ M_2 : Nat → Nat → World → Prop,
  (∃ (A39_0 : Option Addr) (n39_0 c39_0 : Nat),
  w_9.cell? ⟨w.heap.size, 0, none⟩ = some (.slice A39_0 n39_0 c39_0) ∧
  ∃ (A39_1 : Option Addr) (n39_1 c39_1 : Nat),
  w_9.cell? ⟨w.heap.size, 1, none⟩ = some (.slice A39_1 n39_1 c39_1) ∧
  ∃ (A39_2 : Option Addr) (n39_2 c39_2 : Nat),
  w_9.cell? ⟨w.heap.size, 2, none⟩ = some (.slice A39_2 n39_2 c39_2) ∧
  ∃ (A39_3 : Option Addr) (n39_3 c39_3 : Nat),
  w_9.cell? ⟨w.heap.size, 3, none⟩ = some (.slice A39_3 n39_3 c39_3) ∧
  ∃ (A39_4 : Option Addr) (n39_4 c39_4 : Nat),
  w_9.cell? ⟨w.heap.size, 4, none⟩ = some (.slice A39_4 n39_4 c39_4) ∧
  ∃ (A39_5 : Option Addr) (n39_5 c39_5 : Nat),
  w_9.cell? ⟨w.heap.size, 5, none⟩ = some (.slice A39_5 n39_5 c39_5) ∧
  (∃ (x36 : Int),
  w_9.cell? ⟨b8, o8, none⟩ = some (.int .i64 x36) ∧
  let i37 : Int := IntKind.i64.wrap (2 * x36);
  let i38 : Int := IntKind.i64.wrap (4 + i37);
  (Calls Tryd.prog 19 #[.agg #[.slice A39_0 n39_0 c39_0, .slice A39_1 n39_1 c39_1, .slice A39_2 n39_2 c39_2, .slice A39_3 n39_3 c39_3, .slice A39_4 n39_4 c39_4, .slice A39_5 n39_5 c39_5]] w_9.drew fun e_4 w_10 =>
  ∃ (x40 : Int),
  e_4 = .returned (.int .i64 x40) ∧
  (∃ (A41 : Option Addr) (n41 c41 : Nat),
  ∃ w_11 : World, (Instr.makeSlice 28 (.int .i64 i38) (.int .i64 x40)).run Tryd.prog w_10 = .ok (.slice A41 n41 c41) w_11 ∧
  let w_12 : World := World.alloc w_11 (.cells #[.slice none 0 0] 28);
  canStore w_12 w_11.heap.size 0 1 ∧
  let w_13 : World := setCs w_12 w_11.heap.size 0 [.slice A41 n41 c41];
  ([.int .i64 xa0, .pointer (some ⟨w.heap.size, 0, none⟩), .pointer (some ⟨w_1.heap.size, 0, none⟩), .pointer (some ⟨b8, o8, none⟩)] : List Value) = ([.int .i64 xa0, .pointer (some ⟨w.heap.size, 0, none⟩), .pointer (some ⟨w_1.heap.size, 0, none⟩), .pointer (some ⟨b8, o8, none⟩)] : List Value) ∧ M_2 w_11.heap.size 0 w_13) ∧
  (let w_14 : World := World.alloc w_10 (.cells #[.slice none 0 0] 28);
  ∃ (A41_1 : Option Addr) (n41_1 c41_1 : Nat),
  ∃ w_15 : World, (Instr.makeSlice 28 (.int .i64 i38) (.int .i64 x40)).run Tryd.prog w_14 = .ok (.slice A41_1 n41_1 c41_1) w_15 ∧
  canStore w_15 w_10.heap.size 0 1 ∧
  let w_16 : World := setCs w_15 w_10.heap.size 0 [.slice A41_1 n41_1 c41_1];
  ([.int .i64 xa0, .pointer (some ⟨w.heap.size, 0, none⟩), .pointer (some ⟨w_1.heap.size, 0, none⟩), .pointer (some ⟨b8, o8, none⟩)] : List Value) = ([.int .i64 xa0, .pointer (some ⟨w.heap.size, 0, none⟩), .pointer (some ⟨w_1.heap.size, 0, none⟩), .pointer (some ⟨b8, o8, none⟩)] : List Value) ∧ M_2 w_10.heap.size 0 w_16) ∧ True) ∧
  (let w_17 : World := World.alloc w_9.drew (.cells #[.slice none 0 0] 28);
  Calls Tryd.prog 19 #[.agg #[.slice A39_0 n39_0 c39_0, .slice A39_1 n39_1 c39_1, .slice A39_2 n39_2 c39_2, .slice A39_3 n39_3 c39_3, .slice A39_4 n39_4 c39_4, .slice A39_5 n39_5 c39_5]] w_17 fun e_5 w_18 =>
  ∃ (x40_1 : Int),
  e_5 = .returned (.int .i64 x40_1) ∧
  ∃ (A41_2 : Option Addr) (n41_2 c41_2 : Nat),
  ∃ w_19 : World, (Instr.makeSlice 28 (.int .i64 i38) (.int .i64 x40_1)).run Tryd.prog w_18 = .ok (.slice A41_2 n41_2 c41_2) w_19 ∧
  canStore w_19 w_9.heap.size 0 1 ∧
  let w_20 : World := setCs w_19 w_9.heap.size 0 [.slice A41_2 n41_2 c41_2];
  ([.int .i64 xa0, .pointer (some ⟨w.heap.size, 0, none⟩), .pointer (some ⟨w_1.heap.size, 0, none⟩), .pointer (some ⟨b8, o8, none⟩)] : List Value) = ([.int .i64 xa0, .pointer (some ⟨w.heap.size, 0, none⟩), .pointer (some ⟨w_1.heap.size, 0, none⟩), .pointer (some ⟨b8, o8, none⟩)] : List Value) ∧ M_2 w_9.heap.size 0 w_20) ∧ True) ∧
  (Calls Tryd.prog 19 #[.agg #[.slice A39_0 n39_0 c39_0, .slice A39_1 n39_1 c39_1, .slice A39_2 n39_2 c39_2, .slice A39_3 n39_3 c39_3, .slice A39_4 n39_4 c39_4, .slice A39_5 n39_5 c39_5]] w_9.drew fun e_6 w_21 =>
  ∃ (x40_2 : Int),
  e_6 = .returned (.int .i64 x40_2) ∧
  ∃ (x36_1 : Int),
  w_21.cell? ⟨b8, o8, none⟩ = some (.int .i64 x36_1) ∧
  let i37_1 : Int := IntKind.i64.wrap (2 * x36_1);
  let i38_1 : Int := IntKind.i64.wrap (4 + i37_1);
  (∃ (A41_3 : Option Addr) (n41_3 c41_3 : Nat),
  ∃ w_22 : World, (Instr.makeSlice 28 (.int .i64 i38_1) (.int .i64 x40_2)).run Tryd.prog w_21 = .ok (.slice A41_3 n41_3 c41_3) w_22 ∧
  let w_23 : World := World.alloc w_22 (.cells #[.slice none 0 0] 28);
  canStore w_23 w_22.heap.size 0 1 ∧
  let w_24 : World := setCs w_23 w_22.heap.size 0 [.slice A41_3 n41_3 c41_3];
  ([.int .i64 xa0, .pointer (some ⟨w.heap.size, 0, none⟩), .pointer (some ⟨w_1.heap.size, 0, none⟩), .pointer (some ⟨b8, o8, none⟩)] : List Value) = ([.int .i64 xa0, .pointer (some ⟨w.heap.size, 0, none⟩), .pointer (some ⟨w_1.heap.size, 0, none⟩), .pointer (some ⟨b8, o8, none⟩)] : List Value) ∧ M_2 w_22.heap.size 0 w_24) ∧
  (let w_25 : World := World.alloc w_21 (.cells #[.slice none 0 0] 28);
  ∃ (A41_4 : Option Addr) (n41_4 c41_4 : Nat),
  ∃ w_26 : World, (Instr.makeSlice 28 (.int .i64 i38_1) (.int .i64 x40_2)).run Tryd.prog w_25 = .ok (.slice A41_4 n41_4 c41_4) w_26 ∧
  canStore w_26 w_21.heap.size 0 1 ∧
  let w_27 : World := setCs w_26 w_21.heap.size 0 [.slice A41_4 n41_4 c41_4];
  ([.int .i64 xa0, .pointer (some ⟨w.heap.size, 0, none⟩), .pointer (some ⟨w_1.heap.size, 0, none⟩), .pointer (some ⟨b8, o8, none⟩)] : List Value) = ([.int .i64 xa0, .pointer (some ⟨w.heap.size, 0, none⟩), .pointer (some ⟨w_1.heap.size, 0, none⟩), .pointer (some ⟨b8, o8, none⟩)] : List Value) ∧ M_2 w_21.heap.size 0 w_27) ∧ True) ∧
  (let w_28 : World := World.alloc w_9.drew (.cells #[.slice none 0 0] 28);
  (∃ (x36_2 : Int),
  w_28.cell? ⟨b8, o8, none⟩ = some (.int .i64 x36_2) ∧
  let i37_2 : Int := IntKind.i64.wrap (2 * x36_2);
  let i38_2 : Int := IntKind.i64.wrap (4 + i37_2);
  Calls Tryd.prog 19 #[.agg #[.slice A39_0 n39_0 c39_0, .slice A39_1 n39_1 c39_1, .slice A39_2 n39_2 c39_2, .slice A39_3 n39_3 c39_3, .slice A39_4 n39_4 c39_4, .slice A39_5 n39_5 c39_5]] w_28 fun e_7 w_29 =>
  ∃ (x40_3 : Int),
  e_7 = .returned (.int .i64 x40_3) ∧
  ∃ (A41_5 : Option Addr) (n41_5 c41_5 : Nat),
  ∃ w_30 : World, (Instr.makeSlice 28 (.int .i64 i38_2) (.int .i64 x40_3)).run Tryd.prog w_29 = .ok (.slice A41_5 n41_5 c41_5) w_30 ∧
  canStore w_30 w_9.heap.size 0 1 ∧
  let w_31 : World := setCs w_30 w_9.heap.size 0 [.slice A41_5 n41_5 c41_5];
  ([.int .i64 xa0, .pointer (some ⟨w.heap.size, 0, none⟩), .pointer (some ⟨w_1.heap.size, 0, none⟩), .pointer (some ⟨b8, o8, none⟩)] : List Value) = ([.int .i64 xa0, .pointer (some ⟨w.heap.size, 0, none⟩), .pointer (some ⟨w_1.heap.size, 0, none⟩), .pointer (some ⟨b8, o8, none⟩)] : List Value) ∧ M_2 w_9.heap.size 0 w_31) ∧
  (Calls Tryd.prog 19 #[.agg #[.slice A39_0 n39_0 c39_0, .slice A39_1 n39_1 c39_1, .slice A39_2 n39_2 c39_2, .slice A39_3 n39_3 c39_3, .slice A39_4 n39_4 c39_4, .slice A39_5 n39_5 c39_5]] w_28 fun e_8 w_32 =>
  ∃ (x40_4 : Int),
  e_8 = .returned (.int .i64 x40_4) ∧
  ∃ (x36_3 : Int),
  w_32.cell? ⟨b8, o8, none⟩ = some (.int .i64 x36_3) ∧
  let i37_3 : Int := IntKind.i64.wrap (2 * x36_3);
  let i38_3 : Int := IntKind.i64.wrap (4 + i37_3);
  ∃ (A41_6 : Option Addr) (n41_6 c41_6 : Nat),
  ∃ w_33 : World, (Instr.makeSlice 28 (.int .i64 i38_3) (.int .i64 x40_4)).run Tryd.prog w_32 = .ok (.slice A41_6 n41_6 c41_6) w_33 ∧
  canStore w_33 w_9.heap.size 0 1 ∧
  let w_34 : World := setCs w_33 w_9.heap.size 0 [.slice A41_6 n41_6 c41_6];
  ([.int .i64 xa0, .pointer (some ⟨w.heap.size, 0, none⟩), .pointer (some ⟨w_1.heap.size, 0, none⟩), .pointer (some ⟨b8, o8, none⟩)] : List Value) = ([.int .i64 xa0, .pointer (some ⟨w.heap.size, 0, none⟩), .pointer (some ⟨w_1.heap.size, 0, none⟩), .pointer (some ⟨b8, o8, none⟩)] : List Value) ∧ M_2 w_9.heap.size 0 w_34) ∧ True) ∧ True) ∧
  ∀ d_2 : Env, ∀ (b9 o9 : Nat) (w_35 : World), M_2 b9 o9 w_35 →
  ∃ M_3 : World → Prop,
  (∃ (A46 : Option Addr) (n46 c46 : Nat),
  w_35.cell? ⟨w.heap.size, 3, none⟩ = some (.slice A46 n46 c46) ∧
  (∃ (A42 : Option Addr) (n42 c42 : Nat),
  w_35.cell? ⟨b9, o9, none⟩ = some (.slice A42 n42 c42) ∧
  (∃ (x44 : Int),
  w_35.cell? ⟨b8, o8, none⟩ = some (.int .i64 x44) ∧
  (Calls Tryd.prog 27 #[.slice A46 n46 c46] w_35.drew fun e_9 w_36 =>
  ∃ (x47 : Int),
  e_9 = .returned (.int .i64 x47) ∧
  ∃ (A49 : Option Addr) (n49 c49 : Nat),
  w_36.cell? ⟨w.heap.size, 4, none⟩ = some (.slice A49 n49 c49) ∧
  Calls Tryd.prog 27 #[.slice A49 n49 c49] w_36 fun e_10 w_37 =>
  ∃ (x50 : Int),
  e_10 = .returned (.int .i64 x50) ∧
  let w_38 : World := World.alloc w_37 (.cells #[.int .i64 xa0, .int .i64 x44, .int .i64 x47, .int .i64 x50] 3);
  ∃ (x52 : Int),
  ∃ w_39 : World, (Builtin.copy_ #[28, 28] 3 #[.slice A42 n42 c42, .slice (some ⟨w_37.heap.size, 0, none⟩) 4 4]).run Tryd.prog w_38 = .ok (.int .i64 x52) w_39 ∧
  ([.pointer (some ⟨w.heap.size, 0, none⟩), .pointer (some ⟨w_1.heap.size, 0, none⟩), .pointer (some ⟨b8, o8, none⟩), .pointer (some ⟨b9, o9, none⟩)] : List Value) = ([.pointer (some ⟨w.heap.size, 0, none⟩), .pointer (some ⟨w_1.heap.size, 0, none⟩), .pointer (some ⟨b8, o8, none⟩), .pointer (some ⟨b9, o9, none⟩)] : List Value) ∧ M_3 w_39) ∧
  (∃ (A49_1 : Option Addr) (n49_1 c49_1 : Nat),
  w_35.cell? ⟨w.heap.size, 4, none⟩ = some (.slice A49_1 n49_1 c49_1) ∧
  Calls Tryd.prog 27 #[.slice A46 n46 c46] w_35.drew fun e_11 w_40 =>
  ∃ (x47_1 : Int),
  e_11 = .returned (.int .i64 x47_1) ∧
  Calls Tryd.prog 27 #[.slice A49_1 n49_1 c49_1] w_40 fun e_12 w_41 =>
  ∃ (x50_1 : Int),
  e_12 = .returned (.int .i64 x50_1) ∧
  let w_42 : World := World.alloc w_41 (.cells #[.int .i64 xa0, .int .i64 x44, .int .i64 x47_1, .int .i64 x50_1] 3);
  ∃ (x52_1 : Int),
  ∃ w_43 : World, (Builtin.copy_ #[28, 28] 3 #[.slice A42 n42 c42, .slice (some ⟨w_41.heap.size, 0, none⟩) 4 4]).run Tryd.prog w_42 = .ok (.int .i64 x52_1) w_43 ∧
  ([.pointer (some ⟨w.heap.size, 0, none⟩), .pointer (some ⟨w_1.heap.size, 0, none⟩), .pointer (some ⟨b8, o8, none⟩), .pointer (some ⟨b9, o9, none⟩)] : List Value) = ([.pointer (some ⟨w.heap.size, 0, none⟩), .pointer (some ⟨w_1.heap.size, 0, none⟩), .pointer (some ⟨b8, o8, none⟩), .pointer (some ⟨b9, o9, none⟩)] : List Value) ∧ M_3 w_43) ∧ True) ∧
  (Calls Tryd.prog 27 #[.slice A46 n46 c46] w_35.drew fun e_13 w_44 =>
  ∃ (x47_2 : Int),
  e_13 = .returned (.int .i64 x47_2) ∧
  ∃ (A49_2 : Option Addr) (n49_2 c49_2 : Nat),
  w_44.cell? ⟨w.heap.size, 4, none⟩ = some (.slice A49_2 n49_2 c49_2) ∧
  (∃ (x44_1 : Int),
  w_44.cell? ⟨b8, o8, none⟩ = some (.int .i64 x44_1) ∧
  Calls Tryd.prog 27 #[.slice A49_2 n49_2 c49_2] w_44 fun e_14 w_45 =>
  ∃ (x50_2 : Int),
  e_14 = .returned (.int .i64 x50_2) ∧
  let w_46 : World := World.alloc w_45 (.cells #[.int .i64 xa0, .int .i64 x44_1, .int .i64 x47_2, .int .i64 x50_2] 3);
  ∃ (x52_2 : Int),
  ∃ w_47 : World, (Builtin.copy_ #[28, 28] 3 #[.slice A42 n42 c42, .slice (some ⟨w_45.heap.size, 0, none⟩) 4 4]).run Tryd.prog w_46 = .ok (.int .i64 x52_2) w_47 ∧
  ([.pointer (some ⟨w.heap.size, 0, none⟩), .pointer (some ⟨w_1.heap.size, 0, none⟩), .pointer (some ⟨b8, o8, none⟩), .pointer (some ⟨b9, o9, none⟩)] : List Value) = ([.pointer (some ⟨w.heap.size, 0, none⟩), .pointer (some ⟨w_1.heap.size, 0, none⟩), .pointer (some ⟨b8, o8, none⟩), .pointer (some ⟨b9, o9, none⟩)] : List Value) ∧ M_3 w_47) ∧
  (Calls Tryd.prog 27 #[.slice A49_2 n49_2 c49_2] w_44 fun e_15 w_48 =>
  ∃ (x50_3 : Int),
  e_15 = .returned (.int .i64 x50_3) ∧
  ∃ (x44_2 : Int),
  w_48.cell? ⟨b8, o8, none⟩ = some (.int .i64 x44_2) ∧
  let w_49 : World := World.alloc w_48 (.cells #[.int .i64 xa0, .int .i64 x44_2, .int .i64 x47_2, .int .i64 x50_3] 3);
  ∃ (x52_3 : Int),
  ∃ w_50 : World, (Builtin.copy_ #[28, 28] 3 #[.slice A42 n42 c42, .slice (some ⟨w_48.heap.size, 0, none⟩) 4 4]).run Tryd.prog w_49 = .ok (.int .i64 x52_3) w_50 ∧
  ([.pointer (some ⟨w.heap.size, 0, none⟩), .pointer (some ⟨w_1.heap.size, 0, none⟩), .pointer (some ⟨b8, o8, none⟩), .pointer (some ⟨b9, o9, none⟩)] : List Value) = ([.pointer (some ⟨w.heap.size, 0, none⟩), .pointer (some ⟨w_1.heap.size, 0, none⟩), .pointer (some ⟨b8, o8, none⟩), .pointer (some ⟨b9, o9, none⟩)] : List Value) ∧ M_3 w_50) ∧ True) ∧
  (∃ (A49_3 : Option Addr) (n49_3 c49_3 : Nat),
  w_35.cell? ⟨w.heap.size, 4, none⟩ = some (.slice A49_3 n49_3 c49_3) ∧
  (∃ (x44_3 : Int),
  w_35.cell? ⟨b8, o8, none⟩ = some (.int .i64 x44_3) ∧
  Calls Tryd.prog 27 #[.slice A46 n46 c46] w_35.drew fun e_16 w_51 =>
  ∃ (x47_3 : Int),
  e_16 = .returned (.int .i64 x47_3) ∧
  Calls Tryd.prog 27 #[.slice A49_3 n49_3 c49_3] w_51 fun e_17 w_52 =>
  ∃ (x50_4 : Int),
  e_17 = .returned (.int .i64 x50_4) ∧
  let w_53 : World := World.alloc w_52 (.cells #[.int .i64 xa0, .int .i64 x44_3, .int .i64 x47_3, .int .i64 x50_4] 3);
  ∃ (x52_4 : Int),
  ∃ w_54 : World, (Builtin.copy_ #[28, 28] 3 #[.slice A42 n42 c42, .slice (some ⟨w_52.heap.size, 0, none⟩) 4 4]).run Tryd.prog w_53 = .ok (.int .i64 x52_4) w_54 ∧
  ([.pointer (some ⟨w.heap.size, 0, none⟩), .pointer (some ⟨w_1.heap.size, 0, none⟩), .pointer (some ⟨b8, o8, none⟩), .pointer (some ⟨b9, o9, none⟩)] : List Value) = ([.pointer (some ⟨w.heap.size, 0, none⟩), .pointer (some ⟨w_1.heap.size, 0, none⟩), .pointer (some ⟨b8, o8, none⟩), .pointer (some ⟨b9, o9, none⟩)] : List Value) ∧ M_3 w_54) ∧
  (Calls Tryd.prog 27 #[.slice A46 n46 c46] w_35.drew fun e_18 w_55 =>
  ∃ (x47_4 : Int),
  e_18 = .returned (.int .i64 x47_4) ∧
  (∃ (x44_4 : Int),
  w_55.cell? ⟨b8, o8, none⟩ = some (.int .i64 x44_4) ∧
  Calls Tryd.prog 27 #[.slice A49_3 n49_3 c49_3] w_55 fun e_19 w_56 =>
  ∃ (x50_5 : Int),
  e_19 = .returned (.int .i64 x50_5) ∧
  let w_57 : World := World.alloc w_56 (.cells #[.int .i64 xa0, .int .i64 x44_4, .int .i64 x47_4, .int .i64 x50_5] 3);
  ∃ (x52_5 : Int),
  ∃ w_58 : World, (Builtin.copy_ #[28, 28] 3 #[.slice A42 n42 c42, .slice (some ⟨w_56.heap.size, 0, none⟩) 4 4]).run Tryd.prog w_57 = .ok (.int .i64 x52_5) w_58 ∧
  ([.pointer (some ⟨w.heap.size, 0, none⟩), .pointer (some ⟨w_1.heap.size, 0, none⟩), .pointer (some ⟨b8, o8, none⟩), .pointer (some ⟨b9, o9, none⟩)] : List Value) = ([.pointer (some ⟨w.heap.size, 0, none⟩), .pointer (some ⟨w_1.heap.size, 0, none⟩), .pointer (some ⟨b8, o8, none⟩), .pointer (some ⟨b9, o9, none⟩)] : List Value) ∧ M_3 w_58) ∧
  (Calls Tryd.prog 27 #[.slice A49_3 n49_3 c49_3] w_55 fun e_20 w_59 =>
  ∃ (x50_6 : Int),
  e_20 = .returned (.int .i64 x50_6) ∧
  ∃ (x44_5 : Int),
  w_59.cell? ⟨b8, o8, none⟩ = some (.int .i64 x44_5) ∧
  let w_60 : World := World.alloc w_59 (.cells #[.int .i64 xa0, .int .i64 x44_5, .int .i64 x47_4, .int .i64 x50_6] 3);
  ∃ (x52_6 : Int),
  ∃ w_61 : World, (Builtin.copy_ #[28, 28] 3 #[.slice A42 n42 c42, .slice (some ⟨w_59.heap.size, 0, none⟩) 4 4]).run Tryd.prog w_60 = .ok (.int .i64 x52_6) w_61 ∧
  ([.pointer (some ⟨w.heap.size, 0, none⟩), .pointer (some ⟨w_1.heap.size, 0, none⟩), .pointer (some ⟨b8, o8, none⟩), .pointer (some ⟨b9, o9, none⟩)] : List Value) = ([.pointer (some ⟨w.heap.size, 0, none⟩), .pointer (some ⟨w_1.heap.size, 0, none⟩), .pointer (some ⟨b8, o8, none⟩), .pointer (some ⟨b9, o9, none⟩)] : List Value) ∧ M_3 w_61) ∧ True) ∧ True) ∧ True) ∧
  (∃ (x44_6 : Int),
  w_35.cell? ⟨b8, o8, none⟩ = some (.int .i64 x44_6) ∧
  (∃ (A42_1 : Option Addr) (n42_1 c42_1 : Nat),
  w_35.cell? ⟨b9, o9, none⟩ = some (.slice A42_1 n42_1 c42_1) ∧
  (Calls Tryd.prog 27 #[.slice A46 n46 c46] w_35.drew fun e_21 w_62 =>
  ∃ (x47_5 : Int),
  e_21 = .returned (.int .i64 x47_5) ∧
  ∃ (A49_4 : Option Addr) (n49_4 c49_4 : Nat),
  w_62.cell? ⟨w.heap.size, 4, none⟩ = some (.slice A49_4 n49_4 c49_4) ∧
  Calls Tryd.prog 27 #[.slice A49_4 n49_4 c49_4] w_62 fun e_22 w_63 =>
  ∃ (x50_7 : Int),
  e_22 = .returned (.int .i64 x50_7) ∧
  let w_64 : World := World.alloc w_63 (.cells #[.int .i64 xa0, .int .i64 x44_6, .int .i64 x47_5, .int .i64 x50_7] 3);
  ∃ (x52_7 : Int),
  ∃ w_65 : World, (Builtin.copy_ #[28, 28] 3 #[.slice A42_1 n42_1 c42_1, .slice (some ⟨w_63.heap.size, 0, none⟩) 4 4]).run Tryd.prog w_64 = .ok (.int .i64 x52_7) w_65 ∧
  ([.pointer (some ⟨w.heap.size, 0, none⟩), .pointer (some ⟨w_1.heap.size, 0, none⟩), .pointer (some ⟨b8, o8, none⟩), .pointer (some ⟨b9, o9, none⟩)] : List Value) = ([.pointer (some ⟨w.heap.size, 0, none⟩), .pointer (some ⟨w_1.heap.size, 0, none⟩), .pointer (some ⟨b8, o8, none⟩), .pointer (some ⟨b9, o9, none⟩)] : List Value) ∧ M_3 w_65) ∧
  (∃ (A49_5 : Option Addr) (n49_5 c49_5 : Nat),
  w_35.cell? ⟨w.heap.size, 4, none⟩ = some (.slice A49_5 n49_5 c49_5) ∧
  Calls Tryd.prog 27 #[.slice A46 n46 c46] w_35.drew fun e_23 w_66 =>
  ∃ (x47_6 : Int),
  e_23 = .returned (.int .i64 x47_6) ∧
  Calls Tryd.prog 27 #[.slice A49_5 n49_5 c49_5] w_66 fun e_24 w_67 =>
  ∃ (x50_8 : Int),
  e_24 = .returned (.int .i64 x50_8) ∧
  let w_68 : World := World.alloc w_67 (.cells #[.int .i64 xa0, .int .i64 x44_6, .int .i64 x47_6, .int .i64 x50_8] 3);
  ∃ (x52_8 : Int),
  ∃ w_69 : World, (Builtin.copy_ #[28, 28] 3 #[.slice A42_1 n42_1 c42_1, .slice (some ⟨w_67.heap.size, 0, none⟩) 4 4]).run Tryd.prog w_68 = .ok (.int .i64 x52_8) w_69 ∧
  ([.pointer (some ⟨w.heap.size, 0, none⟩), .pointer (some ⟨w_1.heap.size, 0, none⟩), .pointer (some ⟨b8, o8, none⟩), .pointer (some ⟨b9, o9, none⟩)] : List Value) = ([.pointer (some ⟨w.heap.size, 0, none⟩), .pointer (some ⟨w_1.heap.size, 0, none⟩), .pointer (some ⟨b8, o8, none⟩), .pointer (some ⟨b9, o9, none⟩)] : List Value) ∧ M_3 w_69) ∧ True) ∧
  (Calls Tryd.prog 27 #[.slice A46 n46 c46] w_35.drew fun e_25 w_70 =>
  ∃ (x47_7 : Int),
  e_25 = .returned (.int .i64 x47_7) ∧
  ∃ (A49_6 : Option Addr) (n49_6 c49_6 : Nat),
  w_70.cell? ⟨w.heap.size, 4, none⟩ = some (.slice A49_6 n49_6 c49_6) ∧
  (∃ (A42_2 : Option Addr) (n42_2 c42_2 : Nat),
  w_70.cell? ⟨b9, o9, none⟩ = some (.slice A42_2 n42_2 c42_2) ∧
  Calls Tryd.prog 27 #[.slice A49_6 n49_6 c49_6] w_70 fun e_26 w_71 =>
  ∃ (x50_9 : Int),
  e_26 = .returned (.int .i64 x50_9) ∧
  let w_72 : World := World.alloc w_71 (.cells #[.int .i64 xa0, .int .i64 x44_6, .int .i64 x47_7, .int .i64 x50_9] 3);
  ∃ (x52_9 : Int),
  ∃ w_73 : World, (Builtin.copy_ #[28, 28] 3 #[.slice A42_2 n42_2 c42_2, .slice (some ⟨w_71.heap.size, 0, none⟩) 4 4]).run Tryd.prog w_72 = .ok (.int .i64 x52_9) w_73 ∧
  ([.pointer (some ⟨w.heap.size, 0, none⟩), .pointer (some ⟨w_1.heap.size, 0, none⟩), .pointer (some ⟨b8, o8, none⟩), .pointer (some ⟨b9, o9, none⟩)] : List Value) = ([.pointer (some ⟨w.heap.size, 0, none⟩), .pointer (some ⟨w_1.heap.size, 0, none⟩), .pointer (some ⟨b8, o8, none⟩), .pointer (some ⟨b9, o9, none⟩)] : List Value) ∧ M_3 w_73) ∧
  (Calls Tryd.prog 27 #[.slice A49_6 n49_6 c49_6] w_70 fun e_27 w_74 =>
  ∃ (x50_10 : Int),
  e_27 = .returned (.int .i64 x50_10) ∧
  ∃ (A42_3 : Option Addr) (n42_3 c42_3 : Nat),
  w_74.cell? ⟨b9, o9, none⟩ = some (.slice A42_3 n42_3 c42_3) ∧
  let w_75 : World := World.alloc w_74 (.cells #[.int .i64 xa0, .int .i64 x44_6, .int .i64 x47_7, .int .i64 x50_10] 3);
  ∃ (x52_10 : Int),
  ∃ w_76 : World, (Builtin.copy_ #[28, 28] 3 #[.slice A42_3 n42_3 c42_3, .slice (some ⟨w_74.heap.size, 0, none⟩) 4 4]).run Tryd.prog w_75 = .ok (.int .i64 x52_10) w_76 ∧
  ([.pointer (some ⟨w.heap.size, 0, none⟩), .pointer (some ⟨w_1.heap.size, 0, none⟩), .pointer (some ⟨b8, o8, none⟩), .pointer (some ⟨b9, o9, none⟩)] : List Value) = ([.pointer (some ⟨w.heap.size, 0, none⟩), .pointer (some ⟨w_1.heap.size, 0, none⟩), .pointer (some ⟨b8, o8, none⟩), .pointer (some ⟨b9, o9, none⟩)] : List Value) ∧ M_3 w_76) ∧ True) ∧
  (∃ (A49_7 : Option Addr) (n49_7 c49_7 : Nat),
  w_35.cell? ⟨w.heap.size, 4, none⟩ = some (.slice A49_7 n49_7 c49_7) ∧
  (∃ (A42_4 : Option Addr) (n42_4 c42_4 : Nat),
  w_35.cell? ⟨b9, o9, none⟩ = some (.slice A42_4 n42_4 c42_4) ∧
  Calls Tryd.prog 27 #[.slice A46 n46 c46] w_35.drew fun e_28 w_77 =>
  ∃ (x47_8 : Int),
  e_28 = .returned (.int .i64 x47_8) ∧
  Calls Tryd.prog 27 #[.slice A49_7 n49_7 c49_7] w_77 fun e_29 w_78 =>
  ∃ (x50_11 : Int),
  e_29 = .returned (.int .i64 x50_11) ∧
  let w_79 : World := World.alloc w_78 (.cells #[.int .i64 xa0, .int .i64 x44_6, .int .i64 x47_8, .int .i64 x50_11] 3);
  ∃ (x52_11 : Int),
  ∃ w_80 : World, (Builtin.copy_ #[28, 28] 3 #[.slice A42_4 n42_4 c42_4, .slice (some ⟨w_78.heap.size, 0, none⟩) 4 4]).run Tryd.prog w_79 = .ok (.int .i64 x52_11) w_80 ∧
  ([.pointer (some ⟨w.heap.size, 0, none⟩), .pointer (some ⟨w_1.heap.size, 0, none⟩), .pointer (some ⟨b8, o8, none⟩), .pointer (some ⟨b9, o9, none⟩)] : List Value) = ([.pointer (some ⟨w.heap.size, 0, none⟩), .pointer (some ⟨w_1.heap.size, 0, none⟩), .pointer (some ⟨b8, o8, none⟩), .pointer (some ⟨b9, o9, none⟩)] : List Value) ∧ M_3 w_80) ∧
  (Calls Tryd.prog 27 #[.slice A46 n46 c46] w_35.drew fun e_30 w_81 =>
  ∃ (x47_9 : Int),
  e_30 = .returned (.int .i64 x47_9) ∧
  (∃ (A42_5 : Option Addr) (n42_5 c42_5 : Nat),
  w_81.cell? ⟨b9, o9, none⟩ = some (.slice A42_5 n42_5 c42_5) ∧
  Calls Tryd.prog 27 #[.slice A49_7 n49_7 c49_7] w_81 fun e_31 w_82 =>
  ∃ (x50_12 : Int),
  e_31 = .returned (.int .i64 x50_12) ∧
  let w_83 : World := World.alloc w_82 (.cells #[.int .i64 xa0, .int .i64 x44_6, .int .i64 x47_9, .int .i64 x50_12] 3);
  ∃ (x52_12 : Int),
  ∃ w_84 : World, (Builtin.copy_ #[28, 28] 3 #[.slice A42_5 n42_5 c42_5, .slice (some ⟨w_82.heap.size, 0, none⟩) 4 4]).run Tryd.prog w_83 = .ok (.int .i64 x52_12) w_84 ∧
  ([.pointer (some ⟨w.heap.size, 0, none⟩), .pointer (some ⟨w_1.heap.size, 0, none⟩), .pointer (some ⟨b8, o8, none⟩), .pointer (some ⟨b9, o9, none⟩)] : List Value) = ([.pointer (some ⟨w.heap.size, 0, none⟩), .pointer (some ⟨w_1.heap.size, 0, none⟩), .pointer (some ⟨b8, o8, none⟩), .pointer (some ⟨b9, o9, none⟩)] : List Value) ∧ M_3 w_84) ∧
  (Calls Tryd.prog 27 #[.slice A49_7 n49_7 c49_7] w_81 fun e_32 w_85 =>
  ∃ (x50_13 : Int),
  e_32 = .returned (.int .i64 x50_13) ∧
  ∃ (A42_6 : Option Addr) (n42_6 c42_6 : Nat),
  w_85.cell? ⟨b9, o9, none⟩ = some (.slice A42_6 n42_6 c42_6) ∧
  let w_86 : World := World.alloc w_85 (.cells #[.int .i64 xa0, .int .i64 x44_6, .int .i64 x47_9, .int .i64 x50_13] 3);
  ∃ (x52_13 : Int),
  ∃ w_87 : World, (Builtin.copy_ #[28, 28] 3 #[.slice A42_6 n42_6 c42_6, .slice (some ⟨w_85.heap.size, 0, none⟩) 4 4]).run Tryd.prog w_86 = .ok (.int .i64 x52_13) w_87 ∧
  ([.pointer (some ⟨w.heap.size, 0, none⟩), .pointer (some ⟨w_1.heap.size, 0, none⟩), .pointer (some ⟨b8, o8, none⟩), .pointer (some ⟨b9, o9, none⟩)] : List Value) = ([.pointer (some ⟨w.heap.size, 0, none⟩), .pointer (some ⟨w_1.heap.size, 0, none⟩), .pointer (some ⟨b8, o8, none⟩), .pointer (some ⟨b9, o9, none⟩)] : List Value) ∧ M_3 w_87) ∧ True) ∧ True) ∧ True) ∧
  (Calls Tryd.prog 27 #[.slice A46 n46 c46] w_35.drew fun e_33 w_88 =>
  ∃ (x47_10 : Int),
  e_33 = .returned (.int .i64 x47_10) ∧
  ∃ (A49_8 : Option Addr) (n49_8 c49_8 : Nat),
  w_88.cell? ⟨w.heap.size, 4, none⟩ = some (.slice A49_8 n49_8 c49_8) ∧
  (∃ (A42_7 : Option Addr) (n42_7 c42_7 : Nat),
  w_88.cell? ⟨b9, o9, none⟩ = some (.slice A42_7 n42_7 c42_7) ∧
  (∃ (x44_7 : Int),
  w_88.cell? ⟨b8, o8, none⟩ = some (.int .i64 x44_7) ∧
  Calls Tryd.prog 27 #[.slice A49_8 n49_8 c49_8] w_88 fun e_34 w_89 =>
  ∃ (x50_14 : Int),
  e_34 = .returned (.int .i64 x50_14) ∧
  let w_90 : World := World.alloc w_89 (.cells #[.int .i64 xa0, .int .i64 x44_7, .int .i64 x47_10, .int .i64 x50_14] 3);
  ∃ (x52_14 : Int),
  ∃ w_91 : World, (Builtin.copy_ #[28, 28] 3 #[.slice A42_7 n42_7 c42_7, .slice (some ⟨w_89.heap.size, 0, none⟩) 4 4]).run Tryd.prog w_90 = .ok (.int .i64 x52_14) w_91 ∧
  ([.pointer (some ⟨w.heap.size, 0, none⟩), .pointer (some ⟨w_1.heap.size, 0, none⟩), .pointer (some ⟨b8, o8, none⟩), .pointer (some ⟨b9, o9, none⟩)] : List Value) = ([.pointer (some ⟨w.heap.size, 0, none⟩), .pointer (some ⟨w_1.heap.size, 0, none⟩), .pointer (some ⟨b8, o8, none⟩), .pointer (some ⟨b9, o9, none⟩)] : List Value) ∧ M_3 w_91) ∧
  (Calls Tryd.prog 27 #[.slice A49_8 n49_8 c49_8] w_88 fun e_35 w_92 =>
  ∃ (x50_15 : Int),
  e_35 = .returned (.int .i64 x50_15) ∧
  ∃ (x44_8 : Int),
  w_92.cell? ⟨b8, o8, none⟩ = some (.int .i64 x44_8) ∧
  let w_93 : World := World.alloc w_92 (.cells #[.int .i64 xa0, .int .i64 x44_8, .int .i64 x47_10, .int .i64 x50_15] 3);
  ∃ (x52_15 : Int),
  ∃ w_94 : World, (Builtin.copy_ #[28, 28] 3 #[.slice A42_7 n42_7 c42_7, .slice (some ⟨w_92.heap.size, 0, none⟩) 4 4]).run Tryd.prog w_93 = .ok (.int .i64 x52_15) w_94 ∧
  ([.pointer (some ⟨w.heap.size, 0, none⟩), .pointer (some ⟨w_1.heap.size, 0, none⟩), .pointer (some ⟨b8, o8, none⟩), .pointer (some ⟨b9, o9, none⟩)] : List Value) = ([.pointer (some ⟨w.heap.size, 0, none⟩), .pointer (some ⟨w_1.heap.size, 0, none⟩), .pointer (some ⟨b8, o8, none⟩), .pointer (some ⟨b9, o9, none⟩)] : List Value) ∧ M_3 w_94) ∧ True) ∧
  (∃ (x44_9 : Int),
  w_88.cell? ⟨b8, o8, none⟩ = some (.int .i64 x44_9) ∧
  (∃ (A42_8 : Option Addr) (n42_8 c42_8 : Nat),
  w_88.cell? ⟨b9, o9, none⟩ = some (.slice A42_8 n42_8 c42_8) ∧
  Calls Tryd.prog 27 #[.slice A49_8 n49_8 c49_8] w_88 fun e_36 w_95 =>
  ∃ (x50_16 : Int),
  e_36 = .returned (.int .i64 x50_16) ∧
  let w_96 : World := World.alloc w_95 (.cells #[.int .i64 xa0, .int .i64 x44_9, .int .i64 x47_10, .int .i64 x50_16] 3);
  ∃ (x52_16 : Int),
  ∃ w_97 : World, (Builtin.copy_ #[28, 28] 3 #[.slice A42_8 n42_8 c42_8, .slice (some ⟨w_95.heap.size, 0, none⟩) 4 4]).run Tryd.prog w_96 = .ok (.int .i64 x52_16) w_97 ∧
  ([.pointer (some ⟨w.heap.size, 0, none⟩), .pointer (some ⟨w_1.heap.size, 0, none⟩), .pointer (some ⟨b8, o8, none⟩), .pointer (some ⟨b9, o9, none⟩)] : List Value) = ([.pointer (some ⟨w.heap.size, 0, none⟩), .pointer (some ⟨w_1.heap.size, 0, none⟩), .pointer (some ⟨b8, o8, none⟩), .pointer (some ⟨b9, o9, none⟩)] : List Value) ∧ M_3 w_97) ∧
  (Calls Tryd.prog 27 #[.slice A49_8 n49_8 c49_8] w_88 fun e_37 w_98 =>
  ∃ (x50_17 : Int),
  e_37 = .returned (.int .i64 x50_17) ∧
  ∃ (A42_9 : Option Addr) (n42_9 c42_9 : Nat),
  w_98.cell? ⟨b9, o9, none⟩ = some (.slice A42_9 n42_9 c42_9) ∧
  let w_99 : World := World.alloc w_98 (.cells #[.int .i64 xa0, .int .i64 x44_9, .int .i64 x47_10, .int .i64 x50_17] 3);
  ∃ (x52_17 : Int),
  ∃ w_100 : World, (Builtin.copy_ #[28, 28] 3 #[.slice A42_9 n42_9 c42_9, .slice (some ⟨w_98.heap.size, 0, none⟩) 4 4]).run Tryd.prog w_99 = .ok (.int .i64 x52_17) w_100 ∧
  ([.pointer (some ⟨w.heap.size, 0, none⟩), .pointer (some ⟨w_1.heap.size, 0, none⟩), .pointer (some ⟨b8, o8, none⟩), .pointer (some ⟨b9, o9, none⟩)] : List Value) = ([.pointer (some ⟨w.heap.size, 0, none⟩), .pointer (some ⟨w_1.heap.size, 0, none⟩), .pointer (some ⟨b8, o8, none⟩), .pointer (some ⟨b9, o9, none⟩)] : List Value) ∧ M_3 w_100) ∧ True) ∧
  (Calls Tryd.prog 27 #[.slice A49_8 n49_8 c49_8] w_88 fun e_38 w_101 =>
  ∃ (x50_18 : Int),
  e_38 = .returned (.int .i64 x50_18) ∧
  ∃ (A42_10 : Option Addr) (n42_10 c42_10 : Nat),
  w_101.cell? ⟨b9, o9, none⟩ = some (.slice A42_10 n42_10 c42_10) ∧
  ∃ (x44_10 : Int),
  w_101.cell? ⟨b8, o8, none⟩ = some (.int .i64 x44_10) ∧
  let w_102 : World := World.alloc w_101 (.cells #[.int .i64 xa0, .int .i64 x44_10, .int .i64 x47_10, .int .i64 x50_18] 3);
  ∃ (x52_18 : Int),
  ∃ w_103 : World, (Builtin.copy_ #[28, 28] 3 #[.slice A42_10 n42_10 c42_10, .slice (some ⟨w_101.heap.size, 0, none⟩) 4 4]).run Tryd.prog w_102 = .ok (.int .i64 x52_18) w_103 ∧
  ([.pointer (some ⟨w.heap.size, 0, none⟩), .pointer (some ⟨w_1.heap.size, 0, none⟩), .pointer (some ⟨b8, o8, none⟩), .pointer (some ⟨b9, o9, none⟩)] : List Value) = ([.pointer (some ⟨w.heap.size, 0, none⟩), .pointer (some ⟨w_1.heap.size, 0, none⟩), .pointer (some ⟨b8, o8, none⟩), .pointer (some ⟨b9, o9, none⟩)] : List Value) ∧ M_3 w_103) ∧ True) ∧
  (∃ (A49_9 : Option Addr) (n49_9 c49_9 : Nat),
  w_35.cell? ⟨w.heap.size, 4, none⟩ = some (.slice A49_9 n49_9 c49_9) ∧
  (∃ (A42_11 : Option Addr) (n42_11 c42_11 : Nat),
  w_35.cell? ⟨b9, o9, none⟩ = some (.slice A42_11 n42_11 c42_11) ∧
  (∃ (x44_11 : Int),
  w_35.cell? ⟨b8, o8, none⟩ = some (.int .i64 x44_11) ∧
  Calls Tryd.prog 27 #[.slice A46 n46 c46] w_35.drew fun e_39 w_104 =>
  ∃ (x47_11 : Int),
  e_39 = .returned (.int .i64 x47_11) ∧
  Calls Tryd.prog 27 #[.slice A49_9 n49_9 c49_9] w_104 fun e_40 w_105 =>
  ∃ (x50_19 : Int),
  e_40 = .returned (.int .i64 x50_19) ∧
  let w_106 : World := World.alloc w_105 (.cells #[.int .i64 xa0, .int .i64 x44_11, .int .i64 x47_11, .int .i64 x50_19] 3);
  ∃ (x52_19 : Int),
  ∃ w_107 : World, (Builtin.copy_ #[28, 28] 3 #[.slice A42_11 n42_11 c42_11, .slice (some ⟨w_105.heap.size, 0, none⟩) 4 4]).run Tryd.prog w_106 = .ok (.int .i64 x52_19) w_107 ∧
  ([.pointer (some ⟨w.heap.size, 0, none⟩), .pointer (some ⟨w_1.heap.size, 0, none⟩), .pointer (some ⟨b8, o8, none⟩), .pointer (some ⟨b9, o9, none⟩)] : List Value) = ([.pointer (some ⟨w.heap.size, 0, none⟩), .pointer (some ⟨w_1.heap.size, 0, none⟩), .pointer (some ⟨b8, o8, none⟩), .pointer (some ⟨b9, o9, none⟩)] : List Value) ∧ M_3 w_107) ∧
  (Calls Tryd.prog 27 #[.slice A46 n46 c46] w_35.drew fun e_41 w_108 =>
  ∃ (x47_12 : Int),
  e_41 = .returned (.int .i64 x47_12) ∧
  (∃ (x44_12 : Int),
  w_108.cell? ⟨b8, o8, none⟩ = some (.int .i64 x44_12) ∧
  Calls Tryd.prog 27 #[.slice A49_9 n49_9 c49_9] w_108 fun e_42 w_109 =>
  ∃ (x50_20 : Int),
  e_42 = .returned (.int .i64 x50_20) ∧
  let w_110 : World := World.alloc w_109 (.cells #[.int .i64 xa0, .int .i64 x44_12, .int .i64 x47_12, .int .i64 x50_20] 3);
  ∃ (x52_20 : Int),
  ∃ w_111 : World, (Builtin.copy_ #[28, 28] 3 #[.slice A42_11 n42_11 c42_11, .slice (some ⟨w_109.heap.size, 0, none⟩) 4 4]).run Tryd.prog w_110 = .ok (.int .i64 x52_20) w_111 ∧
  ([.pointer (some ⟨w.heap.size, 0, none⟩), .pointer (some ⟨w_1.heap.size, 0, none⟩), .pointer (some ⟨b8, o8, none⟩), .pointer (some ⟨b9, o9, none⟩)] : List Value) = ([.pointer (some ⟨w.heap.size, 0, none⟩), .pointer (some ⟨w_1.heap.size, 0, none⟩), .pointer (some ⟨b8, o8, none⟩), .pointer (some ⟨b9, o9, none⟩)] : List Value) ∧ M_3 w_111) ∧
  (Calls Tryd.prog 27 #[.slice A49_9 n49_9 c49_9] w_108 fun e_43 w_112 =>
  ∃ (x50_21 : Int),
  e_43 = .returned (.int .i64 x50_21) ∧
  ∃ (x44_13 : Int),
  w_112.cell? ⟨b8, o8, none⟩ = some (.int .i64 x44_13) ∧
  let w_113 : World := World.alloc w_112 (.cells #[.int .i64 xa0, .int .i64 x44_13, .int .i64 x47_12, .int .i64 x50_21] 3);
  ∃ (x52_21 : Int),
  ∃ w_114 : World, (Builtin.copy_ #[28, 28] 3 #[.slice A42_11 n42_11 c42_11, .slice (some ⟨w_112.heap.size, 0, none⟩) 4 4]).run Tryd.prog w_113 = .ok (.int .i64 x52_21) w_114 ∧
  ([.pointer (some ⟨w.heap.size, 0, none⟩), .pointer (some ⟨w_1.heap.size, 0, none⟩), .pointer (some ⟨b8, o8, none⟩), .pointer (some ⟨b9, o9, none⟩)] : List Value) = ([.pointer (some ⟨w.heap.size, 0, none⟩), .pointer (some ⟨w_1.heap.size, 0, none⟩), .pointer (some ⟨b8, o8, none⟩), .pointer (some ⟨b9, o9, none⟩)] : List Value) ∧ M_3 w_114) ∧ True) ∧ True) ∧
  (∃ (x44_14 : Int),
  w_35.cell? ⟨b8, o8, none⟩ = some (.int .i64 x44_14) ∧
  (∃ (A42_12 : Option Addr) (n42_12 c42_12 : Nat),
  w_35.cell? ⟨b9, o9, none⟩ = some (.slice A42_12 n42_12 c42_12) ∧
  Calls Tryd.prog 27 #[.slice A46 n46 c46] w_35.drew fun e_44 w_115 =>
  ∃ (x47_13 : Int),
  e_44 = .returned (.int .i64 x47_13) ∧
  Calls Tryd.prog 27 #[.slice A49_9 n49_9 c49_9] w_115 fun e_45 w_116 =>
  ∃ (x50_22 : Int),
  e_45 = .returned (.int .i64 x50_22) ∧
  let w_117 : World := World.alloc w_116 (.cells #[.int .i64 xa0, .int .i64 x44_14, .int .i64 x47_13, .int .i64 x50_22] 3);
  ∃ (x52_22 : Int),
  ∃ w_118 : World, (Builtin.copy_ #[28, 28] 3 #[.slice A42_12 n42_12 c42_12, .slice (some ⟨w_116.heap.size, 0, none⟩) 4 4]).run Tryd.prog w_117 = .ok (.int .i64 x52_22) w_118 ∧
  ([.pointer (some ⟨w.heap.size, 0, none⟩), .pointer (some ⟨w_1.heap.size, 0, none⟩), .pointer (some ⟨b8, o8, none⟩), .pointer (some ⟨b9, o9, none⟩)] : List Value) = ([.pointer (some ⟨w.heap.size, 0, none⟩), .pointer (some ⟨w_1.heap.size, 0, none⟩), .pointer (some ⟨b8, o8, none⟩), .pointer (some ⟨b9, o9, none⟩)] : List Value) ∧ M_3 w_118) ∧
  (Calls Tryd.prog 27 #[.slice A46 n46 c46] w_35.drew fun e_46 w_119 =>
  ∃ (x47_14 : Int),
  e_46 = .returned (.int .i64 x47_14) ∧
  (∃ (A42_13 : Option Addr) (n42_13 c42_13 : Nat),
  w_119.cell? ⟨b9, o9, none⟩ = some (.slice A42_13 n42_13 c42_13) ∧
  Calls Tryd.prog 27 #[.slice A49_9 n49_9 c49_9] w_119 fun e_47 w_120 =>
  ∃ (x50_23 : Int),
  e_47 = .returned (.int .i64 x50_23) ∧
  let w_121 : World := World.alloc w_120 (.cells #[.int .i64 xa0, .int .i64 x44_14, .int .i64 x47_14, .int .i64 x50_23] 3);
  ∃ (x52_23 : Int),
  ∃ w_122 : World, (Builtin.copy_ #[28, 28] 3 #[.slice A42_13 n42_13 c42_13, .slice (some ⟨w_120.heap.size, 0, none⟩) 4 4]).run Tryd.prog w_121 = .ok (.int .i64 x52_23) w_122 ∧
  ([.pointer (some ⟨w.heap.size, 0, none⟩), .pointer (some ⟨w_1.heap.size, 0, none⟩), .pointer (some ⟨b8, o8, none⟩), .pointer (some ⟨b9, o9, none⟩)] : List Value) = ([.pointer (some ⟨w.heap.size, 0, none⟩), .pointer (some ⟨w_1.heap.size, 0, none⟩), .pointer (some ⟨b8, o8, none⟩), .pointer (some ⟨b9, o9, none⟩)] : List Value) ∧ M_3 w_122) ∧
  (Calls Tryd.prog 27 #[.slice A49_9 n49_9 c49_9] w_119 fun e_48 w_123 =>
  ∃ (x50_24 : Int),
  e_48 = .returned (.int .i64 x50_24) ∧
  ∃ (A42_14 : Option Addr) (n42_14 c42_14 : Nat),
  w_123.cell? ⟨b9, o9, none⟩ = some (.slice A42_14 n42_14 c42_14) ∧
  let w_124 : World := World.alloc w_123 (.cells #[.int .i64 xa0, .int .i64 x44_14, .int .i64 x47_14, .int .i64 x50_24] 3);
  ∃ (x52_24 : Int),
  ∃ w_125 : World, (Builtin.copy_ #[28, 28] 3 #[.slice A42_14 n42_14 c42_14, .slice (some ⟨w_123.heap.size, 0, none⟩) 4 4]).run Tryd.prog w_124 = .ok (.int .i64 x52_24) w_125 ∧
  ([.pointer (some ⟨w.heap.size, 0, none⟩), .pointer (some ⟨w_1.heap.size, 0, none⟩), .pointer (some ⟨b8, o8, none⟩), .pointer (some ⟨b9, o9, none⟩)] : List Value) = ([.pointer (some ⟨w.heap.size, 0, none⟩), .pointer (some ⟨w_1.heap.size, 0, none⟩), .pointer (some ⟨b8, o8, none⟩), .pointer (some ⟨b9, o9, none⟩)] : List Value) ∧ M_3 w_125) ∧ True) ∧ True) ∧
  (Calls Tryd.prog 27 #[.slice A46 n46 c46] w_35.drew fun e_49 w_126 =>
  ∃ (x47_15 : Int),
  e_49 = .returned (.int .i64 x47_15) ∧
  (∃ (A42_15 : Option Addr) (n42_15 c42_15 : Nat),
  w_126.cell? ⟨b9, o9, none⟩ = some (.slice A42_15 n42_15 c42_15) ∧
  (∃ (x44_15 : Int),
  w_126.cell? ⟨b8, o8, none⟩ = some (.int .i64 x44_15) ∧
  Calls Tryd.prog 27 #[.slice A49_9 n49_9 c49_9] w_126 fun e_50 w_127 =>
  ∃ (x50_25 : Int),
  e_50 = .returned (.int .i64 x50_25) ∧
  let w_128 : World := World.alloc w_127 (.cells #[.int .i64 xa0, .int .i64 x44_15, .int .i64 x47_15, .int .i64 x50_25] 3);
  ∃ (x52_25 : Int),
  ∃ w_129 : World, (Builtin.copy_ #[28, 28] 3 #[.slice A42_15 n42_15 c42_15, .slice (some ⟨w_127.heap.size, 0, none⟩) 4 4]).run Tryd.prog w_128 = .ok (.int .i64 x52_25) w_129 ∧
  ([.pointer (some ⟨w.heap.size, 0, none⟩), .pointer (some ⟨w_1.heap.size, 0, none⟩), .pointer (some ⟨b8, o8, none⟩), .pointer (some ⟨b9, o9, none⟩)] : List Value) = ([.pointer (some ⟨w.heap.size, 0, none⟩), .pointer (some ⟨w_1.heap.size, 0, none⟩), .pointer (some ⟨b8, o8, none⟩), .pointer (some ⟨b9, o9, none⟩)] : List Value) ∧ M_3 w_129) ∧
  (Calls Tryd.prog 27 #[.slice A49_9 n49_9 c49_9] w_126 fun e_51 w_130 =>
  ∃ (x50_26 : Int),
  e_51 = .returned (.int .i64 x50_26) ∧
  ∃ (x44_16 : Int),
  w_130.cell? ⟨b8, o8, none⟩ = some (.int .i64 x44_16) ∧
  let w_131 : World := World.alloc w_130 (.cells #[.int .i64 xa0, .int .i64 x44_16, .int .i64 x47_15, .int .i64 x50_26] 3);
  ∃ (x52_26 : Int),
  ∃ w_132 : World, (Builtin.copy_ #[28, 28] 3 #[.slice A42_15 n42_15 c42_15, .slice (some ⟨w_130.heap.size, 0, none⟩) 4 4]).run Tryd.prog w_131 = .ok (.int .i64 x52_26) w_132 ∧
  ([.pointer (some ⟨w.heap.size, 0, none⟩), .pointer (some ⟨w_1.heap.size, 0, none⟩), .pointer (some ⟨b8, o8, none⟩), .pointer (some ⟨b9, o9, none⟩)] : List Value) = ([.pointer (some ⟨w.heap.size, 0, none⟩), .pointer (some ⟨w_1.heap.size, 0, none⟩), .pointer (some ⟨b8, o8, none⟩), .pointer (some ⟨b9, o9, none⟩)] : List Value) ∧ M_3 w_132) ∧ True) ∧
  (∃ (x44_17 : Int),
  w_126.cell? ⟨b8, o8, none⟩ = some (.int .i64 x44_17) ∧
  (∃ (A42_16 : Option Addr) (n42_16 c42_16 : Nat),
  w_126.cell? ⟨b9, o9, none⟩ = some (.slice A42_16 n42_16 c42_16) ∧
  Calls Tryd.prog 27 #[.slice A49_9 n49_9 c49_9] w_126 fun e_52 w_133 =>
  ∃ (x50_27 : Int),
  e_52 = .returned (.int .i64 x50_27) ∧
  let w_134 : World := World.alloc w_133 (.cells #[.int .i64 xa0, .int .i64 x44_17, .int .i64 x47_15, .int .i64 x50_27] 3);
  ∃ (x52_27 : Int),
  ∃ w_135 : World, (Builtin.copy_ #[28, 28] 3 #[.slice A42_16 n42_16 c42_16, .slice (some ⟨w_133.heap.size, 0, none⟩) 4 4]).run Tryd.prog w_134 = .ok (.int .i64 x52_27) w_135 ∧
  ([.pointer (some ⟨w.heap.size, 0, none⟩), .pointer (some ⟨w_1.heap.size, 0, none⟩), .pointer (some ⟨b8, o8, none⟩), .pointer (some ⟨b9, o9, none⟩)] : List Value) = ([.pointer (some ⟨w.heap.size, 0, none⟩), .pointer (some ⟨w_1.heap.size, 0, none⟩), .pointer (some ⟨b8, o8, none⟩), .pointer (some ⟨b9, o9, none⟩)] : List Value) ∧ M_3 w_135) ∧
  (Calls Tryd.prog 27 #[.slice A49_9 n49_9 c49_9] w_126 fun e_53 w_136 =>
  ∃ (x50_28 : Int),
  e_53 = .returned (.int .i64 x50_28) ∧
  ∃ (A42_17 : Option Addr) (n42_17 c42_17 : Nat),
  w_136.cell? ⟨b9, o9, none⟩ = some (.slice A42_17 n42_17 c42_17) ∧
  let w_137 : World := World.alloc w_136 (.cells #[.int .i64 xa0, .int .i64 x44_17, .int .i64 x47_15, .int .i64 x50_28] 3);
  ∃ (x52_28 : Int),
  ∃ w_138 : World, (Builtin.copy_ #[28, 28] 3 #[.slice A42_17 n42_17 c42_17, .slice (some ⟨w_136.heap.size, 0, none⟩) 4 4]).run Tryd.prog w_137 = .ok (.int .i64 x52_28) w_138 ∧
  ([.pointer (some ⟨w.heap.size, 0, none⟩), .pointer (some ⟨w_1.heap.size, 0, none⟩), .pointer (some ⟨b8, o8, none⟩), .pointer (some ⟨b9, o9, none⟩)] : List Value) = ([.pointer (some ⟨w.heap.size, 0, none⟩), .pointer (some ⟨w_1.heap.size, 0, none⟩), .pointer (some ⟨b8, o8, none⟩), .pointer (some ⟨b9, o9, none⟩)] : List Value) ∧ M_3 w_138) ∧ True) ∧
  (Calls Tryd.prog 27 #[.slice A49_9 n49_9 c49_9] w_126 fun e_54 w_139 =>
  ∃ (x50_29 : Int),
  e_54 = .returned (.int .i64 x50_29) ∧
  ∃ (A42_18 : Option Addr) (n42_18 c42_18 : Nat),
  w_139.cell? ⟨b9, o9, none⟩ = some (.slice A42_18 n42_18 c42_18) ∧
  ∃ (x44_18 : Int),
  w_139.cell? ⟨b8, o8, none⟩ = some (.int .i64 x44_18) ∧
  let w_140 : World := World.alloc w_139 (.cells #[.int .i64 xa0, .int .i64 x44_18, .int .i64 x47_15, .int .i64 x50_29] 3);
  ∃ (x52_29 : Int),
  ∃ w_141 : World, (Builtin.copy_ #[28, 28] 3 #[.slice A42_18 n42_18 c42_18, .slice (some ⟨w_139.heap.size, 0, none⟩) 4 4]).run Tryd.prog w_140 = .ok (.int .i64 x52_29) w_141 ∧
  ([.pointer (some ⟨w.heap.size, 0, none⟩), .pointer (some ⟨w_1.heap.size, 0, none⟩), .pointer (some ⟨b8, o8, none⟩), .pointer (some ⟨b9, o9, none⟩)] : List Value) = ([.pointer (some ⟨w.heap.size, 0, none⟩), .pointer (some ⟨w_1.heap.size, 0, none⟩), .pointer (some ⟨b8, o8, none⟩), .pointer (some ⟨b9, o9, none⟩)] : List Value) ∧ M_3 w_141) ∧ True) ∧ True) ∧ True) ∧
  ∀ d_3 : Env, ∀  (w_142 : World), M_3 w_142 →
  ∃ M_4 : Value → World → Prop,
  (([.pointer (some ⟨w.heap.size, 0, none⟩), .pointer (some ⟨b9, o9, none⟩)] : List Value) = ([.pointer (some ⟨w.heap.size, 0, none⟩), .pointer (some ⟨b9, o9, none⟩)] : List Value) ∧ M_4 (.func (.func 28) #[] #[.pointer (some ⟨w_1.heap.size, 0, none⟩), .pointer (some ⟨b8, o8, none⟩), .pointer (some ⟨b9, o9, none⟩)]) w_142) ∧
  ∀ d_4 : Env, ∀ (v10 : Value) (w_143 : World), M_4 v10 w_143 →
  ∃ M_5 : World → Prop,
  (∃ (A56 : Option Addr) (n56 c56 : Nat),
  w_143.cell? ⟨w.heap.size, 0, none⟩ = some (.slice A56 n56 c56) ∧
  callT Tryd.prog v10 #[.slice A56 n56 c56, .int .i64 3, .func (.func 29) #[] #[]] w_143 fun e_55 w_144 =>
  e_55 = .returned (.tuple #[]) ∧
  ([.pointer (some ⟨w.heap.size, 0, none⟩), .pointer (some ⟨b9, o9, none⟩), v10] : List Value) = ([.pointer (some ⟨w.heap.size, 0, none⟩), .pointer (some ⟨b9, o9, none⟩), v10] : List Value) ∧ M_5 w_144) ∧
  ∀ d_5 : Env, ∀  (w_145 : World), M_5 w_145 →
  ∃ M_6 : World → Prop,
  (∃ (A60 : Option Addr) (n60 c60 : Nat),
  w_145.cell? ⟨w.heap.size, 1, none⟩ = some (.slice A60 n60 c60) ∧
  callT Tryd.prog v10 #[.slice A60 n60 c60, .int .i64 1, .func (.func 30) #[] #[.pointer (some ⟨w.heap.size, 0, none⟩)]] w_145 fun e_56 w_146 =>
  e_56 = .returned (.tuple #[]) ∧
  ([.pointer (some ⟨w.heap.size, 0, none⟩), .pointer (some ⟨b9, o9, none⟩), v10] : List Value) = ([.pointer (some ⟨w.heap.size, 0, none⟩), .pointer (some ⟨b9, o9, none⟩), v10] : List Value) ∧ M_6 w_146) ∧
  ∀ d_6 : Env, ∀  (w_147 : World), M_6 w_147 →
  ∃ M_7 : World → Prop,
  (∃ (A65 : Option Addr) (n65 c65 : Nat),
  w_147.cell? ⟨w.heap.size, 2, none⟩ = some (.slice A65 n65 c65) ∧
  callT Tryd.prog v10 #[.slice A65 n65 c65, .int .i64 2, .func (.func 31) #[] #[.pointer (some ⟨w.heap.size, 0, none⟩)]] w_147 fun e_57 w_148 =>
  e_57 = .returned (.tuple #[]) ∧
  ([.pointer (some ⟨w.heap.size, 0, none⟩), .pointer (some ⟨b9, o9, none⟩)] : List Value) = ([.pointer (some ⟨w.heap.size, 0, none⟩), .pointer (some ⟨b9, o9, none⟩)] : List Value) ∧ M_7 w_148) ∧
  ∀ d_7 : Env, ∀  (w_149 : World), M_7 w_149 →
  ∃ (A69 : Option Addr) (n69 c69 : Nat),
  w_149.cell? ⟨w.heap.size, 5, none⟩ = some (.slice A69 n69 c69) ∧
  ∃ I : Int → World → Nat → Prop,
  (∃ n, I 0 w_149 n) ∧
  ∀ d_8 : Env, ∀ (x71 : Int) (w_150 : World) (r : Nat), I x71 w_150 r →
  sel (decide ((x71 : Int) < ((n69 : Int) : Int))) (
  (0 : Int) ≤ x71 ∧ x71 < (n69 : Int) ∧
  needPtr A69 fun b73 o73 =>
  ∃ (A74 : Option Addr) (n74 c74 : Nat),
  w_150.cell? ⟨b73, o73 + x71.toNat * 1, none⟩ = some (.slice A74 n74 c74) ∧
  ∃ I_1 : Int → World → Nat → Prop,
  (∃ n, I_1 0 w_150 n) ∧
  ∀ d_9 : Env, ∀ (x77 : Int) (w_151 : World) (r_1 : Nat), I_1 x77 w_151 r_1 →
  sel (decide ((x77 : Int) < ((n74 : Int) : Int))) (
  (0 : Int) ≤ x77 ∧ x77 < (n74 : Int) ∧
  needPtr A74 fun b79 o79 =>
  ∃ (x80 : Int),
  w_151.cell? ⟨b79, o79 + x77.toNat * 1, none⟩ = some (.int .u16 x80) ∧
  ∃ (A81 : Option Addr) (n81 c81 : Nat),
  w_151.cell? ⟨b9, o9, none⟩ = some (.slice A81 n81 c81) ∧
  let i83 : Int := IntKind.i64.wrap x80;
  let w_152 : World := World.alloc w_151 (.cells #[.int .i64 i83] 3);
  ∃ (A85 : Option Addr) (n85 c85 : Nat),
  ∃ w_153 : World, (Builtin.append_ #[28, 28] 28 #[.slice A81 n81 c81, .slice (some ⟨w_151.heap.size, 0, none⟩) 1 1]).run Tryd.prog w_152 = .ok (.slice A85 n85 c85) w_153 ∧
  canStore w_153 b9 o9 1 ∧
  let w_154 : World := setCs w_153 b9 o9 [.slice A85 n85 c85];
  let i86 : Int := IntKind.i64.wrap (x77 + 1);
  ([.pointer (some ⟨b9, o9, none⟩), .slice A69 n69 c69, .int .i64 (n69 : Int), .int .i64 x71, .slice A74 n74 c74, .int .i64 (n74 : Int)] : List Value) = ([.pointer (some ⟨b9, o9, none⟩), .slice A69 n69 c69, .int .i64 (n69 : Int), .int .i64 x71, .slice A74 n74 c74, .int .i64 (n74 : Int)] : List Value) ∧ ∃ m, m < r_1 ∧ I_1 i86 w_154 m) (
  let i87 : Int := IntKind.i64.wrap (x71 + 1);
  ([.pointer (some ⟨b9, o9, none⟩), .slice A69 n69 c69, .int .i64 (n69 : Int)] : List Value) = ([.pointer (some ⟨b9, o9, none⟩), .slice A69 n69 c69, .int .i64 (n69 : Int)] : List Value) ∧ ∃ m, m < r ∧ I i87 w_151 m)) (
  ∃ (A88 : Option Addr) (n88 c88 : Nat),
  w_150.cell? ⟨b9, o9, none⟩ = some (.slice A88 n88 c88) ∧
  R (.tuple #[.slice A88 n88 c88, .int .i64 0]) w_150)
theorem f9.eq (xa0 : Int) (Aa1_0 : Option Addr) (na1_0 ca1_0 : Nat) (Aa1_1 : Option Addr) (na1_1 ca1_1 : Nat) (Aa1_2 : Option Addr) (na1_2 ca1_2 : Nat) (Aa1_3 : Option Addr) (na1_3 ca1_3 : Nat) (Aa1_4 : Option Addr) (na1_4 ca1_4 : Nat) (Aa1_5 : Option Addr) (na1_5 ca1_5 : Nat) (a2 : Option Addr) (w : World) (R : Value → World → Prop) : f9.VC xa0 Aa1_0 na1_0 ca1_0 Aa1_1 na1_1 ca1_1 Aa1_2 na1_2 ca1_2 Aa1_3 na1_3 ca1_3 Aa1_4 na1_4 ca1_4 Aa1_5 na1_5 ca1_5 a2 w R = funV Tryd.prog Tryd.f9 f9.AL f9.AC #[.int .i64 xa0, .agg #[.slice Aa1_0 na1_0 ca1_0, .slice Aa1_1 na1_1 ca1_1, .slice Aa1_2 na1_2 ca1_2, .slice Aa1_3 na1_3 ca1_3, .slice Aa1_4 na1_4 ca1_4, .slice Aa1_5 na1_5 ca1_5], .pointer a2] w R := by kernel_rfl
theorem f9.calls {xa0 : Int} {Aa1_0 : Option Addr} {na1_0 ca1_0 : Nat} {Aa1_1 : Option Addr} {na1_1 ca1_1 : Nat} {Aa1_2 : Option Addr} {na1_2 ca1_2 : Nat} {Aa1_3 : Option Addr} {na1_3 ca1_3 : Nat} {Aa1_4 : Option Addr} {na1_4 ca1_4 : Nat} {Aa1_5 : Option Addr} {na1_5 ca1_5 : Nat} {a2 : Option Addr} {w : World} {R : Value → World → Prop} (h : f9.VC xa0 Aa1_0 na1_0 ca1_0 Aa1_1 na1_1 ca1_1 Aa1_2 na1_2 ca1_2 Aa1_3 na1_3 ca1_3 Aa1_4 na1_4 ca1_4 Aa1_5 na1_5 ca1_5 a2 w R) : Calls Tryd.prog 9 #[.int .i64 xa0, .agg #[.slice Aa1_0 na1_0 ca1_0, .slice Aa1_1 na1_1 ca1_1, .slice Aa1_2 na1_2 ca1_2, .slice Aa1_3 na1_3 ca1_3, .slice Aa1_4 na1_4 ca1_4, .slice Aa1_5 na1_5 ca1_5], .pointer a2] w fun e w' => ∃ v, e = .returned v ∧ R v w' :=
  funV_sound (fn := Tryd.f9) (AL := f9.AL) (AC := f9.AC) W12.mixed (by kernel_rfl) (by rw [← f9.eq xa0 Aa1_0 na1_0 ca1_0 Aa1_1 na1_1 ca1_1 Aa1_2 na1_2 ca1_2 Aa1_3 na1_3 ca1_3 Aa1_4 na1_4 ca1_4 Aa1_5 na1_5 ca1_5 a2]; exact h)

end Go.Proofs.YtjmlfknogjaemaaDoor
