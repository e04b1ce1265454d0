/- The plain statements of some functions, printed by vcgen.py. -/
import Derived.Test.YtjmlfknogjaemaaM4
import Derived.Test.YtjmlfknogjaemaaProg
import Derived.KernelRfl
import Derived.Test.YtjmlfknogjaemaaM8
set_option maxRecDepth 100000
set_option linter.unusedVariables false
namespace Go.Proofs.Ytjmlfknogjaemaa
open Go Go.Proofs.Ytjmlfknogjaemaa.Vc
theorem W3.mixed : Try.prog.follows .mixedOrders = true := by kernel_rfl
/-- gatehouse/page.table -/
def f64.AL : Nat → Option Ann := fun _ => none
def f64.AC : Nat → Option Ann := fun _ => none
def f64.VC (Aa0 : Option Addr) (na0 ca0 : Nat) (w : World) (R : Value → World → Prop) : Prop :=
  sel (decide (((na0 : Int) : Int) < (4 : Int))) (
  R (.int .i64 0) w) (
  4 ≤ na0 ∧
  needPtr Aa0 fun b8 o8 =>
  ∃ (x9_0 : Int),
  w.cell? ⟨b8, o8, none⟩ = some (.int .i64 x9_0) ∧
  ∃ (x9_1 : Int),
  w.cell? ⟨b8, o8 + 1, none⟩ = some (.int .i64 x9_1) ∧
  ∃ (x9_2 : Int),
  w.cell? ⟨b8, o8 + 1 + 1, none⟩ = some (.int .i64 x9_2) ∧
  ∃ (x9_3 : Int),
  w.cell? ⟨b8, o8 + 1 + 1 + 1, none⟩ = some (.int .i64 x9_3) ∧
  let w_1 : World := World.alloc w (.cells #[.int .i64 0, .int .i64 0, .int .i64 0, .int .i64 0] 108);
  canStore w_1 w.heap.size 0 4 ∧
  let w_2 : World := setCs w_1 w.heap.size 0 [.int .i64 x9_0, .int .i64 x9_1, .int .i64 x9_2, .int .i64 x9_3];
  (0 : Int) ≤ 1 ∧ 1 < (4 : Int) ∧
  ∃ (x11 : Int),
  w_2.cell? ⟨w.heap.size, 1, none⟩ = some (.int .i64 x11) ∧
  Calls Try.prog 76 #[.int .i64 x11] w_2 fun e_1 w_3 =>
  ∃ (b12 : Bool),
  e_1 = .returned (.bool b12) ∧
  sel (!b12) (
  R (.int .i64 0) w_3) (
  (0 : Int) ≤ 1 ∧ 1 < (4 : Int) ∧
  ∃ (x18 : Int),
  w_3.cell? ⟨w.heap.size, 1, none⟩ = some (.int .i64 x18) ∧
  let i19 : Int := IntKind.i64.wrap (2 * x18);
  let i20 : Int := IntKind.i64.wrap (4 + i19);
  sel (decide (((na0 : Int) : Int) < (i20 : Int))) (
  R (.int .i64 0) w_3) (
  (0 : Int) ≤ 1 ∧ 1 < (4 : Int) ∧
  ∃ (x24 : Int),
  w_3.cell? ⟨w.heap.size, 1, none⟩ = some (.int .i64 x24) ∧
  R (.int .i64 x24) w_3)))
theorem f64.eq (Aa0 : Option Addr) (na0 ca0 : Nat) (w : World) (R : Value → World → Prop) : f64.VC Aa0 na0 ca0 w R = funV Try.prog Try.f64 f64.AL f64.AC #[.slice Aa0 na0 ca0] w R := by kernel_rfl
theorem f64.calls {Aa0 : Option Addr} {na0 ca0 : Nat} {w : World} {R : Value → World → Prop} (h : f64.VC Aa0 na0 ca0 w R) : Calls Try.prog 64 #[.slice Aa0 na0 ca0] w fun e w' => ∃ v, e = .returned v ∧ R v w' :=
  funV_sound (fn := Try.f64) (AL := f64.AL) (AC := f64.AC) W3.mixed (by kernel_rfl) (by rw [← f64.eq Aa0 na0 ca0]; exact h)

/-- gatehouse/page.Look -/
def f31.AL : Nat → Option Ann := fun r => match r with | 7 => some ⟨[(10, .int .i64), (11, .int .i64)], [0, 8, 9]⟩ | _ => none
def f31.AC : Nat → Option Ann := fun _ => none
def f31.VC (Aa0 : Option Addr) (na0 ca0 : Nat) (xa1 : Int) (xa2 : Int) (w : World) (R : Value → World → Prop) : Prop :=
  Calls Try.prog 64 #[.slice Aa0 na0 ca0] w fun e_1 w_1 =>
  ∃ (x13 : Int),
  e_1 = .returned (.int .i64 x13) ∧
  sel ((x13 : Int) == (0 : Int)) (
  R (.tuple #[.int .i64 0, .int .i64 0]) w_1) (
  sel (decide ((xa2 : Int) < (1 : Int))) (
  R (.tuple #[.int .i64 0, .int .i64 0]) w_1) (
  sel (decide ((3 : Int) < (xa2 : Int))) (
  R (.tuple #[.int .i64 0, .int .i64 0]) w_1) (
  let i25 : Int := IntKind.i64.wrap (xa1 * 4);
  let i27 : Int := IntKind.i64.wrap xa2;
  let i28 : Int := IntKind.i64.wrap (i25 + i27);
  Calls Try.prog 11 #[.int .i64 i28, .int .i64 x13] w_1 fun e_2 w_2 =>
  ∃ (x31 : Int),
  e_2 = .returned (.int .i64 x31) ∧
  ∃ I : Int → Int → World → Nat → Prop,
  (∃ n, I x31 1 w_2 n) ∧
  ∀ d : Env, ∀ (x10 : Int) (x11 : Int) (w_3 : World) (r : Nat), I x10 x11 w_3 r →
  sel (decide ((x11 : Int) ≤ (x13 : Int))) (
  let i39 : Int := IntKind.i64.wrap (2 * x10);
  let i40 : Int := IntKind.i64.wrap (4 + i39);
  (0 : Int) ≤ i40 ∧ i40 < (na0 : Int) ∧
  needPtr Aa0 fun b41 o41 =>
  ∃ (x42 : Int),
  w_3.cell? ⟨b41, o41 + i40.toNat * 1, none⟩ = some (.int .i64 x42) ∧
  sel ((x42 : Int) == (i28 : Int)) (
  let i48 : Int := IntKind.i64.wrap (2 * x10);
  let i49 : Int := IntKind.i64.wrap (4 + i48);
  let i50 : Int := IntKind.i64.wrap (i49 + 1);
  (0 : Int) ≤ i50 ∧ i50 < (na0 : Int) ∧
  needPtr Aa0 fun b51 o51 =>
  ∃ (x52 : Int),
  w_3.cell? ⟨b51, o51 + i50.toNat * 1, none⟩ = some (.int .i64 x52) ∧
  R (.tuple #[.int .i64 x52, .int .i64 x11]) w_3) (
  sel ((x42 : Int) == (0 : Int)) (
  R (.tuple #[.int .i64 0, .int .i64 x11]) w_3) (
  let i58 : Int := IntKind.i64.wrap (x10 + 1);
  x13 ≠ (0 : Int) ∧
  let i60 : Int := Int.tmod i58 x13;
  let i36 : Int := IntKind.i64.wrap (x11 + 1);
  ([.slice Aa0 na0 ca0, .int .i64 x13, .int .i64 i28] : List Value) = ([.slice Aa0 na0 ca0, .int .i64 x13, .int .i64 i28] : List Value) ∧ ∃ m, m < r ∧ I i60 i36 w_3 m))) (
  R (.tuple #[.int .i64 0, .int .i64 x13]) w_3))))
theorem f31.eq (Aa0 : Option Addr) (na0 ca0 : Nat) (xa1 : Int) (xa2 : Int) (w : World) (R : Value → World → Prop) : f31.VC Aa0 na0 ca0 xa1 xa2 w R = funV Try.prog Try.f31 f31.AL f31.AC #[.slice Aa0 na0 ca0, .int .i64 xa1, .int .i8 xa2] w R := by kernel_rfl
theorem f31.calls {Aa0 : Option Addr} {na0 ca0 : Nat} {xa1 : Int} {xa2 : Int} {w : World} {R : Value → World → Prop} (h : f31.VC Aa0 na0 ca0 xa1 xa2 w R) : Calls Try.prog 31 #[.slice Aa0 na0 ca0, .int .i64 xa1, .int .i8 xa2] w fun e w' => ∃ v, e = .returned v ∧ R v w' :=
  funV_sound (fn := Try.f31) (AL := f31.AL) (AC := f31.AC) W3.mixed (by kernel_rfl) (by rw [← f31.eq Aa0 na0 ca0 xa1 xa2]; exact h)

/-- gatehouse/gatehouseref12.Look -/
def f58.AL : Nat → Option Ann := fun r => match r with | 9 => some ⟨[(11, .int .i64)], [0, 8, 9, 10]⟩ | _ => none
def f58.AC : Nat → Option Ann := fun _ => none
/-- (*gatehouse/page.eye).seek -/
def f77.AL : Nat → Option Ann := fun r => match r with | 3 => some ⟨[(8, .int .i64), (15, .int .i64)], [0, 1, 2, 14]⟩ | _ => none
def f77.AC : Nat → Option Ann := fun _ => none
def f77.VC (a0 : Nat) (xa1 : Int) (xa2 : Int) (w : World) (R : Value → World → Prop) : Prop :=
  Calls Try.prog 11 #[.int .i64 xa2, .int .i64 xa1] w fun e_1 w_1 =>
  ∃ (x13 : Int),
  e_1 = .returned (.int .i64 x13) ∧
  ∃ I : Int → Int → World → Nat → Prop,
  (∃ n, I x13 0 w_1 n) ∧
  ∀ d : Env, ∀ (x8 : Int) (x15 : Int) (w_2 : World) (r : Nat), I x8 x15 w_2 r →
  sel (decide ((x15 : Int) < (xa1 : Int))) (
  let i20 : Int := IntKind.i64.wrap (2 * x8);
  let i21 : Int := IntKind.i64.wrap (4 + i20);
  Calls Try.prog 75 #[.pointer (some ⟨a0, 0, none⟩), .int .i64 i21] w_2 fun e_2 w_3 =>
  ∃ (x22_0 : Int) (b22_1 : Bool),
  e_2 = .returned (.tuple #[.int .i64 x22_0, .bool b22_1]) ∧
  sel (!b22_1) (
  R (.tuple #[.int .i64 0, .bool false]) w_3) (
  sel ((x22_0 : Int) == (xa2 : Int)) (
  let i32 : Int := IntKind.i64.wrap (2 * x8);
  let i33 : Int := IntKind.i64.wrap (4 + i32);
  let i34 : Int := IntKind.i64.wrap (i33 + 1);
  Calls Try.prog 75 #[.pointer (some ⟨a0, 0, none⟩), .int .i64 i34] w_3 fun e_3 w_4 =>
  ∃ (x35_0 : Int) (b35_1 : Bool),
  e_3 = .returned (.tuple #[.int .i64 x35_0, .bool b35_1]) ∧
  R (.tuple #[.int .i64 x35_0, .bool b35_1]) w_4) (
  sel ((x22_0 : Int) == (0 : Int)) (
  R (.tuple #[.int .i64 0, .bool false]) w_3) (
  let i41 : Int := IntKind.i64.wrap (x8 + 1);
  xa1 ≠ (0 : Int) ∧
  let i43 : Int := Int.tmod i41 xa1;
  let i44 : Int := IntKind.i64.wrap (x15 + 1);
  ([.pointer (some ⟨a0, 0, none⟩), .int .i64 xa1, .int .i64 xa2, .int .i64 xa1] : List Value) = ([.pointer (some ⟨a0, 0, none⟩), .int .i64 xa1, .int .i64 xa2, .int .i64 xa1] : List Value) ∧ ∃ m, m < r ∧ I i43 i44 w_3 m)))) (
  R (.tuple #[.int .i64 0, .bool false]) w_2)
theorem f77.eq (a0 : Nat) (xa1 : Int) (xa2 : Int) (w : World) (R : Value → World → Prop) : f77.VC a0 xa1 xa2 w R = funV Try.prog Try.f77 f77.AL f77.AC #[.pointer (some ⟨a0, 0, none⟩), .int .i64 xa1, .int .i64 xa2] w R := by kernel_rfl
theorem f77.calls {a0 : Nat} {xa1 : Int} {xa2 : Int} {w : World} {R : Value → World → Prop} (h : f77.VC a0 xa1 xa2 w R) : Calls Try.prog 77 #[.pointer (some ⟨a0, 0, none⟩), .int .i64 xa1, .int .i64 xa2] w fun e w' => ∃ v, e = .returned v ∧ R v w' :=
  funV_sound (fn := Try.f77) (AL := f77.AL) (AC := f77.AC) W3.mixed (by kernel_rfl) (by rw [← f77.eq a0 xa1 xa2]; exact h)

/-- (*gatehouse/gatehouseref12.Book).seek -/
def f85.AL : Nat → Option Ann := fun r => match r with | 4 => some ⟨[(12, .int .i64)], [0, 1, 10, 11]⟩ | _ => none
def f85.AC : Nat → Option Ann := fun _ => none
/-- gatehouse/page.Decide -/
def f36.AL : Nat → Option Ann := fun r => match r with | 7 => some ⟨[(41, .int .i64)], [10, 11, 13, 40]⟩ | _ => none
def f36.AC : Nat → Option Ann := fun _ => none
def f36.VC (Aa0 : Option Addr) (na0 ca0 : Nat) (xa1 : Int) (xa2 : Int) (xa3 : Int) (w : World) (R : Value → World → Prop) : Prop :=
  let w_1 : World := World.alloc w (.cells #[.slice Aa0 na0 ca0, .int .i64 0] 129);
  Calls Try.prog 75 #[.pointer (some ⟨w.heap.size, 0, none⟩), .int .i64 1] w_1 fun e_1 w_2 =>
  ∃ (x23_0 : Int) (b23_1 : Bool),
  e_1 = .returned (.tuple #[.int .i64 x23_0, .bool b23_1]) ∧
  sel (!b23_1) (
  ∃ (x36 : Int),
  w_2.cell? ⟨w.heap.size, 1, none⟩ = some (.int .i64 x36) ∧
  R (.tuple #[.bool false, .int .i64 x36]) w_2.drew) (
  Calls Try.prog 76 #[.int .i64 x23_0] w_2 fun e_2 w_3 =>
  ∃ (b30 : Bool),
  e_2 = .returned (.bool b30) ∧
  sel (!b30) (
  ∃ (x36_1 : Int),
  w_3.cell? ⟨w.heap.size, 1, none⟩ = some (.int .i64 x36_1) ∧
  R (.tuple #[.bool false, .int .i64 x36_1]) w_3.drew) (
  let w_4 : World := World.alloc w_3 (.cells #[.int .i64 0, .int .i64 0, .int .i64 0] 70);
  ∃ I : Int → World → Nat → Prop,
  (∃ n, I 0 w_4 n) ∧
  ∀ d : Env, ∀ (x41 : Int) (w_5 : World) (r : Nat), I x41 w_5 r →
  sel (decide ((x41 : Int) < (3 : Int))) (
  ∃ (x44 : Int),
  (∀ w', (Instr.index 70 (.agg #[.int .i64 xa1, .int .i64 xa2, .int .i64 xa3]) (.int .i64 x41)).run Try.prog w' = .ok (.int .i64 x44) w') ∧
  let i50 : Int := IntKind.i64.wrap (x44 * 4);
  let i52 : Int := IntKind.i64.wrap (i50 + x41);
  let i53 : Int := IntKind.i64.wrap (i52 + 1);
  Calls Try.prog 77 #[.pointer (some ⟨w.heap.size, 0, none⟩), .int .i64 x23_0, .int .i64 i53] w_5 fun e_3 w_6 =>
  ∃ (x54_0 : Int) (b54_1 : Bool),
  e_3 = .returned (.tuple #[.int .i64 x54_0, .bool b54_1]) ∧
  (0 : Int) ≤ x41 ∧ x41 < (3 : Int) ∧
  canStore w_6 w_3.heap.size (0 + x41.toNat * 1) 1 ∧
  let w_7 : World := setCs w_6 w_3.heap.size (0 + x41.toNat * 1) [.int .i64 x54_0];
  sel (!b54_1) (
  ∃ (x63 : Int),
  w_7.cell? ⟨w.heap.size, 1, none⟩ = some (.int .i64 x63) ∧
  R (.tuple #[.bool false, .int .i64 x63]) w_7.drew) (
  let i64 : Int := IntKind.i64.wrap (x41 + 1);
  ([.pointer (some ⟨w.heap.size, 0, none⟩), .int .i64 x23_0, .pointer (some ⟨w_3.heap.size, 0, none⟩), .agg #[.int .i64 xa1, .int .i64 xa2, .int .i64 xa3]] : List Value) = ([.pointer (some ⟨w.heap.size, 0, none⟩), .int .i64 x23_0, .pointer (some ⟨w_3.heap.size, 0, none⟩), .agg #[.int .i64 xa1, .int .i64 xa2, .int .i64 xa3]] : List Value) ∧ ∃ m, m < r ∧ I i64 w_7 m)) (
  Calls Try.prog 75 #[.pointer (some ⟨w.heap.size, 0, none⟩), .int .i64 3] w_5 fun e_4 w_8 =>
  ∃ (x67_0 : Int) (b67_1 : Bool),
  e_4 = .returned (.tuple #[.int .i64 x67_0, .bool b67_1]) ∧
  sel (!b67_1) (
  ∃ (x75 : Int),
  w_8.cell? ⟨w.heap.size, 1, none⟩ = some (.int .i64 x75) ∧
  R (.tuple #[.bool false, .int .i64 x75]) w_8.drew) (
  let i79 : Int := IntKind.i64.wrap (2 * x23_0);
  let i80 : Int := IntKind.i64.wrap (4 + i79);
  (0 : Int) ≤ 0 ∧ 0 < (3 : Int) ∧
  ∃ (x82 : Int),
  w_8.cell? ⟨w_3.heap.size, 0, none⟩ = some (.int .i64 x82) ∧
  let i83 : Int := IntKind.i64.wrap (x82 - 1);
  let i85 : Int := IntKind.i64.wrap (i83 * x67_0);
  let i86 : Int := IntKind.i64.wrap (i80 + i85);
  (0 : Int) ≤ 1 ∧ 1 < (3 : Int) ∧
  ∃ (x88 : Int),
  w_8.cell? ⟨w_3.heap.size, 1, none⟩ = some (.int .i64 x88) ∧
  let i89 : Int := IntKind.i64.wrap (i86 + x88);
  let i90 : Int := IntKind.i64.wrap (i89 - 1);
  Calls Try.prog 75 #[.pointer (some ⟨w.heap.size, 0, none⟩), .int .i64 i90] w_8 fun e_5 w_9 =>
  ∃ (x91_0 : Int) (b91_1 : Bool),
  e_5 = .returned (.tuple #[.int .i64 x91_0, .bool b91_1]) ∧
  sel (!b91_1) (
  ∃ (x109 : Int),
  w_9.cell? ⟨w.heap.size, 1, none⟩ = some (.int .i64 x109) ∧
  R (.tuple #[.bool false, .int .i64 x109]) w_9.drew) (
  (0 : Int) ≤ 2 ∧ 2 < (3 : Int) ∧
  ∃ (x98 : Int),
  w_9.cell? ⟨w_3.heap.size, 2, none⟩ = some (.int .i64 x98) ∧
  sel (decide ((x98 : Int) < (1 : Int))) (
  ∃ (x109_1 : Int),
  w_9.cell? ⟨w.heap.size, 1, none⟩ = some (.int .i64 x109_1) ∧
  R (.tuple #[.bool false, .int .i64 x109_1]) w_9.drew) (
  (0 : Int) ≤ 2 ∧ 2 < (3 : Int) ∧
  ∃ (x103 : Int),
  w_9.cell? ⟨w_3.heap.size, 2, none⟩ = some (.int .i64 x103) ∧
  sel (decide ((16 : Int) < (x103 : Int))) (
  ∃ (x109_2 : Int),
  w_9.cell? ⟨w.heap.size, 1, none⟩ = some (.int .i64 x109_2) ∧
  R (.tuple #[.bool false, .int .i64 x109_2]) w_9.drew) (
  (0 : Int) ≤ 2 ∧ 2 < (3 : Int) ∧
  ∃ (x112 : Int),
  w_9.cell? ⟨w_3.heap.size, 2, none⟩ = some (.int .i64 x112) ∧
  let i113 : Int := IntKind.i64.wrap (x112 - 1);
  (0 : Int) ≤ i113 ∧
  let i114 : Int := shrI .i64 x91_0 i113;
  let i115 : Int := bitsI .and .i64 i114 1;
  ∃ (x120 : Int),
  w_9.cell? ⟨w.heap.size, 1, none⟩ = some (.int .i64 x120) ∧
  R (.tuple #[.bool ((i115 : Int) != (0 : Int)), .int .i64 x120]) w_9.drew)))))))
theorem f36.eq (Aa0 : Option Addr) (na0 ca0 : Nat) (xa1 : Int) (xa2 : Int) (xa3 : Int) (w : World) (R : Value → World → Prop) : f36.VC Aa0 na0 ca0 xa1 xa2 xa3 w R = funV Try.prog Try.f36 f36.AL f36.AC #[.slice Aa0 na0 ca0, .int .i64 xa1, .int .i64 xa2, .int .i64 xa3] w R := by kernel_rfl
theorem f36.calls {Aa0 : Option Addr} {na0 ca0 : Nat} {xa1 : Int} {xa2 : Int} {xa3 : Int} {w : World} {R : Value → World → Prop} (h : f36.VC Aa0 na0 ca0 xa1 xa2 xa3 w R) : Calls Try.prog 36 #[.slice Aa0 na0 ca0, .int .i64 xa1, .int .i64 xa2, .int .i64 xa3] w fun e w' => ∃ v, e = .returned v ∧ R v w' :=
  funV_sound (fn := Try.f36) (AL := f36.AL) (AC := f36.AC) W3.mixed (by kernel_rfl) (by rw [← f36.eq Aa0 na0 ca0 xa1 xa2 xa3]; exact h)

/-- gatehouse/gatehouseref12.Decide -/
def f57.AL : Nat → Option Ann := fun _ => none
def f57.AC : Nat → Option Ann := fun _ => none
end Go.Proofs.Ytjmlfknogjaemaa
/- Page: words that are read: table, Look (both), the eye and the book. -/
set_option linter.unusedVariables false
set_option linter.unusedSimpArgs false
set_option maxRecDepth 10000
namespace Go.Proofs.Ytjmlfknogjaemaa
open Go Go.Proofs.Ytjmlfknogjaemaa.Vc
namespace PG
open Vc.PG
/-- Words that are read. -/
def InW (w : World) (A : Option Addr) (n : Nat) (W : List Int) : Prop := n = W.length ∧ (0 < n → ∃ b o, A = some ⟨b, o, none⟩ ∧ ∀ i, i < n → w.cell? ⟨b, o + i, none⟩ = some (.int .i64 (W.getD i 0)))
theorem InW.fr {w w' : World} {A : Option Addr} {n : Nat} {W : List Int} (h : InW w A n W) (hf : Fr [] w w') : InW w' A n W := by
  refine ⟨h.1, fun hn => ?_⟩
  obtain ⟨b, o, rfl, h2⟩ := h.2 hn
  exact ⟨b, o, rfl, fun i hi => hf.cell (h2 i hi)⟩
theorem InW.need {w w' : World} {A : Option Addr} {n : Nat} {W : List Int} (h : InW w A n W) (hf : Fr [] w w') {i : Int} {q : Nat} (h0 : i = (q : Int)) (h1 : q < n) {K : Int → Prop} (hk : K (W.getD q 0)) :
    needPtr A fun b o => ∃ x, w'.cell? ⟨b, o + i.toNat * 1, none⟩ = some (.int .i64 x) ∧ K x := by
  obtain ⟨b, o, rfl, h2⟩ := h.2 (by omega)
  refine needPtr_of rfl ⟨_, hf.cell ?_, hk⟩
  rw [Nat.mul_one, h0, Int.toNat_natCast]
  exact h2 q h1
theorem step_mod (f j t : Nat) (ht : 0 < t) (hb : t ≤ 4096) (hf : f < t) : Int.tmod (IntKind.i64.wrap ((((f + j) % t : Nat) : Int) + 1)) (t : Int) = (((f + (j + 1)) % t : Nat) : Int) := by
  have h1 : (f + j) % t < t := Nat.mod_lt _ ht
  rw [i64_id (by omega) (by omega), tmod_pos (by omega)]
  have h2 : ((f + j) % t + 1) % t = (f + (j + 1)) % t := by
    rw [show f + (j + 1) = f + j + 1 by omega, Nat.add_mod (f + j) 1 t, Nat.add_mod ((f + j) % t) 1 t, Nat.mod_mod]
  rw [← h2]
  rfl
theorem tableC {w : World} {A : Option Addr} {n c : Nat} {W : List Int} (h : InW w A n W) (hn : n ≤ 1000000000) : Calls Try.prog 64 #[.slice A n c] w fun e w' => e = .returned (.int .i64 (tabP W)) ∧ Fr [] w w' := by
  refine Calls.mono (f64.calls (R := fun v w' => v = .int .i64 (tabP W) ∧ Fr [] w w') ?_) ?_
  · dsimp only [f64.VC]
    have hl := h.1
    refine sel_of (fun hd => ?_) (fun hd => ?_)
    · have hd : (n : Int) < 4 := of_decide_eq_true hd
      exact ⟨by unfold tabP; rw [if_pos (by omega)], Fr.refl _ _⟩
    · have hd : ¬ (n : Int) < 4 := of_decide_eq_false hd
      obtain ⟨b, o, rfl, hc⟩ := h.2 (by omega)
      have e : tabP W = if powB (W.getD 1 0) = true ∧ 4 + 2 * W.getD 1 0 ≤ W.length then W.getD 1 0 else 0 := by unfold tabP; rw [if_neg (by omega)]
      have hS1 := (St.start w).alloc #[.int .i64 0, .int .i64 0, .int .i64 0, .int .i64 0] 108
      have hS2 := hS1.over 0 rfl [.int .i64 (W.getD 0 0), .int .i64 (W.getD 1 0), .int .i64 (W.getD 2 0), .int .i64 (W.getD 3 0)] rfl
      refine ⟨by omega, needPtr_of rfl ⟨_, hc 0 (by omega), _, hc 1 (by omega), _, hc 2 (by omega), _, hc 3 (by omega), (hS1.blk 0 rfl).can (by decide), by omega, by omega, _, (hS2.blk 0 rfl).cell rfl, ?_⟩⟩
      refine Calls.mono (powP _ _) ?_
      rintro _ _ ⟨rfl, rfl⟩
      refine ⟨_, rfl, sel_of (fun hp => ?_) (fun hp => ?_)⟩
      · have hp : powB (W.getD 1 0) = false := by simpa using hp
        exact ⟨by rw [e, if_neg (by rw [hp]; simp)], hS2.frame⟩
      · have hp : powB (W.getD 1 0) = true := by simpa using hp
        have hr := powB_range hp
        refine ⟨by omega, by omega, _, (hS2.blk 0 rfl).cell rfl, ?_⟩
        rw [i64_id (x := 2 * _) (by omega) (by omega), i64_id (by omega) (by omega)]
        refine sel_of (fun hl => ?_) (fun hl => ⟨by omega, by omega, _, (hS2.blk 0 rfl).cell rfl, ?_, hS2.frame⟩)
        · have hl : (n : Int) < 4 + 2 * W.getD 1 0 := of_decide_eq_true hl
          exact ⟨by rw [e, if_neg (by omega)], hS2.frame⟩
        · have hl : ¬ (n : Int) < 4 + 2 * W.getD 1 0 := of_decide_eq_false hl
          rw [e, if_pos ⟨hp, by omega⟩]
  · rintro e w' ⟨v, rfl, rfl, h⟩; exact ⟨rfl, h⟩
theorem keyN_eq (s k : Int) : IntKind.i64.wrap (IntKind.i64.wrap (s * 4) + IntKind.i64.wrap k) = keyN s k := by
  rw [wr_add, wr_add']; rfl
theorem keyN_eq1 (s k : Int) : IntKind.i64.wrap (IntKind.i64.wrap (IntKind.i64.wrap (s * 4) + k) + 1) = keyN s (k + 1) := by
  rw [wr_add, Int.add_assoc, wr_add]; rfl
theorem lookC {w : World} {A : Option Addr} {n c : Nat} {W : List Int} (h : InW w A n W) (hn : n ≤ 1000000000) (s k : Int) :
    Calls Try.prog 31 #[.slice A n c, .int .i64 s, .int .i8 k] w fun e w' => e = .returned (.tuple #[.int .i64 (lookP W s k).1, .int .i64 ((lookP W s k).2 : Int)]) ∧ Fr [] w w' := by
  refine Calls.mono (f31.calls (R := fun v w' => v = .tuple #[.int .i64 (lookP W s k).1, .int .i64 ((lookP W s k).2 : Int)] ∧ Fr [] w w') ?_) ?_
  · dsimp only [f31.VC]
    have hl := h.1
    refine Calls.mono (tableC h hn) ?_
    rintro _ w1 ⟨rfl, hf1⟩
    obtain ⟨t0, t1, t2⟩ := tabP_range W
    refine ⟨_, rfl, sel_of (fun hd => ?_) (fun hd => sel_of (fun hk => ?_) (fun hk => sel_of (fun hk2 => ?_) (fun hk2 => ?_)))⟩
    · exact ⟨by unfold lookP; rw [if_pos (.inl (eq_of_beq hd))]; rfl, hf1⟩
    · exact ⟨by unfold lookP; rw [if_pos (.inr (.inl (of_decide_eq_true hk)))]; rfl, hf1⟩
    · exact ⟨by unfold lookP; rw [if_pos (.inr (.inr (of_decide_eq_true hk2)))]; rfl, hf1⟩
    · have hd : tabP W ≠ 0 := by simpa using hd
      have hk : ¬ k < 1 := of_decide_eq_false hk
      have hk2 : ¬ 3 < k := of_decide_eq_false hk2
      obtain ⟨u1, u2, u3, u4, u5⟩ := t2 hd
      have e : lookP W s k = lookGo W (tabP W).toNat (keyN s k) (kfirst (keyN s k) (tabP W).toNat) 0 (tabP W).toNat := by unfold lookP; rw [if_neg (by omega)]
      rw [e, keyN_eq]
      generalize keyN s k = key
      obtain ⟨t, ht⟩ : ∃ t : Nat, tabP W = (t : Int) := ⟨(tabP W).toNat, by omega⟩
      rw [ht] at hd t0 t1 u2 u5 ⊢
      rw [Int.toNat_natCast]
      refine Calls.mono (hashP w1 key t (by omega)) ?_
      rintro _ w2 ⟨rfl, hf2⟩
      have hf : Fr [] w w2 := hf1.trans hf2
      have hfl := kfirst_lt key (t := t) (by omega)
      have hfe := kfirst_eq key (t := t)
      rw [← hfe]
      generalize kfirst key t = f at *
      refine ⟨_, rfl, fun x y w' r => w' = w2 ∧ ∃ j : Nat, y = (j : Int) + 1 ∧ x = (((f + j) % t : Nat) : Int) ∧ j + r = t ∧ lookGo W t key f j r = lookGo W t key f 0 t, ⟨t, rfl, 0, rfl, by rw [Nat.add_zero, Nat.mod_eq_of_lt hfl], by omega, rfl⟩, ?_⟩
      rintro d x y w3 r ⟨rfl, j, rfl, rfl, hjr, hgo⟩
      have hm : (f + j) % t < t := Nat.mod_lt _ (by omega)
      refine sel_of (fun hy => ?_) (fun hy => ?_)
      · have hy : (j : Int) + 1 ≤ t := of_decide_eq_true hy
        obtain ⟨r, rfl⟩ : ∃ r', r = r' + 1 := ⟨r - 1, by omega⟩
        rw [lookGo] at hgo
        rw [step_mod f j t (by omega) (by omega) hfl]
        generalize (f + j) % t = i at *
        have e1 : IntKind.i64.wrap (4 + IntKind.i64.wrap (2 * (i : Int))) = ((4 + 2 * i : Nat) : Int) := by rw [i64_id (x := 2 * _) (by omega) (by omega), i64_id (by omega) (by omega)]; omega
        have e2 : IntKind.i64.wrap (((4 + 2 * i : Nat) : Int) + 1) = ((4 + 2 * i + 1 : Nat) : Int) := by rw [i64_id (by omega) (by omega)]; omega
        have e3 : IntKind.i64.wrap ((j : Int) + 1 + 1) = ((j + 1 : Nat) : Int) + 1 := by rw [i64_id (by omega) (by omega)]; omega
        rw [e1, e2, e3]
        refine ⟨by omega, by omega, h.need hf rfl (by omega) (sel_of (fun h1 => ?_) (fun h1 => ?_))⟩
        · have h1 : W.getD (4 + 2 * i) 0 = key := eq_of_beq h1
          rw [if_pos h1] at hgo
          refine ⟨by omega, by omega, h.need hf rfl (by omega) ⟨?_, hf⟩⟩
          rw [← hgo]; rfl
        · have h1 : ¬ W.getD (4 + 2 * i) 0 = key := beq_eq_false_iff_ne.1 h1
          rw [if_neg h1] at hgo
          refine sel_of (fun h2 => ?_) (fun h2 => ?_)
          · have h2 : W.getD (4 + 2 * i) 0 = 0 := eq_of_beq h2
            rw [if_pos h2] at hgo
            rw [← hgo]
            exact ⟨rfl, hf⟩
          · have h2 : ¬ W.getD (4 + 2 * i) 0 = 0 := beq_eq_false_iff_ne.1 h2
            rw [if_neg h2] at hgo
            exact ⟨by omega, rfl, r, by omega, rfl, j + 1, rfl, rfl, by omega, hgo⟩
      · have hy : ¬ (j : Int) + 1 ≤ t := of_decide_eq_false hy
        have : r = 0 := by omega
        subst this
        rw [lookGo] at hgo
        rw [← hgo]
        exact ⟨rfl, hf⟩
  · rintro e w' ⟨v, rfl, rfl, h⟩; exact ⟨rfl, h⟩
end PG
end Go.Proofs.Ytjmlfknogjaemaa
/- Page: Decide, the program's and the document's: one answer, as many words read. -/
set_option linter.unusedVariables false
set_option linter.unusedSimpArgs false
set_option maxRecDepth 10000
namespace Go.Proofs.Ytjmlfknogjaemaa
open Go Go.Proofs.Ytjmlfknogjaemaa.Vc
namespace PG
open Vc.PG
abbrev eyeB (b : Nat) (A : Option Addr) (n c s : Nat) : Chunk := Chunk.blk b #[.slice A n c, .int .i64 (s : Int)] 129
section
variable {w0 w : World} {K : List Chunk} {A : Option Addr} {n c b s : Nat} {W : List Int}
theorem eRead (h : St [] w0 w K) (hW : InW w0 A n W) (i : Nat) (hi : K[i]? = some (eyeB b A n c s)) (hs : s ≤ 1000000) (q : Nat) (hq : q < n) :
    Calls Try.prog 75 #[.pointer (some ⟨b, 0, none⟩), .int .i64 (q : Int)] w fun e w' => e = .returned (.tuple #[.int .i64 (W.getD q 0), .bool true]) ∧ St [] w0 w' (K.set i (eyeB b A n c (s + 1))) := by
  have hil : i < K.length := (List.getElem?_eq_some_iff.1 hi).1
  refine Calls.mono (f75.calls (R := fun v w' => v = .tuple #[.int .i64 (W.getD q 0), .bool true] ∧ St [] w0 w' (K.set i (eyeB b A n c (s + 1)))) ?_) ?_
  · dsimp only [f75.VC]
    refine sel_false (by simp) ⟨_, _, _, (h.blk i hi).cell rfl, sel_false (by simp; omega) ?_⟩
    have hS := h.set i hi 1 [.int .i64 ((s + 1 : Nat) : Int)]
    have e1 : IntKind.i64.wrap ((s : Int) + 1) = ((s + 1 : Nat) : Int) := by rw [i64_id (by omega) (by omega)]; omega
    have hS' : (K.set i (eyeB b A n c (s + 1)))[i]? = some (eyeB b A n c (s + 1)) := List.getElem?_set_self hil
    refine ⟨_, (h.blk i hi).cell rfl, (h.blk i hi).can (by simp), ?_⟩
    rw [e1]
    refine ⟨_, _, _, (hS.blk i hS').cell rfl, by omega, by omega, hW.need hS.frame rfl hq ⟨rfl, hS⟩⟩
  · rintro e w' ⟨v, rfl, rfl, h⟩; exact ⟨rfl, h⟩
theorem eOut (h : St [] w0 w K) (i : Nat) (hi : K[i]? = some (eyeB b A n c s)) (k : Int) (hk : k < 0 ∨ (n : Int) ≤ k) :
    Calls Try.prog 75 #[.pointer (some ⟨b, 0, none⟩), .int .i64 k] w fun e w' => e = .returned (.tuple #[.int .i64 0, .bool false]) ∧ St [] w0 w' K := by
  refine Calls.mono (f75.calls (R := fun v w' => v = .tuple #[.int .i64 0, .bool false] ∧ St [] w0 w' K) ?_) ?_
  · dsimp only [f75.VC]
    refine sel_of (fun h1 => ⟨rfl, h⟩) (fun h1 => ⟨_, _, _, (h.blk i hi).cell rfl, sel_true ?_ ⟨rfl, h⟩⟩)
    have h1 : ¬ k < 0 := of_decide_eq_false h1
    exact decide_eq_true (by omega)
  · rintro e w' ⟨v, rfl, rfl, h⟩; exact ⟨rfl, h⟩
theorem eSeek (h : St [] w0 w K) (hW : InW w0 A n W) (i : Nat) (hi : K[i]? = some (eyeB b A n c s)) (hs : s ≤ 100000) (hn : n ≤ 1000000000) (t : Nat) (ht : 2 ≤ t) (ht2 : t ≤ 4096) (key : Int) :
    Calls Try.prog 77 #[.pointer (some ⟨b, 0, none⟩), .int .i64 (t : Int), .int .i64 key] w fun e w' => e = .returned (.tuple #[.int .i64 ((seekP W t key s).1.getD 0), .bool (seekP W t key s).1.isSome]) ∧ St [] w0 w' (K.set i (eyeB b A n c (seekP W t key s).2)) := by
  have hil : i < K.length := (List.getElem?_eq_some_iff.1 hi).1
  refine Calls.mono (f77.calls (R := fun v w' => v = .tuple #[.int .i64 ((seekP W t key s).1.getD 0), .bool (seekP W t key s).1.isSome] ∧ St [] w0 w' (K.set i (eyeB b A n c (seekP W t key s).2))) ?_) ?_
  · dsimp only [f77.VC]
    have hl := hW.1
    refine Calls.mono (hashP w key t (by omega)) ?_
    rintro _ w2 ⟨rfl, hf2⟩
    have hfl := kfirst_lt key (t := t) (by omega)
    have hfe := kfirst_eq key (t := t)
    unfold seekP
    rw [← hfe]
    generalize kfirst key t = f at *
    refine ⟨_, rfl, fun x y w' r => ∃ j : Nat, y = (j : Int) ∧ x = (((f + j) % t : Nat) : Int) ∧ j + r = t ∧ ∃ s', s' ≤ s + j ∧ St [] w0 w' (K.set i (eyeB b A n c s')) ∧ seekGo W t key f j r s' = seekGo W t key f 0 t s, ⟨t, 0, rfl, by rw [Nat.add_zero, Nat.mod_eq_of_lt hfl], by omega, s, by omega, ?_, rfl⟩, ?_⟩
    · have e : K.set i (eyeB b A n c s) = K := by
        apply List.ext_getElem?
        intro q
        by_cases hq : q = i
        · subst hq; rw [List.getElem?_set_self hil, hi]
        · rw [List.getElem?_set_ne (Ne.symm hq)]
      rw [e]
      exact h.go hf2
    rintro d x y w3 r ⟨j, rfl, rfl, hjr, s', hs', hS, hgo⟩
    have hm : (f + j) % t < t := Nat.mod_lt _ (by omega)
    have hi' : ∀ s', (K.set i (eyeB b A n c s'))[i]? = some (eyeB b A n c s') := fun s' => List.getElem?_set_self hil
    refine sel_of (fun hy => ?_) (fun hy => ?_)
    · have hy : (j : Int) < t := of_decide_eq_true hy
      obtain ⟨r, rfl⟩ : ∃ r', r = r' + 1 := ⟨r - 1, by omega⟩
      rw [seekGo] at hgo
      rw [step_mod f j t (by omega) (by omega) hfl]
      generalize (f + j) % t = p at *
      have e1 : IntKind.i64.wrap (4 + IntKind.i64.wrap (2 * (p : Int))) = ((4 + 2 * p : Nat) : Int) := by rw [i64_id (x := 2 * _) (by omega) (by omega), i64_id (by omega) (by omega)]; omega
      have e2 : IntKind.i64.wrap (((4 + 2 * p : Nat) : Int) + 1) = ((4 + 2 * p + 1 : Nat) : Int) := by rw [i64_id (by omega) (by omega)]; omega
      have e3 : IntKind.i64.wrap ((j : Int) + 1) = ((j + 1 : Nat) : Int) := by rw [i64_id (by omega) (by omega)]; omega
      rw [e1, e2, e3]
      by_cases hp : 4 + 2 * p < W.length
      · rw [if_pos hp] at hgo
        refine Calls.mono (eRead hS hW i (hi' s') (by omega) (4 + 2 * p) (by omega)) ?_
        rintro _ w4 ⟨rfl, hS4⟩
        rw [List.set_set] at hS4
        refine ⟨_, _, rfl, sel_false rfl (sel_of (fun h1 => ?_) (fun h1 => ?_))⟩
        · rw [if_pos (eq_of_beq h1)] at hgo
          by_cases hp1 : 4 + 2 * p + 1 < W.length
          · rw [if_pos hp1] at hgo
            refine Calls.mono (eRead hS4 hW i (hi' _) (by omega) (4 + 2 * p + 1) (by omega)) ?_
            rintro _ w5 ⟨rfl, hS5⟩
            rw [List.set_set] at hS5
            refine ⟨_, _, rfl, ?_⟩
            rw [← hgo]
            exact ⟨rfl, hS5⟩
          · rw [if_neg hp1] at hgo
            refine Calls.mono (eOut hS4 i (hi' _) _ (.inr (by omega))) ?_
            rintro _ w5 ⟨rfl, hS5⟩
            refine ⟨_, _, rfl, ?_⟩
            rw [← hgo]
            exact ⟨rfl, hS5⟩
        · rw [if_neg (beq_eq_false_iff_ne.1 h1)] at hgo
          refine sel_of (fun h2 => ?_) (fun h2 => ?_)
          · rw [if_pos (eq_of_beq h2)] at hgo
            rw [← hgo]
            exact ⟨rfl, hS4⟩
          · rw [if_neg (beq_eq_false_iff_ne.1 h2)] at hgo
            exact ⟨by omega, rfl, r, by omega, j + 1, rfl, rfl, by omega, s' + 1, by omega, hS4, hgo⟩
      · rw [if_neg hp] at hgo
        refine Calls.mono (eOut hS i (hi' s') _ (.inr (by omega))) ?_
        rintro _ w4 ⟨rfl, hS4⟩
        refine ⟨_, _, rfl, sel_true rfl ?_⟩
        rw [← hgo]
        exact ⟨rfl, hS4⟩
    · have hy : ¬ (j : Int) < t := of_decide_eq_false hy
      have : r = 0 := by omega
      subst this
      rw [seekGo] at hgo
      rw [← hgo]
      exact ⟨rfl, hS⟩
  · rintro e w' ⟨v, rfl, rfl, h⟩; exact ⟨rfl, h⟩
theorem index3 (a b c : Int) (j : Nat) (hj : j < 3) (w : World) : (Instr.index 70 (.agg #[.int .i64 a, .int .i64 b, .int .i64 c]) (.int .i64 (j : Int))).run Try.prog w = .ok (.int .i64 ([a, b, c].getD j 0)) w := by
  obtain rfl | rfl | rfl : j = 0 ∨ j = 1 ∨ j = 2 := by omega
  all_goals kernel_rfl
end
theorem maskC (t : Nat) (x y c : Int) : IntKind.i64.wrap (IntKind.i64.wrap (IntKind.i64.wrap (IntKind.i64.wrap (4 + IntKind.i64.wrap (2 * (t : Int))) + IntKind.i64.wrap (IntKind.i64.wrap (x - 1) * c)) + y) - 1) = maskAt t x y c := by
  unfold maskAt
  rw [wr_mul]
  generalize (x - 1) * c = p
  simp only [wr]
  omega
theorem decC {w : World} {A : Option Addr} {n c : Nat} {W : List Int} (h : InW w A n W) (hn : n ≤ 1000000000) (s o a : Int) :
    Calls Try.prog 36 #[.slice A n c, .int .i64 s, .int .i64 o, .int .i64 a] w fun e w' => e = .returned (.tuple #[.bool (decP W s o a).1, .int .i64 ((decP W s o a).2 : Int)]) ∧ Fr [] w w' := by
  refine Calls.mono (f36.calls (R := fun v w' => v = .tuple #[.bool (decP W s o a).1, .int .i64 ((decP W s o a).2 : Int)] ∧ Fr [] w w') ?_) ?_
  · dsimp only [f36.VC]
    have hl := h.1
    have hS := (St.start w).alloc #[.slice A n c, .int .i64 0] 129
    generalize w.heap.size = b at *
    by_cases h1 : 1 < W.length
    · refine Calls.mono (eRead (s := 0) hS h 0 rfl (by omega) 1 (by omega)) ?_
      rintro _ w2 ⟨rfl, hS2⟩
      refine ⟨_, _, rfl, sel_false rfl ?_⟩
      refine Calls.mono (powP _ _) ?_
      rintro _ w3 ⟨rfl, e3⟩
      rw [e3]
      refine ⟨_, rfl, sel_of (fun hp => ?_) (fun hp => ?_)⟩
      · have hp : powB (W.getD 1 0) = false := by simpa using hp
        have e : decP W s o a = (false, 1) := by unfold decP; rw [if_pos h1, if_neg (by rw [hp]; simp)]
        rw [e]
        exact ⟨_, (hS2.blk 0 rfl).cell rfl, rfl, hS2.drew.frame⟩
      · have hp : powB (W.getD 1 0) = true := by simpa using hp
        have hr := powB_range hp
        have e : decP W s o a = decFrom W (W.getD 1 0).toNat s o a 3 0 0 0 1 := by unfold decP; rw [if_pos h1, if_pos hp]
        obtain ⟨t, ht⟩ : ∃ t : Nat, W.getD 1 0 = (t : Int) := ⟨(W.getD 1 0).toNat, by omega⟩
        rw [ht] at e hr ⊢
        rw [Int.toNat_natCast] at e
        have hS3 := hS2.alloc #[.int .i64 0, .int .i64 0, .int .i64 0] 70
        generalize w2.heap.size = b2 at *
        generalize World.alloc w2 (.cells #[.int .i64 0, .int .i64 0, .int .i64 0] 70) = w3 at *
        refine ⟨fun y w' r => ∃ j : Nat, y = (j : Int) ∧ j + r = 3 ∧ ∃ (m0 m1 m2 : Int) (s' : Nat), s' ≤ 1 + j * (t + 1) ∧ St [] w w' [Chunk.blk b2 #[.int .i64 m0, .int .i64 m1, .int .i64 m2] 70, eyeB b A n c s'] ∧ decFrom W t s o a r m0 m1 m2 s' = decP W s o a, ⟨3, 0, rfl, rfl, 0, 0, 0, 1, by omega, hS3, e.symm⟩, ?_⟩
        rintro d y w4 r ⟨j, rfl, hjr, m0, m1, m2, s', hs', hS4, hgo⟩
        refine sel_of (fun hy => ?_) (fun hy => ?_)
        · have hy : (j : Int) < 3 := of_decide_eq_true hy
          refine ⟨_, index3 s o a j (by omega), ?_⟩
          rw [keyN_eq1]
          obtain ⟨rfl, rfl⟩ | ⟨rfl, rfl⟩ | ⟨rfl, rfl⟩ : (j = 0 ∧ r = 3) ∨ (j = 1 ∧ r = 2) ∨ (j = 2 ∧ r = 1) := by omega
          · have hb := seekP_le W t (keyN s 1) s'
            have hx := eSeek hS4 h 1 rfl (by omega) hn t (by omega) (by omega) (keyN s 1)
            rw [decFrom] at hgo
            cases hq : seekP W t (keyN s 1) s' with
            | mk q m =>
              rw [hq] at hx hgo hb
              refine Calls.mono hx ?_
              rintro _ w5 ⟨rfl, hS5⟩
              have hS6 := hS5.set 0 rfl 0 [.int .i64 (q.getD 0)]
              refine ⟨_, _, rfl, by omega, by omega, (hS5.blk 0 rfl).can (by simp), ?_⟩
              cases q with
              | none => exact sel_true rfl ⟨_, (hS6.blk 1 rfl).cell rfl, by rw [← hgo], hS6.drew.frame⟩
              | some v => exact sel_false rfl ⟨rfl, 2, by omega, 1, rfl, rfl, v, m1, m2, m, by dsimp only at hb; omega, hS6, by first | exact hgo | (rw [decFrom]; exact hgo)⟩
          · have hb := seekP_le W t (keyN o 2) s'
            have hx := eSeek hS4 h 1 rfl (by omega) hn t (by omega) (by omega) (keyN o 2)
            rw [decFrom] at hgo
            cases hq : seekP W t (keyN o 2) s' with
            | mk q m =>
              rw [hq] at hx hgo hb
              refine Calls.mono hx ?_
              rintro _ w5 ⟨rfl, hS5⟩
              have hS6 := hS5.set 0 rfl 1 [.int .i64 (q.getD 0)]
              refine ⟨_, _, rfl, by omega, by omega, (hS5.blk 0 rfl).can (by simp), ?_⟩
              cases q with
              | none => exact sel_true rfl ⟨_, (hS6.blk 1 rfl).cell rfl, by rw [← hgo], hS6.drew.frame⟩
              | some v => exact sel_false rfl ⟨rfl, 1, by omega, 2, rfl, rfl, m0, v, m2, m, by dsimp only at hb; omega, hS6, by first | exact hgo | (rw [decFrom]; exact hgo)⟩
          · have hb := seekP_le W t (keyN a 3) s'
            have hx := eSeek hS4 h 1 rfl (by omega) hn t (by omega) (by omega) (keyN a 3)
            rw [decFrom] at hgo
            cases hq : seekP W t (keyN a 3) s' with
            | mk q m =>
              rw [hq] at hx hgo hb
              refine Calls.mono hx ?_
              rintro _ w5 ⟨rfl, hS5⟩
              have hS6 := hS5.set 0 rfl 2 [.int .i64 (q.getD 0)]
              refine ⟨_, _, rfl, by omega, by omega, (hS5.blk 0 rfl).can (by simp), ?_⟩
              cases q with
              | none => exact sel_true rfl ⟨_, (hS6.blk 1 rfl).cell rfl, by rw [← hgo], hS6.drew.frame⟩
              | some v => exact sel_false rfl ⟨rfl, 0, by omega, 3, rfl, rfl, m0, m1, v, m, by dsimp only at hb; omega, hS6, by first | exact hgo | (rw [decFrom]; exact hgo)⟩
        · have hy : ¬ (j : Int) < 3 := of_decide_eq_false hy
          obtain ⟨rfl, rfl⟩ : j = 3 ∧ r = 0 := by omega
          rw [decFrom] at hgo
          unfold decEnd at hgo
          by_cases h3 : 3 < W.length
          · rw [if_pos h3] at hgo
            refine Calls.mono (eRead hS4 h 1 rfl (by omega) 3 (by omega)) ?_
            rintro _ w5 ⟨rfl, hS5⟩
            refine ⟨_, _, rfl, sel_false rfl ⟨by omega, by omega, _, (hS5.blk 0 rfl).cell rfl, by omega, by omega, _, (hS5.blk 0 rfl).cell rfl, ?_⟩⟩
            rw [maskC]
            by_cases hm : 0 ≤ maskAt t m0 m1 (W.getD 3 0) ∧ maskAt t m0 m1 (W.getD 3 0) < W.length
            · rw [if_pos hm] at hgo
              obtain ⟨q, hq⟩ : ∃ q : Nat, maskAt t m0 m1 (W.getD 3 0) = (q : Int) := ⟨(maskAt t m0 m1 (W.getD 3 0)).toNat, by omega⟩
              rw [hq] at hm hgo ⊢
              rw [Int.toNat_natCast] at hgo
              refine Calls.mono (eRead hS5 h 1 rfl (by omega) q (by omega)) ?_
              rintro _ w6 ⟨rfl, hS6⟩
              refine ⟨_, _, rfl, sel_false rfl ⟨by omega, by omega, _, (hS6.blk 0 rfl).cell rfl, sel_of (fun z1 => ?_) (fun z1 => ⟨by omega, by omega, _, (hS6.blk 0 rfl).cell rfl, sel_of (fun z2 => ?_) (fun z2 => ?_)⟩)⟩⟩
              · have z1 : m2 < 1 := of_decide_eq_true z1
                rw [if_pos (.inl z1)] at hgo
                exact ⟨_, (hS6.blk 1 rfl).cell rfl, by rw [← hgo], hS6.drew.frame⟩
              · have z2 : 16 < m2 := of_decide_eq_true z2
                rw [if_pos (.inr z2)] at hgo
                exact ⟨_, (hS6.blk 1 rfl).cell rfl, by rw [← hgo], hS6.drew.frame⟩
              · have z1 : ¬ m2 < 1 := of_decide_eq_false z1
                have z2 : ¬ 16 < m2 := of_decide_eq_false z2
                rw [if_neg (by omega)] at hgo
                refine ⟨by omega, by omega, _, (hS6.blk 0 rfl).cell rfl, ?_⟩
                rw [i64_id (by omega) (by omega), bitB_ne]
                exact ⟨by omega, _, (hS6.blk 1 rfl).cell rfl, by rw [← hgo], hS6.drew.frame⟩
            · rw [if_neg hm] at hgo
              refine Calls.mono (eOut hS5 1 rfl _ (by omega)) ?_
              rintro _ w6 ⟨rfl, hS6⟩
              exact ⟨_, _, rfl, sel_true rfl ⟨_, (hS6.blk 1 rfl).cell rfl, by rw [← hgo], hS6.drew.frame⟩⟩
          · rw [if_neg h3] at hgo
            refine Calls.mono (eOut hS4 1 rfl 3 (.inr (by omega))) ?_
            rintro _ w5 ⟨rfl, hS5⟩
            exact ⟨_, _, rfl, sel_true rfl ⟨_, (hS5.blk 1 rfl).cell rfl, by rw [← hgo], hS5.drew.frame⟩⟩
    · have e : decP W s o a = (false, 0) := by unfold decP; rw [if_neg h1]
      rw [e]
      refine Calls.mono (eOut (s := 0) hS 0 rfl 1 (.inr (by omega))) ?_
      rintro _ w2 ⟨rfl, hS2⟩
      exact ⟨_, _, rfl, sel_true rfl ⟨_, (hS2.blk 0 rfl).cell rfl, rfl, hS2.drew.frame⟩⟩
  · rintro e w' ⟨v, rfl, rfl, h⟩; exact ⟨rfl, h⟩
end PG
end Go.Proofs.Ytjmlfknogjaemaa
/- The plain statements of some functions, printed by vcgen.py. -/
set_option maxRecDepth 100000
set_option linter.unusedVariables false
namespace Go.Proofs.Ytjmlfknogjaemaa
open Go Go.Proofs.Ytjmlfknogjaemaa.Vc
/-- gatehouse/gatehouselaw12.asked -/
def f25.AL : Nat → Option Ann := fun _ => none
def f25.AC : Nat → Option Ann := fun _ => none
end Go.Proofs.Ytjmlfknogjaemaa
/- Page: the document's Decide; 'asked'. -/
set_option linter.unusedVariables false
set_option linter.unusedSimpArgs false
set_option maxRecDepth 10000
namespace Go.Proofs.Ytjmlfknogjaemaa
open Go Go.Proofs.Ytjmlfknogjaemaa.Vc
namespace PG
open Vc.PG
end PG
end Go.Proofs.Ytjmlfknogjaemaa
