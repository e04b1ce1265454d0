/- The plain statements of some functions, printed by vcgen.py. -/
import Derived.Test.YtjmlfknogjaemaaM4
import Derived.Test.YtjmlfknogjaemaaProg
import Derived.KernelRfl
set_option maxRecDepth 100000
set_option linter.unusedVariables false
namespace Go.Proofs.Ytjmlfknogjaemaa
open Go Go.Proofs.Ytjmlfknogjaemaa.Vc
theorem W9.mixed : Try.prog.follows .mixedOrders = true := by kernel_rfl
/-- gatehouse/gatehouseref12.table -/
def f43.AL : Nat → Option Ann := fun r => match r with | 2 => some ⟨[(3, .int .i64)], [0]⟩ | _ => none
def f43.AC : Nat → Option Ann := fun _ => none
def f43.VC (xa0 : Int) (w : World) (R : Value → World → Prop) : Prop :=
  ∃ I : Int → World → Nat → Prop,
  (∃ n, I 2 w n) ∧
  ∀ d : Env, ∀ (x3 : Int) (w_1 : World) (r : Nat), I x3 w_1 r →
  let i6 : Int := IntKind.i64.wrap (2 * xa0);
  sel (decide ((x3 : Int) < (i6 : Int))) (
  let i9 : Int := IntKind.i64.wrap (2 * x3);
  ([.int .i64 xa0] : List Value) = ([.int .i64 xa0] : List Value) ∧ ∃ m, m < r ∧ I i9 w_1 m) (
  R (.int .i64 x3) w_1)
theorem f43.eq (xa0 : Int) (w : World) (R : Value → World → Prop) : f43.VC xa0 w R = funV Try.prog Try.f43 f43.AL f43.AC #[.int .i64 xa0] w R := by kernel_rfl
theorem f43.calls {xa0 : Int} {w : World} {R : Value → World → Prop} (h : f43.VC xa0 w R) : Calls Try.prog 43 #[.int .i64 xa0] w fun e w' => ∃ v, e = .returned v ∧ R v w' :=
  funV_sound (fn := Try.f43) (AL := f43.AL) (AC := f43.AC) W9.mixed (by kernel_rfl) (by rw [← f43.eq xa0]; exact h)

/-- gatehouse/gatehouseref12.keys -/
def f44.AL : Nat → Option Ann := fun _ => none
def f44.AC : Nat → Option Ann := fun _ => none
def f44.VC (Aa0_0 : Option Addr) (na0_0 ca0_0 : Nat) (Aa0_1 : Option Addr) (na0_1 ca0_1 : Nat) (Aa0_2 : Option Addr) (na0_2 ca0_2 : Nat) (Aa0_3 : Option Addr) (na0_3 ca0_3 : Nat) (Aa0_4 : Option Addr) (na0_4 ca0_4 : Nat) (Aa0_5 : Option Addr) (na0_5 ca0_5 : Nat) (w : World) (R : Value → World → Prop) : Prop :=
  let w_1 : World := World.alloc w (.cells #[.slice Aa0_0 na0_0 ca0_0, .slice Aa0_1 na0_1 ca0_1, .slice Aa0_2 na0_2 ca0_2, .slice Aa0_3 na0_3 ca0_3, .slice Aa0_4 na0_4 ca0_4, .slice Aa0_5 na0_5 ca0_5] 29);
  ∃ (A4 : Option Addr) (n4 c4 : Nat),
  w_1.cell? ⟨w.heap.size, 0, none⟩ = some (.slice A4 n4 c4) ∧
  ∃ (A7 : Option Addr) (n7 c7 : Nat),
  w_1.cell? ⟨w.heap.size, 1, none⟩ = some (.slice A7 n7 c7) ∧
  let i9 : Int := IntKind.i64.wrap ((n4 : Int) + (n7 : Int));
  ∃ (A11 : Option Addr) (n11 c11 : Nat),
  w_1.cell? ⟨w.heap.size, 2, none⟩ = some (.slice A11 n11 c11) ∧
  let i13 : Int := IntKind.i64.wrap (i9 + (n11 : Int));
  R (.int .i64 i13) w_1
theorem f44.eq (Aa0_0 : Option Addr) (na0_0 ca0_0 : Nat) (Aa0_1 : Option Addr) (na0_1 ca0_1 : Nat) (Aa0_2 : Option Addr) (na0_2 ca0_2 : Nat) (Aa0_3 : Option Addr) (na0_3 ca0_3 : Nat) (Aa0_4 : Option Addr) (na0_4 ca0_4 : Nat) (Aa0_5 : Option Addr) (na0_5 ca0_5 : Nat) (w : World) (R : Value → World → Prop) : f44.VC Aa0_0 na0_0 ca0_0 Aa0_1 na0_1 ca0_1 Aa0_2 na0_2 ca0_2 Aa0_3 na0_3 ca0_3 Aa0_4 na0_4 ca0_4 Aa0_5 na0_5 ca0_5 w R = funV Try.prog Try.f44 f44.AL f44.AC #[.agg #[.slice Aa0_0 na0_0 ca0_0, .slice Aa0_1 na0_1 ca0_1, .slice Aa0_2 na0_2 ca0_2, .slice Aa0_3 na0_3 ca0_3, .slice Aa0_4 na0_4 ca0_4, .slice Aa0_5 na0_5 ca0_5]] w R := by kernel_rfl
theorem f44.calls {Aa0_0 : Option Addr} {na0_0 ca0_0 : Nat} {Aa0_1 : Option Addr} {na0_1 ca0_1 : Nat} {Aa0_2 : Option Addr} {na0_2 ca0_2 : Nat} {Aa0_3 : Option Addr} {na0_3 ca0_3 : Nat} {Aa0_4 : Option Addr} {na0_4 ca0_4 : Nat} {Aa0_5 : Option Addr} {na0_5 ca0_5 : Nat} {w : World} {R : Value → World → Prop} (h : f44.VC Aa0_0 na0_0 ca0_0 Aa0_1 na0_1 ca0_1 Aa0_2 na0_2 ca0_2 Aa0_3 na0_3 ca0_3 Aa0_4 na0_4 ca0_4 Aa0_5 na0_5 ca0_5 w R) : Calls Try.prog 44 #[.agg #[.slice Aa0_0 na0_0 ca0_0, .slice Aa0_1 na0_1 ca0_1, .slice Aa0_2 na0_2 ca0_2, .slice Aa0_3 na0_3 ca0_3, .slice Aa0_4 na0_4 ca0_4, .slice Aa0_5 na0_5 ca0_5]] w fun e w' => ∃ v, e = .returned v ∧ R v w' :=
  funV_sound (fn := Try.f44) (AL := f44.AL) (AC := f44.AC) W9.mixed (by kernel_rfl) (by rw [← f44.eq Aa0_0 na0_0 ca0_0 Aa0_1 na0_1 ca0_1 Aa0_2 na0_2 ca0_2 Aa0_3 na0_3 ca0_3 Aa0_4 na0_4 ca0_4 Aa0_5 na0_5 ca0_5]; exact h)

/-- (*gatehouse/gatehouseref12.Table).put -/
def f45.AL : Nat → Option Ann := fun r => match r with | 2 => some ⟨[(7, .int .i64)], [0, 1, 2, 6]⟩ | _ => none
def f45.AC : Nat → Option Ann := fun _ => none
def f45.VC (a0 : Nat) (xa1 : Int) (xa2 : Int) (w : World) (R : Value → World → Prop) : Prop :=
  ∃ (A11 : Option Addr) (n11 c11 : Nat),
  w.cell? ⟨a0, 0, none⟩ = some (.slice A11 n11 c11) ∧
  Calls Try.prog 12 #[.int .i64 xa1, .int .i64 (n11 : Int)] w fun e_1 w_1 =>
  ∃ (x15 : Int),
  e_1 = .returned (.int .i64 x15) ∧
  ∃ I : Int → World → Nat → Prop,
  (∃ n, I x15 w_1 n) ∧
  ∀ d : Env, ∀ (x7 : Int) (w_2 : World) (r : Nat), I x7 w_2 r →
  ∃ (A19 : Option Addr) (n19 c19 : Nat),
  w_2.cell? ⟨a0, 0, none⟩ = some (.slice A19 n19 c19) ∧
  (0 : Int) ≤ x7 ∧ x7 < (n19 : Int) ∧
  needPtr A19 fun b21 o21 =>
  ∃ (x22 : Int),
  w_2.cell? ⟨b21, o21 + x7.toNat * 1, none⟩ = some (.int .i64 x22) ∧
  sel ((x22 : Int) != (0 : Int)) (
  let i25 : Int := IntKind.i64.wrap (x7 + 1);
  (n11 : Int) ≠ (0 : Int) ∧
  let i27 : Int := Int.tmod i25 (n11 : Int);
  ([.pointer (some ⟨a0, 0, none⟩), .int .i64 xa1, .int .i64 xa2, .int .i64 (n11 : Int)] : List Value) = ([.pointer (some ⟨a0, 0, none⟩), .int .i64 xa1, .int .i64 xa2, .int .i64 (n11 : Int)] : List Value) ∧ ∃ m, m < r ∧ I i27 w_2 m) (
  ∃ (A31 : Option Addr) (n31 c31 : Nat),
  w_2.cell? ⟨a0, 0, none⟩ = some (.slice A31 n31 c31) ∧
  (0 : Int) ≤ x7 ∧ x7 < (n31 : Int) ∧
  needPtr A31 fun b34 o34 =>
  canStore w_2 b34 (o34 + x7.toNat * 1) 1 ∧
  let w_3 : World := setCs w_2 b34 (o34 + x7.toNat * 1) [.int .i64 xa1];
  ∃ (A38 : Option Addr) (n38 c38 : Nat),
  w_3.cell? ⟨a0, 1, none⟩ = some (.slice A38 n38 c38) ∧
  (0 : Int) ≤ x7 ∧ x7 < (n38 : Int) ∧
  needPtr A38 fun b41 o41 =>
  canStore w_3 b41 (o41 + x7.toNat * 1) 1 ∧
  let w_4 : World := setCs w_3 b41 (o41 + x7.toNat * 1) [.int .i64 xa2];
  R (.tuple #[]) w_4)
theorem f45.eq (a0 : Nat) (xa1 : Int) (xa2 : Int) (w : World) (R : Value → World → Prop) : f45.VC a0 xa1 xa2 w R = funV Try.prog Try.f45 f45.AL f45.AC #[.pointer (some ⟨a0, 0, none⟩), .int .i64 xa1, .int .i64 xa2] w R := by kernel_rfl
theorem f45.calls {a0 : Nat} {xa1 : Int} {xa2 : Int} {w : World} {R : Value → World → Prop} (h : f45.VC a0 xa1 xa2 w R) : Calls Try.prog 45 #[.pointer (some ⟨a0, 0, none⟩), .int .i64 xa1, .int .i64 xa2] w fun e w' => ∃ v, e = .returned v ∧ R v w' :=
  funV_sound (fn := Try.f45) (AL := f45.AL) (AC := f45.AC) W9.mixed (by kernel_rfl) (by rw [← f45.eq a0 xa1 xa2]; exact h)

/-- gatehouse/gatehouseref12.fresh -/
def f41.AL : Nat → Option Ann := fun r => match r with | 7 => some ⟨[(6, .int .i64), (7, .int .i64)], [1, 5]⟩ | 11 => some ⟨[(9, .bool), (10, .int .i64)], [1, 5, 6, 7]⟩ | _ => none
def f41.AC : Nat → Option Ann := fun _ => none
def f41.VC (Aa0_0 : Option Addr) (na0_0 ca0_0 : Nat) (Aa0_1 : Option Addr) (na0_1 ca0_1 : Nat) (Aa0_2 : Option Addr) (na0_2 ca0_2 : Nat) (Aa0_3 : Option Addr) (na0_3 ca0_3 : Nat) (Aa0_4 : Option Addr) (na0_4 ca0_4 : Nat) (Aa0_5 : Option Addr) (na0_5 ca0_5 : Nat) (a1 : Nat) (w : World) (R : Value → World → Prop) : Prop :=
  let w_1 : World := World.alloc w (.cells #[.slice Aa0_0 na0_0 ca0_0, .slice Aa0_1 na0_1 ca0_1, .slice Aa0_2 na0_2 ca0_2, .slice Aa0_3 na0_3 ca0_3, .slice Aa0_4 na0_4 ca0_4, .slice Aa0_5 na0_5 ca0_5] 29);
  ∃ (A13 : Option Addr) (n13 c13 : Nat),
  w_1.cell? ⟨w.heap.size, 0, none⟩ = some (.slice A13 n13 c13) ∧
  ∃ (A14 : Option Addr) (n14 c14 : Nat),
  ∃ w_2 : World, (Builtin.append_ #[25, 25] 25 #[.slice none 0 0, .slice A13 n13 c13]).run Try.prog w_1 = .ok (.slice A14 n14 c14) w_2 ∧
  ∃ (A17 : Option Addr) (n17 c17 : Nat),
  w_2.cell? ⟨w.heap.size, 1, none⟩ = some (.slice A17 n17 c17) ∧
  ∃ (A18 : Option Addr) (n18 c18 : Nat),
  ∃ w_3 : World, (Builtin.append_ #[25, 25] 25 #[.slice A14 n14 c14, .slice A17 n17 c17]).run Try.prog w_2 = .ok (.slice A18 n18 c18) w_3 ∧
  ∃ (A21 : Option Addr) (n21 c21 : Nat),
  w_3.cell? ⟨w.heap.size, 2, none⟩ = some (.slice A21 n21 c21) ∧
  ∃ (A22 : Option Addr) (n22 c22 : Nat),
  ∃ w_4 : World, (Builtin.append_ #[25, 25] 25 #[.slice A18 n18 c18, .slice A21 n21 c21]).run Try.prog w_3 = .ok (.slice A22 n22 c22) w_4 ∧
  ∃ I : Int → Int → World → Nat → Prop,
  (∃ n, I 0 0 w_4 n) ∧
  ∀ d : Env, ∀ (x6 : Int) (x7 : Int) (w_5 : World) (r : Nat), I x6 x7 w_5 r →
  sel (decide ((x7 : Int) < ((n22 : Int) : Int))) (
  (0 : Int) ≤ x7 ∧ x7 < (n22 : Int) ∧
  needPtr A22 fun b33 o33 =>
  ∃ (s34 : ByteArray),
  w_5.cell? ⟨b33, o33 + x7.toNat * 1, none⟩ = some (.string s34) ∧
  Calls Try.prog 80 #[.pointer (some ⟨a1, 0, none⟩), .string s34] w_5 fun e_1 w_6 =>
  ∃ (x35_0 : Int) (b35_1 : Bool),
  e_1 = .returned (.tuple #[.int .i64 x35_0, .bool b35_1]) ∧
  ∃ I_1 : Bool → Int → World → Nat → Prop,
  (∃ n, I_1 b35_1 0 w_6 n) ∧
  ∀ d_1 : Env, ∀ (b9 : Bool) (x10 : Int) (w_7 : World) (r_1 : Nat), I_1 b9 x10 w_7 r_1 →
  sel (decide ((x10 : Int) < (x7 : Int))) (
  sel b9 (
  let i42 : Int := IntKind.i64.wrap (x10 + 1);
  ([.pointer (some ⟨a1, 0, none⟩), .slice A22 n22 c22, .int .i64 x6, .int .i64 x7] : List Value) = ([.pointer (some ⟨a1, 0, none⟩), .slice A22 n22 c22, .int .i64 x6, .int .i64 x7] : List Value) ∧ ∃ m, m < r_1 ∧ I_1 true i42 w_7.drew m) (
  (0 : Int) ≤ x10 ∧ x10 < (n22 : Int) ∧
  needPtr A22 fun b47 o47 =>
  (0 : Int) ≤ x7 ∧ x7 < (n22 : Int) ∧
  needPtr A22 fun b51 o51 =>
  ∃ (s48 : ByteArray),
  w_7.cell? ⟨b47, o47 + x10.toNat * 1, none⟩ = some (.string s48) ∧
  ∃ (s52 : ByteArray),
  w_7.cell? ⟨b51, o51 + x7.toNat * 1, none⟩ = some (.string s52) ∧
  let i42_1 : Int := IntKind.i64.wrap (x10 + 1);
  ([.pointer (some ⟨a1, 0, none⟩), .slice A22 n22 c22, .int .i64 x6, .int .i64 x7] : List Value) = ([.pointer (some ⟨a1, 0, none⟩), .slice A22 n22 c22, .int .i64 x6, .int .i64 x7] : List Value) ∧ ∃ m, m < r_1 ∧ I_1 (decide (s48 = s52)) i42_1 w_7.drew m)) (
  sel (!b9) (
  let i58 : Int := IntKind.i64.wrap (x6 + 1);
  let i28 : Int := IntKind.i64.wrap (x7 + 1);
  ([.pointer (some ⟨a1, 0, none⟩), .slice A22 n22 c22] : List Value) = ([.pointer (some ⟨a1, 0, none⟩), .slice A22 n22 c22] : List Value) ∧ ∃ m, m < r ∧ I i58 i28 w_7 m) (
  let i28_1 : Int := IntKind.i64.wrap (x7 + 1);
  ([.pointer (some ⟨a1, 0, none⟩), .slice A22 n22 c22] : List Value) = ([.pointer (some ⟨a1, 0, none⟩), .slice A22 n22 c22] : List Value) ∧ ∃ m, m < r ∧ I x6 i28_1 w_7 m))) (
  R (.int .i64 x6) w_5)
theorem f41.eq (Aa0_0 : Option Addr) (na0_0 ca0_0 : Nat) (Aa0_1 : Option Addr) (na0_1 ca0_1 : Nat) (Aa0_2 : Option Addr) (na0_2 ca0_2 : Nat) (Aa0_3 : Option Addr) (na0_3 ca0_3 : Nat) (Aa0_4 : Option Addr) (na0_4 ca0_4 : Nat) (Aa0_5 : Option Addr) (na0_5 ca0_5 : Nat) (a1 : Nat) (w : World) (R : Value → World → Prop) : f41.VC Aa0_0 na0_0 ca0_0 Aa0_1 na0_1 ca0_1 Aa0_2 na0_2 ca0_2 Aa0_3 na0_3 ca0_3 Aa0_4 na0_4 ca0_4 Aa0_5 na0_5 ca0_5 a1 w R = funV Try.prog Try.f41 f41.AL f41.AC #[.agg #[.slice Aa0_0 na0_0 ca0_0, .slice Aa0_1 na0_1 ca0_1, .slice Aa0_2 na0_2 ca0_2, .slice Aa0_3 na0_3 ca0_3, .slice Aa0_4 na0_4 ca0_4, .slice Aa0_5 na0_5 ca0_5], .pointer (some ⟨a1, 0, none⟩)] w R := by kernel_rfl
theorem f41.calls {Aa0_0 : Option Addr} {na0_0 ca0_0 : Nat} {Aa0_1 : Option Addr} {na0_1 ca0_1 : Nat} {Aa0_2 : Option Addr} {na0_2 ca0_2 : Nat} {Aa0_3 : Option Addr} {na0_3 ca0_3 : Nat} {Aa0_4 : Option Addr} {na0_4 ca0_4 : Nat} {Aa0_5 : Option Addr} {na0_5 ca0_5 : Nat} {a1 : Nat} {w : World} {R : Value → World → Prop} (h : f41.VC Aa0_0 na0_0 ca0_0 Aa0_1 na0_1 ca0_1 Aa0_2 na0_2 ca0_2 Aa0_3 na0_3 ca0_3 Aa0_4 na0_4 ca0_4 Aa0_5 na0_5 ca0_5 a1 w R) : Calls Try.prog 41 #[.agg #[.slice Aa0_0 na0_0 ca0_0, .slice Aa0_1 na0_1 ca0_1, .slice Aa0_2 na0_2 ca0_2, .slice Aa0_3 na0_3 ca0_3, .slice Aa0_4 na0_4 ca0_4, .slice Aa0_5 na0_5 ca0_5], .pointer (some ⟨a1, 0, none⟩)] w fun e w' => ∃ v, e = .returned v ∧ R v w' :=
  funV_sound (fn := Try.f41) (AL := f41.AL) (AC := f41.AC) W9.mixed (by kernel_rfl) (by rw [← f41.eq Aa0_0 na0_0 ca0_0 Aa0_1 na0_1 ca0_1 Aa0_2 na0_2 ca0_2 Aa0_3 na0_3 ca0_3 Aa0_4 na0_4 ca0_4 Aa0_5 na0_5 ca0_5 a1]; exact h)

/-- gatehouse/page.places -/
def f47.AL : Nat → Option Ann := fun r => match r with | 2 => some ⟨[(3, .int .i64)], [1]⟩ | _ => none
def f47.AC : Nat → Option Ann := fun _ => none
def f47.VC (Aa0_0 : Option Addr) (na0_0 ca0_0 : Nat) (Aa0_1 : Option Addr) (na0_1 ca0_1 : Nat) (Aa0_2 : Option Addr) (na0_2 ca0_2 : Nat) (Aa0_3 : Option Addr) (na0_3 ca0_3 : Nat) (Aa0_4 : Option Addr) (na0_4 ca0_4 : Nat) (Aa0_5 : Option Addr) (na0_5 ca0_5 : Nat) (w : World) (R : Value → World → Prop) : Prop :=
  let w_1 : World := World.alloc w (.cells #[.slice Aa0_0 na0_0 ca0_0, .slice Aa0_1 na0_1 ca0_1, .slice Aa0_2 na0_2 ca0_2, .slice Aa0_3 na0_3 ca0_3, .slice Aa0_4 na0_4 ca0_4, .slice Aa0_5 na0_5 ca0_5] 29);
  ∃ I : Int → World → Nat → Prop,
  (∃ n, I 2 w_1 n) ∧
  ∀ d : Env, ∀ (x3 : Int) (w_2 : World) (r : Nat), I x3 w_2 r →
  ∃ (A6 : Option Addr) (n6 c6 : Nat),
  w_2.cell? ⟨w.heap.size, 0, none⟩ = some (.slice A6 n6 c6) ∧
  ∃ (A9 : Option Addr) (n9 c9 : Nat),
  w_2.cell? ⟨w.heap.size, 1, none⟩ = some (.slice A9 n9 c9) ∧
  let i11 : Int := IntKind.i64.wrap ((n6 : Int) + (n9 : Int));
  ∃ (A13 : Option Addr) (n13 c13 : Nat),
  w_2.cell? ⟨w.heap.size, 2, none⟩ = some (.slice A13 n13 c13) ∧
  let i15 : Int := IntKind.i64.wrap (i11 + (n13 : Int));
  let i16 : Int := IntKind.i64.wrap (2 * i15);
  sel (decide ((x3 : Int) < (i16 : Int))) (
  (0 : Int) ≤ 1 ∧
  let i19 : Int := shlI .i64 x3 1;
  ([.pointer (some ⟨w.heap.size, 0, none⟩)] : List Value) = ([.pointer (some ⟨w.heap.size, 0, none⟩)] : List Value) ∧ ∃ m, m < r ∧ I i19 w_2 m) (
  R (.int .i64 x3) w_2)
theorem f47.eq (Aa0_0 : Option Addr) (na0_0 ca0_0 : Nat) (Aa0_1 : Option Addr) (na0_1 ca0_1 : Nat) (Aa0_2 : Option Addr) (na0_2 ca0_2 : Nat) (Aa0_3 : Option Addr) (na0_3 ca0_3 : Nat) (Aa0_4 : Option Addr) (na0_4 ca0_4 : Nat) (Aa0_5 : Option Addr) (na0_5 ca0_5 : Nat) (w : World) (R : Value → World → Prop) : f47.VC Aa0_0 na0_0 ca0_0 Aa0_1 na0_1 ca0_1 Aa0_2 na0_2 ca0_2 Aa0_3 na0_3 ca0_3 Aa0_4 na0_4 ca0_4 Aa0_5 na0_5 ca0_5 w R = funV Try.prog Try.f47 f47.AL f47.AC #[.agg #[.slice Aa0_0 na0_0 ca0_0, .slice Aa0_1 na0_1 ca0_1, .slice Aa0_2 na0_2 ca0_2, .slice Aa0_3 na0_3 ca0_3, .slice Aa0_4 na0_4 ca0_4, .slice Aa0_5 na0_5 ca0_5]] w R := by kernel_rfl
theorem f47.calls {Aa0_0 : Option Addr} {na0_0 ca0_0 : Nat} {Aa0_1 : Option Addr} {na0_1 ca0_1 : Nat} {Aa0_2 : Option Addr} {na0_2 ca0_2 : Nat} {Aa0_3 : Option Addr} {na0_3 ca0_3 : Nat} {Aa0_4 : Option Addr} {na0_4 ca0_4 : Nat} {Aa0_5 : Option Addr} {na0_5 ca0_5 : Nat} {w : World} {R : Value → World → Prop} (h : f47.VC Aa0_0 na0_0 ca0_0 Aa0_1 na0_1 ca0_1 Aa0_2 na0_2 ca0_2 Aa0_3 na0_3 ca0_3 Aa0_4 na0_4 ca0_4 Aa0_5 na0_5 ca0_5 w R) : Calls Try.prog 47 #[.agg #[.slice Aa0_0 na0_0 ca0_0, .slice Aa0_1 na0_1 ca0_1, .slice Aa0_2 na0_2 ca0_2, .slice Aa0_3 na0_3 ca0_3, .slice Aa0_4 na0_4 ca0_4, .slice Aa0_5 na0_5 ca0_5]] w fun e w' => ∃ v, e = .returned v ∧ R v w' :=
  funV_sound (fn := Try.f47) (AL := f47.AL) (AC := f47.AC) W9.mixed (by kernel_rfl) (by rw [← f47.eq Aa0_0 na0_0 ca0_0 Aa0_1 na0_1 ca0_1 Aa0_2 na0_2 ca0_2 Aa0_3 na0_3 ca0_3 Aa0_4 na0_4 ca0_4 Aa0_5 na0_5 ca0_5]; exact h)

/-- gatehouse/page.classes -/
def f48.AL : Nat → Option Ann := fun _ => none
def f48.AC : Nat → Option Ann := fun _ => none
def f48.VC (Aa0 : Option Addr) (na0 ca0 : Nat) (w : World) (R : Value → World → Prop) : Prop :=
  sel (((na0 : Int) : Int) == (0 : Int)) (
  R (.int .i64 0) w) (
  Calls Try.prog 82 #[.slice Aa0 na0 ca0] w fun e_1 w_1 =>
  ∃ (x7 : Int),
  e_1 = .returned (.int .i64 x7) ∧
  R (.int .i64 x7) w_1)
theorem f48.eq (Aa0 : Option Addr) (na0 ca0 : Nat) (w : World) (R : Value → World → Prop) : f48.VC Aa0 na0 ca0 w R = funV Try.prog Try.f48 f48.AL f48.AC #[.slice Aa0 na0 ca0] w R := by kernel_rfl
theorem f48.calls {Aa0 : Option Addr} {na0 ca0 : Nat} {w : World} {R : Value → World → Prop} (h : f48.VC Aa0 na0 ca0 w R) : Calls Try.prog 48 #[.slice Aa0 na0 ca0] w fun e w' => ∃ v, e = .returned v ∧ R v w' :=
  funV_sound (fn := Try.f48) (AL := f48.AL) (AC := f48.AC) W9.mixed (by kernel_rfl) (by rw [← f48.eq Aa0 na0 ca0]; exact h)

/-- gatehouse/page.room -/
def f46.AL : Nat → Option Ann := fun r => match r with | 3 => some ⟨[(20, .int .i64)], [1, 5, 19]⟩ | 6 => some ⟨[(25, .int .i64)], [1, 5, 19, 20, 23, 24]⟩ | _ => none
def f46.AC : Nat → Option Ann := fun _ => none
def f46.VC (Aa0_0 : Option Addr) (na0_0 ca0_0 : Nat) (Aa0_1 : Option Addr) (na0_1 ca0_1 : Nat) (Aa0_2 : Option Addr) (na0_2 ca0_2 : Nat) (Aa0_3 : Option Addr) (na0_3 ca0_3 : Nat) (Aa0_4 : Option Addr) (na0_4 ca0_4 : Nat) (Aa0_5 : Option Addr) (na0_5 ca0_5 : Nat) (a1 : Nat) (w : World) (R : Value → World → Prop) : Prop :=
  let w_1 : World := World.alloc w (.cells #[.slice Aa0_0 na0_0 ca0_0, .slice Aa0_1 na0_1 ca0_1, .slice Aa0_2 na0_2 ca0_2, .slice Aa0_3 na0_3 ca0_3, .slice Aa0_4 na0_4 ca0_4, .slice Aa0_5 na0_5 ca0_5] 29);
  let w_2 : World := World.alloc w_1 (.map #[] 0);
  ∃ (A14 : Option Addr) (n14 c14 : Nat),
  w_2.cell? ⟨w.heap.size, 0, none⟩ = some (.slice A14 n14 c14) ∧
  ∃ (A16 : Option Addr) (n16 c16 : Nat),
  w_2.cell? ⟨w.heap.size, 1, none⟩ = some (.slice A16 n16 c16) ∧
  ∃ (A18 : Option Addr) (n18 c18 : Nat),
  w_2.cell? ⟨w.heap.size, 2, none⟩ = some (.slice A18 n18 c18) ∧
  ∃ I : Int → World → Nat → Prop,
  (∃ n, I 0 w_2 n) ∧
  ∀ d : Env, ∀ (x20 : Int) (w_3 : World) (r : Nat), I x20 w_3 r →
  sel (decide ((x20 : Int) < (3 : Int))) (
  ∃ (A22 : Option Addr) (n22 c22 : Nat),
  (∀ w', (Instr.index 136 (.agg #[.slice A14 n14 c14, .slice A16 n16 c16, .slice A18 n18 c18]) (.int .i64 x20)).run Try.prog w' = .ok (.slice A22 n22 c22) w') ∧
  ∃ I_1 : Int → World → Nat → Prop,
  (∃ n, I_1 0 w_3 n) ∧
  ∀ d_1 : Env, ∀ (x25 : Int) (w_4 : World) (r_1 : Nat), I_1 x25 w_4 r_1 →
  sel (decide ((x25 : Int) < ((n22 : Int) : Int))) (
  (0 : Int) ≤ x25 ∧ x25 < (n22 : Int) ∧
  needPtr A22 fun b27 o27 =>
  ∃ (s28 : ByteArray),
  w_4.cell? ⟨b27, o27 + x25.toNat * 1, none⟩ = some (.string s28) ∧
  Calls Try.prog 81 #[.pointer (some ⟨a1, 0, none⟩), .string s28] w_4 fun e_1 w_5 =>
  ∃ (x32_0 : Int) (b32_1 : Bool),
  e_1 = .returned (.tuple #[.int .i64 x32_0, .bool b32_1]) ∧
  sel (!b32_1) (
  ∃ (x39 : Int),
  ∃ w_6 : World, (Instr.lookup 120 (.map (some w_1.heap.size)) (.string s28) false).run Try.prog w_5 = .ok (.int .i64 x39) w_6 ∧
  let i40 : Int := IntKind.i64.wrap (x39 + 1);
  ∃ w_7 : World, (Instr.mapUpdate 120 (.map (some w_1.heap.size)) (.string s28) (.int .i64 i40)).run Try.prog w_6 = .ok () w_7 ∧
  let i41 : Int := IntKind.i64.wrap (x25 + 1);
  ([.pointer (some ⟨a1, 0, none⟩), .map (some w_1.heap.size), .agg #[.slice A14 n14 c14, .slice A16 n16 c16, .slice A18 n18 c18], .int .i64 x20, .slice A22 n22 c22, .int .i64 (n22 : Int)] : List Value) = ([.pointer (some ⟨a1, 0, none⟩), .map (some w_1.heap.size), .agg #[.slice A14 n14 c14, .slice A16 n16 c16, .slice A18 n18 c18], .int .i64 x20, .slice A22 n22 c22, .int .i64 (n22 : Int)] : List Value) ∧ ∃ m, m < r_1 ∧ I_1 i41 w_7 m) (
  let i41_1 : Int := IntKind.i64.wrap (x25 + 1);
  ([.pointer (some ⟨a1, 0, none⟩), .map (some w_1.heap.size), .agg #[.slice A14 n14 c14, .slice A16 n16 c16, .slice A18 n18 c18], .int .i64 x20, .slice A22 n22 c22, .int .i64 (n22 : Int)] : List Value) = ([.pointer (some ⟨a1, 0, none⟩), .map (some w_1.heap.size), .agg #[.slice A14 n14 c14, .slice A16 n16 c16, .slice A18 n18 c18], .int .i64 x20, .slice A22 n22 c22, .int .i64 (n22 : Int)] : List Value) ∧ ∃ m, m < r_1 ∧ I_1 i41_1 w_5 m)) (
  let i42 : Int := IntKind.i64.wrap (x20 + 1);
  ([.pointer (some ⟨a1, 0, none⟩), .map (some w_1.heap.size), .agg #[.slice A14 n14 c14, .slice A16 n16 c16, .slice A18 n18 c18]] : List Value) = ([.pointer (some ⟨a1, 0, none⟩), .map (some w_1.heap.size), .agg #[.slice A14 n14 c14, .slice A16 n16 c16, .slice A18 n18 c18]] : List Value) ∧ ∃ m, m < r ∧ I i42 w_4 m)) (
  ∃ (x44 : Int),
  ∃ w_8 : World, (Builtin.len_ #[120] 3 #[.map (some w_1.heap.size)]).run Try.prog w_3 = .ok (.int .i64 x44) w_8 ∧
  Calls Try.prog 30 #[.pointer (some ⟨a1, 0, none⟩)] w_8 fun e_2 w_9 =>
  ∃ (x46 : Int),
  e_2 = .returned (.int .i64 x46) ∧
  let i47 : Int := IntKind.i64.wrap (1048576 - x46);
  R (.bool (decide ((x44 : Int) ≤ (i47 : Int)))) w_9)
theorem f46.eq (Aa0_0 : Option Addr) (na0_0 ca0_0 : Nat) (Aa0_1 : Option Addr) (na0_1 ca0_1 : Nat) (Aa0_2 : Option Addr) (na0_2 ca0_2 : Nat) (Aa0_3 : Option Addr) (na0_3 ca0_3 : Nat) (Aa0_4 : Option Addr) (na0_4 ca0_4 : Nat) (Aa0_5 : Option Addr) (na0_5 ca0_5 : Nat) (a1 : Nat) (w : World) (R : Value → World → Prop) : f46.VC Aa0_0 na0_0 ca0_0 Aa0_1 na0_1 ca0_1 Aa0_2 na0_2 ca0_2 Aa0_3 na0_3 ca0_3 Aa0_4 na0_4 ca0_4 Aa0_5 na0_5 ca0_5 a1 w R = funV Try.prog Try.f46 f46.AL f46.AC #[.agg #[.slice Aa0_0 na0_0 ca0_0, .slice Aa0_1 na0_1 ca0_1, .slice Aa0_2 na0_2 ca0_2, .slice Aa0_3 na0_3 ca0_3, .slice Aa0_4 na0_4 ca0_4, .slice Aa0_5 na0_5 ca0_5], .pointer (some ⟨a1, 0, none⟩)] w R := by kernel_rfl
theorem f46.calls {Aa0_0 : Option Addr} {na0_0 ca0_0 : Nat} {Aa0_1 : Option Addr} {na0_1 ca0_1 : Nat} {Aa0_2 : Option Addr} {na0_2 ca0_2 : Nat} {Aa0_3 : Option Addr} {na0_3 ca0_3 : Nat} {Aa0_4 : Option Addr} {na0_4 ca0_4 : Nat} {Aa0_5 : Option Addr} {na0_5 ca0_5 : Nat} {a1 : Nat} {w : World} {R : Value → World → Prop} (h : f46.VC Aa0_0 na0_0 ca0_0 Aa0_1 na0_1 ca0_1 Aa0_2 na0_2 ca0_2 Aa0_3 na0_3 ca0_3 Aa0_4 na0_4 ca0_4 Aa0_5 na0_5 ca0_5 a1 w R) : Calls Try.prog 46 #[.agg #[.slice Aa0_0 na0_0 ca0_0, .slice Aa0_1 na0_1 ca0_1, .slice Aa0_2 na0_2 ca0_2, .slice Aa0_3 na0_3 ca0_3, .slice Aa0_4 na0_4 ca0_4, .slice Aa0_5 na0_5 ca0_5], .pointer (some ⟨a1, 0, none⟩)] w fun e w' => ∃ v, e = .returned v ∧ R v w' :=
  funV_sound (fn := Try.f46) (AL := f46.AL) (AC := f46.AC) W9.mixed (by kernel_rfl) (by rw [← f46.eq Aa0_0 na0_0 ca0_0 Aa0_1 na0_1 ca0_1 Aa0_2 na0_2 ca0_2 Aa0_3 na0_3 ca0_3 Aa0_4 na0_4 ca0_4 Aa0_5 na0_5 ca0_5 a1]; exact h)

/-- gatehouse/page.Lay$2 -/
def f50.AL : Nat → Option Ann := fun _ => none
def f50.AC : Nat → Option Ann := fun _ => none
def f50.VC (xa0 : Int) (w : World) (R : Value → World → Prop) : Prop :=
  let i4 : Int := IntKind.i64.wrap (xa0 + 1);
  R (.int .i64 i4) w
theorem f50.eq (xa0 : Int) (w : World) (R : Value → World → Prop) : f50.VC xa0 w R = funV Try.prog Try.f50 f50.AL f50.AC #[.int .i64 xa0] w R := by kernel_rfl
theorem f50.calls {xa0 : Int} {w : World} {R : Value → World → Prop} (h : f50.VC xa0 w R) : Calls Try.prog 50 #[.int .i64 xa0] w fun e w' => ∃ v, e = .returned v ∧ R v w' :=
  funV_sound (fn := Try.f50) (AL := f50.AL) (AC := f50.AC) W9.mixed (by kernel_rfl) (by rw [← f50.eq xa0]; exact h)

/-- gatehouse/page.Lay$3 -/
def f51.AL : Nat → Option Ann := fun _ => none
def f51.AC : Nat → Option Ann := fun _ => none
def f51.VC (xa0 : Int) (a1 : Nat) (w : World) (R : Value → World → Prop) : Prop :=
  ∃ (A5 : Option Addr) (n5 c5 : Nat),
  w.cell? ⟨a1, 3, none⟩ = some (.slice A5 n5 c5) ∧
  (0 : Int) ≤ xa0 ∧ xa0 < (n5 : Int) ∧
  needPtr A5 fun b7 o7 =>
  ∃ (x8 : Int),
  w.cell? ⟨b7, o7 + xa0.toNat * 1, none⟩ = some (.int .i64 x8) ∧
  R (.int .i64 x8) w
theorem f51.eq (xa0 : Int) (a1 : Nat) (w : World) (R : Value → World → Prop) : f51.VC xa0 a1 w R = funV Try.prog Try.f51 f51.AL f51.AC #[.int .i64 xa0, .pointer (some ⟨a1, 0, none⟩)] w R := by kernel_rfl
theorem f51.calls {xa0 : Int} {a1 : Nat} {w : World} {R : Value → World → Prop} (h : f51.VC xa0 a1 w R) : Calls Try.prog 51 #[.int .i64 xa0, .pointer (some ⟨a1, 0, none⟩)] w fun e w' => ∃ v, e = .returned v ∧ R v w' :=
  funV_sound (fn := Try.f51) (AL := f51.AL) (AC := f51.AC) W9.mixed (by kernel_rfl) (by rw [← f51.eq xa0 a1]; exact h)

/-- gatehouse/page.Lay$4 -/
def f52.AL : Nat → Option Ann := fun _ => none
def f52.AC : Nat → Option Ann := fun _ => none
def f52.VC (xa0 : Int) (a1 : Nat) (w : World) (R : Value → World → Prop) : Prop :=
  ∃ (A5 : Option Addr) (n5 c5 : Nat),
  w.cell? ⟨a1, 4, none⟩ = some (.slice A5 n5 c5) ∧
  (0 : Int) ≤ xa0 ∧ xa0 < (n5 : Int) ∧
  needPtr A5 fun b7 o7 =>
  ∃ (x8 : Int),
  w.cell? ⟨b7, o7 + xa0.toNat * 1, none⟩ = some (.int .i64 x8) ∧
  R (.int .i64 x8) w
theorem f52.eq (xa0 : Int) (a1 : Nat) (w : World) (R : Value → World → Prop) : f52.VC xa0 a1 w R = funV Try.prog Try.f52 f52.AL f52.AC #[.int .i64 xa0, .pointer (some ⟨a1, 0, none⟩)] w R := by kernel_rfl
theorem f52.calls {xa0 : Int} {a1 : Nat} {w : World} {R : Value → World → Prop} (h : f52.VC xa0 a1 w R) : Calls Try.prog 52 #[.int .i64 xa0, .pointer (some ⟨a1, 0, none⟩)] w fun e w' => ∃ v, e = .returned v ∧ R v w' :=
  funV_sound (fn := Try.f52) (AL := f52.AL) (AC := f52.AC) W9.mixed (by kernel_rfl) (by rw [← f52.eq xa0 a1]; exact h)

/-- gatehouse/page.Size -/
def f20.AL : Nat → Option Ann := fun _ => none
def f20.AC : Nat → Option Ann := fun _ => none
def f20.VC (Aa0_0 : Option Addr) (na0_0 ca0_0 : Nat) (Aa0_1 : Option Addr) (na0_1 ca0_1 : Nat) (Aa0_2 : Option Addr) (na0_2 ca0_2 : Nat) (Aa0_3 : Option Addr) (na0_3 ca0_3 : Nat) (Aa0_4 : Option Addr) (na0_4 ca0_4 : Nat) (Aa0_5 : Option Addr) (na0_5 ca0_5 : Nat) (w : World) (R : Value → World → Prop) : Prop :=
  let w_1 : World := World.alloc w (.cells #[.slice Aa0_0 na0_0 ca0_0, .slice Aa0_1 na0_1 ca0_1, .slice Aa0_2 na0_2 ca0_2, .slice Aa0_3 na0_3 ca0_3, .slice Aa0_4 na0_4 ca0_4, .slice Aa0_5 na0_5 ca0_5] 29);
  ∃ (A3_0 : Option Addr) (n3_0 c3_0 : Nat),
  w_1.cell? ⟨w.heap.size, 0, none⟩ = some (.slice A3_0 n3_0 c3_0) ∧
  ∃ (A3_1 : Option Addr) (n3_1 c3_1 : Nat),
  w_1.cell? ⟨w.heap.size, 1, none⟩ = some (.slice A3_1 n3_1 c3_1) ∧
  ∃ (A3_2 : Option Addr) (n3_2 c3_2 : Nat),
  w_1.cell? ⟨w.heap.size, 2, none⟩ = some (.slice A3_2 n3_2 c3_2) ∧
  ∃ (A3_3 : Option Addr) (n3_3 c3_3 : Nat),
  w_1.cell? ⟨w.heap.size, 3, none⟩ = some (.slice A3_3 n3_3 c3_3) ∧
  ∃ (A3_4 : Option Addr) (n3_4 c3_4 : Nat),
  w_1.cell? ⟨w.heap.size, 4, none⟩ = some (.slice A3_4 n3_4 c3_4) ∧
  ∃ (A3_5 : Option Addr) (n3_5 c3_5 : Nat),
  w_1.cell? ⟨w.heap.size, 5, none⟩ = some (.slice A3_5 n3_5 c3_5) ∧
  Calls Try.prog 34 #[.agg #[.slice A3_0 n3_0 c3_0, .slice A3_1 n3_1 c3_1, .slice A3_2 n3_2 c3_2, .slice A3_3 n3_3 c3_3, .slice A3_4 n3_4 c3_4, .slice A3_5 n3_5 c3_5]] w_1 fun e_1 w_2 =>
  ∃ (b4 : Bool),
  e_1 = .returned (.bool b4) ∧
  sel (!b4) (
  R (.int .i64 0) w_2) (
  ∃ (A6_0 : Option Addr) (n6_0 c6_0 : Nat),
  w_2.cell? ⟨w.heap.size, 0, none⟩ = some (.slice A6_0 n6_0 c6_0) ∧
  ∃ (A6_1 : Option Addr) (n6_1 c6_1 : Nat),
  w_2.cell? ⟨w.heap.size, 1, none⟩ = some (.slice A6_1 n6_1 c6_1) ∧
  ∃ (A6_2 : Option Addr) (n6_2 c6_2 : Nat),
  w_2.cell? ⟨w.heap.size, 2, none⟩ = some (.slice A6_2 n6_2 c6_2) ∧
  ∃ (A6_3 : Option Addr) (n6_3 c6_3 : Nat),
  w_2.cell? ⟨w.heap.size, 3, none⟩ = some (.slice A6_3 n6_3 c6_3) ∧
  ∃ (A6_4 : Option Addr) (n6_4 c6_4 : Nat),
  w_2.cell? ⟨w.heap.size, 4, none⟩ = some (.slice A6_4 n6_4 c6_4) ∧
  ∃ (A6_5 : Option Addr) (n6_5 c6_5 : Nat),
  w_2.cell? ⟨w.heap.size, 5, none⟩ = some (.slice A6_5 n6_5 c6_5) ∧
  (Calls Try.prog 47 #[.agg #[.slice A6_0 n6_0 c6_0, .slice A6_1 n6_1 c6_1, .slice A6_2 n6_2 c6_2, .slice A6_3 n6_3 c6_3, .slice A6_4 n6_4 c6_4, .slice A6_5 n6_5 c6_5]] w_2.drew fun e_2 w_3 =>
  ∃ (x7 : Int),
  e_2 = .returned (.int .i64 x7) ∧
  let i8 : Int := IntKind.i64.wrap (2 * x7);
  let i9 : Int := IntKind.i64.wrap (4 + i8);
  ∃ (A11 : Option Addr) (n11 c11 : Nat),
  w_3.cell? ⟨w.heap.size, 3, none⟩ = some (.slice A11 n11 c11) ∧
  (Calls Try.prog 48 #[.slice A11 n11 c11] w_3 fun e_3 w_4 =>
  ∃ (x12 : Int),
  e_3 = .returned (.int .i64 x12) ∧
  ∃ (A14 : Option Addr) (n14 c14 : Nat),
  w_4.cell? ⟨w.heap.size, 4, none⟩ = some (.slice A14 n14 c14) ∧
  Calls Try.prog 48 #[.slice A14 n14 c14] w_4 fun e_4 w_5 =>
  ∃ (x15 : Int),
  e_4 = .returned (.int .i64 x15) ∧
  let i16 : Int := IntKind.i64.wrap (x12 * x15);
  let i17 : Int := IntKind.i64.wrap (i9 + i16);
  R (.int .i64 i17) w_5) ∧
  (∃ (A14_1 : Option Addr) (n14_1 c14_1 : Nat),
  w_3.cell? ⟨w.heap.size, 4, none⟩ = some (.slice A14_1 n14_1 c14_1) ∧
  Calls Try.prog 48 #[.slice A11 n11 c11] w_3 fun e_5 w_6 =>
  ∃ (x12_1 : Int),
  e_5 = .returned (.int .i64 x12_1) ∧
  Calls Try.prog 48 #[.slice A14_1 n14_1 c14_1] w_6 fun e_6 w_7 =>
  ∃ (x15_1 : Int),
  e_6 = .returned (.int .i64 x15_1) ∧
  let i16_1 : Int := IntKind.i64.wrap (x12_1 * x15_1);
  let i17_1 : Int := IntKind.i64.wrap (i9 + i16_1);
  R (.int .i64 i17_1) w_7) ∧ True) ∧
  (∃ (A11_1 : Option Addr) (n11_1 c11_1 : Nat),
  w_2.cell? ⟨w.heap.size, 3, none⟩ = some (.slice A11_1 n11_1 c11_1) ∧
  (Calls Try.prog 47 #[.agg #[.slice A6_0 n6_0 c6_0, .slice A6_1 n6_1 c6_1, .slice A6_2 n6_2 c6_2, .slice A6_3 n6_3 c6_3, .slice A6_4 n6_4 c6_4, .slice A6_5 n6_5 c6_5]] w_2.drew fun e_7 w_8 =>
  ∃ (x7_1 : Int),
  e_7 = .returned (.int .i64 x7_1) ∧
  let i8_1 : Int := IntKind.i64.wrap (2 * x7_1);
  let i9_1 : Int := IntKind.i64.wrap (4 + i8_1);
  (Calls Try.prog 48 #[.slice A11_1 n11_1 c11_1] w_8 fun e_8 w_9 =>
  ∃ (x12_2 : Int),
  e_8 = .returned (.int .i64 x12_2) ∧
  ∃ (A14_2 : Option Addr) (n14_2 c14_2 : Nat),
  w_9.cell? ⟨w.heap.size, 4, none⟩ = some (.slice A14_2 n14_2 c14_2) ∧
  Calls Try.prog 48 #[.slice A14_2 n14_2 c14_2] w_9 fun e_9 w_10 =>
  ∃ (x15_2 : Int),
  e_9 = .returned (.int .i64 x15_2) ∧
  let i16_2 : Int := IntKind.i64.wrap (x12_2 * x15_2);
  let i17_2 : Int := IntKind.i64.wrap (i9_1 + i16_2);
  R (.int .i64 i17_2) w_10) ∧
  (∃ (A14_3 : Option Addr) (n14_3 c14_3 : Nat),
  w_8.cell? ⟨w.heap.size, 4, none⟩ = some (.slice A14_3 n14_3 c14_3) ∧
  Calls Try.prog 48 #[.slice A11_1 n11_1 c11_1] w_8 fun e_10 w_11 =>
  ∃ (x12_3 : Int),
  e_10 = .returned (.int .i64 x12_3) ∧
  Calls Try.prog 48 #[.slice A14_3 n14_3 c14_3] w_11 fun e_11 w_12 =>
  ∃ (x15_3 : Int),
  e_11 = .returned (.int .i64 x15_3) ∧
  let i16_3 : Int := IntKind.i64.wrap (x12_3 * x15_3);
  let i17_3 : Int := IntKind.i64.wrap (i9_1 + i16_3);
  R (.int .i64 i17_3) w_12) ∧ True) ∧
  (∃ (A14_4 : Option Addr) (n14_4 c14_4 : Nat),
  w_2.cell? ⟨w.heap.size, 4, none⟩ = some (.slice A14_4 n14_4 c14_4) ∧
  Calls Try.prog 47 #[.agg #[.slice A6_0 n6_0 c6_0, .slice A6_1 n6_1 c6_1, .slice A6_2 n6_2 c6_2, .slice A6_3 n6_3 c6_3, .slice A6_4 n6_4 c6_4, .slice A6_5 n6_5 c6_5]] w_2.drew fun e_12 w_13 =>
  ∃ (x7_2 : Int),
  e_12 = .returned (.int .i64 x7_2) ∧
  let i8_2 : Int := IntKind.i64.wrap (2 * x7_2);
  let i9_2 : Int := IntKind.i64.wrap (4 + i8_2);
  Calls Try.prog 48 #[.slice A11_1 n11_1 c11_1] w_13 fun e_13 w_14 =>
  ∃ (x12_4 : Int),
  e_13 = .returned (.int .i64 x12_4) ∧
  Calls Try.prog 48 #[.slice A14_4 n14_4 c14_4] w_14 fun e_14 w_15 =>
  ∃ (x15_4 : Int),
  e_14 = .returned (.int .i64 x15_4) ∧
  let i16_4 : Int := IntKind.i64.wrap (x12_4 * x15_4);
  let i17_4 : Int := IntKind.i64.wrap (i9_2 + i16_4);
  R (.int .i64 i17_4) w_15) ∧ True) ∧
  (∃ (A14_5 : Option Addr) (n14_5 c14_5 : Nat),
  w_2.cell? ⟨w.heap.size, 4, none⟩ = some (.slice A14_5 n14_5 c14_5) ∧
  (Calls Try.prog 47 #[.agg #[.slice A6_0 n6_0 c6_0, .slice A6_1 n6_1 c6_1, .slice A6_2 n6_2 c6_2, .slice A6_3 n6_3 c6_3, .slice A6_4 n6_4 c6_4, .slice A6_5 n6_5 c6_5]] w_2.drew fun e_15 w_16 =>
  ∃ (x7_3 : Int),
  e_15 = .returned (.int .i64 x7_3) ∧
  let i8_3 : Int := IntKind.i64.wrap (2 * x7_3);
  let i9_3 : Int := IntKind.i64.wrap (4 + i8_3);
  ∃ (A11_2 : Option Addr) (n11_2 c11_2 : Nat),
  w_16.cell? ⟨w.heap.size, 3, none⟩ = some (.slice A11_2 n11_2 c11_2) ∧
  Calls Try.prog 48 #[.slice A11_2 n11_2 c11_2] w_16 fun e_16 w_17 =>
  ∃ (x12_5 : Int),
  e_16 = .returned (.int .i64 x12_5) ∧
  Calls Try.prog 48 #[.slice A14_5 n14_5 c14_5] w_17 fun e_17 w_18 =>
  ∃ (x15_5 : Int),
  e_17 = .returned (.int .i64 x15_5) ∧
  let i16_5 : Int := IntKind.i64.wrap (x12_5 * x15_5);
  let i17_5 : Int := IntKind.i64.wrap (i9_3 + i16_5);
  R (.int .i64 i17_5) w_18) ∧
  (∃ (A11_3 : Option Addr) (n11_3 c11_3 : Nat),
  w_2.cell? ⟨w.heap.size, 3, none⟩ = some (.slice A11_3 n11_3 c11_3) ∧
  Calls Try.prog 47 #[.agg #[.slice A6_0 n6_0 c6_0, .slice A6_1 n6_1 c6_1, .slice A6_2 n6_2 c6_2, .slice A6_3 n6_3 c6_3, .slice A6_4 n6_4 c6_4, .slice A6_5 n6_5 c6_5]] w_2.drew fun e_18 w_19 =>
  ∃ (x7_4 : Int),
  e_18 = .returned (.int .i64 x7_4) ∧
  let i8_4 : Int := IntKind.i64.wrap (2 * x7_4);
  let i9_4 : Int := IntKind.i64.wrap (4 + i8_4);
  Calls Try.prog 48 #[.slice A11_3 n11_3 c11_3] w_19 fun e_19 w_20 =>
  ∃ (x12_6 : Int),
  e_19 = .returned (.int .i64 x12_6) ∧
  Calls Try.prog 48 #[.slice A14_5 n14_5 c14_5] w_20 fun e_20 w_21 =>
  ∃ (x15_6 : Int),
  e_20 = .returned (.int .i64 x15_6) ∧
  let i16_6 : Int := IntKind.i64.wrap (x12_6 * x15_6);
  let i17_6 : Int := IntKind.i64.wrap (i9_4 + i16_6);
  R (.int .i64 i17_6) w_21) ∧ True) ∧ True)
theorem f20.eq (Aa0_0 : Option Addr) (na0_0 ca0_0 : Nat) (Aa0_1 : Option Addr) (na0_1 ca0_1 : Nat) (Aa0_2 : Option Addr) (na0_2 ca0_2 : Nat) (Aa0_3 : Option Addr) (na0_3 ca0_3 : Nat) (Aa0_4 : Option Addr) (na0_4 ca0_4 : Nat) (Aa0_5 : Option Addr) (na0_5 ca0_5 : Nat) (w : World) (R : Value → World → Prop) : f20.VC Aa0_0 na0_0 ca0_0 Aa0_1 na0_1 ca0_1 Aa0_2 na0_2 ca0_2 Aa0_3 na0_3 ca0_3 Aa0_4 na0_4 ca0_4 Aa0_5 na0_5 ca0_5 w R = funV Try.prog Try.f20 f20.AL f20.AC #[.agg #[.slice Aa0_0 na0_0 ca0_0, .slice Aa0_1 na0_1 ca0_1, .slice Aa0_2 na0_2 ca0_2, .slice Aa0_3 na0_3 ca0_3, .slice Aa0_4 na0_4 ca0_4, .slice Aa0_5 na0_5 ca0_5]] w R := by kernel_rfl
theorem f20.calls {Aa0_0 : Option Addr} {na0_0 ca0_0 : Nat} {Aa0_1 : Option Addr} {na0_1 ca0_1 : Nat} {Aa0_2 : Option Addr} {na0_2 ca0_2 : Nat} {Aa0_3 : Option Addr} {na0_3 ca0_3 : Nat} {Aa0_4 : Option Addr} {na0_4 ca0_4 : Nat} {Aa0_5 : Option Addr} {na0_5 ca0_5 : Nat} {w : World} {R : Value → World → Prop} (h : f20.VC Aa0_0 na0_0 ca0_0 Aa0_1 na0_1 ca0_1 Aa0_2 na0_2 ca0_2 Aa0_3 na0_3 ca0_3 Aa0_4 na0_4 ca0_4 Aa0_5 na0_5 ca0_5 w R) : Calls Try.prog 20 #[.agg #[.slice Aa0_0 na0_0 ca0_0, .slice Aa0_1 na0_1 ca0_1, .slice Aa0_2 na0_2 ca0_2, .slice Aa0_3 na0_3 ca0_3, .slice Aa0_4 na0_4 ca0_4, .slice Aa0_5 na0_5 ca0_5]] w fun e w' => ∃ v, e = .returned v ∧ R v w' :=
  funV_sound (fn := Try.f20) (AL := f20.AL) (AC := f20.AC) W9.mixed (by kernel_rfl) (by rw [← f20.eq Aa0_0 na0_0 ca0_0 Aa0_1 na0_1 ca0_1 Aa0_2 na0_2 ca0_2 Aa0_3 na0_3 ca0_3 Aa0_4 na0_4 ca0_4 Aa0_5 na0_5 ca0_5]; exact h)

/-- gatehouse/gatehouseref12.Size -/
def f21.AL : Nat → Option Ann := fun _ => none
def f21.AC : Nat → Option Ann := fun _ => none
def f21.VC (Aa0_0 : Option Addr) (na0_0 ca0_0 : Nat) (Aa0_1 : Option Addr) (na0_1 ca0_1 : Nat) (Aa0_2 : Option Addr) (na0_2 ca0_2 : Nat) (Aa0_3 : Option Addr) (na0_3 ca0_3 : Nat) (Aa0_4 : Option Addr) (na0_4 ca0_4 : Nat) (Aa0_5 : Option Addr) (na0_5 ca0_5 : Nat) (w : World) (R : Value → World → Prop) : Prop :=
  let w_1 : World := World.alloc w (.cells #[.slice Aa0_0 na0_0 ca0_0, .slice Aa0_1 na0_1 ca0_1, .slice Aa0_2 na0_2 ca0_2, .slice Aa0_3 na0_3 ca0_3, .slice Aa0_4 na0_4 ca0_4, .slice Aa0_5 na0_5 ca0_5] 29);
  ∃ (A8_0 : Option Addr) (n8_0 c8_0 : Nat),
  w_1.cell? ⟨w.heap.size, 0, none⟩ = some (.slice A8_0 n8_0 c8_0) ∧
  ∃ (A8_1 : Option Addr) (n8_1 c8_1 : Nat),
  w_1.cell? ⟨w.heap.size, 1, none⟩ = some (.slice A8_1 n8_1 c8_1) ∧
  ∃ (A8_2 : Option Addr) (n8_2 c8_2 : Nat),
  w_1.cell? ⟨w.heap.size, 2, none⟩ = some (.slice A8_2 n8_2 c8_2) ∧
  ∃ (A8_3 : Option Addr) (n8_3 c8_3 : Nat),
  w_1.cell? ⟨w.heap.size, 3, none⟩ = some (.slice A8_3 n8_3 c8_3) ∧
  ∃ (A8_4 : Option Addr) (n8_4 c8_4 : Nat),
  w_1.cell? ⟨w.heap.size, 4, none⟩ = some (.slice A8_4 n8_4 c8_4) ∧
  ∃ (A8_5 : Option Addr) (n8_5 c8_5 : Nat),
  w_1.cell? ⟨w.heap.size, 5, none⟩ = some (.slice A8_5 n8_5 c8_5) ∧
  Calls Try.prog 28 #[.agg #[.slice A8_0 n8_0 c8_0, .slice A8_1 n8_1 c8_1, .slice A8_2 n8_2 c8_2, .slice A8_3 n8_3 c8_3, .slice A8_4 n8_4 c8_4, .slice A8_5 n8_5 c8_5]] w_1 fun e_1 w_2 =>
  ∃ (b9 : Bool),
  e_1 = .returned (.bool b9) ∧
  sel (!b9) (
  R (.int .i64 0) w_2) (
  ∃ (A14 : Option Addr) (n14 c14 : Nat),
  w_2.cell? ⟨w.heap.size, 3, none⟩ = some (.slice A14 n14 c14) ∧
  Calls Try.prog 42 #[.slice A14 n14 c14] w_2 fun e_2 w_3 =>
  ∃ (x15_0 : Int) (b15_1 : Bool),
  e_2 = .returned (.tuple #[.int .i64 x15_0, .bool b15_1]) ∧
  ∃ (A20 : Option Addr) (n20 c20 : Nat),
  w_3.cell? ⟨w.heap.size, 4, none⟩ = some (.slice A20 n20 c20) ∧
  Calls Try.prog 42 #[.slice A20 n20 c20] w_3 fun e_3 w_4 =>
  ∃ (x21_0 : Int) (b21_1 : Bool),
  e_3 = .returned (.tuple #[.int .i64 x21_0, .bool b21_1]) ∧
  ∃ (A24_0 : Option Addr) (n24_0 c24_0 : Nat),
  w_4.cell? ⟨w.heap.size, 0, none⟩ = some (.slice A24_0 n24_0 c24_0) ∧
  ∃ (A24_1 : Option Addr) (n24_1 c24_1 : Nat),
  w_4.cell? ⟨w.heap.size, 1, none⟩ = some (.slice A24_1 n24_1 c24_1) ∧
  ∃ (A24_2 : Option Addr) (n24_2 c24_2 : Nat),
  w_4.cell? ⟨w.heap.size, 2, none⟩ = some (.slice A24_2 n24_2 c24_2) ∧
  ∃ (A24_3 : Option Addr) (n24_3 c24_3 : Nat),
  w_4.cell? ⟨w.heap.size, 3, none⟩ = some (.slice A24_3 n24_3 c24_3) ∧
  ∃ (A24_4 : Option Addr) (n24_4 c24_4 : Nat),
  w_4.cell? ⟨w.heap.size, 4, none⟩ = some (.slice A24_4 n24_4 c24_4) ∧
  ∃ (A24_5 : Option Addr) (n24_5 c24_5 : Nat),
  w_4.cell? ⟨w.heap.size, 5, none⟩ = some (.slice A24_5 n24_5 c24_5) ∧
  Calls Try.prog 44 #[.agg #[.slice A24_0 n24_0 c24_0, .slice A24_1 n24_1 c24_1, .slice A24_2 n24_2 c24_2, .slice A24_3 n24_3 c24_3, .slice A24_4 n24_4 c24_4, .slice A24_5 n24_5 c24_5]] w_4 fun e_4 w_5 =>
  ∃ (x25 : Int),
  e_4 = .returned (.int .i64 x25) ∧
  Calls Try.prog 43 #[.int .i64 x25] w_5 fun e_5 w_6 =>
  ∃ (x26 : Int),
  e_5 = .returned (.int .i64 x26) ∧
  let i27 : Int := IntKind.i64.wrap (2 * x26);
  let i28 : Int := IntKind.i64.wrap (4 + i27);
  let i31 : Int := IntKind.i64.wrap (x15_0 * x21_0);
  let i32 : Int := IntKind.i64.wrap (i28 + i31);
  R (.int .i64 i32) w_6)
theorem f21.eq (Aa0_0 : Option Addr) (na0_0 ca0_0 : Nat) (Aa0_1 : Option Addr) (na0_1 ca0_1 : Nat) (Aa0_2 : Option Addr) (na0_2 ca0_2 : Nat) (Aa0_3 : Option Addr) (na0_3 ca0_3 : Nat) (Aa0_4 : Option Addr) (na0_4 ca0_4 : Nat) (Aa0_5 : Option Addr) (na0_5 ca0_5 : Nat) (w : World) (R : Value → World → Prop) : f21.VC Aa0_0 na0_0 ca0_0 Aa0_1 na0_1 ca0_1 Aa0_2 na0_2 ca0_2 Aa0_3 na0_3 ca0_3 Aa0_4 na0_4 ca0_4 Aa0_5 na0_5 ca0_5 w R = funV Try.prog Try.f21 f21.AL f21.AC #[.agg #[.slice Aa0_0 na0_0 ca0_0, .slice Aa0_1 na0_1 ca0_1, .slice Aa0_2 na0_2 ca0_2, .slice Aa0_3 na0_3 ca0_3, .slice Aa0_4 na0_4 ca0_4, .slice Aa0_5 na0_5 ca0_5]] w R := by kernel_rfl
theorem f21.calls {Aa0_0 : Option Addr} {na0_0 ca0_0 : Nat} {Aa0_1 : Option Addr} {na0_1 ca0_1 : Nat} {Aa0_2 : Option Addr} {na0_2 ca0_2 : Nat} {Aa0_3 : Option Addr} {na0_3 ca0_3 : Nat} {Aa0_4 : Option Addr} {na0_4 ca0_4 : Nat} {Aa0_5 : Option Addr} {na0_5 ca0_5 : Nat} {w : World} {R : Value → World → Prop} (h : f21.VC Aa0_0 na0_0 ca0_0 Aa0_1 na0_1 ca0_1 Aa0_2 na0_2 ca0_2 Aa0_3 na0_3 ca0_3 Aa0_4 na0_4 ca0_4 Aa0_5 na0_5 ca0_5 w R) : Calls Try.prog 21 #[.agg #[.slice Aa0_0 na0_0 ca0_0, .slice Aa0_1 na0_1 ca0_1, .slice Aa0_2 na0_2 ca0_2, .slice Aa0_3 na0_3 ca0_3, .slice Aa0_4 na0_4 ca0_4, .slice Aa0_5 na0_5 ca0_5]] w fun e w' => ∃ v, e = .returned v ∧ R v w' :=
  funV_sound (fn := Try.f21) (AL := f21.AL) (AC := f21.AC) W9.mixed (by kernel_rfl) (by rw [← f21.eq Aa0_0 na0_0 ca0_0 Aa0_1 na0_1 ca0_1 Aa0_2 na0_2 ca0_2 Aa0_3 na0_3 ca0_3 Aa0_4 na0_4 ca0_4 Aa0_5 na0_5 ca0_5]; exact h)

end Go.Proofs.Ytjmlfknogjaemaa
