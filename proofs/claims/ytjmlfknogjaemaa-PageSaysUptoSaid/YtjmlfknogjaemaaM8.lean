/- The plain statements of some functions, printed by vcgen.py. -/
import Derived.Test.YtjmlfknogjaemaaM4
import Derived.Test.YtjmlfknogjaemaaProg
import Derived.KernelRfl
import Derived.Test.YtjmlfknogjaemaaM6
import Derived.Test.YtjmlfknogjaemaaM7
set_option maxRecDepth 100000
set_option linter.unusedVariables false
namespace Go.Proofs.Ytjmlfknogjaemaa
open Go Go.Proofs.Ytjmlfknogjaemaa.Vc
theorem W0.mixed : Try.prog.follows .mixedOrders = true := by kernel_rfl
/-- gatehouse/page.Hash -/
def f11.AL : Nat → Option Ann := fun _ => none
def f11.AC : Nat → Option Ann := fun _ => none
def f11.VC (xa0 : Int) (xa1 : Int) (w : World) (R : Value → World → Prop) : Prop :=
  sel (decide ((xa1 : Int) < (1 : Int))) (
  R (.int .i64 0) w) (
  let i8 : Int := IntKind.i64.wrap (xa0 * 40503);
  let i9 : Int := IntKind.u16.wrap i8;
  let i10 : Int := IntKind.i64.wrap i9;
  xa1 ≠ (0 : Int) ∧
  let i12 : Int := Int.tmod i10 xa1;
  R (.int .i64 i12) w)
theorem f11.eq (xa0 : Int) (xa1 : Int) (w : World) (R : Value → World → Prop) : f11.VC xa0 xa1 w R = funV Try.prog Try.f11 f11.AL f11.AC #[.int .i64 xa0, .int .i64 xa1] w R := by kernel_rfl
theorem f11.calls {xa0 : Int} {xa1 : Int} {w : World} {R : Value → World → Prop} (h : f11.VC xa0 xa1 w R) : Calls Try.prog 11 #[.int .i64 xa0, .int .i64 xa1] w fun e w' => ∃ v, e = .returned v ∧ R v w' :=
  funV_sound (fn := Try.f11) (AL := f11.AL) (AC := f11.AC) W0.mixed (by kernel_rfl) (by rw [← f11.eq xa0 xa1]; exact h)

/-- gatehouse/gatehouseref12.Hash -/
def f12.AL : Nat → Option Ann := fun _ => none
def f12.AC : Nat → Option Ann := fun _ => none
/-- gatehouse/gatehouselaw12.sameInts -/
def f18.AL : Nat → Option Ann := fun r => match r with | 4 => some ⟨[(5, .int .i64)], [0, 1]⟩ | _ => none
def f18.AC : Nat → Option Ann := fun _ => none
def f18.VC (Aa0 : Option Addr) (na0 ca0 : Nat) (Aa1 : Option Addr) (na1 ca1 : Nat) (w : World) (R : Value → World → Prop) : Prop :=
  sel (((na0 : Int) : Int) != ((na1 : Int) : Int)) (
  R (.bool false) w) (
  ∃ I : Int → World → Nat → Prop,
  (∃ n, I 0 w n) ∧
  ∀ d : Env, ∀ (x5 : Int) (w_1 : World) (r : Nat), I x5 w_1 r →
  sel (decide ((x5 : Int) < ((na0 : Int) : Int))) (
  (0 : Int) ≤ x5 ∧ x5 < (na0 : Int) ∧
  needPtr Aa0 fun b19 o19 =>
  (0 : Int) ≤ x5 ∧ x5 < (na1 : Int) ∧
  needPtr Aa1 fun b23 o23 =>
  ∃ (x20 : Int),
  w_1.cell? ⟨b19, o19 + x5.toNat * 1, none⟩ = some (.int .i64 x20) ∧
  ∃ (x24 : Int),
  w_1.cell? ⟨b23, o23 + x5.toNat * 1, none⟩ = some (.int .i64 x24) ∧
  sel ((x20 : Int) != (x24 : Int)) (
  R (.bool false) w_1.drew) (
  let i16 : Int := IntKind.i64.wrap (x5 + 1);
  ([.slice Aa0 na0 ca0, .slice Aa1 na1 ca1] : List Value) = ([.slice Aa0 na0 ca0, .slice Aa1 na1 ca1] : List Value) ∧ ∃ m, m < r ∧ I i16 w_1.drew m)) (
  R (.bool true) w_1))
theorem f18.eq (Aa0 : Option Addr) (na0 ca0 : Nat) (Aa1 : Option Addr) (na1 ca1 : Nat) (w : World) (R : Value → World → Prop) : f18.VC Aa0 na0 ca0 Aa1 na1 ca1 w R = funV Try.prog Try.f18 f18.AL f18.AC #[.slice Aa0 na0 ca0, .slice Aa1 na1 ca1] w R := by kernel_rfl
theorem f18.calls {Aa0 : Option Addr} {na0 ca0 : Nat} {Aa1 : Option Addr} {na1 ca1 : Nat} {w : World} {R : Value → World → Prop} (h : f18.VC Aa0 na0 ca0 Aa1 na1 ca1 w R) : Calls Try.prog 18 #[.slice Aa0 na0 ca0, .slice Aa1 na1 ca1] w fun e w' => ∃ v, e = .returned v ∧ R v w' :=
  funV_sound (fn := Try.f18) (AL := f18.AL) (AC := f18.AC) W0.mixed (by kernel_rfl) (by rw [← f18.eq Aa0 na0 ca0 Aa1 na1 ca1]; exact h)

/-- gatehouse/gatehouselaw12.copied -/
def f24.AL : Nat → Option Ann := fun r => match r with | 4 => some ⟨[(5, .slice), (6, .int .i64)], [1]⟩ | _ => none
def f24.AC : Nat → Option Ann := fun _ => none
def f24.VC (Aa0 : Option Addr) (na0 ca0 : Nat) (xa1 : Int) (w : World) (R : Value → World → Prop) : Prop :=
  ∃ (A9 : Option Addr) (n9 c9 : Nat),
  ∃ w_1 : World, (Builtin.append_ #[26, 26] 26 #[.slice none 0 0, .slice Aa0 na0 ca0]).run Try.prog w = .ok (.slice A9 n9 c9) w_1 ∧
  ∃ I : Option Addr → Nat → Nat → Int → World → Nat → Prop,
  (∃ n, I A9 n9 c9 0 w_1 n) ∧
  ∀ d : Env, ∀ (A5 : Option Addr) (n5 c5 : Nat) (x6 : Int) (w_2 : World) (r : Nat), I A5 n5 c5 x6 w_2 r →
  sel (decide ((x6 : Int) < (xa1 : Int))) (
  let i17 : Int := IntKind.i64.wrap ((-7000) - x6);
  let w_3 : World := World.alloc w_2 (.cells #[.int .i64 i17] 3);
  ∃ (A19 : Option Addr) (n19 c19 : Nat),
  ∃ w_4 : World, (Builtin.append_ #[26, 26] 26 #[.slice A5 n5 c5, .slice (some ⟨w_2.heap.size, 0, none⟩) 1 1]).run Try.prog w_3 = .ok (.slice A19 n19 c19) w_4 ∧
  let i14 : Int := IntKind.i64.wrap (x6 + 1);
  ([.int .i64 xa1] : List Value) = ([.int .i64 xa1] : List Value) ∧ ∃ m, m < r ∧ I A19 n19 c19 i14 w_4 m) (
  R (.slice A5 n5 c5) w_2)
theorem f24.eq (Aa0 : Option Addr) (na0 ca0 : Nat) (xa1 : Int) (w : World) (R : Value → World → Prop) : f24.VC Aa0 na0 ca0 xa1 w R = funV Try.prog Try.f24 f24.AL f24.AC #[.slice Aa0 na0 ca0, .int .i64 xa1] w R := by kernel_rfl
theorem f24.calls {Aa0 : Option Addr} {na0 ca0 : Nat} {xa1 : Int} {w : World} {R : Value → World → Prop} (h : f24.VC Aa0 na0 ca0 xa1 w R) : Calls Try.prog 24 #[.slice Aa0 na0 ca0, .int .i64 xa1] w fun e w' => ∃ v, e = .returned v ∧ R v w' :=
  funV_sound (fn := Try.f24) (AL := f24.AL) (AC := f24.AC) W0.mixed (by kernel_rfl) (by rw [← f24.eq Aa0 na0 ca0 xa1]; exact h)

/-- gatehouse/names.NewIndex[string] -/
def f29.AL : Nat → Option Ann := fun _ => none
def f29.AC : Nat → Option Ann := fun _ => none
def f29.VC  (w : World) (R : Value → World → Prop) : Prop :=
  let w_1 : World := World.alloc w (.map #[] 0);
  let w_2 : World := World.alloc w_1 (.cells #[.map (some w.heap.size), .slice none 0 0] 122);
  R (.pointer (some ⟨w_1.heap.size, 0, none⟩)) w_2
theorem f29.eq  (w : World) (R : Value → World → Prop) : f29.VC  w R = funV Try.prog Try.f29 f29.AL f29.AC #[] w R := by kernel_rfl
theorem f29.calls {w : World} {R : Value → World → Prop} (h : f29.VC  w R) : Calls Try.prog 29 #[] w fun e w' => ∃ v, e = .returned v ∧ R v w' :=
  funV_sound (fn := Try.f29) (AL := f29.AL) (AC := f29.AC) W0.mixed (by kernel_rfl) (by rw [← f29.eq ]; exact h)

/-- (*gatehouse/names.Index[string]).Len -/
def f30.AL : Nat → Option Ann := fun _ => none
def f30.AC : Nat → Option Ann := fun _ => none
def f30.VC (a0 : Nat) (w : World) (R : Value → World → Prop) : Prop :=
  ∃ (A6 : Option Addr) (n6 c6 : Nat),
  w.cell? ⟨a0, 1, none⟩ = some (.slice A6 n6 c6) ∧
  R (.int .i64 (n6 : Int)) w
theorem f30.eq (a0 : Nat) (w : World) (R : Value → World → Prop) : f30.VC a0 w R = funV Try.prog Try.f30 f30.AL f30.AC #[.pointer (some ⟨a0, 0, none⟩)] w R := by kernel_rfl
theorem f30.calls {a0 : Nat} {w : World} {R : Value → World → Prop} (h : f30.VC a0 w R) : Calls Try.prog 30 #[.pointer (some ⟨a0, 0, none⟩)] w fun e w' => ∃ v, e = .returned v ∧ R v w' :=
  funV_sound (fn := Try.f30) (AL := f30.AL) (AC := f30.AC) W0.mixed (by kernel_rfl) (by rw [← f30.eq a0]; exact h)

/-- (*gatehouse/names.Index[string]).At -/
def f53.AL : Nat → Option Ann := fun _ => none
def f53.AC : Nat → Option Ann := fun _ => none
def f53.VC (a0 : Nat) (xa1 : Int) (w : World) (R : Value → World → Prop) : Prop :=
  sel (decide ((xa1 : Int) < (1 : Int))) (
  R (.tuple #[.string ⟨#[]⟩, .bool false]) w) (
  ∃ (A13 : Option Addr) (n13 c13 : Nat),
  w.cell? ⟨a0, 1, none⟩ = some (.slice A13 n13 c13) ∧
  sel (decide (((n13 : Int) : Int) < (xa1 : Int))) (
  R (.tuple #[.string ⟨#[]⟩, .bool false]) w) (
  ∃ (A21 : Option Addr) (n21 c21 : Nat),
  w.cell? ⟨a0, 1, none⟩ = some (.slice A21 n21 c21) ∧
  let i23 : Int := IntKind.i64.wrap (xa1 - 1);
  (0 : Int) ≤ i23 ∧ i23 < (n21 : Int) ∧
  needPtr A21 fun b24 o24 =>
  ∃ (s25 : ByteArray),
  w.cell? ⟨b24, o24 + i23.toNat * 1, none⟩ = some (.string s25) ∧
  R (.tuple #[.string s25, .bool true]) w))
theorem f53.eq (a0 : Nat) (xa1 : Int) (w : World) (R : Value → World → Prop) : f53.VC a0 xa1 w R = funV Try.prog Try.f53 f53.AL f53.AC #[.pointer (some ⟨a0, 0, none⟩), .int .i64 xa1] w R := by kernel_rfl
theorem f53.calls {a0 : Nat} {xa1 : Int} {w : World} {R : Value → World → Prop} (h : f53.VC a0 xa1 w R) : Calls Try.prog 53 #[.pointer (some ⟨a0, 0, none⟩), .int .i64 xa1] w fun e w' => ∃ v, e = .returned v ∧ R v w' :=
  funV_sound (fn := Try.f53) (AL := f53.AL) (AC := f53.AC) W0.mixed (by kernel_rfl) (by rw [← f53.eq a0 xa1]; exact h)

/-- (*gatehouse/gatehouseref01.Index).At -/
def f61.AL : Nat → Option Ann := fun _ => none
def f61.AC : Nat → Option Ann := fun _ => none
/-- (*gatehouse/page.eye).read -/
def f75.AL : Nat → Option Ann := fun _ => none
def f75.AC : Nat → Option Ann := fun _ => none
def f75.VC (a0 : Nat) (xa1 : Int) (w : World) (R : Value → World → Prop) : Prop :=
  sel (decide ((xa1 : Int) < (0 : Int))) (
  R (.tuple #[.int .i64 0, .bool false]) w) (
  ∃ (A13 : Option Addr) (n13 c13 : Nat),
  w.cell? ⟨a0, 0, none⟩ = some (.slice A13 n13 c13) ∧
  sel (decide (((n13 : Int) : Int) ≤ (xa1 : Int))) (
  R (.tuple #[.int .i64 0, .bool false]) w) (
  ∃ (x20 : Int),
  w.cell? ⟨a0, 1, none⟩ = some (.int .i64 x20) ∧
  let i21 : Int := IntKind.i64.wrap (x20 + 1);
  canStore w a0 1 1 ∧
  let w_1 : World := setCs w a0 1 [.int .i64 i21];
  ∃ (A27 : Option Addr) (n27 c27 : Nat),
  w_1.cell? ⟨a0, 0, none⟩ = some (.slice A27 n27 c27) ∧
  (0 : Int) ≤ xa1 ∧ xa1 < (n27 : Int) ∧
  needPtr A27 fun b29 o29 =>
  ∃ (x30 : Int),
  w_1.cell? ⟨b29, o29 + xa1.toNat * 1, none⟩ = some (.int .i64 x30) ∧
  R (.tuple #[.int .i64 x30, .bool true]) w_1))
theorem f75.eq (a0 : Nat) (xa1 : Int) (w : World) (R : Value → World → Prop) : f75.VC a0 xa1 w R = funV Try.prog Try.f75 f75.AL f75.AC #[.pointer (some ⟨a0, 0, none⟩), .int .i64 xa1] w R := by kernel_rfl
theorem f75.calls {a0 : Nat} {xa1 : Int} {w : World} {R : Value → World → Prop} (h : f75.VC a0 xa1 w R) : Calls Try.prog 75 #[.pointer (some ⟨a0, 0, none⟩), .int .i64 xa1] w fun e w' => ∃ v, e = .returned v ∧ R v w' :=
  funV_sound (fn := Try.f75) (AL := f75.AL) (AC := f75.AC) W0.mixed (by kernel_rfl) (by rw [← f75.eq a0 xa1]; exact h)

/-- gatehouse/page.power -/
def f76.AL : Nat → Option Ann := fun _ => none
def f76.AC : Nat → Option Ann := fun _ => none
def f76.VC (xa0 : Int) (w : World) (R : Value → World → Prop) : Prop :=
  sel (decide ((2 : Int) ≤ (xa0 : Int))) (
  sel (decide ((xa0 : Int) ≤ (4096 : Int))) (
  let i12 : Int := IntKind.i64.wrap (xa0 - 1);
  let i13 : Int := bitsI .and .i64 xa0 i12;
  R (.bool ((i13 : Int) == (0 : Int))) w) (
  R (.bool false) w)) (
  R (.bool false) w)
theorem f76.eq (xa0 : Int) (w : World) (R : Value → World → Prop) : f76.VC xa0 w R = funV Try.prog Try.f76 f76.AL f76.AC #[.int .i64 xa0] w R := by kernel_rfl
theorem f76.calls {xa0 : Int} {w : World} {R : Value → World → Prop} (h : f76.VC xa0 w R) : Calls Try.prog 76 #[.int .i64 xa0] w fun e w' => ∃ v, e = .returned v ∧ R v w' :=
  funV_sound (fn := Try.f76) (AL := f76.AL) (AC := f76.AC) W0.mixed (by kernel_rfl) (by rw [← f76.eq xa0]; exact h)

/-- (*gatehouse/gatehouseref01.Index).Find -/
def f80.AL : Nat → Option Ann := fun r => match r with | 2 => some ⟨[(6, .int .i64)], [0, 1]⟩ | _ => none
def f80.AC : Nat → Option Ann := fun _ => none
def f80.VC (a0 : Nat) (sa1 : ByteArray) (w : World) (R : Value → World → Prop) : Prop :=
  ∃ I : Int → World → Nat → Prop,
  (∃ n, I 0 w n) ∧
  ∀ d : Env, ∀ (x6 : Int) (w_1 : World) (r : Nat), I x6 w_1 r →
  ∃ (A11 : Option Addr) (n11 c11 : Nat),
  w_1.cell? ⟨a0, 0, none⟩ = some (.slice A11 n11 c11) ∧
  sel (decide ((x6 : Int) < ((n11 : Int) : Int))) (
  ∃ (A19 : Option Addr) (n19 c19 : Nat),
  w_1.cell? ⟨a0, 0, none⟩ = some (.slice A19 n19 c19) ∧
  (0 : Int) ≤ x6 ∧ x6 < (n19 : Int) ∧
  needPtr A19 fun b21 o21 =>
  ∃ (s22 : ByteArray),
  w_1.cell? ⟨b21, o21 + x6.toNat * 1, none⟩ = some (.string s22) ∧
  sel (decide (s22 = sa1)) (
  let i26 : Int := IntKind.i64.wrap (x6 + 1);
  R (.tuple #[.int .i64 i26, .bool true]) w_1) (
  let i15 : Int := IntKind.i64.wrap (x6 + 1);
  ([.pointer (some ⟨a0, 0, none⟩), .string sa1] : List Value) = ([.pointer (some ⟨a0, 0, none⟩), .string sa1] : List Value) ∧ ∃ m, m < r ∧ I i15 w_1 m)) (
  R (.tuple #[.int .i64 0, .bool false]) w_1)
theorem f80.eq (a0 : Nat) (sa1 : ByteArray) (w : World) (R : Value → World → Prop) : f80.VC a0 sa1 w R = funV Try.prog Try.f80 f80.AL f80.AC #[.pointer (some ⟨a0, 0, none⟩), .string sa1] w R := by kernel_rfl
theorem f80.calls {a0 : Nat} {sa1 : ByteArray} {w : World} {R : Value → World → Prop} (h : f80.VC a0 sa1 w R) : Calls Try.prog 80 #[.pointer (some ⟨a0, 0, none⟩), .string sa1] w fun e w' => ∃ v, e = .returned v ∧ R v w' :=
  funV_sound (fn := Try.f80) (AL := f80.AL) (AC := f80.AC) W0.mixed (by kernel_rfl) (by rw [← f80.eq a0 sa1]; exact h)

/-- (*gatehouse/names.Index[string]).Find -/
def f81.AL : Nat → Option Ann := fun _ => none
def f81.AC : Nat → Option Ann := fun _ => none
def f81.VC (a0 : Nat) (sa1 : ByteArray) (w : World) (R : Value → World → Prop) : Prop :=
  ∃ (m12 : Option Nat),
  w.cell? ⟨a0, 0, none⟩ = some (.map m12) ∧
  ∃ (x14_0 : Int) (b14_1 : Bool),
  ∃ w_1 : World, (Instr.lookup 120 (.map m12) (.string sa1) true).run Try.prog w = .ok (.tuple #[.int .i64 x14_0, .bool b14_1]) w_1 ∧
  R (.tuple #[.int .i64 x14_0, .bool b14_1]) w_1
theorem f81.eq (a0 : Nat) (sa1 : ByteArray) (w : World) (R : Value → World → Prop) : f81.VC a0 sa1 w R = funV Try.prog Try.f81 f81.AL f81.AC #[.pointer (some ⟨a0, 0, none⟩), .string sa1] w R := by kernel_rfl
theorem f81.calls {a0 : Nat} {sa1 : ByteArray} {w : World} {R : Value → World → Prop} (h : f81.VC a0 sa1 w R) : Calls Try.prog 81 #[.pointer (some ⟨a0, 0, none⟩), .string sa1] w fun e w' => ∃ v, e = .returned v ∧ R v w' :=
  funV_sound (fn := Try.f81) (AL := f81.AL) (AC := f81.AC) W0.mixed (by kernel_rfl) (by rw [← f81.eq a0 sa1]; exact h)

/-- (*gatehouse/gatehouseref12.Book).word -/
def f83.AL : Nat → Option Ann := fun _ => none
def f83.AC : Nat → Option Ann := fun _ => none
/-- gatehouse/gatehouseref12.power -/
def f84.AL : Nat → Option Ann := fun r => match r with | 2 => some ⟨[(3, .int .i64)], [0]⟩ | _ => none
def f84.AC : Nat → Option Ann := fun _ => none
end Go.Proofs.Ytjmlfknogjaemaa
/- Page: where the search for a key begins: the program's and the document's. -/
set_option linter.unusedVariables false
set_option linter.unusedSimpArgs false
set_option maxRecDepth 10000
namespace Go.Proofs.Ytjmlfknogjaemaa
open Go Go.Proofs.Ytjmlfknogjaemaa.Vc
namespace PG
open Vc.PG
theorem hashP (w : World) (key size : Int) (hs : size ≤ 9223372036854775807) : Calls Try.prog 11 #[.int .i64 key, .int .i64 size] w fun e w' => e = .returned (.int .i64 (pgHash key size)) ∧ Fr [] w w' := by
  refine Calls.mono (f11.calls (R := fun v w' => v = .int .i64 (pgHash key size) ∧ Fr [] w w') ?_) ?_
  · dsimp only [f11.VC]
    refine sel_of (fun hd => ?_) (fun hd => ?_)
    · have hd : size < 1 := of_decide_eq_true hd
      exact ⟨by unfold pgHash; rw [if_pos hd], Fr.refl _ _⟩
    · have hd : ¬ size < 1 := of_decide_eq_false hd
      refine ⟨by omega, ?_, Fr.refl _ _⟩
      rw [u16_wrap, i64_id (by omega) (by omega), tmod_pos (by omega)]
      unfold pgHash
      rw [if_neg hd]
  · rintro e w' ⟨v, rfl, rfl, h⟩; exact ⟨rfl, h⟩
end PG
end Go.Proofs.Ytjmlfknogjaemaa
/- Page: words of a page, searched: the plain laws. -/
set_option linter.unusedVariables false
set_option linter.unusedSimpArgs false
set_option maxRecDepth 100000
namespace Go.Proofs.Ytjmlfknogjaemaa.Vc
open Go
namespace PG
theorem wr (n : Int) : IntKind.wrap .i64 n = (n + 9223372036854775808) % 18446744073709551616 - 9223372036854775808 := by
  show (if (decide (n % 18446744073709551616 ≥ 9223372036854775808)) = true then n % 18446744073709551616 - 18446744073709551616 else n % 18446744073709551616) = _
  simp only [decide_eq_true_eq]
  split <;> omega
theorem wr_ex (a : Int) : ∃ k : Int, IntKind.wrap .i64 a = a + k * 18446744073709551616 := by
  rw [wr]
  exact ⟨-((a + 9223372036854775808) / 18446744073709551616), by omega⟩
theorem wr_more (a k : Int) : IntKind.wrap .i64 (a + k * 18446744073709551616) = IntKind.wrap .i64 a := by
  rw [wr, wr]; omega
theorem wr_add (a b : Int) : IntKind.wrap .i64 (IntKind.wrap .i64 a + b) = IntKind.wrap .i64 (a + b) := by
  rw [wr, wr, wr]; omega
theorem wr_add' (a b : Int) : IntKind.wrap .i64 (a + IntKind.wrap .i64 b) = IntKind.wrap .i64 (a + b) := by
  rw [wr, wr, wr]; omega
theorem wr_mul (a b : Int) : IntKind.wrap .i64 (IntKind.wrap .i64 a * b) = IntKind.wrap .i64 (a * b) := by
  obtain ⟨k, hk⟩ := wr_ex a
  rw [hk, Int.add_mul, Int.mul_assoc, Int.mul_comm 18446744073709551616 b, ← Int.mul_assoc]
  exact wr_more _ _
theorem bit_one (x : Int) : bitsI .and .i64 x 1 = 0 ∨ bitsI .and .i64 x 1 = 1 := by
  have h : ((BitVec.ofInt 64 x &&& BitVec.ofInt 64 1).toNat) % 2 = (BitVec.ofInt 64 x &&& BitVec.ofInt 64 1).toNat := by
    rw [BitVec.toNat_and]
    have : (BitVec.ofInt 64 1).toNat = 1 := by decide
    rw [this, Nat.and_one_is_mod]
    omega
  show IntKind.wrap .i64 (((BitVec.ofInt 64 x &&& BitVec.ofInt 64 1).toNat : Nat) : Int) = 0 ∨ IntKind.wrap .i64 (((BitVec.ofInt 64 x &&& BitVec.ofInt 64 1).toNat : Nat) : Int) = 1
  rw [wr]
  omega
/-- A power of two from 2 to 4096. -/
def powB (t : Int) : Bool := [2, 4, 8, 16, 32, 64, 128, 256, 512, 1024, 2048, 4096].any (fun p => decide (p = t))
theorem pow_bits : ∀ n : Fin 4097, 2 ≤ n.1 → (bitsI .and .i64 (n.1 : Int) ((n.1 : Int) - 1) == 0) = powB (n.1 : Int) := by decide +kernel
theorem powB_range {t : Int} (h : powB t = true) : 2 ≤ t ∧ t ≤ 4096 := by
  simp [powB] at h
  omega
/-- Is a bit of a number there? -/
def bitB (m z : Int) : Bool := bitsI .and .i64 (shrI .i64 m z) 1 == 1
theorem bitB_ne (m z : Int) : (bitsI .and .i64 (shrI .i64 m z) 1 != 0) = bitB m z := by
  unfold bitB
  rcases bit_one (shrI .i64 m z) with h | h <;> rw [h] <;> rfl
/-- The key of a symbol and a kind. -/
def keyN (s k : Int) : Int := IntKind.wrap .i64 (s * 4 + k)
def kfirst (key : Int) (t : Nat) : Nat := (pgHash key t).toNat
theorem kfirst_lt (key : Int) {t : Nat} (h : 0 < t) : kfirst key t < t := by
  have := pgHash_range key (size := (t : Int))
  unfold kfirst; omega
theorem kfirst_eq (key : Int) {t : Nat} : ((kfirst key t : Nat) : Int) = pgHash key t := by
  have := pgHash_range key (size := (t : Int))
  unfold kfirst; omega
/-- A search in a page's table, from the n-th look on. -/
def lookGo (W : List Int) (t : Nat) (key : Int) (f : Nat) : Nat → Nat → Int × Nat
  | _, 0 => (0, t)
  | n, r + 1 =>
    if W.getD (4 + 2 * ((f + n) % t)) 0 = key then (W.getD (4 + 2 * ((f + n) % t) + 1) 0, n + 1)
    else if W.getD (4 + 2 * ((f + n) % t)) 0 = 0 then (0, n + 1)
    else lookGo W t key f (n + 1) r
/-- How many places a page's table has. -/
def tabP (W : List Int) : Int := if W.length < 4 then 0 else if powB (W.getD 1 0) = true ∧ 4 + 2 * W.getD 1 0 ≤ W.length then W.getD 1 0 else 0
theorem tabP_range (W : List Int) : 0 ≤ tabP W ∧ tabP W ≤ 4096 ∧ (tabP W ≠ 0 → 4 ≤ W.length ∧ 4 + 2 * tabP W ≤ W.length ∧ W.getD 1 0 = tabP W ∧ powB (tabP W) = true ∧ 2 ≤ tabP W) := by
  unfold tabP
  split
  · simp
  · split
    · rename_i h1 h2
      have := powB_range h2.1
      exact ⟨by omega, by omega, fun _ => ⟨by omega, h2.2, rfl, h2.1, by omega⟩⟩
    · simp
def lookP (W : List Int) (s k : Int) : Int × Nat :=
  if tabP W = 0 ∨ k < 1 ∨ 3 < k then (0, 0) else lookGo W (tabP W).toNat (keyN s k) (kfirst (keyN s k) (tabP W).toNat) 0 (tabP W).toNat
/-- The same, word by word: the number, if it is met, and how many words were read. -/
def seekGo (W : List Int) (t : Nat) (key : Int) (f : Nat) : Nat → Nat → Nat → Option Int × Nat
  | _, 0, s => (none, s)
  | n, r + 1, s =>
    if 4 + 2 * ((f + n) % t) < W.length then
      if W.getD (4 + 2 * ((f + n) % t)) 0 = key then
        if 4 + 2 * ((f + n) % t) + 1 < W.length then (some (W.getD (4 + 2 * ((f + n) % t) + 1) 0), s + 2) else (none, s + 1)
      else if W.getD (4 + 2 * ((f + n) % t)) 0 = 0 then (none, s + 1)
      else seekGo W t key f (n + 1) r (s + 1)
    else (none, s)
def seekP (W : List Int) (t : Nat) (key : Int) (s : Nat) : Option Int × Nat := seekGo W t key (kfirst key t) 0 t s
theorem seekGo_le (W : List Int) (t : Nat) (key : Int) (f : Nat) : ∀ r n s, (seekGo W t key f n r s).2 ≤ s + r + 1
  | 0, n, s => by simp [seekGo]
  | r + 1, n, s => by
    have ih := seekGo_le W t key f r (n + 1) (s + 1)
    rw [seekGo]
    split
    · split
      · split
        · dsimp only; omega
        · dsimp only; omega
      · split
        · dsimp only; omega
        · omega
    · dsimp only; omega
theorem seekP_le (W : List Int) (t : Nat) (key : Int) (s : Nat) : (seekP W t key s).2 ≤ s + t + 1 := seekGo_le _ _ _ _ _ _ _
def maskAt (t x y c : Int) : Int := IntKind.wrap .i64 (4 + 2 * t + (x - 1) * c + y - 1)
/-- All three keys met. -/
def decEnd (W : List Int) (t : Nat) (x y z : Int) (n : Nat) : Bool × Nat :=
  if 3 < W.length then
    if 0 ≤ maskAt t x y (W.getD 3 0) ∧ maskAt t x y (W.getD 3 0) < W.length then
      if z < 1 ∨ 16 < z then (false, n + 2)
      else (bitB (W.getD (maskAt t x y (W.getD 3 0)).toNat 0) (z - 1), n + 2)
    else (false, n + 1)
  else (false, n)
/-- .. with so many keys to be sought yet. -/
def decFrom (W : List Int) (t : Nat) (s o a : Int) : Nat → Int → Int → Int → Nat → Bool × Nat
  | 0, x, y, z, n => decEnd W t x y z n
  | 1, x, y, _, n => match seekP W t (keyN a 3) n with
    | (none, m) => (false, m)
    | (some v, m) => decEnd W t x y v m
  | 2, x, _, z, n => match seekP W t (keyN o 2) n with
    | (none, m) => (false, m)
    | (some v, m) => decFrom W t s o a 1 x v z m
  | _ + 3, _, y, z, n => match seekP W t (keyN s 1) n with
    | (none, m) => (false, m)
    | (some v, m) => decFrom W t s o a 2 v y z m
/-- What a page decides, and how many words were read. -/
def decP (W : List Int) (s o a : Int) : Bool × Nat :=
  if 1 < W.length then
    if powB (W.getD 1 0) = true then decFrom W (W.getD 1 0).toNat s o a 3 0 0 0 1
    else (false, 1)
  else (false, 0)
end PG
end Go.Proofs.Ytjmlfknogjaemaa.Vc
/- Page: how many places a table may have: the program's 'power' and the document's. -/
set_option linter.unusedVariables false
set_option linter.unusedSimpArgs false
set_option maxRecDepth 100000
namespace Go.Proofs.Ytjmlfknogjaemaa
open Go Go.Proofs.Ytjmlfknogjaemaa.Vc
namespace PG
open Vc.PG
theorem powP (w : World) (t : Int) : Calls Try.prog 76 #[.int .i64 t] w fun e w' => e = .returned (.bool (powB t)) ∧ w' = w := by
  refine Calls.mono (f76.calls (R := fun v w' => v = .bool (powB t) ∧ w' = w) ?_) ?_
  · dsimp only [f76.VC]
    have no : (t < 2 ∨ 4096 < t) → powB t = false := by
      intro h
      cases hp : powB t with
      | false => rfl
      | true => have := powB_range hp; omega
    refine sel_of (fun h1 => sel_of (fun h2 => ?_) (fun h2 => ?_)) (fun h1 => ?_)
    · have h1 : 2 ≤ t := of_decide_eq_true h1
      have h2 : t ≤ 4096 := of_decide_eq_true h2
      have := pow_bits ⟨t.toNat, by omega⟩ (by show 2 ≤ t.toNat; omega)
      dsimp only at this
      rw [show ((t.toNat : Nat) : Int) = t by omega] at this
      rw [i64_id (by omega) (by omega), this]
      exact ⟨rfl, rfl⟩
    · have h2 : ¬ t ≤ 4096 := of_decide_eq_false h2
      rw [no (by omega)]; exact ⟨rfl, rfl⟩
    · have h1 : ¬ 2 ≤ t := of_decide_eq_false h1
      rw [no (by omega)]; exact ⟨rfl, rfl⟩
  · rintro e w' ⟨v, rfl, rfl, h⟩; exact ⟨rfl, h⟩
end PG
end Go.Proofs.Ytjmlfknogjaemaa
/- A contract told of one piece of memory, used among others. -/
set_option linter.unusedVariables false
set_option linter.unusedSimpArgs false
namespace Go.Proofs.Ytjmlfknogjaemaa.Vc
open Go
/-- What a contract tells of one piece's blocks, within a larger whole: new pieces come in front. -/
theorem St.graft {S : List Nat} {w0 w : World} {K : List Chunk} (h : St S w0 w K) (i : Nat) {c : Chunk} (hi : K[i]? = some c) : ∃ F, c.holds w F ∧ ∀ {w' : World} {c' : Chunk} {M : List Chunk}, St F w w' (c' :: M) → St S w0 w' (M ++ K.set i c') := by
  obtain ⟨h1, Fs, h2, h3⟩ := h
  have hil : i < K.length := by
    rcases Nat.lt_or_ge i K.length with h | h
    · exact h
    · rw [List.getElem?_eq_none h] at hi; cases hi
  have hlt : ∀ j, j < K.length → ∀ x ∈ Fs j, x < w.heap.size := by
    intro j hj x hx
    exact (K[j]).lt (h2 j K[j] (List.getElem?_eq_getElem hj)).1 x hx
  refine ⟨Fs i, (h2 i c hi).1, ?_⟩
  rintro w' c' M ⟨g1, Gs, g2, g3⟩
  have hS : ∀ x, (x ∈ Fs i ∨ w.heap.size ≤ x) → x ∈ S ∨ w0.heap.size ≤ x := by
    intro x hx
    rcases hx with hx | hx
    · exact (h2 i c hi).2 x hx
    · exact .inr (Nat.le_trans h1.1 hx)
  have hG : ∀ q, q < (c' :: M).length → ∀ x ∈ Gs q, x ∈ Fs i ∨ w.heap.size ≤ x := by
    intro q hq x hx
    exact (g2 q _ (List.getElem?_eq_getElem hq)).2 x hx
  refine ⟨h1.trans' g1 (fun x hx hl => (hS x (.inl hx)).resolve_right (by omega)), fun j => if j < M.length then Gs (j + 1) else if j - M.length = i then Gs 0 else Fs (j - M.length), ?_, ?_⟩
  · intro j d hd
    dsimp only
    by_cases hj : j < M.length
    · rw [if_pos hj]
      rw [List.getElem?_append_left hj] at hd
      have := g2 (j + 1) d (by simpa using hd)
      exact ⟨this.1, fun x hx => hS x (this.2 x hx)⟩
    · rw [if_neg hj]
      rw [List.getElem?_append_right (by omega)] at hd
      by_cases hq : j - M.length = i
      · rw [if_pos hq]
        rw [hq, List.getElem?_set_self hil] at hd
        injection hd with hd
        subst hd
        have := g2 0 c' rfl
        exact ⟨this.1, fun x hx => hS x (this.2 x hx)⟩
      · rw [if_neg hq]
        rw [List.getElem?_set_ne (Ne.symm hq)] at hd
        have hql : j - M.length < K.length := (List.getElem?_eq_some_iff.1 hd).1
        exact ⟨d.fr (h2 _ d hd).1 g1 (fun x hx hx2 => h3 _ i hql hil hq x hx hx2), (h2 _ d hd).2⟩
  · have out : ∀ p q, p < (c' :: M).length → q < K.length → q ≠ i → ∀ x ∈ Gs p, x ∉ Fs q := by
      intro p q hp hq hqi x hx hx2
      rcases hG p hp x hx with h | h
      · exact h3 q i hq hil hqi x hx2 h
      · have := hlt q hq x hx2; omega
    intro j k hj hk hjk x hx hx2
    dsimp only at hx hx2
    simp only [List.length_append, List.length_set] at hj hk
    by_cases ej : j < M.length
    · rw [if_pos ej] at hx
      by_cases ek : k < M.length
      · rw [if_pos ek] at hx2
        exact g3 (j + 1) (k + 1) (by simp; omega) (by simp; omega) (by omega) x hx hx2
      · rw [if_neg ek] at hx2
        by_cases eq : k - M.length = i
        · rw [if_pos eq] at hx2
          exact g3 (j + 1) 0 (by simp; omega) (by simp) (by omega) x hx hx2
        · rw [if_neg eq] at hx2
          exact out (j + 1) _ (by simp; omega) (by omega) eq x hx hx2
    · rw [if_neg ej] at hx
      by_cases ek : k < M.length
      · rw [if_pos ek] at hx2
        by_cases eq : j - M.length = i
        · rw [if_pos eq] at hx
          exact g3 0 (k + 1) (by simp) (by simp; omega) (by omega) x hx hx2
        · rw [if_neg eq] at hx
          exact out (k + 1) _ (by simp; omega) (by omega) eq x hx2 hx
      · rw [if_neg ek] at hx2
        by_cases eq : j - M.length = i
        · rw [if_pos eq] at hx
          by_cases eq2 : k - M.length = i
          · omega
          · rw [if_neg eq2] at hx2
            exact out 0 _ (by simp) (by omega) eq2 x hx hx2
        · rw [if_neg eq] at hx
          by_cases eq2 : k - M.length = i
          · rw [if_pos eq2] at hx2
            exact out 0 _ (by simp) (by omega) eq x hx2 hx
          · rw [if_neg eq2] at hx2
            exact h3 _ _ (by omega) (by omega) (by omega) x hx hx2
/-- .. where the piece alone is left. -/
theorem St.use {S : List Nat} {w0 w : World} {K : List Chunk} {P : Program} {f : FuncId} {args : Array Value} {Q : Ending → Prop} {c c' : Chunk} (h : St S w0 w K) (i : Nat) (hi : K[i]? = some c)
    (hc : ∀ F, St F w w [c] → Calls P f args w fun e w' => Q e ∧ St F w w' [c']) : Calls P f args w fun e w' => Q e ∧ St S w0 w' (K.set i c') := by
  obtain ⟨F, hF, hg⟩ := h.graft i hi
  refine (hc F (St.start1 hF)).mono fun e w' ⟨h1, h2⟩ => ⟨h1, ?_⟩
  simpa using hg (M := []) h2
/-- New pieces, made by work that touched nothing. -/
theorem St.gone {S : List Nat} {w0 w w' : World} {L M : List Chunk} (h : St S w0 w L) (g : St [] w w' M) : St S w0 w' (M ++ L) := by
  obtain ⟨h1, Fs, h2, h3⟩ := h
  obtain ⟨g1, Gs, g2, g3⟩ := g
  have hlt : ∀ j, j < L.length → ∀ x ∈ Fs j, x < w.heap.size := by
    intro j hj x hx
    exact (L[j]).lt (h2 j L[j] (List.getElem?_eq_getElem hj)).1 x hx
  have hge : ∀ q, q < M.length → ∀ x ∈ Gs q, w.heap.size ≤ x := by
    intro q hq x hx
    exact ((g2 q _ (List.getElem?_eq_getElem hq)).2 x hx).resolve_left (by simp)
  refine ⟨h1.trans' g1 (by simp), fun j => if j < M.length then Gs j else Fs (j - M.length), ?_, ?_⟩
  · intro j d hd
    dsimp only
    by_cases hj : j < M.length
    · rw [if_pos hj]
      rw [List.getElem?_append_left hj] at hd
      have := g2 j d hd
      exact ⟨this.1, fun x hx => .inr (Nat.le_trans h1.1 (hge j hj x hx))⟩
    · rw [if_neg hj]
      rw [List.getElem?_append_right (by omega)] at hd
      exact ⟨d.fr (h2 _ d hd).1 g1 (by simp), (h2 _ d hd).2⟩
  · intro j k hj hk hjk x hx hx2
    dsimp only at hx hx2
    simp only [List.length_append] at hj hk
    by_cases ej : j < M.length
    · rw [if_pos ej] at hx
      by_cases ek : k < M.length
      · rw [if_pos ek] at hx2
        exact g3 j k ej ek hjk x hx hx2
      · rw [if_neg ek] at hx2
        have := hge j ej x hx
        have := hlt _ (by omega) x hx2
        omega
    · rw [if_neg ej] at hx
      by_cases ek : k < M.length
      · rw [if_pos ek] at hx2
        have := hge k ek x hx2
        have := hlt _ (by omega) x hx
        omega
      · rw [if_neg ek] at hx2
        exact h3 _ _ (by omega) (by omega) (by omega) x hx hx2
end Go.Proofs.Ytjmlfknogjaemaa.Vc
