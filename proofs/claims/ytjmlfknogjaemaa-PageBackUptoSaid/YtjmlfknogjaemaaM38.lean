/- The plain statements of some functions, printed by vcgen.py. -/
import Derived.Test.YtjmlfknogjaemaaM4
import Derived.Test.YtjmlfknogjaemaaProg
import Derived.KernelRfl
set_option maxRecDepth 100000
set_option linter.unusedVariables false
namespace Go.Proofs.Ytjmlfknogjaemaa
open Go Go.Proofs.Ytjmlfknogjaemaa.Vc
theorem W20.mixed : Try.prog.follows .mixedOrders = true := by kernel_rfl
/-- gatehouse/gatehouseref12.seats -/
def f60.AL : Nat → Option Ann := fun r => match r with | 3 => some ⟨[(5, .slice), (6, .int .i64)], [0, 1]⟩ | 10 => some ⟨[(9, .slice), (10, .int .i64)], [0, 1, 5, 6, 8]⟩ | 16 => some ⟨[(9, .slice), (11, .int .i64)], [0, 1, 5, 6, 8]⟩ | _ => none
def f60.AC : Nat → Option Ann := fun _ => none
def f60.VC (Aa0 : Option Addr) (na0 ca0 : Nat) (xa1 : Int) (w : World) (R : Value → World → Prop) : Prop :=
  ∃ I : Option Addr → Nat → Nat → Int → World → Nat → Prop,
  (∃ n, I none 0 0 0 w n) ∧
  ∀ d : Env, ∀ (A5 : Option Addr) (n5 c5 : Nat) (x6 : Int) (w_1 : World) (r : Nat), I A5 n5 c5 x6 w_1 r →
  (0 : Int) ≤ 1 ∧ 1 < (na0 : Int) ∧
  needPtr Aa0 fun b14 o14 =>
  ∃ (x15 : Int),
  w_1.cell? ⟨b14, o14 + 1, none⟩ = some (.int .i64 x15) ∧
  sel (decide ((x6 : Int) < (x15 : Int))) (
  let i21 : Int := IntKind.i64.wrap (2 * x6);
  let i22 : Int := IntKind.i64.wrap (4 + i21);
  (0 : Int) ≤ i22 ∧ i22 < (na0 : Int) ∧
  needPtr Aa0 fun b23 o23 =>
  ∃ (x24 : Int),
  w_1.cell? ⟨b23, o23 + i22.toNat * 1, none⟩ = some (.int .i64 x24) ∧
  sel (decide ((x24 : Int) ≤ (0 : Int))) (
  let i18 : Int := IntKind.i64.wrap (x6 + 1);
  ([.slice Aa0 na0 ca0, .int .i64 xa1] : List Value) = ([.slice Aa0 na0 ca0, .int .i64 xa1] : List Value) ∧ ∃ m, m < r ∧ I A5 n5 c5 i18 w_1 m) (
  4 ≠ (0 : Int) ∧
  let i29 : Int := Int.tmod x24 4;
  sel ((i29 : Int) != (xa1 : Int)) (
  let i18_1 : Int := IntKind.i64.wrap (x6 + 1);
  ([.slice Aa0 na0 ca0, .int .i64 xa1] : List Value) = ([.slice Aa0 na0 ca0, .int .i64 xa1] : List Value) ∧ ∃ m, m < r ∧ I A5 n5 c5 i18_1 w_1 m) (
  4 ≠ (0 : Int) ∧
  let i34 : Int := IntKind.i64.wrap (Int.tdiv x24 4);
  let i37 : Int := IntKind.i64.wrap (2 * x6);
  let i38 : Int := IntKind.i64.wrap (5 + i37);
  (0 : Int) ≤ i38 ∧ i38 < (na0 : Int) ∧
  needPtr Aa0 fun b39 o39 =>
  ∃ (x40 : Int),
  w_1.cell? ⟨b39, o39 + i38.toNat * 1, none⟩ = some (.int .i64 x40) ∧
  let w_2 : World := World.alloc w_1 (.cells #[.int .i64 0, .int .i64 0] 104);
  canStore w_2 w_1.heap.size 0 2 ∧
  let w_3 : World := setCs w_2 w_1.heap.size 0 [.int .i64 i34, .int .i64 x40];
  ∃ I_1 : Option Addr → Nat → Nat → Int → World → Nat → Prop,
  (∃ n, I_1 none 0 0 0 w_3 n) ∧
  ∀ d_1 : Env, ∀ (A9 : Option Addr) (n9 c9 : Nat) (x10 : Int) (w_4 : World) (r_1 : Nat), I_1 A9 n9 c9 x10 w_4 r_1 →
  sel (decide ((x10 : Int) < ((n5 : Int) : Int))) (
  (0 : Int) ≤ x10 ∧ x10 < (n5 : Int) ∧
  needPtr A5 fun b50 o50 =>
  ∃ (x52 : Int),
  w_4.cell? ⟨b50, o50 + x10.toNat * 2, none⟩ = some (.int .i64 x52) ∧
  ∃ (x54 : Int),
  w_4.cell? ⟨w_1.heap.size, 0, none⟩ = some (.int .i64 x54) ∧
  sel (decide ((x52 : Int) < (x54 : Int))) (
  (0 : Int) ≤ x10 ∧ x10 < (n5 : Int) ∧
  needPtr A5 fun b59 o59 =>
  ∃ (x60_0 : Int),
  w_4.cell? ⟨b59, o59 + x10.toNat * 2, none⟩ = some (.int .i64 x60_0) ∧
  ∃ (x60_1 : Int),
  w_4.cell? ⟨b59, o59 + x10.toNat * 2 + 1, none⟩ = some (.int .i64 x60_1) ∧
  let w_5 : World := World.alloc w_4.drew (.cells #[.int .i64 x60_0, .int .i64 x60_1] 104);
  ∃ (A62 : Option Addr) (n62 c62 : Nat),
  ∃ w_6 : World, (Builtin.append_ #[101, 101] 101 #[.slice A9 n9 c9, .slice (some ⟨w_4.heap.size, 0, none⟩) 1 1]).run Try.prog w_5 = .ok (.slice A62 n62 c62) w_6 ∧
  let i47 : Int := IntKind.i64.wrap (x10 + 1);
  ([.slice Aa0 na0 ca0, .int .i64 xa1, .slice A5 n5 c5, .int .i64 x6, .pointer (some ⟨w_1.heap.size, 0, none⟩)] : List Value) = ([.slice Aa0 na0 ca0, .int .i64 xa1, .slice A5 n5 c5, .int .i64 x6, .pointer (some ⟨w_1.heap.size, 0, none⟩)] : List Value) ∧ ∃ m, m < r_1 ∧ I_1 A62 n62 c62 i47 w_6 m) (
  let i47_1 : Int := IntKind.i64.wrap (x10 + 1);
  ([.slice Aa0 na0 ca0, .int .i64 xa1, .slice A5 n5 c5, .int .i64 x6, .pointer (some ⟨w_1.heap.size, 0, none⟩)] : List Value) = ([.slice Aa0 na0 ca0, .int .i64 xa1, .slice A5 n5 c5, .int .i64 x6, .pointer (some ⟨w_1.heap.size, 0, none⟩)] : List Value) ∧ ∃ m, m < r_1 ∧ I_1 A9 n9 c9 i47_1 w_4.drew m)) (
  ∃ (x64_0 : Int),
  w_4.cell? ⟨w_1.heap.size, 0, none⟩ = some (.int .i64 x64_0) ∧
  ∃ (x64_1 : Int),
  w_4.cell? ⟨w_1.heap.size, 1, none⟩ = some (.int .i64 x64_1) ∧
  let w_7 : World := World.alloc w_4 (.cells #[.int .i64 x64_0, .int .i64 x64_1] 104);
  ∃ (A66 : Option Addr) (n66 c66 : Nat),
  ∃ w_8 : World, (Builtin.append_ #[101, 101] 101 #[.slice A9 n9 c9, .slice (some ⟨w_4.heap.size, 0, none⟩) 1 1]).run Try.prog w_7 = .ok (.slice A66 n66 c66) w_8 ∧
  ∃ I_2 : Option Addr → Nat → Nat → Int → World → Nat → Prop,
  (∃ n, I_2 A66 n66 c66 0 w_8 n) ∧
  ∀ d_2 : Env, ∀ (A9_1 : Option Addr) (n9_1 c9_1 : Nat) (x11 : Int) (w_9 : World) (r_2 : Nat), I_2 A9_1 n9_1 c9_1 x11 w_9 r_2 →
  sel (decide ((x11 : Int) < ((n5 : Int) : Int))) (
  (0 : Int) ≤ x11 ∧ x11 < (n5 : Int) ∧
  needPtr A5 fun b75 o75 =>
  ∃ (x77 : Int),
  w_9.cell? ⟨b75, o75 + x11.toNat * 2, none⟩ = some (.int .i64 x77) ∧
  ∃ (x79 : Int),
  w_9.cell? ⟨w_1.heap.size, 0, none⟩ = some (.int .i64 x79) ∧
  sel (decide ((x79 : Int) ≤ (x77 : Int))) (
  (0 : Int) ≤ x11 ∧ x11 < (n5 : Int) ∧
  needPtr A5 fun b84 o84 =>
  ∃ (x85_0 : Int),
  w_9.cell? ⟨b84, o84 + x11.toNat * 2, none⟩ = some (.int .i64 x85_0) ∧
  ∃ (x85_1 : Int),
  w_9.cell? ⟨b84, o84 + x11.toNat * 2 + 1, none⟩ = some (.int .i64 x85_1) ∧
  let w_10 : World := World.alloc w_9.drew (.cells #[.int .i64 x85_0, .int .i64 x85_1] 104);
  ∃ (A87 : Option Addr) (n87 c87 : Nat),
  ∃ w_11 : World, (Builtin.append_ #[101, 101] 101 #[.slice A9_1 n9_1 c9_1, .slice (some ⟨w_9.heap.size, 0, none⟩) 1 1]).run Try.prog w_10 = .ok (.slice A87 n87 c87) w_11 ∧
  let i72 : Int := IntKind.i64.wrap (x11 + 1);
  ([.slice Aa0 na0 ca0, .int .i64 xa1, .slice A5 n5 c5, .int .i64 x6, .pointer (some ⟨w_1.heap.size, 0, none⟩)] : List Value) = ([.slice Aa0 na0 ca0, .int .i64 xa1, .slice A5 n5 c5, .int .i64 x6, .pointer (some ⟨w_1.heap.size, 0, none⟩)] : List Value) ∧ ∃ m, m < r_2 ∧ I_2 A87 n87 c87 i72 w_11 m) (
  let i72_1 : Int := IntKind.i64.wrap (x11 + 1);
  ([.slice Aa0 na0 ca0, .int .i64 xa1, .slice A5 n5 c5, .int .i64 x6, .pointer (some ⟨w_1.heap.size, 0, none⟩)] : List Value) = ([.slice Aa0 na0 ca0, .int .i64 xa1, .slice A5 n5 c5, .int .i64 x6, .pointer (some ⟨w_1.heap.size, 0, none⟩)] : List Value) ∧ ∃ m, m < r_2 ∧ I_2 A9_1 n9_1 c9_1 i72_1 w_9.drew m)) (
  let i18_2 : Int := IntKind.i64.wrap (x6 + 1);
  ([.slice Aa0 na0 ca0, .int .i64 xa1] : List Value) = ([.slice Aa0 na0 ca0, .int .i64 xa1] : List Value) ∧ ∃ m, m < r ∧ I A9_1 n9_1 c9_1 i18_2 w_9 m))))) (
  R (.slice A5 n5 c5) w_1)
theorem f60.eq (Aa0 : Option Addr) (na0 ca0 : Nat) (xa1 : Int) (w : World) (R : Value → World → Prop) : f60.VC Aa0 na0 ca0 xa1 w R = funV Try.prog Try.f60 f60.AL f60.AC #[.slice Aa0 na0 ca0, .int .i64 xa1] w R := by kernel_rfl
theorem f60.calls {Aa0 : Option Addr} {na0 ca0 : Nat} {xa1 : Int} {w : World} {R : Value → World → Prop} (h : f60.VC Aa0 na0 ca0 xa1 w R) : Calls Try.prog 60 #[.slice Aa0 na0 ca0, .int .i64 xa1] w fun e w' => ∃ v, e = .returned v ∧ R v w' :=
  funV_sound (fn := Try.f60) (AL := f60.AL) (AC := f60.AC) W20.mixed (by kernel_rfl) (by rw [← f60.eq Aa0 na0 ca0 xa1]; exact h)

/-- gatehouse/gatehouseref12.named -/
def f62.AL : Nat → Option Ann := fun r => match r with | 5 => some ⟨[(7, .slice), (8, .slice), (9, .slice), (10, .int .i64)], [0, 1]⟩ | 11 => some ⟨[(13, .int .i64), (14, .int .i64)], [0, 1, 7, 8, 9, 10]⟩ | _ => none
def f62.AC : Nat → Option Ann := fun _ => none
def f62.VC (Aa0 : Option Addr) (na0 ca0 : Nat) (a1 : Nat) (w : World) (R : Value → World → Prop) : Prop :=
  ∃ I : Option Addr → Nat → Nat → Option Addr → Nat → Nat → Option Addr → Nat → Nat → Int → World → Nat → Prop,
  (∃ n, I none 0 0 none 0 0 none 0 0 0 w n) ∧
  ∀ d : Env, ∀ (A7 : Option Addr) (n7 c7 : Nat) (A8 : Option Addr) (n8 c8 : Nat) (A9 : Option Addr) (n9 c9 : Nat) (x10 : Int) (w_1 : World) (r : Nat), I A7 n7 c7 A8 n8 c8 A9 n9 c9 x10 w_1 r →
  sel (decide ((x10 : Int) < ((na0 : Int) : Int))) (
  (0 : Int) ≤ x10 ∧ x10 < (na0 : Int) ∧
  needPtr Aa0 fun b25 o25 =>
  ∃ (x27 : Int),
  w_1.cell? ⟨b25, o25 + x10.toNat * 2, none⟩ = some (.int .i64 x27) ∧
  Calls Try.prog 61 #[.pointer (some ⟨a1, 0, none⟩), .int .i64 x27] w_1 fun e_1 w_2 =>
  ∃ (s28_0 : ByteArray) (b28_1 : Bool),
  e_1 = .returned (.tuple #[.string s28_0, .bool b28_1]) ∧
  let w_3 : World := World.alloc w_2 (.cells #[.string s28_0] 9);
  ∃ (A34 : Option Addr) (n34 c34 : Nat),
  ∃ w_4 : World, (Builtin.append_ #[25, 25] 25 #[.slice A7 n7 c7, .slice (some ⟨w_2.heap.size, 0, none⟩) 1 1]).run Try.prog w_3 = .ok (.slice A34 n34 c34) w_4 ∧
  ∃ I_1 : Int → Int → World → Nat → Prop,
  (∃ n, I_1 0 0 w_4 n) ∧
  ∀ d_1 : Env, ∀ (x13 : Int) (x14 : Int) (w_5 : World) (r_1 : Nat), I_1 x13 x14 w_5 r_1 →
  sel (decide ((x14 : Int) < ((n9 : Int) : Int))) (
  (0 : Int) ≤ x14 ∧ x14 < (n9 : Int) ∧
  needPtr A9 fun b43 o43 =>
  (0 : Int) ≤ x10 ∧ x10 < (na0 : Int) ∧
  needPtr Aa0 fun b47 o47 =>
  ∃ (x44 : Int),
  w_5.cell? ⟨b43, o43 + x14.toNat * 1, none⟩ = some (.int .i64 x44) ∧
  ∃ (x49 : Int),
  w_5.cell? ⟨b47, o47 + x10.toNat * 2 + 1, none⟩ = some (.int .i64 x49) ∧
  sel ((x44 : Int) == (x49 : Int)) (
  let i52 : Int := IntKind.i64.wrap (x14 + 1);
  let i40 : Int := IntKind.i64.wrap (x14 + 1);
  ([.slice Aa0 na0 ca0, .pointer (some ⟨a1, 0, none⟩), .slice A34 n34 c34, .slice A8 n8 c8, .slice A9 n9 c9, .int .i64 x10] : List Value) = ([.slice Aa0 na0 ca0, .pointer (some ⟨a1, 0, none⟩), .slice A34 n34 c34, .slice A8 n8 c8, .slice A9 n9 c9, .int .i64 x10] : List Value) ∧ ∃ m, m < r_1 ∧ I_1 i52 i40 w_5.drew m) (
  let i40_1 : Int := IntKind.i64.wrap (x14 + 1);
  ([.slice Aa0 na0 ca0, .pointer (some ⟨a1, 0, none⟩), .slice A34 n34 c34, .slice A8 n8 c8, .slice A9 n9 c9, .int .i64 x10] : List Value) = ([.slice Aa0 na0 ca0, .pointer (some ⟨a1, 0, none⟩), .slice A34 n34 c34, .slice A8 n8 c8, .slice A9 n9 c9, .int .i64 x10] : List Value) ∧ ∃ m, m < r_1 ∧ I_1 x13 i40_1 w_5.drew m)) (
  sel ((x13 : Int) == (0 : Int)) (
  (0 : Int) ≤ x10 ∧ x10 < (na0 : Int) ∧
  needPtr Aa0 fun b58 o58 =>
  ∃ (x60 : Int),
  w_5.cell? ⟨b58, o58 + x10.toNat * 2 + 1, none⟩ = some (.int .i64 x60) ∧
  let w_6 : World := World.alloc w_5 (.cells #[.int .i64 x60] 3);
  ∃ (A62 : Option Addr) (n62 c62 : Nat),
  ∃ w_7 : World, (Builtin.append_ #[26, 26] 26 #[.slice A9 n9 c9, .slice (some ⟨w_5.heap.size, 0, none⟩) 1 1]).run Try.prog w_6 = .ok (.slice A62 n62 c62) w_7 ∧
  let w_8 : World := World.alloc w_7 (.cells #[.int .i64 (n62 : Int)] 3);
  ∃ (A68 : Option Addr) (n68 c68 : Nat),
  ∃ w_9 : World, (Builtin.append_ #[26, 26] 26 #[.slice A8 n8 c8, .slice (some ⟨w_7.heap.size, 0, none⟩) 1 1]).run Try.prog w_8 = .ok (.slice A68 n68 c68) w_9 ∧
  let i20 : Int := IntKind.i64.wrap (x10 + 1);
  ([.slice Aa0 na0 ca0, .pointer (some ⟨a1, 0, none⟩)] : List Value) = ([.slice Aa0 na0 ca0, .pointer (some ⟨a1, 0, none⟩)] : List Value) ∧ ∃ m, m < r ∧ I A34 n34 c34 A68 n68 c68 A62 n62 c62 i20 w_9 m) (
  let w_10 : World := World.alloc w_5 (.cells #[.int .i64 x13] 3);
  ∃ (A68_1 : Option Addr) (n68_1 c68_1 : Nat),
  ∃ w_11 : World, (Builtin.append_ #[26, 26] 26 #[.slice A8 n8 c8, .slice (some ⟨w_5.heap.size, 0, none⟩) 1 1]).run Try.prog w_10 = .ok (.slice A68_1 n68_1 c68_1) w_11 ∧
  let i20_1 : Int := IntKind.i64.wrap (x10 + 1);
  ([.slice Aa0 na0 ca0, .pointer (some ⟨a1, 0, none⟩)] : List Value) = ([.slice Aa0 na0 ca0, .pointer (some ⟨a1, 0, none⟩)] : List Value) ∧ ∃ m, m < r ∧ I A34 n34 c34 A68_1 n68_1 c68_1 A9 n9 c9 i20_1 w_11 m))) (
  R (.tuple #[.slice A7 n7 c7, .slice A8 n8 c8, .slice A9 n9 c9]) w_1)
theorem f62.eq (Aa0 : Option Addr) (na0 ca0 : Nat) (a1 : Nat) (w : World) (R : Value → World → Prop) : f62.VC Aa0 na0 ca0 a1 w R = funV Try.prog Try.f62 f62.AL f62.AC #[.slice Aa0 na0 ca0, .pointer (some ⟨a1, 0, none⟩)] w R := by kernel_rfl
theorem f62.calls {Aa0 : Option Addr} {na0 ca0 : Nat} {a1 : Nat} {w : World} {R : Value → World → Prop} (h : f62.VC Aa0 na0 ca0 a1 w R) : Calls Try.prog 62 #[.slice Aa0 na0 ca0, .pointer (some ⟨a1, 0, none⟩)] w fun e w' => ∃ v, e = .returned v ∧ R v w' :=
  funV_sound (fn := Try.f62) (AL := f62.AL) (AC := f62.AC) W20.mixed (by kernel_rfl) (by rw [← f62.eq Aa0 na0 ca0 a1]; exact h)

/-- gatehouse/gatehouseref12.mask -/
def f63.AL : Nat → Option Ann := fun _ => none
def f63.AC : Nat → Option Ann := fun _ => none
def f63.VC (Aa0 : Option Addr) (na0 ca0 : Nat) (xa1 : Int) (xa2 : Int) (w : World) (R : Value → World → Prop) : Prop :=
  (0 : Int) ≤ 1 ∧ 1 < (na0 : Int) ∧
  needPtr Aa0 fun b9 o9 =>
  let i14 : Int := IntKind.i64.wrap (xa1 - 1);
  (0 : Int) ≤ 3 ∧ 3 < (na0 : Int) ∧
  needPtr Aa0 fun b16 o16 =>
  let i21 : Int := IntKind.i64.wrap (xa2 - 1);
  ∃ (x10 : Int),
  w.cell? ⟨b9, o9 + 1, none⟩ = some (.int .i64 x10) ∧
  let i11 : Int := IntKind.i64.wrap (2 * x10);
  let i12 : Int := IntKind.i64.wrap (4 + i11);
  ∃ (x17 : Int),
  w.cell? ⟨b16, o16 + 3, none⟩ = some (.int .i64 x17) ∧
  let i18 : Int := IntKind.i64.wrap (i14 * x17);
  let i19 : Int := IntKind.i64.wrap (i12 + i18);
  let i22 : Int := IntKind.i64.wrap (i19 + i21);
  (0 : Int) ≤ i22 ∧ i22 < (na0 : Int) ∧
  needPtr Aa0 fun b23 o23 =>
  ∃ (x24 : Int),
  w.cell? ⟨b23, o23 + i22.toNat * 1, none⟩ = some (.int .i64 x24) ∧
  R (.int .i64 x24) w.drew
theorem f63.eq (Aa0 : Option Addr) (na0 ca0 : Nat) (xa1 : Int) (xa2 : Int) (w : World) (R : Value → World → Prop) : f63.VC Aa0 na0 ca0 xa1 xa2 w R = funV Try.prog Try.f63 f63.AL f63.AC #[.slice Aa0 na0 ca0, .int .i64 xa1, .int .i64 xa2] w R := by kernel_rfl
theorem f63.calls {Aa0 : Option Addr} {na0 ca0 : Nat} {xa1 : Int} {xa2 : Int} {w : World} {R : Value → World → Prop} (h : f63.VC Aa0 na0 ca0 xa1 xa2 w R) : Calls Try.prog 63 #[.slice Aa0 na0 ca0, .int .i64 xa1, .int .i64 xa2] w fun e w' => ∃ v, e = .returned v ∧ R v w' :=
  funV_sound (fn := Try.f63) (AL := f63.AL) (AC := f63.AC) W20.mixed (by kernel_rfl) (by rw [← f63.eq Aa0 na0 ca0 xa1 xa2]; exact h)

/-- gatehouse/gatehouseref12.seated -/
def f86.AL : Nat → Option Ann := fun r => match r with | 2 => some ⟨[(5, .int .i64)], [0, 1]⟩ | _ => none
def f86.AC : Nat → Option Ann := fun _ => none
def f86.VC (Aa0 : Option Addr) (na0 ca0 : Nat) (a1 : Nat) (w : World) (R : Value → World → Prop) : Prop :=
  ∃ I : Int → World → Nat → Prop,
  (∃ n, I 0 w n) ∧
  ∀ d : Env, ∀ (x5 : Int) (w_1 : World) (r : Nat), I x5 w_1 r →
  (0 : Int) ≤ 1 ∧ 1 < (na0 : Int) ∧
  needPtr Aa0 fun b14 o14 =>
  ∃ (x15 : Int),
  w_1.cell? ⟨b14, o14 + 1, none⟩ = some (.int .i64 x15) ∧
  sel (decide ((x5 : Int) < (x15 : Int))) (
  let i21 : Int := IntKind.i64.wrap (2 * x5);
  let i22 : Int := IntKind.i64.wrap (4 + i21);
  (0 : Int) ≤ i22 ∧ i22 < (na0 : Int) ∧
  needPtr Aa0 fun b23 o23 =>
  ∃ (x24 : Int),
  w_1.cell? ⟨b23, o23 + i22.toNat * 1, none⟩ = some (.int .i64 x24) ∧
  sel ((x24 : Int) == (0 : Int)) (
  let i30 : Int := IntKind.i64.wrap (2 * x5);
  let i31 : Int := IntKind.i64.wrap (5 + i30);
  (0 : Int) ≤ i31 ∧ i31 < (na0 : Int) ∧
  needPtr Aa0 fun b32 o32 =>
  ∃ (x33 : Int),
  w_1.cell? ⟨b32, o32 + i31.toNat * 1, none⟩ = some (.int .i64 x33) ∧
  sel ((x33 : Int) == (0 : Int)) (
  let i18 : Int := IntKind.i64.wrap (x5 + 1);
  ([.slice Aa0 na0 ca0, .pointer (some ⟨a1, 0, none⟩)] : List Value) = ([.slice Aa0 na0 ca0, .pointer (some ⟨a1, 0, none⟩)] : List Value) ∧ ∃ m, m < r ∧ I i18 w_1 m) (
  sel (decide ((x24 : Int) < (0 : Int))) (
  R (.bool false) w_1) (
  4 ≠ (0 : Int) ∧
  let i40 : Int := Int.tmod x24 4;
  sel ((i40 : Int) == (0 : Int)) (
  R (.bool false) w_1) (
  4 ≠ (0 : Int) ∧
  let i46 : Int := IntKind.i64.wrap (Int.tdiv x24 4);
  Calls Try.prog 61 #[.pointer (some ⟨a1, 0, none⟩), .int .i64 i46] w_1 fun e_1 w_2 =>
  ∃ (s47_0 : ByteArray) (b47_1 : Bool),
  e_1 = .returned (.tuple #[.string s47_0, .bool b47_1]) ∧
  4 ≠ (0 : Int) ∧
  let i53 : Int := IntKind.i64.wrap (Int.tdiv x24 4);
  4 ≠ (0 : Int) ∧
  let i55 : Int := Int.tmod x24 4;
  let i56 : Int := IntKind.i8.wrap i55;
  Calls Try.prog 58 #[.slice Aa0 na0 ca0, .int .i64 i53, .int .i8 i56] w_2 fun e_2 w_3 =>
  ∃ (x57_0 : Int) (x57_1 : Int),
  e_2 = .returned (.tuple #[.int .i64 x57_0, .int .i64 x57_1]) ∧
  (0 : Int) ≤ 1 ∧ 1 < (na0 : Int) ∧
  needPtr Aa0 fun b62 o62 =>
  (0 : Int) ≤ 1 ∧ 1 < (na0 : Int) ∧
  needPtr Aa0 fun b69 o69 =>
  ∃ (x63 : Int),
  w_3.cell? ⟨b62, o62 + 1, none⟩ = some (.int .i64 x63) ∧
  (Calls Try.prog 12 #[.int .i64 x24, .int .i64 x63] w_3.drew fun e_3 w_4 =>
  ∃ (x64 : Int),
  e_3 = .returned (.int .i64 x64) ∧
  let i66 : Int := IntKind.i64.wrap (x64 + x57_1);
  let i67 : Int := IntKind.i64.wrap (i66 - 1);
  ∃ (x70 : Int),
  w_4.cell? ⟨b69, o69 + 1, none⟩ = some (.int .i64 x70) ∧
  x70 ≠ (0 : Int) ∧
  let i71 : Int := Int.tmod i67 x70;
  sel (!b47_1) (
  R (.bool false) w_4) (
  sel ((i71 : Int) != (x5 : Int)) (
  R (.bool false) w_4) (
  let i18_1 : Int := IntKind.i64.wrap (x5 + 1);
  ([.slice Aa0 na0 ca0, .pointer (some ⟨a1, 0, none⟩)] : List Value) = ([.slice Aa0 na0 ca0, .pointer (some ⟨a1, 0, none⟩)] : List Value) ∧ ∃ m, m < r ∧ I i18_1 w_4 m))) ∧
  (∃ (x70_1 : Int),
  w_3.cell? ⟨b69, o69 + 1, none⟩ = some (.int .i64 x70_1) ∧
  Calls Try.prog 12 #[.int .i64 x24, .int .i64 x63] w_3.drew fun e_4 w_5 =>
  ∃ (x64_1 : Int),
  e_4 = .returned (.int .i64 x64_1) ∧
  let i66_1 : Int := IntKind.i64.wrap (x64_1 + x57_1);
  let i67_1 : Int := IntKind.i64.wrap (i66_1 - 1);
  x70_1 ≠ (0 : Int) ∧
  let i71_1 : Int := Int.tmod i67_1 x70_1;
  sel (!b47_1) (
  R (.bool false) w_5) (
  sel ((i71_1 : Int) != (x5 : Int)) (
  R (.bool false) w_5) (
  let i18_2 : Int := IntKind.i64.wrap (x5 + 1);
  ([.slice Aa0 na0 ca0, .pointer (some ⟨a1, 0, none⟩)] : List Value) = ([.slice Aa0 na0 ca0, .pointer (some ⟨a1, 0, none⟩)] : List Value) ∧ ∃ m, m < r ∧ I i18_2 w_5 m))) ∧ True)))) (
  sel (decide ((x24 : Int) < (0 : Int))) (
  R (.bool false) w_1) (
  4 ≠ (0 : Int) ∧
  let i40_1 : Int := Int.tmod x24 4;
  sel ((i40_1 : Int) == (0 : Int)) (
  R (.bool false) w_1) (
  4 ≠ (0 : Int) ∧
  let i46_1 : Int := IntKind.i64.wrap (Int.tdiv x24 4);
  Calls Try.prog 61 #[.pointer (some ⟨a1, 0, none⟩), .int .i64 i46_1] w_1 fun e_5 w_6 =>
  ∃ (s47_0_1 : ByteArray) (b47_1_1 : Bool),
  e_5 = .returned (.tuple #[.string s47_0_1, .bool b47_1_1]) ∧
  4 ≠ (0 : Int) ∧
  let i53_1 : Int := IntKind.i64.wrap (Int.tdiv x24 4);
  4 ≠ (0 : Int) ∧
  let i55_1 : Int := Int.tmod x24 4;
  let i56_1 : Int := IntKind.i8.wrap i55_1;
  Calls Try.prog 58 #[.slice Aa0 na0 ca0, .int .i64 i53_1, .int .i8 i56_1] w_6 fun e_6 w_7 =>
  ∃ (x57_0_1 : Int) (x57_1_1 : Int),
  e_6 = .returned (.tuple #[.int .i64 x57_0_1, .int .i64 x57_1_1]) ∧
  (0 : Int) ≤ 1 ∧ 1 < (na0 : Int) ∧
  needPtr Aa0 fun b62_1 o62_1 =>
  (0 : Int) ≤ 1 ∧ 1 < (na0 : Int) ∧
  needPtr Aa0 fun b69_1 o69_1 =>
  ∃ (x63_1 : Int),
  w_7.cell? ⟨b62_1, o62_1 + 1, none⟩ = some (.int .i64 x63_1) ∧
  (Calls Try.prog 12 #[.int .i64 x24, .int .i64 x63_1] w_7.drew fun e_7 w_8 =>
  ∃ (x64_2 : Int),
  e_7 = .returned (.int .i64 x64_2) ∧
  let i66_2 : Int := IntKind.i64.wrap (x64_2 + x57_1_1);
  let i67_2 : Int := IntKind.i64.wrap (i66_2 - 1);
  ∃ (x70_2 : Int),
  w_8.cell? ⟨b69_1, o69_1 + 1, none⟩ = some (.int .i64 x70_2) ∧
  x70_2 ≠ (0 : Int) ∧
  let i71_2 : Int := Int.tmod i67_2 x70_2;
  sel (!b47_1_1) (
  R (.bool false) w_8) (
  sel ((i71_2 : Int) != (x5 : Int)) (
  R (.bool false) w_8) (
  let i18_3 : Int := IntKind.i64.wrap (x5 + 1);
  ([.slice Aa0 na0 ca0, .pointer (some ⟨a1, 0, none⟩)] : List Value) = ([.slice Aa0 na0 ca0, .pointer (some ⟨a1, 0, none⟩)] : List Value) ∧ ∃ m, m < r ∧ I i18_3 w_8 m))) ∧
  (∃ (x70_3 : Int),
  w_7.cell? ⟨b69_1, o69_1 + 1, none⟩ = some (.int .i64 x70_3) ∧
  Calls Try.prog 12 #[.int .i64 x24, .int .i64 x63_1] w_7.drew fun e_8 w_9 =>
  ∃ (x64_3 : Int),
  e_8 = .returned (.int .i64 x64_3) ∧
  let i66_3 : Int := IntKind.i64.wrap (x64_3 + x57_1_1);
  let i67_3 : Int := IntKind.i64.wrap (i66_3 - 1);
  x70_3 ≠ (0 : Int) ∧
  let i71_3 : Int := Int.tmod i67_3 x70_3;
  sel (!b47_1_1) (
  R (.bool false) w_9) (
  sel ((i71_3 : Int) != (x5 : Int)) (
  R (.bool false) w_9) (
  let i18_4 : Int := IntKind.i64.wrap (x5 + 1);
  ([.slice Aa0 na0 ca0, .pointer (some ⟨a1, 0, none⟩)] : List Value) = ([.slice Aa0 na0 ca0, .pointer (some ⟨a1, 0, none⟩)] : List Value) ∧ ∃ m, m < r ∧ I i18_4 w_9 m))) ∧ True)))) (
  R (.bool true) w_1)
theorem f86.eq (Aa0 : Option Addr) (na0 ca0 : Nat) (a1 : Nat) (w : World) (R : Value → World → Prop) : f86.VC Aa0 na0 ca0 a1 w R = funV Try.prog Try.f86 f86.AL f86.AC #[.slice Aa0 na0 ca0, .pointer (some ⟨a1, 0, none⟩)] w R := by kernel_rfl
theorem f86.calls {Aa0 : Option Addr} {na0 ca0 : Nat} {a1 : Nat} {w : World} {R : Value → World → Prop} (h : f86.VC Aa0 na0 ca0 a1 w R) : Calls Try.prog 86 #[.slice Aa0 na0 ca0, .pointer (some ⟨a1, 0, none⟩)] w fun e w' => ∃ v, e = .returned v ∧ R v w' :=
  funV_sound (fn := Try.f86) (AL := f86.AL) (AC := f86.AC) W20.mixed (by kernel_rfl) (by rw [← f86.eq Aa0 na0 ca0 a1]; exact h)

/-- gatehouse/gatehouseref12.spans -/
def f87.AL : Nat → Option Ann := fun r => match r with | 2 => some ⟨[(7, .int .i64)], [0, 1, 2]⟩ | 6 => some ⟨[(8, .int .i64), (9, .int .i64)], [0, 1, 2, 7]⟩ | 13 => some ⟨[(10, .int .i64)], [0, 1]⟩ | _ => none
def f87.AC : Nat → Option Ann := fun _ => none
def f87.VC (Aa0 : Option Addr) (na0 ca0 : Nat) (xa1 : Int) (ba2 : Bool) (w : World) (R : Value → World → Prop) : Prop :=
  ∃ I : Int → World → Nat → Prop,
  (∃ n, I 1 w n) ∧
  ∀ d : Env, ∀ (x7 : Int) (w_1 : World) (r : Nat), I x7 w_1 r →
  sel (decide ((x7 : Int) ≤ (xa1 : Int))) (
  ∃ I_1 : Int → Int → World → Nat → Prop,
  (∃ n, I_1 0 0 w_1 n) ∧
  ∀ d_1 : Env, ∀ (x8 : Int) (x9 : Int) (w_2 : World) (r_1 : Nat), I_1 x8 x9 w_2 r_1 →
  sel (decide ((x9 : Int) < ((na0 : Int) : Int))) (
  (0 : Int) ≤ x9 ∧ x9 < (na0 : Int) ∧
  needPtr Aa0 fun b24 o24 =>
  ∃ (x26 : Int),
  w_2.cell? ⟨b24, o24 + x9.toNat * 2 + 1, none⟩ = some (.int .i64 x26) ∧
  sel ((x26 : Int) == (x7 : Int)) (
  let i30 : Int := IntKind.i64.wrap (x8 + 1);
  let i21 : Int := IntKind.i64.wrap (x9 + 1);
  ([.slice Aa0 na0 ca0, .int .i64 xa1, .bool ba2, .int .i64 x7] : List Value) = ([.slice Aa0 na0 ca0, .int .i64 xa1, .bool ba2, .int .i64 x7] : List Value) ∧ ∃ m, m < r_1 ∧ I_1 i30 i21 w_2 m) (
  let i21_1 : Int := IntKind.i64.wrap (x9 + 1);
  ([.slice Aa0 na0 ca0, .int .i64 xa1, .bool ba2, .int .i64 x7] : List Value) = ([.slice Aa0 na0 ca0, .int .i64 xa1, .bool ba2, .int .i64 x7] : List Value) ∧ ∃ m, m < r_1 ∧ I_1 x8 i21_1 w_2 m)) (
  sel ((x8 : Int) == (0 : Int)) (
  R (.bool false) w_2) (
  sel ba2 (
  sel (decide ((1 : Int) < (x8 : Int))) (
  R (.bool false) w_2) (
  let i15 : Int := IntKind.i64.wrap (x7 + 1);
  ([.slice Aa0 na0 ca0, .int .i64 xa1, .bool ba2] : List Value) = ([.slice Aa0 na0 ca0, .int .i64 xa1, .bool ba2] : List Value) ∧ ∃ m, m < r ∧ I i15 w_2 m)) (
  let i15_1 : Int := IntKind.i64.wrap (x7 + 1);
  ([.slice Aa0 na0 ca0, .int .i64 xa1, .bool ba2] : List Value) = ([.slice Aa0 na0 ca0, .int .i64 xa1, .bool ba2] : List Value) ∧ ∃ m, m < r ∧ I i15_1 w_2 m)))) (
  ∃ I_2 : Int → World → Nat → Prop,
  (∃ n, I_2 0 w_1 n) ∧
  ∀ d_2 : Env, ∀ (x10 : Int) (w_3 : World) (r_2 : Nat), I_2 x10 w_3 r_2 →
  sel (decide ((x10 : Int) < ((na0 : Int) : Int))) (
  (0 : Int) ≤ x10 ∧ x10 < (na0 : Int) ∧
  needPtr Aa0 fun b48 o48 =>
  ∃ (x50 : Int),
  w_3.cell? ⟨b48, o48 + x10.toNat * 2 + 1, none⟩ = some (.int .i64 x50) ∧
  sel (decide ((x50 : Int) < (1 : Int))) (
  R (.bool false) w_3) (
  (0 : Int) ≤ x10 ∧ x10 < (na0 : Int) ∧
  needPtr Aa0 fun b55 o55 =>
  ∃ (x57 : Int),
  w_3.cell? ⟨b55, o55 + x10.toNat * 2 + 1, none⟩ = some (.int .i64 x57) ∧
  sel (decide ((xa1 : Int) < (x57 : Int))) (
  R (.bool false) w_3) (
  let i45 : Int := IntKind.i64.wrap (x10 + 1);
  ([.slice Aa0 na0 ca0, .int .i64 xa1] : List Value) = ([.slice Aa0 na0 ca0, .int .i64 xa1] : List Value) ∧ ∃ m, m < r_2 ∧ I_2 i45 w_3 m))) (
  R (.bool true) w_3))
theorem f87.eq (Aa0 : Option Addr) (na0 ca0 : Nat) (xa1 : Int) (ba2 : Bool) (w : World) (R : Value → World → Prop) : f87.VC Aa0 na0 ca0 xa1 ba2 w R = funV Try.prog Try.f87 f87.AL f87.AC #[.slice Aa0 na0 ca0, .int .i64 xa1, .bool ba2] w R := by kernel_rfl
theorem f87.calls {Aa0 : Option Addr} {na0 ca0 : Nat} {xa1 : Int} {ba2 : Bool} {w : World} {R : Value → World → Prop} (h : f87.VC Aa0 na0 ca0 xa1 ba2 w R) : Calls Try.prog 87 #[.slice Aa0 na0 ca0, .int .i64 xa1, .bool ba2] w fun e w' => ∃ v, e = .returned v ∧ R v w' :=
  funV_sound (fn := Try.f87) (AL := f87.AL) (AC := f87.AC) W20.mixed (by kernel_rfl) (by rw [← f87.eq Aa0 na0 ca0 xa1 ba2]; exact h)

/-- gatehouse/gatehouseref12.apart -/
def f88.AL : Nat → Option Ann := fun r => match r with | 3 => some ⟨[(5, .int .i64), (6, .int .i64)], [0, 1]⟩ | 7 => some ⟨[(7, .int .i64)], [0, 5]⟩ | 10 => some ⟨[(8, .int .i64)], [0, 5, 7]⟩ | 15 => some ⟨[(9, .int .i64)], [0]⟩ | 18 => some ⟨[(10, .int .i64)], [0, 9]⟩ | 22 => some ⟨[(11, .bool), (12, .int .i64)], [0, 9, 10]⟩ | 28 => some ⟨[(13, .int .i64)], [0]⟩ | 31 => some ⟨[(14, .int .i64)], [0, 13]⟩ | 35 => some ⟨[(15, .bool), (16, .int .i64)], [0, 13, 14]⟩ | _ => none
def f88.AC : Nat → Option Ann := fun _ => none
def f88.VC (Aa0 : Option Addr) (na0 ca0 : Nat) (xa1 : Int) (w : World) (R : Value → World → Prop) : Prop :=
  ∃ I : Int → Int → World → Nat → Prop,
  (∃ n, I 1 0 w n) ∧
  ∀ d : Env, ∀ (x5 : Int) (x6 : Int) (w_1 : World) (r : Nat), I x5 x6 w_1 r →
  sel (decide ((x6 : Int) < (xa1 : Int))) (
  let i23 : Int := IntKind.i64.wrap (2 * x5);
  let i21 : Int := IntKind.i64.wrap (x6 + 1);
  ([.slice Aa0 na0 ca0, .int .i64 xa1] : List Value) = ([.slice Aa0 na0 ca0, .int .i64 xa1] : List Value) ∧ ∃ m, m < r ∧ I i23 i21 w_1 m) (
  ∃ I_1 : Int → World → Nat → Prop,
  (∃ n, I_1 1 w_1 n) ∧
  ∀ d_1 : Env, ∀ (x7 : Int) (w_2 : World) (r_1 : Nat), I_1 x7 w_2 r_1 →
  (0 : Int) ≤ 2 ∧ 2 < (na0 : Int) ∧
  needPtr Aa0 fun b26 o26 =>
  ∃ (x27 : Int),
  w_2.cell? ⟨b26, o26 + 2, none⟩ = some (.int .i64 x27) ∧
  sel (decide ((x7 : Int) ≤ (x27 : Int))) (
  ∃ I_2 : Int → World → Nat → Prop,
  (∃ n, I_2 1 w_2 n) ∧
  ∀ d_2 : Env, ∀ (x8 : Int) (w_3 : World) (r_2 : Nat), I_2 x8 w_3 r_2 →
  (0 : Int) ≤ 3 ∧ 3 < (na0 : Int) ∧
  needPtr Aa0 fun b33 o33 =>
  ∃ (x34 : Int),
  w_3.cell? ⟨b33, o33 + 3, none⟩ = some (.int .i64 x34) ∧
  sel (decide ((x8 : Int) ≤ (x34 : Int))) (
  Calls Try.prog 63 #[.slice Aa0 na0 ca0, .int .i64 x7, .int .i64 x8] w_3 fun e_1 w_4 =>
  ∃ (x41 : Int),
  e_1 = .returned (.int .i64 x41) ∧
  sel (decide ((x41 : Int) < (0 : Int))) (
  R (.bool false) w_4) (
  Calls Try.prog 63 #[.slice Aa0 na0 ca0, .int .i64 x7, .int .i64 x8] w_4 fun e_2 w_5 =>
  ∃ (x47 : Int),
  e_2 = .returned (.int .i64 x47) ∧
  sel (decide ((x5 : Int) ≤ (x47 : Int))) (
  R (.bool false) w_5) (
  let i37 : Int := IntKind.i64.wrap (x8 + 1);
  ([.slice Aa0 na0 ca0, .int .i64 x5, .int .i64 x7] : List Value) = ([.slice Aa0 na0 ca0, .int .i64 x5, .int .i64 x7] : List Value) ∧ ∃ m, m < r_2 ∧ I_2 i37 w_5 m))) (
  let i30 : Int := IntKind.i64.wrap (x7 + 1);
  ([.slice Aa0 na0 ca0, .int .i64 x5] : List Value) = ([.slice Aa0 na0 ca0, .int .i64 x5] : List Value) ∧ ∃ m, m < r_1 ∧ I_1 i30 w_3 m)) (
  ∃ I_3 : Int → World → Nat → Prop,
  (∃ n, I_3 1 w_2 n) ∧
  ∀ d_3 : Env, ∀ (x9 : Int) (w_6 : World) (r_3 : Nat), I_3 x9 w_6 r_3 →
  (0 : Int) ≤ 2 ∧ 2 < (na0 : Int) ∧
  needPtr Aa0 fun b53 o53 =>
  ∃ (x54 : Int),
  w_6.cell? ⟨b53, o53 + 2, none⟩ = some (.int .i64 x54) ∧
  sel (decide ((x9 : Int) ≤ (x54 : Int))) (
  ∃ I_4 : Int → World → Nat → Prop,
  (∃ n, I_4 1 w_6 n) ∧
  ∀ d_4 : Env, ∀ (x10 : Int) (w_7 : World) (r_4 : Nat), I_4 x10 w_7 r_4 →
  sel (decide ((x10 : Int) < (x9 : Int))) (
  ∃ I_5 : Bool → Int → World → Nat → Prop,
  (∃ n, I_5 true 1 w_7 n) ∧
  ∀ d_5 : Env, ∀ (b11 : Bool) (x12 : Int) (w_8 : World) (r_5 : Nat), I_5 b11 x12 w_8 r_5 →
  (0 : Int) ≤ 3 ∧ 3 < (na0 : Int) ∧
  needPtr Aa0 fun b65 o65 =>
  ∃ (x66 : Int),
  w_8.cell? ⟨b65, o65 + 3, none⟩ = some (.int .i64 x66) ∧
  sel (decide ((x12 : Int) ≤ (x66 : Int))) (
  sel b11 (
  Calls Try.prog 63 #[.slice Aa0 na0 ca0, .int .i64 x9, .int .i64 x12] w_8 fun e_3 w_9 =>
  ∃ (x75 : Int),
  e_3 = .returned (.int .i64 x75) ∧
  Calls Try.prog 63 #[.slice Aa0 na0 ca0, .int .i64 x10, .int .i64 x12] w_9 fun e_4 w_10 =>
  ∃ (x79 : Int),
  e_4 = .returned (.int .i64 x79) ∧
  let i69 : Int := IntKind.i64.wrap (x12 + 1);
  ([.slice Aa0 na0 ca0, .int .i64 x9, .int .i64 x10] : List Value) = ([.slice Aa0 na0 ca0, .int .i64 x9, .int .i64 x10] : List Value) ∧ ∃ m, m < r_5 ∧ I_5 ((x75 : Int) == (x79 : Int)) i69 w_10 m) (
  let i69_1 : Int := IntKind.i64.wrap (x12 + 1);
  ([.slice Aa0 na0 ca0, .int .i64 x9, .int .i64 x10] : List Value) = ([.slice Aa0 na0 ca0, .int .i64 x9, .int .i64 x10] : List Value) ∧ ∃ m, m < r_5 ∧ I_5 false i69_1 w_8 m)) (
  sel b11 (
  R (.bool false) w_8) (
  let i62 : Int := IntKind.i64.wrap (x10 + 1);
  ([.slice Aa0 na0 ca0, .int .i64 x9] : List Value) = ([.slice Aa0 na0 ca0, .int .i64 x9] : List Value) ∧ ∃ m, m < r_4 ∧ I_4 i62 w_8 m))) (
  let i57 : Int := IntKind.i64.wrap (x9 + 1);
  ([.slice Aa0 na0 ca0] : List Value) = ([.slice Aa0 na0 ca0] : List Value) ∧ ∃ m, m < r_3 ∧ I_3 i57 w_7 m)) (
  ∃ I_6 : Int → World → Nat → Prop,
  (∃ n, I_6 1 w_6 n) ∧
  ∀ d_6 : Env, ∀ (x13 : Int) (w_11 : World) (r_6 : Nat), I_6 x13 w_11 r_6 →
  (0 : Int) ≤ 3 ∧ 3 < (na0 : Int) ∧
  needPtr Aa0 fun b85 o85 =>
  ∃ (x86 : Int),
  w_11.cell? ⟨b85, o85 + 3, none⟩ = some (.int .i64 x86) ∧
  sel (decide ((x13 : Int) ≤ (x86 : Int))) (
  ∃ I_7 : Int → World → Nat → Prop,
  (∃ n, I_7 1 w_11 n) ∧
  ∀ d_7 : Env, ∀ (x14 : Int) (w_12 : World) (r_7 : Nat), I_7 x14 w_12 r_7 →
  sel (decide ((x14 : Int) < (x13 : Int))) (
  ∃ I_8 : Bool → Int → World → Nat → Prop,
  (∃ n, I_8 true 1 w_12 n) ∧
  ∀ d_8 : Env, ∀ (b15 : Bool) (x16 : Int) (w_13 : World) (r_8 : Nat), I_8 b15 x16 w_13 r_8 →
  (0 : Int) ≤ 2 ∧ 2 < (na0 : Int) ∧
  needPtr Aa0 fun b97 o97 =>
  ∃ (x98 : Int),
  w_13.cell? ⟨b97, o97 + 2, none⟩ = some (.int .i64 x98) ∧
  sel (decide ((x16 : Int) ≤ (x98 : Int))) (
  sel b15 (
  Calls Try.prog 63 #[.slice Aa0 na0 ca0, .int .i64 x16, .int .i64 x13] w_13 fun e_5 w_14 =>
  ∃ (x107 : Int),
  e_5 = .returned (.int .i64 x107) ∧
  Calls Try.prog 63 #[.slice Aa0 na0 ca0, .int .i64 x16, .int .i64 x14] w_14 fun e_6 w_15 =>
  ∃ (x111 : Int),
  e_6 = .returned (.int .i64 x111) ∧
  let i101 : Int := IntKind.i64.wrap (x16 + 1);
  ([.slice Aa0 na0 ca0, .int .i64 x13, .int .i64 x14] : List Value) = ([.slice Aa0 na0 ca0, .int .i64 x13, .int .i64 x14] : List Value) ∧ ∃ m, m < r_8 ∧ I_8 ((x107 : Int) == (x111 : Int)) i101 w_15 m) (
  let i101_1 : Int := IntKind.i64.wrap (x16 + 1);
  ([.slice Aa0 na0 ca0, .int .i64 x13, .int .i64 x14] : List Value) = ([.slice Aa0 na0 ca0, .int .i64 x13, .int .i64 x14] : List Value) ∧ ∃ m, m < r_8 ∧ I_8 false i101_1 w_13 m)) (
  sel b15 (
  R (.bool false) w_13) (
  let i94 : Int := IntKind.i64.wrap (x14 + 1);
  ([.slice Aa0 na0 ca0, .int .i64 x13] : List Value) = ([.slice Aa0 na0 ca0, .int .i64 x13] : List Value) ∧ ∃ m, m < r_7 ∧ I_7 i94 w_13 m))) (
  let i89 : Int := IntKind.i64.wrap (x13 + 1);
  ([.slice Aa0 na0 ca0] : List Value) = ([.slice Aa0 na0 ca0] : List Value) ∧ ∃ m, m < r_6 ∧ I_6 i89 w_12 m)) (
  R (.bool true) w_11))))
theorem f88.eq (Aa0 : Option Addr) (na0 ca0 : Nat) (xa1 : Int) (w : World) (R : Value → World → Prop) : f88.VC Aa0 na0 ca0 xa1 w R = funV Try.prog Try.f88 f88.AL f88.AC #[.slice Aa0 na0 ca0, .int .i64 xa1] w R := by kernel_rfl
theorem f88.calls {Aa0 : Option Addr} {na0 ca0 : Nat} {xa1 : Int} {w : World} {R : Value → World → Prop} (h : f88.VC Aa0 na0 ca0 xa1 w R) : Calls Try.prog 88 #[.slice Aa0 na0 ca0, .int .i64 xa1] w fun e w' => ∃ v, e = .returned v ∧ R v w' :=
  funV_sound (fn := Try.f88) (AL := f88.AL) (AC := f88.AC) W20.mixed (by kernel_rfl) (by rw [← f88.eq Aa0 na0 ca0 xa1]; exact h)

/-- gatehouse/gatehouseref12.Laid -/
def f59.AL : Nat → Option Ann := fun _ => none
def f59.AC : Nat → Option Ann := fun _ => none
def f59.VC (Aa0 : Option Addr) (na0 ca0 : Nat) (a1 : Nat) (w : World) (R : Value → World → Prop) : Prop :=
  sel (decide (((na0 : Int) : Int) < (4 : Int))) (
  R (.bool false) w) (
  (0 : Int) ≤ 0 ∧ 0 < (na0 : Int) ∧
  needPtr Aa0 fun b17 o17 =>
  ∃ (x18 : Int),
  w.cell? ⟨b17, o17, none⟩ = some (.int .i64 x18) ∧
  sel (decide ((x18 : Int) < (1 : Int))) (
  R (.bool false) w) (
  (0 : Int) ≤ 0 ∧ 0 < (na0 : Int) ∧
  needPtr Aa0 fun b23 o23 =>
  ∃ (x24 : Int),
  w.cell? ⟨b23, o23, none⟩ = some (.int .i64 x24) ∧
  sel (decide ((2147483647 : Int) < (x24 : Int))) (
  R (.bool false) w) (
  (0 : Int) ≤ 2 ∧ 2 < (na0 : Int) ∧
  needPtr Aa0 fun b29 o29 =>
  ∃ (x30 : Int),
  w.cell? ⟨b29, o29 + 2, none⟩ = some (.int .i64 x30) ∧
  sel (decide ((x30 : Int) < (0 : Int))) (
  R (.bool false) w) (
  (0 : Int) ≤ 2 ∧ 2 < (na0 : Int) ∧
  needPtr Aa0 fun b35 o35 =>
  ∃ (x36 : Int),
  w.cell? ⟨b35, o35 + 2, none⟩ = some (.int .i64 x36) ∧
  sel (decide ((64 : Int) < (x36 : Int))) (
  R (.bool false) w) (
  (0 : Int) ≤ 3 ∧ 3 < (na0 : Int) ∧
  needPtr Aa0 fun b41 o41 =>
  ∃ (x42 : Int),
  w.cell? ⟨b41, o41 + 3, none⟩ = some (.int .i64 x42) ∧
  sel (decide ((x42 : Int) < (0 : Int))) (
  R (.bool false) w) (
  (0 : Int) ≤ 3 ∧ 3 < (na0 : Int) ∧
  needPtr Aa0 fun b47 o47 =>
  ∃ (x48 : Int),
  w.cell? ⟨b47, o47 + 3, none⟩ = some (.int .i64 x48) ∧
  sel (decide ((64 : Int) < (x48 : Int))) (
  R (.bool false) w) (
  (0 : Int) ≤ 1 ∧ 1 < (na0 : Int) ∧
  needPtr Aa0 fun b52 o52 =>
  ∃ (x53 : Int),
  w.cell? ⟨b52, o52 + 1, none⟩ = some (.int .i64 x53) ∧
  Calls Try.prog 84 #[.int .i64 x53] w.drew fun e_1 w_1 =>
  ∃ (b54 : Bool),
  e_1 = .returned (.bool b54) ∧
  sel (!b54) (
  R (.bool false) w_1) (
  (0 : Int) ≤ 1 ∧ 1 < (na0 : Int) ∧
  needPtr Aa0 fun b60 o60 =>
  (0 : Int) ≤ 2 ∧ 2 < (na0 : Int) ∧
  needPtr Aa0 fun b65 o65 =>
  (0 : Int) ≤ 3 ∧ 3 < (na0 : Int) ∧
  needPtr Aa0 fun b68 o68 =>
  ∃ (x61 : Int),
  w_1.cell? ⟨b60, o60 + 1, none⟩ = some (.int .i64 x61) ∧
  let i62 : Int := IntKind.i64.wrap (2 * x61);
  let i63 : Int := IntKind.i64.wrap (4 + i62);
  ∃ (x66 : Int),
  w_1.cell? ⟨b65, o65 + 2, none⟩ = some (.int .i64 x66) ∧
  ∃ (x69 : Int),
  w_1.cell? ⟨b68, o68 + 3, none⟩ = some (.int .i64 x69) ∧
  let i70 : Int := IntKind.i64.wrap (x66 * x69);
  let i71 : Int := IntKind.i64.wrap (i63 + i70);
  sel (((na0 : Int) : Int) != (i71 : Int)) (
  R (.bool false) w_1) (
  Calls Try.prog 86 #[.slice Aa0 na0 ca0, .pointer (some ⟨a1, 0, none⟩)] w_1 fun e_2 w_2 =>
  ∃ (b76 : Bool),
  e_2 = .returned (.bool b76) ∧
  sel (!b76) (
  R (.bool false) w_2) (
  Calls Try.prog 60 #[.slice Aa0 na0 ca0, .int .i64 3] w_2 fun e_3 w_3 =>
  ∃ (A80 : Option Addr) (n80 c80 : Nat),
  e_3 = .returned (.slice A80 n80 c80) ∧
  Calls Try.prog 60 #[.slice Aa0 na0 ca0, .int .i64 1] w_3 fun e_4 w_4 =>
  ∃ (A82 : Option Addr) (n82 c82 : Nat),
  e_4 = .returned (.slice A82 n82 c82) ∧
  Calls Try.prog 60 #[.slice Aa0 na0 ca0, .int .i64 2] w_4 fun e_5 w_5 =>
  ∃ (A84 : Option Addr) (n84 c84 : Nat),
  e_5 = .returned (.slice A84 n84 c84) ∧
  (0 : Int) ≤ 1 ∧ 1 < (na0 : Int) ∧
  needPtr Aa0 fun b86 o86 =>
  let i92 : Int := IntKind.i64.wrap ((n80 : Int) + (n82 : Int));
  let i95 : Int := IntKind.i64.wrap (i92 + (n84 : Int));
  (∃ (x87 : Int),
  w_5.cell? ⟨b86, o86 + 1, none⟩ = some (.int .i64 x87) ∧
  Calls Try.prog 43 #[.int .i64 i95] w_5.drew fun e_6 w_6 =>
  ∃ (x96 : Int),
  e_6 = .returned (.int .i64 x96) ∧
  sel ((x87 : Int) != (x96 : Int)) (
  R (.bool false) w_6) (
  sel (decide ((16 : Int) < ((n80 : Int) : Int))) (
  R (.bool false) w_6) (
  sel (decide ((64 : Int) < ((n82 : Int) : Int))) (
  R (.bool false) w_6) (
  sel (decide ((64 : Int) < ((n84 : Int) : Int))) (
  R (.bool false) w_6) (
  Calls Try.prog 87 #[.slice A80 n80 c80, .int .i64 (n80 : Int), .bool true] w_6 fun e_7 w_7 =>
  ∃ (b116 : Bool),
  e_7 = .returned (.bool b116) ∧
  (0 : Int) ≤ 2 ∧ 2 < (na0 : Int) ∧
  needPtr Aa0 fun b119 o119 =>
  ∃ (x120 : Int),
  w_7.cell? ⟨b119, o119 + 2, none⟩ = some (.int .i64 x120) ∧
  Calls Try.prog 87 #[.slice A82 n82 c82, .int .i64 x120, .bool false] w_7 fun e_8 w_8 =>
  ∃ (b121 : Bool),
  e_8 = .returned (.bool b121) ∧
  (0 : Int) ≤ 3 ∧ 3 < (na0 : Int) ∧
  needPtr Aa0 fun b124 o124 =>
  ∃ (x125 : Int),
  w_8.cell? ⟨b124, o124 + 3, none⟩ = some (.int .i64 x125) ∧
  Calls Try.prog 87 #[.slice A84 n84 c84, .int .i64 x125, .bool false] w_8 fun e_9 w_9 =>
  ∃ (b126 : Bool),
  e_9 = .returned (.bool b126) ∧
  sel b116 (
  sel b121 (
  sel b126 (
  Calls Try.prog 88 #[.slice Aa0 na0 ca0, .int .i64 (n80 : Int)] w_9 fun e_10 w_10 =>
  ∃ (b138 : Bool),
  e_10 = .returned (.bool b138) ∧
  R (.bool b138) w_10) (
  R (.bool false) w_9)) (
  R (.bool false) w_9)) (
  R (.bool false) w_9)))))) ∧
  (Calls Try.prog 43 #[.int .i64 i95] w_5.drew fun e_11 w_11 =>
  ∃ (x96_1 : Int),
  e_11 = .returned (.int .i64 x96_1) ∧
  ∃ (x87_1 : Int),
  w_11.cell? ⟨b86, o86 + 1, none⟩ = some (.int .i64 x87_1) ∧
  sel ((x87_1 : Int) != (x96_1 : Int)) (
  R (.bool false) w_11) (
  sel (decide ((16 : Int) < ((n80 : Int) : Int))) (
  R (.bool false) w_11) (
  sel (decide ((64 : Int) < ((n82 : Int) : Int))) (
  R (.bool false) w_11) (
  sel (decide ((64 : Int) < ((n84 : Int) : Int))) (
  R (.bool false) w_11) (
  Calls Try.prog 87 #[.slice A80 n80 c80, .int .i64 (n80 : Int), .bool true] w_11 fun e_12 w_12 =>
  ∃ (b116_1 : Bool),
  e_12 = .returned (.bool b116_1) ∧
  (0 : Int) ≤ 2 ∧ 2 < (na0 : Int) ∧
  needPtr Aa0 fun b119_1 o119_1 =>
  ∃ (x120_1 : Int),
  w_12.cell? ⟨b119_1, o119_1 + 2, none⟩ = some (.int .i64 x120_1) ∧
  Calls Try.prog 87 #[.slice A82 n82 c82, .int .i64 x120_1, .bool false] w_12 fun e_13 w_13 =>
  ∃ (b121_1 : Bool),
  e_13 = .returned (.bool b121_1) ∧
  (0 : Int) ≤ 3 ∧ 3 < (na0 : Int) ∧
  needPtr Aa0 fun b124_1 o124_1 =>
  ∃ (x125_1 : Int),
  w_13.cell? ⟨b124_1, o124_1 + 3, none⟩ = some (.int .i64 x125_1) ∧
  Calls Try.prog 87 #[.slice A84 n84 c84, .int .i64 x125_1, .bool false] w_13 fun e_14 w_14 =>
  ∃ (b126_1 : Bool),
  e_14 = .returned (.bool b126_1) ∧
  sel b116_1 (
  sel b121_1 (
  sel b126_1 (
  Calls Try.prog 88 #[.slice Aa0 na0 ca0, .int .i64 (n80 : Int)] w_14 fun e_15 w_15 =>
  ∃ (b138_1 : Bool),
  e_15 = .returned (.bool b138_1) ∧
  R (.bool b138_1) w_15) (
  R (.bool false) w_14)) (
  R (.bool false) w_14)) (
  R (.bool false) w_14)))))) ∧ True))))))))))
theorem f59.eq (Aa0 : Option Addr) (na0 ca0 : Nat) (a1 : Nat) (w : World) (R : Value → World → Prop) : f59.VC Aa0 na0 ca0 a1 w R = funV Try.prog Try.f59 f59.AL f59.AC #[.slice Aa0 na0 ca0, .pointer (some ⟨a1, 0, none⟩)] w R := by kernel_rfl
theorem f59.calls {Aa0 : Option Addr} {na0 ca0 : Nat} {a1 : Nat} {w : World} {R : Value → World → Prop} (h : f59.VC Aa0 na0 ca0 a1 w R) : Calls Try.prog 59 #[.slice Aa0 na0 ca0, .pointer (some ⟨a1, 0, none⟩)] w fun e w' => ∃ v, e = .returned v ∧ R v w' :=
  funV_sound (fn := Try.f59) (AL := f59.AL) (AC := f59.AC) W20.mixed (by kernel_rfl) (by rw [← f59.eq Aa0 na0 ca0 a1]; exact h)

/-- gatehouse/gatehouseref12.Read -/
def f26.AL : Nat → Option Ann := fun r => match r with | 9 => some ⟨[(10, .int .i64)], [0, 1, 5, 8, 9]⟩ | 12 => some ⟨[(11, .int .i64)], [0, 1, 5, 8, 9, 10]⟩ | 24 => some ⟨[(20, .int .i64)], [0, 5, 8, 16, 19]⟩ | 28 => some ⟨[(21, .slice), (22, .int .i64)], [0, 5, 8, 16, 19, 20]⟩ | _ => none
def f26.AC : Nat → Option Ann := fun _ => none
def f26.VC (Aa0 : Option Addr) (na0 ca0 : Nat) (a1 : Nat) (w : World) (R : Value → World → Prop) : Prop :=
  let w_1 : World := World.alloc w (.cells #[.slice none 0 0, .slice none 0 0, .slice none 0 0, .slice none 0 0, .slice none 0 0, .slice none 0 0] 29);
  Calls Try.prog 59 #[.slice Aa0 na0 ca0, .pointer (some ⟨a1, 0, none⟩)] w_1 fun e_1 w_2 =>
  ∃ (b28 : Bool),
  e_1 = .returned (.bool b28) ∧
  sel (!b28) (
  canStore w_2 w.heap.size 0 6 ∧
  let w_3 : World := setCs w_2 w.heap.size 0 [.slice none 0 0, .slice none 0 0, .slice none 0 0, .slice none 0 0, .slice none 0 0, .slice none 0 0];
  ∃ (A5_0 : Option Addr) (n5_0 c5_0 : Nat),
  w_3.cell? ⟨w.heap.size, 0, none⟩ = some (.slice A5_0 n5_0 c5_0) ∧
  ∃ (A5_1 : Option Addr) (n5_1 c5_1 : Nat),
  w_3.cell? ⟨w.heap.size, 1, none⟩ = some (.slice A5_1 n5_1 c5_1) ∧
  ∃ (A5_2 : Option Addr) (n5_2 c5_2 : Nat),
  w_3.cell? ⟨w.heap.size, 2, none⟩ = some (.slice A5_2 n5_2 c5_2) ∧
  ∃ (A5_3 : Option Addr) (n5_3 c5_3 : Nat),
  w_3.cell? ⟨w.heap.size, 3, none⟩ = some (.slice A5_3 n5_3 c5_3) ∧
  ∃ (A5_4 : Option Addr) (n5_4 c5_4 : Nat),
  w_3.cell? ⟨w.heap.size, 4, none⟩ = some (.slice A5_4 n5_4 c5_4) ∧
  ∃ (A5_5 : Option Addr) (n5_5 c5_5 : Nat),
  w_3.cell? ⟨w.heap.size, 5, none⟩ = some (.slice A5_5 n5_5 c5_5) ∧
  R (.tuple #[.int .i64 0, .agg #[.slice A5_0 n5_0 c5_0, .slice A5_1 n5_1 c5_1, .slice A5_2 n5_2 c5_2, .slice A5_3 n5_3 c5_3, .slice A5_4 n5_4 c5_4, .slice A5_5 n5_5 c5_5], .int .i64 120]) w_3) (
  let w_4 : World := World.alloc w_2 (.cells #[.slice none 0 0, .slice none 0 0, .slice none 0 0, .slice none 0 0, .slice none 0 0, .slice none 0 0] 29);
  Calls Try.prog 60 #[.slice Aa0 na0 ca0, .int .i64 3] w_4 fun e_2 w_5 =>
  ∃ (A33 : Option Addr) (n33 c33 : Nat),
  e_2 = .returned (.slice A33 n33 c33) ∧
  ∃ I : Int → World → Nat → Prop,
  (∃ n, I 1 w_5 n) ∧
  ∀ d : Env, ∀ (x10 : Int) (w_6 : World) (r : Nat), I x10 w_6 r →
  sel (decide ((x10 : Int) ≤ ((n33 : Int) : Int))) (
  ∃ I_1 : Int → World → Nat → Prop,
  (∃ n, I_1 0 w_6 n) ∧
  ∀ d_1 : Env, ∀ (x11 : Int) (w_7 : World) (r_1 : Nat), I_1 x11 w_7 r_1 →
  sel (decide ((x11 : Int) < ((n33 : Int) : Int))) (
  (0 : Int) ≤ x11 ∧ x11 < (n33 : Int) ∧
  needPtr A33 fun b48 o48 =>
  ∃ (x50 : Int),
  w_7.cell? ⟨b48, o48 + x11.toNat * 2 + 1, none⟩ = some (.int .i64 x50) ∧
  sel ((x50 : Int) == (x10 : Int)) (
  (0 : Int) ≤ x11 ∧ x11 < (n33 : Int) ∧
  needPtr A33 fun b57 o57 =>
  ∃ (x59 : Int),
  w_7.cell? ⟨b57, o57 + x11.toNat * 2, none⟩ = some (.int .i64 x59) ∧
  Calls Try.prog 61 #[.pointer (some ⟨a1, 0, none⟩), .int .i64 x59] w_7 fun e_3 w_8 =>
  ∃ (s60_0 : ByteArray) (b60_1 : Bool),
  e_3 = .returned (.tuple #[.string s60_0, .bool b60_1]) ∧
  ∃ (A64 : Option Addr) (n64 c64 : Nat),
  w_8.cell? ⟨w_2.heap.size, 0, none⟩ = some (.slice A64 n64 c64) ∧
  let w_9 : World := World.alloc w_8 (.cells #[.string s60_0] 9);
  ∃ (A67 : Option Addr) (n67 c67 : Nat),
  ∃ w_10 : World, (Builtin.append_ #[25, 25] 25 #[.slice A64 n64 c64, .slice (some ⟨w_8.heap.size, 0, none⟩) 1 1]).run Try.prog w_9 = .ok (.slice A67 n67 c67) w_10 ∧
  canStore w_10 w_2.heap.size 0 1 ∧
  let w_11 : World := setCs w_10 w_2.heap.size 0 [.slice A67 n67 c67];
  let i45 : Int := IntKind.i64.wrap (x11 + 1);
  ([.slice Aa0 na0 ca0, .pointer (some ⟨a1, 0, none⟩), .pointer (some ⟨w.heap.size, 0, none⟩), .pointer (some ⟨w_2.heap.size, 0, none⟩), .slice A33 n33 c33, .int .i64 x10] : List Value) = ([.slice Aa0 na0 ca0, .pointer (some ⟨a1, 0, none⟩), .pointer (some ⟨w.heap.size, 0, none⟩), .pointer (some ⟨w_2.heap.size, 0, none⟩), .slice A33 n33 c33, .int .i64 x10] : List Value) ∧ ∃ m, m < r_1 ∧ I_1 i45 w_11 m) (
  let i45_1 : Int := IntKind.i64.wrap (x11 + 1);
  ([.slice Aa0 na0 ca0, .pointer (some ⟨a1, 0, none⟩), .pointer (some ⟨w.heap.size, 0, none⟩), .pointer (some ⟨w_2.heap.size, 0, none⟩), .slice A33 n33 c33, .int .i64 x10] : List Value) = ([.slice Aa0 na0 ca0, .pointer (some ⟨a1, 0, none⟩), .pointer (some ⟨w.heap.size, 0, none⟩), .pointer (some ⟨w_2.heap.size, 0, none⟩), .slice A33 n33 c33, .int .i64 x10] : List Value) ∧ ∃ m, m < r_1 ∧ I_1 i45_1 w_7 m)) (
  let i39 : Int := IntKind.i64.wrap (x10 + 1);
  ([.slice Aa0 na0 ca0, .pointer (some ⟨a1, 0, none⟩), .pointer (some ⟨w.heap.size, 0, none⟩), .pointer (some ⟨w_2.heap.size, 0, none⟩), .slice A33 n33 c33] : List Value) = ([.slice Aa0 na0 ca0, .pointer (some ⟨a1, 0, none⟩), .pointer (some ⟨w.heap.size, 0, none⟩), .pointer (some ⟨w_2.heap.size, 0, none⟩), .slice A33 n33 c33] : List Value) ∧ ∃ m, m < r ∧ I i39 w_7 m)) (
  Calls Try.prog 60 #[.slice Aa0 na0 ca0, .int .i64 1] w_6 fun e_4 w_12 =>
  ∃ (A71 : Option Addr) (n71 c71 : Nat),
  e_4 = .returned (.slice A71 n71 c71) ∧
  Calls Try.prog 62 #[.slice A71 n71 c71, .pointer (some ⟨a1, 0, none⟩)] w_12 fun e_5 w_13 =>
  ∃ (A73_0 : Option Addr) (n73_0 c73_0 : Nat) (A73_1 : Option Addr) (n73_1 c73_1 : Nat) (A73_2 : Option Addr) (n73_2 c73_2 : Nat),
  e_5 = .returned (.tuple #[.slice A73_0 n73_0 c73_0, .slice A73_1 n73_1 c73_1, .slice A73_2 n73_2 c73_2]) ∧
  Calls Try.prog 60 #[.slice Aa0 na0 ca0, .int .i64 2] w_13 fun e_6 w_14 =>
  ∃ (A79 : Option Addr) (n79 c79 : Nat),
  e_6 = .returned (.slice A79 n79 c79) ∧
  Calls Try.prog 62 #[.slice A79 n79 c79, .pointer (some ⟨a1, 0, none⟩)] w_14 fun e_7 w_15 =>
  ∃ (A81_0 : Option Addr) (n81_0 c81_0 : Nat) (A81_1 : Option Addr) (n81_1 c81_1 : Nat) (A81_2 : Option Addr) (n81_2 c81_2 : Nat),
  e_7 = .returned (.tuple #[.slice A81_0 n81_0 c81_0, .slice A81_1 n81_1 c81_1, .slice A81_2 n81_2 c81_2]) ∧
  canStore w_15 w_2.heap.size 1 1 ∧
  let w_16 : World := setCs w_15 w_2.heap.size 1 [.slice A73_0 n73_0 c73_0];
  canStore w_16 w_2.heap.size 3 1 ∧
  let w_17 : World := setCs w_16 w_2.heap.size 3 [.slice A73_1 n73_1 c73_1];
  canStore w_17 w_2.heap.size 2 1 ∧
  let w_18 : World := setCs w_17 w_2.heap.size 2 [.slice A81_0 n81_0 c81_0];
  canStore w_18 w_2.heap.size 4 1 ∧
  let w_19 : World := setCs w_18 w_2.heap.size 4 [.slice A81_1 n81_1 c81_1];
  ∃ I_2 : Int → World → Nat → Prop,
  (∃ n, I_2 0 w_19 n) ∧
  ∀ d_2 : Env, ∀ (x20 : Int) (w_20 : World) (r_2 : Nat), I_2 x20 w_20 r_2 →
  sel (decide ((x20 : Int) < ((n73_2 : Int) : Int))) (
  ∃ I_3 : Option Addr → Nat → Nat → Int → World → Nat → Prop,
  (∃ n, I_3 none 0 0 0 w_20 n) ∧
  ∀ d_3 : Env, ∀ (A21 : Option Addr) (n21 c21 : Nat) (x22 : Int) (w_21 : World) (r_3 : Nat), I_3 A21 n21 c21 x22 w_21 r_3 →
  sel (decide ((x22 : Int) < ((n81_2 : Int) : Int))) (
  (0 : Int) ≤ x20 ∧ x20 < (n73_2 : Int) ∧
  needPtr A73_2 fun b109 o109 =>
  (0 : Int) ≤ x22 ∧ x22 < (n81_2 : Int) ∧
  needPtr A81_2 fun b113 o113 =>
  ∃ (x110 : Int),
  w_21.cell? ⟨b109, o109 + x20.toNat * 1, none⟩ = some (.int .i64 x110) ∧
  ∃ (x114 : Int),
  w_21.cell? ⟨b113, o113 + x22.toNat * 1, none⟩ = some (.int .i64 x114) ∧
  Calls Try.prog 63 #[.slice Aa0 na0 ca0, .int .i64 x110, .int .i64 x114] w_21.drew fun e_8 w_22 =>
  ∃ (x115 : Int),
  e_8 = .returned (.int .i64 x115) ∧
  let i116 : Int := IntKind.u16.wrap x115;
  let w_23 : World := World.alloc w_22 (.cells #[.int .u16 i116] 79);
  ∃ (A118 : Option Addr) (n118 c118 : Nat),
  ∃ w_24 : World, (Builtin.append_ #[82, 82] 82 #[.slice A21 n21 c21, .slice (some ⟨w_22.heap.size, 0, none⟩) 1 1]).run Try.prog w_23 = .ok (.slice A118 n118 c118) w_24 ∧
  let i104 : Int := IntKind.i64.wrap (x22 + 1);
  ([.slice Aa0 na0 ca0, .pointer (some ⟨w.heap.size, 0, none⟩), .pointer (some ⟨w_2.heap.size, 0, none⟩), .slice A73_2 n73_2 c73_2, .slice A81_2 n81_2 c81_2, .int .i64 x20] : List Value) = ([.slice Aa0 na0 ca0, .pointer (some ⟨w.heap.size, 0, none⟩), .pointer (some ⟨w_2.heap.size, 0, none⟩), .slice A73_2 n73_2 c73_2, .slice A81_2 n81_2 c81_2, .int .i64 x20] : List Value) ∧ ∃ m, m < r_3 ∧ I_3 A118 n118 c118 i104 w_24 m) (
  ∃ (A120 : Option Addr) (n120 c120 : Nat),
  w_21.cell? ⟨w_2.heap.size, 5, none⟩ = some (.slice A120 n120 c120) ∧
  let w_25 : World := World.alloc w_21 (.cells #[.slice A21 n21 c21] 82);
  ∃ (A123 : Option Addr) (n123 c123 : Nat),
  ∃ w_26 : World, (Builtin.append_ #[27, 27] 27 #[.slice A120 n120 c120, .slice (some ⟨w_21.heap.size, 0, none⟩) 1 1]).run Try.prog w_25 = .ok (.slice A123 n123 c123) w_26 ∧
  canStore w_26 w_2.heap.size 5 1 ∧
  let w_27 : World := setCs w_26 w_2.heap.size 5 [.slice A123 n123 c123];
  let i98 : Int := IntKind.i64.wrap (x20 + 1);
  ([.slice Aa0 na0 ca0, .pointer (some ⟨w.heap.size, 0, none⟩), .pointer (some ⟨w_2.heap.size, 0, none⟩), .slice A73_2 n73_2 c73_2, .slice A81_2 n81_2 c81_2] : List Value) = ([.slice Aa0 na0 ca0, .pointer (some ⟨w.heap.size, 0, none⟩), .pointer (some ⟨w_2.heap.size, 0, none⟩), .slice A73_2 n73_2 c73_2, .slice A81_2 n81_2 c81_2] : List Value) ∧ ∃ m, m < r_2 ∧ I_2 i98 w_27 m)) (
  (0 : Int) ≤ 0 ∧ 0 < (na0 : Int) ∧
  needPtr Aa0 fun b126 o126 =>
  ∃ (x127 : Int),
  w_20.cell? ⟨b126, o126, none⟩ = some (.int .i64 x127) ∧
  ∃ (A128_0 : Option Addr) (n128_0 c128_0 : Nat),
  w_20.cell? ⟨w_2.heap.size, 0, none⟩ = some (.slice A128_0 n128_0 c128_0) ∧
  ∃ (A128_1 : Option Addr) (n128_1 c128_1 : Nat),
  w_20.cell? ⟨w_2.heap.size, 1, none⟩ = some (.slice A128_1 n128_1 c128_1) ∧
  ∃ (A128_2 : Option Addr) (n128_2 c128_2 : Nat),
  w_20.cell? ⟨w_2.heap.size, 2, none⟩ = some (.slice A128_2 n128_2 c128_2) ∧
  ∃ (A128_3 : Option Addr) (n128_3 c128_3 : Nat),
  w_20.cell? ⟨w_2.heap.size, 3, none⟩ = some (.slice A128_3 n128_3 c128_3) ∧
  ∃ (A128_4 : Option Addr) (n128_4 c128_4 : Nat),
  w_20.cell? ⟨w_2.heap.size, 4, none⟩ = some (.slice A128_4 n128_4 c128_4) ∧
  ∃ (A128_5 : Option Addr) (n128_5 c128_5 : Nat),
  w_20.cell? ⟨w_2.heap.size, 5, none⟩ = some (.slice A128_5 n128_5 c128_5) ∧
  canStore w_20 w.heap.size 0 6 ∧
  let w_28 : World := setCs w_20.drew w.heap.size 0 [.slice A128_0 n128_0 c128_0, .slice A128_1 n128_1 c128_1, .slice A128_2 n128_2 c128_2, .slice A128_3 n128_3 c128_3, .slice A128_4 n128_4 c128_4, .slice A128_5 n128_5 c128_5];
  ∃ (A5_0_1 : Option Addr) (n5_0_1 c5_0_1 : Nat),
  w_28.cell? ⟨w.heap.size, 0, none⟩ = some (.slice A5_0_1 n5_0_1 c5_0_1) ∧
  ∃ (A5_1_1 : Option Addr) (n5_1_1 c5_1_1 : Nat),
  w_28.cell? ⟨w.heap.size, 1, none⟩ = some (.slice A5_1_1 n5_1_1 c5_1_1) ∧
  ∃ (A5_2_1 : Option Addr) (n5_2_1 c5_2_1 : Nat),
  w_28.cell? ⟨w.heap.size, 2, none⟩ = some (.slice A5_2_1 n5_2_1 c5_2_1) ∧
  ∃ (A5_3_1 : Option Addr) (n5_3_1 c5_3_1 : Nat),
  w_28.cell? ⟨w.heap.size, 3, none⟩ = some (.slice A5_3_1 n5_3_1 c5_3_1) ∧
  ∃ (A5_4_1 : Option Addr) (n5_4_1 c5_4_1 : Nat),
  w_28.cell? ⟨w.heap.size, 4, none⟩ = some (.slice A5_4_1 n5_4_1 c5_4_1) ∧
  ∃ (A5_5_1 : Option Addr) (n5_5_1 c5_5_1 : Nat),
  w_28.cell? ⟨w.heap.size, 5, none⟩ = some (.slice A5_5_1 n5_5_1 c5_5_1) ∧
  R (.tuple #[.int .i64 x127, .agg #[.slice A5_0_1 n5_0_1 c5_0_1, .slice A5_1_1 n5_1_1 c5_1_1, .slice A5_2_1 n5_2_1 c5_2_1, .slice A5_3_1 n5_3_1 c5_3_1, .slice A5_4_1 n5_4_1 c5_4_1, .slice A5_5_1 n5_5_1 c5_5_1], .int .i64 0]) w_28)))
theorem f26.eq (Aa0 : Option Addr) (na0 ca0 : Nat) (a1 : Nat) (w : World) (R : Value → World → Prop) : f26.VC Aa0 na0 ca0 a1 w R = funV Try.prog Try.f26 f26.AL f26.AC #[.slice Aa0 na0 ca0, .pointer (some ⟨a1, 0, none⟩)] w R := by kernel_rfl
theorem f26.calls {Aa0 : Option Addr} {na0 ca0 : Nat} {a1 : Nat} {w : World} {R : Value → World → Prop} (h : f26.VC Aa0 na0 ca0 a1 w R) : Calls Try.prog 26 #[.slice Aa0 na0 ca0, .pointer (some ⟨a1, 0, none⟩)] w fun e w' => ∃ v, e = .returned v ∧ R v w' :=
  funV_sound (fn := Try.f26) (AL := f26.AL) (AC := f26.AC) W20.mixed (by kernel_rfl) (by rw [← f26.eq Aa0 na0 ca0 a1]; exact h)

end Go.Proofs.Ytjmlfknogjaemaa
