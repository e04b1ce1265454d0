/- The plain statements of some functions, printed by vcgen.py. -/
import Derived.Test.YtjmlfknogjaemaaDoorM4
import Derived.Test.YtjmlfknogjaemaaDoorProg
import Derived.KernelRfl
set_option maxRecDepth 100000
set_option linter.unusedVariables false
namespace Go.Proofs.YtjmlfknogjaemaaDoor
open Go Go.Proofs.YtjmlfknogjaemaaDoor.Vc
theorem W5.mixed : Tryd.prog.follows .mixedOrders = true := by kernel_rfl
/-- gatehouse/gatehouseref11.twice -/
def f32.AL : Nat → Option Ann := fun r => match r with | 2 => some ⟨[(3, .int .i64)], [0]⟩ | 5 => some ⟨[(4, .int .i64)], [0, 3]⟩ | _ => none
def f32.AC : Nat → Option Ann := fun _ => none
def f32.VC (Aa0 : Option Addr) (na0 ca0 : Nat) (w : World) (R : Value → World → Prop) : Prop :=
  ∃ I : Int → World → Nat → Prop,
  (∃ n, I 0 w n) ∧
  ∀ d : Env, ∀ (x3 : Int) (w_1 : World) (r : Nat), I x3 w_1 r →
  sel (decide ((x3 : Int) < ((na0 : Int) : Int))) (
  ∃ I_1 : Int → World → Nat → Prop,
  (∃ n, I_1 0 w_1 n) ∧
  ∀ d_1 : Env, ∀ (x4 : Int) (w_2 : World) (r_1 : Nat), I_1 x4 w_2 r_1 →
  sel (decide ((x4 : Int) < (x3 : Int))) (
  (0 : Int) ≤ x4 ∧ x4 < (na0 : Int) ∧
  needPtr Aa0 fun b18 o18 =>
  (0 : Int) ≤ x3 ∧ x3 < (na0 : Int) ∧
  needPtr Aa0 fun b22 o22 =>
  ∃ (s19 : ByteArray),
  w_2.cell? ⟨b18, o18 + x4.toNat * 1, none⟩ = some (.string s19) ∧
  ∃ (s23 : ByteArray),
  w_2.cell? ⟨b22, o22 + x3.toNat * 1, none⟩ = some (.string s23) ∧
  sel (decide (s19 = s23)) (
  R (.bool true) w_2.drew) (
  let i15 : Int := IntKind.i64.wrap (x4 + 1);
  ([.slice Aa0 na0 ca0, .int .i64 x3] : List Value) = ([.slice Aa0 na0 ca0, .int .i64 x3] : List Value) ∧ ∃ m, m < r_1 ∧ I_1 i15 w_2.drew m)) (
  let i10 : Int := IntKind.i64.wrap (x3 + 1);
  ([.slice Aa0 na0 ca0] : List Value) = ([.slice Aa0 na0 ca0] : List Value) ∧ ∃ m, m < r ∧ I i10 w_2 m)) (
  R (.bool false) w_1)
theorem f32.eq (Aa0 : Option Addr) (na0 ca0 : Nat) (w : World) (R : Value → World → Prop) : f32.VC Aa0 na0 ca0 w R = funV Tryd.prog Tryd.f32 f32.AL f32.AC #[.slice Aa0 na0 ca0] w R := by kernel_rfl
theorem f32.calls {Aa0 : Option Addr} {na0 ca0 : Nat} {w : World} {R : Value → World → Prop} (h : f32.VC Aa0 na0 ca0 w R) : Calls Tryd.prog 32 #[.slice Aa0 na0 ca0] w fun e w' => ∃ v, e = .returned v ∧ R v w' :=
  funV_sound (fn := Tryd.f32) (AL := f32.AL) (AC := f32.AC) W5.mixed (by kernel_rfl) (by rw [← f32.eq Aa0 na0 ca0]; exact h)

/-- gatehouse/gatehouseref11.Greatest -/
def f33.AL : Nat → Option Ann := fun r => match r with | 3 => some ⟨[(4, .int .i64), (5, .int .i64)], [0]⟩ | _ => none
def f33.AC : Nat → Option Ann := fun _ => none
def f33.VC (Aa0 : Option Addr) (na0 ca0 : Nat) (w : World) (R : Value → World → Prop) : Prop :=
  ∃ I : Int → Int → World → Nat → Prop,
  (∃ n, I 0 0 w n) ∧
  ∀ d : Env, ∀ (x4 : Int) (x5 : Int) (w_1 : World) (r : Nat), I x4 x5 w_1 r →
  sel (decide ((x5 : Int) < ((na0 : Int) : Int))) (
  (0 : Int) ≤ x5 ∧ x5 < (na0 : Int) ∧
  needPtr Aa0 fun b14 o14 =>
  ∃ (x15 : Int),
  w_1.cell? ⟨b14, o14 + x5.toNat * 1, none⟩ = some (.int .i64 x15) ∧
  sel (decide ((x15 : Int) < (1 : Int))) (
  R (.tuple #[.int .i64 0, .bool false]) w_1) (
  (0 : Int) ≤ x5 ∧ x5 < (na0 : Int) ∧
  needPtr Aa0 fun b20 o20 =>
  ∃ (x21 : Int),
  w_1.cell? ⟨b20, o20 + x5.toNat * 1, none⟩ = some (.int .i64 x21) ∧
  let i23 : Int := IntKind.i64.wrap (x4 + 1);
  sel (decide ((i23 : Int) < (x21 : Int))) (
  R (.tuple #[.int .i64 0, .bool false]) w_1) (
  (0 : Int) ≤ x5 ∧ x5 < (na0 : Int) ∧
  needPtr Aa0 fun b28 o28 =>
  ∃ (x29 : Int),
  w_1.cell? ⟨b28, o28 + x5.toNat * 1, none⟩ = some (.int .i64 x29) ∧
  sel (decide ((x4 : Int) < (x29 : Int))) (
  (0 : Int) ≤ x5 ∧ x5 < (na0 : Int) ∧
  needPtr Aa0 fun b34 o34 =>
  ∃ (x35 : Int),
  w_1.cell? ⟨b34, o34 + x5.toNat * 1, none⟩ = some (.int .i64 x35) ∧
  let i11 : Int := IntKind.i64.wrap (x5 + 1);
  ([.slice Aa0 na0 ca0] : List Value) = ([.slice Aa0 na0 ca0] : List Value) ∧ ∃ m, m < r ∧ I x35 i11 w_1 m) (
  let i11_1 : Int := IntKind.i64.wrap (x5 + 1);
  ([.slice Aa0 na0 ca0] : List Value) = ([.slice Aa0 na0 ca0] : List Value) ∧ ∃ m, m < r ∧ I x4 i11_1 w_1 m)))) (
  R (.tuple #[.int .i64 x4, .bool true]) w_1)
theorem f33.eq (Aa0 : Option Addr) (na0 ca0 : Nat) (w : World) (R : Value → World → Prop) : f33.VC Aa0 na0 ca0 w R = funV Tryd.prog Tryd.f33 f33.AL f33.AC #[.slice Aa0 na0 ca0] w R := by kernel_rfl
theorem f33.calls {Aa0 : Option Addr} {na0 ca0 : Nat} {w : World} {R : Value → World → Prop} (h : f33.VC Aa0 na0 ca0 w R) : Calls Tryd.prog 33 #[.slice Aa0 na0 ca0] w fun e w' => ∃ v, e = .returned v ∧ R v w' :=
  funV_sound (fn := Tryd.f33) (AL := f33.AL) (AC := f33.AC) W5.mixed (by kernel_rfl) (by rw [← f33.eq Aa0 na0 ca0]; exact h)

/-- gatehouse/gatehouseref11.shaped -/
def f34.AL : Nat → Option Ann := fun r => match r with | 5 => some ⟨[(7, .int .i64), (8, .int .i64)], [1, 2, 3]⟩ | 9 => some ⟨[(9, .int .i64)], [1, 2, 3, 7]⟩ | 14 => some ⟨[(10, .int .i64)], [1, 2, 3, 7, 9]⟩ | _ => none
def f34.AC : Nat → Option Ann := fun _ => none
def f34.VC (Aa0_0 : Option Addr) (na0_0 ca0_0 : Nat) (Aa0_1 : Option Addr) (na0_1 ca0_1 : Nat) (Aa0_2 : Option Addr) (na0_2 ca0_2 : Nat) (Aa0_3 : Option Addr) (na0_3 ca0_3 : Nat) (Aa0_4 : Option Addr) (na0_4 ca0_4 : Nat) (Aa0_5 : Option Addr) (na0_5 ca0_5 : Nat) (xa1 : Int) (xa2 : Int) (w : World) (R : Value → World → Prop) : Prop :=
  let w_1 : World := World.alloc w (.cells #[.slice Aa0_0 na0_0 ca0_0, .slice Aa0_1 na0_1 ca0_1, .slice Aa0_2 na0_2 ca0_2, .slice Aa0_3 na0_3 ca0_3, .slice Aa0_4 na0_4 ca0_4, .slice Aa0_5 na0_5 ca0_5] 32);
  ∃ (A12 : Option Addr) (n12 c12 : Nat),
  w_1.cell? ⟨w.heap.size, 5, none⟩ = some (.slice A12 n12 c12) ∧
  sel (((n12 : Int) : Int) != (xa1 : Int)) (
  R (.bool false) w_1) (
  ∃ I : Int → Int → World → Nat → Prop,
  (∃ n, I 1 0 w_1 n) ∧
  ∀ d : Env, ∀ (x7 : Int) (x8 : Int) (w_2 : World) (r : Nat), I x7 x8 w_2 r →
  ∃ (A18 : Option Addr) (n18 c18 : Nat),
  w_2.cell? ⟨w.heap.size, 0, none⟩ = some (.slice A18 n18 c18) ∧
  sel (decide ((x8 : Int) < ((n18 : Int) : Int))) (
  let i24 : Int := IntKind.i64.wrap (2 * x7);
  let i22 : Int := IntKind.i64.wrap (x8 + 1);
  ([.int .i64 xa1, .int .i64 xa2, .pointer (some ⟨w.heap.size, 0, none⟩)] : List Value) = ([.int .i64 xa1, .int .i64 xa2, .pointer (some ⟨w.heap.size, 0, none⟩)] : List Value) ∧ ∃ m, m < r ∧ I i24 i22 w_2 m) (
  ∃ I_1 : Int → World → Nat → Prop,
  (∃ n, I_1 0 w_2 n) ∧
  ∀ d_1 : Env, ∀ (x9 : Int) (w_3 : World) (r_1 : Nat), I_1 x9 w_3 r_1 →
  sel (decide ((x9 : Int) < (xa1 : Int))) (
  ∃ (A31 : Option Addr) (n31 c31 : Nat),
  w_3.cell? ⟨w.heap.size, 5, none⟩ = some (.slice A31 n31 c31) ∧
  (0 : Int) ≤ x9 ∧ x9 < (n31 : Int) ∧
  needPtr A31 fun b33 o33 =>
  ∃ (A34 : Option Addr) (n34 c34 : Nat),
  w_3.cell? ⟨b33, o33 + x9.toNat * 1, none⟩ = some (.slice A34 n34 c34) ∧
  sel (((n34 : Int) : Int) != (xa2 : Int)) (
  R (.bool false) w_3) (
  ∃ I_2 : Int → World → Nat → Prop,
  (∃ n, I_2 0 w_3 n) ∧
  ∀ d_2 : Env, ∀ (x10 : Int) (w_4 : World) (r_2 : Nat), I_2 x10 w_4 r_2 →
  sel (decide ((x10 : Int) < (xa2 : Int))) (
  ∃ (A44 : Option Addr) (n44 c44 : Nat),
  w_4.cell? ⟨w.heap.size, 5, none⟩ = some (.slice A44 n44 c44) ∧
  (0 : Int) ≤ x9 ∧ x9 < (n44 : Int) ∧
  needPtr A44 fun b46 o46 =>
  ∃ (A47 : Option Addr) (n47 c47 : Nat),
  w_4.cell? ⟨b46, o46 + x9.toNat * 1, none⟩ = some (.slice A47 n47 c47) ∧
  (0 : Int) ≤ x10 ∧ x10 < (n47 : Int) ∧
  needPtr A47 fun b49 o49 =>
  ∃ (x50 : Int),
  w_4.cell? ⟨b49, o49 + x10.toNat * 1, none⟩ = some (.int .u16 x50) ∧
  let i51 : Int := IntKind.i64.wrap x50;
  sel (decide ((x7 : Int) ≤ (i51 : Int))) (
  R (.bool false) w_4) (
  let i42 : Int := IntKind.i64.wrap (x10 + 1);
  ([.int .i64 xa1, .int .i64 xa2, .pointer (some ⟨w.heap.size, 0, none⟩), .int .i64 x7, .int .i64 x9] : List Value) = ([.int .i64 xa1, .int .i64 xa2, .pointer (some ⟨w.heap.size, 0, none⟩), .int .i64 x7, .int .i64 x9] : List Value) ∧ ∃ m, m < r_2 ∧ I_2 i42 w_4 m)) (
  let i29 : Int := IntKind.i64.wrap (x9 + 1);
  ([.int .i64 xa1, .int .i64 xa2, .pointer (some ⟨w.heap.size, 0, none⟩), .int .i64 x7] : List Value) = ([.int .i64 xa1, .int .i64 xa2, .pointer (some ⟨w.heap.size, 0, none⟩), .int .i64 x7] : List Value) ∧ ∃ m, m < r_1 ∧ I_1 i29 w_4 m))) (
  R (.bool true) w_3)))
theorem f34.eq (Aa0_0 : Option Addr) (na0_0 ca0_0 : Nat) (Aa0_1 : Option Addr) (na0_1 ca0_1 : Nat) (Aa0_2 : Option Addr) (na0_2 ca0_2 : Nat) (Aa0_3 : Option Addr) (na0_3 ca0_3 : Nat) (Aa0_4 : Option Addr) (na0_4 ca0_4 : Nat) (Aa0_5 : Option Addr) (na0_5 ca0_5 : Nat) (xa1 : Int) (xa2 : Int) (w : World) (R : Value → World → Prop) : f34.VC Aa0_0 na0_0 ca0_0 Aa0_1 na0_1 ca0_1 Aa0_2 na0_2 ca0_2 Aa0_3 na0_3 ca0_3 Aa0_4 na0_4 ca0_4 Aa0_5 na0_5 ca0_5 xa1 xa2 w R = funV Tryd.prog Tryd.f34 f34.AL f34.AC #[.agg #[.slice Aa0_0 na0_0 ca0_0, .slice Aa0_1 na0_1 ca0_1, .slice Aa0_2 na0_2 ca0_2, .slice Aa0_3 na0_3 ca0_3, .slice Aa0_4 na0_4 ca0_4, .slice Aa0_5 na0_5 ca0_5], .int .i64 xa1, .int .i64 xa2] w R := by kernel_rfl
theorem f34.calls {Aa0_0 : Option Addr} {na0_0 ca0_0 : Nat} {Aa0_1 : Option Addr} {na0_1 ca0_1 : Nat} {Aa0_2 : Option Addr} {na0_2 ca0_2 : Nat} {Aa0_3 : Option Addr} {na0_3 ca0_3 : Nat} {Aa0_4 : Option Addr} {na0_4 ca0_4 : Nat} {Aa0_5 : Option Addr} {na0_5 ca0_5 : Nat} {xa1 : Int} {xa2 : Int} {w : World} {R : Value → World → Prop} (h : f34.VC Aa0_0 na0_0 ca0_0 Aa0_1 na0_1 ca0_1 Aa0_2 na0_2 ca0_2 Aa0_3 na0_3 ca0_3 Aa0_4 na0_4 ca0_4 Aa0_5 na0_5 ca0_5 xa1 xa2 w R) : Calls Tryd.prog 34 #[.agg #[.slice Aa0_0 na0_0 ca0_0, .slice Aa0_1 na0_1 ca0_1, .slice Aa0_2 na0_2 ca0_2, .slice Aa0_3 na0_3 ca0_3, .slice Aa0_4 na0_4 ca0_4, .slice Aa0_5 na0_5 ca0_5], .int .i64 xa1, .int .i64 xa2] w fun e w' => ∃ v, e = .returned v ∧ R v w' :=
  funV_sound (fn := Tryd.f34) (AL := f34.AL) (AC := f34.AC) W5.mixed (by kernel_rfl) (by rw [← f34.eq Aa0_0 na0_0 ca0_0 Aa0_1 na0_1 ca0_1 Aa0_2 na0_2 ca0_2 Aa0_3 na0_3 ca0_3 Aa0_4 na0_4 ca0_4 Aa0_5 na0_5 ca0_5 xa1 xa2]; exact h)

/-- gatehouse/gatehouseref11.column -/
def f36.AL : Nat → Option Ann := fun r => match r with | 3 => some ⟨[(5, .slice), (6, .int .i64)], [0, 1]⟩ | _ => none
def f36.AC : Nat → Option Ann := fun _ => none
def f36.VC (Aa0 : Option Addr) (na0 ca0 : Nat) (xa1 : Int) (w : World) (R : Value → World → Prop) : Prop :=
  ∃ I : Option Addr → Nat → Nat → Int → World → Nat → Prop,
  (∃ n, I none 0 0 0 w n) ∧
  ∀ d : Env, ∀ (A5 : Option Addr) (n5 c5 : Nat) (x6 : Int) (w_1 : World) (r : Nat), I A5 n5 c5 x6 w_1 r →
  sel (decide ((x6 : Int) < ((na0 : Int) : Int))) (
  (0 : Int) ≤ x6 ∧ x6 < (na0 : Int) ∧
  needPtr Aa0 fun b16 o16 =>
  ∃ (A17 : Option Addr) (n17 c17 : Nat),
  w_1.cell? ⟨b16, o16 + x6.toNat * 1, none⟩ = some (.slice A17 n17 c17) ∧
  (0 : Int) ≤ xa1 ∧ xa1 < (n17 : Int) ∧
  needPtr A17 fun b19 o19 =>
  ∃ (x20 : Int),
  w_1.cell? ⟨b19, o19 + xa1.toNat * 1, none⟩ = some (.int .u16 x20) ∧
  let w_2 : World := World.alloc w_1 (.cells #[.int .u16 x20] 59);
  ∃ (A22 : Option Addr) (n22 c22 : Nat),
  ∃ w_3 : World, (Builtin.append_ #[29, 29] 29 #[.slice A5 n5 c5, .slice (some ⟨w_1.heap.size, 0, none⟩) 1 1]).run Tryd.prog w_2 = .ok (.slice A22 n22 c22) w_3 ∧
  let i12 : Int := IntKind.i64.wrap (x6 + 1);
  ([.slice Aa0 na0 ca0, .int .i64 xa1] : List Value) = ([.slice Aa0 na0 ca0, .int .i64 xa1] : List Value) ∧ ∃ m, m < r ∧ I A22 n22 c22 i12 w_3 m) (
  R (.slice A5 n5 c5) w_1)
theorem f36.eq (Aa0 : Option Addr) (na0 ca0 : Nat) (xa1 : Int) (w : World) (R : Value → World → Prop) : f36.VC Aa0 na0 ca0 xa1 w R = funV Tryd.prog Tryd.f36 f36.AL f36.AC #[.slice Aa0 na0 ca0, .int .i64 xa1] w R := by kernel_rfl
theorem f36.calls {Aa0 : Option Addr} {na0 ca0 : Nat} {xa1 : Int} {w : World} {R : Value → World → Prop} (h : f36.VC Aa0 na0 ca0 xa1 w R) : Calls Tryd.prog 36 #[.slice Aa0 na0 ca0, .int .i64 xa1] w fun e w' => ∃ v, e = .returned v ∧ R v w' :=
  funV_sound (fn := Tryd.f36) (AL := f36.AL) (AC := f36.AC) W5.mixed (by kernel_rfl) (by rw [← f36.eq Aa0 na0 ca0 xa1]; exact h)

/-- gatehouse/gatehouseref11.equal -/
def f35.AL : Nat → Option Ann := fun r => match r with | 4 => some ⟨[(5, .int .i64)], [0, 1]⟩ | _ => none
def f35.AC : Nat → Option Ann := fun _ => none
def f35.VC (Aa0 : Option Addr) (na0 ca0 : Nat) (Aa1 : Option Addr) (na1 ca1 : Nat) (w : World) (R : Value → World → Prop) : Prop :=
  sel (((na0 : Int) : Int) != ((na1 : Int) : Int)) (
  R (.bool false) w) (
  ∃ I : Int → World → Nat → Prop,
  (∃ n, I 0 w n) ∧
  ∀ d : Env, ∀ (x5 : Int) (w_1 : World) (r : Nat), I x5 w_1 r →
  sel (decide ((x5 : Int) < ((na0 : Int) : Int))) (
  (0 : Int) ≤ x5 ∧ x5 < (na0 : Int) ∧
  needPtr Aa0 fun b19 o19 =>
  (0 : Int) ≤ x5 ∧ x5 < (na1 : Int) ∧
  needPtr Aa1 fun b23 o23 =>
  ∃ (x20 : Int),
  w_1.cell? ⟨b19, o19 + x5.toNat * 1, none⟩ = some (.int .u16 x20) ∧
  ∃ (x24 : Int),
  w_1.cell? ⟨b23, o23 + x5.toNat * 1, none⟩ = some (.int .u16 x24) ∧
  sel ((x20 : Int) != (x24 : Int)) (
  R (.bool false) w_1.drew) (
  let i16 : Int := IntKind.i64.wrap (x5 + 1);
  ([.slice Aa0 na0 ca0, .slice Aa1 na1 ca1] : List Value) = ([.slice Aa0 na0 ca0, .slice Aa1 na1 ca1] : List Value) ∧ ∃ m, m < r ∧ I i16 w_1.drew m)) (
  R (.bool true) w_1))
theorem f35.eq (Aa0 : Option Addr) (na0 ca0 : Nat) (Aa1 : Option Addr) (na1 ca1 : Nat) (w : World) (R : Value → World → Prop) : f35.VC Aa0 na0 ca0 Aa1 na1 ca1 w R = funV Tryd.prog Tryd.f35 f35.AL f35.AC #[.slice Aa0 na0 ca0, .slice Aa1 na1 ca1] w R := by kernel_rfl
theorem f35.calls {Aa0 : Option Addr} {na0 ca0 : Nat} {Aa1 : Option Addr} {na1 ca1 : Nat} {w : World} {R : Value → World → Prop} (h : f35.VC Aa0 na0 ca0 Aa1 na1 ca1 w R) : Calls Tryd.prog 35 #[.slice Aa0 na0 ca0, .slice Aa1 na1 ca1] w fun e w' => ∃ v, e = .returned v ∧ R v w' :=
  funV_sound (fn := Tryd.f35) (AL := f35.AL) (AC := f35.AC) W5.mixed (by kernel_rfl) (by rw [← f35.eq Aa0 na0 ca0 Aa1 na1 ca1]; exact h)

/-- gatehouse/graph.once -/
def f49.AL : Nat → Option Ann := fun r => match r with | 2 => some ⟨[(7, .int .i64)], [0, 5, 6]⟩ | _ => none
def f49.AC : Nat → Option Ann := fun _ => none
def f49.VC (Aa0 : Option Addr) (na0 ca0 : Nat) (w : World) (R : Value → World → Prop) : Prop :=
  ∃ I : Int → World → Nat → Prop,
  (∃ n, I 0 w n) ∧
  ∀ d : Env, ∀ (x7 : Int) (w_1 : World) (r : Nat), I x7 w_1 r →
  sel (decide ((x7 : Int) < ((na0 : Int) : Int))) (
  (0 : Int) ≤ x7 ∧ x7 < (na0 : Int) ∧
  needPtr Aa0 fun b10 o10 =>
  ∃ (s11 : ByteArray),
  w_1.cell? ⟨b10, o10 + x7.toNat * 1, none⟩ = some (.string s11) ∧
  (0 : Int) ≤ x7 ∧ x7 ≤ (ca0 : Int) ∧
  Calls Tryd.prog 65 #[.slice Aa0 x7.toNat ca0, .string s11] w_1 fun e_1 w_2 =>
  ∃ (b16 : Bool),
  e_1 = .returned (.bool b16) ∧
  sel b16 (
  R (.bool false) w_2) (
  let i17 : Int := IntKind.i64.wrap (x7 + 1);
  ([.slice Aa0 na0 ca0, .slice Aa0 na0 ca0, .int .i64 (na0 : Int)] : List Value) = ([.slice Aa0 na0 ca0, .slice Aa0 na0 ca0, .int .i64 (na0 : Int)] : List Value) ∧ ∃ m, m < r ∧ I i17 w_2 m)) (
  R (.bool true) w_1)
theorem f49.eq (Aa0 : Option Addr) (na0 ca0 : Nat) (w : World) (R : Value → World → Prop) : f49.VC Aa0 na0 ca0 w R = funV Tryd.prog Tryd.f49 f49.AL f49.AC #[.slice Aa0 na0 ca0] w R := by kernel_rfl
theorem f49.calls {Aa0 : Option Addr} {na0 ca0 : Nat} {w : World} {R : Value → World → Prop} (h : f49.VC Aa0 na0 ca0 w R) : Calls Tryd.prog 49 #[.slice Aa0 na0 ca0] w fun e w' => ∃ v, e = .returned v ∧ R v w' :=
  funV_sound (fn := Tryd.f49) (AL := f49.AL) (AC := f49.AC) W5.mixed (by kernel_rfl) (by rw [← f49.eq Aa0 na0 ca0]; exact h)

/-- gatehouse/graph.counted -/
def f50.AL : Nat → Option Ann := fun r => match r with | 3 => some ⟨[(4, .int .i64), (9, .int .i64)], [7, 8]⟩ | _ => none
def f50.AC : Nat → Option Ann := fun _ => none
def f50.VC (Aa0 : Option Addr) (na0 ca0 : Nat) (w : World) (R : Value → World → Prop) : Prop :=
  ∃ I : Int → Int → World → Nat → Prop,
  (∃ n, I 0 0 w n) ∧
  ∀ d : Env, ∀ (x4 : Int) (x9 : Int) (w_1 : World) (r : Nat), I x4 x9 w_1 r →
  sel (decide ((x9 : Int) < ((na0 : Int) : Int))) (
  (0 : Int) ≤ x9 ∧ x9 < (na0 : Int) ∧
  needPtr Aa0 fun b11 o11 =>
  ∃ (x12 : Int),
  w_1.cell? ⟨b11, o11 + x9.toNat * 1, none⟩ = some (.int .i64 x12) ∧
  sel (decide ((x12 : Int) < (1 : Int))) (
  R (.tuple #[.int .i64 0, .bool false]) w_1) (
  let i18 : Int := IntKind.i64.wrap (x4 + 1);
  sel (decide ((i18 : Int) < (x12 : Int))) (
  R (.tuple #[.int .i64 0, .bool false]) w_1) (
  ∃ (x23 : Int),
  ∃ w_2 : World, (Builtin.max_ #[3, 3] 3 #[.int .i64 x4, .int .i64 x12]).run Tryd.prog w_1 = .ok (.int .i64 x23) w_2 ∧
  let i24 : Int := IntKind.i64.wrap (x9 + 1);
  ([.slice Aa0 na0 ca0, .int .i64 (na0 : Int)] : List Value) = ([.slice Aa0 na0 ca0, .int .i64 (na0 : Int)] : List Value) ∧ ∃ m, m < r ∧ I x23 i24 w_2 m))) (
  R (.tuple #[.int .i64 x4, .bool true]) w_1)
theorem f50.eq (Aa0 : Option Addr) (na0 ca0 : Nat) (w : World) (R : Value → World → Prop) : f50.VC Aa0 na0 ca0 w R = funV Tryd.prog Tryd.f50 f50.AL f50.AC #[.slice Aa0 na0 ca0] w R := by kernel_rfl
theorem f50.calls {Aa0 : Option Addr} {na0 ca0 : Nat} {w : World} {R : Value → World → Prop} (h : f50.VC Aa0 na0 ca0 w R) : Calls Tryd.prog 50 #[.slice Aa0 na0 ca0] w fun e w' => ∃ v, e = .returned v ∧ R v w' :=
  funV_sound (fn := Tryd.f50) (AL := f50.AL) (AC := f50.AC) W5.mixed (by kernel_rfl) (by rw [← f50.eq Aa0 na0 ca0]; exact h)

/-- slices.Contains[[]string,string] -/
def f65.AL : Nat → Option Ann := fun _ => none
def f65.AC : Nat → Option Ann := fun _ => none
def f65.VC (Aa0 : Option Addr) (na0 ca0 : Nat) (sa1 : ByteArray) (w : World) (R : Value → World → Prop) : Prop :=
  Calls Tryd.prog 74 #[.slice Aa0 na0 ca0, .string sa1] w fun e_1 w_1 =>
  ∃ (x7 : Int),
  e_1 = .returned (.int .i64 x7) ∧
  R (.bool (decide ((0 : Int) ≤ (x7 : Int)))) w_1
theorem f65.eq (Aa0 : Option Addr) (na0 ca0 : Nat) (sa1 : ByteArray) (w : World) (R : Value → World → Prop) : f65.VC Aa0 na0 ca0 sa1 w R = funV Tryd.prog Tryd.f65 f65.AL f65.AC #[.slice Aa0 na0 ca0, .string sa1] w R := by kernel_rfl
theorem f65.calls {Aa0 : Option Addr} {na0 ca0 : Nat} {sa1 : ByteArray} {w : World} {R : Value → World → Prop} (h : f65.VC Aa0 na0 ca0 sa1 w R) : Calls Tryd.prog 65 #[.slice Aa0 na0 ca0, .string sa1] w fun e w' => ∃ v, e = .returned v ∧ R v w' :=
  funV_sound (fn := Tryd.f65) (AL := f65.AL) (AC := f65.AC) W5.mixed (by kernel_rfl) (by rw [← f65.eq Aa0 na0 ca0 sa1]; exact h)

/-- slices.Index[[]string,string] -/
def f74.AL : Nat → Option Ann := fun r => match r with | 2 => some ⟨[(8, .int .i64)], [0, 1, 7]⟩ | _ => none
def f74.AC : Nat → Option Ann := fun _ => none
def f74.VC (Aa0 : Option Addr) (na0 ca0 : Nat) (sa1 : ByteArray) (w : World) (R : Value → World → Prop) : Prop :=
  ∃ I : Int → World → Nat → Prop,
  (∃ n, I 0 w n) ∧
  ∀ d : Env, ∀ (x8 : Int) (w_1 : World) (r : Nat), I x8 w_1 r →
  sel (decide ((x8 : Int) < ((na0 : Int) : Int))) (
  (0 : Int) ≤ x8 ∧ x8 < (na0 : Int) ∧
  needPtr Aa0 fun b14 o14 =>
  ∃ (s15 : ByteArray),
  w_1.cell? ⟨b14, o14 + x8.toNat * 1, none⟩ = some (.string s15) ∧
  sel (decide (sa1 = s15)) (
  R (.int .i64 x8) w_1) (
  let i18 : Int := IntKind.i64.wrap (x8 + 1);
  ([.slice Aa0 na0 ca0, .string sa1, .int .i64 (na0 : Int)] : List Value) = ([.slice Aa0 na0 ca0, .string sa1, .int .i64 (na0 : Int)] : List Value) ∧ ∃ m, m < r ∧ I i18 w_1 m)) (
  R (.int .i64 (-1)) w_1)
theorem f74.eq (Aa0 : Option Addr) (na0 ca0 : Nat) (sa1 : ByteArray) (w : World) (R : Value → World → Prop) : f74.VC Aa0 na0 ca0 sa1 w R = funV Tryd.prog Tryd.f74 f74.AL f74.AC #[.slice Aa0 na0 ca0, .string sa1] w R := by kernel_rfl
theorem f74.calls {Aa0 : Option Addr} {na0 ca0 : Nat} {sa1 : ByteArray} {w : World} {R : Value → World → Prop} (h : f74.VC Aa0 na0 ca0 sa1 w R) : Calls Tryd.prog 74 #[.slice Aa0 na0 ca0, .string sa1] w fun e w' => ∃ v, e = .returned v ∧ R v w' :=
  funV_sound (fn := Tryd.f74) (AL := f74.AL) (AC := f74.AC) W5.mixed (by kernel_rfl) (by rw [← f74.eq Aa0 na0 ca0 sa1]; exact h)

/-- slices.Max[[]int,int] -/
def f52.AL : Nat → Option Ann := fun r => match r with | 5 => some ⟨[(3, .int .i64), (4, .int .i64)], [0]⟩ | _ => none
def f52.AC : Nat → Option Ann := fun _ => none
def f52.VC (Aa0 : Option Addr) (na0 ca0 : Nat) (w : World) (R : Value → World → Prop) : Prop :=
  sel (decide (((na0 : Int) : Int) < (1 : Int))) (
  False) (
  (0 : Int) ≤ 0 ∧ 0 < (na0 : Int) ∧
  needPtr Aa0 fun b10 o10 =>
  ∃ (x11 : Int),
  w.cell? ⟨b10, o10, none⟩ = some (.int .i64 x11) ∧
  ∃ I : Int → Int → World → Nat → Prop,
  (∃ n, I x11 1 w n) ∧
  ∀ d : Env, ∀ (x3 : Int) (x4 : Int) (w_1 : World) (r : Nat), I x3 x4 w_1 r →
  sel (decide ((x4 : Int) < ((na0 : Int) : Int))) (
  (0 : Int) ≤ x4 ∧ x4 < (na0 : Int) ∧
  needPtr Aa0 fun b21 o21 =>
  ∃ (x22 : Int),
  w_1.cell? ⟨b21, o21 + x4.toNat * 1, none⟩ = some (.int .i64 x22) ∧
  ∃ (x23 : Int),
  ∃ w_2 : World, (Builtin.max_ #[3, 3] 3 #[.int .i64 x3, .int .i64 x22]).run Tryd.prog w_1 = .ok (.int .i64 x23) w_2 ∧
  let i17 : Int := IntKind.i64.wrap (x4 + 1);
  ([.slice Aa0 na0 ca0] : List Value) = ([.slice Aa0 na0 ca0] : List Value) ∧ ∃ m, m < r ∧ I x23 i17 w_2 m) (
  R (.int .i64 x3) w_1))
theorem f52.eq (Aa0 : Option Addr) (na0 ca0 : Nat) (w : World) (R : Value → World → Prop) : f52.VC Aa0 na0 ca0 w R = funV Tryd.prog Tryd.f52 f52.AL f52.AC #[.slice Aa0 na0 ca0] w R := by kernel_rfl
theorem f52.calls {Aa0 : Option Addr} {na0 ca0 : Nat} {w : World} {R : Value → World → Prop} (h : f52.VC Aa0 na0 ca0 w R) : Calls Tryd.prog 52 #[.slice Aa0 na0 ca0] w fun e w' => ∃ v, e = .returned v ∧ R v w' :=
  funV_sound (fn := Tryd.f52) (AL := f52.AL) (AC := f52.AC) W5.mixed (by kernel_rfl) (by rw [← f52.eq Aa0 na0 ca0]; exact h)

end Go.Proofs.YtjmlfknogjaemaaDoor
