/- The plain statements of some functions, printed by vcgen.py. -/
import Derived.Test.YtebahglmdifmpaaVcC
import Derived.Test.YtebahglmdifmpaaProg
import Derived.KernelRfl
set_option maxRecDepth 100000
set_option linter.unusedVariables false
namespace Go.Proofs.Ytebahglmdifmpaa
open Go Go.Proofs.Ytebahglmdifmpaa.Vc
theorem V8.mixed : Try.prog.follows .mixedOrders = true := by kernel_rfl
/-- (*gatehouse/arena.Arena).Blocks -/
def f45.AL : Nat → Option Ann := fun r => match r with | 3 => some ⟨[(12, .int .i64)], [0, 3, 10, 11]⟩ | 8 => some ⟨[(3, .slice), (30, .int .i64)], [0, 28, 29]⟩ | _ => none
def f45.AC : Nat → Option Ann := fun _ => none
def f45.VC (a0 : Nat) (w : World) (R : Value → World → Prop) : Prop :=
  Calls Try.prog 72 #[.pointer (some ⟨a0, 0, none⟩)] w fun e_1 w_1 =>
  ∃ (A9 : Option Addr) (n9 c9 : Nat),
  e_1 = .returned (.slice A9 n9 c9) ∧
  ∃ I : Int → World → Nat → Prop,
  (∃ n, I 0 w_1 n) ∧
  ∀ d : Env, ∀ (x12 : Int) (w_2 : World) (r : Nat), I x12 w_2 r →
  sel (decide ((x12 : Int) < ((n9 : Int) : Int))) (
    (0 : Int) ≤ x12 ∧ x12 < (n9 : Int) ∧
    needPtr A9 fun b14 o14 =>
    ∃ (x15_0 : Int),
    w_2.cell? ⟨b14, o14 + x12.toNat * 3, none⟩ = some (.int .i64 x15_0) ∧
    ∃ (x15_1 : Int),
    w_2.cell? ⟨b14, o14 + x12.toNat * 3 + 1, none⟩ = some (.int .i64 x15_1) ∧
    ∃ (b15_2 : Bool),
    w_2.cell? ⟨b14, o14 + x12.toNat * 3 + 1 + 1, none⟩ = some (.bool b15_2) ∧
    let w_3 : World := World.alloc w_2 (.cells #[.int .i64 0, .int .i64 0, .bool false] 96);
    canStore w_3 w_2.heap.size 0 3 ∧
    let w_4 : World := setCs w_3 w_2.heap.size 0 [.int .i64 x15_0, .int .i64 x15_1, .bool b15_2];
    ∃ (p19 : Option Addr),
    w_4.cell? ⟨a0, 1, none⟩ = some (.pointer p19) ∧
    ∃ (x20_0 : Int),
    w_4.cell? ⟨w_2.heap.size, 0, none⟩ = some (.int .i64 x20_0) ∧
    ∃ (x20_1 : Int),
    w_4.cell? ⟨w_2.heap.size, 1, none⟩ = some (.int .i64 x20_1) ∧
    ∃ (b20_2 : Bool),
    w_4.cell? ⟨w_2.heap.size, 2, none⟩ = some (.bool b20_2) ∧
    Calls Try.prog 70 #[.pointer p19, .agg #[.int .i64 x20_0, .int .i64 x20_1, .bool b20_2]] w_4.drew fun e_2 w_5 =>
    e_2 = .returned (.tuple #[]) ∧
    let i22 : Int := IntKind.i64.wrap (x12 + 1);
    ([.pointer (some ⟨a0, 0, none⟩), .slice A9 n9 c9, .slice A9 n9 c9, .int .i64 (n9 : Int)] : List Value) = ([.pointer (some ⟨a0, 0, none⟩), .slice A9 n9 c9, .slice A9 n9 c9, .int .i64 (n9 : Int)] : List Value) ∧ ∃ m, m < r ∧ I i22 w_5 m) (
    ∃ (m26 : Option Nat),
    w_2.cell? ⟨a0, 2, none⟩ = some (.map m26) ∧
    Calls Try.prog 76 #[.map m26] w_2 fun e_3 w_6 =>
    ∃ (v27 : Value),
    e_3 = .returned v27 ∧
    Calls Try.prog 75 #[v27] w_6 fun e_4 w_7 =>
    ∃ (A28 : Option Addr) (n28 c28 : Nat),
    e_4 = .returned (.slice A28 n28 c28) ∧
    ∃ I_1 : Option Addr → Nat → Nat → Int → World → Nat → Prop,
    (∃ n, I_1 A9 n9 c9 0 w_7 n) ∧
    ∀ d_1 : Env, ∀ (A3 : Option Addr) (n3 c3 : Nat) (x30 : Int) (w_8 : World) (r_1 : Nat), I_1 A3 n3 c3 x30 w_8 r_1 →
    sel (decide ((x30 : Int) < ((n28 : Int) : Int))) (
      (0 : Int) ≤ x30 ∧ x30 < (n28 : Int) ∧
      needPtr A28 fun b32 o32 =>
      ∃ (x33 : Int),
      w_8.cell? ⟨b32, o32 + x30.toNat * 1, none⟩ = some (.int .i64 x33) ∧
      ∃ (m39 : Option Nat),
      w_8.cell? ⟨a0, 2, none⟩ = some (.map m39) ∧
      ∃ (x41 : Int),
      ∃ w_9 : World, (Instr.lookup 136 (.map m39) (.int .i64 x33) false).run Try.prog w_8 = .ok (.int .i64 x41) w_9 ∧
      let w_10 : World := World.alloc w_9 (.cells #[.int .i64 x33, .int .i64 x41, .bool false] 96);
      ∃ (A44 : Option Addr) (n44 c44 : Nat),
      ∃ w_11 : World, (Builtin.append_ #[83, 83] 83 #[.slice A3 n3 c3, .slice (some ⟨w_9.heap.size, 0, none⟩) 1 1]).run Try.prog w_10 = .ok (.slice A44 n44 c44) w_11 ∧
      let i45 : Int := IntKind.i64.wrap (x30 + 1);
      ([.pointer (some ⟨a0, 0, none⟩), .slice A28 n28 c28, .int .i64 (n28 : Int)] : List Value) = ([.pointer (some ⟨a0, 0, none⟩), .slice A28 n28 c28, .int .i64 (n28 : Int)] : List Value) ∧ ∃ m, m < r_1 ∧ I_1 A44 n44 c44 i45 w_11 m) (
      Calls Try.prog 77 #[.slice A3 n3 c3, .func (.func 78) #[] #[]] w_8 fun e_5 w_12 =>
      e_5 = .returned (.tuple #[]) ∧
      R (.slice A3 n3 c3) w_12))
theorem f45.eq (a0 : Nat) (w : World) (R : Value → World → Prop) : f45.VC a0 w R = funV Try.prog Try.f45 f45.AL f45.AC #[.pointer (some ⟨a0, 0, none⟩)] w R := by kernel_rfl
theorem f45.calls {a0 : Nat} {w : World} {R : Value → World → Prop} (h : f45.VC a0 w R) : Calls Try.prog 45 #[.pointer (some ⟨a0, 0, none⟩)] w fun e w' => ∃ v, e = .returned v ∧ R v w' :=
  funV_sound (fn := Try.f45) (AL := f45.AL) (AC := f45.AC) V8.mixed (by kernel_rfl) (by rw [← f45.eq a0]; exact h)

/-- (*gatehouse/cells.Memory).Words -/
def f51.AL : Nat → Option Ann := fun _ => none
def f51.AC : Nat → Option Ann := fun _ => none
def f51.VC (a0 : Nat) (xa1 : Int) (xa2 : Int) (w : World) (R : Value → World → Prop) : Prop :=
  let w_1 : World := World.alloc w (.cells #[.pointer (some ⟨a0, 0, none⟩), .slice none 0 0] 153);
  Calls Try.prog 81 #[.pointer (some ⟨a0, 0, none⟩), .int .i64 xa1, .int .i64 xa2, .func (.func 82) #[.pointer (some ⟨w.heap.size, 0, none⟩)] #[]] w_1 fun e_1 w_2 =>
  ∃ (x18 : Int),
  e_1 = .returned (.int .i64 x18) ∧
  ∃ (A22 : Option Addr) (n22 c22 : Nat),
  w_2.cell? ⟨w.heap.size, 1, none⟩ = some (.slice A22 n22 c22) ∧
  R (.tuple #[.slice A22 n22 c22, .int .i64 x18]) w_2
theorem f51.eq (a0 : Nat) (xa1 : Int) (xa2 : Int) (w : World) (R : Value → World → Prop) : f51.VC a0 xa1 xa2 w R = funV Try.prog Try.f51 f51.AL f51.AC #[.pointer (some ⟨a0, 0, none⟩), .int .i64 xa1, .int .i64 xa2] w R := by kernel_rfl
theorem f51.calls {a0 : Nat} {xa1 : Int} {xa2 : Int} {w : World} {R : Value → World → Prop} (h : f51.VC a0 xa1 xa2 w R) : Calls Try.prog 51 #[.pointer (some ⟨a0, 0, none⟩), .int .i64 xa1, .int .i64 xa2] w fun e w' => ∃ v, e = .returned v ∧ R v w' :=
  funV_sound (fn := Try.f51) (AL := f51.AL) (AC := f51.AC) V8.mixed (by kernel_rfl) (by rw [← f51.eq a0 xa1 xa2]; exact h)

/-- gatehouse/gatehouselaw15.covers -/
def f52.AL : Nat → Option Ann := fun r => match r with | 3 => some ⟨[(7, .int .i64), (8, .int .i64)], [0, 2]⟩ | _ => none
def f52.AC : Nat → Option Ann := fun _ => none
def f52.VC (Aa0 : Option Addr) (na0 ca0 : Nat) (xa1 : Int) (xa2 : Int) (w : World) (R : Value → World → Prop) : Prop :=
  ∃ I : Int → Int → World → Nat → Prop,
  (∃ n, I xa1 0 w n) ∧
  ∀ d : Env, ∀ (x7 : Int) (x8 : Int) (w_1 : World) (r : Nat), I x7 x8 w_1 r →
  sel (decide ((x8 : Int) < ((na0 : Int) : Int))) (
    (0 : Int) ≤ x8 ∧ x8 < (na0 : Int) ∧
    needPtr Aa0 fun b18 o18 =>
    ∃ (x20 : Int),
    w_1.cell? ⟨b18, o18 + x8.toNat * 3, none⟩ = some (.int .i64 x20) ∧
    sel ((x20 : Int) != (x7 : Int)) (
      R (.bool false) w_1) (
      (0 : Int) ≤ x8 ∧ x8 < (na0 : Int) ∧
      needPtr Aa0 fun b26 o26 =>
      ∃ (x28 : Int),
      w_1.cell? ⟨b26, o26 + x8.toNat * 3 + 1, none⟩ = some (.int .i64 x28) ∧
      sel (decide ((x28 : Int) < (1 : Int))) (
        R (.bool false) w_1) (
        (0 : Int) ≤ x8 ∧ x8 < (na0 : Int) ∧
        needPtr Aa0 fun b34 o34 =>
        ∃ (x36 : Int),
        w_1.cell? ⟨b34, o34 + x8.toNat * 3 + 1, none⟩ = some (.int .i64 x36) ∧
        let i39 : Int := IntKind.i64.wrap (xa2 - x7);
        sel (decide ((i39 : Int) < (x36 : Int))) (
          R (.bool false) w_1) (
          sel (decide ((0 : Int) < (x8 : Int))) (
            (0 : Int) ≤ x8 ∧ x8 < (na0 : Int) ∧
            needPtr Aa0 fun b48 o48 =>
            ∃ (b50 : Bool),
            w_1.cell? ⟨b48, o48 + x8.toNat * 3 + 2, none⟩ = some (.bool b50) ∧
            sel b50 (
              let i55 : Int := IntKind.i64.wrap (x8 - 1);
              (0 : Int) ≤ i55 ∧ i55 < (na0 : Int) ∧
              needPtr Aa0 fun b56 o56 =>
              ∃ (b58 : Bool),
              w_1.cell? ⟨b56, o56 + i55.toNat * 3 + 2, none⟩ = some (.bool b58) ∧
              sel b58 (
                R (.bool false) w_1) (
                (0 : Int) ≤ x8 ∧ x8 < (na0 : Int) ∧
                needPtr Aa0 fun b64 o64 =>
                ∃ (x66 : Int),
                w_1.cell? ⟨b64, o64 + x8.toNat * 3 + 1, none⟩ = some (.int .i64 x66) ∧
                let i67 : Int := IntKind.i64.wrap (x7 + x66);
                let i15 : Int := IntKind.i64.wrap (x8 + 1);
                ([.slice Aa0 na0 ca0, .int .i64 xa2] : List Value) = ([.slice Aa0 na0 ca0, .int .i64 xa2] : List Value) ∧ ∃ m, m < r ∧ I i67 i15 w_1 m)) (
              (0 : Int) ≤ x8 ∧ x8 < (na0 : Int) ∧
              needPtr Aa0 fun b64_1 o64_1 =>
              ∃ (x66_1 : Int),
              w_1.cell? ⟨b64_1, o64_1 + x8.toNat * 3 + 1, none⟩ = some (.int .i64 x66_1) ∧
              let i67_1 : Int := IntKind.i64.wrap (x7 + x66_1);
              let i15_1 : Int := IntKind.i64.wrap (x8 + 1);
              ([.slice Aa0 na0 ca0, .int .i64 xa2] : List Value) = ([.slice Aa0 na0 ca0, .int .i64 xa2] : List Value) ∧ ∃ m, m < r ∧ I i67_1 i15_1 w_1 m)) (
            (0 : Int) ≤ x8 ∧ x8 < (na0 : Int) ∧
            needPtr Aa0 fun b64_2 o64_2 =>
            ∃ (x66_2 : Int),
            w_1.cell? ⟨b64_2, o64_2 + x8.toNat * 3 + 1, none⟩ = some (.int .i64 x66_2) ∧
            let i67_2 : Int := IntKind.i64.wrap (x7 + x66_2);
            let i15_2 : Int := IntKind.i64.wrap (x8 + 1);
            ([.slice Aa0 na0 ca0, .int .i64 xa2] : List Value) = ([.slice Aa0 na0 ca0, .int .i64 xa2] : List Value) ∧ ∃ m, m < r ∧ I i67_2 i15_2 w_1 m))))) (
    R (.bool ((x7 : Int) == (xa2 : Int))) w_1)
theorem f52.eq (Aa0 : Option Addr) (na0 ca0 : Nat) (xa1 : Int) (xa2 : Int) (w : World) (R : Value → World → Prop) : f52.VC Aa0 na0 ca0 xa1 xa2 w R = funV Try.prog Try.f52 f52.AL f52.AC #[.slice Aa0 na0 ca0, .int .i64 xa1, .int .i64 xa2] w R := by kernel_rfl
theorem f52.calls {Aa0 : Option Addr} {na0 ca0 : Nat} {xa1 : Int} {xa2 : Int} {w : World} {R : Value → World → Prop} (h : f52.VC Aa0 na0 ca0 xa1 xa2 w R) : Calls Try.prog 52 #[.slice Aa0 na0 ca0, .int .i64 xa1, .int .i64 xa2] w fun e w' => ∃ v, e = .returned v ∧ R v w' :=
  funV_sound (fn := Try.f52) (AL := f52.AL) (AC := f52.AC) V8.mixed (by kernel_rfl) (by rw [← f52.eq Aa0 na0 ca0 xa1 xa2]; exact h)

/-- gatehouse/gatehouselaw15.fits -/
def f53.AL : Nat → Option Ann := fun r => match r with | 2 => some ⟨[(5, .int .i64)], [0, 1]⟩ | _ => none
def f53.AC : Nat → Option Ann := fun _ => none
def f53.VC (Aa0 : Option Addr) (na0 ca0 : Nat) (xa1 : Int) (w : World) (R : Value → World → Prop) : Prop :=
  ∃ I : Int → World → Nat → Prop,
  (∃ n, I 0 w n) ∧
  ∀ d : Env, ∀ (x5 : Int) (w_1 : World) (r : Nat), I x5 w_1 r →
  sel (decide ((x5 : Int) < ((na0 : Int) : Int))) (
    (0 : Int) ≤ x5 ∧ x5 < (na0 : Int) ∧
    needPtr Aa0 fun b14 o14 =>
    ∃ (b16 : Bool),
    w_1.cell? ⟨b14, o14 + x5.toNat * 3 + 2, none⟩ = some (.bool b16) ∧
    sel b16 (
      (0 : Int) ≤ x5 ∧ x5 < (na0 : Int) ∧
      needPtr Aa0 fun b20 o20 =>
      ∃ (x22 : Int),
      w_1.cell? ⟨b20, o20 + x5.toNat * 3 + 1, none⟩ = some (.int .i64 x22) ∧
      sel (decide ((xa1 : Int) ≤ (x22 : Int))) (
        (0 : Int) ≤ x5 ∧ x5 < (na0 : Int) ∧
        needPtr Aa0 fun b28 o28 =>
        ∃ (x30 : Int),
        w_1.cell? ⟨b28, o28 + x5.toNat * 3, none⟩ = some (.int .i64 x30) ∧
        R (.int .i64 x30) w_1) (
        let i11 : Int := IntKind.i64.wrap (x5 + 1);
        ([.slice Aa0 na0 ca0, .int .i64 xa1] : List Value) = ([.slice Aa0 na0 ca0, .int .i64 xa1] : List Value) ∧ ∃ m, m < r ∧ I i11 w_1 m)) (
      let i11_1 : Int := IntKind.i64.wrap (x5 + 1);
      ([.slice Aa0 na0 ca0, .int .i64 xa1] : List Value) = ([.slice Aa0 na0 ca0, .int .i64 xa1] : List Value) ∧ ∃ m, m < r ∧ I i11_1 w_1 m)) (
    R (.int .i64 (-1)) w_1)
theorem f53.eq (Aa0 : Option Addr) (na0 ca0 : Nat) (xa1 : Int) (w : World) (R : Value → World → Prop) : f53.VC Aa0 na0 ca0 xa1 w R = funV Try.prog Try.f53 f53.AL f53.AC #[.slice Aa0 na0 ca0, .int .i64 xa1] w R := by kernel_rfl
theorem f53.calls {Aa0 : Option Addr} {na0 ca0 : Nat} {xa1 : Int} {w : World} {R : Value → World → Prop} (h : f53.VC Aa0 na0 ca0 xa1 w R) : Calls Try.prog 53 #[.slice Aa0 na0 ca0, .int .i64 xa1] w fun e w' => ∃ v, e = .returned v ∧ R v w' :=
  funV_sound (fn := Try.f53) (AL := f53.AL) (AC := f53.AC) V8.mixed (by kernel_rfl) (by rw [← f53.eq Aa0 na0 ca0 xa1]; exact h)

/-- gatehouse/gatehouselaw15.size -/
def f54.AL : Nat → Option Ann := fun r => match r with | 2 => some ⟨[(5, .int .i64)], [0, 1]⟩ | _ => none
def f54.AC : Nat → Option Ann := fun _ => none
def f54.VC (Aa0 : Option Addr) (na0 ca0 : Nat) (xa1 : Int) (w : World) (R : Value → World → Prop) : Prop :=
  ∃ I : Int → World → Nat → Prop,
  (∃ n, I 0 w n) ∧
  ∀ d : Env, ∀ (x5 : Int) (w_1 : World) (r : Nat), I x5 w_1 r →
  sel (decide ((x5 : Int) < ((na0 : Int) : Int))) (
    (0 : Int) ≤ x5 ∧ x5 < (na0 : Int) ∧
    needPtr Aa0 fun b14 o14 =>
    ∃ (b16 : Bool),
    w_1.cell? ⟨b14, o14 + x5.toNat * 3 + 2, none⟩ = some (.bool b16) ∧
    sel (!b16) (
      (0 : Int) ≤ x5 ∧ x5 < (na0 : Int) ∧
      needPtr Aa0 fun b21 o21 =>
      ∃ (x23 : Int),
      w_1.cell? ⟨b21, o21 + x5.toNat * 3, none⟩ = some (.int .i64 x23) ∧
      sel ((x23 : Int) == (xa1 : Int)) (
        (0 : Int) ≤ x5 ∧ x5 < (na0 : Int) ∧
        needPtr Aa0 fun b29 o29 =>
        ∃ (x31 : Int),
        w_1.cell? ⟨b29, o29 + x5.toNat * 3 + 1, none⟩ = some (.int .i64 x31) ∧
        R (.int .i64 x31) w_1) (
        let i11 : Int := IntKind.i64.wrap (x5 + 1);
        ([.slice Aa0 na0 ca0, .int .i64 xa1] : List Value) = ([.slice Aa0 na0 ca0, .int .i64 xa1] : List Value) ∧ ∃ m, m < r ∧ I i11 w_1 m)) (
      let i11_1 : Int := IntKind.i64.wrap (x5 + 1);
      ([.slice Aa0 na0 ca0, .int .i64 xa1] : List Value) = ([.slice Aa0 na0 ca0, .int .i64 xa1] : List Value) ∧ ∃ m, m < r ∧ I i11_1 w_1 m)) (
    R (.int .i64 0) w_1)
theorem f54.eq (Aa0 : Option Addr) (na0 ca0 : Nat) (xa1 : Int) (w : World) (R : Value → World → Prop) : f54.VC Aa0 na0 ca0 xa1 w R = funV Try.prog Try.f54 f54.AL f54.AC #[.slice Aa0 na0 ca0, .int .i64 xa1] w R := by kernel_rfl
theorem f54.calls {Aa0 : Option Addr} {na0 ca0 : Nat} {xa1 : Int} {w : World} {R : Value → World → Prop} (h : f54.VC Aa0 na0 ca0 xa1 w R) : Calls Try.prog 54 #[.slice Aa0 na0 ca0, .int .i64 xa1] w fun e w' => ∃ v, e = .returned v ∧ R v w' :=
  funV_sound (fn := Try.f54) (AL := f54.AL) (AC := f54.AC) V8.mixed (by kernel_rfl) (by rw [← f54.eq Aa0 na0 ca0 xa1]; exact h)

/-- gatehouse/gatehouselaw15.changed -/
def f55.AL : Nat → Option Ann := fun r => match r with | 4 => some ⟨[(11, .int .i64)], [0, 1, 2, 3, 4]⟩ | _ => none
def f55.AC : Nat → Option Ann := fun _ => none
def f55.VC (Aa0 : Option Addr) (na0 ca0 : Nat) (Aa1 : Option Addr) (na1 ca1 : Nat) (xa2 : Int) (xa3 : Int) (xa4 : Int) (w : World) (R : Value → World → Prop) : Prop :=
  sel (((na0 : Int) : Int) != ((na1 : Int) : Int)) (
    R (.bool false) w) (
    ∃ I : Int → World → Nat → Prop,
    (∃ n, I 0 w n) ∧
    ∀ d : Env, ∀ (x11 : Int) (w_1 : World) (r : Nat), I x11 w_1 r →
    sel (decide ((x11 : Int) < ((na0 : Int) : Int))) (
      sel (decide ((xa2 : Int) ≤ (x11 : Int))) (
        let i31 : Int := IntKind.i64.wrap (xa2 + xa3);
        sel (decide ((x11 : Int) < (i31 : Int))) (
          (0 : Int) ≤ x11 ∧ x11 < (na1 : Int) ∧
          needPtr Aa1 fun b38 o38 =>
          ∃ (x39 : Int),
          w_1.cell? ⟨b38, o38 + x11.toNat * 1, none⟩ = some (.int .i64 x39) ∧
          sel ((x39 : Int) != (xa4 : Int)) (
            R (.bool false) w_1.drew) (
            sel (!(decide ((x11 : Int) < (i31 : Int)))) (
              (0 : Int) ≤ x11 ∧ x11 < (na1 : Int) ∧
              needPtr Aa1 fun b49 o49 =>
              (0 : Int) ≤ x11 ∧ x11 < (na0 : Int) ∧
              needPtr Aa0 fun b53 o53 =>
              ∃ (x50 : Int),
              w_1.cell? ⟨b49, o49 + x11.toNat * 1, none⟩ = some (.int .i64 x50) ∧
              ∃ (x54 : Int),
              w_1.cell? ⟨b53, o53 + x11.toNat * 1, none⟩ = some (.int .i64 x54) ∧
              sel ((x50 : Int) != (x54 : Int)) (
                R (.bool false) w_1.drew) (
                let i23 : Int := IntKind.i64.wrap (x11 + 1);
                ([.slice Aa0 na0 ca0, .slice Aa1 na1 ca1, .int .i64 xa2, .int .i64 xa3, .int .i64 xa4] : List Value) = ([.slice Aa0 na0 ca0, .slice Aa1 na1 ca1, .int .i64 xa2, .int .i64 xa3, .int .i64 xa4] : List Value) ∧ ∃ m, m < r ∧ I i23 w_1.drew m)) (
              let i23_1 : Int := IntKind.i64.wrap (x11 + 1);
              ([.slice Aa0 na0 ca0, .slice Aa1 na1 ca1, .int .i64 xa2, .int .i64 xa3, .int .i64 xa4] : List Value) = ([.slice Aa0 na0 ca0, .slice Aa1 na1 ca1, .int .i64 xa2, .int .i64 xa3, .int .i64 xa4] : List Value) ∧ ∃ m, m < r ∧ I i23_1 w_1.drew m))) (
          sel (!(decide ((x11 : Int) < (i31 : Int)))) (
            (0 : Int) ≤ x11 ∧ x11 < (na1 : Int) ∧
            needPtr Aa1 fun b49_1 o49_1 =>
            (0 : Int) ≤ x11 ∧ x11 < (na0 : Int) ∧
            needPtr Aa0 fun b53_1 o53_1 =>
            ∃ (x50_1 : Int),
            w_1.cell? ⟨b49_1, o49_1 + x11.toNat * 1, none⟩ = some (.int .i64 x50_1) ∧
            ∃ (x54_1 : Int),
            w_1.cell? ⟨b53_1, o53_1 + x11.toNat * 1, none⟩ = some (.int .i64 x54_1) ∧
            sel ((x50_1 : Int) != (x54_1 : Int)) (
              R (.bool false) w_1.drew) (
              let i23_2 : Int := IntKind.i64.wrap (x11 + 1);
              ([.slice Aa0 na0 ca0, .slice Aa1 na1 ca1, .int .i64 xa2, .int .i64 xa3, .int .i64 xa4] : List Value) = ([.slice Aa0 na0 ca0, .slice Aa1 na1 ca1, .int .i64 xa2, .int .i64 xa3, .int .i64 xa4] : List Value) ∧ ∃ m, m < r ∧ I i23_2 w_1.drew m)) (
            let i23_3 : Int := IntKind.i64.wrap (x11 + 1);
            ([.slice Aa0 na0 ca0, .slice Aa1 na1 ca1, .int .i64 xa2, .int .i64 xa3, .int .i64 xa4] : List Value) = ([.slice Aa0 na0 ca0, .slice Aa1 na1 ca1, .int .i64 xa2, .int .i64 xa3, .int .i64 xa4] : List Value) ∧ ∃ m, m < r ∧ I i23_3 w_1.drew m))) (
        (0 : Int) ≤ x11 ∧ x11 < (na1 : Int) ∧
        needPtr Aa1 fun b49_2 o49_2 =>
        (0 : Int) ≤ x11 ∧ x11 < (na0 : Int) ∧
        needPtr Aa0 fun b53_2 o53_2 =>
        ∃ (x50_2 : Int),
        w_1.cell? ⟨b49_2, o49_2 + x11.toNat * 1, none⟩ = some (.int .i64 x50_2) ∧
        ∃ (x54_2 : Int),
        w_1.cell? ⟨b53_2, o53_2 + x11.toNat * 1, none⟩ = some (.int .i64 x54_2) ∧
        sel ((x50_2 : Int) != (x54_2 : Int)) (
          R (.bool false) w_1.drew) (
          let i23_4 : Int := IntKind.i64.wrap (x11 + 1);
          ([.slice Aa0 na0 ca0, .slice Aa1 na1 ca1, .int .i64 xa2, .int .i64 xa3, .int .i64 xa4] : List Value) = ([.slice Aa0 na0 ca0, .slice Aa1 na1 ca1, .int .i64 xa2, .int .i64 xa3, .int .i64 xa4] : List Value) ∧ ∃ m, m < r ∧ I i23_4 w_1.drew m))) (
      R (.bool true) w_1))
theorem f55.eq (Aa0 : Option Addr) (na0 ca0 : Nat) (Aa1 : Option Addr) (na1 ca1 : Nat) (xa2 : Int) (xa3 : Int) (xa4 : Int) (w : World) (R : Value → World → Prop) : f55.VC Aa0 na0 ca0 Aa1 na1 ca1 xa2 xa3 xa4 w R = funV Try.prog Try.f55 f55.AL f55.AC #[.slice Aa0 na0 ca0, .slice Aa1 na1 ca1, .int .i64 xa2, .int .i64 xa3, .int .i64 xa4] w R := by kernel_rfl
theorem f55.calls {Aa0 : Option Addr} {na0 ca0 : Nat} {Aa1 : Option Addr} {na1 ca1 : Nat} {xa2 : Int} {xa3 : Int} {xa4 : Int} {w : World} {R : Value → World → Prop} (h : f55.VC Aa0 na0 ca0 Aa1 na1 ca1 xa2 xa3 xa4 w R) : Calls Try.prog 55 #[.slice Aa0 na0 ca0, .slice Aa1 na1 ca1, .int .i64 xa2, .int .i64 xa3, .int .i64 xa4] w fun e w' => ∃ v, e = .returned v ∧ R v w' :=
  funV_sound (fn := Try.f55) (AL := f55.AL) (AC := f55.AC) V8.mixed (by kernel_rfl) (by rw [← f55.eq Aa0 na0 ca0 Aa1 na1 ca1 xa2 xa3 xa4]; exact h)

/-- gatehouse/gatehouselaw15.out -/
def f56.AL : Nat → Option Ann := fun r => match r with | 3 => some ⟨[(3, .int .i64), (4, .int .i64)], [0]⟩ | _ => none
def f56.AC : Nat → Option Ann := fun _ => none
def f56.VC (Aa0 : Option Addr) (na0 ca0 : Nat) (w : World) (R : Value → World → Prop) : Prop :=
  ∃ I : Int → Int → World → Nat → Prop,
  (∃ n, I 0 0 w n) ∧
  ∀ d : Env, ∀ (x3 : Int) (x4 : Int) (w_1 : World) (r : Nat), I x3 x4 w_1 r →
  sel (decide ((x4 : Int) < ((na0 : Int) : Int))) (
    (0 : Int) ≤ x4 ∧ x4 < (na0 : Int) ∧
    needPtr Aa0 fun b13 o13 =>
    ∃ (b15 : Bool),
    w_1.cell? ⟨b13, o13 + x4.toNat * 3 + 2, none⟩ = some (.bool b15) ∧
    sel (!b15) (
      let i18 : Int := IntKind.i64.wrap (x3 + 1);
      let i10 : Int := IntKind.i64.wrap (x4 + 1);
      ([.slice Aa0 na0 ca0] : List Value) = ([.slice Aa0 na0 ca0] : List Value) ∧ ∃ m, m < r ∧ I i18 i10 w_1 m) (
      let i10_1 : Int := IntKind.i64.wrap (x4 + 1);
      ([.slice Aa0 na0 ca0] : List Value) = ([.slice Aa0 na0 ca0] : List Value) ∧ ∃ m, m < r ∧ I x3 i10_1 w_1 m)) (
    R (.int .i64 x3) w_1)
theorem f56.eq (Aa0 : Option Addr) (na0 ca0 : Nat) (w : World) (R : Value → World → Prop) : f56.VC Aa0 na0 ca0 w R = funV Try.prog Try.f56 f56.AL f56.AC #[.slice Aa0 na0 ca0] w R := by kernel_rfl
theorem f56.calls {Aa0 : Option Addr} {na0 ca0 : Nat} {w : World} {R : Value → World → Prop} (h : f56.VC Aa0 na0 ca0 w R) : Calls Try.prog 56 #[.slice Aa0 na0 ca0] w fun e w' => ∃ v, e = .returned v ∧ R v w' :=
  funV_sound (fn := Try.f56) (AL := f56.AL) (AC := f56.AC) V8.mixed (by kernel_rfl) (by rw [← f56.eq Aa0 na0 ca0]; exact h)

/-- gatehouse/gatehouselaw15.sameBlocks -/
def f46.AL : Nat → Option Ann := fun r => match r with | 4 => some ⟨[(5, .int .i64)], [0, 1]⟩ | _ => none
def f46.AC : Nat → Option Ann := fun _ => none
def f46.VC (Aa0 : Option Addr) (na0 ca0 : Nat) (Aa1 : Option Addr) (na1 ca1 : Nat) (w : World) (R : Value → World → Prop) : Prop :=
  sel (((na0 : Int) : Int) != ((na1 : Int) : Int)) (
    R (.bool false) w) (
    ∃ I : Int → World → Nat → Prop,
    (∃ n, I 0 w n) ∧
    ∀ d : Env, ∀ (x5 : Int) (w_1 : World) (r : Nat), I x5 w_1 r →
    sel (decide ((x5 : Int) < ((na0 : Int) : Int))) (
      (0 : Int) ≤ x5 ∧ x5 < (na0 : Int) ∧
      needPtr Aa0 fun b19 o19 =>
      (0 : Int) ≤ x5 ∧ x5 < (na1 : Int) ∧
      needPtr Aa1 fun b23 o23 =>
      ∃ (x20_0 : Int),
      w_1.cell? ⟨b19, o19 + x5.toNat * 3, none⟩ = some (.int .i64 x20_0) ∧
      ∃ (x20_1 : Int),
      w_1.cell? ⟨b19, o19 + x5.toNat * 3 + 1, none⟩ = some (.int .i64 x20_1) ∧
      ∃ (b20_2 : Bool),
      w_1.cell? ⟨b19, o19 + x5.toNat * 3 + 1 + 1, none⟩ = some (.bool b20_2) ∧
      ∃ (x24_0 : Int),
      w_1.cell? ⟨b23, o23 + x5.toNat * 3, none⟩ = some (.int .i64 x24_0) ∧
      ∃ (x24_1 : Int),
      w_1.cell? ⟨b23, o23 + x5.toNat * 3 + 1, none⟩ = some (.int .i64 x24_1) ∧
      ∃ (b24_2 : Bool),
      w_1.cell? ⟨b23, o23 + x5.toNat * 3 + 1 + 1, none⟩ = some (.bool b24_2) ∧
      ∃ b25 : Bool, (∀ w', (do eqGuard .neq 96 (.tmp 20) (.tmp 24) (.agg #[.int .i64 x20_0, .int .i64 x20_1, .bool b20_2]) (.agg #[.int .i64 x24_0, .int .i64 x24_1, .bool b24_2]); binOp .neq 96 (.agg #[.int .i64 x20_0, .int .i64 x20_1, .bool b20_2]) (.agg #[.int .i64 x24_0, .int .i64 x24_1, .bool b24_2]) : Sem Value).run Try.prog w' = .ok (.bool b25) w') ∧
      sel b25 (
        R (.bool false) w_1.drew) (
        let i16 : Int := IntKind.i64.wrap (x5 + 1);
        ([.slice Aa0 na0 ca0, .slice Aa1 na1 ca1] : List Value) = ([.slice Aa0 na0 ca0, .slice Aa1 na1 ca1] : List Value) ∧ ∃ m, m < r ∧ I i16 w_1.drew m)) (
      R (.bool true) w_1))
theorem f46.eq (Aa0 : Option Addr) (na0 ca0 : Nat) (Aa1 : Option Addr) (na1 ca1 : Nat) (w : World) (R : Value → World → Prop) : f46.VC Aa0 na0 ca0 Aa1 na1 ca1 w R = funV Try.prog Try.f46 f46.AL f46.AC #[.slice Aa0 na0 ca0, .slice Aa1 na1 ca1] w R := by kernel_rfl
theorem f46.calls {Aa0 : Option Addr} {na0 ca0 : Nat} {Aa1 : Option Addr} {na1 ca1 : Nat} {w : World} {R : Value → World → Prop} (h : f46.VC Aa0 na0 ca0 Aa1 na1 ca1 w R) : Calls Try.prog 46 #[.slice Aa0 na0 ca0, .slice Aa1 na1 ca1] w fun e w' => ∃ v, e = .returned v ∧ R v w' :=
  funV_sound (fn := Try.f46) (AL := f46.AL) (AC := f46.AC) V8.mixed (by kernel_rfl) (by rw [← f46.eq Aa0 na0 ca0 Aa1 na1 ca1]; exact h)

/-- gatehouse/gatehouselaw15.sameInts -/
def f58.AL : Nat → Option Ann := fun r => match r with | 4 => some ⟨[(5, .int .i64)], [0, 1]⟩ | _ => none
def f58.AC : Nat → Option Ann := fun _ => none
def f58.VC (Aa0 : Option Addr) (na0 ca0 : Nat) (Aa1 : Option Addr) (na1 ca1 : Nat) (w : World) (R : Value → World → Prop) : Prop :=
  sel (((na0 : Int) : Int) != ((na1 : Int) : Int)) (
    R (.bool false) w) (
    ∃ I : Int → World → Nat → Prop,
    (∃ n, I 0 w n) ∧
    ∀ d : Env, ∀ (x5 : Int) (w_1 : World) (r : Nat), I x5 w_1 r →
    sel (decide ((x5 : Int) < ((na0 : Int) : Int))) (
      (0 : Int) ≤ x5 ∧ x5 < (na0 : Int) ∧
      needPtr Aa0 fun b19 o19 =>
      (0 : Int) ≤ x5 ∧ x5 < (na1 : Int) ∧
      needPtr Aa1 fun b23 o23 =>
      ∃ (x20 : Int),
      w_1.cell? ⟨b19, o19 + x5.toNat * 1, none⟩ = some (.int .i64 x20) ∧
      ∃ (x24 : Int),
      w_1.cell? ⟨b23, o23 + x5.toNat * 1, none⟩ = some (.int .i64 x24) ∧
      sel ((x20 : Int) != (x24 : Int)) (
        R (.bool false) w_1.drew) (
        let i16 : Int := IntKind.i64.wrap (x5 + 1);
        ([.slice Aa0 na0 ca0, .slice Aa1 na1 ca1] : List Value) = ([.slice Aa0 na0 ca0, .slice Aa1 na1 ca1] : List Value) ∧ ∃ m, m < r ∧ I i16 w_1.drew m)) (
      R (.bool true) w_1))
theorem f58.eq (Aa0 : Option Addr) (na0 ca0 : Nat) (Aa1 : Option Addr) (na1 ca1 : Nat) (w : World) (R : Value → World → Prop) : f58.VC Aa0 na0 ca0 Aa1 na1 ca1 w R = funV Try.prog Try.f58 f58.AL f58.AC #[.slice Aa0 na0 ca0, .slice Aa1 na1 ca1] w R := by kernel_rfl
theorem f58.calls {Aa0 : Option Addr} {na0 ca0 : Nat} {Aa1 : Option Addr} {na1 ca1 : Nat} {w : World} {R : Value → World → Prop} (h : f58.VC Aa0 na0 ca0 Aa1 na1 ca1 w R) : Calls Try.prog 58 #[.slice Aa0 na0 ca0, .slice Aa1 na1 ca1] w fun e w' => ∃ v, e = .returned v ∧ R v w' :=
  funV_sound (fn := Try.f58) (AL := f58.AL) (AC := f58.AC) V8.mixed (by kernel_rfl) (by rw [← f58.eq Aa0 na0 ca0 Aa1 na1 ca1]; exact h)

/-- (*gatehouse/cells.Memory).Trace -/
def f59.AL : Nat → Option Ann := fun _ => none
def f59.AC : Nat → Option Ann := fun _ => none
def f59.VC (a0 : Nat) (w : World) (R : Value → World → Prop) : Prop :=
  ∃ (A6 : Option Addr) (n6 c6 : Nat),
  w.cell? ⟨a0, 1, none⟩ = some (.slice A6 n6 c6) ∧
  Calls Try.prog 84 #[.slice A6 n6 c6] w fun e_1 w_1 =>
  ∃ (A7 : Option Addr) (n7 c7 : Nat),
  e_1 = .returned (.slice A7 n7 c7) ∧
  R (.slice A7 n7 c7) w_1
theorem f59.eq (a0 : Nat) (w : World) (R : Value → World → Prop) : f59.VC a0 w R = funV Try.prog Try.f59 f59.AL f59.AC #[.pointer (some ⟨a0, 0, none⟩)] w R := by kernel_rfl
theorem f59.calls {a0 : Nat} {w : World} {R : Value → World → Prop} (h : f59.VC a0 w R) : Calls Try.prog 59 #[.pointer (some ⟨a0, 0, none⟩)] w fun e w' => ∃ v, e = .returned v ∧ R v w' :=
  funV_sound (fn := Try.f59) (AL := f59.AL) (AC := f59.AC) V8.mixed (by kernel_rfl) (by rw [← f59.eq a0]; exact h)

/-- (*gatehouse/cells.Memory).Bad -/
def f60.AL : Nat → Option Ann := fun _ => none
def f60.AC : Nat → Option Ann := fun _ => none
def f60.VC (a0 : Nat) (w : World) (R : Value → World → Prop) : Prop :=
  ∃ (x6 : Int),
  w.cell? ⟨a0, 2, none⟩ = some (.int .i64 x6) ∧
  R (.int .i64 x6) w
theorem f60.eq (a0 : Nat) (w : World) (R : Value → World → Prop) : f60.VC a0 w R = funV Try.prog Try.f60 f60.AL f60.AC #[.pointer (some ⟨a0, 0, none⟩)] w R := by kernel_rfl
theorem f60.calls {a0 : Nat} {w : World} {R : Value → World → Prop} (h : f60.VC a0 w R) : Calls Try.prog 60 #[.pointer (some ⟨a0, 0, none⟩)] w fun e w' => ∃ v, e = .returned v ∧ R v w' :=
  funV_sound (fn := Try.f60) (AL := f60.AL) (AC := f60.AC) V8.mixed (by kernel_rfl) (by rw [← f60.eq a0]; exact h)

/-- (*gatehouse/cells.Memory).Store -/
def f83.AL : Nat → Option Ann := fun _ => none
def f83.AC : Nat → Option Ann := fun _ => none
def f83.VC (a0 : Nat) (xa1 : Int) (xa2 : Int) (w : World) (R : Value → World → Prop) : Prop :=
  Calls Try.prog 93 #[.pointer (some ⟨a0, 0, none⟩), .int .i64 xa1] w fun e_1 w_1 =>
  ∃ (x12_0 : Int) (x12_1 : Int),
  e_1 = .returned (.tuple #[.int .i64 x12_0, .int .i64 x12_1]) ∧
  sel ((x12_1 : Int) == (0 : Int)) (
    ∃ (A20 : Option Addr) (n20 c20 : Nat),
    w_1.cell? ⟨a0, 0, none⟩ = some (.slice A20 n20 c20) ∧
    (0 : Int) ≤ xa1 ∧ xa1 < (n20 : Int) ∧
    needPtr A20 fun b23 o23 =>
    canStore w_1 b23 (o23 + xa1.toNat * 1) 1 ∧
    let w_2 : World := setCs w_1 b23 (o23 + xa1.toNat * 1) [.int .i64 xa2];
    Calls Try.prog 94 #[.pointer (some ⟨a0, 0, none⟩), .agg #[.int .i8 2, .int .i64 xa1, .int .i64 xa2, .int .i64 x12_0, .bool ((x12_1 : Int) == (0 : Int))]] w_2 fun e_2 w_3 =>
    e_2 = .returned (.tuple #[]) ∧
    R (.int .i64 x12_1) w_3) (
    Calls Try.prog 94 #[.pointer (some ⟨a0, 0, none⟩), .agg #[.int .i8 2, .int .i64 xa1, .int .i64 xa2, .int .i64 x12_0, .bool ((x12_1 : Int) == (0 : Int))]] w_1 fun e_3 w_4 =>
    e_3 = .returned (.tuple #[]) ∧
    R (.int .i64 x12_1) w_4)
theorem f83.eq (a0 : Nat) (xa1 : Int) (xa2 : Int) (w : World) (R : Value → World → Prop) : f83.VC a0 xa1 xa2 w R = funV Try.prog Try.f83 f83.AL f83.AC #[.pointer (some ⟨a0, 0, none⟩), .int .i64 xa1, .int .i64 xa2] w R := by kernel_rfl
theorem f83.calls {a0 : Nat} {xa1 : Int} {xa2 : Int} {w : World} {R : Value → World → Prop} (h : f83.VC a0 xa1 xa2 w R) : Calls Try.prog 83 #[.pointer (some ⟨a0, 0, none⟩), .int .i64 xa1, .int .i64 xa2] w fun e w' => ∃ v, e = .returned v ∧ R v w' :=
  funV_sound (fn := Try.f83) (AL := f83.AL) (AC := f83.AC) V8.mixed (by kernel_rfl) (by rw [← f83.eq a0 xa1 xa2]; exact h)

/-- slices.Clone[[]gatehouse/api.Access,gatehouse/api.Access] -/
def f84.AL : Nat → Option Ann := fun _ => none
def f84.AC : Nat → Option Ann := fun _ => none
def f84.VC (Aa0 : Option Addr) (na0 ca0 : Nat) (w : World) (R : Value → World → Prop) : Prop :=
  sel (Option.isNone Aa0) (
    R (.slice none 0 0) w) (
    let w_1 : World := World.alloc w (.cells #[] 158);
    ∃ (A7 : Option Addr) (n7 c7 : Nat),
    ∃ w_2 : World, (Builtin.append_ #[112, 112] 112 #[.slice (some ⟨w.heap.size, 0, none⟩) 0 0, .slice Aa0 na0 ca0]).run Try.prog w_1 = .ok (.slice A7 n7 c7) w_2 ∧
    R (.slice A7 n7 c7) w_2)
theorem f84.eq (Aa0 : Option Addr) (na0 ca0 : Nat) (w : World) (R : Value → World → Prop) : f84.VC Aa0 na0 ca0 w R = funV Try.prog Try.f84 f84.AL f84.AC #[.slice Aa0 na0 ca0] w R := by kernel_rfl
theorem f84.calls {Aa0 : Option Addr} {na0 ca0 : Nat} {w : World} {R : Value → World → Prop} (h : f84.VC Aa0 na0 ca0 w R) : Calls Try.prog 84 #[.slice Aa0 na0 ca0] w fun e w' => ∃ v, e = .returned v ∧ R v w' :=
  funV_sound (fn := Try.f84) (AL := f84.AL) (AC := f84.AC) V8.mixed (by kernel_rfl) (by rw [← f84.eq Aa0 na0 ca0]; exact h)

/-- (*gatehouse/cells.Memory).look -/
def f93.AL : Nat → Option Ann := fun _ => none
def f93.AC : Nat → Option Ann := fun _ => none
def f93.VC (a0 : Nat) (xa1 : Int) (w : World) (R : Value → World → Prop) : Prop :=
  sel (decide ((xa1 : Int) < (0 : Int))) (
    ∃ (x20 : Int),
    w.cell? ⟨a0, 2, none⟩ = some (.int .i64 x20) ∧
    let i21 : Int := IntKind.i64.wrap (x20 + 1);
    canStore w a0 2 1 ∧
    let w_1 : World := setCs w a0 2 [.int .i64 i21];
    R (.tuple #[.int .i64 0, .int .i64 140]) w_1) (
    ∃ (A13 : Option Addr) (n13 c13 : Nat),
    w.cell? ⟨a0, 0, none⟩ = some (.slice A13 n13 c13) ∧
    sel (decide (((n13 : Int) : Int) ≤ (xa1 : Int))) (
      ∃ (x20_1 : Int),
      w.cell? ⟨a0, 2, none⟩ = some (.int .i64 x20_1) ∧
      let i21_1 : Int := IntKind.i64.wrap (x20_1 + 1);
      canStore w a0 2 1 ∧
      let w_2 : World := setCs w a0 2 [.int .i64 i21_1];
      R (.tuple #[.int .i64 0, .int .i64 140]) w_2) (
      ∃ (A27 : Option Addr) (n27 c27 : Nat),
      w.cell? ⟨a0, 0, none⟩ = some (.slice A27 n27 c27) ∧
      (0 : Int) ≤ xa1 ∧ xa1 < (n27 : Int) ∧
      needPtr A27 fun b29 o29 =>
      ∃ (x30 : Int),
      w.cell? ⟨b29, o29 + xa1.toNat * 1, none⟩ = some (.int .i64 x30) ∧
      sel ((x30 : Int) == ((-4611686018427387904) : Int)) (
        ∃ (x35 : Int),
        w.cell? ⟨a0, 2, none⟩ = some (.int .i64 x35) ∧
        let i36 : Int := IntKind.i64.wrap (x35 + 1);
        canStore w a0 2 1 ∧
        let w_3 : World := setCs w a0 2 [.int .i64 i36];
        R (.tuple #[.int .i64 (-4611686018427387904), .int .i64 141]) w_3) (
        ∃ (A42 : Option Addr) (n42 c42 : Nat),
        w.cell? ⟨a0, 0, none⟩ = some (.slice A42 n42 c42) ∧
        (0 : Int) ≤ xa1 ∧ xa1 < (n42 : Int) ∧
        needPtr A42 fun b44 o44 =>
        ∃ (x45 : Int),
        w.cell? ⟨b44, o44 + xa1.toNat * 1, none⟩ = some (.int .i64 x45) ∧
        R (.tuple #[.int .i64 x45, .int .i64 0]) w)))
theorem f93.eq (a0 : Nat) (xa1 : Int) (w : World) (R : Value → World → Prop) : f93.VC a0 xa1 w R = funV Try.prog Try.f93 f93.AL f93.AC #[.pointer (some ⟨a0, 0, none⟩), .int .i64 xa1] w R := by kernel_rfl
theorem f93.calls {a0 : Nat} {xa1 : Int} {w : World} {R : Value → World → Prop} (h : f93.VC a0 xa1 w R) : Calls Try.prog 93 #[.pointer (some ⟨a0, 0, none⟩), .int .i64 xa1] w fun e w' => ∃ v, e = .returned v ∧ R v w' :=
  funV_sound (fn := Try.f93) (AL := f93.AL) (AC := f93.AC) V8.mixed (by kernel_rfl) (by rw [← f93.eq a0 xa1]; exact h)

/-- (*gatehouse/cells.Memory).Note -/
def f94.AL : Nat → Option Ann := fun _ => none
def f94.AC : Nat → Option Ann := fun _ => none
def f94.VC (a0 : Nat) (xa1_0 : Int) (xa1_1 : Int) (xa1_2 : Int) (xa1_3 : Int) (ba1_4 : Bool) (w : World) (R : Value → World → Prop) : Prop :=
  let w_1 : World := World.alloc w (.cells #[.int .i8 xa1_0, .int .i64 xa1_1, .int .i64 xa1_2, .int .i64 xa1_3, .bool ba1_4] 158);
  ∃ (A8 : Option Addr) (n8 c8 : Nat),
  w_1.cell? ⟨a0, 1, none⟩ = some (.slice A8 n8 c8) ∧
  ∃ (x9_0 : Int),
  w_1.cell? ⟨w.heap.size, 0, none⟩ = some (.int .i8 x9_0) ∧
  ∃ (x9_1 : Int),
  w_1.cell? ⟨w.heap.size, 1, none⟩ = some (.int .i64 x9_1) ∧
  ∃ (x9_2 : Int),
  w_1.cell? ⟨w.heap.size, 2, none⟩ = some (.int .i64 x9_2) ∧
  ∃ (x9_3 : Int),
  w_1.cell? ⟨w.heap.size, 3, none⟩ = some (.int .i64 x9_3) ∧
  ∃ (b9_4 : Bool),
  w_1.cell? ⟨w.heap.size, 4, none⟩ = some (.bool b9_4) ∧
  let w_2 : World := World.alloc w_1.drew (.cells #[.int .i8 x9_0, .int .i64 x9_1, .int .i64 x9_2, .int .i64 x9_3, .bool b9_4] 158);
  ∃ (A11 : Option Addr) (n11 c11 : Nat),
  ∃ w_3 : World, (Builtin.append_ #[112, 112] 112 #[.slice A8 n8 c8, .slice (some ⟨w_1.heap.size, 0, none⟩) 1 1]).run Try.prog w_2 = .ok (.slice A11 n11 c11) w_3 ∧
  canStore w_3 a0 1 1 ∧
  let w_4 : World := setCs w_3 a0 1 [.slice A11 n11 c11];
  R (.tuple #[]) w_4
theorem f94.eq (a0 : Nat) (xa1_0 : Int) (xa1_1 : Int) (xa1_2 : Int) (xa1_3 : Int) (ba1_4 : Bool) (w : World) (R : Value → World → Prop) : f94.VC a0 xa1_0 xa1_1 xa1_2 xa1_3 ba1_4 w R = funV Try.prog Try.f94 f94.AL f94.AC #[.pointer (some ⟨a0, 0, none⟩), .agg #[.int .i8 xa1_0, .int .i64 xa1_1, .int .i64 xa1_2, .int .i64 xa1_3, .bool ba1_4]] w R := by kernel_rfl
theorem f94.calls {a0 : Nat} {xa1_0 : Int} {xa1_1 : Int} {xa1_2 : Int} {xa1_3 : Int} {ba1_4 : Bool} {w : World} {R : Value → World → Prop} (h : f94.VC a0 xa1_0 xa1_1 xa1_2 xa1_3 ba1_4 w R) : Calls Try.prog 94 #[.pointer (some ⟨a0, 0, none⟩), .agg #[.int .i8 xa1_0, .int .i64 xa1_1, .int .i64 xa1_2, .int .i64 xa1_3, .bool ba1_4]] w fun e w' => ∃ v, e = .returned v ∧ R v w' :=
  funV_sound (fn := Try.f94) (AL := f94.AL) (AC := f94.AC) V8.mixed (by kernel_rfl) (by rw [← f94.eq a0 xa1_0 xa1_1 xa1_2 xa1_3 ba1_4]; exact h)

/-- (*gatehouse/arena.Arena).Blocks$1 -/
def f78.AL : Nat → Option Ann := fun _ => none
def f78.AC : Nat → Option Ann := fun _ => none
def f78.VC (xa0_0 : Int) (xa0_1 : Int) (ba0_2 : Bool) (xa1_0 : Int) (xa1_1 : Int) (ba1_2 : Bool) (w : World) (R : Value → World → Prop) : Prop :=
  let w_1 : World := World.alloc w (.cells #[.int .i64 xa0_0, .int .i64 xa0_1, .bool ba0_2] 96);
  let w_2 : World := World.alloc w_1 (.cells #[.int .i64 xa1_0, .int .i64 xa1_1, .bool ba1_2] 96);
  ∃ (x6 : Int),
  w_2.cell? ⟨w.heap.size, 0, none⟩ = some (.int .i64 x6) ∧
  ∃ (x8 : Int),
  w_2.cell? ⟨w_1.heap.size, 0, none⟩ = some (.int .i64 x8) ∧
  let i9 : Int := IntKind.i64.wrap (x6 - x8);
  R (.int .i64 i9) w_2
theorem f78.eq (xa0_0 : Int) (xa0_1 : Int) (ba0_2 : Bool) (xa1_0 : Int) (xa1_1 : Int) (ba1_2 : Bool) (w : World) (R : Value → World → Prop) : f78.VC xa0_0 xa0_1 ba0_2 xa1_0 xa1_1 ba1_2 w R = funV Try.prog Try.f78 f78.AL f78.AC #[.agg #[.int .i64 xa0_0, .int .i64 xa0_1, .bool ba0_2], .agg #[.int .i64 xa1_0, .int .i64 xa1_1, .bool ba1_2]] w R := by kernel_rfl
theorem f78.calls {xa0_0 : Int} {xa0_1 : Int} {ba0_2 : Bool} {xa1_0 : Int} {xa1_1 : Int} {ba1_2 : Bool} {w : World} {R : Value → World → Prop} (h : f78.VC xa0_0 xa0_1 ba0_2 xa1_0 xa1_1 ba1_2 w R) : Calls Try.prog 78 #[.agg #[.int .i64 xa0_0, .int .i64 xa0_1, .bool ba0_2], .agg #[.int .i64 xa1_0, .int .i64 xa1_1, .bool ba1_2]] w fun e w' => ∃ v, e = .returned v ∧ R v w' :=
  funV_sound (fn := Try.f78) (AL := f78.AL) (AC := f78.AC) V8.mixed (by kernel_rfl) (by rw [← f78.eq xa0_0 xa0_1 ba0_2 xa1_0 xa1_1 ba1_2]; exact h)

end Go.Proofs.Ytebahglmdifmpaa
