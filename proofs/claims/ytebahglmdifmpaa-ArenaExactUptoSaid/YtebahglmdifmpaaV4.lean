/- The plain statements of some functions, printed by vcgen.py. -/
import Derived.Test.YtebahglmdifmpaaVcC
import Derived.Test.YtebahglmdifmpaaProg
import Derived.KernelRfl
set_option maxRecDepth 100000
set_option linter.unusedVariables false
namespace Go.Proofs.Ytebahglmdifmpaa
open Go Go.Proofs.Ytebahglmdifmpaa.Vc
theorem V4.mixed : Try.prog.follows .mixedOrders = true := by kernel_rfl
/-- gatehouse/gatehouselaw15.lively -/
def f11.AL : Nat → Option Ann := fun _ => none
def f11.AC : Nat → Option Ann := fun _ => none
def f11.VC  (w : World) (R : Value → World → Prop) : Prop :=
  Calls Try.prog 25 #[.func (.func 61) #[] #[]] w fun e_1 w_1 =>
  ∃ (p12 : Option Addr),
  e_1 = .returned (.pointer p12) ∧
  Calls Try.prog 37 #[.int .i64 20] w_1 fun e_2 w_2 =>
  ∃ (p14_0 : Option Addr) (x14_1 : Int),
  e_2 = .returned (.tuple #[.pointer p14_0, .int .i64 x14_1]) ∧
  sel (Option.isNone p12) (
    R (.bool false) w_2) (
    sel (Option.isNone p14_0) (
      R (.bool false) w_2) (
      Calls Try.prog 34 #[.pointer p12, .int .i64 5] w_2 fun e_3 w_3 =>
      e_3 = .returned (.tuple #[]) ∧
      Calls Try.prog 34 #[.pointer p12, .int .i64 3] w_3 fun e_4 w_4 =>
      e_4 = .returned (.tuple #[]) ∧
      Calls Try.prog 36 #[.pointer p12] w_4 fun e_5 w_5 =>
      ∃ (x29_0 : Int) (b29_1 : Bool),
      e_5 = .returned (.tuple #[.int .i64 x29_0, .bool b29_1]) ∧
      Calls Try.prog 38 #[.pointer p14_0, .int .i64 8] w_5 fun e_6 w_6 =>
      ∃ (p34_0 : Option Addr) (x34_1 : Int),
      e_6 = .returned (.tuple #[.pointer p34_0, .int .i64 x34_1]) ∧
      sel ((x34_1 : Int) != (0 : Int)) (
        R (.bool false) w_6) (
        sel (Option.isNone p34_0) (
          R (.bool false) w_6) (
          sel (!b29_1) (
            R (.bool false) w_6) (
            sel ((x29_0 : Int) != (3 : Int)) (
              R (.bool false) w_6) (
              Calls Try.prog 29 #[.pointer p12] w_6 fun e_7 w_7 =>
              ∃ (x53 : Int),
              e_7 = .returned (.int .i64 x53) ∧
              sel ((x53 : Int) != (1 : Int)) (
                R (.bool false) w_7) (
                Calls Try.prog 43 #[.pointer p34_0, .int .i64 5] w_7 fun e_8 w_8 =>
                ∃ (x58_0 : Int) (x58_1 : Int),
                e_8 = .returned (.tuple #[.int .i64 x58_0, .int .i64 x58_1]) ∧
                Calls Try.prog 43 #[.pointer p34_0, .int .i64 4] w_8 fun e_9 w_9 =>
                ∃ (x63_0 : Int) (x63_1 : Int),
                e_9 = .returned (.tuple #[.int .i64 x63_0, .int .i64 x63_1]) ∧
                Calls Try.prog 41 #[.pointer p34_0, .int .i64 8] w_9 fun e_10 w_10 =>
                ∃ (x67 : Int),
                e_10 = .returned (.int .i64 x67) ∧
                sel ((x58_0 : Int) == (8 : Int)) (
                  sel ((x63_0 : Int) == (13 : Int)) (
                    sel ((x58_1 : Int) == (0 : Int)) (
                      sel ((x63_1 : Int) == (0 : Int)) (
                        sel ((x67 : Int) == (0 : Int)) (
                          Calls Try.prog 49 #[.pointer p34_0] w_10 fun e_11 w_11 =>
                          ∃ (x88 : Int),
                          e_11 = .returned (.int .i64 x88) ∧
                          R (.bool ((x88 : Int) == (1 : Int))) w_11) (
                          R (.bool false) w_10)) (
                        R (.bool false) w_10)) (
                      R (.bool false) w_10)) (
                    R (.bool false) w_10)) (
                  R (.bool false) w_10))))))))
theorem f11.eq  (w : World) (R : Value → World → Prop) : f11.VC  w R = funV Try.prog Try.f11 f11.AL f11.AC #[] w R := by kernel_rfl
theorem f11.calls {w : World} {R : Value → World → Prop} (h : f11.VC  w R) : Calls Try.prog 11 #[] w fun e w' => ∃ v, e = .returned v ∧ R v w' :=
  funV_sound (fn := Try.f11) (AL := f11.AL) (AC := f11.AC) V4.mixed (by kernel_rfl) (by rw [← f11.eq ]; exact h)

/-- gatehouse/gatehouselaw15.lively$1 -/
def f61.AL : Nat → Option Ann := fun _ => none
def f61.AC : Nat → Option Ann := fun _ => none
def f61.VC (xa0 : Int) (xa1 : Int) (w : World) (R : Value → World → Prop) : Prop :=
  R (.bool (decide ((xa0 : Int) < (xa1 : Int)))) w
theorem f61.eq (xa0 : Int) (xa1 : Int) (w : World) (R : Value → World → Prop) : f61.VC xa0 xa1 w R = funV Try.prog Try.f61 f61.AL f61.AC #[.int .i64 xa0, .int .i64 xa1] w R := by kernel_rfl
theorem f61.calls {xa0 : Int} {xa1 : Int} {w : World} {R : Value → World → Prop} (h : f61.VC xa0 xa1 w R) : Calls Try.prog 61 #[.int .i64 xa0, .int .i64 xa1] w fun e w' => ∃ v, e = .returned v ∧ R v w' :=
  funV_sound (fn := Try.f61) (AL := f61.AL) (AC := f61.AC) V4.mixed (by kernel_rfl) (by rw [← f61.eq xa0 xa1]; exact h)

/-- gatehouse/cells.New -/
def f37.AL : Nat → Option Ann := fun _ => none
def f37.AC : Nat → Option Ann := fun _ => none
def f37.VC (xa0 : Int) (w : World) (R : Value → World → Prop) : Prop :=
  sel (decide ((xa0 : Int) < (1 : Int))) (
    R (.tuple #[.pointer none, .int .i64 3]) w) (
    sel (decide ((65536 : Int) < (xa0 : Int))) (
      R (.tuple #[.pointer none, .int .i64 3]) w) (
      ∃ (A11 : Option Addr) (n11 c11 : Nat),
      ∃ w_1 : World, (Instr.makeSlice 23 (.int .i64 xa0) (.int .i64 xa0)).run Try.prog w = .ok (.slice A11 n11 c11) w_1 ∧
      let w_2 : World := World.alloc w_1 (.cells #[.slice A11 n11 c11, .slice none 0 0, .int .i64 0] 132);
      R (.tuple #[.pointer (some ⟨w_1.heap.size, 0, none⟩), .int .i64 0]) w_2))
theorem f37.eq (xa0 : Int) (w : World) (R : Value → World → Prop) : f37.VC xa0 w R = funV Try.prog Try.f37 f37.AL f37.AC #[.int .i64 xa0] w R := by kernel_rfl
theorem f37.calls {xa0 : Int} {w : World} {R : Value → World → Prop} (h : f37.VC xa0 w R) : Calls Try.prog 37 #[.int .i64 xa0] w fun e w' => ∃ v, e = .returned v ∧ R v w' :=
  funV_sound (fn := Try.f37) (AL := f37.AL) (AC := f37.AC) V4.mixed (by kernel_rfl) (by rw [← f37.eq xa0]; exact h)

/-- gatehouse/arena.New -/
def f38.AL : Nat → Option Ann := fun _ => none
def f38.AC : Nat → Option Ann := fun _ => none
def f38.VC (a0 : Nat) (xa1 : Int) (w : World) (R : Value → World → Prop) : Prop :=
  sel (decide ((xa1 : Int) < (0 : Int))) (
    R (.tuple #[.pointer none, .int .i64 3]) w) (
    Calls Try.prog 67 #[.pointer (some ⟨a0, 0, none⟩)] w fun e_1 w_1 =>
    ∃ (x14 : Int),
    e_1 = .returned (.int .i64 x14) ∧
    sel (decide ((x14 : Int) ≤ (xa1 : Int))) (
      R (.tuple #[.pointer none, .int .i64 3]) w_1) (
      Calls Try.prog 68 #[.func (.func 69) #[] #[]] w_1 fun e_2 w_2 =>
      ∃ (p18 : Option Addr),
      e_2 = .returned (.pointer p18) ∧
      let w_3 : World := World.alloc w_2 (.map #[] 0);
      let w_4 : World := World.alloc w_3 (.cells #[.pointer (some ⟨a0, 0, none⟩), .pointer p18, .map (some w_2.heap.size)] 138);
      (∃ (p25 : Option Addr),
        w_4.cell? ⟨w_3.heap.size, 1, none⟩ = some (.pointer p25) ∧
        Calls Try.prog 67 #[.pointer (some ⟨a0, 0, none⟩)] w_4.drew fun e_3 w_5 =>
        ∃ (x28 : Int),
        e_3 = .returned (.int .i64 x28) ∧
        let i30 : Int := IntKind.i64.wrap (x28 - xa1);
        Calls Try.prog 70 #[.pointer p25, .agg #[.int .i64 xa1, .int .i64 i30, .bool true]] w_5 fun e_4 w_6 =>
        e_4 = .returned (.tuple #[]) ∧
        R (.tuple #[.pointer (some ⟨w_3.heap.size, 0, none⟩), .int .i64 0]) w_6) ∧
      (Calls Try.prog 67 #[.pointer (some ⟨a0, 0, none⟩)] w_4.drew fun e_5 w_7 =>
        ∃ (x28_1 : Int),
        e_5 = .returned (.int .i64 x28_1) ∧
        let i30_1 : Int := IntKind.i64.wrap (x28_1 - xa1);
        ∃ (p25_1 : Option Addr),
        w_7.cell? ⟨w_3.heap.size, 1, none⟩ = some (.pointer p25_1) ∧
        Calls Try.prog 70 #[.pointer p25_1, .agg #[.int .i64 xa1, .int .i64 i30_1, .bool true]] w_7 fun e_6 w_8 =>
        e_6 = .returned (.tuple #[]) ∧
        R (.tuple #[.pointer (some ⟨w_3.heap.size, 0, none⟩), .int .i64 0]) w_8) ∧ True))
theorem f38.eq (a0 : Nat) (xa1 : Int) (w : World) (R : Value → World → Prop) : f38.VC a0 xa1 w R = funV Try.prog Try.f38 f38.AL f38.AC #[.pointer (some ⟨a0, 0, none⟩), .int .i64 xa1] w R := by kernel_rfl
theorem f38.calls {a0 : Nat} {xa1 : Int} {w : World} {R : Value → World → Prop} (h : f38.VC a0 xa1 w R) : Calls Try.prog 38 #[.pointer (some ⟨a0, 0, none⟩), .int .i64 xa1] w fun e w' => ∃ v, e = .returned v ∧ R v w' :=
  funV_sound (fn := Try.f38) (AL := f38.AL) (AC := f38.AC) V4.mixed (by kernel_rfl) (by rw [← f38.eq a0 xa1]; exact h)

/-- (*gatehouse/arena.Arena).Take -/
def f43.AL : Nat → Option Ann := fun r => match r with | 5 => some ⟨[(6, .slice), (7, .int .i64)], [0, 1]⟩ | 13 => some ⟨[(52, .int .i64)], [0, 1, 7, 50, 51]⟩ | _ => none
def f43.AC : Nat → Option Ann := fun r => match r with | 12 => some ⟨[(6, .slice), (7, .int .i64)], [0, 1]⟩ | _ => none
def f43.VC (a0 : Nat) (xa1 : Int) (w : World) (R : Value → World → Prop) : Prop :=
  sel (decide ((xa1 : Int) < (1 : Int))) (
    R (.tuple #[.int .i64 0, .int .i64 1]) w) (
    ∃ M : Option Addr → Nat → Nat → Int → World → Prop,
    (∃ I : Option Addr → Nat → Nat → Int → World → Nat → Prop,
      (∃ n, I none 0 0 (-1) w n) ∧
      ∀ d : Env, ∀ (A6 : Option Addr) (n6 c6 : Nat) (x7 : Int) (w_1 : World) (r : Nat), I A6 n6 c6 x7 w_1 r →
      ∃ (p18 : Option Addr),
      w_1.cell? ⟨a0, 1, none⟩ = some (.pointer p18) ∧
      Calls Try.prog 73 #[.pointer p18] w_1 fun e_1 w_2 =>
      ∃ (x19_0_0 : Int) (x19_0_1 : Int) (b19_0_2 : Bool) (b19_1 : Bool),
      e_1 = .returned (.tuple #[.agg #[.int .i64 x19_0_0, .int .i64 x19_0_1, .bool b19_0_2], .bool b19_1]) ∧
      let w_3 : World := World.alloc w_2 (.cells #[.int .i64 0, .int .i64 0, .bool false] 96);
      canStore w_3 w_2.heap.size 0 3 ∧
      let w_4 : World := setCs w_3 w_2.heap.size 0 [.int .i64 x19_0_0, .int .i64 x19_0_1, .bool b19_0_2];
      sel (!b19_1) (
        ([.pointer (some ⟨a0, 0, none⟩), .int .i64 xa1] : List Value) = ([.pointer (some ⟨a0, 0, none⟩), .int .i64 xa1] : List Value) ∧ M A6 n6 c6 x7 w_4) (
        ∃ (x25 : Int),
        w_4.cell? ⟨w_2.heap.size, 1, none⟩ = some (.int .i64 x25) ∧
        sel (decide ((x25 : Int) < (xa1 : Int))) (
          ∃ (x29_0 : Int),
          w_4.cell? ⟨w_2.heap.size, 0, none⟩ = some (.int .i64 x29_0) ∧
          ∃ (x29_1 : Int),
          w_4.cell? ⟨w_2.heap.size, 1, none⟩ = some (.int .i64 x29_1) ∧
          ∃ (b29_2 : Bool),
          w_4.cell? ⟨w_2.heap.size, 2, none⟩ = some (.bool b29_2) ∧
          let w_5 : World := World.alloc w_4 (.cells #[.int .i64 x29_0, .int .i64 x29_1, .bool b29_2] 96);
          ∃ (A31 : Option Addr) (n31 c31 : Nat),
          ∃ w_6 : World, (Builtin.append_ #[83, 83] 83 #[.slice A6 n6 c6, .slice (some ⟨w_4.heap.size, 0, none⟩) 1 1]).run Try.prog w_5 = .ok (.slice A31 n31 c31) w_6 ∧
          ([.pointer (some ⟨a0, 0, none⟩), .int .i64 xa1] : List Value) = ([.pointer (some ⟨a0, 0, none⟩), .int .i64 xa1] : List Value) ∧ ∃ m, m < r ∧ I A31 n31 c31 x7 w_6 m) (
          ∃ (x33 : Int),
          w_4.cell? ⟨w_2.heap.size, 0, none⟩ = some (.int .i64 x33) ∧
          ∃ (x35 : Int),
          w_4.cell? ⟨w_2.heap.size, 1, none⟩ = some (.int .i64 x35) ∧
          sel (decide ((xa1 : Int) < (x35 : Int))) (
            ∃ (x40 : Int),
            w_4.cell? ⟨w_2.heap.size, 0, none⟩ = some (.int .i64 x40) ∧
            let i42 : Int := IntKind.i64.wrap (x40 + xa1);
            ∃ (x44 : Int),
            w_4.cell? ⟨w_2.heap.size, 1, none⟩ = some (.int .i64 x44) ∧
            let i46 : Int := IntKind.i64.wrap (x44 - xa1);
            let w_7 : World := World.alloc w_4 (.cells #[.int .i64 i42, .int .i64 i46, .bool true] 96);
            ∃ (A49 : Option Addr) (n49 c49 : Nat),
            ∃ w_8 : World, (Builtin.append_ #[83, 83] 83 #[.slice A6 n6 c6, .slice (some ⟨w_4.heap.size, 0, none⟩) 1 1]).run Try.prog w_7 = .ok (.slice A49 n49 c49) w_8 ∧
            ([.pointer (some ⟨a0, 0, none⟩), .int .i64 xa1] : List Value) = ([.pointer (some ⟨a0, 0, none⟩), .int .i64 xa1] : List Value) ∧ M A49 n49 c49 x33 w_8) (
            ([.pointer (some ⟨a0, 0, none⟩), .int .i64 xa1] : List Value) = ([.pointer (some ⟨a0, 0, none⟩), .int .i64 xa1] : List Value) ∧ M A6 n6 c6 x33 w_4)))) ∧
    ∀ d_1 : Env, ∀ (A6_1 : Option Addr) (n6_1 c6_1 : Nat) (x7_1 : Int) (w_9 : World), M A6_1 n6_1 c6_1 x7_1 w_9 →
    ∃ I_1 : Int → World → Nat → Prop,
    (∃ n, I_1 0 w_9 n) ∧
    ∀ d_2 : Env, ∀ (x52 : Int) (w_10 : World) (r_1 : Nat), I_1 x52 w_10 r_1 →
    sel (decide ((x52 : Int) < ((n6_1 : Int) : Int))) (
      (0 : Int) ≤ x52 ∧ x52 < (n6_1 : Int) ∧
      needPtr A6_1 fun b54 o54 =>
      ∃ (x55_0 : Int),
      w_10.cell? ⟨b54, o54 + x52.toNat * 3, none⟩ = some (.int .i64 x55_0) ∧
      ∃ (x55_1 : Int),
      w_10.cell? ⟨b54, o54 + x52.toNat * 3 + 1, none⟩ = some (.int .i64 x55_1) ∧
      ∃ (b55_2 : Bool),
      w_10.cell? ⟨b54, o54 + x52.toNat * 3 + 1 + 1, none⟩ = some (.bool b55_2) ∧
      let w_11 : World := World.alloc w_10 (.cells #[.int .i64 0, .int .i64 0, .bool false] 96);
      canStore w_11 w_10.heap.size 0 3 ∧
      let w_12 : World := setCs w_11 w_10.heap.size 0 [.int .i64 x55_0, .int .i64 x55_1, .bool b55_2];
      ∃ (p59 : Option Addr),
      w_12.cell? ⟨a0, 1, none⟩ = some (.pointer p59) ∧
      ∃ (x60_0 : Int),
      w_12.cell? ⟨w_10.heap.size, 0, none⟩ = some (.int .i64 x60_0) ∧
      ∃ (x60_1 : Int),
      w_12.cell? ⟨w_10.heap.size, 1, none⟩ = some (.int .i64 x60_1) ∧
      ∃ (b60_2 : Bool),
      w_12.cell? ⟨w_10.heap.size, 2, none⟩ = some (.bool b60_2) ∧
      Calls Try.prog 70 #[.pointer p59, .agg #[.int .i64 x60_0, .int .i64 x60_1, .bool b60_2]] w_12.drew fun e_2 w_13 =>
      e_2 = .returned (.tuple #[]) ∧
      let i62 : Int := IntKind.i64.wrap (x52 + 1);
      ([.pointer (some ⟨a0, 0, none⟩), .int .i64 xa1, .int .i64 x7_1, .slice A6_1 n6_1 c6_1, .int .i64 (n6_1 : Int)] : List Value) = ([.pointer (some ⟨a0, 0, none⟩), .int .i64 xa1, .int .i64 x7_1, .slice A6_1 n6_1 c6_1, .int .i64 (n6_1 : Int)] : List Value) ∧ ∃ m, m < r_1 ∧ I_1 i62 w_13 m) (
      sel (decide ((x7_1 : Int) < (0 : Int))) (
        R (.tuple #[.int .i64 0, .int .i64 150]) w_10) (
        ∃ (m68 : Option Nat),
        w_10.cell? ⟨a0, 2, none⟩ = some (.map m68) ∧
        ∃ w_14 : World, (Instr.mapUpdate 136 (.map m68) (.int .i64 x7_1) (.int .i64 xa1)).run Try.prog w_10 = .ok () w_14 ∧
        ∃ (p74 : Option Addr),
        w_14.cell? ⟨a0, 0, none⟩ = some (.pointer p74) ∧
        Calls Try.prog 74 #[.pointer p74, .int .i64 x7_1, .int .i64 xa1] w_14 fun e_3 w_15 =>
        ∃ (x77 : Int),
        e_3 = .returned (.int .i64 x77) ∧
        R (.tuple #[.int .i64 x7_1, .int .i64 0]) w_15)))
theorem f43.eq (a0 : Nat) (xa1 : Int) (w : World) (R : Value → World → Prop) : f43.VC a0 xa1 w R = funV Try.prog Try.f43 f43.AL f43.AC #[.pointer (some ⟨a0, 0, none⟩), .int .i64 xa1] w R := by kernel_rfl
theorem f43.calls {a0 : Nat} {xa1 : Int} {w : World} {R : Value → World → Prop} (h : f43.VC a0 xa1 w R) : Calls Try.prog 43 #[.pointer (some ⟨a0, 0, none⟩), .int .i64 xa1] w fun e w' => ∃ v, e = .returned v ∧ R v w' :=
  funV_sound (fn := Try.f43) (AL := f43.AL) (AC := f43.AC) V4.mixed (by kernel_rfl) (by rw [← f43.eq a0 xa1]; exact h)

/-- (*gatehouse/arena.Arena).Give -/
def f41.AL : Nat → Option Ann := fun r => match r with | 8 => some ⟨[(43, .int .i64)], [0, 41, 42]⟩ | _ => none
def f41.AC : Nat → Option Ann := fun _ => none
def f41.VC (a0 : Nat) (xa1 : Int) (w : World) (R : Value → World → Prop) : Prop :=
  ∃ (m13 : Option Nat),
  w.cell? ⟨a0, 2, none⟩ = some (.map m13) ∧
  ∃ (x15_0 : Int) (b15_1 : Bool),
  ∃ w_1 : World, (Instr.lookup 136 (.map m13) (.int .i64 xa1) true).run Try.prog w = .ok (.tuple #[.int .i64 x15_0, .bool b15_1]) w_1 ∧
  sel (!b15_1) (
    R (.int .i64 151) w_1) (
    ∃ (m23 : Option Nat),
    w_1.cell? ⟨a0, 2, none⟩ = some (.map m23) ∧
    ∃ w_2 : World, (Builtin.delete_ #[136, 3] 0 #[.map m23, .int .i64 xa1]).run Try.prog w_1 = .ok (.tuple #[]) w_2 ∧
    ∃ (p28 : Option Addr),
    w_2.cell? ⟨a0, 0, none⟩ = some (.pointer p28) ∧
    Calls Try.prog 71 #[.pointer p28, .int .i64 xa1, .int .i64 x15_0] w_2 fun e_1 w_3 =>
    ∃ (x31 : Int),
    e_1 = .returned (.int .i64 x31) ∧
    ∃ (p35 : Option Addr),
    w_3.cell? ⟨a0, 1, none⟩ = some (.pointer p35) ∧
    Calls Try.prog 70 #[.pointer p35, .agg #[.int .i64 xa1, .int .i64 x15_0, .bool true]] w_3 fun e_2 w_4 =>
    e_2 = .returned (.tuple #[]) ∧
    Calls Try.prog 72 #[.pointer (some ⟨a0, 0, none⟩)] w_4 fun e_3 w_5 =>
    ∃ (A41 : Option Addr) (n41 c41 : Nat),
    e_3 = .returned (.slice A41 n41 c41) ∧
    ∃ I : Int → World → Nat → Prop,
    (∃ n, I 0 w_5 n) ∧
    ∀ d : Env, ∀ (x43 : Int) (w_6 : World) (r : Nat), I x43 w_6 r →
    sel (decide ((x43 : Int) < ((n41 : Int) : Int))) (
      (0 : Int) ≤ x43 ∧ x43 < (n41 : Int) ∧
      needPtr A41 fun b45 o45 =>
      ∃ (x46_0 : Int),
      w_6.cell? ⟨b45, o45 + x43.toNat * 3, none⟩ = some (.int .i64 x46_0) ∧
      ∃ (x46_1 : Int),
      w_6.cell? ⟨b45, o45 + x43.toNat * 3 + 1, none⟩ = some (.int .i64 x46_1) ∧
      ∃ (b46_2 : Bool),
      w_6.cell? ⟨b45, o45 + x43.toNat * 3 + 1 + 1, none⟩ = some (.bool b46_2) ∧
      let w_7 : World := World.alloc w_6 (.cells #[.int .i64 0, .int .i64 0, .bool false] 96);
      canStore w_7 w_6.heap.size 0 3 ∧
      let w_8 : World := setCs w_7 w_6.heap.size 0 [.int .i64 x46_0, .int .i64 x46_1, .bool b46_2];
      ∃ (p50 : Option Addr),
      w_8.cell? ⟨a0, 1, none⟩ = some (.pointer p50) ∧
      ∃ (x51_0 : Int),
      w_8.cell? ⟨w_6.heap.size, 0, none⟩ = some (.int .i64 x51_0) ∧
      ∃ (x51_1 : Int),
      w_8.cell? ⟨w_6.heap.size, 1, none⟩ = some (.int .i64 x51_1) ∧
      ∃ (b51_2 : Bool),
      w_8.cell? ⟨w_6.heap.size, 2, none⟩ = some (.bool b51_2) ∧
      Calls Try.prog 70 #[.pointer p50, .agg #[.int .i64 x51_0, .int .i64 x51_1, .bool b51_2]] w_8.drew fun e_4 w_9 =>
      e_4 = .returned (.tuple #[]) ∧
      let i53 : Int := IntKind.i64.wrap (x43 + 1);
      ([.pointer (some ⟨a0, 0, none⟩), .slice A41 n41 c41, .int .i64 (n41 : Int)] : List Value) = ([.pointer (some ⟨a0, 0, none⟩), .slice A41 n41 c41, .int .i64 (n41 : Int)] : List Value) ∧ ∃ m, m < r ∧ I i53 w_9 m) (
      R (.int .i64 0) w_6))
theorem f41.eq (a0 : Nat) (xa1 : Int) (w : World) (R : Value → World → Prop) : f41.VC a0 xa1 w R = funV Try.prog Try.f41 f41.AL f41.AC #[.pointer (some ⟨a0, 0, none⟩), .int .i64 xa1] w R := by kernel_rfl
theorem f41.calls {a0 : Nat} {xa1 : Int} {w : World} {R : Value → World → Prop} (h : f41.VC a0 xa1 w R) : Calls Try.prog 41 #[.pointer (some ⟨a0, 0, none⟩), .int .i64 xa1] w fun e w' => ∃ v, e = .returned v ∧ R v w' :=
  funV_sound (fn := Try.f41) (AL := f41.AL) (AC := f41.AC) V4.mixed (by kernel_rfl) (by rw [← f41.eq a0 xa1]; exact h)

/-- (*gatehouse/arena.Arena).Live -/
def f49.AL : Nat → Option Ann := fun _ => none
def f49.AC : Nat → Option Ann := fun _ => none
def f49.VC (a0 : Nat) (w : World) (R : Value → World → Prop) : Prop :=
  ∃ (m6 : Option Nat),
  w.cell? ⟨a0, 2, none⟩ = some (.map m6) ∧
  ∃ (x7 : Int),
  ∃ w_1 : World, (Builtin.len_ #[136] 3 #[.map m6]).run Try.prog w = .ok (.int .i64 x7) w_1 ∧
  R (.int .i64 x7) w_1
theorem f49.eq (a0 : Nat) (w : World) (R : Value → World → Prop) : f49.VC a0 w R = funV Try.prog Try.f49 f49.AL f49.AC #[.pointer (some ⟨a0, 0, none⟩)] w R := by kernel_rfl
theorem f49.calls {a0 : Nat} {w : World} {R : Value → World → Prop} (h : f49.VC a0 w R) : Calls Try.prog 49 #[.pointer (some ⟨a0, 0, none⟩)] w fun e w' => ∃ v, e = .returned v ∧ R v w' :=
  funV_sound (fn := Try.f49) (AL := f49.AL) (AC := f49.AC) V4.mixed (by kernel_rfl) (by rw [← f49.eq a0]; exact h)

/-- gatehouse/arena.lower -/
def f69.AL : Nat → Option Ann := fun _ => none
def f69.AC : Nat → Option Ann := fun _ => none
def f69.VC (xa0_0 : Int) (xa0_1 : Int) (ba0_2 : Bool) (xa1_0 : Int) (xa1_1 : Int) (ba1_2 : Bool) (w : World) (R : Value → World → Prop) : Prop :=
  let w_1 : World := World.alloc w (.cells #[.int .i64 xa0_0, .int .i64 xa0_1, .bool ba0_2] 96);
  let w_2 : World := World.alloc w_1 (.cells #[.int .i64 xa1_0, .int .i64 xa1_1, .bool ba1_2] 96);
  ∃ (x6 : Int),
  w_2.cell? ⟨w.heap.size, 0, none⟩ = some (.int .i64 x6) ∧
  ∃ (x8 : Int),
  w_2.cell? ⟨w_1.heap.size, 0, none⟩ = some (.int .i64 x8) ∧
  R (.bool (decide ((x6 : Int) < (x8 : Int)))) w_2
theorem f69.eq (xa0_0 : Int) (xa0_1 : Int) (ba0_2 : Bool) (xa1_0 : Int) (xa1_1 : Int) (ba1_2 : Bool) (w : World) (R : Value → World → Prop) : f69.VC xa0_0 xa0_1 ba0_2 xa1_0 xa1_1 ba1_2 w R = funV Try.prog Try.f69 f69.AL f69.AC #[.agg #[.int .i64 xa0_0, .int .i64 xa0_1, .bool ba0_2], .agg #[.int .i64 xa1_0, .int .i64 xa1_1, .bool ba1_2]] w R := by kernel_rfl
theorem f69.calls {xa0_0 : Int} {xa0_1 : Int} {ba0_2 : Bool} {xa1_0 : Int} {xa1_1 : Int} {ba1_2 : Bool} {w : World} {R : Value → World → Prop} (h : f69.VC xa0_0 xa0_1 ba0_2 xa1_0 xa1_1 ba1_2 w R) : Calls Try.prog 69 #[.agg #[.int .i64 xa0_0, .int .i64 xa0_1, .bool ba0_2], .agg #[.int .i64 xa1_0, .int .i64 xa1_1, .bool ba1_2]] w fun e w' => ∃ v, e = .returned v ∧ R v w' :=
  funV_sound (fn := Try.f69) (AL := f69.AL) (AC := f69.AC) V4.mixed (by kernel_rfl) (by rw [← f69.eq xa0_0 xa0_1 ba0_2 xa1_0 xa1_1 ba1_2]; exact h)

/-- (*gatehouse/cells.Memory).Len -/
def f67.AL : Nat → Option Ann := fun _ => none
def f67.AC : Nat → Option Ann := fun _ => none
def f67.VC (a0 : Nat) (w : World) (R : Value → World → Prop) : Prop :=
  ∃ (A6 : Option Addr) (n6 c6 : Nat),
  w.cell? ⟨a0, 0, none⟩ = some (.slice A6 n6 c6) ∧
  R (.int .i64 (n6 : Int)) w
theorem f67.eq (a0 : Nat) (w : World) (R : Value → World → Prop) : f67.VC a0 w R = funV Try.prog Try.f67 f67.AL f67.AC #[.pointer (some ⟨a0, 0, none⟩)] w R := by kernel_rfl
theorem f67.calls {a0 : Nat} {w : World} {R : Value → World → Prop} (h : f67.VC a0 w R) : Calls Try.prog 67 #[.pointer (some ⟨a0, 0, none⟩)] w fun e w' => ∃ v, e = .returned v ∧ R v w' :=
  funV_sound (fn := Try.f67) (AL := f67.AL) (AC := f67.AC) V4.mixed (by kernel_rfl) (by rw [← f67.eq a0]; exact h)

/-- (*gatehouse/cells.Memory).Poison -/
def f71.AL : Nat → Option Ann := fun _ => none
def f71.AC : Nat → Option Ann := fun _ => none
def f71.VC (a0 : Nat) (xa1 : Int) (xa2 : Int) (w : World) (R : Value → World → Prop) : Prop :=
  Calls Try.prog 81 #[.pointer (some ⟨a0, 0, none⟩), .int .i64 xa1, .int .i64 xa2, .func (.func 86) #[.pointer (some ⟨a0, 0, none⟩)] #[]] w fun e_1 w_1 =>
  ∃ (x12 : Int),
  e_1 = .returned (.int .i64 x12) ∧
  R (.int .i64 x12) w_1
theorem f71.eq (a0 : Nat) (xa1 : Int) (xa2 : Int) (w : World) (R : Value → World → Prop) : f71.VC a0 xa1 xa2 w R = funV Try.prog Try.f71 f71.AL f71.AC #[.pointer (some ⟨a0, 0, none⟩), .int .i64 xa1, .int .i64 xa2] w R := by kernel_rfl
theorem f71.calls {a0 : Nat} {xa1 : Int} {xa2 : Int} {w : World} {R : Value → World → Prop} (h : f71.VC a0 xa1 xa2 w R) : Calls Try.prog 71 #[.pointer (some ⟨a0, 0, none⟩), .int .i64 xa1, .int .i64 xa2] w fun e w' => ∃ v, e = .returned v ∧ R v w' :=
  funV_sound (fn := Try.f71) (AL := f71.AL) (AC := f71.AC) V4.mixed (by kernel_rfl) (by rw [← f71.eq a0 xa1 xa2]; exact h)

/-- (*gatehouse/arena.Arena).drained -/
def f72.AL : Nat → Option Ann := fun r => match r with | 2 => some ⟨[(3, .slice)], [0]⟩ | _ => none
def f72.AC : Nat → Option Ann := fun _ => none
def f72.VC (a0 : Nat) (w : World) (R : Value → World → Prop) : Prop :=
  ∃ I : Option Addr → Nat → Nat → World → Nat → Prop,
  (∃ n, I none 0 0 w n) ∧
  ∀ d : Env, ∀ (A3 : Option Addr) (n3 c3 : Nat) (w_1 : World) (r : Nat), I A3 n3 c3 w_1 r →
  ∃ (p11 : Option Addr),
  w_1.cell? ⟨a0, 1, none⟩ = some (.pointer p11) ∧
  Calls Try.prog 73 #[.pointer p11] w_1 fun e_1 w_2 =>
  ∃ (x12_0_0 : Int) (x12_0_1 : Int) (b12_0_2 : Bool) (b12_1 : Bool),
  e_1 = .returned (.tuple #[.agg #[.int .i64 x12_0_0, .int .i64 x12_0_1, .bool b12_0_2], .bool b12_1]) ∧
  let w_3 : World := World.alloc w_2 (.cells #[.int .i64 0, .int .i64 0, .bool false] 96);
  canStore w_3 w_2.heap.size 0 3 ∧
  let w_4 : World := setCs w_3 w_2.heap.size 0 [.int .i64 x12_0_0, .int .i64 x12_0_1, .bool b12_0_2];
  sel (!b12_1) (
    R (.slice A3 n3 c3) w_4) (
    let i20 : Int := IntKind.i64.wrap ((n3 : Int) - 1);
    sel (decide ((0 : Int) ≤ (i20 : Int))) (
      (0 : Int) ≤ i20 ∧ i20 < (n3 : Int) ∧
      needPtr A3 fun b26 o26 =>
      (0 : Int) ≤ i20 ∧ i20 < (n3 : Int) ∧
      needPtr A3 fun b31 o31 =>
      ∃ (x28 : Int),
      w_4.cell? ⟨b26, o26 + i20.toNat * 3, none⟩ = some (.int .i64 x28) ∧
      ∃ (x33 : Int),
      w_4.cell? ⟨b31, o31 + i20.toNat * 3 + 1, none⟩ = some (.int .i64 x33) ∧
      let i34 : Int := IntKind.i64.wrap (x28 + x33);
      ∃ (x36 : Int),
      w_4.cell? ⟨w_2.heap.size, 0, none⟩ = some (.int .i64 x36) ∧
      sel ((i34 : Int) == (x36 : Int)) (
        (0 : Int) ≤ i20 ∧ i20 < (n3 : Int) ∧
        needPtr A3 fun b41 o41 =>
        ∃ (x43 : Int),
        w_4.cell? ⟨b41, o41 + i20.toNat * 3 + 1, none⟩ = some (.int .i64 x43) ∧
        ∃ (x45 : Int),
        w_4.cell? ⟨w_2.heap.size, 1, none⟩ = some (.int .i64 x45) ∧
        let i46 : Int := IntKind.i64.wrap (x43 + x45);
        (0 : Int) ≤ i20 ∧ i20 < (n3 : Int) ∧
        needPtr A3 fun b47 o47 =>
        canStore w_4 b47 (o47 + i20.toNat * 3 + 1) 1 ∧
        let w_5 : World := setCs w_4.drew.drew b47 (o47 + i20.toNat * 3 + 1) [.int .i64 i46];
        ([.pointer (some ⟨a0, 0, none⟩)] : List Value) = ([.pointer (some ⟨a0, 0, none⟩)] : List Value) ∧ ∃ m, m < r ∧ I A3 n3 c3 w_5 m) (
        ∃ (x50_0 : Int),
        w_4.cell? ⟨w_2.heap.size, 0, none⟩ = some (.int .i64 x50_0) ∧
        ∃ (x50_1 : Int),
        w_4.cell? ⟨w_2.heap.size, 1, none⟩ = some (.int .i64 x50_1) ∧
        ∃ (b50_2 : Bool),
        w_4.cell? ⟨w_2.heap.size, 2, none⟩ = some (.bool b50_2) ∧
        let w_6 : World := World.alloc w_4.drew (.cells #[.int .i64 x50_0, .int .i64 x50_1, .bool b50_2] 96);
        ∃ (A52 : Option Addr) (n52 c52 : Nat),
        ∃ w_7 : World, (Builtin.append_ #[83, 83] 83 #[.slice A3 n3 c3, .slice (some ⟨w_4.heap.size, 0, none⟩) 1 1]).run Try.prog w_6 = .ok (.slice A52 n52 c52) w_7 ∧
        ([.pointer (some ⟨a0, 0, none⟩)] : List Value) = ([.pointer (some ⟨a0, 0, none⟩)] : List Value) ∧ ∃ m, m < r ∧ I A52 n52 c52 w_7 m)) (
      ∃ (x50_0_1 : Int),
      w_4.cell? ⟨w_2.heap.size, 0, none⟩ = some (.int .i64 x50_0_1) ∧
      ∃ (x50_1_1 : Int),
      w_4.cell? ⟨w_2.heap.size, 1, none⟩ = some (.int .i64 x50_1_1) ∧
      ∃ (b50_2_1 : Bool),
      w_4.cell? ⟨w_2.heap.size, 2, none⟩ = some (.bool b50_2_1) ∧
      let w_8 : World := World.alloc w_4.drew (.cells #[.int .i64 x50_0_1, .int .i64 x50_1_1, .bool b50_2_1] 96);
      ∃ (A52_1 : Option Addr) (n52_1 c52_1 : Nat),
      ∃ w_9 : World, (Builtin.append_ #[83, 83] 83 #[.slice A3 n3 c3, .slice (some ⟨w_4.heap.size, 0, none⟩) 1 1]).run Try.prog w_8 = .ok (.slice A52_1 n52_1 c52_1) w_9 ∧
      ([.pointer (some ⟨a0, 0, none⟩)] : List Value) = ([.pointer (some ⟨a0, 0, none⟩)] : List Value) ∧ ∃ m, m < r ∧ I A52_1 n52_1 c52_1 w_9 m))
theorem f72.eq (a0 : Nat) (w : World) (R : Value → World → Prop) : f72.VC a0 w R = funV Try.prog Try.f72 f72.AL f72.AC #[.pointer (some ⟨a0, 0, none⟩)] w R := by kernel_rfl
theorem f72.calls {a0 : Nat} {w : World} {R : Value → World → Prop} (h : f72.VC a0 w R) : Calls Try.prog 72 #[.pointer (some ⟨a0, 0, none⟩)] w fun e w' => ∃ v, e = .returned v ∧ R v w' :=
  funV_sound (fn := Try.f72) (AL := f72.AL) (AC := f72.AC) V4.mixed (by kernel_rfl) (by rw [← f72.eq a0]; exact h)

/-- (*gatehouse/cells.Memory).Clear -/
def f74.AL : Nat → Option Ann := fun _ => none
def f74.AC : Nat → Option Ann := fun _ => none
def f74.VC (a0 : Nat) (xa1 : Int) (xa2 : Int) (w : World) (R : Value → World → Prop) : Prop :=
  Calls Try.prog 81 #[.pointer (some ⟨a0, 0, none⟩), .int .i64 xa1, .int .i64 xa2, .func (.func 87) #[.pointer (some ⟨a0, 0, none⟩)] #[]] w fun e_1 w_1 =>
  ∃ (x12 : Int),
  e_1 = .returned (.int .i64 x12) ∧
  R (.int .i64 x12) w_1
theorem f74.eq (a0 : Nat) (xa1 : Int) (xa2 : Int) (w : World) (R : Value → World → Prop) : f74.VC a0 xa1 xa2 w R = funV Try.prog Try.f74 f74.AL f74.AC #[.pointer (some ⟨a0, 0, none⟩), .int .i64 xa1, .int .i64 xa2] w R := by kernel_rfl
theorem f74.calls {a0 : Nat} {xa1 : Int} {xa2 : Int} {w : World} {R : Value → World → Prop} (h : f74.VC a0 xa1 xa2 w R) : Calls Try.prog 74 #[.pointer (some ⟨a0, 0, none⟩), .int .i64 xa1, .int .i64 xa2] w fun e w' => ∃ v, e = .returned v ∧ R v w' :=
  funV_sound (fn := Try.f74) (AL := f74.AL) (AC := f74.AC) V4.mixed (by kernel_rfl) (by rw [← f74.eq a0 xa1 xa2]; exact h)

/-- (*gatehouse/cells.Memory).over -/
def f81.AL : Nat → Option Ann := fun r => match r with | 4 => some ⟨[(28, .int .i64)], [1, 3, 27]⟩ | _ => none
def f81.AC : Nat → Option Ann := fun _ => none
def f81.VC (a0 : Nat) (xa1 : Int) (xa2 : Int) (a3 : Nat) (fst3 cap3 : Array Value) (w : World) (R : Value → World → Prop) : Prop :=
  sel (decide ((xa1 : Int) < (0 : Int))) (
    R (.int .i64 140) w) (
    sel (decide ((xa2 : Int) < (0 : Int))) (
      R (.int .i64 140) w) (
      ∃ (A21 : Option Addr) (n21 c21 : Nat),
      w.cell? ⟨a0, 0, none⟩ = some (.slice A21 n21 c21) ∧
      let i24 : Int := IntKind.i64.wrap ((n21 : Int) - xa2);
      sel (decide ((i24 : Int) < (xa1 : Int))) (
        R (.int .i64 140) w) (
        ∃ I : Int → World → Nat → Prop,
        (∃ n, I 0 w n) ∧
        ∀ d : Env, ∀ (x28 : Int) (w_1 : World) (r : Nat), I x28 w_1 r →
        sel (decide ((x28 : Int) < (xa2 : Int))) (
          let i34 : Int := IntKind.i64.wrap (xa1 + x28);
          callT Try.prog (.func (.func a3) fst3 cap3) #[.int .i64 i34] w_1 fun e_1 w_2 =>
          e_1 = .returned (.tuple #[]) ∧
          let i36 : Int := IntKind.i64.wrap (x28 + 1);
          ([.int .i64 xa1, .func (.func a3) fst3 cap3, .int .i64 xa2] : List Value) = ([.int .i64 xa1, .func (.func a3) fst3 cap3, .int .i64 xa2] : List Value) ∧ ∃ m, m < r ∧ I i36 w_2 m) (
          R (.int .i64 0) w_1))))
theorem f81.eq (a0 : Nat) (xa1 : Int) (xa2 : Int) (a3 : Nat) (fst3 cap3 : Array Value) (w : World) (R : Value → World → Prop) : f81.VC a0 xa1 xa2 a3 fst3 cap3 w R = funV Try.prog Try.f81 f81.AL f81.AC #[.pointer (some ⟨a0, 0, none⟩), .int .i64 xa1, .int .i64 xa2, .func (.func a3) fst3 cap3] w R := by kernel_rfl
theorem f81.calls {a0 : Nat} {xa1 : Int} {xa2 : Int} {a3 : Nat} {fst3 cap3 : Array Value} {w : World} {R : Value → World → Prop} (h : f81.VC a0 xa1 xa2 a3 fst3 cap3 w R) : Calls Try.prog 81 #[.pointer (some ⟨a0, 0, none⟩), .int .i64 xa1, .int .i64 xa2, .func (.func a3) fst3 cap3] w fun e w' => ∃ v, e = .returned v ∧ R v w' :=
  funV_sound (fn := Try.f81) (AL := f81.AL) (AC := f81.AC) V4.mixed (by kernel_rfl) (by rw [← f81.eq a0 xa1 xa2 a3 fst3 cap3]; exact h)

/-- (*gatehouse/cells.Memory).spoil -/
def f86.AL : Nat → Option Ann := fun _ => none
def f86.AC : Nat → Option Ann := fun _ => none
def f86.VC (a0 : Nat) (xa1 : Int) (w : World) (R : Value → World → Prop) : Prop :=
  ∃ (A7 : Option Addr) (n7 c7 : Nat),
  w.cell? ⟨a0, 0, none⟩ = some (.slice A7 n7 c7) ∧
  (0 : Int) ≤ xa1 ∧ xa1 < (n7 : Int) ∧
  needPtr A7 fun b9 o9 =>
  canStore w b9 (o9 + xa1.toNat * 1) 1 ∧
  let w_1 : World := setCs w b9 (o9 + xa1.toNat * 1) [.int .i64 (-4611686018427387904)];
  R (.tuple #[]) w_1
theorem f86.eq (a0 : Nat) (xa1 : Int) (w : World) (R : Value → World → Prop) : f86.VC a0 xa1 w R = funV Try.prog Try.f86 f86.AL f86.AC #[.pointer (some ⟨a0, 0, none⟩), .int .i64 xa1] w R := by kernel_rfl
theorem f86.calls {a0 : Nat} {xa1 : Int} {w : World} {R : Value → World → Prop} (h : f86.VC a0 xa1 w R) : Calls Try.prog 86 #[.pointer (some ⟨a0, 0, none⟩), .int .i64 xa1] w fun e w' => ∃ v, e = .returned v ∧ R v w' :=
  funV_sound (fn := Try.f86) (AL := f86.AL) (AC := f86.AC) V4.mixed (by kernel_rfl) (by rw [← f86.eq a0 xa1]; exact h)

/-- (*gatehouse/cells.Memory).wipe -/
def f87.AL : Nat → Option Ann := fun _ => none
def f87.AC : Nat → Option Ann := fun _ => none
def f87.VC (a0 : Nat) (xa1 : Int) (w : World) (R : Value → World → Prop) : Prop :=
  ∃ (A7 : Option Addr) (n7 c7 : Nat),
  w.cell? ⟨a0, 0, none⟩ = some (.slice A7 n7 c7) ∧
  (0 : Int) ≤ xa1 ∧ xa1 < (n7 : Int) ∧
  needPtr A7 fun b9 o9 =>
  canStore w b9 (o9 + xa1.toNat * 1) 1 ∧
  let w_1 : World := setCs w b9 (o9 + xa1.toNat * 1) [.int .i64 0];
  R (.tuple #[]) w_1
theorem f87.eq (a0 : Nat) (xa1 : Int) (w : World) (R : Value → World → Prop) : f87.VC a0 xa1 w R = funV Try.prog Try.f87 f87.AL f87.AC #[.pointer (some ⟨a0, 0, none⟩), .int .i64 xa1] w R := by kernel_rfl
theorem f87.calls {a0 : Nat} {xa1 : Int} {w : World} {R : Value → World → Prop} (h : f87.VC a0 xa1 w R) : Calls Try.prog 87 #[.pointer (some ⟨a0, 0, none⟩), .int .i64 xa1] w fun e w' => ∃ v, e = .returned v ∧ R v w' :=
  funV_sound (fn := Try.f87) (AL := f87.AL) (AC := f87.AC) V4.mixed (by kernel_rfl) (by rw [← f87.eq a0 xa1]; exact h)

/-- gatehouse/gatehouselaw15.at -/
def f19.AL : Nat → Option Ann := fun _ => none
def f19.AC : Nat → Option Ann := fun _ => none
def f19.VC (xa0 : Int) (xa1 : Int) (w : World) (R : Value → World → Prop) : Prop :=
  xa1 ≠ (0 : Int) ∧
  let i8 : Int := Int.tmod xa0 xa1;
  sel (decide ((i8 : Int) < (0 : Int))) (
    let i13 : Int := IntKind.i64.wrap (i8 + xa1);
    R (.int .i64 i13) w) (
    R (.int .i64 i8) w)
theorem f19.eq (xa0 : Int) (xa1 : Int) (w : World) (R : Value → World → Prop) : f19.VC xa0 xa1 w R = funV Try.prog Try.f19 f19.AL f19.AC #[.int .i64 xa0, .int .i64 xa1] w R := by kernel_rfl
theorem f19.calls {xa0 : Int} {xa1 : Int} {w : World} {R : Value → World → Prop} (h : f19.VC xa0 xa1 w R) : Calls Try.prog 19 #[.int .i64 xa0, .int .i64 xa1] w fun e w' => ∃ v, e = .returned v ∧ R v w' :=
  funV_sound (fn := Try.f19) (AL := f19.AL) (AC := f19.AC) V4.mixed (by kernel_rfl) (by rw [← f19.eq xa0 xa1]; exact h)

end Go.Proofs.Ytebahglmdifmpaa
