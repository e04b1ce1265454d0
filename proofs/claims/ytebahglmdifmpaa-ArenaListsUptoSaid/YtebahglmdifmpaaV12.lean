/- The plain statements of some functions, printed by vcgen.py. -/
import Derived.Test.YtebahglmdifmpaaVcC
import Derived.Test.YtebahglmdifmpaaProg
import Derived.KernelRfl
set_option maxRecDepth 100000
set_option linter.unusedVariables false
namespace Go.Proofs.Ytebahglmdifmpaa
open Go Go.Proofs.Ytebahglmdifmpaa.Vc
theorem V12.mixed : Try.prog.follows .mixedOrders = true := by kernel_rfl
/-- gatehouse/gatehouselaw15.grown -/
def f48.AL : Nat → Option Ann := fun r => match r with | 2 => some ⟨[(3, .int .i64)], [0]⟩ | 5 => some ⟨[(4, .int .i64)], [0, 3]⟩ | 10 => some ⟨[(5, .slice), (6, .int .i64)], [0]⟩ | 14 => some ⟨[(7, .slice), (8, .int .i64)], [0, 5, 6]⟩ | 19 => some ⟨[(9, .int .i64)], [0, 5]⟩ | 23 => some ⟨[(11, .int .i64)], [0, 5, 9, 10]⟩ | _ => none
def f48.AC : Nat → Option Ann := fun _ => none
def f48.VC (Aa0 : Option Addr) (na0 ca0 : Nat) (w : World) (R : Value → World → Prop) : Prop :=
  ∃ I : Int → World → Nat → Prop,
  (∃ n, I 0 w n) ∧
  ∀ d : Env, ∀ (x3 : Int) (w_1 : World) (r : Nat), I x3 w_1 r →
  sel (decide ((x3 : Int) < ((na0 : Int) : Int))) (
    ∃ I_1 : Int → World → Nat → Prop,
    (∃ n, I_1 0 w_1 n) ∧
    ∀ d_1 : Env, ∀ (x4 : Int) (w_2 : World) (r_1 : Nat), I_1 x4 w_2 r_1 →
    (0 : Int) ≤ x3 ∧ x3 < (na0 : Int) ∧
    needPtr Aa0 fun b21 o21 =>
    ∃ (A22 : Option Addr) (n22 c22 : Nat),
    w_2.cell? ⟨b21, o21 + x3.toNat * 1, none⟩ = some (.slice A22 n22 c22) ∧
    sel (decide ((x4 : Int) < ((n22 : Int) : Int))) (
      (0 : Int) ≤ x3 ∧ x3 < (na0 : Int) ∧
      needPtr Aa0 fun b29 o29 =>
      ∃ (A30 : Option Addr) (n30 c30 : Nat),
      w_2.cell? ⟨b29, o29 + x3.toNat * 1, none⟩ = some (.slice A30 n30 c30) ∧
      let i33 : Int := IntKind.i64.wrap ((-1) - x3);
      (0 : Int) ≤ x4 ∧ x4 < (n30 : Int) ∧
      needPtr A30 fun b36 o36 =>
      canStore w_2 b36 (o36 + x4.toNat * 3) 3 ∧
      let w_3 : World := setCs w_2 b36 (o36 + x4.toNat * 3) [.int .i64 i33, .int .i64 x4, .bool false];
      let i26 : Int := IntKind.i64.wrap (x4 + 1);
      ([.slice Aa0 na0 ca0, .int .i64 x3] : List Value) = ([.slice Aa0 na0 ca0, .int .i64 x3] : List Value) ∧ ∃ m, m < r_1 ∧ I_1 i26 w_3 m) (
      let i17 : Int := IntKind.i64.wrap (x3 + 1);
      ([.slice Aa0 na0 ca0] : List Value) = ([.slice Aa0 na0 ca0] : List Value) ∧ ∃ m, m < r ∧ I i17 w_2 m)) (
    ∃ I_2 : Option Addr → Nat → Nat → Int → World → Nat → Prop,
    (∃ n, I_2 none 0 0 0 w_1 n) ∧
    ∀ d_2 : Env, ∀ (A5 : Option Addr) (n5 c5 : Nat) (x6 : Int) (w_4 : World) (r_2 : Nat), I_2 A5 n5 c5 x6 w_4 r_2 →
    sel (decide ((x6 : Int) < ((na0 : Int) : Int))) (
      (0 : Int) ≤ x6 ∧ x6 < (na0 : Int) ∧
      needPtr Aa0 fun b45 o45 =>
      ∃ (A46 : Option Addr) (n46 c46 : Nat),
      w_4.cell? ⟨b45, o45 + x6.toNat * 1, none⟩ = some (.slice A46 n46 c46) ∧
      ∃ I_3 : Option Addr → Nat → Nat → Int → World → Nat → Prop,
      (∃ n, I_3 A46 n46 c46 0 w_4 n) ∧
      ∀ d_3 : Env, ∀ (A7 : Option Addr) (n7 c7 : Nat) (x8 : Int) (w_5 : World) (r_3 : Nat), I_3 A7 n7 c7 x8 w_5 r_3 →
      sel (decide ((x8 : Int) < (64 : Int))) (
        let i53 : Int := IntKind.i64.wrap ((-100) - x6);
        let w_6 : World := World.alloc w_5 (.cells #[.int .i64 i53, .int .i64 x8, .bool false] 96);
        ∃ (A57 : Option Addr) (n57 c57 : Nat),
        ∃ w_7 : World, (Builtin.append_ #[83, 83] 83 #[.slice A7 n7 c7, .slice (some ⟨w_5.heap.size, 0, none⟩) 1 1]).run Try.prog w_6 = .ok (.slice A57 n57 c57) w_7 ∧
        let i50 : Int := IntKind.i64.wrap (x8 + 1);
        ([.slice Aa0 na0 ca0, .slice A5 n5 c5, .int .i64 x6] : List Value) = ([.slice Aa0 na0 ca0, .slice A5 n5 c5, .int .i64 x6] : List Value) ∧ ∃ m, m < r_3 ∧ I_3 A57 n57 c57 i50 w_7 m) (
        let w_8 : World := World.alloc w_5 (.cells #[.slice A7 n7 c7] 83);
        ∃ (A61 : Option Addr) (n61 c61 : Nat),
        ∃ w_9 : World, (Builtin.append_ #[78, 78] 78 #[.slice A5 n5 c5, .slice (some ⟨w_5.heap.size, 0, none⟩) 1 1]).run Try.prog w_8 = .ok (.slice A61 n61 c61) w_9 ∧
        let i42 : Int := IntKind.i64.wrap (x6 + 1);
        ([.slice Aa0 na0 ca0] : List Value) = ([.slice Aa0 na0 ca0] : List Value) ∧ ∃ m, m < r_2 ∧ I_2 A61 n61 c61 i42 w_9 m)) (
      ∃ I_4 : Int → World → Nat → Prop,
      (∃ n, I_4 0 w_4 n) ∧
      ∀ d_4 : Env, ∀ (x9 : Int) (w_10 : World) (r_4 : Nat), I_4 x9 w_10 r_4 →
      sel (decide ((x9 : Int) < ((na0 : Int) : Int))) (
        (0 : Int) ≤ x9 ∧ x9 < (na0 : Int) ∧
        needPtr Aa0 fun b70 o70 =>
        ∃ (A71 : Option Addr) (n71 c71 : Nat),
        w_10.cell? ⟨b70, o70 + x9.toNat * 1, none⟩ = some (.slice A71 n71 c71) ∧
        ∃ I_5 : Int → World → Nat → Prop,
        (∃ n, I_5 0 w_10 n) ∧
        ∀ d_5 : Env, ∀ (x11 : Int) (w_11 : World) (r_5 : Nat), I_5 x11 w_11 r_5 →
        (0 : Int) ≤ x9 ∧ x9 < (n5 : Int) ∧
        needPtr A5 fun b76 o76 =>
        ∃ (A77 : Option Addr) (n77 c77 : Nat),
        w_11.cell? ⟨b76, o76 + x9.toNat * 1, none⟩ = some (.slice A77 n77 c77) ∧
        sel (decide ((x11 : Int) < ((n77 : Int) : Int))) (
          sel (decide ((x11 : Int) < ((n71 : Int) : Int))) (
            (0 : Int) ≤ x9 ∧ x9 < (na0 : Int) ∧
            needPtr Aa0 fun b88 o88 =>
            let i94 : Int := IntKind.i64.wrap ((-1) - x9);
            ∃ (A89 : Option Addr) (n89 c89 : Nat),
            w_11.cell? ⟨b88, o88 + x9.toNat * 1, none⟩ = some (.slice A89 n89 c89) ∧
            (0 : Int) ≤ x11 ∧ x11 < (n89 : Int) ∧
            needPtr A89 fun b91 o91 =>
            ∃ (x92_0 : Int),
            w_11.cell? ⟨b91, o91 + x11.toNat * 3, none⟩ = some (.int .i64 x92_0) ∧
            ∃ (x92_1 : Int),
            w_11.cell? ⟨b91, o91 + x11.toNat * 3 + 1, none⟩ = some (.int .i64 x92_1) ∧
            ∃ (b92_2 : Bool),
            w_11.cell? ⟨b91, o91 + x11.toNat * 3 + 1 + 1, none⟩ = some (.bool b92_2) ∧
            ∃ b97 : Bool, (∀ w', (do eqGuard .neq 96 (.tmp 92) (.tmp 96) (.agg #[.int .i64 x92_0, .int .i64 x92_1, .bool b92_2]) (.agg #[.int .i64 i94, .int .i64 x11, .bool false]); binOp .neq 96 (.agg #[.int .i64 x92_0, .int .i64 x92_1, .bool b92_2]) (.agg #[.int .i64 i94, .int .i64 x11, .bool false]) : Sem Value).run Try.prog w' = .ok (.bool b97) w') ∧
            sel b97 (
              R (.bool false) w_11.drew) (
              (0 : Int) ≤ x9 ∧ x9 < (n5 : Int) ∧
              needPtr A5 fun b101 o101 =>
              (0 : Int) ≤ x9 ∧ x9 < (na0 : Int) ∧
              needPtr Aa0 fun b108 o108 =>
              ∃ (A102 : Option Addr) (n102 c102 : Nat),
              w_11.cell? ⟨b101, o101 + x9.toNat * 1, none⟩ = some (.slice A102 n102 c102) ∧
              (0 : Int) ≤ x11 ∧ x11 < (n102 : Int) ∧
              needPtr A102 fun b104 o104 =>
              ∃ (x105_0 : Int),
              w_11.cell? ⟨b104, o104 + x11.toNat * 3, none⟩ = some (.int .i64 x105_0) ∧
              ∃ (x105_1 : Int),
              w_11.cell? ⟨b104, o104 + x11.toNat * 3 + 1, none⟩ = some (.int .i64 x105_1) ∧
              ∃ (b105_2 : Bool),
              w_11.cell? ⟨b104, o104 + x11.toNat * 3 + 1 + 1, none⟩ = some (.bool b105_2) ∧
              ∃ (A109 : Option Addr) (n109 c109 : Nat),
              w_11.cell? ⟨b108, o108 + x9.toNat * 1, none⟩ = some (.slice A109 n109 c109) ∧
              (0 : Int) ≤ x11 ∧ x11 < (n109 : Int) ∧
              needPtr A109 fun b111 o111 =>
              ∃ (x112_0 : Int),
              w_11.cell? ⟨b111, o111 + x11.toNat * 3, none⟩ = some (.int .i64 x112_0) ∧
              ∃ (x112_1 : Int),
              w_11.cell? ⟨b111, o111 + x11.toNat * 3 + 1, none⟩ = some (.int .i64 x112_1) ∧
              ∃ (b112_2 : Bool),
              w_11.cell? ⟨b111, o111 + x11.toNat * 3 + 1 + 1, none⟩ = some (.bool b112_2) ∧
              ∃ b113 : Bool, (∀ w', (do eqGuard .neq 96 (.tmp 105) (.tmp 112) (.agg #[.int .i64 x105_0, .int .i64 x105_1, .bool b105_2]) (.agg #[.int .i64 x112_0, .int .i64 x112_1, .bool b112_2]); binOp .neq 96 (.agg #[.int .i64 x105_0, .int .i64 x105_1, .bool b105_2]) (.agg #[.int .i64 x112_0, .int .i64 x112_1, .bool b112_2]) : Sem Value).run Try.prog w' = .ok (.bool b113) w') ∧
              sel b113 (
                R (.bool false) w_11.drew) (
                sel (decide (((n71 : Int) : Int) ≤ (x11 : Int))) (
                  (0 : Int) ≤ x9 ∧ x9 < (n5 : Int) ∧
                  needPtr A5 fun b123 o123 =>
                  let i129 : Int := IntKind.i64.wrap ((-100) - x9);
                  let i132 : Int := IntKind.i64.wrap (x11 - (n71 : Int));
                  ∃ (A124 : Option Addr) (n124 c124 : Nat),
                  w_11.cell? ⟨b123, o123 + x9.toNat * 1, none⟩ = some (.slice A124 n124 c124) ∧
                  (0 : Int) ≤ x11 ∧ x11 < (n124 : Int) ∧
                  needPtr A124 fun b126 o126 =>
                  ∃ (x127_0 : Int),
                  w_11.cell? ⟨b126, o126 + x11.toNat * 3, none⟩ = some (.int .i64 x127_0) ∧
                  ∃ (x127_1 : Int),
                  w_11.cell? ⟨b126, o126 + x11.toNat * 3 + 1, none⟩ = some (.int .i64 x127_1) ∧
                  ∃ (b127_2 : Bool),
                  w_11.cell? ⟨b126, o126 + x11.toNat * 3 + 1 + 1, none⟩ = some (.bool b127_2) ∧
                  ∃ b134 : Bool, (∀ w', (do eqGuard .neq 96 (.tmp 127) (.tmp 133) (.agg #[.int .i64 x127_0, .int .i64 x127_1, .bool b127_2]) (.agg #[.int .i64 i129, .int .i64 i132, .bool false]); binOp .neq 96 (.agg #[.int .i64 x127_0, .int .i64 x127_1, .bool b127_2]) (.agg #[.int .i64 i129, .int .i64 i132, .bool false]) : Sem Value).run Try.prog w' = .ok (.bool b134) w') ∧
                  sel b134 (
                    R (.bool false) w_11.drew) (
                    let i81 : Int := IntKind.i64.wrap (x11 + 1);
                    ([.slice Aa0 na0 ca0, .slice A5 n5 c5, .int .i64 x9, .int .i64 (n71 : Int)] : List Value) = ([.slice Aa0 na0 ca0, .slice A5 n5 c5, .int .i64 x9, .int .i64 (n71 : Int)] : List Value) ∧ ∃ m, m < r_5 ∧ I_5 i81 w_11.drew m)) (
                  let i81_1 : Int := IntKind.i64.wrap (x11 + 1);
                  ([.slice Aa0 na0 ca0, .slice A5 n5 c5, .int .i64 x9, .int .i64 (n71 : Int)] : List Value) = ([.slice Aa0 na0 ca0, .slice A5 n5 c5, .int .i64 x9, .int .i64 (n71 : Int)] : List Value) ∧ ∃ m, m < r_5 ∧ I_5 i81_1 w_11.drew m)))) (
            sel (decide (((n71 : Int) : Int) ≤ (x11 : Int))) (
              (0 : Int) ≤ x9 ∧ x9 < (n5 : Int) ∧
              needPtr A5 fun b123_1 o123_1 =>
              let i129_1 : Int := IntKind.i64.wrap ((-100) - x9);
              let i132_1 : Int := IntKind.i64.wrap (x11 - (n71 : Int));
              ∃ (A124_1 : Option Addr) (n124_1 c124_1 : Nat),
              w_11.cell? ⟨b123_1, o123_1 + x9.toNat * 1, none⟩ = some (.slice A124_1 n124_1 c124_1) ∧
              (0 : Int) ≤ x11 ∧ x11 < (n124_1 : Int) ∧
              needPtr A124_1 fun b126_1 o126_1 =>
              ∃ (x127_0_1 : Int),
              w_11.cell? ⟨b126_1, o126_1 + x11.toNat * 3, none⟩ = some (.int .i64 x127_0_1) ∧
              ∃ (x127_1_1 : Int),
              w_11.cell? ⟨b126_1, o126_1 + x11.toNat * 3 + 1, none⟩ = some (.int .i64 x127_1_1) ∧
              ∃ (b127_2_1 : Bool),
              w_11.cell? ⟨b126_1, o126_1 + x11.toNat * 3 + 1 + 1, none⟩ = some (.bool b127_2_1) ∧
              ∃ b134_1 : Bool, (∀ w', (do eqGuard .neq 96 (.tmp 127) (.tmp 133) (.agg #[.int .i64 x127_0_1, .int .i64 x127_1_1, .bool b127_2_1]) (.agg #[.int .i64 i129_1, .int .i64 i132_1, .bool false]); binOp .neq 96 (.agg #[.int .i64 x127_0_1, .int .i64 x127_1_1, .bool b127_2_1]) (.agg #[.int .i64 i129_1, .int .i64 i132_1, .bool false]) : Sem Value).run Try.prog w' = .ok (.bool b134_1) w') ∧
              sel b134_1 (
                R (.bool false) w_11.drew) (
                let i81_2 : Int := IntKind.i64.wrap (x11 + 1);
                ([.slice Aa0 na0 ca0, .slice A5 n5 c5, .int .i64 x9, .int .i64 (n71 : Int)] : List Value) = ([.slice Aa0 na0 ca0, .slice A5 n5 c5, .int .i64 x9, .int .i64 (n71 : Int)] : List Value) ∧ ∃ m, m < r_5 ∧ I_5 i81_2 w_11.drew m)) (
              let i81_3 : Int := IntKind.i64.wrap (x11 + 1);
              ([.slice Aa0 na0 ca0, .slice A5 n5 c5, .int .i64 x9, .int .i64 (n71 : Int)] : List Value) = ([.slice Aa0 na0 ca0, .slice A5 n5 c5, .int .i64 x9, .int .i64 (n71 : Int)] : List Value) ∧ ∃ m, m < r_5 ∧ I_5 i81_3 w_11.drew m))) (
          let i67 : Int := IntKind.i64.wrap (x9 + 1);
          ([.slice Aa0 na0 ca0, .slice A5 n5 c5] : List Value) = ([.slice Aa0 na0 ca0, .slice A5 n5 c5] : List Value) ∧ ∃ m, m < r_4 ∧ I_4 i67 w_11 m)) (
        R (.bool true) w_10)))
theorem f48.eq (Aa0 : Option Addr) (na0 ca0 : Nat) (w : World) (R : Value → World → Prop) : f48.VC Aa0 na0 ca0 w R = funV Try.prog Try.f48 f48.AL f48.AC #[.slice Aa0 na0 ca0] w R := by kernel_rfl
theorem f48.calls {Aa0 : Option Addr} {na0 ca0 : Nat} {w : World} {R : Value → World → Prop} (h : f48.VC Aa0 na0 ca0 w R) : Calls Try.prog 48 #[.slice Aa0 na0 ca0] w fun e w' => ∃ v, e = .returned v ∧ R v w' :=
  funV_sound (fn := Try.f48) (AL := f48.AL) (AC := f48.AC) V12.mixed (by kernel_rfl) (by rw [← f48.eq Aa0 na0 ca0]; exact h)

/-- (*gatehouse/gatehouselaw15.pair).one -/
def f57.AL : Nat → Option Ann := fun _ => none
def f57.AC : Nat → Option Ann := fun _ => none
def f57.VC (a0 : Nat) (xa1_0 : Int) (xa1_1 : Int) (xa1_2 : Int) (xa1_3 : Int) (w : World) (R : Value → World → Prop) : Prop :=
  let w_1 : World := World.alloc w (.cells #[.int .i64 xa1_0, .int .i64 xa1_1, .int .i64 xa1_2, .int .i64 xa1_3] 90);
  ∃ (x12 : Int),
  w_1.cell? ⟨w.heap.size, 0, none⟩ = some (.int .i64 x12) ∧
  sel ((x12 : Int) == (1 : Int)) (
    ∃ (p19 : Option Addr),
    w_1.cell? ⟨a0, 1, none⟩ = some (.pointer p19) ∧
    ∃ (x21 : Int),
    w_1.cell? ⟨w.heap.size, 2, none⟩ = some (.int .i64 x21) ∧
    Calls Try.prog 43 #[.pointer p19, .int .i64 x21] w_1.drew fun e_1 w_2 =>
    ∃ (x22_0 : Int) (x22_1 : Int),
    e_1 = .returned (.tuple #[.int .i64 x22_0, .int .i64 x22_1]) ∧
    ∃ (p29 : Option Addr),
    w_2.cell? ⟨a0, 2, none⟩ = some (.pointer p29) ∧
    ∃ (x31 : Int),
    w_2.cell? ⟨w.heap.size, 2, none⟩ = some (.int .i64 x31) ∧
    Calls Try.prog 44 #[.pointer p29, .int .i64 x31] w_2.drew fun e_2 w_3 =>
    ∃ (x32_0 : Int) (x32_1 : Int),
    e_2 = .returned (.tuple #[.int .i64 x32_0, .int .i64 x32_1]) ∧
    sel ((x22_0 : Int) == (x32_0 : Int)) (
      R (.bool ((x22_1 : Int) == (x32_1 : Int))) w_3) (
      R (.bool false) w_3)) (
    sel ((x12 : Int) == (2 : Int)) (
      ∃ (p48 : Option Addr),
      w_1.cell? ⟨a0, 1, none⟩ = some (.pointer p48) ∧
      ∃ (x50 : Int),
      w_1.cell? ⟨w.heap.size, 2, none⟩ = some (.int .i64 x50) ∧
      (Calls Try.prog 41 #[.pointer p48, .int .i64 x50] w_1.drew fun e_3 w_4 =>
        ∃ (x51 : Int),
        e_3 = .returned (.int .i64 x51) ∧
        ∃ (p55 : Option Addr),
        w_4.cell? ⟨a0, 2, none⟩ = some (.pointer p55) ∧
        ∃ (x57 : Int),
        w_4.cell? ⟨w.heap.size, 2, none⟩ = some (.int .i64 x57) ∧
        Calls Try.prog 42 #[.pointer p55, .int .i64 x57] w_4 fun e_4 w_5 =>
        ∃ (x58 : Int),
        e_4 = .returned (.int .i64 x58) ∧
        R (.bool ((x51 : Int) == (x58 : Int))) w_5) ∧
      (∃ (p55_1 : Option Addr),
        w_1.cell? ⟨a0, 2, none⟩ = some (.pointer p55_1) ∧
        (Calls Try.prog 41 #[.pointer p48, .int .i64 x50] w_1.drew fun e_5 w_6 =>
          ∃ (x51_1 : Int),
          e_5 = .returned (.int .i64 x51_1) ∧
          ∃ (x57_1 : Int),
          w_6.cell? ⟨w.heap.size, 2, none⟩ = some (.int .i64 x57_1) ∧
          Calls Try.prog 42 #[.pointer p55_1, .int .i64 x57_1] w_6 fun e_6 w_7 =>
          ∃ (x58_1 : Int),
          e_6 = .returned (.int .i64 x58_1) ∧
          R (.bool ((x51_1 : Int) == (x58_1 : Int))) w_7) ∧
        (∃ (x57_2 : Int),
          w_1.cell? ⟨w.heap.size, 2, none⟩ = some (.int .i64 x57_2) ∧
          Calls Try.prog 41 #[.pointer p48, .int .i64 x50] w_1.drew fun e_7 w_8 =>
          ∃ (x51_2 : Int),
          e_7 = .returned (.int .i64 x51_2) ∧
          Calls Try.prog 42 #[.pointer p55_1, .int .i64 x57_2] w_8 fun e_8 w_9 =>
          ∃ (x58_2 : Int),
          e_8 = .returned (.int .i64 x58_2) ∧
          R (.bool ((x51_2 : Int) == (x58_2 : Int))) w_9) ∧ True) ∧
      (∃ (x57_3 : Int),
        w_1.cell? ⟨w.heap.size, 2, none⟩ = some (.int .i64 x57_3) ∧
        (Calls Try.prog 41 #[.pointer p48, .int .i64 x50] w_1.drew fun e_9 w_10 =>
          ∃ (x51_3 : Int),
          e_9 = .returned (.int .i64 x51_3) ∧
          ∃ (p55_2 : Option Addr),
          w_10.cell? ⟨a0, 2, none⟩ = some (.pointer p55_2) ∧
          Calls Try.prog 42 #[.pointer p55_2, .int .i64 x57_3] w_10 fun e_10 w_11 =>
          ∃ (x58_3 : Int),
          e_10 = .returned (.int .i64 x58_3) ∧
          R (.bool ((x51_3 : Int) == (x58_3 : Int))) w_11) ∧
        (∃ (p55_3 : Option Addr),
          w_1.cell? ⟨a0, 2, none⟩ = some (.pointer p55_3) ∧
          Calls Try.prog 41 #[.pointer p48, .int .i64 x50] w_1.drew fun e_11 w_12 =>
          ∃ (x51_4 : Int),
          e_11 = .returned (.int .i64 x51_4) ∧
          Calls Try.prog 42 #[.pointer p55_3, .int .i64 x57_3] w_12 fun e_12 w_13 =>
          ∃ (x58_4 : Int),
          e_12 = .returned (.int .i64 x58_4) ∧
          R (.bool ((x51_4 : Int) == (x58_4 : Int))) w_13) ∧ True) ∧ True) (
      sel ((x12 : Int) == (3 : Int)) (
        ∃ (p65 : Option Addr),
        w_1.cell? ⟨a0, 2, none⟩ = some (.pointer p65) ∧
        ∃ (x67 : Int),
        w_1.cell? ⟨w.heap.size, 2, none⟩ = some (.int .i64 x67) ∧
        Calls Try.prog 40 #[.pointer p65, .int .i64 x67] w_1.drew fun e_13 w_14 =>
        ∃ (x68 : Int),
        e_13 = .returned (.int .i64 x68) ∧
        ∃ (p72 : Option Addr),
        w_14.cell? ⟨a0, 1, none⟩ = some (.pointer p72) ∧
        (Calls Try.prog 41 #[.pointer p72, .int .i64 x68] w_14.drew fun e_14 w_15 =>
          ∃ (x74 : Int),
          e_14 = .returned (.int .i64 x74) ∧
          ∃ (p78 : Option Addr),
          w_15.cell? ⟨a0, 2, none⟩ = some (.pointer p78) ∧
          Calls Try.prog 42 #[.pointer p78, .int .i64 x68] w_15 fun e_15 w_16 =>
          ∃ (x80 : Int),
          e_15 = .returned (.int .i64 x80) ∧
          R (.bool ((x74 : Int) == (x80 : Int))) w_16) ∧
        (∃ (p78_1 : Option Addr),
          w_14.cell? ⟨a0, 2, none⟩ = some (.pointer p78_1) ∧
          Calls Try.prog 41 #[.pointer p72, .int .i64 x68] w_14.drew fun e_16 w_17 =>
          ∃ (x74_1 : Int),
          e_16 = .returned (.int .i64 x74_1) ∧
          Calls Try.prog 42 #[.pointer p78_1, .int .i64 x68] w_17 fun e_17 w_18 =>
          ∃ (x80_1 : Int),
          e_17 = .returned (.int .i64 x80_1) ∧
          R (.bool ((x74_1 : Int) == (x80_1 : Int))) w_18) ∧ True) (
        sel ((x12 : Int) == (4 : Int)) (
          ∃ (p87 : Option Addr),
          w_1.cell? ⟨a0, 1, none⟩ = some (.pointer p87) ∧
          (Calls Try.prog 49 #[.pointer p87] w_1.drew fun e_18 w_19 =>
            ∃ (x88 : Int),
            e_18 = .returned (.int .i64 x88) ∧
            ∃ (p92 : Option Addr),
            w_19.cell? ⟨a0, 2, none⟩ = some (.pointer p92) ∧
            Calls Try.prog 50 #[.pointer p92] w_19 fun e_19 w_20 =>
            ∃ (x93 : Int),
            e_19 = .returned (.int .i64 x93) ∧
            R (.bool ((x88 : Int) == (x93 : Int))) w_20) ∧
          (∃ (p92_1 : Option Addr),
            w_1.cell? ⟨a0, 2, none⟩ = some (.pointer p92_1) ∧
            Calls Try.prog 49 #[.pointer p87] w_1.drew fun e_20 w_21 =>
            ∃ (x88_1 : Int),
            e_20 = .returned (.int .i64 x88_1) ∧
            Calls Try.prog 50 #[.pointer p92_1] w_21 fun e_21 w_22 =>
            ∃ (x93_1 : Int),
            e_21 = .returned (.int .i64 x93_1) ∧
            R (.bool ((x88_1 : Int) == (x93_1 : Int))) w_22) ∧ True) (
          sel ((x12 : Int) == (5 : Int)) (
            ∃ (p100 : Option Addr),
            w_1.cell? ⟨a0, 1, none⟩ = some (.pointer p100) ∧
            (Calls Try.prog 45 #[.pointer p100] w_1.drew fun e_22 w_23 =>
              ∃ (A101 : Option Addr) (n101 c101 : Nat),
              e_22 = .returned (.slice A101 n101 c101) ∧
              ∃ (p105 : Option Addr),
              w_23.cell? ⟨a0, 2, none⟩ = some (.pointer p105) ∧
              Calls Try.prog 47 #[.pointer p105] w_23 fun e_23 w_24 =>
              ∃ (A106 : Option Addr) (n106 c106 : Nat),
              e_23 = .returned (.slice A106 n106 c106) ∧
              Calls Try.prog 46 #[.slice A101 n101 c101, .slice A106 n106 c106] w_24 fun e_24 w_25 =>
              ∃ (b107 : Bool),
              e_24 = .returned (.bool b107) ∧
              R (.bool b107) w_25) ∧
            (∃ (p105_1 : Option Addr),
              w_1.cell? ⟨a0, 2, none⟩ = some (.pointer p105_1) ∧
              Calls Try.prog 45 #[.pointer p100] w_1.drew fun e_25 w_26 =>
              ∃ (A101_1 : Option Addr) (n101_1 c101_1 : Nat),
              e_25 = .returned (.slice A101_1 n101_1 c101_1) ∧
              Calls Try.prog 47 #[.pointer p105_1] w_26 fun e_26 w_27 =>
              ∃ (A106_1 : Option Addr) (n106_1 c106_1 : Nat),
              e_26 = .returned (.slice A106_1 n106_1 c106_1) ∧
              Calls Try.prog 46 #[.slice A101_1 n101_1 c101_1, .slice A106_1 n106_1 c106_1] w_27 fun e_27 w_28 =>
              ∃ (b107_1 : Bool),
              e_27 = .returned (.bool b107_1) ∧
              R (.bool b107_1) w_28) ∧ True) (
            sel ((x12 : Int) == (6 : Int)) (
              ∃ (x111 : Int),
              w_1.cell? ⟨w.heap.size, 2, none⟩ = some (.int .i64 x111) ∧
              ∃ (p115 : Option Addr),
              w_1.cell? ⟨a0, 2, none⟩ = some (.pointer p115) ∧
              needPtr p115 fun b116 o116 =>
              ∃ (A118 : Option Addr) (n118 c118 : Nat),
              w_1.cell? ⟨b116, o116 + 1, none⟩ = some (.slice A118 n118 c118) ∧
              Calls Try.prog 19 #[.int .i64 x111, .int .i64 (n118 : Int)] w_1.drew fun e_28 w_29 =>
              ∃ (x120 : Int),
              e_28 = .returned (.int .i64 x120) ∧
              ∃ (x122 : Int),
              w_29.cell? ⟨w.heap.size, 3, none⟩ = some (.int .i64 x122) ∧
              sel ((x122 : Int) != ((-4611686018427387904) : Int)) (
                ∃ (p128 : Option Addr),
                w_29.cell? ⟨a0, 2, none⟩ = some (.pointer p128) ∧
                needPtr p128 fun b129 o129 =>
                ∃ (A131 : Option Addr) (n131 c131 : Nat),
                w_29.cell? ⟨b129, o129 + 1, none⟩ = some (.slice A131 n131 c131) ∧
                (0 : Int) ≤ x120 ∧ x120 < (n131 : Int) ∧
                needPtr A131 fun b133 o133 =>
                ∃ (x134 : Int),
                w_29.cell? ⟨b133, o133 + x120.toNat * 1, none⟩ = some (.int .i64 x134) ∧
                sel ((x134 : Int) != ((-4611686018427387904) : Int)) (
                  ∃ (p140 : Option Addr),
                  w_29.cell? ⟨a0, 0, none⟩ = some (.pointer p140) ∧
                  ∃ (x143 : Int),
                  w_29.cell? ⟨w.heap.size, 3, none⟩ = some (.int .i64 x143) ∧
                  Calls Try.prog 83 #[.pointer p140, .int .i64 x120, .int .i64 x143] w_29.drew fun e_29 w_30 =>
                  ∃ (x144 : Int),
                  e_29 = .returned (.int .i64 x144) ∧
                  ∃ (p148 : Option Addr),
                  w_30.cell? ⟨a0, 2, none⟩ = some (.pointer p148) ∧
                  needPtr p148 fun b149 o149 =>
                  ∃ (A151 : Option Addr) (n151 c151 : Nat),
                  w_30.cell? ⟨b149, o149 + 1, none⟩ = some (.slice A151 n151 c151) ∧
                  ∃ (x154 : Int),
                  w_30.cell? ⟨w.heap.size, 3, none⟩ = some (.int .i64 x154) ∧
                  (0 : Int) ≤ x120 ∧ x120 < (n151 : Int) ∧
                  needPtr A151 fun b155 o155 =>
                  canStore w_30 b155 (o155 + x120.toNat * 1) 1 ∧
                  let w_31 : World := setCs w_30.drew b155 (o155 + x120.toNat * 1) [.int .i64 x154];
                  ∃ (x159 : Int),
                  w_31.cell? ⟨a0, 3, none⟩ = some (.int .i64 x159) ∧
                  let i160 : Int := IntKind.i64.wrap (x159 + 1);
                  canStore w_31 a0 3 1 ∧
                  let w_32 : World := setCs w_31 a0 3 [.int .i64 i160];
                  R (.bool true) w_32) (
                  R (.bool true) w_29)) (
                R (.bool true) w_29)) (
              R (.bool true) w_1))))))
theorem f57.eq (a0 : Nat) (xa1_0 : Int) (xa1_1 : Int) (xa1_2 : Int) (xa1_3 : Int) (w : World) (R : Value → World → Prop) : f57.VC a0 xa1_0 xa1_1 xa1_2 xa1_3 w R = funV Try.prog Try.f57 f57.AL f57.AC #[.pointer (some ⟨a0, 0, none⟩), .agg #[.int .i64 xa1_0, .int .i64 xa1_1, .int .i64 xa1_2, .int .i64 xa1_3]] w R := by kernel_rfl
theorem f57.calls {a0 : Nat} {xa1_0 : Int} {xa1_1 : Int} {xa1_2 : Int} {xa1_3 : Int} {w : World} {R : Value → World → Prop} (h : f57.VC a0 xa1_0 xa1_1 xa1_2 xa1_3 w R) : Calls Try.prog 57 #[.pointer (some ⟨a0, 0, none⟩), .agg #[.int .i64 xa1_0, .int .i64 xa1_1, .int .i64 xa1_2, .int .i64 xa1_3]] w fun e w' => ∃ v, e = .returned v ∧ R v w' :=
  funV_sound (fn := Try.f57) (AL := f57.AL) (AC := f57.AC) V12.mixed (by kernel_rfl) (by rw [← f57.eq a0 xa1_0 xa1_1 xa1_2 xa1_3]; exact h)

end Go.Proofs.Ytebahglmdifmpaa
