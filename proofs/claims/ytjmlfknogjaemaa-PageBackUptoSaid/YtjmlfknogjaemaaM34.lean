/- The plain statements of some functions, printed by vcgen.py. -/
import Derived.Test.YtjmlfknogjaemaaM4
import Derived.Test.YtjmlfknogjaemaaProg
import Derived.KernelRfl
import Derived.Test.YtjmlfknogjaemaaM33
import Derived.Test.YtjmlfknogjaemaaM24
set_option maxRecDepth 100000
set_option linter.unusedVariables false
namespace Go.Proofs.Ytjmlfknogjaemaa
open Go Go.Proofs.Ytjmlfknogjaemaa.Vc
theorem W23.mixed : Try.prog.follows .mixedOrders = true := by kernel_rfl
/-- gatehouse/gatehouselaw12.lent -/
def f14.AL : Nat → Option Ann := fun r => match r with | 6 => some ⟨[(10, .int .i64)], [1, 2, 6, 7, 8, 9]⟩ | 12 => some ⟨[(11, .int .i64)], [1, 2, 6, 7, 8, 9]⟩ | 15 => some ⟨[(12, .int .i64)], [1, 2, 6, 7, 8, 9, 11]⟩ | 20 => some ⟨[(13, .int .i64)], [1, 2, 6, 7, 8, 9]⟩ | _ => none
def f14.AC : Nat → Option Ann := fun r => match r with | 1000003 => some ⟨[], []⟩ | _ => none
def f14.VC (Aa0_0 : Option Addr) (na0_0 ca0_0 : Nat) (Aa0_1 : Option Addr) (na0_1 ca0_1 : Nat) (Aa0_2 : Option Addr) (na0_2 ca0_2 : Nat) (Aa0_3 : Option Addr) (na0_3 ca0_3 : Nat) (Aa0_4 : Option Addr) (na0_4 ca0_4 : Nat) (Aa0_5 : Option Addr) (na0_5 ca0_5 : Nat) (w : World) (R : Value → World → Prop) : Prop :=
  let w_1 : World := World.alloc w (.cells #[.slice Aa0_0 na0_0 ca0_0, .slice Aa0_1 na0_1 ca0_1, .slice Aa0_2 na0_2 ca0_2, .slice Aa0_3 na0_3 ca0_3, .slice Aa0_4 na0_4 ca0_4, .slice Aa0_5 na0_5 ca0_5] 29);
  let w_2 : World := World.alloc w_1 (.cells #[.slice none 0 0, .slice none 0 0, .slice none 0 0, .slice none 0 0, .slice none 0 0, .slice none 0 0] 29);
  ∃ (A14_0 : Option Addr) (n14_0 c14_0 : Nat),
  w_2.cell? ⟨w.heap.size, 0, none⟩ = some (.slice A14_0 n14_0 c14_0) ∧
  ∃ (A14_1 : Option Addr) (n14_1 c14_1 : Nat),
  w_2.cell? ⟨w.heap.size, 1, none⟩ = some (.slice A14_1 n14_1 c14_1) ∧
  ∃ (A14_2 : Option Addr) (n14_2 c14_2 : Nat),
  w_2.cell? ⟨w.heap.size, 2, none⟩ = some (.slice A14_2 n14_2 c14_2) ∧
  ∃ (A14_3 : Option Addr) (n14_3 c14_3 : Nat),
  w_2.cell? ⟨w.heap.size, 3, none⟩ = some (.slice A14_3 n14_3 c14_3) ∧
  ∃ (A14_4 : Option Addr) (n14_4 c14_4 : Nat),
  w_2.cell? ⟨w.heap.size, 4, none⟩ = some (.slice A14_4 n14_4 c14_4) ∧
  ∃ (A14_5 : Option Addr) (n14_5 c14_5 : Nat),
  w_2.cell? ⟨w.heap.size, 5, none⟩ = some (.slice A14_5 n14_5 c14_5) ∧
  Calls Try.prog 15 #[.agg #[.slice A14_0 n14_0 c14_0, .slice A14_1 n14_1 c14_1, .slice A14_2 n14_2 c14_2, .slice A14_3 n14_3 c14_3, .slice A14_4 n14_4 c14_4, .slice A14_5 n14_5 c14_5]] w_2 fun e_1 w_3 =>
  ∃ (A15_0 : Option Addr) (n15_0 c15_0 : Nat) (A15_1 : Option Addr) (n15_1 c15_1 : Nat) (A15_2 : Option Addr) (n15_2 c15_2 : Nat) (A15_3 : Option Addr) (n15_3 c15_3 : Nat) (A15_4 : Option Addr) (n15_4 c15_4 : Nat) (A15_5 : Option Addr) (n15_5 c15_5 : Nat),
  e_1 = .returned (.agg #[.slice A15_0 n15_0 c15_0, .slice A15_1 n15_1 c15_1, .slice A15_2 n15_2 c15_2, .slice A15_3 n15_3 c15_3, .slice A15_4 n15_4 c15_4, .slice A15_5 n15_5 c15_5]) ∧
  let w_4 : World := World.alloc w_3 (.cells #[.slice none 0 0, .slice none 0 0, .slice none 0 0, .slice none 0 0, .slice none 0 0, .slice none 0 0] 29);
  canStore w_4 w_3.heap.size 0 6 ∧
  let w_5 : World := setCs w_4 w_3.heap.size 0 [.slice A15_0 n15_0 c15_0, .slice A15_1 n15_1 c15_1, .slice A15_2 n15_2 c15_2, .slice A15_3 n15_3 c15_3, .slice A15_4 n15_4 c15_4, .slice A15_5 n15_5 c15_5];
  ∃ (A17 : Option Addr) (n17 c17 : Nat),
  w_5.cell? ⟨w_3.heap.size, 0, none⟩ = some (.slice A17 n17 c17) ∧
  ∃ (A19 : Option Addr) (n19 c19 : Nat),
  w_5.cell? ⟨w_3.heap.size, 1, none⟩ = some (.slice A19 n19 c19) ∧
  ∃ (A21 : Option Addr) (n21 c21 : Nat),
  w_5.cell? ⟨w_3.heap.size, 2, none⟩ = some (.slice A21 n21 c21) ∧
  let w_6 : World := World.alloc w_5 (.cells #[.slice A17 n17 c17, .slice A19 n19 c19, .slice A21 n21 c21] 25);
  ∃ (A24 : Option Addr) (n24 c24 : Nat),
  w_6.cell? ⟨w.heap.size, 3, none⟩ = some (.slice A24 n24 c24) ∧
  ∃ (A27 : Option Addr) (n27 c27 : Nat),
  w_6.cell? ⟨w.heap.size, 4, none⟩ = some (.slice A27 n27 c27) ∧
  Calls Try.prog 24 #[.slice A24 n24 c24, .int .i64 12] w_6.drew fun e_2 w_7 =>
  ∃ (A25 : Option Addr) (n25 c25 : Nat),
  e_2 = .returned (.slice A25 n25 c25) ∧
  (w_7.cell? ⟨w.heap.size, 4, none⟩ = some (.slice A27 n27 c27) ∧ w_7.cell? ⟨w.heap.size, 3, none⟩ = some (.slice A24 n24 c24) ∧ True) ∧
  Calls Try.prog 24 #[.slice A27 n27 c27, .int .i64 12] w_7 fun e_3 w_8 =>
  ∃ (A28 : Option Addr) (n28 c28 : Nat),
  e_3 = .returned (.slice A28 n28 c28) ∧
  (w_8.cell? ⟨w.heap.size, 4, none⟩ = some (.slice A27 n27 c27) ∧ w_8.cell? ⟨w.heap.size, 3, none⟩ = some (.slice A24 n24 c24) ∧ True) ∧
  let w_9 : World := World.alloc w_8 (.cells #[.slice A25 n25 c25, .slice A28 n28 c28] 26);
  (w_9.cell? ⟨w.heap.size, 4, none⟩ = some (.slice A27 n27 c27) ∧ w_9.cell? ⟨w.heap.size, 3, none⟩ = some (.slice A24 n24 c24) ∧ True) ∧
  ∃ (A31 : Option Addr) (n31 c31 : Nat),
  w_9.cell? ⟨w_3.heap.size, 5, none⟩ = some (.slice A31 n31 c31) ∧
  ∃ I : Int → World → Nat → Prop,
  (∃ n, I 0 w_9 n) ∧
  ∀ d : Env, ∀ (x10 : Int) (w_10 : World) (r : Nat), I x10 w_10 r →
  sel (decide ((x10 : Int) < (12 : Int))) (
  (0 : Int) ≤ 0 ∧ 0 < (3 : Int) ∧
  ∃ (A39 : Option Addr) (n39 c39 : Nat),
  w_10.cell? ⟨w_5.heap.size, 0, none⟩ = some (.slice A39 n39 c39) ∧
  let w_11 : World := World.alloc w_10 (.cells #[.string ⟨#[10, 32, 98, 101, 104, 105, 110, 100]⟩] 9);
  ∃ (A41 : Option Addr) (n41 c41 : Nat),
  ∃ w_12 : World, (Builtin.append_ #[25, 25] 25 #[.slice A39 n39 c39, .slice (some ⟨w_10.heap.size, 0, none⟩) 1 1]).run Try.prog w_11 = .ok (.slice A41 n41 c41) w_12 ∧
  (0 : Int) ≤ 0 ∧ 0 < (3 : Int) ∧
  canStore w_12 w_5.heap.size 0 1 ∧
  let w_13 : World := setCs w_12 w_5.heap.size 0 [.slice A41 n41 c41];
  (0 : Int) ≤ 1 ∧ 1 < (3 : Int) ∧
  ∃ (A46 : Option Addr) (n46 c46 : Nat),
  w_13.cell? ⟨w_5.heap.size, 1, none⟩ = some (.slice A46 n46 c46) ∧
  let w_14 : World := World.alloc w_13 (.cells #[.string ⟨#[10, 32, 98, 101, 104, 105, 110, 100]⟩] 9);
  ∃ (A48 : Option Addr) (n48 c48 : Nat),
  ∃ w_15 : World, (Builtin.append_ #[25, 25] 25 #[.slice A46 n46 c46, .slice (some ⟨w_13.heap.size, 0, none⟩) 1 1]).run Try.prog w_14 = .ok (.slice A48 n48 c48) w_15 ∧
  (0 : Int) ≤ 1 ∧ 1 < (3 : Int) ∧
  canStore w_15 w_5.heap.size 1 1 ∧
  let w_16 : World := setCs w_15 w_5.heap.size 1 [.slice A48 n48 c48];
  (0 : Int) ≤ 2 ∧ 2 < (3 : Int) ∧
  ∃ (A53 : Option Addr) (n53 c53 : Nat),
  w_16.cell? ⟨w_5.heap.size, 2, none⟩ = some (.slice A53 n53 c53) ∧
  let w_17 : World := World.alloc w_16 (.cells #[.string ⟨#[10, 32, 98, 101, 104, 105, 110, 100]⟩] 9);
  ∃ (A55 : Option Addr) (n55 c55 : Nat),
  ∃ w_18 : World, (Builtin.append_ #[25, 25] 25 #[.slice A53 n53 c53, .slice (some ⟨w_16.heap.size, 0, none⟩) 1 1]).run Try.prog w_17 = .ok (.slice A55 n55 c55) w_18 ∧
  (0 : Int) ≤ 2 ∧ 2 < (3 : Int) ∧
  canStore w_18 w_5.heap.size 2 1 ∧
  let w_19 : World := setCs w_18 w_5.heap.size 2 [.slice A55 n55 c55];
  let i35 : Int := IntKind.i64.wrap (x10 + 1);
  ([.pointer (some ⟨w.heap.size, 0, none⟩), .pointer (some ⟨w_1.heap.size, 0, none⟩), .pointer (some ⟨w_3.heap.size, 0, none⟩), .slice (some ⟨w_5.heap.size, 0, none⟩) 3 3, .slice (some ⟨w_8.heap.size, 0, none⟩) 2 2, .slice A31 n31 c31] : List Value) = ([.pointer (some ⟨w.heap.size, 0, none⟩), .pointer (some ⟨w_1.heap.size, 0, none⟩), .pointer (some ⟨w_3.heap.size, 0, none⟩), .slice (some ⟨w_5.heap.size, 0, none⟩) 3 3, .slice (some ⟨w_8.heap.size, 0, none⟩) 2 2, .slice A31 n31 c31] : List Value) ∧ ∃ m, m < r ∧ I i35 w_19 m) (
  ∃ I_1 : Int → World → Nat → Prop,
  (∃ n, I_1 0 w_10 n) ∧
  ∀ d_1 : Env, ∀ (x11 : Int) (w_20 : World) (r_1 : Nat), I_1 x11 w_20 r_1 →
  sel (decide ((x11 : Int) < ((n31 : Int) : Int))) (
  ∃ I_2 : Int → World → Nat → Prop,
  (∃ n, I_2 0 w_20 n) ∧
  ∀ d_2 : Env, ∀ (x12 : Int) (w_21 : World) (r_2 : Nat), I_2 x12 w_21 r_2 →
  sel (decide ((x12 : Int) < (12 : Int))) (
  (0 : Int) ≤ x11 ∧ x11 < (n31 : Int) ∧
  needPtr A31 fun b71 o71 =>
  ∃ (A72 : Option Addr) (n72 c72 : Nat),
  w_21.cell? ⟨b71, o71 + x11.toNat * 1, none⟩ = some (.slice A72 n72 c72) ∧
  let w_22 : World := World.alloc w_21 (.cells #[.int .u16 60001] 79);
  ∃ (A74 : Option Addr) (n74 c74 : Nat),
  ∃ w_23 : World, (Builtin.append_ #[82, 82] 82 #[.slice A72 n72 c72, .slice (some ⟨w_21.heap.size, 0, none⟩) 1 1]).run Try.prog w_22 = .ok (.slice A74 n74 c74) w_23 ∧
  (0 : Int) ≤ x11 ∧ x11 < (n31 : Int) ∧
  needPtr A31 fun b75 o75 =>
  canStore w_23 b75 (o75 + x11.toNat * 1) 1 ∧
  let w_24 : World := setCs w_23 b75 (o75 + x11.toNat * 1) [.slice A74 n74 c74];
  let i66 : Int := IntKind.i64.wrap (x12 + 1);
  ([.pointer (some ⟨w.heap.size, 0, none⟩), .pointer (some ⟨w_1.heap.size, 0, none⟩), .pointer (some ⟨w_3.heap.size, 0, none⟩), .slice (some ⟨w_5.heap.size, 0, none⟩) 3 3, .slice (some ⟨w_8.heap.size, 0, none⟩) 2 2, .slice A31 n31 c31, .int .i64 x11] : List Value) = ([.pointer (some ⟨w.heap.size, 0, none⟩), .pointer (some ⟨w_1.heap.size, 0, none⟩), .pointer (some ⟨w_3.heap.size, 0, none⟩), .slice (some ⟨w_5.heap.size, 0, none⟩) 3 3, .slice (some ⟨w_8.heap.size, 0, none⟩) 2 2, .slice A31 n31 c31, .int .i64 x11] : List Value) ∧ ∃ m, m < r_2 ∧ I_2 i66 w_24 m) (
  let i62 : Int := IntKind.i64.wrap (x11 + 1);
  ([.pointer (some ⟨w.heap.size, 0, none⟩), .pointer (some ⟨w_1.heap.size, 0, none⟩), .pointer (some ⟨w_3.heap.size, 0, none⟩), .slice (some ⟨w_5.heap.size, 0, none⟩) 3 3, .slice (some ⟨w_8.heap.size, 0, none⟩) 2 2, .slice A31 n31 c31] : List Value) = ([.pointer (some ⟨w.heap.size, 0, none⟩), .pointer (some ⟨w_1.heap.size, 0, none⟩), .pointer (some ⟨w_3.heap.size, 0, none⟩), .slice (some ⟨w_5.heap.size, 0, none⟩) 3 3, .slice (some ⟨w_8.heap.size, 0, none⟩) 2 2, .slice A31 n31 c31] : List Value) ∧ ∃ m, m < r_1 ∧ I_1 i62 w_21 m)) (
  (0 : Int) ≤ 0 ∧ 0 < (3 : Int) ∧
  (0 : Int) ≤ 1 ∧ 1 < (3 : Int) ∧
  (0 : Int) ≤ 2 ∧ 2 < (3 : Int) ∧
  (0 : Int) ≤ 0 ∧ 0 < (2 : Int) ∧
  (0 : Int) ≤ 1 ∧ 1 < (2 : Int) ∧
  ∃ (A78 : Option Addr) (n78 c78 : Nat),
  w_20.cell? ⟨w_5.heap.size, 0, none⟩ = some (.slice A78 n78 c78) ∧
  ∃ (A80 : Option Addr) (n80 c80 : Nat),
  w_20.cell? ⟨w.heap.size, 0, none⟩ = some (.slice A80 n80 c80) ∧
  (0 : Int) ≤ (n80 : Int) ∧ (n80 : Int) ≤ (c78 : Int) ∧
  ∃ (A85 : Option Addr) (n85 c85 : Nat),
  w_20.cell? ⟨w_5.heap.size, 1, none⟩ = some (.slice A85 n85 c85) ∧
  ∃ (A87 : Option Addr) (n87 c87 : Nat),
  w_20.cell? ⟨w.heap.size, 1, none⟩ = some (.slice A87 n87 c87) ∧
  (0 : Int) ≤ (n87 : Int) ∧ (n87 : Int) ≤ (c85 : Int) ∧
  ∃ (A92 : Option Addr) (n92 c92 : Nat),
  w_20.cell? ⟨w_5.heap.size, 2, none⟩ = some (.slice A92 n92 c92) ∧
  ∃ (A94 : Option Addr) (n94 c94 : Nat),
  w_20.cell? ⟨w.heap.size, 2, none⟩ = some (.slice A94 n94 c94) ∧
  (0 : Int) ≤ (n94 : Int) ∧ (n94 : Int) ≤ (c92 : Int) ∧
  ∃ (A99 : Option Addr) (n99 c99 : Nat),
  w_20.cell? ⟨w_8.heap.size, 0, none⟩ = some (.slice A99 n99 c99) ∧
  ∃ (A101 : Option Addr) (n101 c101 : Nat),
  w_20.cell? ⟨w.heap.size, 3, none⟩ = some (.slice A101 n101 c101) ∧
  (0 : Int) ≤ (n101 : Int) ∧ (n101 : Int) ≤ (c99 : Int) ∧
  ∃ (A106 : Option Addr) (n106 c106 : Nat),
  w_20.cell? ⟨w_8.heap.size, 1, none⟩ = some (.slice A106 n106 c106) ∧
  ∃ (A108 : Option Addr) (n108 c108 : Nat),
  w_20.cell? ⟨w.heap.size, 4, none⟩ = some (.slice A108 n108 c108) ∧
  (0 : Int) ≤ (n108 : Int) ∧ (n108 : Int) ≤ (c106 : Int) ∧
  canStore w_20 w_3.heap.size 0 6 ∧
  let w_25 : World := setCs w_20.drew w_3.heap.size 0 [.slice A78 (n80 : Int).toNat c78, .slice A85 (n87 : Int).toNat c85, .slice A92 (n94 : Int).toNat c92, .slice A99 (n101 : Int).toNat c99, .slice A106 (n108 : Int).toNat c106, .slice none 0 0];
  ∃ I_3 : Int → World → Nat → Prop,
  (∃ n, I_3 0 w_25 n) ∧
  ∀ d_3 : Env, ∀ (x13 : Int) (w_26 : World) (r_3 : Nat), I_3 x13 w_26 r_3 →
  sel (decide ((x13 : Int) < ((n31 : Int) : Int))) (
  (0 : Int) ≤ x13 ∧ x13 < (n31 : Int) ∧
  needPtr A31 fun b122 o122 =>
  ∃ (A119 : Option Addr) (n119 c119 : Nat),
  w_26.cell? ⟨w_3.heap.size, 5, none⟩ = some (.slice A119 n119 c119) ∧
  ∃ (A123 : Option Addr) (n123 c123 : Nat),
  w_26.cell? ⟨b122, o122 + x13.toNat * 1, none⟩ = some (.slice A123 n123 c123) ∧
  ∃ (A125 : Option Addr) (n125 c125 : Nat),
  w_26.cell? ⟨w.heap.size, 5, none⟩ = some (.slice A125 n125 c125) ∧
  (0 : Int) ≤ x13 ∧ x13 < (n125 : Int) ∧
  needPtr A125 fun b127 o127 =>
  ∃ (A128 : Option Addr) (n128 c128 : Nat),
  w_26.cell? ⟨b127, o127 + x13.toNat * 1, none⟩ = some (.slice A128 n128 c128) ∧
  (0 : Int) ≤ (n128 : Int) ∧ (n128 : Int) ≤ (c123 : Int) ∧
  let w_27 : World := World.alloc w_26.drew (.cells #[.slice A123 (n128 : Int).toNat c123] 82);
  ∃ (A132 : Option Addr) (n132 c132 : Nat),
  ∃ w_28 : World, (Builtin.append_ #[27, 27] 27 #[.slice A119 n119 c119, .slice (some ⟨w_26.heap.size, 0, none⟩) 1 1]).run Try.prog w_27 = .ok (.slice A132 n132 c132) w_28 ∧
  canStore w_28 w_3.heap.size 5 1 ∧
  let w_29 : World := setCs w_28 w_3.heap.size 5 [.slice A132 n132 c132];
  let i117 : Int := IntKind.i64.wrap (x13 + 1);
  ([.pointer (some ⟨w.heap.size, 0, none⟩), .pointer (some ⟨w_1.heap.size, 0, none⟩), .pointer (some ⟨w_3.heap.size, 0, none⟩), .slice (some ⟨w_5.heap.size, 0, none⟩) 3 3, .slice (some ⟨w_8.heap.size, 0, none⟩) 2 2, .slice A31 n31 c31] : List Value) = ([.pointer (some ⟨w.heap.size, 0, none⟩), .pointer (some ⟨w_1.heap.size, 0, none⟩), .pointer (some ⟨w_3.heap.size, 0, none⟩), .slice (some ⟨w_5.heap.size, 0, none⟩) 3 3, .slice (some ⟨w_8.heap.size, 0, none⟩) 2 2, .slice A31 n31 c31] : List Value) ∧ ∃ m, m < r_3 ∧ I_3 i117 w_29 m) (
  ∃ (A134_0 : Option Addr) (n134_0 c134_0 : Nat),
  w_26.cell? ⟨w_3.heap.size, 0, none⟩ = some (.slice A134_0 n134_0 c134_0) ∧
  ∃ (A134_1 : Option Addr) (n134_1 c134_1 : Nat),
  w_26.cell? ⟨w_3.heap.size, 1, none⟩ = some (.slice A134_1 n134_1 c134_1) ∧
  ∃ (A134_2 : Option Addr) (n134_2 c134_2 : Nat),
  w_26.cell? ⟨w_3.heap.size, 2, none⟩ = some (.slice A134_2 n134_2 c134_2) ∧
  ∃ (A134_3 : Option Addr) (n134_3 c134_3 : Nat),
  w_26.cell? ⟨w_3.heap.size, 3, none⟩ = some (.slice A134_3 n134_3 c134_3) ∧
  ∃ (A134_4 : Option Addr) (n134_4 c134_4 : Nat),
  w_26.cell? ⟨w_3.heap.size, 4, none⟩ = some (.slice A134_4 n134_4 c134_4) ∧
  ∃ (A134_5 : Option Addr) (n134_5 c134_5 : Nat),
  w_26.cell? ⟨w_3.heap.size, 5, none⟩ = some (.slice A134_5 n134_5 c134_5) ∧
  canStore w_26 w_1.heap.size 0 6 ∧
  let w_30 : World := setCs w_26 w_1.heap.size 0 [.slice A134_0 n134_0 c134_0, .slice A134_1 n134_1 c134_1, .slice A134_2 n134_2 c134_2, .slice A134_3 n134_3 c134_3, .slice A134_4 n134_4 c134_4, .slice A134_5 n134_5 c134_5];
  ∃ (A2_0 : Option Addr) (n2_0 c2_0 : Nat),
  w_30.cell? ⟨w_1.heap.size, 0, none⟩ = some (.slice A2_0 n2_0 c2_0) ∧
  ∃ (A2_1 : Option Addr) (n2_1 c2_1 : Nat),
  w_30.cell? ⟨w_1.heap.size, 1, none⟩ = some (.slice A2_1 n2_1 c2_1) ∧
  ∃ (A2_2 : Option Addr) (n2_2 c2_2 : Nat),
  w_30.cell? ⟨w_1.heap.size, 2, none⟩ = some (.slice A2_2 n2_2 c2_2) ∧
  ∃ (A2_3 : Option Addr) (n2_3 c2_3 : Nat),
  w_30.cell? ⟨w_1.heap.size, 3, none⟩ = some (.slice A2_3 n2_3 c2_3) ∧
  ∃ (A2_4 : Option Addr) (n2_4 c2_4 : Nat),
  w_30.cell? ⟨w_1.heap.size, 4, none⟩ = some (.slice A2_4 n2_4 c2_4) ∧
  ∃ (A2_5 : Option Addr) (n2_5 c2_5 : Nat),
  w_30.cell? ⟨w_1.heap.size, 5, none⟩ = some (.slice A2_5 n2_5 c2_5) ∧
  R (.tuple #[.agg #[.slice A2_0 n2_0 c2_0, .slice A2_1 n2_1 c2_1, .slice A2_2 n2_2 c2_2, .slice A2_3 n2_3 c2_3, .slice A2_4 n2_4 c2_4, .slice A2_5 n2_5 c2_5], .slice (some ⟨w_5.heap.size, 0, none⟩) 3 3, .slice (some ⟨w_8.heap.size, 0, none⟩) 2 2, .slice A31 n31 c31]) w_30)))
theorem f14.eq (Aa0_0 : Option Addr) (na0_0 ca0_0 : Nat) (Aa0_1 : Option Addr) (na0_1 ca0_1 : Nat) (Aa0_2 : Option Addr) (na0_2 ca0_2 : Nat) (Aa0_3 : Option Addr) (na0_3 ca0_3 : Nat) (Aa0_4 : Option Addr) (na0_4 ca0_4 : Nat) (Aa0_5 : Option Addr) (na0_5 ca0_5 : Nat) (w : World) (R : Value → World → Prop) : f14.VC Aa0_0 na0_0 ca0_0 Aa0_1 na0_1 ca0_1 Aa0_2 na0_2 ca0_2 Aa0_3 na0_3 ca0_3 Aa0_4 na0_4 ca0_4 Aa0_5 na0_5 ca0_5 w R = funV Try.prog Try.f14 f14.AL f14.AC #[.agg #[.slice Aa0_0 na0_0 ca0_0, .slice Aa0_1 na0_1 ca0_1, .slice Aa0_2 na0_2 ca0_2, .slice Aa0_3 na0_3 ca0_3, .slice Aa0_4 na0_4 ca0_4, .slice Aa0_5 na0_5 ca0_5]] w R := by kernel_rfl
theorem f14.calls {Aa0_0 : Option Addr} {na0_0 ca0_0 : Nat} {Aa0_1 : Option Addr} {na0_1 ca0_1 : Nat} {Aa0_2 : Option Addr} {na0_2 ca0_2 : Nat} {Aa0_3 : Option Addr} {na0_3 ca0_3 : Nat} {Aa0_4 : Option Addr} {na0_4 ca0_4 : Nat} {Aa0_5 : Option Addr} {na0_5 ca0_5 : Nat} {w : World} {R : Value → World → Prop} (h : f14.VC Aa0_0 na0_0 ca0_0 Aa0_1 na0_1 ca0_1 Aa0_2 na0_2 ca0_2 Aa0_3 na0_3 ca0_3 Aa0_4 na0_4 ca0_4 Aa0_5 na0_5 ca0_5 w R) : Calls Try.prog 14 #[.agg #[.slice Aa0_0 na0_0 ca0_0, .slice Aa0_1 na0_1 ca0_1, .slice Aa0_2 na0_2 ca0_2, .slice Aa0_3 na0_3 ca0_3, .slice Aa0_4 na0_4 ca0_4, .slice Aa0_5 na0_5 ca0_5]] w fun e w' => ∃ v, e = .returned v ∧ R v w' :=
  funV_sound (fn := Try.f14) (AL := f14.AL) (AC := f14.AC) W23.mixed (by kernel_rfl) (by rw [← f14.eq Aa0_0 na0_0 ca0_0 Aa0_1 na0_1 ca0_1 Aa0_2 na0_2 ca0_2 Aa0_3 na0_3 ca0_3 Aa0_4 na0_4 ca0_4 Aa0_5 na0_5 ca0_5]; exact h)

/-- gatehouse/gatehouselaw12.stands -/
def f23.AL : Nat → Option Ann := fun r => match r with | 2 => some ⟨[(7, .int .i64)], [0, 1, 2]⟩ | 5 => some ⟨[(8, .int .i64)], [0, 1, 2, 7]⟩ | 10 => some ⟨[(9, .int .i64)], [0, 1, 2, 7]⟩ | 15 => some ⟨[(10, .int .i64)], [0, 1, 2, 7]⟩ | _ => none
def f23.AC : Nat → Option Ann := fun _ => none
def f23.VC (Aa0 : Option Addr) (na0 ca0 : Nat) (Aa1 : Option Addr) (na1 ca1 : Nat) (Aa2 : Option Addr) (na2 ca2 : Nat) (w : World) (R : Value → World → Prop) : Prop :=
  ∃ I : Int → World → Nat → Prop,
  (∃ n, I 0 w n) ∧
  ∀ d : Env, ∀ (x7 : Int) (w_1 : World) (r : Nat), I x7 w_1 r →
  sel (decide ((x7 : Int) < (12 : Int))) (
  ∃ I_1 : Int → World → Nat → Prop,
  (∃ n, I_1 0 w_1 n) ∧
  ∀ d_1 : Env, ∀ (x8 : Int) (w_2 : World) (r_1 : Nat), I_1 x8 w_2 r_1 →
  sel (decide ((x8 : Int) < ((na0 : Int) : Int))) (
  (0 : Int) ≤ x8 ∧ x8 < (na0 : Int) ∧
  needPtr Aa0 fun b23 o23 =>
  (0 : Int) ≤ x8 ∧ x8 < (na0 : Int) ∧
  needPtr Aa0 fun b27 o27 =>
  ∃ (A24 : Option Addr) (n24 c24 : Nat),
  w_2.cell? ⟨b23, o23 + x8.toNat * 1, none⟩ = some (.slice A24 n24 c24) ∧
  ∃ (A28 : Option Addr) (n28 c28 : Nat),
  w_2.cell? ⟨b27, o27 + x8.toNat * 1, none⟩ = some (.slice A28 n28 c28) ∧
  let i30 : Int := IntKind.i64.wrap ((n28 : Int) - 1);
  let i32 : Int := IntKind.i64.wrap (i30 - x7);
  (0 : Int) ≤ i32 ∧ i32 < (n24 : Int) ∧
  needPtr A24 fun b33 o33 =>
  ∃ (s34 : ByteArray),
  w_2.cell? ⟨b33, o33 + i32.toNat * 1, none⟩ = some (.string s34) ∧
  sel (!(decide (s34 = ⟨#[10, 32, 98, 101, 104, 105, 110, 100]⟩))) (
  R (.bool false) w_2.drew) (
  let i20 : Int := IntKind.i64.wrap (x8 + 1);
  ([.slice Aa0 na0 ca0, .slice Aa1 na1 ca1, .slice Aa2 na2 ca2, .int .i64 x7] : List Value) = ([.slice Aa0 na0 ca0, .slice Aa1 na1 ca1, .slice Aa2 na2 ca2, .int .i64 x7] : List Value) ∧ ∃ m, m < r_1 ∧ I_1 i20 w_2.drew m)) (
  ∃ I_2 : Int → World → Nat → Prop,
  (∃ n, I_2 0 w_2 n) ∧
  ∀ d_2 : Env, ∀ (x9 : Int) (w_3 : World) (r_2 : Nat), I_2 x9 w_3 r_2 →
  sel (decide ((x9 : Int) < ((na1 : Int) : Int))) (
  (0 : Int) ≤ x9 ∧ x9 < (na1 : Int) ∧
  needPtr Aa1 fun b44 o44 =>
  (0 : Int) ≤ x9 ∧ x9 < (na1 : Int) ∧
  needPtr Aa1 fun b48 o48 =>
  let i57 : Int := IntKind.i64.wrap ((-7000) - x7);
  ∃ (A45 : Option Addr) (n45 c45 : Nat),
  w_3.cell? ⟨b44, o44 + x9.toNat * 1, none⟩ = some (.slice A45 n45 c45) ∧
  ∃ (A49 : Option Addr) (n49 c49 : Nat),
  w_3.cell? ⟨b48, o48 + x9.toNat * 1, none⟩ = some (.slice A49 n49 c49) ∧
  let i51 : Int := IntKind.i64.wrap ((n49 : Int) - 12);
  let i53 : Int := IntKind.i64.wrap (i51 + x7);
  (0 : Int) ≤ i53 ∧ i53 < (n45 : Int) ∧
  needPtr A45 fun b54 o54 =>
  ∃ (x55 : Int),
  w_3.cell? ⟨b54, o54 + i53.toNat * 1, none⟩ = some (.int .i64 x55) ∧
  sel ((x55 : Int) != (i57 : Int)) (
  R (.bool false) w_3.drew) (
  let i41 : Int := IntKind.i64.wrap (x9 + 1);
  ([.slice Aa0 na0 ca0, .slice Aa1 na1 ca1, .slice Aa2 na2 ca2, .int .i64 x7] : List Value) = ([.slice Aa0 na0 ca0, .slice Aa1 na1 ca1, .slice Aa2 na2 ca2, .int .i64 x7] : List Value) ∧ ∃ m, m < r_2 ∧ I_2 i41 w_3.drew m)) (
  ∃ I_3 : Int → World → Nat → Prop,
  (∃ n, I_3 0 w_3 n) ∧
  ∀ d_3 : Env, ∀ (x10 : Int) (w_4 : World) (r_3 : Nat), I_3 x10 w_4 r_3 →
  sel (decide ((x10 : Int) < ((na2 : Int) : Int))) (
  (0 : Int) ≤ x10 ∧ x10 < (na2 : Int) ∧
  needPtr Aa2 fun b67 o67 =>
  (0 : Int) ≤ x10 ∧ x10 < (na2 : Int) ∧
  needPtr Aa2 fun b71 o71 =>
  ∃ (A68 : Option Addr) (n68 c68 : Nat),
  w_4.cell? ⟨b67, o67 + x10.toNat * 1, none⟩ = some (.slice A68 n68 c68) ∧
  ∃ (A72 : Option Addr) (n72 c72 : Nat),
  w_4.cell? ⟨b71, o71 + x10.toNat * 1, none⟩ = some (.slice A72 n72 c72) ∧
  let i74 : Int := IntKind.i64.wrap ((n72 : Int) - 1);
  let i76 : Int := IntKind.i64.wrap (i74 - x7);
  (0 : Int) ≤ i76 ∧ i76 < (n68 : Int) ∧
  needPtr A68 fun b77 o77 =>
  ∃ (x78 : Int),
  w_4.cell? ⟨b77, o77 + i76.toNat * 1, none⟩ = some (.int .u16 x78) ∧
  sel ((x78 : Int) != (60001 : Int)) (
  R (.bool false) w_4.drew) (
  let i64 : Int := IntKind.i64.wrap (x10 + 1);
  ([.slice Aa0 na0 ca0, .slice Aa1 na1 ca1, .slice Aa2 na2 ca2, .int .i64 x7] : List Value) = ([.slice Aa0 na0 ca0, .slice Aa1 na1 ca1, .slice Aa2 na2 ca2, .int .i64 x7] : List Value) ∧ ∃ m, m < r_3 ∧ I_3 i64 w_4.drew m)) (
  let i14 : Int := IntKind.i64.wrap (x7 + 1);
  ([.slice Aa0 na0 ca0, .slice Aa1 na1 ca1, .slice Aa2 na2 ca2] : List Value) = ([.slice Aa0 na0 ca0, .slice Aa1 na1 ca1, .slice Aa2 na2 ca2] : List Value) ∧ ∃ m, m < r ∧ I i14 w_4 m)))) (
  R (.bool true) w_1)
theorem f23.eq (Aa0 : Option Addr) (na0 ca0 : Nat) (Aa1 : Option Addr) (na1 ca1 : Nat) (Aa2 : Option Addr) (na2 ca2 : Nat) (w : World) (R : Value → World → Prop) : f23.VC Aa0 na0 ca0 Aa1 na1 ca1 Aa2 na2 ca2 w R = funV Try.prog Try.f23 f23.AL f23.AC #[.slice Aa0 na0 ca0, .slice Aa1 na1 ca1, .slice Aa2 na2 ca2] w R := by kernel_rfl
theorem f23.calls {Aa0 : Option Addr} {na0 ca0 : Nat} {Aa1 : Option Addr} {na1 ca1 : Nat} {Aa2 : Option Addr} {na2 ca2 : Nat} {w : World} {R : Value → World → Prop} (h : f23.VC Aa0 na0 ca0 Aa1 na1 ca1 Aa2 na2 ca2 w R) : Calls Try.prog 23 #[.slice Aa0 na0 ca0, .slice Aa1 na1 ca1, .slice Aa2 na2 ca2] w fun e w' => ∃ v, e = .returned v ∧ R v w' :=
  funV_sound (fn := Try.f23) (AL := f23.AL) (AC := f23.AC) W23.mixed (by kernel_rfl) (by rw [← f23.eq Aa0 na0 ca0 Aa1 na1 ca1 Aa2 na2 ca2]; exact h)

end Go.Proofs.Ytjmlfknogjaemaa
/- Page: a graph lent (lent): lists with room and marks behind. -/
set_option linter.unusedVariables false
set_option linter.unusedSimpArgs false
set_option maxRecDepth 10000
namespace Go.Proofs.Ytjmlfknogjaemaa
open Go Go.Proofs.Ytjmlfknogjaemaa.Vc
namespace PG
open Vc.PG NI
end PG
end Go.Proofs.Ytjmlfknogjaemaa
/- Page: the marks behind a lent graph stand (stands). -/
set_option linter.unusedVariables false
set_option linter.unusedSimpArgs false
set_option maxRecDepth 10000
namespace Go.Proofs.Ytjmlfknogjaemaa
open Go Go.Proofs.Ytjmlfknogjaemaa.Vc
namespace PG
open Vc.PG NI
end PG
end Go.Proofs.Ytjmlfknogjaemaa
/- Page: laid again, with an index that has its names, a page is the same one: the plain law. -/
set_option linter.unusedVariables false
set_option linter.unusedSimpArgs false
set_option maxRecDepth 10000
namespace Go.Proofs.Ytjmlfknogjaemaa
open Go Go.Proofs.Ytjmlfknogjaemaa.Vc
namespace PG
open Vc.PG NI
theorem nodup_len {α : Type} [DecidableEq α] : ∀ {l m : List α}, l.Nodup → (∀ x ∈ l, x ∈ m) → l.length ≤ m.length
  | [], m, _, _ => Nat.zero_le _
  | k :: l, m, hn, hs => by
    obtain ⟨h1, h2⟩ := List.nodup_cons.1 hn
    have hk : k ∈ m := hs k List.mem_cons_self
    have hl := (List.perm_cons_erase hk).length_eq
    simp only [List.length_cons] at hl ⊢
    have := nodup_len h2 (m := m.erase k) fun x hx => by
      have hne : x ≠ k := fun e => h1 (e ▸ hx)
      exact (List.mem_erase_of_ne hne).2 (hs x (List.mem_cons_of_mem _ hx))
    omega
theorem num_zero {l : List ByteArray} {s : ByteArray} : IX.num l s = 0 ↔ ¬ s ∈ l := by
  unfold IX.num
  cases hx : l.findIdx? (fun x => decide (x = s)) with
  | none =>
    refine ⟨fun _ hm => ?_, fun _ => rfl⟩
    have := List.findIdx?_eq_none_iff.1 hx s hm
    simp at this
  | some j =>
    obtain ⟨hj, he, _⟩ := List.findIdx?_eq_some_iff_getElem.mp hx
    refine ⟨fun h => by simp at h, fun h => absurd ?_ h⟩
    have := of_decide_eq_true he
    rw [← this]
    exact List.getElem_mem hj
theorem num_app {l : List ByteArray} {s : ByteArray} (h : s ∈ l) (r : List ByteArray) : IX.num (l ++ r) s = IX.num l s := by
  unfold IX.num
  rw [List.findIdx?_append]
  cases hx : l.findIdx? (fun x => decide (x = s)) with
  | none =>
    have := List.findIdx?_eq_none_iff.1 hx s h
    simp at this
  | some j => rfl
theorem num_new {l : List ByteArray} {s : ByteArray} (h : ¬ s ∈ l) (r : List ByteArray) : IX.num (l ++ s :: r) s = l.length + 1 := by
  unfold IX.num
  rw [List.findIdx?_append]
  have hx : l.findIdx? (fun x => decide (x = s)) = none := List.findIdx?_eq_none_iff.2 fun x hx => by
    refine decide_eq_false fun e => h (e ▸ hx)
  rw [hx, List.findIdx?_cons]
  simp
theorem of_app (l : List ByteArray) (s : ByteArray) : ∃ r, IX.of l s = l ++ r := by
  unfold IX.of
  split
  · split
    · exact ⟨[], by simp⟩
    · exact ⟨[s], rfl⟩
  · exact ⟨[], by simp⟩
theorem all_app : ∀ (ns l : List ByteArray), ∃ r, all l ns = l ++ r
  | [], l => ⟨[], by simp [all]⟩
  | s :: ns, l => by
    obtain ⟨r, h⟩ := of_app l s
    obtain ⟨q, h2⟩ := all_app ns (IX.of l s)
    exact ⟨r ++ q, by show all (IX.of l s) ns = _; rw [h2, h, List.append_assoc]⟩
theorem of_full {l : List ByteArray} (h : l.length ≥ 1048576) (s : ByteArray) : IX.of l s = l := by
  unfold IX.of
  split
  · rfl
  · rfl
theorem all_full : ∀ (ns : List ByteArray) {l : List ByteArray}, l.length ≥ 1048576 → all l ns = l
  | [], l, _ => rfl
  | s :: ns, l, h => by show all (IX.of l s) ns = l; rw [of_full h]; exact all_full ns h
theorem ofN_all {l ns : List ByteArray} {s : ByteArray} (h : s ∈ all l (s :: ns)) : IX.ofN l s = IX.num (all l (s :: ns)) s := by
  have e : all l (s :: ns) = all (IX.of l s) ns := rfl
  rw [e] at h ⊢
  unfold IX.ofN IX.of at *
  split
  · rename_i h0
    rw [if_pos h0] at h
    split
    · rename_i hf
      rw [if_pos hf] at h
      rw [all_full ns hf] at h
      exact absurd h (num_zero.1 h0)
    · rename_i hf
      obtain ⟨r, hr⟩ := all_app ns (l ++ [s])
      rw [hr, List.append_assoc]
      exact (num_new (num_zero.1 h0) r).symm
  · rename_i h0
    obtain ⟨r, hr⟩ := all_app ns l
    rw [hr]
    exact (num_app (Classical.not_not.1 fun hm => h0 (num_zero.2 hm)) r).symm
/-- A name's key is put down; the names have their numbers. -/
def putK (L : List ByteArray) (Z : List Pz) (e : En) : List Pz := putZ Z ((IX.num L e.1 : Int) * 4 + e.2.1) e.2.2
theorem layGo_tab : ∀ (es : List En) (l : List ByteArray) (Z : List Pz) (L : List ByteArray), (∃ r, L = all l (es.map (·.1)) ++ r) → (∀ e ∈ es, e.1 ∈ all l (es.map (·.1))) →
    layGo es (l, Z) = (all l (es.map (·.1)), es.foldl (putK L) Z)
  | [], l, Z, L, _, _ => rfl
  | e :: es, l, Z, L, ⟨r, hr⟩, hin => by
    have h1 : IX.ofN l e.1 = IX.num L e.1 := by
      have hm := hin e List.mem_cons_self
      rw [hr, num_app hm]
      exact ofN_all hm
    have h2 := layGo_tab es (IX.of l e.1) (putK L Z e) L ⟨r, hr⟩ (fun x hx => hin x (List.mem_cons_of_mem _ hx))
    have e0 : layGo (e :: es) (l, Z) = layGo es (layStep (l, Z) e) := rfl
    have e1 : layStep (l, Z) e = (IX.of l e.1, putK L Z e) := by unfold layStep putK; rw [h1]
    rw [e0, e1, h2]
    rfl
theorem wantGo_ge (l : List ByteArray) : ∀ (ns acc : List ByteArray), acc.length ≤ (wantGo l ns acc).length
  | [], acc => Nat.le_refl _
  | s :: ns, acc => by
    rw [wantGo]
    split
    · have := wantGo_ge l ns (acc ++ [s]); rw [List.length_append] at this; omega
    · exact wantGo_ge l ns acc
theorem wantGo_nodup (l : List ByteArray) : ∀ (ns acc : List ByteArray), acc.Nodup → (wantGo l ns acc).Nodup
  | [], acc, h => h
  | s :: ns, acc, h => by
    rw [wantGo]
    split
    · rename_i hs
      refine wantGo_nodup l ns _ ?_
      rw [List.nodup_append]
      refine ⟨h, by simp, fun a ha b hb => ?_⟩
      rw [List.mem_singleton] at hb
      subst hb
      rintro rfl
      have := (memB_iff _ _).2 ha
      rw [hs.2] at this; cases this
    · exact wantGo_nodup l ns _ h
theorem all_want : ∀ (ns l acc : List ByteArray), l.length + (wantGo l ns acc).length ≤ 1048576 → all (l ++ acc) ns = l ++ wantGo l ns acc
  | [], l, acc, _ => rfl
  | s :: ns, l, acc, h => by
    show all (IX.of (l ++ acc) s) ns = _
    rw [wantGo] at h ⊢
    split
    · rename_i hs
      rw [if_pos hs] at h
      have hg := wantGo_ge l ns (acc ++ [s])
      rw [List.length_append, List.length_singleton] at hg
      have h0 : IX.num (l ++ acc) s = 0 := num_zero.2 fun hm => by
        rcases List.mem_append.1 hm with h1 | h1
        · exact num_zero.1 hs.1 h1
        · have := (memB_iff _ _).2 h1
          rw [hs.2] at this; cases this
      have e : IX.of (l ++ acc) s = l ++ (acc ++ [s]) := by
        unfold IX.of
        rw [if_pos h0, if_neg (by rw [List.length_append]; omega), List.append_assoc]
      rw [e]
      exact all_want ns l (acc ++ [s]) h
    · rename_i hs
      rw [if_neg hs] at h
      have h0 : ¬ IX.num (l ++ acc) s = 0 := fun h0 => hs (by
        have h1 := num_zero.1 h0
        refine ⟨num_zero.2 fun hm => h1 (List.mem_append.2 (.inl hm)), ?_⟩
        cases hm : memB acc s with
        | false => rfl
        | true => exact absurd (List.mem_append.2 (.inr ((memB_iff _ _).1 hm))) h1)
      have e : IX.of (l ++ acc) s = l ++ acc := by
        unfold IX.of
        rw [if_neg h0]
      rw [e]
      exact all_want ns l acc h
theorem all_in {ns l : List ByteArray} (h : l.length + (wantGo l ns []).length ≤ 1048576) {s : ByteArray} (hs : s ∈ ns) : s ∈ all l ns := by
  have e := all_want ns l [] h
  rw [List.append_nil] at e
  rw [e, List.mem_append]
  by_cases hm : s ∈ l
  · exact .inl hm
  · exact .inr ((wantGo_mem l s ns []).2 (.inr ⟨hs, num_zero.2 hm⟩))
theorem want_none {ns l : List ByteArray} (h : ∀ s ∈ ns, s ∈ l) : wantGo l ns [] = [] := by
  refine List.eq_nil_iff_forall_not_mem.2 fun s hs => ?_
  rcases (wantGo_mem l s ns []).1 hs with h1 | ⟨h1, h2⟩
  · simp at h1
  · exact num_zero.1 h2 (h s h1)
theorem ensOf_fst {l : List ByteArray} {k : Int} {n : List Int} (h : l.length = n.length) : (ensOf l k n).map (·.1) = l := by
  unfold ensOf
  rw [List.map_map]
  have e : ((fun x : En => x.1) ∘ fun p : ByteArray × Int => (p.1, k, p.2)) = Prod.fst := rfl
  rw [e, List.map_fst_zip]
  omega
theorem upTo_len (n : Nat) : (upTo n).length = n := by simp [upTo]
theorem ens_fst {g : Gd} (h : (gF g).length = (gS g).length ∧ (gN g).length = (gO g).length) : (ens g).map (·.1) = names g := by
  unfold ens names
  rw [List.map_append, List.map_append, ensOf_fst (by rw [upTo_len]), ensOf_fst h.1.symm, ensOf_fst h.2.symm]
/-- How a valid graph is laid, where there is room. -/
theorem layZ_eq {g : Gd} (hv : validP g = true) {l : List ByteArray} (hr : l.length + freshN l g ≤ 1048576) (r : List ByteArray) :
    layZ g l = (all l (names g), (ens g).foldl (putK (all l (names g) ++ r)) (List.replicate (tOf g) pz0)) := by
  obtain ⟨⟨_, _, _, h1, h2⟩, _⟩ := valid_parts hv
  have e := ens_fst (g := g) ⟨h1, h2⟩
  have h := layGo_tab (ens g) l (List.replicate (tOf g) pz0) (all l (names g) ++ r) ⟨r, by rw [e]⟩ (fun x hx => by
    rw [e]
    exact all_in hr (e ▸ List.mem_map.2 ⟨x, hx, rfl⟩))
  rw [e] at h
  exact h
theorem lay_names (v : Int) (g : Gd) (l : List ByteArray) : ∃ r, (layP v g l).2.2 = l ++ r := by
  unfold layP
  split
  · exact ⟨[], by simp⟩
  split
  · exact ⟨[], by simp⟩
  split
  · exact ⟨[], by simp⟩
  rename_i _ hv hr
  have hv : validP g = true := by cases h : validP g with | true => rfl | false => exact absurd h hv
  rw [layZ_eq hv (by omega) []]
  exact all_app _ _
theorem lay_le (v : Int) (g : Gd) {l : List ByteArray} (h : l.length ≤ 1048576) : (layP v g l).2.2.length ≤ 1048576 := by
  unfold layP
  split
  · exact h
  split
  · exact h
  split
  · exact h
  rename_i _ hv hr
  have hv : validP g = true := by cases h : validP g with | true => rfl | false => exact absurd h hv
  rw [layZ_eq hv (by omega) []]
  exact all_le _ _ h
/-- Laid again, with more names known: the same page, and the names stay. -/
theorem lay_again (v : Int) (g : Gd) {l l2 : List ByteArray} (hr : ∃ r, l2 = (layP v g l).2.2 ++ r) (h2 : l2.length ≤ 1048576) : layP v g l2 = ((layP v g l).1, (layP v g l).2.1, l2) := by
  obtain ⟨r, hr⟩ := hr
  unfold layP at hr ⊢
  by_cases hver : v < 1 ∨ 2147483647 < v
  · rw [if_pos hver, if_pos hver]
  rw [if_neg hver] at hr
  rw [if_neg hver, if_neg hver]
  by_cases hval : validP g = false
  · rw [if_pos hval, if_pos hval]
  rw [if_neg hval] at hr
  rw [if_neg hval, if_neg hval]
  have hv : validP g = true := by cases h : validP g with | true => rfl | false => exact absurd h hval
  by_cases hroom : 1048576 < l.length + freshN l g
  · rw [if_pos hroom] at hr
    have hr : l2 = l ++ r := hr
    rw [if_pos hroom, if_pos]
    have hsub := nodup_len (m := wantGo l2 (names g) [] ++ r) (wantGo_nodup l (names g) [] (by simp)) fun x hx => by
      rcases (wantGo_mem l x (names g) []).1 hx with h1 | ⟨h1, h3⟩
      · simp at h1
      · rw [List.mem_append]
        by_cases hxr : x ∈ r
        · exact .inr hxr
        · refine .inl ((wantGo_mem l2 x (names g) []).2 (.inr ⟨h1, num_zero.2 fun hm => ?_⟩))
          rw [hr] at hm
          rcases List.mem_append.1 hm with h4 | h4
          · exact num_zero.1 h3 h4
          · exact hxr h4
    have hl := congrArg List.length hr
    rw [List.length_append] at hsub hl
    unfold freshN at hroom ⊢
    omega
  · rw [if_neg hroom] at hr
    have hr : l2 = (layZ g l).1 ++ r := hr
    rw [if_neg hroom]
    have hz := layZ_eq hv (l := l) (by omega) r
    rw [hz] at hr
    have hr : l2 = all l (names g) ++ r := hr
    have hin : ∀ s ∈ names g, s ∈ l2 := fun s hs => by
      rw [hr, List.mem_append]
      exact .inl (all_in (by unfold freshN at hroom; omega) hs)
    have hw := want_none hin
    have hf : freshN l2 g = 0 := by unfold freshN; rw [hw]; rfl
    rw [if_neg (by omega)]
    have hall : all l2 (names g) = l2 := by
      have := all_want (names g) l2 [] (by rw [hw]; simpa using h2)
      rw [List.append_nil, hw, List.append_nil] at this
      exact this
    have hz2 := layZ_eq hv (l := l2) (by omega) []
    rw [hall, List.append_nil] at hz2
    rw [hz, hz2, ← hr]
end PG
end Go.Proofs.Ytjmlfknogjaemaa
