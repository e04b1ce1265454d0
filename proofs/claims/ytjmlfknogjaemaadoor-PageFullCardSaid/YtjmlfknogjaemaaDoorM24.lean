/- The plain statements of some functions, printed by vcgen.py. -/
import Derived.Test.YtjmlfknogjaemaaDoorM4
import Derived.Test.YtjmlfknogjaemaaDoorProg
import Derived.KernelRfl
import Derived.Test.YtjmlfknogjaemaaDoorM23
set_option maxRecDepth 100000
set_option linter.unusedVariables false
namespace Go.Proofs.YtjmlfknogjaemaaDoor
open Go Go.Proofs.YtjmlfknogjaemaaDoor.Vc
theorem W15.mixed : Tryd.prog.follows .mixedOrders = true := by kernel_rfl
/-- gatehouse/page.sorted -/
def f39.AL : Nat → Option Ann := fun r => match r with | 3 => some ⟨[(19, .int .i64)], [0, 1, 2, 6, 8, 18]⟩ | 18 => some ⟨[(95, .int .i64)], [6, 8, 94]⟩ | _ => none
def f39.AC : Nat → Option Ann := fun _ => none
def f39.VC (Aa0 : Option Addr) (na0 ca0 : Nat) (xa1 : Int) (a2 : Nat) (w : World) (R : Value → World → Prop) : Prop :=
  let w_1 : World := World.alloc w (.cells #[.slice none 0 0, .slice none 0 0, .slice none 0 0, .slice none 0 0] 68);
  let w_2 : World := World.alloc w_1 (.cells #[.slice none 0 0, .slice none 0 0, .slice none 0 0, .slice none 0 0] 68);
  ∃ I : Int → World → Nat → Prop,
  (∃ n, I 0 w_2 n) ∧
  ∀ d : Env, ∀ (x19 : Int) (w_3 : World) (r : Nat), I x19 w_3 r →
  sel (decide ((x19 : Int) < (xa1 : Int))) (
  let i24 : Int := IntKind.i64.wrap (2 * x19);
  let i25 : Int := IntKind.i64.wrap (4 + i24);
  (0 : Int) ≤ i25 ∧ i25 < (na0 : Int) ∧
  needPtr Aa0 fun b26 o26 =>
  let i30 : Int := IntKind.i64.wrap (2 * x19);
  let i31 : Int := IntKind.i64.wrap (4 + i30);
  let i32 : Int := IntKind.i64.wrap (i31 + 1);
  (0 : Int) ≤ i32 ∧ i32 < (na0 : Int) ∧
  needPtr Aa0 fun b33 o33 =>
  ∃ (x27 : Int),
  w_3.cell? ⟨b26, o26 + i25.toNat * 1, none⟩ = some (.int .i64 x27) ∧
  ∃ (x34 : Int),
  w_3.cell? ⟨b33, o33 + i32.toNat * 1, none⟩ = some (.int .i64 x34) ∧
  sel ((x27 : Int) == (0 : Int)) (
  sel ((x34 : Int) == (0 : Int)) (
  let i93 : Int := IntKind.i64.wrap (x19 + 1);
  ([.slice Aa0 na0 ca0, .int .i64 xa1, .pointer (some ⟨a2, 0, none⟩), .pointer (some ⟨w.heap.size, 0, none⟩), .pointer (some ⟨w_1.heap.size, 0, none⟩), .int .i64 xa1] : List Value) = ([.slice Aa0 na0 ca0, .int .i64 xa1, .pointer (some ⟨a2, 0, none⟩), .pointer (some ⟨w.heap.size, 0, none⟩), .pointer (some ⟨w_1.heap.size, 0, none⟩), .int .i64 xa1] : List Value) ∧ ∃ m, m < r ∧ I i93 w_3.drew m) (
  sel (decide ((x27 : Int) ≤ (0 : Int))) (
  ∃ (A48_0 : Option Addr) (n48_0 c48_0 : Nat),
  w_3.cell? ⟨w_1.heap.size, 0, none⟩ = some (.slice A48_0 n48_0 c48_0) ∧
  ∃ (A48_1 : Option Addr) (n48_1 c48_1 : Nat),
  w_3.cell? ⟨w_1.heap.size, 1, none⟩ = some (.slice A48_1 n48_1 c48_1) ∧
  ∃ (A48_2 : Option Addr) (n48_2 c48_2 : Nat),
  w_3.cell? ⟨w_1.heap.size, 2, none⟩ = some (.slice A48_2 n48_2 c48_2) ∧
  ∃ (A48_3 : Option Addr) (n48_3 c48_3 : Nat),
  w_3.cell? ⟨w_1.heap.size, 3, none⟩ = some (.slice A48_3 n48_3 c48_3) ∧
  canStore w_3 w.heap.size 0 4 ∧
  let w_4 : World := setCs w_3.drew w.heap.size 0 [.slice A48_0 n48_0 c48_0, .slice A48_1 n48_1 c48_1, .slice A48_2 n48_2 c48_2, .slice A48_3 n48_3 c48_3];
  ∃ (A6_0 : Option Addr) (n6_0 c6_0 : Nat),
  w_4.cell? ⟨w.heap.size, 0, none⟩ = some (.slice A6_0 n6_0 c6_0) ∧
  ∃ (A6_1 : Option Addr) (n6_1 c6_1 : Nat),
  w_4.cell? ⟨w.heap.size, 1, none⟩ = some (.slice A6_1 n6_1 c6_1) ∧
  ∃ (A6_2 : Option Addr) (n6_2 c6_2 : Nat),
  w_4.cell? ⟨w.heap.size, 2, none⟩ = some (.slice A6_2 n6_2 c6_2) ∧
  ∃ (A6_3 : Option Addr) (n6_3 c6_3 : Nat),
  w_4.cell? ⟨w.heap.size, 3, none⟩ = some (.slice A6_3 n6_3 c6_3) ∧
  R (.tuple #[.agg #[.slice A6_0 n6_0 c6_0, .slice A6_1 n6_1 c6_1, .slice A6_2 n6_2 c6_2, .slice A6_3 n6_3 c6_3], .bool false]) w_4) (
  4 ≠ (0 : Int) ∧
  let i45 : Int := Int.tmod x27 4;
  sel ((i45 : Int) == (0 : Int)) (
  ∃ (A48_0_1 : Option Addr) (n48_0_1 c48_0_1 : Nat),
  w_3.cell? ⟨w_1.heap.size, 0, none⟩ = some (.slice A48_0_1 n48_0_1 c48_0_1) ∧
  ∃ (A48_1_1 : Option Addr) (n48_1_1 c48_1_1 : Nat),
  w_3.cell? ⟨w_1.heap.size, 1, none⟩ = some (.slice A48_1_1 n48_1_1 c48_1_1) ∧
  ∃ (A48_2_1 : Option Addr) (n48_2_1 c48_2_1 : Nat),
  w_3.cell? ⟨w_1.heap.size, 2, none⟩ = some (.slice A48_2_1 n48_2_1 c48_2_1) ∧
  ∃ (A48_3_1 : Option Addr) (n48_3_1 c48_3_1 : Nat),
  w_3.cell? ⟨w_1.heap.size, 3, none⟩ = some (.slice A48_3_1 n48_3_1 c48_3_1) ∧
  canStore w_3 w.heap.size 0 4 ∧
  let w_5 : World := setCs w_3.drew w.heap.size 0 [.slice A48_0_1 n48_0_1 c48_0_1, .slice A48_1_1 n48_1_1 c48_1_1, .slice A48_2_1 n48_2_1 c48_2_1, .slice A48_3_1 n48_3_1 c48_3_1];
  ∃ (A6_0_1 : Option Addr) (n6_0_1 c6_0_1 : Nat),
  w_5.cell? ⟨w.heap.size, 0, none⟩ = some (.slice A6_0_1 n6_0_1 c6_0_1) ∧
  ∃ (A6_1_1 : Option Addr) (n6_1_1 c6_1_1 : Nat),
  w_5.cell? ⟨w.heap.size, 1, none⟩ = some (.slice A6_1_1 n6_1_1 c6_1_1) ∧
  ∃ (A6_2_1 : Option Addr) (n6_2_1 c6_2_1 : Nat),
  w_5.cell? ⟨w.heap.size, 2, none⟩ = some (.slice A6_2_1 n6_2_1 c6_2_1) ∧
  ∃ (A6_3_1 : Option Addr) (n6_3_1 c6_3_1 : Nat),
  w_5.cell? ⟨w.heap.size, 3, none⟩ = some (.slice A6_3_1 n6_3_1 c6_3_1) ∧
  R (.tuple #[.agg #[.slice A6_0_1 n6_0_1 c6_0_1, .slice A6_1_1 n6_1_1 c6_1_1, .slice A6_2_1 n6_2_1 c6_2_1, .slice A6_3_1 n6_3_1 c6_3_1], .bool false]) w_5) (
  4 ≠ (0 : Int) ∧
  let i52 : Int := IntKind.i64.wrap (Int.tdiv x27 4);
  Calls Tryd.prog 53 #[.pointer (some ⟨a2, 0, none⟩), .int .i64 i52] w_3.drew fun e_1 w_6 =>
  ∃ (s53_0 : ByteArray) (b53_1 : Bool),
  e_1 = .returned (.tuple #[.string s53_0, .bool b53_1]) ∧
  sel (!b53_1) (
  ∃ (A58_0 : Option Addr) (n58_0 c58_0 : Nat),
  w_6.cell? ⟨w_1.heap.size, 0, none⟩ = some (.slice A58_0 n58_0 c58_0) ∧
  ∃ (A58_1 : Option Addr) (n58_1 c58_1 : Nat),
  w_6.cell? ⟨w_1.heap.size, 1, none⟩ = some (.slice A58_1 n58_1 c58_1) ∧
  ∃ (A58_2 : Option Addr) (n58_2 c58_2 : Nat),
  w_6.cell? ⟨w_1.heap.size, 2, none⟩ = some (.slice A58_2 n58_2 c58_2) ∧
  ∃ (A58_3 : Option Addr) (n58_3 c58_3 : Nat),
  w_6.cell? ⟨w_1.heap.size, 3, none⟩ = some (.slice A58_3 n58_3 c58_3) ∧
  canStore w_6 w.heap.size 0 4 ∧
  let w_7 : World := setCs w_6 w.heap.size 0 [.slice A58_0 n58_0 c58_0, .slice A58_1 n58_1 c58_1, .slice A58_2 n58_2 c58_2, .slice A58_3 n58_3 c58_3];
  ∃ (A6_0_2 : Option Addr) (n6_0_2 c6_0_2 : Nat),
  w_7.cell? ⟨w.heap.size, 0, none⟩ = some (.slice A6_0_2 n6_0_2 c6_0_2) ∧
  ∃ (A6_1_2 : Option Addr) (n6_1_2 c6_1_2 : Nat),
  w_7.cell? ⟨w.heap.size, 1, none⟩ = some (.slice A6_1_2 n6_1_2 c6_1_2) ∧
  ∃ (A6_2_2 : Option Addr) (n6_2_2 c6_2_2 : Nat),
  w_7.cell? ⟨w.heap.size, 2, none⟩ = some (.slice A6_2_2 n6_2_2 c6_2_2) ∧
  ∃ (A6_3_2 : Option Addr) (n6_3_2 c6_3_2 : Nat),
  w_7.cell? ⟨w.heap.size, 3, none⟩ = some (.slice A6_3_2 n6_3_2 c6_3_2) ∧
  R (.tuple #[.agg #[.slice A6_0_2 n6_0_2 c6_0_2, .slice A6_1_2 n6_1_2 c6_1_2, .slice A6_2_2 n6_2_2 c6_2_2, .slice A6_3_2 n6_3_2 c6_3_2], .bool false]) w_7) (
  4 ≠ (0 : Int) ∧
  let i62 : Int := IntKind.i64.wrap (Int.tdiv x27 4);
  4 ≠ (0 : Int) ∧
  let i64 : Int := Int.tmod x27 4;
  let i65 : Int := IntKind.i8.wrap i64;
  Calls Tryd.prog 54 #[.slice Aa0 na0 ca0, .int .i64 i62, .int .i8 i65] w_6 fun e_2 w_8 =>
  ∃ (x66_0 : Int) (x66_1 : Int),
  e_2 = .returned (.tuple #[.int .i64 x66_0, .int .i64 x66_1]) ∧
  Calls Tryd.prog 22 #[.int .i64 x27, .int .i64 xa1] w_8 fun e_3 w_9 =>
  ∃ (x71 : Int),
  e_3 = .returned (.int .i64 x71) ∧
  let i73 : Int := IntKind.i64.wrap (x71 + x66_1);
  let i74 : Int := IntKind.i64.wrap (i73 - 1);
  xa1 ≠ (0 : Int) ∧
  let i76 : Int := Int.tmod i74 xa1;
  sel ((i76 : Int) != (x19 : Int)) (
  ∃ (A79_0 : Option Addr) (n79_0 c79_0 : Nat),
  w_9.cell? ⟨w_1.heap.size, 0, none⟩ = some (.slice A79_0 n79_0 c79_0) ∧
  ∃ (A79_1 : Option Addr) (n79_1 c79_1 : Nat),
  w_9.cell? ⟨w_1.heap.size, 1, none⟩ = some (.slice A79_1 n79_1 c79_1) ∧
  ∃ (A79_2 : Option Addr) (n79_2 c79_2 : Nat),
  w_9.cell? ⟨w_1.heap.size, 2, none⟩ = some (.slice A79_2 n79_2 c79_2) ∧
  ∃ (A79_3 : Option Addr) (n79_3 c79_3 : Nat),
  w_9.cell? ⟨w_1.heap.size, 3, none⟩ = some (.slice A79_3 n79_3 c79_3) ∧
  canStore w_9 w.heap.size 0 4 ∧
  let w_10 : World := setCs w_9 w.heap.size 0 [.slice A79_0 n79_0 c79_0, .slice A79_1 n79_1 c79_1, .slice A79_2 n79_2 c79_2, .slice A79_3 n79_3 c79_3];
  ∃ (A6_0_3 : Option Addr) (n6_0_3 c6_0_3 : Nat),
  w_10.cell? ⟨w.heap.size, 0, none⟩ = some (.slice A6_0_3 n6_0_3 c6_0_3) ∧
  ∃ (A6_1_3 : Option Addr) (n6_1_3 c6_1_3 : Nat),
  w_10.cell? ⟨w.heap.size, 1, none⟩ = some (.slice A6_1_3 n6_1_3 c6_1_3) ∧
  ∃ (A6_2_3 : Option Addr) (n6_2_3 c6_2_3 : Nat),
  w_10.cell? ⟨w.heap.size, 2, none⟩ = some (.slice A6_2_3 n6_2_3 c6_2_3) ∧
  ∃ (A6_3_3 : Option Addr) (n6_3_3 c6_3_3 : Nat),
  w_10.cell? ⟨w.heap.size, 3, none⟩ = some (.slice A6_3_3 n6_3_3 c6_3_3) ∧
  R (.tuple #[.agg #[.slice A6_0_3 n6_0_3 c6_0_3, .slice A6_1_3 n6_1_3 c6_1_3, .slice A6_2_3 n6_2_3 c6_2_3, .slice A6_3_3 n6_3_3 c6_3_3], .bool false]) w_10) (
  4 ≠ (0 : Int) ∧
  let i81 : Int := Int.tmod x27 4;
  4 ≠ (0 : Int) ∧
  let i83 : Int := Int.tmod x27 4;
  (0 : Int) ≤ i83 ∧ i83 < (4 : Int) ∧
  ∃ (A85 : Option Addr) (n85 c85 : Nat),
  w_9.cell? ⟨w_1.heap.size, 0 + i83.toNat * 1, none⟩ = some (.slice A85 n85 c85) ∧
  4 ≠ (0 : Int) ∧
  let i87 : Int := IntKind.i64.wrap (Int.tdiv x27 4);
  let w_11 : World := World.alloc w_9 (.cells #[.int .i64 i87, .int .i64 x34] 98);
  ∃ (A91 : Option Addr) (n91 c91 : Nat),
  ∃ w_12 : World, (Builtin.append_ #[67, 67] 67 #[.slice A85 n85 c85, .slice (some ⟨w_9.heap.size, 0, none⟩) 1 1]).run Tryd.prog w_11 = .ok (.slice A91 n91 c91) w_12 ∧
  (0 : Int) ≤ i81 ∧ i81 < (4 : Int) ∧
  canStore w_12 w_1.heap.size (0 + i81.toNat * 1) 1 ∧
  let w_13 : World := setCs w_12 w_1.heap.size (0 + i81.toNat * 1) [.slice A91 n91 c91];
  let i93_1 : Int := IntKind.i64.wrap (x19 + 1);
  ([.slice Aa0 na0 ca0, .int .i64 xa1, .pointer (some ⟨a2, 0, none⟩), .pointer (some ⟨w.heap.size, 0, none⟩), .pointer (some ⟨w_1.heap.size, 0, none⟩), .int .i64 xa1] : List Value) = ([.slice Aa0 na0 ca0, .int .i64 xa1, .pointer (some ⟨a2, 0, none⟩), .pointer (some ⟨w.heap.size, 0, none⟩), .pointer (some ⟨w_1.heap.size, 0, none⟩), .int .i64 xa1] : List Value) ∧ ∃ m, m < r ∧ I i93_1 w_13 m)))))) (
  sel (decide ((x27 : Int) ≤ (0 : Int))) (
  ∃ (A48_0_2 : Option Addr) (n48_0_2 c48_0_2 : Nat),
  w_3.cell? ⟨w_1.heap.size, 0, none⟩ = some (.slice A48_0_2 n48_0_2 c48_0_2) ∧
  ∃ (A48_1_2 : Option Addr) (n48_1_2 c48_1_2 : Nat),
  w_3.cell? ⟨w_1.heap.size, 1, none⟩ = some (.slice A48_1_2 n48_1_2 c48_1_2) ∧
  ∃ (A48_2_2 : Option Addr) (n48_2_2 c48_2_2 : Nat),
  w_3.cell? ⟨w_1.heap.size, 2, none⟩ = some (.slice A48_2_2 n48_2_2 c48_2_2) ∧
  ∃ (A48_3_2 : Option Addr) (n48_3_2 c48_3_2 : Nat),
  w_3.cell? ⟨w_1.heap.size, 3, none⟩ = some (.slice A48_3_2 n48_3_2 c48_3_2) ∧
  canStore w_3 w.heap.size 0 4 ∧
  let w_14 : World := setCs w_3.drew w.heap.size 0 [.slice A48_0_2 n48_0_2 c48_0_2, .slice A48_1_2 n48_1_2 c48_1_2, .slice A48_2_2 n48_2_2 c48_2_2, .slice A48_3_2 n48_3_2 c48_3_2];
  ∃ (A6_0_4 : Option Addr) (n6_0_4 c6_0_4 : Nat),
  w_14.cell? ⟨w.heap.size, 0, none⟩ = some (.slice A6_0_4 n6_0_4 c6_0_4) ∧
  ∃ (A6_1_4 : Option Addr) (n6_1_4 c6_1_4 : Nat),
  w_14.cell? ⟨w.heap.size, 1, none⟩ = some (.slice A6_1_4 n6_1_4 c6_1_4) ∧
  ∃ (A6_2_4 : Option Addr) (n6_2_4 c6_2_4 : Nat),
  w_14.cell? ⟨w.heap.size, 2, none⟩ = some (.slice A6_2_4 n6_2_4 c6_2_4) ∧
  ∃ (A6_3_4 : Option Addr) (n6_3_4 c6_3_4 : Nat),
  w_14.cell? ⟨w.heap.size, 3, none⟩ = some (.slice A6_3_4 n6_3_4 c6_3_4) ∧
  R (.tuple #[.agg #[.slice A6_0_4 n6_0_4 c6_0_4, .slice A6_1_4 n6_1_4 c6_1_4, .slice A6_2_4 n6_2_4 c6_2_4, .slice A6_3_4 n6_3_4 c6_3_4], .bool false]) w_14) (
  4 ≠ (0 : Int) ∧
  let i45_1 : Int := Int.tmod x27 4;
  sel ((i45_1 : Int) == (0 : Int)) (
  ∃ (A48_0_3 : Option Addr) (n48_0_3 c48_0_3 : Nat),
  w_3.cell? ⟨w_1.heap.size, 0, none⟩ = some (.slice A48_0_3 n48_0_3 c48_0_3) ∧
  ∃ (A48_1_3 : Option Addr) (n48_1_3 c48_1_3 : Nat),
  w_3.cell? ⟨w_1.heap.size, 1, none⟩ = some (.slice A48_1_3 n48_1_3 c48_1_3) ∧
  ∃ (A48_2_3 : Option Addr) (n48_2_3 c48_2_3 : Nat),
  w_3.cell? ⟨w_1.heap.size, 2, none⟩ = some (.slice A48_2_3 n48_2_3 c48_2_3) ∧
  ∃ (A48_3_3 : Option Addr) (n48_3_3 c48_3_3 : Nat),
  w_3.cell? ⟨w_1.heap.size, 3, none⟩ = some (.slice A48_3_3 n48_3_3 c48_3_3) ∧
  canStore w_3 w.heap.size 0 4 ∧
  let w_15 : World := setCs w_3.drew w.heap.size 0 [.slice A48_0_3 n48_0_3 c48_0_3, .slice A48_1_3 n48_1_3 c48_1_3, .slice A48_2_3 n48_2_3 c48_2_3, .slice A48_3_3 n48_3_3 c48_3_3];
  ∃ (A6_0_5 : Option Addr) (n6_0_5 c6_0_5 : Nat),
  w_15.cell? ⟨w.heap.size, 0, none⟩ = some (.slice A6_0_5 n6_0_5 c6_0_5) ∧
  ∃ (A6_1_5 : Option Addr) (n6_1_5 c6_1_5 : Nat),
  w_15.cell? ⟨w.heap.size, 1, none⟩ = some (.slice A6_1_5 n6_1_5 c6_1_5) ∧
  ∃ (A6_2_5 : Option Addr) (n6_2_5 c6_2_5 : Nat),
  w_15.cell? ⟨w.heap.size, 2, none⟩ = some (.slice A6_2_5 n6_2_5 c6_2_5) ∧
  ∃ (A6_3_5 : Option Addr) (n6_3_5 c6_3_5 : Nat),
  w_15.cell? ⟨w.heap.size, 3, none⟩ = some (.slice A6_3_5 n6_3_5 c6_3_5) ∧
  R (.tuple #[.agg #[.slice A6_0_5 n6_0_5 c6_0_5, .slice A6_1_5 n6_1_5 c6_1_5, .slice A6_2_5 n6_2_5 c6_2_5, .slice A6_3_5 n6_3_5 c6_3_5], .bool false]) w_15) (
  4 ≠ (0 : Int) ∧
  let i52_1 : Int := IntKind.i64.wrap (Int.tdiv x27 4);
  Calls Tryd.prog 53 #[.pointer (some ⟨a2, 0, none⟩), .int .i64 i52_1] w_3.drew fun e_4 w_16 =>
  ∃ (s53_0_1 : ByteArray) (b53_1_1 : Bool),
  e_4 = .returned (.tuple #[.string s53_0_1, .bool b53_1_1]) ∧
  sel (!b53_1_1) (
  ∃ (A58_0_1 : Option Addr) (n58_0_1 c58_0_1 : Nat),
  w_16.cell? ⟨w_1.heap.size, 0, none⟩ = some (.slice A58_0_1 n58_0_1 c58_0_1) ∧
  ∃ (A58_1_1 : Option Addr) (n58_1_1 c58_1_1 : Nat),
  w_16.cell? ⟨w_1.heap.size, 1, none⟩ = some (.slice A58_1_1 n58_1_1 c58_1_1) ∧
  ∃ (A58_2_1 : Option Addr) (n58_2_1 c58_2_1 : Nat),
  w_16.cell? ⟨w_1.heap.size, 2, none⟩ = some (.slice A58_2_1 n58_2_1 c58_2_1) ∧
  ∃ (A58_3_1 : Option Addr) (n58_3_1 c58_3_1 : Nat),
  w_16.cell? ⟨w_1.heap.size, 3, none⟩ = some (.slice A58_3_1 n58_3_1 c58_3_1) ∧
  canStore w_16 w.heap.size 0 4 ∧
  let w_17 : World := setCs w_16 w.heap.size 0 [.slice A58_0_1 n58_0_1 c58_0_1, .slice A58_1_1 n58_1_1 c58_1_1, .slice A58_2_1 n58_2_1 c58_2_1, .slice A58_3_1 n58_3_1 c58_3_1];
  ∃ (A6_0_6 : Option Addr) (n6_0_6 c6_0_6 : Nat),
  w_17.cell? ⟨w.heap.size, 0, none⟩ = some (.slice A6_0_6 n6_0_6 c6_0_6) ∧
  ∃ (A6_1_6 : Option Addr) (n6_1_6 c6_1_6 : Nat),
  w_17.cell? ⟨w.heap.size, 1, none⟩ = some (.slice A6_1_6 n6_1_6 c6_1_6) ∧
  ∃ (A6_2_6 : Option Addr) (n6_2_6 c6_2_6 : Nat),
  w_17.cell? ⟨w.heap.size, 2, none⟩ = some (.slice A6_2_6 n6_2_6 c6_2_6) ∧
  ∃ (A6_3_6 : Option Addr) (n6_3_6 c6_3_6 : Nat),
  w_17.cell? ⟨w.heap.size, 3, none⟩ = some (.slice A6_3_6 n6_3_6 c6_3_6) ∧
  R (.tuple #[.agg #[.slice A6_0_6 n6_0_6 c6_0_6, .slice A6_1_6 n6_1_6 c6_1_6, .slice A6_2_6 n6_2_6 c6_2_6, .slice A6_3_6 n6_3_6 c6_3_6], .bool false]) w_17) (
  4 ≠ (0 : Int) ∧
  let i62_1 : Int := IntKind.i64.wrap (Int.tdiv x27 4);
  4 ≠ (0 : Int) ∧
  let i64_1 : Int := Int.tmod x27 4;
  let i65_1 : Int := IntKind.i8.wrap i64_1;
  Calls Tryd.prog 54 #[.slice Aa0 na0 ca0, .int .i64 i62_1, .int .i8 i65_1] w_16 fun e_5 w_18 =>
  ∃ (x66_0_1 : Int) (x66_1_1 : Int),
  e_5 = .returned (.tuple #[.int .i64 x66_0_1, .int .i64 x66_1_1]) ∧
  Calls Tryd.prog 22 #[.int .i64 x27, .int .i64 xa1] w_18 fun e_6 w_19 =>
  ∃ (x71_1 : Int),
  e_6 = .returned (.int .i64 x71_1) ∧
  let i73_1 : Int := IntKind.i64.wrap (x71_1 + x66_1_1);
  let i74_1 : Int := IntKind.i64.wrap (i73_1 - 1);
  xa1 ≠ (0 : Int) ∧
  let i76_1 : Int := Int.tmod i74_1 xa1;
  sel ((i76_1 : Int) != (x19 : Int)) (
  ∃ (A79_0_1 : Option Addr) (n79_0_1 c79_0_1 : Nat),
  w_19.cell? ⟨w_1.heap.size, 0, none⟩ = some (.slice A79_0_1 n79_0_1 c79_0_1) ∧
  ∃ (A79_1_1 : Option Addr) (n79_1_1 c79_1_1 : Nat),
  w_19.cell? ⟨w_1.heap.size, 1, none⟩ = some (.slice A79_1_1 n79_1_1 c79_1_1) ∧
  ∃ (A79_2_1 : Option Addr) (n79_2_1 c79_2_1 : Nat),
  w_19.cell? ⟨w_1.heap.size, 2, none⟩ = some (.slice A79_2_1 n79_2_1 c79_2_1) ∧
  ∃ (A79_3_1 : Option Addr) (n79_3_1 c79_3_1 : Nat),
  w_19.cell? ⟨w_1.heap.size, 3, none⟩ = some (.slice A79_3_1 n79_3_1 c79_3_1) ∧
  canStore w_19 w.heap.size 0 4 ∧
  let w_20 : World := setCs w_19 w.heap.size 0 [.slice A79_0_1 n79_0_1 c79_0_1, .slice A79_1_1 n79_1_1 c79_1_1, .slice A79_2_1 n79_2_1 c79_2_1, .slice A79_3_1 n79_3_1 c79_3_1];
  ∃ (A6_0_7 : Option Addr) (n6_0_7 c6_0_7 : Nat),
  w_20.cell? ⟨w.heap.size, 0, none⟩ = some (.slice A6_0_7 n6_0_7 c6_0_7) ∧
  ∃ (A6_1_7 : Option Addr) (n6_1_7 c6_1_7 : Nat),
  w_20.cell? ⟨w.heap.size, 1, none⟩ = some (.slice A6_1_7 n6_1_7 c6_1_7) ∧
  ∃ (A6_2_7 : Option Addr) (n6_2_7 c6_2_7 : Nat),
  w_20.cell? ⟨w.heap.size, 2, none⟩ = some (.slice A6_2_7 n6_2_7 c6_2_7) ∧
  ∃ (A6_3_7 : Option Addr) (n6_3_7 c6_3_7 : Nat),
  w_20.cell? ⟨w.heap.size, 3, none⟩ = some (.slice A6_3_7 n6_3_7 c6_3_7) ∧
  R (.tuple #[.agg #[.slice A6_0_7 n6_0_7 c6_0_7, .slice A6_1_7 n6_1_7 c6_1_7, .slice A6_2_7 n6_2_7 c6_2_7, .slice A6_3_7 n6_3_7 c6_3_7], .bool false]) w_20) (
  4 ≠ (0 : Int) ∧
  let i81_1 : Int := Int.tmod x27 4;
  4 ≠ (0 : Int) ∧
  let i83_1 : Int := Int.tmod x27 4;
  (0 : Int) ≤ i83_1 ∧ i83_1 < (4 : Int) ∧
  ∃ (A85_1 : Option Addr) (n85_1 c85_1 : Nat),
  w_19.cell? ⟨w_1.heap.size, 0 + i83_1.toNat * 1, none⟩ = some (.slice A85_1 n85_1 c85_1) ∧
  4 ≠ (0 : Int) ∧
  let i87_1 : Int := IntKind.i64.wrap (Int.tdiv x27 4);
  let w_21 : World := World.alloc w_19 (.cells #[.int .i64 i87_1, .int .i64 x34] 98);
  ∃ (A91_1 : Option Addr) (n91_1 c91_1 : Nat),
  ∃ w_22 : World, (Builtin.append_ #[67, 67] 67 #[.slice A85_1 n85_1 c85_1, .slice (some ⟨w_19.heap.size, 0, none⟩) 1 1]).run Tryd.prog w_21 = .ok (.slice A91_1 n91_1 c91_1) w_22 ∧
  (0 : Int) ≤ i81_1 ∧ i81_1 < (4 : Int) ∧
  canStore w_22 w_1.heap.size (0 + i81_1.toNat * 1) 1 ∧
  let w_23 : World := setCs w_22 w_1.heap.size (0 + i81_1.toNat * 1) [.slice A91_1 n91_1 c91_1];
  let i93_2 : Int := IntKind.i64.wrap (x19 + 1);
  ([.slice Aa0 na0 ca0, .int .i64 xa1, .pointer (some ⟨a2, 0, none⟩), .pointer (some ⟨w.heap.size, 0, none⟩), .pointer (some ⟨w_1.heap.size, 0, none⟩), .int .i64 xa1] : List Value) = ([.slice Aa0 na0 ca0, .int .i64 xa1, .pointer (some ⟨a2, 0, none⟩), .pointer (some ⟨w.heap.size, 0, none⟩), .pointer (some ⟨w_1.heap.size, 0, none⟩), .int .i64 xa1] : List Value) ∧ ∃ m, m < r ∧ I i93_2 w_23 m)))))) (
  ∃ (A94_0 : Option Addr) (n94_0 c94_0 : Nat),
  w_3.cell? ⟨w_1.heap.size, 0, none⟩ = some (.slice A94_0 n94_0 c94_0) ∧
  ∃ (A94_1 : Option Addr) (n94_1 c94_1 : Nat),
  w_3.cell? ⟨w_1.heap.size, 1, none⟩ = some (.slice A94_1 n94_1 c94_1) ∧
  ∃ (A94_2 : Option Addr) (n94_2 c94_2 : Nat),
  w_3.cell? ⟨w_1.heap.size, 2, none⟩ = some (.slice A94_2 n94_2 c94_2) ∧
  ∃ (A94_3 : Option Addr) (n94_3 c94_3 : Nat),
  w_3.cell? ⟨w_1.heap.size, 3, none⟩ = some (.slice A94_3 n94_3 c94_3) ∧
  ∃ I_1 : Int → World → Nat → Prop,
  (∃ n, I_1 0 w_3 n) ∧
  ∀ d_1 : Env, ∀ (x95 : Int) (w_24 : World) (r_1 : Nat), I_1 x95 w_24 r_1 →
  sel (decide ((x95 : Int) < (4 : Int))) (
  ∃ (A97 : Option Addr) (n97 c97 : Nat),
  (∀ w', (Instr.index 68 (.agg #[.slice A94_0 n94_0 c94_0, .slice A94_1 n94_1 c94_1, .slice A94_2 n94_2 c94_2, .slice A94_3 n94_3 c94_3]) (.int .i64 x95)).run Tryd.prog w' = .ok (.slice A97 n97 c97) w') ∧
  Calls Tryd.prog 55 #[.slice A97 n97 c97, .func (.func 56) #[] #[]] w_24 fun e_7 w_25 =>
  e_7 = .returned (.tuple #[]) ∧
  let i100 : Int := IntKind.i64.wrap (x95 + 1);
  ([.pointer (some ⟨w.heap.size, 0, none⟩), .pointer (some ⟨w_1.heap.size, 0, none⟩), .agg #[.slice A94_0 n94_0 c94_0, .slice A94_1 n94_1 c94_1, .slice A94_2 n94_2 c94_2, .slice A94_3 n94_3 c94_3]] : List Value) = ([.pointer (some ⟨w.heap.size, 0, none⟩), .pointer (some ⟨w_1.heap.size, 0, none⟩), .agg #[.slice A94_0 n94_0 c94_0, .slice A94_1 n94_1 c94_1, .slice A94_2 n94_2 c94_2, .slice A94_3 n94_3 c94_3]] : List Value) ∧ ∃ m, m < r_1 ∧ I_1 i100 w_25 m) (
  ∃ (A101_0 : Option Addr) (n101_0 c101_0 : Nat),
  w_24.cell? ⟨w_1.heap.size, 0, none⟩ = some (.slice A101_0 n101_0 c101_0) ∧
  ∃ (A101_1 : Option Addr) (n101_1 c101_1 : Nat),
  w_24.cell? ⟨w_1.heap.size, 1, none⟩ = some (.slice A101_1 n101_1 c101_1) ∧
  ∃ (A101_2 : Option Addr) (n101_2 c101_2 : Nat),
  w_24.cell? ⟨w_1.heap.size, 2, none⟩ = some (.slice A101_2 n101_2 c101_2) ∧
  ∃ (A101_3 : Option Addr) (n101_3 c101_3 : Nat),
  w_24.cell? ⟨w_1.heap.size, 3, none⟩ = some (.slice A101_3 n101_3 c101_3) ∧
  canStore w_24 w.heap.size 0 4 ∧
  let w_26 : World := setCs w_24 w.heap.size 0 [.slice A101_0 n101_0 c101_0, .slice A101_1 n101_1 c101_1, .slice A101_2 n101_2 c101_2, .slice A101_3 n101_3 c101_3];
  ∃ (A6_0_8 : Option Addr) (n6_0_8 c6_0_8 : Nat),
  w_26.cell? ⟨w.heap.size, 0, none⟩ = some (.slice A6_0_8 n6_0_8 c6_0_8) ∧
  ∃ (A6_1_8 : Option Addr) (n6_1_8 c6_1_8 : Nat),
  w_26.cell? ⟨w.heap.size, 1, none⟩ = some (.slice A6_1_8 n6_1_8 c6_1_8) ∧
  ∃ (A6_2_8 : Option Addr) (n6_2_8 c6_2_8 : Nat),
  w_26.cell? ⟨w.heap.size, 2, none⟩ = some (.slice A6_2_8 n6_2_8 c6_2_8) ∧
  ∃ (A6_3_8 : Option Addr) (n6_3_8 c6_3_8 : Nat),
  w_26.cell? ⟨w.heap.size, 3, none⟩ = some (.slice A6_3_8 n6_3_8 c6_3_8) ∧
  R (.tuple #[.agg #[.slice A6_0_8 n6_0_8 c6_0_8, .slice A6_1_8 n6_1_8 c6_1_8, .slice A6_2_8 n6_2_8 c6_2_8, .slice A6_3_8 n6_3_8 c6_3_8], .bool true]) w_26))
theorem f39.eq (Aa0 : Option Addr) (na0 ca0 : Nat) (xa1 : Int) (a2 : Nat) (w : World) (R : Value → World → Prop) : f39.VC Aa0 na0 ca0 xa1 a2 w R = funV Tryd.prog Tryd.f39 f39.AL f39.AC #[.slice Aa0 na0 ca0, .int .i64 xa1, .pointer (some ⟨a2, 0, none⟩)] w R := by kernel_rfl
theorem f39.calls {Aa0 : Option Addr} {na0 ca0 : Nat} {xa1 : Int} {a2 : Nat} {w : World} {R : Value → World → Prop} (h : f39.VC Aa0 na0 ca0 xa1 a2 w R) : Calls Tryd.prog 39 #[.slice Aa0 na0 ca0, .int .i64 xa1, .pointer (some ⟨a2, 0, none⟩)] w fun e w' => ∃ v, e = .returned v ∧ R v w' :=
  funV_sound (fn := Tryd.f39) (AL := f39.AL) (AC := f39.AC) W15.mixed (by kernel_rfl) (by rw [← f39.eq Aa0 na0 ca0 xa1 a2]; exact h)

end Go.Proofs.YtjmlfknogjaemaaDoor
/- Page: sorted. -/
set_option linter.unusedVariables false
set_option linter.unusedSimpArgs false
set_option maxRecDepth 10000
namespace Go.Proofs.YtjmlfknogjaemaaDoor
open Go Go.Proofs.YtjmlfknogjaemaaDoor.Vc
namespace PG
open Vc.PG NI
theorem lookGo_range (W : List Int) (t : Nat) (key : Int) (f : Nat) : ∀ (r n : Nat), n + r = t → 0 < t → 1 ≤ (lookGo W t key f n r).2 ∧ (lookGo W t key f n r).2 ≤ t
  | 0, n, h, h0 => by simp [lookGo]; omega
  | r + 1, n, h, h0 => by
    rw [lookGo]
    split
    · exact ⟨by simp, by simp; omega⟩
    · split
      · exact ⟨by simp, by simp; omega⟩
      · exact lookGo_range W t key f r (n + 1) (by omega) h0
theorem lookP_range {W : List Int} {t : Nat} (ht : tabP W = (t : Int)) (h0 : 0 < t) {s k : Int} (hk : 1 ≤ k ∧ k ≤ 3) : 1 ≤ (lookP W s k).2 ∧ (lookP W s k).2 ≤ t := by
  unfold lookP
  rw [if_neg (by omega), ht, Int.toNat_natCast]
  exact lookGo_range W t _ _ t 0 (by omega) h0
theorem rawS_mem {W : List Int} {k : Int} {n : Nat} {p : Se} (h : p ∈ rawS W k n) : ∃ i, i < n ∧ 0 < keyAt W i ∧ keyAt W i % 4 = k ∧ p = (keyAt W i / 4, numAt W i) := by
  unfold rawS at h
  obtain ⟨i, hi, he⟩ := List.mem_filterMap.1 h
  by_cases hc : 0 < keyAt W i ∧ keyAt W i % 4 = k
  · rw [if_pos hc] at he
    exact ⟨i, List.mem_range.1 hi, hc.1, hc.2, (Option.some.inj he).symm⟩
  · rw [if_neg hc] at he; cases he
theorem okAt_place {W : List Int} {t : Nat} {l : List ByteArray} {i : Nat} (h : okAt W t l i = true) (hk : 0 < keyAt W i) : (pgHash (keyAt W i) t + (lookP W (keyAt W i / 4) (keyAt W i % 4)).2 - 1) % t = i := by
  unfold okAt at h
  rcases Bool.or_eq_true_iff.1 h with h | h
  · rw [Bool.and_eq_true, decide_eq_true_iff, decide_eq_true_iff] at h; omega
  · rw [Bool.and_eq_true] at h; exact of_decide_eq_true h.2
theorem rawS_apart {W : List Int} {t : Nat} {l : List ByteArray} {k : Int} : ∀ {n : Nat}, (∀ i, i < n → okAt W t l i = true) → (rawS W k n).Pairwise (fun x y => x.1 ≠ y.1)
  | 0, _ => by simp [rawS]
  | n + 1, h => by
    rw [rawS_succ, List.pairwise_append]
    refine ⟨rawS_apart fun i hi => h i (by omega), ?_, fun a ha b hb => ?_⟩
    · split <;> simp
    · obtain ⟨i, hi, h1, h2, rfl⟩ := rawS_mem ha
      split at hb
      · rename_i hc
        simp only [List.mem_singleton] at hb
        subst hb
        intro he
        simp only at he
        have e : keyAt W i = keyAt W n := by omega
        have p1 := okAt_place (h i (by omega)) h1
        have p2 := okAt_place (h n (by omega)) hc.1
        rw [e] at p1
        omega
      · simp at hb
theorem rise_se : ∀ {l l' : List Se}, l.Perm l' → l.Pairwise (fun x y => x.1 ≤ y.1) → l'.Pairwise (fun x y => x.1 < y.1) → l = l'
  | [], l', p, _, _ => p.nil_eq
  | x :: l, [], p, _, _ => absurd p.length_eq (by simp)
  | x :: l, y :: l', p, h, k => by
    obtain ⟨h1, h2⟩ := List.pairwise_cons.1 h
    obtain ⟨k1, k2⟩ := List.pairwise_cons.1 k
    have hxy : x = y := by
      have hx : x ∈ y :: l' := p.mem_iff.1 (by simp)
      have hy : y ∈ x :: l := p.mem_iff.2 (by simp)
      rcases List.mem_cons.1 hx with hx | hx
      · exact hx
      · rcases List.mem_cons.1 hy with hy | hy
        · exact hy.symm
        · have := k1 x hx; have := h1 y hy; omega
    subst hxy
    rw [rise_se ((List.perm_cons x).1 p) h2 k2]
theorem srt_eq {a m : List Se} (hp : m.Perm a) (hs : m.Pairwise (fun x y => x.1 ≤ y.1)) (hd : a.Pairwise (fun x y => x.1 ≠ y.1)) : m = srt a := by
  refine rise_se (hp.trans (srt_perm a).symm) hs ?_
  have h1 := srt_sorted a
  have h2 : (srt a).Pairwise (fun x y => x.1 ≠ y.1) := ((srt_perm a).pairwise_iff (fun h => Ne.symm h)).2 hd
  have := h1.and h2
  exact this.imp fun ⟨p, q⟩ => by omega
abbrev srK (b1 b2 : Nat) (Z : Array Value) (V1 V2 V3 : Sl) (s1 s2 s3 : List Se) (K : List Chunk) : List Chunk :=
  Chunk.blk b1 Z 68 :: Chunk.blk b2 #[.slice none 0 0, V1.v, V2.v, V3.v] 68 :: ses V1.v s1 :: ses V2.v s2 :: ses V3.v s3 :: K
theorem endS {S : List Nat} {w0 w u : World} {b1 b2 : Nat} {Z : Array Value} {V1 V2 V3 : Sl} {M : List Chunk} {R : Value → World → Prop} {ok : Bool} (hZ : Z.size = 4)
    (hS : St S w0 w (Chunk.blk b1 Z 68 :: Chunk.blk b2 #[.slice none 0 0, V1.v, V2.v, V3.v] 68 :: M)) (hu : St S w0 u (Chunk.blk b1 Z 68 :: Chunk.blk b2 #[.slice none 0 0, V1.v, V2.v, V3.v] 68 :: M))
    (hR : ∀ w', St S w0 w' M → R (.tuple #[.agg #[.slice none 0 0, V1.v, V2.v, V3.v], .bool ok]) w') :
    ∃ (A0 : Option Addr) (n0 c0 : Nat), w.cell? ⟨b2, 0, none⟩ = some (.slice A0 n0 c0) ∧ ∃ (A1 : Option Addr) (n1 c1 : Nat), w.cell? ⟨b2, 1, none⟩ = some (.slice A1 n1 c1) ∧
    ∃ (A2 : Option Addr) (n2 c2 : Nat), w.cell? ⟨b2, 2, none⟩ = some (.slice A2 n2 c2) ∧ ∃ (A3 : Option Addr) (n3 c3 : Nat), w.cell? ⟨b2, 3, none⟩ = some (.slice A3 n3 c3) ∧ canStore w b1 0 4 ∧
    let w5 : World := setCs u b1 0 [.slice A0 n0 c0, .slice A1 n1 c1, .slice A2 n2 c2, .slice A3 n3 c3]
    ∃ (B0 : Option Addr) (m0 d0 : Nat), w5.cell? ⟨b1, 0, none⟩ = some (.slice B0 m0 d0) ∧ ∃ (B1 : Option Addr) (m1 d1 : Nat), w5.cell? ⟨b1, 1, none⟩ = some (.slice B1 m1 d1) ∧
    ∃ (B2 : Option Addr) (m2 d2 : Nat), w5.cell? ⟨b1, 2, none⟩ = some (.slice B2 m2 d2) ∧ ∃ (B3 : Option Addr) (m3 d3 : Nat), w5.cell? ⟨b1, 3, none⟩ = some (.slice B3 m3 d3) ∧
    R (.tuple #[.agg #[.slice B0 m0 d0, .slice B1 m1 d1, .slice B2 m2 d2, .slice B3 m3 d3], .bool ok]) w5 := by
  have h5 := hu.over 0 rfl [.slice none 0 0, V1.v, V2.v, V3.v] (by simp [hZ])
  refine ⟨_, _, _, (hS.blk 1 rfl).cell rfl, _, _, _, (hS.blk 1 rfl).cell rfl, _, _, _, (hS.blk 1 rfl).cell rfl, _, _, _, (hS.blk 1 rfl).cell rfl, (hS.blk 0 rfl).can (by simp [hZ]), ?_⟩
  exact ⟨_, _, _, (h5.blk 0 rfl).cell rfl, _, _, _, (h5.blk 0 rfl).cell rfl, _, _, _, (h5.blk 0 rfl).cell rfl, _, _, _, (h5.blk 0 rfl).cell rfl, hR _ h5.tail.tail⟩
theorem appE {S : List Nat} {w0 w : World} {L : List Chunk} (h : St S w0 w L) (i : Nat) {A : Option Addr} {n c : Nat} {l : List Se} (hi : L[i]? = some (ses (.slice A n c) l)) (a : Se) (hl : l.length ≤ 1000000) :
    ∃ A' n' c' w', (Builtin.append_ #[67, 67] 67 #[.slice A n c, .slice (some ⟨w.heap.size, 0, Option.none⟩) 1 1]).run Tryd.prog (World.alloc w (.cells #[.int .i64 a.1, .int .i64 a.2] 98)) = .ok (.slice A' n' c') w' ∧ St S w0 w' (L.set i (ses (.slice A' n' c') (l ++ [a]))) ∧ n' = l.length + 1 := by
  obtain ⟨ti, i1, i2, i3, i4⟩ := info143
  obtain ⟨A', n', c', w', h1, h2⟩ := h.appR (enc := encE) (s := 2) (P := Tryd.prog) (t := 67) (ty := 67) (by decide) (fun _ => rfl) encE1 under109 i1 i2 i3 rfl (by omega) i hi a (by omega)
  have hil : i < L.length := (List.getElem?_eq_some_iff.1 hi).1
  have := h2.lrLen i (List.getElem?_set_self hil)
  exact ⟨_, _, _, w', h1, h2, by simpa using this⟩
theorem index110 (a b c d : Value) (w : World) : (Instr.index 68 (.agg #[a, b, c, d]) (.int .i64 0)).run Tryd.prog w = .ok a w ∧ (Instr.index 68 (.agg #[a, b, c, d]) (.int .i64 1)).run Tryd.prog w = .ok b w ∧ (Instr.index 68 (.agg #[a, b, c, d]) (.int .i64 2)).run Tryd.prog w = .ok c w ∧ (Instr.index 68 (.agg #[a, b, c, d]) (.int .i64 3)).run Tryd.prog w = .ok d w := by
  refine ⟨by kernel_rfl, by kernel_rfl, by kernel_rfl, by kernel_rfl⟩
end PG
end Go.Proofs.YtjmlfknogjaemaaDoor
