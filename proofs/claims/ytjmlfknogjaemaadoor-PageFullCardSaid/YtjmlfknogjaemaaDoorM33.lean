/- The plain statements of some functions, printed by vcgen.py. -/
import Derived.Test.YtjmlfknogjaemaaDoorM4
import Derived.Test.YtjmlfknogjaemaaDoorProg
import Derived.KernelRfl
import Derived.Test.YtjmlfknogjaemaaDoorM6
import Derived.Test.YtjmlfknogjaemaaDoorM32
import Derived.Test.YtjmlfknogjaemaaDoorM27
set_option maxRecDepth 100000
set_option linter.unusedVariables false
namespace Go.Proofs.YtjmlfknogjaemaaDoor
open Go Go.Proofs.YtjmlfknogjaemaaDoor.Vc
theorem DW1.mixed : Tryd.prog.follows .mixedOrders = true := by kernel_rfl
/-- gatehouse/gatehouselaw12.PageFull -/
def f3.AL : Nat → Option Ann := fun r => match r with | 6 => some ⟨[(3, .int .i64)], [1, 2]⟩ | _ => none
def f3.AC : Nat → Option Ann := fun _ => none
def f3.VC  (w : World) (R : Value → World → Prop) : Prop :=
  Calls Tryd.prog 5 #[] w fun e_1 w_1 =>
  ∃ (b19 : Bool),
  e_1 = .returned (.bool b19) ∧
  Calls Tryd.prog 6 #[] w_1 fun e_2 w_2 =>
  ∃ (p20 : Option Addr),
  e_2 = .returned (.pointer p20) ∧
  sel (Option.isNone p20) (
  R (.bool false) w_2) (
  ∃ I : Int → World → Nat → Prop,
  (∃ n, I 1 w_2 n) ∧
  ∀ d : Env, ∀ (x3 : Int) (w_3 : World) (r : Nat), I x3 w_3 r →
  sel (decide ((x3 : Int) < (1048576 : Int))) (
  Calls Tryd.prog 8 #[.int .i64 x3] w_3 fun e_3 w_4 =>
  ∃ (s29 : ByteArray),
  e_3 = .returned (.string s29) ∧
  Calls Tryd.prog 7 #[.pointer p20, .string s29] w_4 fun e_4 w_5 =>
  ∃ (x30 : Int),
  e_4 = .returned (.int .i64 x30) ∧
  let i26 : Int := IntKind.i64.wrap (x3 + 1);
  ([.bool b19, .pointer p20] : List Value) = ([.bool b19, .pointer p20] : List Value) ∧ ∃ m, m < r ∧ I i26 w_5 m) (
  let w_6 : World := World.alloc w_3 (.cells #[.string ⟨#[97]⟩] 9);
  let w_7 : World := World.alloc w_6 (.cells #[.string ⟨#[98]⟩] 9);
  let w_8 : World := World.alloc w_7 (.cells #[.int .i64 1] 3);
  let w_9 : World := World.alloc w_8 (.cells #[] 59);
  let w_10 : World := World.alloc w_9 (.cells #[.slice (some ⟨w_8.heap.size, 0, none⟩) 0 0] 29);
  let w_11 : World := World.alloc w_10 (.cells #[.slice none 0 0, .slice none 0 0, .slice none 0 0, .slice none 0 0, .slice none 0 0, .slice none 0 0] 32);
  canStore w_11 w_10.heap.size 0 6 ∧
  let w_12 : World := setCs w_11 w_10.heap.size 0 [.slice (some ⟨w_3.heap.size, 0, none⟩) 1 1, .slice (some ⟨w_6.heap.size, 0, none⟩) 1 1, .slice none 0 0, .slice (some ⟨w_7.heap.size, 0, none⟩) 1 1, .slice none 0 0, .slice (some ⟨w_9.heap.size, 0, none⟩) 1 1];
  let w_13 : World := World.alloc w_12 (.cells #[.string ⟨#[97]⟩] 9);
  let w_14 : World := World.alloc w_13 (.cells #[.string ⟨#[97]⟩, .string ⟨#[55]⟩] 9);
  let w_15 : World := World.alloc w_14 (.cells #[.int .i64 1, .int .i64 1] 3);
  let w_16 : World := World.alloc w_15 (.cells #[] 59);
  let w_17 : World := World.alloc w_16 (.cells #[.slice (some ⟨w_15.heap.size, 0, none⟩) 0 0] 29);
  let w_18 : World := World.alloc w_17 (.cells #[.slice none 0 0, .slice none 0 0, .slice none 0 0, .slice none 0 0, .slice none 0 0, .slice none 0 0] 32);
  canStore w_18 w_17.heap.size 0 6 ∧
  let w_19 : World := setCs w_18 w_17.heap.size 0 [.slice (some ⟨w_12.heap.size, 0, none⟩) 1 1, .slice (some ⟨w_13.heap.size, 0, none⟩) 2 2, .slice none 0 0, .slice (some ⟨w_14.heap.size, 0, none⟩) 2 2, .slice none 0 0, .slice (some ⟨w_16.heap.size, 0, none⟩) 1 1];
  ∃ (A44_0 : Option Addr) (n44_0 c44_0 : Nat),
  w_19.cell? ⟨w_10.heap.size, 0, none⟩ = some (.slice A44_0 n44_0 c44_0) ∧
  ∃ (A44_1 : Option Addr) (n44_1 c44_1 : Nat),
  w_19.cell? ⟨w_10.heap.size, 1, none⟩ = some (.slice A44_1 n44_1 c44_1) ∧
  ∃ (A44_2 : Option Addr) (n44_2 c44_2 : Nat),
  w_19.cell? ⟨w_10.heap.size, 2, none⟩ = some (.slice A44_2 n44_2 c44_2) ∧
  ∃ (A44_3 : Option Addr) (n44_3 c44_3 : Nat),
  w_19.cell? ⟨w_10.heap.size, 3, none⟩ = some (.slice A44_3 n44_3 c44_3) ∧
  ∃ (A44_4 : Option Addr) (n44_4 c44_4 : Nat),
  w_19.cell? ⟨w_10.heap.size, 4, none⟩ = some (.slice A44_4 n44_4 c44_4) ∧
  ∃ (A44_5 : Option Addr) (n44_5 c44_5 : Nat),
  w_19.cell? ⟨w_10.heap.size, 5, none⟩ = some (.slice A44_5 n44_5 c44_5) ∧
  Calls Tryd.prog 9 #[.int .i64 1, .agg #[.slice A44_0 n44_0 c44_0, .slice A44_1 n44_1 c44_1, .slice A44_2 n44_2 c44_2, .slice A44_3 n44_3 c44_3, .slice A44_4 n44_4 c44_4, .slice A44_5 n44_5 c44_5], .pointer p20] w_19 fun e_5 w_20 =>
  ∃ (A46_0 : Option Addr) (n46_0 c46_0 : Nat) (x46_1 : Int),
  e_5 = .returned (.tuple #[.slice A46_0 n46_0 c46_0, .int .i64 x46_1]) ∧
  Calls Tryd.prog 10 #[.pointer p20, .string ⟨#[97]⟩] w_20 fun e_6 w_21 =>
  ∃ (x51_0 : Int) (b51_1 : Bool),
  e_6 = .returned (.tuple #[.int .i64 x51_0, .bool b51_1]) ∧
  Calls Tryd.prog 11 #[.pointer p20] w_21 fun e_7 w_22 =>
  ∃ (x55 : Int),
  e_7 = .returned (.int .i64 x55) ∧
  ∃ (A57_0 : Option Addr) (n57_0 c57_0 : Nat),
  w_22.cell? ⟨w_17.heap.size, 0, none⟩ = some (.slice A57_0 n57_0 c57_0) ∧
  ∃ (A57_1 : Option Addr) (n57_1 c57_1 : Nat),
  w_22.cell? ⟨w_17.heap.size, 1, none⟩ = some (.slice A57_1 n57_1 c57_1) ∧
  ∃ (A57_2 : Option Addr) (n57_2 c57_2 : Nat),
  w_22.cell? ⟨w_17.heap.size, 2, none⟩ = some (.slice A57_2 n57_2 c57_2) ∧
  ∃ (A57_3 : Option Addr) (n57_3 c57_3 : Nat),
  w_22.cell? ⟨w_17.heap.size, 3, none⟩ = some (.slice A57_3 n57_3 c57_3) ∧
  ∃ (A57_4 : Option Addr) (n57_4 c57_4 : Nat),
  w_22.cell? ⟨w_17.heap.size, 4, none⟩ = some (.slice A57_4 n57_4 c57_4) ∧
  ∃ (A57_5 : Option Addr) (n57_5 c57_5 : Nat),
  w_22.cell? ⟨w_17.heap.size, 5, none⟩ = some (.slice A57_5 n57_5 c57_5) ∧
  Calls Tryd.prog 9 #[.int .i64 1, .agg #[.slice A57_0 n57_0 c57_0, .slice A57_1 n57_1 c57_1, .slice A57_2 n57_2 c57_2, .slice A57_3 n57_3 c57_3, .slice A57_4 n57_4 c57_4, .slice A57_5 n57_5 c57_5], .pointer p20] w_22 fun e_8 w_23 =>
  ∃ (A59_0 : Option Addr) (n59_0 c59_0 : Nat) (x59_1 : Int),
  e_8 = .returned (.tuple #[.slice A59_0 n59_0 c59_0, .int .i64 x59_1]) ∧
  ∃ (A63_0 : Option Addr) (n63_0 c63_0 : Nat),
  w_23.cell? ⟨w_10.heap.size, 0, none⟩ = some (.slice A63_0 n63_0 c63_0) ∧
  ∃ (A63_1 : Option Addr) (n63_1 c63_1 : Nat),
  w_23.cell? ⟨w_10.heap.size, 1, none⟩ = some (.slice A63_1 n63_1 c63_1) ∧
  ∃ (A63_2 : Option Addr) (n63_2 c63_2 : Nat),
  w_23.cell? ⟨w_10.heap.size, 2, none⟩ = some (.slice A63_2 n63_2 c63_2) ∧
  ∃ (A63_3 : Option Addr) (n63_3 c63_3 : Nat),
  w_23.cell? ⟨w_10.heap.size, 3, none⟩ = some (.slice A63_3 n63_3 c63_3) ∧
  ∃ (A63_4 : Option Addr) (n63_4 c63_4 : Nat),
  w_23.cell? ⟨w_10.heap.size, 4, none⟩ = some (.slice A63_4 n63_4 c63_4) ∧
  ∃ (A63_5 : Option Addr) (n63_5 c63_5 : Nat),
  w_23.cell? ⟨w_10.heap.size, 5, none⟩ = some (.slice A63_5 n63_5 c63_5) ∧
  Calls Tryd.prog 9 #[.int .i64 1, .agg #[.slice A63_0 n63_0 c63_0, .slice A63_1 n63_1 c63_1, .slice A63_2 n63_2 c63_2, .slice A63_3 n63_3 c63_3, .slice A63_4 n63_4 c63_4, .slice A63_5 n63_5 c63_5], .pointer p20] w_23 fun e_9 w_24 =>
  ∃ (A65_0 : Option Addr) (n65_0 c65_0 : Nat) (x65_1 : Int),
  e_9 = .returned (.tuple #[.slice A65_0 n65_0 c65_0, .int .i64 x65_1]) ∧
  Calls Tryd.prog 10 #[.pointer p20, .string ⟨#[98]⟩] w_24 fun e_10 w_25 =>
  ∃ (x70_0 : Int) (b70_1 : Bool),
  e_10 = .returned (.tuple #[.int .i64 x70_0, .bool b70_1]) ∧
  ∃ (A74_0 : Option Addr) (n74_0 c74_0 : Nat),
  w_25.cell? ⟨w_17.heap.size, 0, none⟩ = some (.slice A74_0 n74_0 c74_0) ∧
  ∃ (A74_1 : Option Addr) (n74_1 c74_1 : Nat),
  w_25.cell? ⟨w_17.heap.size, 1, none⟩ = some (.slice A74_1 n74_1 c74_1) ∧
  ∃ (A74_2 : Option Addr) (n74_2 c74_2 : Nat),
  w_25.cell? ⟨w_17.heap.size, 2, none⟩ = some (.slice A74_2 n74_2 c74_2) ∧
  ∃ (A74_3 : Option Addr) (n74_3 c74_3 : Nat),
  w_25.cell? ⟨w_17.heap.size, 3, none⟩ = some (.slice A74_3 n74_3 c74_3) ∧
  ∃ (A74_4 : Option Addr) (n74_4 c74_4 : Nat),
  w_25.cell? ⟨w_17.heap.size, 4, none⟩ = some (.slice A74_4 n74_4 c74_4) ∧
  ∃ (A74_5 : Option Addr) (n74_5 c74_5 : Nat),
  w_25.cell? ⟨w_17.heap.size, 5, none⟩ = some (.slice A74_5 n74_5 c74_5) ∧
  Calls Tryd.prog 9 #[.int .i64 2, .agg #[.slice A74_0 n74_0 c74_0, .slice A74_1 n74_1 c74_1, .slice A74_2 n74_2 c74_2, .slice A74_3 n74_3 c74_3, .slice A74_4 n74_4 c74_4, .slice A74_5 n74_5 c74_5], .pointer p20] w_25 fun e_11 w_26 =>
  ∃ (A76_0 : Option Addr) (n76_0 c76_0 : Nat) (x76_1 : Int),
  e_11 = .returned (.tuple #[.slice A76_0 n76_0 c76_0, .int .i64 x76_1]) ∧
  sel b19 (
  sel (((n46_0 : Int) : Int) == (0 : Int)) (
  sel ((x46_1 : Int) == (4 : Int)) (
  sel (!b51_1) (
  sel ((x55 : Int) == (1048575 : Int)) (
  sel ((x59_1 : Int) == (0 : Int)) (
  sel (((n59_0 : Int) : Int) == (20 : Int)) (
  sel (((n65_0 : Int) : Int) == (0 : Int)) (
  sel ((x65_1 : Int) == (4 : Int)) (
  sel (!b70_1) (
  sel ((x76_1 : Int) == (0 : Int)) (
  sel (((n76_0 : Int) : Int) == (20 : Int)) (
  Calls Tryd.prog 11 #[.pointer p20] w_26 fun e_12 w_27 =>
  ∃ (x130 : Int),
  e_12 = .returned (.int .i64 x130) ∧
  R (.bool ((x130 : Int) == (1048576 : Int))) w_27) (
  R (.bool false) w_26)) (
  R (.bool false) w_26)) (
  R (.bool false) w_26)) (
  R (.bool false) w_26)) (
  R (.bool false) w_26)) (
  R (.bool false) w_26)) (
  R (.bool false) w_26)) (
  R (.bool false) w_26)) (
  R (.bool false) w_26)) (
  R (.bool false) w_26)) (
  R (.bool false) w_26)) (
  R (.bool false) w_26)))
theorem f3.eq  (w : World) (R : Value → World → Prop) : f3.VC  w R = funV Tryd.prog Tryd.f3 f3.AL f3.AC #[] w R := by kernel_rfl
theorem f3.calls {w : World} {R : Value → World → Prop} (h : f3.VC  w R) : Calls Tryd.prog 3 #[] w fun e w' => ∃ v, e = .returned v ∧ R v w' :=
  funV_sound (fn := Tryd.f3) (AL := f3.AL) (AC := f3.AC) DW1.mixed (by kernel_rfl) (by rw [← f3.eq ]; exact h)

end Go.Proofs.YtjmlfknogjaemaaDoor
/- PageFull, the walk: an index with room for one name. -/
set_option linter.unusedVariables false
set_option linter.unusedSectionVars false
set_option linter.unusedSimpArgs false
set_option maxRecDepth 10000
namespace Go.Proofs.YtjmlfknogjaemaaDoor
open Go Go.Proofs.YtjmlfknogjaemaaDoor.Vc
namespace PG
open Vc.PG NI
def sA : ByteArray := ⟨#[97]⟩
def sB : ByteArray := ⟨#[98]⟩
def s7 : ByteArray := ⟨#[55]⟩
/-- Two new names; one new name. -/
def gTwo : Gd := ([sA], [sB], [], [1], [], [[]], ())
def gOne : Gd := ([sA], [sA, s7], [], [1, 1], [], [[]], ())
theorem valid_two : validP gTwo = true := by decide +kernel
theorem valid_one : validP gOne = true := by decide +kernel
theorem size_one : sizeP gOne = 20 := by decide +kernel
section
variable {L : List ByteArray} (hL : L.length = 1048575) (hA : ¬ sA ∈ L) (hB : ¬ sB ∈ L) (h7 : s7 ∈ L)
include hL hA hB h7
theorem full_two : layP 1 gTwo L = ([], 4, L) := by
  have h1 : wantGo L (names gTwo) [] = [sA, sB] := by
    show wantGo L [sA, sB] [] = [sA, sB]
    rw [wantGo, if_pos ⟨num_zero.2 hA, rfl⟩]
    show wantGo L [sB] [sA] = [sA, sB]
    rw [wantGo, if_pos ⟨num_zero.2 hB, by decide +kernel⟩]
    rfl
  unfold layP
  rw [if_neg (by decide), if_neg (by rw [valid_two]; decide), if_pos (by unfold freshN; rw [h1, hL]; decide)]
theorem full_fresh : freshN L gOne = 1 := by
  have h1 : wantGo L (names gOne) [] = [sA] := by
    show wantGo L [sA, sA, s7] [] = [sA]
    rw [wantGo, if_pos ⟨num_zero.2 hA, rfl⟩]
    show wantGo L [sA, s7] [sA] = [sA]
    rw [wantGo, if_neg (fun h => by have := h.2; revert this; decide +kernel), wantGo, if_neg (fun h => num_zero.1 h.1 h7)]
    rfl
  unfold freshN
  rw [h1]; rfl
theorem full_one : (layP 1 gOne L).2.1 = 0 ∧ (layP 1 gOne L).1.length = 20 ∧ (layP 1 gOne L).2.2 = L ++ [sA] := by
  have h0 : (layP 1 gOne L).2.1 = 0 := by
    unfold layP
    rw [if_neg (by decide), if_neg (by rw [valid_one]; decide), if_neg (by rw [full_fresh hL hA hB h7, hL]; decide)]
  refine ⟨h0, ?_, ?_⟩
  · have := lay_len h0
    rw [size_one] at this
    omega
  · rw [lay_L h0]
    show all L [sA, sA, s7] = L ++ [sA]
    have e1 : IX.of L sA = L ++ [sA] := by
      unfold IX.of
      rw [if_pos (num_zero.2 hA), if_neg (by omega)]
    show IX.of (IX.of (IX.of L sA) sA) s7 = _
    rw [e1, of_known (show sA ∈ L ++ [sA] by simp), of_known (show s7 ∈ L ++ [sA] by simp [h7])]
theorem full_two2 : layP 1 gTwo (L ++ [sA]) = ([], 4, L ++ [sA]) := by
  have hB2 : ¬ sB ∈ L ++ [sA] := by
    intro h
    rcases List.mem_append.1 h with h | h
    · exact hB h
    · rw [List.mem_singleton] at h
      revert h; decide +kernel
  have h1 : wantGo (L ++ [sA]) (names gTwo) [] = [sB] := by
    show wantGo (L ++ [sA]) [sA, sB] [] = [sB]
    rw [wantGo, if_neg (fun h => num_zero.1 h.1 (by simp)), wantGo, if_pos ⟨num_zero.2 hB2, rfl⟩]
    rfl
  unfold layP
  rw [if_neg (by decide), if_neg (by rw [valid_two]; decide), if_pos (by unfold freshN; rw [h1, List.length_append, hL]; decide)]
theorem full_one2 : (layP 2 gOne (L ++ [sA])).2.1 = 0 ∧ (layP 2 gOne (L ++ [sA])).1.length = 20 ∧ (layP 2 gOne (L ++ [sA])).2.2 = L ++ [sA] := by
  have hin : ∀ s ∈ names gOne, s ∈ L ++ [sA] := by
    intro s hs
    have hs : s ∈ [sA, sA, s7] := hs
    simp only [List.mem_cons, List.not_mem_nil, or_false] at hs
    rcases hs with rfl | rfl | rfl
    · simp
    · simp
    · simp [h7]
  have hw := want_none hin
  have h0 : (layP 2 gOne (L ++ [sA])).2.1 = 0 := by
    unfold layP
    rw [if_neg (by decide), if_neg (by rw [valid_one]; decide), if_neg (by unfold freshN; rw [hw, List.length_append, hL]; decide)]
  refine ⟨h0, ?_, ?_⟩
  · have := lay_len h0
    rw [size_one] at this
    omega
  · rw [lay_L h0]
    show IX.of (IX.of (IX.of (L ++ [sA]) sA) sA) s7 = _
    rw [of_known (show sA ∈ L ++ [sA] by simp), of_known (show sA ∈ L ++ [sA] by simp), of_known (show s7 ∈ L ++ [sA] by simp [h7])]
end
/-- A graph whose lists are blocks, read. -/
theorem blkTwo {w : World} {ba bb bo be bm : Nat} (ha : Blk w ba #[.string sA] 9) (hb : Blk w bb #[.string sB] 9) (ho : Blk w bo #[.int .i64 1] 3) (hm : Blk w bm #[.slice (some ⟨be, 0, none⟩) 0 0] 29) :
    InG w ⟨(some ⟨ba, 0, none⟩, 1, 1), (some ⟨bb, 0, none⟩, 1, 1), (none, 0, 0), (some ⟨bo, 0, none⟩, 1, 1), (none, 0, 0), (some ⟨bm, 0, none⟩, 1, 1)⟩ gTwo := by
  have one : ∀ i, i < 1 → i = 0 := fun i hi => by omega
  refine ⟨⟨⟨rfl, fun _ => ⟨ba, 0, rfl, fun i hi => ?_⟩⟩, Nat.le_refl _⟩, ⟨⟨rfl, fun _ => ⟨bb, 0, rfl, fun i hi => ?_⟩⟩, Nat.le_refl _⟩, ⟨⟨rfl, fun h => absurd h (Nat.lt_irrefl 0)⟩, Nat.le_refl _⟩, ⟨⟨rfl, fun _ => ⟨bo, 0, rfl, fun i hi => ?_⟩⟩, Nat.le_refl _⟩, ⟨⟨rfl, fun h => absurd h (Nat.lt_irrefl 0)⟩, Nat.le_refl _⟩, ⟨⟨rfl, fun _ => ⟨bm, 0, rfl, fun i hi => ?_⟩⟩, Nat.le_refl _⟩, ?_⟩
  · have := one i hi; subst this; exact ha.cell rfl
  · have := one i hi; subst this; exact hb.cell rfl
  · have := one i hi; subst this; exact ho.cell rfl
  · have := one i hi; subst this
    exact ⟨_, _, _, hm.cell rfl, rfl, fun h => absurd h (Nat.lt_irrefl 0)⟩
  · intro r hr x hx
    have hr : r ∈ [([] : List Int)] := hr
    rw [List.mem_singleton] at hr
    subst hr; simp at hx
theorem blkOne {w : World} {ba bb bo be bm : Nat} (ha : Blk w ba #[.string sA] 9) (hb : Blk w bb #[.string sA, .string s7] 9) (ho : Blk w bo #[.int .i64 1, .int .i64 1] 3) (hm : Blk w bm #[.slice (some ⟨be, 0, none⟩) 0 0] 29) :
    InG w ⟨(some ⟨ba, 0, none⟩, 1, 1), (some ⟨bb, 0, none⟩, 2, 2), (none, 0, 0), (some ⟨bo, 0, none⟩, 2, 2), (none, 0, 0), (some ⟨bm, 0, none⟩, 1, 1)⟩ gOne := by
  have one : ∀ i, i < 1 → i = 0 := fun i hi => by omega
  have two : ∀ i, i < 2 → i = 0 ∨ i = 1 := fun i hi => by omega
  refine ⟨⟨⟨rfl, fun _ => ⟨ba, 0, rfl, fun i hi => ?_⟩⟩, Nat.le_refl _⟩, ⟨⟨rfl, fun _ => ⟨bb, 0, rfl, fun i hi => ?_⟩⟩, Nat.le_refl _⟩, ⟨⟨rfl, fun h => absurd h (Nat.lt_irrefl 0)⟩, Nat.le_refl _⟩, ⟨⟨rfl, fun _ => ⟨bo, 0, rfl, fun i hi => ?_⟩⟩, Nat.le_refl _⟩, ⟨⟨rfl, fun h => absurd h (Nat.lt_irrefl 0)⟩, Nat.le_refl _⟩, ⟨⟨rfl, fun _ => ⟨bm, 0, rfl, fun i hi => ?_⟩⟩, Nat.le_refl _⟩, ?_⟩
  · have := one i hi; subst this; exact ha.cell rfl
  · rcases two i hi with rfl | rfl
    · exact hb.cell rfl
    · exact hb.cell rfl
  · rcases two i hi with rfl | rfl
    · exact ho.cell rfl
    · exact ho.cell rfl
  · have := one i hi; subst this
    exact ⟨_, _, _, hm.cell rfl, rfl, fun h => absurd h (Nat.lt_irrefl 0)⟩
  · intro r hr x hx
    have hr : r ∈ [([] : List Int)] := hr
    rw [List.mem_singleton] at hr
    subst hr; simp at hx
theorem num_notin {n : Nat} {b : UInt8} (hb : 58 ≤ b.toNat) : ¬ (⟨#[b]⟩ : ByteArray) ∈ numL n := by
  intro h
  obtain ⟨q, _, hq⟩ := numL_mem.1 h
  exact dg_ne hb hq
theorem of_numL {n : Nat} (h : n < 1048576) : IX.of (numL n) (dg n) = numL (n + 1) := by
  have h0 : IX.num (numL n) (dg n) = 0 := num_zero.2 fun hm => by
    obtain ⟨q, hq, he⟩ := numL_mem.1 hm
    have := dg_inj he
    omega
  unfold IX.of
  rw [if_pos h0, numL_len, if_neg (by omega), numL_succ]
theorem lawFull {w : World} (hp : Pow10 w) : Calls Tryd.prog 3 #[] w fun e w' => e = .returned (.bool true) ∧ Fr [] w w' := by
  refine Calls.mono (f3.calls (R := fun v w' => v = .bool true ∧ Fr [] w w') ?_) ?_
  · dsimp only [f3.VC]
    refine Calls.mono (awake w) ?_
    rintro _ w1 ⟨rfl, f1⟩
    refine ⟨_, rfl, Calls.mono (NI.new ((St.start w).go f1)) ?_⟩
    rintro _ w2 ⟨x, rfl, hS⟩
    refine ⟨_, rfl, sel_of (fun h => by cases h) (fun _ => ?_)⟩
    obtain ⟨N, hN⟩ : ∃ N : Nat, N = 1048575 := ⟨_, rfl⟩
    refine ⟨fun z w' r => ∃ i : Nat, z = ((i + 1 : Nat) : Int) ∧ i + r = N ∧ St [] w w' [idxC x (numL i)], ⟨N, 0, rfl, Nat.zero_add N, hS⟩, ?_⟩
    clear hS
    rintro d z w3 r ⟨i, hz, hir, hS⟩
    have hS := hS
    refine sel_of (fun hd => ?_) (fun hd => ?_)
    · have hi : i < 1048575 := by have := of_decide_eq_true hd; omega
      rw [hz]
      refine Calls.mono (hS.step0 (itoaC (hp.fr hS.frame) _ (by omega) (by omega))) ?_
      clear hS
      rintro _ w4 ⟨rfl, hS⟩
      have e : (⟨(Lib.itoa ((i + 1 : Nat) : Int)).toArray⟩ : ByteArray) = dg i := by
        unfold dg
        rw [Lib.itoa_nonneg]
      rw [e]
      refine ⟨_, rfl, Calls.mono (NI.of hS 0 rfl (by rw [numL_len]; omega) (dg i)) ?_⟩
      clear hS
      rintro _ w5 ⟨rfl, hS⟩
      rw [inc (i + 1) 100000000 (by decide) (by omega)]
      rw [of_numL (by omega)] at hS
      exact ⟨_, rfl, rfl, r - 1, by omega, i + 1, rfl, by omega, hS⟩
    · have hi : i = 1048575 := by have := of_decide_eq_false hd; omega
      have hL : (numL i).length = 1048575 := by rw [numL_len, hi]
      have hA : ¬ sA ∈ numL i := num_notin (by decide)
      have hB : ¬ sB ∈ numL i := num_notin (by decide)
      have h7 : s7 ∈ numL i := numL_mem.2 ⟨6, by omega, dg_7⟩
      clear hd hi
      generalize numL i = L at *
      have hT := hS.alloc #[.string ⟨#[97]⟩] 9
      generalize World.alloc w3 (.cells #[.string ⟨#[97]⟩] 9) = w6 at *
      generalize w3.heap.size = ba at *
      have hT := hT.alloc #[.string ⟨#[98]⟩] 9
      generalize World.alloc w6 (.cells #[.string ⟨#[98]⟩] 9) = w7 at *
      generalize w6.heap.size = bb at *
      have hT := hT.alloc #[.int .i64 1] 3
      generalize World.alloc w7 (.cells #[.int .i64 1] 3) = w8 at *
      generalize w7.heap.size = bo at *
      have hT := hT.alloc #[] 59
      generalize World.alloc w8 (.cells #[] 59) = w9 at *
      generalize w8.heap.size = be at *
      have hT := hT.alloc #[.slice (some ⟨be, 0, none⟩) 0 0] 29
      generalize World.alloc w9 (.cells #[.slice (some ⟨be, 0, none⟩) 0 0] 29) = w10 at *
      generalize w9.heap.size = bm at *
      have hT := hT.alloc #[.slice none 0 0, .slice none 0 0, .slice none 0 0, .slice none 0 0, .slice none 0 0, .slice none 0 0] 32
      have hU := hT.over 0 rfl [.slice (some ⟨ba, 0, none⟩) 1 1, .slice (some ⟨bb, 0, none⟩) 1 1, .slice none 0 0, .slice (some ⟨bo, 0, none⟩) 1 1, .slice none 0 0, .slice (some ⟨bm, 0, none⟩) 1 1] rfl
      refine ⟨(hT.blk 0 rfl).can (by decide), ?_⟩
      generalize setCs (World.alloc w10 (.cells #[.slice none 0 0, .slice none 0 0, .slice none 0 0, .slice none 0 0, .slice none 0 0, .slice none 0 0] 32)) w10.heap.size 0 _ = w12 at *
      generalize w10.heap.size = bg at *
      clear hT hS
      have hU : St [] w w12 [Chunk.blk bg #[.slice (some ⟨ba, 0, none⟩) 1 1, .slice (some ⟨bb, 0, none⟩) 1 1, .slice none 0 0, .slice (some ⟨bo, 0, none⟩) 1 1, .slice none 0 0, .slice (some ⟨bm, 0, none⟩) 1 1] 32, Chunk.blk bm #[.slice (some ⟨be, 0, none⟩) 0 0] 29, Chunk.blk be #[] 59, Chunk.blk bo #[.int .i64 1] 3, Chunk.blk bb #[.string sB] 9, Chunk.blk ba #[.string sA] 9, idxC x L] := hU
      have hU := (hU.sel [1, 3, 4, 5, 0, 6] (by decide) [Chunk.blk bm #[.slice (some ⟨be, 0, none⟩) 0 0] 29, Chunk.blk bo #[.int .i64 1] 3, Chunk.blk bb #[.string sB] 9, Chunk.blk ba #[.string sA] 9, Chunk.blk bg #[.slice (some ⟨ba, 0, none⟩) 1 1, .slice (some ⟨bb, 0, none⟩) 1 1, .slice none 0 0, .slice (some ⟨bo, 0, none⟩) 1 1, .slice none 0 0, .slice (some ⟨bm, 0, none⟩) 1 1] 32, idxC x L] rfl).join.join.join.keep 0 rfl (fun w => InG w ⟨(some ⟨ba, 0, none⟩, 1, 1), (some ⟨bb, 0, none⟩, 1, 1), (none, 0, 0), (some ⟨bo, 0, none⟩, 1, 1), (none, 0, 0), (some ⟨bm, 0, none⟩, 1, 1)⟩ gTwo) (by
        rintro F w ⟨_, _, rfl, ⟨_, _, rfl, ⟨_, _, rfl, k1, k2, _⟩, k3, _⟩, k4, _⟩
        exact blkTwo (be := be) k4.2 k3.2 k2.2 k1.2)
      have hT := hU.alloc #[.string ⟨#[97]⟩] 9
      generalize World.alloc w12 (.cells #[.string ⟨#[97]⟩] 9) = w13 at *
      generalize w12.heap.size = ca at *
      have hT := hT.alloc #[.string ⟨#[97]⟩, .string ⟨#[55]⟩] 9
      generalize World.alloc w13 (.cells #[.string ⟨#[97]⟩, .string ⟨#[55]⟩] 9) = w14 at *
      generalize w13.heap.size = cb at *
      have hT := hT.alloc #[.int .i64 1, .int .i64 1] 3
      generalize World.alloc w14 (.cells #[.int .i64 1, .int .i64 1] 3) = w15 at *
      generalize w14.heap.size = co at *
      have hT := hT.alloc #[] 59
      generalize World.alloc w15 (.cells #[] 59) = w16 at *
      generalize w15.heap.size = ce at *
      have hT := hT.alloc #[.slice (some ⟨ce, 0, none⟩) 0 0] 29
      generalize World.alloc w16 (.cells #[.slice (some ⟨ce, 0, none⟩) 0 0] 29) = w17 at *
      generalize w16.heap.size = cm at *
      have hT := hT.alloc #[.slice none 0 0, .slice none 0 0, .slice none 0 0, .slice none 0 0, .slice none 0 0, .slice none 0 0] 32
      have hV := hT.over 0 rfl [.slice (some ⟨ca, 0, none⟩) 1 1, .slice (some ⟨cb, 0, none⟩) 2 2, .slice none 0 0, .slice (some ⟨co, 0, none⟩) 2 2, .slice none 0 0, .slice (some ⟨cm, 0, none⟩) 1 1] rfl
      refine ⟨(hT.blk 0 rfl).can (by decide), ?_⟩
      generalize setCs (World.alloc w17 (.cells #[.slice none 0 0, .slice none 0 0, .slice none 0 0, .slice none 0 0, .slice none 0 0, .slice none 0 0] 32)) w17.heap.size 0 _ = w19 at *
      generalize w17.heap.size = cg at *
      clear hT hU
      have hV := (hV.sel [1, 3, 4, 5, 0, 6, 7, 8] (by decide) [Chunk.blk cm #[.slice (some ⟨ce, 0, none⟩) 0 0] 29, Chunk.blk co #[.int .i64 1, .int .i64 1] 3, Chunk.blk cb #[.string sA, .string s7] 9, Chunk.blk ca #[.string sA] 9, Chunk.blk cg #[.slice (some ⟨ca, 0, none⟩) 1 1, .slice (some ⟨cb, 0, none⟩) 2 2, .slice none 0 0, .slice (some ⟨co, 0, none⟩) 2 2, .slice none 0 0, .slice (some ⟨cm, 0, none⟩) 1 1] 32,
        Chunk.keep (fun w => InG w ⟨(some ⟨ba, 0, none⟩, 1, 1), (some ⟨bb, 0, none⟩, 1, 1), (none, 0, 0), (some ⟨bo, 0, none⟩, 1, 1), (none, 0, 0), (some ⟨bm, 0, none⟩, 1, 1)⟩ gTwo), Chunk.blk bg #[.slice (some ⟨ba, 0, none⟩) 1 1, .slice (some ⟨bb, 0, none⟩) 1 1, .slice none 0 0, .slice (some ⟨bo, 0, none⟩) 1 1, .slice none 0 0, .slice (some ⟨bm, 0, none⟩) 1 1] 32, idxC x L] rfl).join.join.join.keep 0 rfl (fun w => InG w ⟨(some ⟨ca, 0, none⟩, 1, 1), (some ⟨cb, 0, none⟩, 2, 2), (none, 0, 0), (some ⟨co, 0, none⟩, 2, 2), (none, 0, 0), (some ⟨cm, 0, none⟩, 1, 1)⟩ gOne) (by
        rintro F w ⟨_, _, rfl, ⟨_, _, rfl, ⟨_, _, rfl, k1, k2, _⟩, k3, _⟩, k4, _⟩
        exact blkOne (be := ce) k4.2 k3.2 k2.2 k1.2)
      obtain ⟨p1, hp1⟩ : ∃ p1 : World → Prop, p1 = fun w => InG w ⟨(some ⟨ca, 0, none⟩, 1, 1), (some ⟨cb, 0, none⟩, 2, 2), (none, 0, 0), (some ⟨co, 0, none⟩, 2, 2), (none, 0, 0), (some ⟨cm, 0, none⟩, 1, 1)⟩ gOne := ⟨_, rfl⟩
      obtain ⟨p2, hp2⟩ : ∃ p2 : World → Prop, p2 = fun w => InG w ⟨(some ⟨ba, 0, none⟩, 1, 1), (some ⟨bb, 0, none⟩, 1, 1), (none, 0, 0), (some ⟨bo, 0, none⟩, 1, 1), (none, 0, 0), (some ⟨bm, 0, none⟩, 1, 1)⟩ gTwo := ⟨_, rfl⟩
      have hS : St [] w w19 [Chunk.keep p1, Chunk.blk cg #[.slice (some ⟨ca, 0, none⟩) 1 1, .slice (some ⟨cb, 0, none⟩) 2 2, .slice none 0 0, .slice (some ⟨co, 0, none⟩) 2 2, .slice none 0 0, .slice (some ⟨cm, 0, none⟩) 1 1] 32, Chunk.keep p2, Chunk.blk bg #[.slice (some ⟨ba, 0, none⟩) 1 1, .slice (some ⟨bb, 0, none⟩) 1 1, .slice none 0 0, .slice (some ⟨bo, 0, none⟩) 1 1, .slice none 0 0, .slice (some ⟨bm, 0, none⟩) 1 1] 32, idxC x L] := by rw [hp1, hp2]; exact hV
      clear hV
      refine ⟨_, _, _, (hS.blk 3 rfl).cell rfl, _, _, _, (hS.blk 3 rfl).cell rfl, _, _, _, (hS.blk 3 rfl).cell rfl, _, _, _, (hS.blk 3 rfl).cell rfl, _, _, _, (hS.blk 3 rfl).cell rfl, _, _, _, (hS.blk 3 rfl).cell rfl, ?_⟩
      have hlay := layCs hS 4 2 (by decide) rfl rfl (v := ⟨(some ⟨ba, 0, none⟩, 1, 1), (some ⟨bb, 0, none⟩, 1, 1), (none, 0, 0), (some ⟨bo, 0, none⟩, 1, 1), (none, 0, 0), (some ⟨bm, 0, none⟩, 1, 1)⟩) (g := gTwo) (fun w h => by rw [hp2] at h; exact h) (by omega) ⟨show (1 : Nat) ≤ 1100000 by decide, show (1 : Nat) ≤ 1100000 by decide, show (0 : Nat) ≤ 1100000 by decide⟩ 1
      rw [full_two hL hA hB h7] at hlay
      refine Calls.mono hlay ?_
      clear hS hlay
      rintro _ w20 ⟨A1, n1, c1, rfl, hS⟩
      have hn1 : n1 = 0 := hS.lsLen 0 rfl
      refine ⟨_, _, _, _, rfl, Calls.mono (NI.find hS 5 rfl sA) ?_⟩
      clear hS
      rintro _ w21 ⟨rfl, hS⟩
      rw [num_zero.2 hA]
      refine ⟨_, _, rfl, Calls.mono (lenE (idxAt hS 5 rfl)) ?_⟩
      rintro _ w22 ⟨rfl, rfl⟩
      refine ⟨_, rfl, ?_⟩
      refine ⟨_, _, _, (hS.blk 2 rfl).cell rfl, _, _, _, (hS.blk 2 rfl).cell rfl, _, _, _, (hS.blk 2 rfl).cell rfl, _, _, _, (hS.blk 2 rfl).cell rfl, _, _, _, (hS.blk 2 rfl).cell rfl, _, _, _, (hS.blk 2 rfl).cell rfl, ?_⟩
      obtain ⟨q1, q2, q3⟩ := full_one hL hA hB h7
      have hlay := layCs hS 5 1 (by decide) rfl rfl (v := ⟨(some ⟨ca, 0, none⟩, 1, 1), (some ⟨cb, 0, none⟩, 2, 2), (none, 0, 0), (some ⟨co, 0, none⟩, 2, 2), (none, 0, 0), (some ⟨cm, 0, none⟩, 1, 1)⟩) (g := gOne) (fun w h => by rw [hp1] at h; exact h) (by show L.length ≤ 1048576; omega) ⟨show (1 : Nat) ≤ 1100000 by decide, show (2 : Nat) ≤ 1100000 by decide, show (0 : Nat) ≤ 1100000 by decide⟩ 1
      generalize layP 1 gOne L = P1 at *
      obtain ⟨W1, e1, l1⟩ := P1
      dsimp only at *
      subst q1 q3
      refine Calls.mono hlay ?_
      clear hS hlay
      rintro _ w23 ⟨A2, n2, c2, rfl, hS⟩
      have hn2 : n2 = W1.length := hS.lsLen 0 rfl
      refine ⟨_, _, _, _, rfl, ?_⟩
      have hS : St [] w w23 [ints (.slice A2 n2 c2) W1, ints (.slice A1 n1 c1) [], Chunk.keep p1, Chunk.blk cg #[.slice (some ⟨ca, 0, none⟩) 1 1, .slice (some ⟨cb, 0, none⟩) 2 2, .slice none 0 0, .slice (some ⟨co, 0, none⟩) 2 2, .slice none 0 0, .slice (some ⟨cm, 0, none⟩) 1 1] 32, Chunk.keep p2, Chunk.blk bg #[.slice (some ⟨ba, 0, none⟩) 1 1, .slice (some ⟨bb, 0, none⟩) 1 1, .slice none 0 0, .slice (some ⟨bo, 0, none⟩) 1 1, .slice none 0 0, .slice (some ⟨bm, 0, none⟩) 1 1] 32, idxC x (L ++ [sA])] := hS
      refine ⟨_, _, _, (hS.blk 5 rfl).cell rfl, _, _, _, (hS.blk 5 rfl).cell rfl, _, _, _, (hS.blk 5 rfl).cell rfl, _, _, _, (hS.blk 5 rfl).cell rfl, _, _, _, (hS.blk 5 rfl).cell rfl, _, _, _, (hS.blk 5 rfl).cell rfl, ?_⟩
      have hL2 : (L ++ [sA]).length = 1048576 := by rw [List.length_append, hL]; rfl
      have hlay := layCs hS 6 4 (by decide) rfl rfl (v := ⟨(some ⟨ba, 0, none⟩, 1, 1), (some ⟨bb, 0, none⟩, 1, 1), (none, 0, 0), (some ⟨bo, 0, none⟩, 1, 1), (none, 0, 0), (some ⟨bm, 0, none⟩, 1, 1)⟩) (g := gTwo) (fun w h => by rw [hp2] at h; exact h) (by omega) ⟨show (1 : Nat) ≤ 1100000 by decide, show (1 : Nat) ≤ 1100000 by decide, show (0 : Nat) ≤ 1100000 by decide⟩ 1
      rw [full_two2 hL hA hB h7] at hlay
      refine Calls.mono hlay ?_
      clear hS hlay
      rintro _ w24 ⟨A3, n3, c3, rfl, hS⟩
      have hn3 : n3 = 0 := hS.lsLen 0 rfl
      have hB2 : ¬ sB ∈ L ++ [sA] := by
        intro h
        rcases List.mem_append.1 h with h | h
        · exact hB h
        · rw [List.mem_singleton] at h
          revert h; decide +kernel
      refine ⟨_, _, _, _, rfl, Calls.mono (NI.find hS 7 rfl sB) ?_⟩
      clear hS
      rintro _ w25 ⟨rfl, hS⟩
      rw [num_zero.2 hB2]
      refine ⟨_, _, rfl, ?_⟩
      refine ⟨_, _, _, (hS.blk 4 rfl).cell rfl, _, _, _, (hS.blk 4 rfl).cell rfl, _, _, _, (hS.blk 4 rfl).cell rfl, _, _, _, (hS.blk 4 rfl).cell rfl, _, _, _, (hS.blk 4 rfl).cell rfl, _, _, _, (hS.blk 4 rfl).cell rfl, ?_⟩
      obtain ⟨r1, r2, r3⟩ := full_one2 hL hA hB h7
      have hlay := layCs hS 7 3 (by decide) rfl rfl (v := ⟨(some ⟨ca, 0, none⟩, 1, 1), (some ⟨cb, 0, none⟩, 2, 2), (none, 0, 0), (some ⟨co, 0, none⟩, 2, 2), (none, 0, 0), (some ⟨cm, 0, none⟩, 1, 1)⟩) (g := gOne) (fun w h => by rw [hp1] at h; exact h) (by show (L ++ [sA]).length ≤ 1048576; omega) ⟨show (1 : Nat) ≤ 1100000 by decide, show (2 : Nat) ≤ 1100000 by decide, show (0 : Nat) ≤ 1100000 by decide⟩ 2
      generalize layP 2 gOne (L ++ [sA]) = P2 at *
      obtain ⟨W2, e2, l2⟩ := P2
      dsimp only at *
      subst r1 r3
      refine Calls.mono hlay ?_
      clear hS hlay
      rintro _ w26 ⟨A4, n4, c4, rfl, hS⟩
      have hn4 : n4 = W2.length := hS.lsLen 0 rfl
      refine ⟨_, _, _, _, rfl, ?_⟩
      refine sel_of (fun _ => sel_of (fun _ => sel_of (fun _ => sel_of (fun _ => sel_of (fun _ => sel_of (fun _ => sel_of (fun _ => sel_of (fun _ => sel_of (fun _ => sel_of (fun _ => sel_of (fun _ => sel_of (fun _ => ?_) (fun h => by rw [hn4, r2] at h; simp at h)) (fun h => by simp at h)) (fun h => by simp at h)) (fun h => by simp at h)) (fun h => by rw [hn3] at h; simp at h)) (fun h => by rw [hn2, q2] at h; simp at h)) (fun h => by simp at h)) (fun h => by rw [hL] at h; simp at h)) (fun h => by simp at h)) (fun h => by simp at h)) (fun h => by rw [hn1] at h; simp at h)) (fun h => by cases h)
      refine Calls.mono (lenE (idxAt hS 8 rfl)) ?_
      rintro _ w27 ⟨rfl, rfl⟩
      refine ⟨_, rfl, ?_, hS.frame⟩
      rw [hL2]; rfl
  · rintro e w' ⟨v, rfl, rfl, h⟩; exact ⟨rfl, h⟩
end PG
end Go.Proofs.YtjmlfknogjaemaaDoor
