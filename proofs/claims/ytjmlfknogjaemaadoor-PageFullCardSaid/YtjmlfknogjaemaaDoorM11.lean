/- Page: lists that are read: names that stand twice, classes, masks. -/
import Derived.Test.YtjmlfknogjaemaaDoorM9
import Derived.Test.YtjmlfknogjaemaaDoorM10
import Derived.Test.YtjmlfknogjaemaaDoorM7
import Derived.Test.YtjmlfknogjaemaaDoorM4
import Derived.Test.YtjmlfknogjaemaaDoorProg
import Derived.KernelRfl
set_option linter.unusedVariables false
set_option linter.unusedSimpArgs false
set_option maxRecDepth 10000
namespace Go.Proofs.YtjmlfknogjaemaaDoor
open Go Go.Proofs.YtjmlfknogjaemaaDoor.Vc
namespace PG
open Vc.PG NI
def InU (w : World) (A : Option Addr) (n : Nat) (l : List Int) : Prop := n = l.length ∧ (0 < n → ∃ b o, A = some ⟨b, o, none⟩ ∧ ∀ i, i < n → w.cell? ⟨b, o + i, none⟩ = some (.int .u16 (l.getD i 0)))
theorem InU.need {w : World} {A : Option Addr} {n : Nat} {W : List Int} (h : InU w A n W) {i : Int} {q : Nat} (h0 : i = (q : Int)) (h1 : q < n) {K : Int → Prop} (hk : K (W.getD q 0)) :
    needPtr A fun b o => ∃ x, w.cell? ⟨b, o + i.toNat * 1, none⟩ = some (.int .u16 x) ∧ K x := by
  obtain ⟨b, o, rfl, h2⟩ := h.2 (by omega)
  refine needPtr_of rfl ⟨_, ?_, hk⟩
  rw [Nat.mul_one, h0, Int.toNat_natCast]
  exact h2 q h1
theorem InX.need {w : World} {A : Option Addr} {n : Nat} {W : List ByteArray} (h : InX w A n W) {i : Int} {q : Nat} (h0 : i = (q : Int)) (h1 : q < n) {K : ByteArray → Prop} (hk : K (W.getD q ByteArray.empty)) :
    needPtr A fun b o => ∃ x, w.cell? ⟨b, o + i.toNat * 1, none⟩ = some (.string x) ∧ K x := by
  obtain ⟨b, o, rfl, h2⟩ := h.2 (by omega)
  refine needPtr_of rfl ⟨_, ?_, hk⟩
  rw [Nat.mul_one, h0, Int.toNat_natCast]
  exact h2 q h1
theorem InX.take {w : World} {A : Option Addr} {n : Nat} {W : List ByteArray} (h : InX w A n W) {q : Nat} (hq : q ≤ n) : InX w A q (W.take q) := by
  have hl := h.1
  refine ⟨by simp; omega, fun hn => ?_⟩
  obtain ⟨b, o, rfl, h2⟩ := h.2 (by omega)
  refine ⟨b, o, rfl, fun i hi => ?_⟩
  rw [h2 i (by omega)]
  simp [List.getD_eq_getElem?_getD, hi]
theorem inc (i n : Nat) (hn : n ≤ 1000000000) (hi : i ≤ n) : IntKind.i64.wrap ((i : Int) + 1) = ((i + 1 : Nat) : Int) := by rw [i64_id (by omega) (by omega)]; omega
theorem twiceR {w : World} {A : Option Addr} {n c : Nat} {l : List ByteArray} (h : InX w A n l) (hn : n ≤ 1000000000) : Calls Tryd.prog 32 #[.slice A n c] w fun e w' => e = .returned (.bool (decide (¬ l.Nodup))) ∧ Fr [] w w' := by
  refine Calls.mono (f32.calls (R := fun v w' => v = .bool (decide (¬ l.Nodup)) ∧ Fr [] w w') ?_) ?_
  · dsimp only [f32.VC]
    have hl := h.1
    refine ⟨fun x w' r => Fr [] w w' ∧ ∃ i : Nat, x = (i : Int) ∧ i + r = n ∧ ∀ a b, a < b → b < i → l.getD a ByteArray.empty ≠ l.getD b ByteArray.empty, ⟨n, Fr.refl _ _, 0, rfl, by omega, fun a b _ hb => by omega⟩, ?_⟩
    rintro d x w1 r ⟨hf, i, rfl, hir, hno⟩
    refine sel_of (fun hd => ?_) (fun hd => ?_)
    · have hi : i < n := by have := of_decide_eq_true hd; omega
      refine ⟨fun x w' q => Fr [] w w' ∧ ∃ j : Nat, x = (j : Int) ∧ j + q = i ∧ ∀ a, a < j → l.getD a ByteArray.empty ≠ l.getD i ByteArray.empty, ⟨i, hf, 0, rfl, by omega, fun a ha => by omega⟩, ?_⟩
      rintro d x w2 q ⟨hf2, j, rfl, hjq, hno2⟩
      refine sel_of (fun hd => ?_) (fun hd => ?_)
      · have hj : j < i := by have := of_decide_eq_true hd; omega
        obtain ⟨b, o, rfl, hc⟩ := h.2 (by omega)
        have cc := fun k hk => hf2.cell (hc k hk)
        refine ⟨by omega, by omega, needPtr_of rfl ⟨by omega, by omega, needPtr_of rfl ⟨_, by rw [Nat.mul_one, Int.toNat_natCast]; exact cc j (by omega), _, by rw [Nat.mul_one, Int.toNat_natCast]; exact cc i (by omega), sel_of (fun hs => ?_) (fun hs => ?_)⟩⟩⟩
        · have hs : l.getD j ByteArray.empty = l.getD i ByteArray.empty := of_decide_eq_true hs
          refine ⟨?_, hf2.drew⟩
          rw [decide_eq_true]
          intro hnd
          exact (nodup_getD ByteArray.empty l).1 hnd j i hj (by omega) hs
        · have hs : l.getD j ByteArray.empty ≠ l.getD i ByteArray.empty := of_decide_eq_false hs
          rw [inc j n hn (by omega)]
          refine ⟨rfl, q - 1, by omega, hf2.drew, j + 1, rfl, by omega, fun a ha => ?_⟩
          rcases Nat.lt_or_ge a j with h1 | h1
          · exact hno2 a h1
          · have : a = j := by omega
            subst this; exact hs
      · have hj : j = i := by have := of_decide_eq_false hd; omega
        rw [inc i n hn (by omega)]
        refine ⟨rfl, r - 1, by omega, hf2, i + 1, rfl, by omega, fun a b hab hb => ?_⟩
        rcases Nat.lt_or_ge b i with h1 | h1
        · exact hno a b hab h1
        · have : b = i := by omega
          subst this; exact hno2 a (by omega)
    · have hi : i = n := by have := of_decide_eq_false hd; omega
      refine ⟨?_, hf⟩
      rw [decide_eq_false]
      exact fun hnd => hnd ((nodup_getD ByteArray.empty l).2 fun a b hab hb => hno a b hab (by omega))
  · rintro e w' ⟨v, rfl, rfl, h⟩; exact ⟨rfl, h⟩
theorem indexS {w : World} {A : Option Addr} {n c : Nat} {l : List ByteArray} (h : InX w A n l) (hn : n ≤ 1000000000) (s : ByteArray) : Calls Tryd.prog 74 #[.slice A n c, .string s] w fun e w' => e = .returned (.int .i64 (idxI l s)) ∧ w' = w := by
  refine Calls.mono (f74.calls (R := fun v w' => v = .int .i64 (idxI l s) ∧ w' = w) ?_) ?_
  · dsimp only [f74.VC]
    have hl := h.1
    refine ⟨fun x w' r => w' = w ∧ ∃ i : Nat, x = (i : Int) ∧ i + r = n ∧ ∀ a, a < i → l.getD a ByteArray.empty ≠ s, ⟨n, rfl, 0, rfl, by omega, fun a ha => by omega⟩, ?_⟩
    rintro d x w1 r ⟨rfl, i, rfl, hir, hno⟩
    refine sel_of (fun hd => ?_) (fun hd => ?_)
    · have hi : i < n := by have := of_decide_eq_true hd; omega
      refine ⟨by omega, by omega, InX.need h rfl hi (sel_of (fun hs => ?_) (fun hs => ?_))⟩
      · have hs : s = l.getD i ByteArray.empty := of_decide_eq_true hs
        exact ⟨by rw [idxI_some ByteArray.empty (by omega) hno hs.symm], rfl⟩
      · have hs : s ≠ l.getD i ByteArray.empty := of_decide_eq_false hs
        rw [inc i n hn (by omega)]
        refine ⟨rfl, r - 1, by omega, rfl, i + 1, rfl, by omega, fun a ha => ?_⟩
        rcases Nat.lt_or_ge a i with h1 | h1
        · exact hno a h1
        · have : a = i := by omega
          subst this; exact fun h => hs h.symm
    · have hi : i = n := by have := of_decide_eq_false hd; omega
      exact ⟨by rw [idxI_none ByteArray.empty fun q hq => hno q (by omega)], rfl⟩
  · rintro e w' ⟨v, rfl, rfl, h⟩; exact ⟨rfl, h⟩
theorem containsC {w : World} {A : Option Addr} {n c : Nat} {l : List ByteArray} (h : InX w A n l) (hn : n ≤ 1000000000) (s : ByteArray) : Calls Tryd.prog 65 #[.slice A n c, .string s] w fun e w' => e = .returned (.bool (memB l s)) ∧ w' = w := by
  refine Calls.mono (f65.calls (R := fun v w' => v = .bool (memB l s) ∧ w' = w) ?_) ?_
  · dsimp only [f65.VC]
    refine Calls.mono (indexS h hn s) ?_
    rintro _ w1 ⟨rfl, rfl⟩
    exact ⟨_, rfl, by rw [idxI_mem], rfl⟩
  · rintro e w' ⟨v, rfl, rfl, h⟩; exact ⟨rfl, h⟩
theorem onceC {w : World} {A : Option Addr} {n c : Nat} {l : List ByteArray} (h : InX w A n l) (hc : n ≤ c) (hn : n ≤ 1000000000) : Calls Tryd.prog 49 #[.slice A n c] w fun e w' => e = .returned (.bool (decide l.Nodup)) ∧ w' = w := by
  refine Calls.mono (f49.calls (R := fun v w' => v = .bool (decide l.Nodup) ∧ w' = w) ?_) ?_
  · dsimp only [f49.VC]
    have hl := h.1
    refine ⟨fun x w' r => w' = w ∧ ∃ i : Nat, x = (i : Int) ∧ i + r = n ∧ ∀ a b, a < b → b < i → l.getD a ByteArray.empty ≠ l.getD b ByteArray.empty, ⟨n, rfl, 0, rfl, by omega, fun a b _ hb => by omega⟩, ?_⟩
    rintro d x w1 r ⟨rfl, i, rfl, hir, hno⟩
    refine sel_of (fun hd => ?_) (fun hd => ?_)
    · have hi : i < n := by have := of_decide_eq_true hd; omega
      refine ⟨by omega, by omega, InX.need h rfl hi ⟨by omega, by omega, ?_⟩⟩
      rw [Int.toNat_natCast]
      refine Calls.mono (containsC (InX.take h (by omega)) (by omega) _) ?_
      rintro _ w2 ⟨rfl, rfl⟩
      have hm : l.getD i ByteArray.empty ∈ l.take i ↔ ∃ a, a < i ∧ l.getD a ByteArray.empty = l.getD i ByteArray.empty := by
        rw [mem_getD ByteArray.empty]
        constructor
        · rintro ⟨a, ha, he⟩
          simp only [List.length_take] at ha
          refine ⟨a, by omega, ?_⟩
          rw [← he]
          simp [List.getD_eq_getElem?_getD, show a < i by omega]
        · rintro ⟨a, ha, he⟩
          refine ⟨a, by simp only [List.length_take]; omega, ?_⟩
          rw [← he]
          simp [List.getD_eq_getElem?_getD, ha]
      refine ⟨_, rfl, sel_of (fun hs => ?_) (fun hs => ?_)⟩
      · obtain ⟨a, ha, he⟩ := hm.1 ((memB_iff _ _).1 hs)
        refine ⟨?_, rfl⟩
        rw [decide_eq_false]
        exact fun hnd => (nodup_getD ByteArray.empty l).1 hnd a i ha (by omega) he
      · have hs : ¬ l.getD i ByteArray.empty ∈ l.take i := fun hh => by rw [(memB_iff _ _).2 hh] at hs; cases hs
        rw [inc i n hn (by omega)]
        refine ⟨rfl, r - 1, by omega, rfl, i + 1, rfl, by omega, fun a b hab hb => ?_⟩
        rcases Nat.lt_or_ge b i with h1 | h1
        · exact hno a b hab h1
        · have : b = i := by omega
          subst this
          exact fun he => hs (hm.2 ⟨a, by omega, he⟩)
    · have hi : i = n := by have := of_decide_eq_false hd; omega
      refine ⟨?_, rfl⟩
      rw [decide_eq_true]
      exact (nodup_getD ByteArray.empty l).2 fun a b hab hb => hno a b hab (by omega)
  · rintro e w' ⟨v, rfl, rfl, h⟩; exact ⟨rfl, h⟩
theorem greatR {w : World} {A : Option Addr} {n c : Nat} {l : List Int} (h : InW w A n l) (hn : n ≤ 1000000000) : Calls Tryd.prog 33 #[.slice A n c] w fun e w' => e = .returned (.tuple #[.int .i64 (((great l 0).getD 0 : Nat) : Int), .bool (great l 0).isSome]) ∧ w' = w := by
  refine Calls.mono (f33.calls (R := fun v w' => v = .tuple #[.int .i64 (((great l 0).getD 0 : Nat) : Int), .bool (great l 0).isSome] ∧ w' = w) ?_) ?_
  · dsimp only [f33.VC]
    have hl := h.1
    refine ⟨fun x y w' r => w' = w ∧ ∃ i m : Nat, y = (i : Int) ∧ x = (m : Int) ∧ i + r = n ∧ m ≤ i ∧ great (l.drop i) m = great l 0, ⟨n, rfl, 0, 0, rfl, rfl, by omega, by omega, by simp⟩, ?_⟩
    rintro d x y w1 r ⟨rfl, i, m, rfl, rfl, hir, hmi, hgo⟩
    refine sel_of (fun hd => ?_) (fun hd => ?_)
    · have hi : i < n := by have := of_decide_eq_true hd; omega
      rw [drop_cons 0 l i (by omega), great] at hgo
      refine ⟨by omega, by omega, h.need (Fr.refl _ _) rfl hi (sel_of (fun h1 => ?_) (fun h1 => ⟨by omega, by omega, h.need (Fr.refl _ _) rfl hi ?_⟩))⟩
      · rw [if_pos (.inl (of_decide_eq_true h1))] at hgo
        rw [← hgo]; exact ⟨rfl, rfl⟩
      · have h1 := of_decide_eq_false h1
        rw [i64_id (x := (m : Int) + 1) (by omega) (by omega)]
        refine sel_of (fun h2 => ?_) (fun h2 => ⟨by omega, by omega, h.need (Fr.refl _ _) rfl hi ?_⟩)
        · rw [if_pos (.inr (of_decide_eq_true h2))] at hgo
          rw [← hgo]; exact ⟨rfl, rfl⟩
        · have h2 := of_decide_eq_false h2
          rw [if_neg (by omega)] at hgo
          rw [inc i n hn (by omega)]
          refine sel_of (fun h3 => ⟨by omega, by omega, h.need (Fr.refl _ _) rfl hi ⟨rfl, r - 1, by omega, rfl, i + 1, (l.getD i 0).toNat, rfl, by omega, by omega, by omega, ?_⟩⟩) (fun h3 => ⟨rfl, r - 1, by omega, rfl, i + 1, m, rfl, rfl, by omega, by omega, ?_⟩)
          · have h3 := of_decide_eq_true h3
            rw [← hgo, show max m (l.getD i 0).toNat = (l.getD i 0).toNat by omega]
          · have h3 := of_decide_eq_false h3
            rw [← hgo, show max m (l.getD i 0).toNat = m by omega]
    · have hi : i = n := by have := of_decide_eq_false hd; omega
      rw [List.drop_of_length_le (by omega), great] at hgo
      rw [← hgo]; exact ⟨rfl, rfl⟩
  · rintro e w' ⟨v, rfl, rfl, h⟩; exact ⟨rfl, h⟩
theorem run_max (x y : Int) (w : World) : (Builtin.max_ #[3, 3] 3 #[.int .i64 x, .int .i64 y]).run Tryd.prog w = .ok (.int .i64 (max x y)) w := by
  simp only [Builtin.max_, List.foldlM, Builtin.max2]
  simp
  split <;> omega
theorem countC {w : World} {A : Option Addr} {n c : Nat} {l : List Int} (h : InW w A n l) (hn : n ≤ 1000000000) : Calls Tryd.prog 50 #[.slice A n c] w fun e w' => e = .returned (.tuple #[.int .i64 (((great l 0).getD 0 : Nat) : Int), .bool (great l 0).isSome]) ∧ w' = w := by
  refine Calls.mono (f50.calls (R := fun v w' => v = .tuple #[.int .i64 (((great l 0).getD 0 : Nat) : Int), .bool (great l 0).isSome] ∧ w' = w) ?_) ?_
  · dsimp only [f50.VC]
    have hl := h.1
    refine ⟨fun x y w' r => w' = w ∧ ∃ i m : Nat, y = (i : Int) ∧ x = (m : Int) ∧ i + r = n ∧ m ≤ i ∧ great (l.drop i) m = great l 0, ⟨n, rfl, 0, 0, rfl, rfl, by omega, by omega, by simp⟩, ?_⟩
    rintro d x y w1 r ⟨rfl, i, m, rfl, rfl, hir, hmi, hgo⟩
    refine sel_of (fun hd => ?_) (fun hd => ?_)
    · have hi : i < n := by have := of_decide_eq_true hd; omega
      rw [drop_cons 0 l i (by omega), great] at hgo
      refine ⟨by omega, by omega, h.need (Fr.refl _ _) rfl hi (sel_of (fun h1 => ?_) (fun h1 => ?_))⟩
      · rw [if_pos (.inl (of_decide_eq_true h1))] at hgo
        rw [← hgo]; exact ⟨rfl, rfl⟩
      · have h1 := of_decide_eq_false h1
        rw [i64_id (x := (m : Int) + 1) (by omega) (by omega)]
        refine sel_of (fun h2 => ?_) (fun h2 => ?_)
        · rw [if_pos (.inr (of_decide_eq_true h2))] at hgo
          rw [← hgo]; exact ⟨rfl, rfl⟩
        · have h2 := of_decide_eq_false h2
          rw [if_neg (by omega)] at hgo
          rw [inc i n hn (by omega)]
          exact ⟨_, _, run_max _ _ _, rfl, r - 1, by omega, rfl, i + 1, max m (l.getD i 0).toNat, rfl, by omega, by omega, by omega, hgo⟩
    · have hi : i = n := by have := of_decide_eq_false hd; omega
      rw [List.drop_of_length_le (by omega), great] at hgo
      rw [← hgo]; exact ⟨rfl, rfl⟩
  · rintro e w' ⟨v, rfl, rfl, h⟩; exact ⟨rfl, h⟩
/-- The greatest of a list of classes, as the library finds it. -/
theorem maxC {w : World} {A : Option Addr} {n c : Nat} {l : List Int} (h : InW w A n l) (hn : n ≤ 1000000000) (h0 : 0 < n) {m : Nat} (hg : great l 0 = some m) : Calls Tryd.prog 52 #[.slice A n c] w fun e w' => e = .returned (.int .i64 (m : Int)) ∧ w' = w := by
  refine Calls.mono (f52.calls (R := fun v w' => v = .int .i64 (m : Int) ∧ w' = w) ?_) ?_
  · dsimp only [f52.VC]
    have hl := h.1
    obtain ⟨b, o, rfl, hc⟩ := h.2 h0
    have e0 : great (l.drop 1) (l.getD 0 0).toNat = some m ∧ 1 ≤ l.getD 0 0 ∧ l.getD 0 0 ≤ 1 := by
      have hcons : l = l.getD 0 0 :: l.drop 1 := by
        have := drop_cons 0 l 0 (by omega)
        rwa [List.drop_zero] at this
      have : great (l.getD 0 0 :: l.drop 1) 0 = some m := by rw [← hcons]; exact hg
      rw [great] at this
      split at this
      · cases this
      · rename_i hx
        rw [show max 0 (l.getD 0 0).toNat = (l.getD 0 0).toNat by omega] at this
        exact ⟨this, by omega, by omega⟩
    refine sel_false (decide_eq_false (by omega)) ⟨by omega, by omega, needPtr_of rfl ⟨_, hc 0 h0, ?_⟩⟩
    refine ⟨fun x y w' r => w' = w ∧ ∃ i k : Nat, y = (i : Int) ∧ x = (k : Int) ∧ i + r = n ∧ k ≤ i ∧ great (l.drop i) k = some m, ⟨n - 1, rfl, 1, (l.getD 0 0).toNat, rfl, by omega, by omega, by omega, e0.1⟩, ?_⟩
    rintro d x y w1 r ⟨rfl, i, k, rfl, rfl, hir, hmi, hgo⟩
    refine sel_of (fun hd => ?_) (fun hd => ?_)
    · have hi : i < n := by have := of_decide_eq_true hd; omega
      rw [drop_cons 0 l i (by omega), great] at hgo
      split at hgo
      · cases hgo
      · rename_i hx
        rw [inc i n hn (by omega)]
        exact ⟨by omega, by omega, h.need (Fr.refl _ _) rfl hi ⟨_, _, run_max _ _ _, rfl, r - 1, by omega, rfl, i + 1, max k (l.getD i 0).toNat, rfl, by omega, by omega, by omega, hgo⟩⟩
    · have hi : i = n := by have := of_decide_eq_false hd; omega
      rw [List.drop_of_length_le (by omega), great] at hgo
      injection hgo with hgo
      rw [hgo]; exact ⟨rfl, rfl⟩
  · rintro e w' ⟨v, rfl, rfl, h⟩; exact ⟨rfl, h⟩
theorem equalR {w : World} {A B : Option Addr} {n c m d : Nat} {l k : List Int} (h : InU w A n l) (hk : InU w B m k) (hn : n ≤ 1000000000) : Calls Tryd.prog 35 #[.slice A n c, .slice B m d] w fun e w' => e = .returned (.bool (decide (l = k))) ∧ Fr [] w w' := by
  refine Calls.mono (f35.calls (R := fun v w' => v = .bool (decide (l = k)) ∧ Fr [] w w') ?_) ?_
  · dsimp only [f35.VC]
    have hl := h.1
    have hl2 := hk.1
    refine sel_of (fun hd => ?_) (fun hd => ?_)
    · have hd : n ≠ m := by
        have : ((n : Int) != (m : Int)) = true := hd
        rw [bne_iff_ne] at this
        omega
      refine ⟨?_, Fr.refl _ _⟩
      rw [decide_eq_false]
      rintro rfl; omega
    · have hd : n = m := by
        have : ((n : Int) != (m : Int)) = false := hd
        rw [bne_eq_false_iff_eq] at this
        omega
      refine ⟨fun x w' r => Fr [] w w' ∧ ∃ i : Nat, x = (i : Int) ∧ i + r = n ∧ ∀ a, a < i → l.getD a 0 = k.getD a 0, ⟨n, Fr.refl _ _, 0, rfl, by omega, fun a ha => by omega⟩, ?_⟩
      rintro d x w1 r ⟨hf, i, rfl, hir, hno⟩
      refine sel_of (fun hd => ?_) (fun hd => ?_)
      · have hi : i < n := by have := of_decide_eq_true hd; omega
        obtain ⟨b, o, rfl, hc⟩ := h.2 (by omega)
        obtain ⟨b', o', rfl, hc'⟩ := hk.2 (by omega)
        refine ⟨by omega, by omega, needPtr_of rfl ⟨by omega, by omega, needPtr_of rfl ⟨_, by rw [Nat.mul_one, Int.toNat_natCast]; exact hf.cell (hc i hi), _, by rw [Nat.mul_one, Int.toNat_natCast]; exact hf.cell (hc' i (by omega)), sel_of (fun hs => ?_) (fun hs => ?_)⟩⟩⟩
        · have hs : l.getD i 0 ≠ k.getD i 0 := bne_iff_ne.1 hs
          refine ⟨?_, hf.drew⟩
          rw [decide_eq_false]
          rintro rfl; exact hs rfl
        · have hs : l.getD i 0 = k.getD i 0 := bne_eq_false_iff_eq.1 hs
          rw [inc i n hn (by omega)]
          refine ⟨rfl, r - 1, by omega, hf.drew, i + 1, rfl, by omega, fun a ha => ?_⟩
          rcases Nat.lt_or_ge a i with h1 | h1
          · exact hno a h1
          · have : a = i := by omega
            subst this; exact hs
      · have hi : i = n := by have := of_decide_eq_false hd; omega
        refine ⟨?_, hf⟩
        rw [decide_eq_true]
        exact (ext_getD 0 l k).2 ⟨by omega, fun a ha => hno a (by omega)⟩
  · rintro e w' ⟨v, rfl, rfl, h⟩; exact ⟨rfl, h⟩
end PG
end Go.Proofs.YtjmlfknogjaemaaDoor
/- One thing more on a list of things of one cell. -/
set_option linter.unusedVariables false
set_option linter.unusedSimpArgs false
namespace Go.Proofs.YtjmlfknogjaemaaDoor.Vc
open Go
/-- A list of things of one cell. -/
abbrev Chunk.ls {α : Type} (enc : α → Value) (e : TypeId) (v : Value) (l : List α) : Chunk := Chunk.sl e 1 v (l.map fun a => [enc a])
theorem St.app {α : Type} {enc : α → Value} (henc : ∀ a, (enc a).oneCell' = true) {P : Program} {t ty e : TypeId} {ti : TypeInfo} {z : Value} (ht : P.underlying t = some (.slice e)) (hti : P.info? e = some ti) (hz : ti.zero = some z) (hsize : ti.size = 1) (hzs : z.cells.size = 1) (hb : ti.bytes ≤ 24)
    {S : List Nat} {w0 w : World} {L : List Chunk} (h : St S w0 w L) (i : Nat) {A : Option Addr} {n c : Nat} {l : List α} (hi : L[i]? = some (Chunk.ls enc e (.slice A n c) l)) (a : α) (hl : l.length ≤ 4000000) :
    ∃ g' cap' w', (Builtin.append_ #[t, t] ty #[.slice A n c, .slice (some ⟨w.heap.size, 0, Option.none⟩) 1 1]).run P (World.alloc w (.cells #[enc a] e)) = .ok (.slice (some ⟨g', 0, Option.none⟩) (l.length + 1) cap') w' ∧
      St S w0 w' (L.set i (Chunk.ls enc e (.slice (some ⟨g', 0, Option.none⟩) (l.length + 1) cap') (l ++ [a]))) := by
  have h2 := h.alloc #[enc a] e
  have el : (l.map fun a => [enc a]).length = l.length := by simp
  obtain ⟨g', cap', w3, hrun, h3⟩ := h2.append (P := P) (t := t) (ty := ty) (r := [enc a]) (i + 1) ht hti hz hsize hzs (by decide) (by simpa using hi) (h2.blk 0 rfl) rfl rfl (by intro u hu; simp at hu; subst hu; exact henc a) (by rw [el]; have := Nat.mul_le_mul (show l.length + 1 ≤ 4000001 by omega) hb; omega) (by rw [el]; simp [maxLen]; omega)
  rw [el] at hrun h3
  refine ⟨g', cap', w3, hrun, ?_⟩
  have h4 := h3.tail
  rw [show (l.map fun a => [enc a]) ++ [[enc a]] = (l ++ [a]).map (fun a => [enc a]) by simp] at h4
  exact h4
theorem St.lsLen {α : Type} {enc : α → Value} {S : List Nat} {w0 w : World} {L : List Chunk} (h : St S w0 w L) (i : Nat) {e : TypeId} {A : Option Addr} {n c : Nat} {l : List α} (hi : L[i]? = some (Chunk.ls enc e (.slice A n c) l)) : n = l.length := by
  have := h.slLen i hi
  rwa [List.length_map] at this
theorem St.lsGet {α : Type} (d : α) {enc : α → Value} {S : List Nat} {w0 w : World} {L : List Chunk} (h : St S w0 w L) (i : Nat) {e : TypeId} {A : Option Addr} {n c : Nat} {l : List α} (hi : L[i]? = some (Chunk.ls enc e (.slice A n c) l)) (hp : 0 < n) :
    ∃ g, A = some ⟨g, 0, Option.none⟩ ∧ ∀ q, q < n → w.cell? ⟨g, q, Option.none⟩ = some (enc (l.getD q d)) := by
  have hn := h.lsLen i hi
  obtain ⟨g, hg, hc⟩ := h.slGet i hi (by simp; omega)
  refine ⟨g, hg, fun q hq => ?_⟩
  have := hc q 0 (enc (l.getD q d)) (by simp; omega) (by decide) (by simp [List.getD_eq_getElem?_getD, show q < l.length by omega])
  simpa using this
/-- A thing of the list is written. -/
theorem St.lsSet {α : Type} {enc : α → Value} {S : List Nat} {w0 w : World} {L : List Chunk} (h : St S w0 w L) (i : Nat) {e : TypeId} {A : Option Addr} {n c : Nat} {l : List α} (hi : L[i]? = some (Chunk.ls enc e (.slice A n c) l)) {k : Nat} (hk : k < l.length) (a : α) :
    ∃ g, A = some ⟨g, 0, Option.none⟩ ∧ canStore w g k 1 ∧ St S w0 (setCs w g k [enc a]) (L.set i (Chunk.ls enc e (.slice A n c) (l.set k a))) := by
  obtain ⟨g, hg, hs⟩ := h.slSet i hi (k := k) (by simpa using hk)
  obtain ⟨h1, h2⟩ := hs [enc a] rfl
  rw [Nat.mul_one] at h1 h2
  refine ⟨g, hg, h1, ?_⟩
  rw [show (l.map fun a => [enc a]).set k [enc a] = (l.set k a).map (fun a => [enc a]) by rw [List.map_set]] at h2
  exact h2
end Go.Proofs.YtjmlfknogjaemaaDoor.Vc
/- The plain statements of some functions, printed by vcgen.py. -/
set_option maxRecDepth 100000
set_option linter.unusedVariables false
namespace Go.Proofs.YtjmlfknogjaemaaDoor
open Go Go.Proofs.YtjmlfknogjaemaaDoor.Vc
theorem W6.mixed : Tryd.prog.follows .mixedOrders = true := by kernel_rfl
/-- gatehouse/gatehouseref11.Valid -/
def f12.AL : Nat → Option Ann := fun r => match r with | 14 => some ⟨[(11, .int .i64)], [1, 6, 8]⟩ | 17 => some ⟨[(12, .int .i64)], [1, 6, 8, 11]⟩ | 23 => some ⟨[(14, .int .i64)], [1, 8]⟩ | 26 => some ⟨[(15, .int .i64)], [1, 8, 14]⟩ | _ => none
def f12.AC : Nat → Option Ann := fun _ => none
def f12.VC (Aa0_0 : Option Addr) (na0_0 ca0_0 : Nat) (Aa0_1 : Option Addr) (na0_1 ca0_1 : Nat) (Aa0_2 : Option Addr) (na0_2 ca0_2 : Nat) (Aa0_3 : Option Addr) (na0_3 ca0_3 : Nat) (Aa0_4 : Option Addr) (na0_4 ca0_4 : Nat) (Aa0_5 : Option Addr) (na0_5 ca0_5 : Nat) (w : World) (R : Value → World → Prop) : Prop :=
  let w_1 : World := World.alloc w (.cells #[.slice Aa0_0 na0_0 ca0_0, .slice Aa0_1 na0_1 ca0_1, .slice Aa0_2 na0_2 ca0_2, .slice Aa0_3 na0_3 ca0_3, .slice Aa0_4 na0_4 ca0_4, .slice Aa0_5 na0_5 ca0_5] 32);
  ∃ (A18 : Option Addr) (n18 c18 : Nat),
  w_1.cell? ⟨w.heap.size, 0, none⟩ = some (.slice A18 n18 c18) ∧
  sel (decide ((16 : Int) < ((n18 : Int) : Int))) (
  R (.bool false) w_1) (
  ∃ (A23 : Option Addr) (n23 c23 : Nat),
  w_1.cell? ⟨w.heap.size, 1, none⟩ = some (.slice A23 n23 c23) ∧
  sel (decide ((64 : Int) < ((n23 : Int) : Int))) (
  R (.bool false) w_1) (
  ∃ (A29 : Option Addr) (n29 c29 : Nat),
  w_1.cell? ⟨w.heap.size, 2, none⟩ = some (.slice A29 n29 c29) ∧
  sel (decide ((64 : Int) < ((n29 : Int) : Int))) (
  R (.bool false) w_1) (
  ∃ (A35 : Option Addr) (n35 c35 : Nat),
  w_1.cell? ⟨w.heap.size, 3, none⟩ = some (.slice A35 n35 c35) ∧
  ∃ (A38 : Option Addr) (n38 c38 : Nat),
  w_1.cell? ⟨w.heap.size, 1, none⟩ = some (.slice A38 n38 c38) ∧
  sel (((n35 : Int) : Int) != ((n38 : Int) : Int)) (
  R (.bool false) w_1) (
  ∃ (A44 : Option Addr) (n44 c44 : Nat),
  w_1.cell? ⟨w.heap.size, 4, none⟩ = some (.slice A44 n44 c44) ∧
  ∃ (A47 : Option Addr) (n47 c47 : Nat),
  w_1.cell? ⟨w.heap.size, 2, none⟩ = some (.slice A47 n47 c47) ∧
  sel (((n44 : Int) : Int) != ((n47 : Int) : Int)) (
  R (.bool false) w_1) (
  ∃ (A52 : Option Addr) (n52 c52 : Nat),
  w_1.cell? ⟨w.heap.size, 0, none⟩ = some (.slice A52 n52 c52) ∧
  Calls Tryd.prog 32 #[.slice A52 n52 c52] w_1 fun e_1 w_2 =>
  ∃ (b53 : Bool),
  e_1 = .returned (.bool b53) ∧
  ∃ (A55 : Option Addr) (n55 c55 : Nat),
  w_2.cell? ⟨w.heap.size, 1, none⟩ = some (.slice A55 n55 c55) ∧
  Calls Tryd.prog 32 #[.slice A55 n55 c55] w_2 fun e_2 w_3 =>
  ∃ (b56 : Bool),
  e_2 = .returned (.bool b56) ∧
  ∃ (A58 : Option Addr) (n58 c58 : Nat),
  w_3.cell? ⟨w.heap.size, 2, none⟩ = some (.slice A58 n58 c58) ∧
  Calls Tryd.prog 32 #[.slice A58 n58 c58] w_3 fun e_3 w_4 =>
  ∃ (b59 : Bool),
  e_3 = .returned (.bool b59) ∧
  ∃ (A62 : Option Addr) (n62 c62 : Nat),
  w_4.cell? ⟨w.heap.size, 3, none⟩ = some (.slice A62 n62 c62) ∧
  Calls Tryd.prog 33 #[.slice A62 n62 c62] w_4 fun e_4 w_5 =>
  ∃ (x63_0 : Int) (b63_1 : Bool),
  e_4 = .returned (.tuple #[.int .i64 x63_0, .bool b63_1]) ∧
  ∃ (A68 : Option Addr) (n68 c68 : Nat),
  w_5.cell? ⟨w.heap.size, 4, none⟩ = some (.slice A68 n68 c68) ∧
  Calls Tryd.prog 33 #[.slice A68 n68 c68] w_5 fun e_5 w_6 =>
  ∃ (x69_0 : Int) (b69_1 : Bool),
  e_5 = .returned (.tuple #[.int .i64 x69_0, .bool b69_1]) ∧
  sel b53 (
  R (.bool false) w_6) (
  sel b56 (
  R (.bool false) w_6) (
  sel b59 (
  R (.bool false) w_6) (
  sel (!b63_1) (
  R (.bool false) w_6) (
  sel (!b69_1) (
  R (.bool false) w_6) (
  ∃ (A87_0 : Option Addr) (n87_0 c87_0 : Nat),
  w_6.cell? ⟨w.heap.size, 0, none⟩ = some (.slice A87_0 n87_0 c87_0) ∧
  ∃ (A87_1 : Option Addr) (n87_1 c87_1 : Nat),
  w_6.cell? ⟨w.heap.size, 1, none⟩ = some (.slice A87_1 n87_1 c87_1) ∧
  ∃ (A87_2 : Option Addr) (n87_2 c87_2 : Nat),
  w_6.cell? ⟨w.heap.size, 2, none⟩ = some (.slice A87_2 n87_2 c87_2) ∧
  ∃ (A87_3 : Option Addr) (n87_3 c87_3 : Nat),
  w_6.cell? ⟨w.heap.size, 3, none⟩ = some (.slice A87_3 n87_3 c87_3) ∧
  ∃ (A87_4 : Option Addr) (n87_4 c87_4 : Nat),
  w_6.cell? ⟨w.heap.size, 4, none⟩ = some (.slice A87_4 n87_4 c87_4) ∧
  ∃ (A87_5 : Option Addr) (n87_5 c87_5 : Nat),
  w_6.cell? ⟨w.heap.size, 5, none⟩ = some (.slice A87_5 n87_5 c87_5) ∧
  Calls Tryd.prog 34 #[.agg #[.slice A87_0 n87_0 c87_0, .slice A87_1 n87_1 c87_1, .slice A87_2 n87_2 c87_2, .slice A87_3 n87_3 c87_3, .slice A87_4 n87_4 c87_4, .slice A87_5 n87_5 c87_5], .int .i64 x63_0, .int .i64 x69_0] w_6 fun e_6 w_7 =>
  ∃ (b90 : Bool),
  e_6 = .returned (.bool b90) ∧
  sel (!b90) (
  R (.bool false) w_7) (
  ∃ I : Int → World → Nat → Prop,
  (∃ n, I 0 w_7 n) ∧
  ∀ d : Env, ∀ (x11 : Int) (w_8 : World) (r : Nat), I x11 w_8 r →
  sel (decide ((x11 : Int) < (x63_0 : Int))) (
  ∃ I_1 : Int → World → Nat → Prop,
  (∃ n, I_1 0 w_8 n) ∧
  ∀ d_1 : Env, ∀ (x12 : Int) (w_9 : World) (r_1 : Nat), I_1 x12 w_9 r_1 →
  sel (decide ((x12 : Int) < (x11 : Int))) (
  ∃ (A104 : Option Addr) (n104 c104 : Nat),
  w_9.cell? ⟨w.heap.size, 5, none⟩ = some (.slice A104 n104 c104) ∧
  (0 : Int) ≤ x11 ∧ x11 < (n104 : Int) ∧
  needPtr A104 fun b106 o106 =>
  ∃ (A107 : Option Addr) (n107 c107 : Nat),
  w_9.cell? ⟨b106, o106 + x11.toNat * 1, none⟩ = some (.slice A107 n107 c107) ∧
  ∃ (A109 : Option Addr) (n109 c109 : Nat),
  w_9.cell? ⟨w.heap.size, 5, none⟩ = some (.slice A109 n109 c109) ∧
  (0 : Int) ≤ x12 ∧ x12 < (n109 : Int) ∧
  needPtr A109 fun b111 o111 =>
  ∃ (A112 : Option Addr) (n112 c112 : Nat),
  w_9.cell? ⟨b111, o111 + x12.toNat * 1, none⟩ = some (.slice A112 n112 c112) ∧
  Calls Tryd.prog 35 #[.slice A107 n107 c107, .slice A112 n112 c112] w_9.drew fun e_7 w_10 =>
  ∃ (b113 : Bool),
  e_7 = .returned (.bool b113) ∧
  sel b113 (
  R (.bool false) w_10) (
  let i102 : Int := IntKind.i64.wrap (x12 + 1);
  ([.pointer (some ⟨w.heap.size, 0, none⟩), .int .i64 x63_0, .int .i64 x69_0, .int .i64 x11] : List Value) = ([.pointer (some ⟨w.heap.size, 0, none⟩), .int .i64 x63_0, .int .i64 x69_0, .int .i64 x11] : List Value) ∧ ∃ m, m < r_1 ∧ I_1 i102 w_10 m)) (
  let i97 : Int := IntKind.i64.wrap (x11 + 1);
  ([.pointer (some ⟨w.heap.size, 0, none⟩), .int .i64 x63_0, .int .i64 x69_0] : List Value) = ([.pointer (some ⟨w.heap.size, 0, none⟩), .int .i64 x63_0, .int .i64 x69_0] : List Value) ∧ ∃ m, m < r ∧ I i97 w_9 m)) (
  ∃ I_2 : Int → World → Nat → Prop,
  (∃ n, I_2 0 w_8 n) ∧
  ∀ d_2 : Env, ∀ (x14 : Int) (w_11 : World) (r_2 : Nat), I_2 x14 w_11 r_2 →
  sel (decide ((x14 : Int) < (x69_0 : Int))) (
  ∃ I_3 : Int → World → Nat → Prop,
  (∃ n, I_3 0 w_11 n) ∧
  ∀ d_3 : Env, ∀ (x15 : Int) (w_12 : World) (r_3 : Nat), I_3 x15 w_12 r_3 →
  sel (decide ((x15 : Int) < (x14 : Int))) (
  ∃ (A126 : Option Addr) (n126 c126 : Nat),
  w_12.cell? ⟨w.heap.size, 5, none⟩ = some (.slice A126 n126 c126) ∧
  (Calls Tryd.prog 36 #[.slice A126 n126 c126, .int .i64 x14] w_12.drew fun e_8 w_13 =>
  ∃ (A128 : Option Addr) (n128 c128 : Nat),
  e_8 = .returned (.slice A128 n128 c128) ∧
  ∃ (A130 : Option Addr) (n130 c130 : Nat),
  w_13.cell? ⟨w.heap.size, 5, none⟩ = some (.slice A130 n130 c130) ∧
  Calls Tryd.prog 36 #[.slice A130 n130 c130, .int .i64 x15] w_13 fun e_9 w_14 =>
  ∃ (A132 : Option Addr) (n132 c132 : Nat),
  e_9 = .returned (.slice A132 n132 c132) ∧
  Calls Tryd.prog 35 #[.slice A128 n128 c128, .slice A132 n132 c132] w_14 fun e_10 w_15 =>
  ∃ (b133 : Bool),
  e_10 = .returned (.bool b133) ∧
  sel b133 (
  R (.bool false) w_15) (
  let i124 : Int := IntKind.i64.wrap (x15 + 1);
  ([.pointer (some ⟨w.heap.size, 0, none⟩), .int .i64 x69_0, .int .i64 x14] : List Value) = ([.pointer (some ⟨w.heap.size, 0, none⟩), .int .i64 x69_0, .int .i64 x14] : List Value) ∧ ∃ m, m < r_3 ∧ I_3 i124 w_15 m)) ∧
  (∃ (A130_1 : Option Addr) (n130_1 c130_1 : Nat),
  w_12.cell? ⟨w.heap.size, 5, none⟩ = some (.slice A130_1 n130_1 c130_1) ∧
  Calls Tryd.prog 36 #[.slice A126 n126 c126, .int .i64 x14] w_12.drew fun e_11 w_16 =>
  ∃ (A128_1 : Option Addr) (n128_1 c128_1 : Nat),
  e_11 = .returned (.slice A128_1 n128_1 c128_1) ∧
  Calls Tryd.prog 36 #[.slice A130_1 n130_1 c130_1, .int .i64 x15] w_16 fun e_12 w_17 =>
  ∃ (A132_1 : Option Addr) (n132_1 c132_1 : Nat),
  e_12 = .returned (.slice A132_1 n132_1 c132_1) ∧
  Calls Tryd.prog 35 #[.slice A128_1 n128_1 c128_1, .slice A132_1 n132_1 c132_1] w_17 fun e_13 w_18 =>
  ∃ (b133_1 : Bool),
  e_13 = .returned (.bool b133_1) ∧
  sel b133_1 (
  R (.bool false) w_18) (
  let i124_1 : Int := IntKind.i64.wrap (x15 + 1);
  ([.pointer (some ⟨w.heap.size, 0, none⟩), .int .i64 x69_0, .int .i64 x14] : List Value) = ([.pointer (some ⟨w.heap.size, 0, none⟩), .int .i64 x69_0, .int .i64 x14] : List Value) ∧ ∃ m, m < r_3 ∧ I_3 i124_1 w_18 m)) ∧ True) (
  let i119 : Int := IntKind.i64.wrap (x14 + 1);
  ([.pointer (some ⟨w.heap.size, 0, none⟩), .int .i64 x69_0] : List Value) = ([.pointer (some ⟨w.heap.size, 0, none⟩), .int .i64 x69_0] : List Value) ∧ ∃ m, m < r_2 ∧ I_2 i119 w_12 m)) (
  R (.bool true) w_11)))))))))))))
theorem f12.eq (Aa0_0 : Option Addr) (na0_0 ca0_0 : Nat) (Aa0_1 : Option Addr) (na0_1 ca0_1 : Nat) (Aa0_2 : Option Addr) (na0_2 ca0_2 : Nat) (Aa0_3 : Option Addr) (na0_3 ca0_3 : Nat) (Aa0_4 : Option Addr) (na0_4 ca0_4 : Nat) (Aa0_5 : Option Addr) (na0_5 ca0_5 : Nat) (w : World) (R : Value → World → Prop) : f12.VC Aa0_0 na0_0 ca0_0 Aa0_1 na0_1 ca0_1 Aa0_2 na0_2 ca0_2 Aa0_3 na0_3 ca0_3 Aa0_4 na0_4 ca0_4 Aa0_5 na0_5 ca0_5 w R = funV Tryd.prog Tryd.f12 f12.AL f12.AC #[.agg #[.slice Aa0_0 na0_0 ca0_0, .slice Aa0_1 na0_1 ca0_1, .slice Aa0_2 na0_2 ca0_2, .slice Aa0_3 na0_3 ca0_3, .slice Aa0_4 na0_4 ca0_4, .slice Aa0_5 na0_5 ca0_5]] w R := by kernel_rfl
theorem f12.calls {Aa0_0 : Option Addr} {na0_0 ca0_0 : Nat} {Aa0_1 : Option Addr} {na0_1 ca0_1 : Nat} {Aa0_2 : Option Addr} {na0_2 ca0_2 : Nat} {Aa0_3 : Option Addr} {na0_3 ca0_3 : Nat} {Aa0_4 : Option Addr} {na0_4 ca0_4 : Nat} {Aa0_5 : Option Addr} {na0_5 ca0_5 : Nat} {w : World} {R : Value → World → Prop} (h : f12.VC Aa0_0 na0_0 ca0_0 Aa0_1 na0_1 ca0_1 Aa0_2 na0_2 ca0_2 Aa0_3 na0_3 ca0_3 Aa0_4 na0_4 ca0_4 Aa0_5 na0_5 ca0_5 w R) : Calls Tryd.prog 12 #[.agg #[.slice Aa0_0 na0_0 ca0_0, .slice Aa0_1 na0_1 ca0_1, .slice Aa0_2 na0_2 ca0_2, .slice Aa0_3 na0_3 ca0_3, .slice Aa0_4 na0_4 ca0_4, .slice Aa0_5 na0_5 ca0_5]] w fun e w' => ∃ v, e = .returned v ∧ R v w' :=
  funV_sound (fn := Tryd.f12) (AL := f12.AL) (AC := f12.AC) W6.mixed (by kernel_rfl) (by rw [← f12.eq Aa0_0 na0_0 ca0_0 Aa0_1 na0_1 ca0_1 Aa0_2 na0_2 ca0_2 Aa0_3 na0_3 ca0_3 Aa0_4 na0_4 ca0_4 Aa0_5 na0_5 ca0_5]; exact h)

end Go.Proofs.YtjmlfknogjaemaaDoor
