/- Page: the document's Read, its parts: spans, apart. -/
import Derived.Test.YtjmlfknogjaemaaM42
set_option linter.unusedVariables false
set_option linter.unusedSimpArgs false
set_option maxRecDepth 10000
namespace Go.Proofs.Ytjmlfknogjaemaa
open Go Go.Proofs.Ytjmlfknogjaemaa.Vc
namespace PG
open Vc.PG NI
def cnt (l : List Se) (k : Int) : Nat := (l.filter fun p => decide (p.2 = k)).length
theorem cnt_snoc (l : List Se) (p : Se) (k : Int) : cnt (l ++ [p]) k = cnt l k + if p.2 = k then 1 else 0 := by
  unfold cnt
  rw [List.filter_append, List.length_append]
  by_cases h : p.2 = k <;> simp [h]
theorem cnt_le (l : List Se) (k : Int) : cnt l k ≤ l.length := List.length_filter_le _ _
/-- Do the numbers span 1 to n? -/
def SpansP (l : List Se) (N : Nat) (once : Bool) : Prop :=
  (∀ k : Nat, k < N → cnt l ((k + 1 : Nat) : Int) ≠ 0 ∧ (once = true → cnt l ((k + 1 : Nat) : Int) ≤ 1)) ∧ ∀ i, i < l.length → 1 ≤ (l.getD i se0).2 ∧ (l.getD i se0).2 ≤ N
theorem spansR {w : World} {A : Option Addr} {n c : Nat} {l : List Se} (h : InE w A n l) (hn : n ≤ 1000000) (N : Nat) (hN : N ≤ 1000000) (once : Bool) :
    Calls Try.prog 87 #[.slice A n c, .int .i64 (N : Int), .bool once] w fun e w' => ∃ b : Bool, e = .returned (.bool b) ∧ (b = true ↔ SpansP l N once) ∧ Fr [] w w' := by
  refine Calls.mono (f87.calls (R := fun v w' => ∃ b : Bool, v = .bool b ∧ (b = true ↔ SpansP l N once) ∧ Fr [] w w') ?_) ?_
  · dsimp only [f87.VC]
    have hl := h.1
    have hno : ¬ SpansP l N once → ∃ b : Bool, (Value.bool false) = .bool b ∧ (b = true ↔ SpansP l N once) ∧ Fr [] w w := fun hh => ⟨false, rfl, ⟨fun h => (by cases h), fun h => absurd h hh⟩, Fr.refl _ _⟩
    refine ⟨fun x w' r => w' = w ∧ ∃ k : Nat, x = ((k + 1 : Nat) : Int) ∧ k + r = N ∧ ∀ j, j < k → cnt l ((j + 1 : Nat) : Int) ≠ 0 ∧ (once = true → cnt l ((j + 1 : Nat) : Int) ≤ 1), ⟨N, rfl, 0, rfl, by omega, fun j hj => by omega⟩, ?_⟩
    rintro d x w1 r ⟨rfl, k, rfl, hkr, hyes⟩
    refine sel_of (fun hd => ?_) (fun hd => ?_)
    · have hk : k < N := by have := of_decide_eq_true hd; omega
      refine ⟨fun y z w' q => w' = w1 ∧ ∃ i : Nat, z = (i : Int) ∧ i + q = n ∧ y = ((cnt (l.take i) ((k + 1 : Nat) : Int) : Nat) : Int), ⟨n, rfl, 0, rfl, by omega, rfl⟩, ?_⟩
      rintro d y z w2 q ⟨rfl, i, rfl, hiq, rfl⟩
      refine sel_of (fun hd => ?_) (fun hd => ?_)
      · have hi : i < n := by have := of_decide_eq_true hd; omega
        obtain ⟨b, o, rfl, hc⟩ := h.2 (by omega)
        have hs := take_snoc se0 l i (by omega)
        have hcl := cnt_le (l.take i) ((k + 1 : Nat) : Int)
        rw [List.length_take] at hcl
        have hcs := cnt_snoc (l.take i) (l.getD i se0) ((k + 1 : Nat) : Int)
        rw [← hs] at hcs
        rw [inc i n (by omega) (by omega)]
        refine ⟨by omega, by omega, needPtr_of rfl ⟨_, by rw [Int.toNat_natCast]; exact (hc i hi).2, sel_of (fun hx => ?_) (fun hx => ?_)⟩⟩
        · have hx : (l.getD i se0).2 = ((k + 1 : Nat) : Int) := eq_of_beq hx
          rw [if_pos hx] at hcs
          refine ⟨rfl, q - 1, by omega, rfl, i + 1, rfl, by omega, ?_⟩
          rw [hcs, i64_id (by omega) (by omega)]; omega
        · have hx : (l.getD i se0).2 ≠ ((k + 1 : Nat) : Int) := beq_eq_false_iff_ne.1 hx
          rw [if_neg hx] at hcs
          refine ⟨rfl, q - 1, by omega, rfl, i + 1, rfl, by omega, ?_⟩
          rw [hcs]; rfl
      · have hi : i = n := by have := of_decide_eq_false hd; omega
        rw [List.take_of_length_le (by omega)]
        have hkk : IntKind.i64.wrap (((k + 1 : Nat) : Int) + 1) = ((k + 1 + 1 : Nat) : Int) := by rw [i64_id (by omega) (by omega)]; omega
        rw [hkk]
        have hnext : (cnt l ((k + 1 : Nat) : Int) ≠ 0 ∧ (once = true → cnt l ((k + 1 : Nat) : Int) ≤ 1)) → ∀ j, j < k + 1 → cnt l ((j + 1 : Nat) : Int) ≠ 0 ∧ (once = true → cnt l ((j + 1 : Nat) : Int) ≤ 1) := by
          intro hh j hj
          rcases Nat.lt_or_ge j k with h1 | h1
          · exact hyes j h1
          · have : j = k := by omega
            subst this; exact hh
        refine sel_of (fun hx => ?_) (fun hx => sel_of (fun ho => sel_of (fun hx2 => ?_) (fun hx2 => ?_)) (fun ho => ?_))
        · have hx : ((cnt l ((k + 1 : Nat) : Int) : Nat) : Int) = 0 := eq_of_beq hx
          exact hno fun hh => by have := (hh.1 k hk).1; omega
        · have hx2 := of_decide_eq_true hx2
          exact hno fun hh => by have := (hh.1 k hk).2 ho; omega
        · have hx : ((cnt l ((k + 1 : Nat) : Int) : Nat) : Int) ≠ 0 := beq_eq_false_iff_ne.1 hx
          have hx2 := of_decide_eq_false hx2
          exact ⟨rfl, r - 1, by omega, rfl, k + 1, rfl, by omega, hnext ⟨by omega, fun _ => by omega⟩⟩
        · have hx : ((cnt l ((k + 1 : Nat) : Int) : Nat) : Int) ≠ 0 := beq_eq_false_iff_ne.1 hx
          exact ⟨rfl, r - 1, by omega, rfl, k + 1, rfl, by omega, hnext ⟨by omega, fun h => by rw [ho] at h; cases h⟩⟩
    · have hk : k = N := by have := of_decide_eq_false hd; omega
      subst hk
      refine ⟨fun z w' q => w' = w1 ∧ ∃ i : Nat, z = (i : Int) ∧ i + q = n ∧ ∀ j, j < i → 1 ≤ (l.getD j se0).2 ∧ (l.getD j se0).2 ≤ k, ⟨n, rfl, 0, rfl, by omega, fun j hj => by omega⟩, ?_⟩
      rintro d z w2 q ⟨rfl, i, rfl, hiq, hin⟩
      refine sel_of (fun hd => ?_) (fun hd => ?_)
      · have hi : i < n := by have := of_decide_eq_true hd; omega
        obtain ⟨b, o, rfl, hc⟩ := h.2 (by omega)
        rw [inc i n (by omega) (by omega)]
        refine ⟨by omega, by omega, needPtr_of rfl ⟨_, by rw [Int.toNat_natCast]; exact (hc i hi).2, sel_of (fun hx => ?_) (fun hx => ⟨by omega, by omega, needPtr_of rfl ⟨_, by rw [Int.toNat_natCast]; exact (hc i hi).2, sel_of (fun hx2 => ?_) (fun hx2 => ?_)⟩⟩)⟩⟩
        · have hx := of_decide_eq_true hx
          exact hno fun hh => by have := hh.2 i (by omega); omega
        · have hx2 := of_decide_eq_true hx2
          exact hno fun hh => by have := hh.2 i (by omega); omega
        · have hx := of_decide_eq_false hx
          have hx2 := of_decide_eq_false hx2
          refine ⟨rfl, q - 1, by omega, rfl, i + 1, rfl, by omega, fun j hj => ?_⟩
          rcases Nat.lt_or_ge j i with h1 | h1
          · exact hin j h1
          · have : j = i := by omega
            subst this; omega
      · have hi : i = n := by have := of_decide_eq_false hd; omega
        exact ⟨true, rfl, ⟨fun _ => ⟨hyes, fun j hj => hin j (by omega)⟩, fun _ => rfl⟩, Fr.refl _ _⟩
  · rintro e w' ⟨v, rfl, b, rfl, h⟩; exact ⟨b, rfl, h⟩
/-- Are the masks small, no two rows alike, no two columns? (m: the masks, from 0 on.) -/
def ApartP (m : Nat → Nat → Int) (H2 H3 bits : Nat) : Prop :=
  (∀ x, x < H2 → ∀ y, y < H3 → 0 ≤ m x y ∧ m x y < 2 ^ bits) ∧ (∀ x, x < H2 → ∀ k, k < x → ¬ ∀ y, y < H3 → m x y = m k y) ∧ (∀ y, y < H3 → ∀ k, k < y → ¬ ∀ x, x < H2 → m x y = m x k)
theorem apartR {w : World} {A : Option Addr} {n c : Nat} {W : List Int} {t : Nat} (hW0 : InW w A n W) (ht : W.getD 1 0 = (t : Int)) (htb : t ≤ 4096) {H2 H3 : Nat} (h2 : W.getD 2 0 = (H2 : Int)) (h3 : W.getD 3 0 = (H3 : Int)) (hb2 : H2 ≤ 64) (hb3 : H3 ≤ 64) (hlen : (n : Int) = 4 + 2 * t + W.getD 2 0 * W.getD 3 0) (bits : Nat) (hbits : bits ≤ 16) :
    Calls Try.prog 88 #[.slice A n c, .int .i64 (bits : Int)] w fun e w' => ∃ b : Bool, e = .returned (.bool b) ∧ (b = true ↔ ApartP (fun x y => maskP W t (W.getD 3 0) ((x + 1 : Nat) : Int) ((y + 1 : Nat) : Int)) H2 H3 bits) ∧ Fr [] w w' := by
  have hP1 : W.getD 2 0 * W.getD 3 0 ≤ 64 * 64 := Int.mul_le_mul (by omega) (by omega) (by omega) (by decide)
  have hP0 : 0 ≤ W.getD 2 0 * W.getD 3 0 := Int.mul_nonneg (by omega) (by omega)
  have hmk : ∀ w', Fr [] w w' → ∀ x y : Nat, x < H2 → y < H3 → Calls Try.prog 63 #[.slice A n c, .int .i64 ((x + 1 : Nat) : Int), .int .i64 ((y + 1 : Nat) : Int)] w' fun e w'' => e = .returned (.int .i64 (maskP W t (W.getD 3 0) ((x + 1 : Nat) : Int) ((y + 1 : Nat) : Int))) ∧ Fr [] w' w'' := fun w' hf x y hx hy => pmaskR (hW0.fr hf) ht htb (by omega) hlen (by omega) (by omega)
  generalize hmm : (fun x y : Nat => maskP W t (W.getD 3 0) ((x + 1 : Nat) : Int) ((y + 1 : Nat) : Int)) = m at *
  have hmx : ∀ x y : Nat, maskP W t (W.getD 3 0) ((x + 1 : Nat) : Int) ((y + 1 : Nat) : Int) = m x y := fun x y => by rw [← hmm]
  have hmk : ∀ w', Fr [] w w' → ∀ x y : Nat, x < H2 → y < H3 → Calls Try.prog 63 #[.slice A n c, .int .i64 ((x + 1 : Nat) : Int), .int .i64 ((y + 1 : Nat) : Int)] w' fun e w'' => e = .returned (.int .i64 (m x y)) ∧ Fr [] w' w'' := fun w' hf x y hx hy => by rw [← hmx]; exact hmk w' hf x y hx hy
  obtain ⟨b, o, rfl, hc0⟩ := hW0.2 (by omega)
  have hc2 : ∀ w', Fr [] w w' → w'.cell? ⟨b, o + 2, none⟩ = some (.int .i64 (H2 : Int)) := fun w' h => by rw [← h2]; exact h.cell (hc0 2 (by omega))
  have hc3 : ∀ w', Fr [] w w' → w'.cell? ⟨b, o + 3, none⟩ = some (.int .i64 (H3 : Int)) := fun w' h => by rw [← h3]; exact h.cell (hc0 3 (by omega))
  have hn4 : 4 ≤ n := by omega
  clear hmm hmx hlen hP1 hP0
  have hno : ∀ w', Fr [] w w' → ¬ ApartP m H2 H3 bits → ∃ b : Bool, (Value.bool false) = .bool b ∧ (b = true ↔ ApartP m H2 H3 bits) ∧ Fr [] w w' := fun w' hf hh => ⟨false, rfl, ⟨fun h => (by cases h), fun h => absurd h hh⟩, hf⟩
  have up : ∀ k : Nat, k ≤ 1000 → IntKind.i64.wrap (((k + 1 : Nat) : Int) + 1) = ((k + 1 + 1 : Nat) : Int) := fun k hk => by rw [i64_id (by omega) (by omega)]; omega
  refine Calls.mono (f88.calls (R := fun v w' => ∃ b : Bool, v = .bool b ∧ (b = true ↔ ApartP m H2 H3 bits) ∧ Fr [] w w') ?_) ?_
  · dsimp only [f88.VC]
    refine ⟨fun x y w' r => w' = w ∧ ∃ i : Nat, y = (i : Int) ∧ i + r = bits ∧ x = ((2 ^ i : Nat) : Int), ⟨bits, rfl, 0, rfl, by omega, rfl⟩, ?_⟩
    rintro d x y w1 r ⟨rfl, i, rfl, hir, rfl⟩
    refine sel_of (fun hd => ?_) (fun hd => ?_)
    · have hi : i < bits := by have := of_decide_eq_true hd; omega
      have hp : 2 ^ i ≤ 2 ^ 16 := Nat.pow_le_pow_right (by decide) (by omega)
      rw [show (2 : Nat) ^ 16 = 65536 from rfl] at hp
      obtain ⟨p, hpe⟩ : ∃ p, p = 2 ^ i := ⟨_, rfl⟩
      rw [← hpe] at hp ⊢
      rw [inc i 100 (by omega) (by omega), i64_id (x := 2 * _) (by omega) (by omega)]
      exact ⟨rfl, r - 1, by omega, rfl, i + 1, rfl, by omega, by rw [Nat.pow_succ, ← hpe]; omega⟩
    have hi : i = bits := by have := of_decide_eq_false hd; omega
    subst hi
    have hpw : ((2 ^ i : Nat) : Int) = (2 : Int) ^ i := by simp
    refine ⟨fun x w' r => Fr [] w1 w' ∧ ∃ k : Nat, x = ((k + 1 : Nat) : Int) ∧ k + r = H2 ∧ ∀ x, x < k → ∀ y, y < H3 → 0 ≤ m x y ∧ m x y < 2 ^ i, ⟨H2, Fr.refl _ _, 0, rfl, by omega, fun x hx => by omega⟩, ?_⟩
    rintro d x w2 r ⟨hf, k, rfl, hkr, hyes⟩
    refine ⟨by omega, by omega, needPtr_of rfl ⟨_, hc2 _ hf, sel_of (fun hd => ?_) (fun hd => ?_)⟩⟩
    · have hk : k < H2 := by have := of_decide_eq_true hd; omega
      refine ⟨fun y w' q => Fr [] w1 w' ∧ ∃ j : Nat, y = ((j + 1 : Nat) : Int) ∧ j + q = H3 ∧ ∀ y, y < j → 0 ≤ m k y ∧ m k y < 2 ^ i, ⟨H3, hf, 0, rfl, by omega, fun y hy => by omega⟩, ?_⟩
      clear hf
      rintro d y w3 q ⟨hf, j, rfl, hjq, hin⟩
      refine ⟨by omega, by omega, needPtr_of rfl ⟨_, hc3 _ hf, sel_of (fun hd => ?_) (fun hd => ?_)⟩⟩
      · have hj : j < H3 := by have := of_decide_eq_true hd; omega
        refine Calls.mono (hmk _ hf k j hk hj) ?_
        rintro _ w4 ⟨rfl, f4⟩
        have hf4 := hf.trans f4
        refine ⟨_, rfl, sel_of (fun hx => hno _ hf4 fun hh => ?_) (fun hx => ?_)⟩
        · have hx := of_decide_eq_true hx
          have := (hh.1 k hk j hj).1; omega
        have hx := of_decide_eq_false hx
        refine Calls.mono (hmk _ hf4 k j hk hj) ?_
        rintro _ w5 ⟨rfl, f5⟩
        have hf5 := hf4.trans f5
        refine ⟨_, rfl, sel_of (fun hx2 => hno _ hf5 fun hh => ?_) (fun hx2 => ?_)⟩
        · have hx2 := of_decide_eq_true hx2
          have := (hh.1 k hk j hj).2; omega
        have hx2 := of_decide_eq_false hx2
        rw [up j (by omega)]
        refine ⟨rfl, q - 1, by omega, hf5, j + 1, rfl, by omega, fun u hu => ?_⟩
        rcases Nat.lt_or_ge u j with h1 | h1
        · exact hin u h1
        · have : u = j := by omega
          subst this; omega
      · have hj : j = H3 := by have := of_decide_eq_false hd; omega
        rw [up k (by omega)]
        refine ⟨rfl, r - 1, by omega, hf, k + 1, rfl, by omega, fun u hu => ?_⟩
        rcases Nat.lt_or_ge u k with h1 | h1
        · exact hyes u h1
        · have : u = k := by omega
          subst this
          exact fun y hy => hin y (by omega)
    have hk : k = H2 := by have := of_decide_eq_false hd; omega
    subst hk
    refine ⟨fun x w' r => Fr [] w1 w' ∧ ∃ a : Nat, x = ((a + 1 : Nat) : Int) ∧ a + r = k ∧ ∀ x, x < a → ∀ u, u < x → ¬ ∀ y, y < H3 → m x y = m u y, ⟨k, hf, 0, rfl, by omega, fun x hx => by omega⟩, ?_⟩
    clear hf
    rintro d x w3 r2 ⟨hf, a, rfl, har, hrow⟩
    refine ⟨by omega, by omega, needPtr_of rfl ⟨_, hc2 _ hf, sel_of (fun hd => ?_) (fun hd => ?_)⟩⟩
    · have ha : a < k := by have := of_decide_eq_true hd; omega
      refine ⟨fun x w' r => Fr [] w1 w' ∧ ∃ v : Nat, x = ((v + 1 : Nat) : Int) ∧ v + r = a ∧ ∀ u, u < v → ¬ ∀ y, y < H3 → m a y = m u y, ⟨a, hf, 0, rfl, by omega, fun u hu => by omega⟩, ?_⟩
      clear hf
      rintro d x w4 r3 ⟨hf, v, rfl, hvr, hrow2⟩
      refine sel_of (fun hd => ?_) (fun hd => ?_)
      · have hv : v < a := by have := of_decide_eq_true hd; omega
        refine ⟨fun b y w' q => Fr [] w1 w' ∧ ∃ j : Nat, y = ((j + 1 : Nat) : Int) ∧ j + q = H3 ∧ (b = true ↔ ∀ y, y < j → m a y = m v y), ⟨H3, hf, 0, rfl, by omega, by simp⟩, ?_⟩
        clear hf
        rintro d bb y w5 q ⟨hf, j, rfl, hjq, hbb⟩
        refine ⟨by omega, by omega, needPtr_of rfl ⟨_, hc3 _ hf, sel_of (fun hd => ?_) (fun hd => ?_)⟩⟩
        · have hj : j < H3 := by have := of_decide_eq_true hd; omega
          rw [up j (by omega)]
          refine sel_of (fun ht => ?_) (fun ht => ?_)
          · refine Calls.mono (hmk _ hf a j (by omega) hj) ?_
            rintro _ w6 ⟨rfl, f6⟩
            have hf6 := hf.trans f6
            refine ⟨_, rfl, Calls.mono (hmk _ hf6 v j (by omega) hj) ?_⟩
            rintro _ w7 ⟨rfl, f7⟩
            refine ⟨_, rfl, rfl, q - 1, by omega, hf6.trans f7, j + 1, rfl, by omega, ?_⟩
            rw [beq_iff_eq]
            constructor
            · intro h1 u hu
              rcases Nat.lt_or_ge u j with h2 | h2
              · exact hbb.1 ht u h2
              · have : u = j := by omega
                subst this; exact h1
            · exact fun h1 => h1 j (by omega)
          · refine ⟨rfl, q - 1, by omega, hf, j + 1, rfl, by omega, ⟨fun h => (by cases h), fun h => ?_⟩⟩
            exact absurd (hbb.2 fun u hu => h u (by omega)) (by rw [ht]; decide)
        · have hj : j = H3 := by have := of_decide_eq_false hd; omega
          subst hj
          refine sel_of (fun ht => hno _ hf fun hh => hh.2.1 a ha v hv (hbb.1 ht)) (fun ht => ?_)
          rw [up v (by omega)]
          refine ⟨rfl, r3 - 1, by omega, hf, v + 1, rfl, by omega, fun u hu => ?_⟩
          rcases Nat.lt_or_ge u v with h1 | h1
          · exact hrow2 u h1
          · have : u = v := by omega
            subst this
            exact fun h => absurd (hbb.2 h) (by rw [ht]; decide)
      · have hv : v = a := by have := of_decide_eq_false hd; omega
        subst hv
        rw [up v (by omega)]
        refine ⟨rfl, r2 - 1, by omega, hf, v + 1, rfl, by omega, fun x hx => ?_⟩
        rcases Nat.lt_or_ge x v with h1 | h1
        · exact hrow x h1
        · have : x = v := by omega
          subst this; exact hrow2
    have ha : a = k := by have := of_decide_eq_false hd; omega
    subst ha
    refine ⟨fun x w' r => Fr [] w1 w' ∧ ∃ g : Nat, x = ((g + 1 : Nat) : Int) ∧ g + r = H3 ∧ ∀ y, y < g → ∀ u, u < y → ¬ ∀ x, x < a → m x y = m x u, ⟨H3, hf, 0, rfl, by omega, fun x hx => by omega⟩, ?_⟩
    clear hf
    rintro d x w4 r3 ⟨hf, g, rfl, hgr, hcol⟩
    refine ⟨by omega, by omega, needPtr_of rfl ⟨_, hc3 _ hf, sel_of (fun hd => ?_) (fun hd => ?_)⟩⟩
    · have hg : g < H3 := by have := of_decide_eq_true hd; omega
      refine ⟨fun x w' r => Fr [] w1 w' ∧ ∃ v : Nat, x = ((v + 1 : Nat) : Int) ∧ v + r = g ∧ ∀ u, u < v → ¬ ∀ x, x < a → m x g = m x u, ⟨g, hf, 0, rfl, by omega, fun u hu => by omega⟩, ?_⟩
      clear hf
      rintro d x w5 r4 ⟨hf, v, rfl, hvr, hcol2⟩
      refine sel_of (fun hd => ?_) (fun hd => ?_)
      · have hv : v < g := by have := of_decide_eq_true hd; omega
        refine ⟨fun b y w' q => Fr [] w1 w' ∧ ∃ j : Nat, y = ((j + 1 : Nat) : Int) ∧ j + q = a ∧ (b = true ↔ ∀ x, x < j → m x g = m x v), ⟨a, hf, 0, rfl, by omega, by simp⟩, ?_⟩
        clear hf
        rintro d bb y w6 q ⟨hf, j, rfl, hjq, hbb⟩
        refine ⟨by omega, by omega, needPtr_of rfl ⟨_, hc2 _ hf, sel_of (fun hd => ?_) (fun hd => ?_)⟩⟩
        · have hj : j < a := by have := of_decide_eq_true hd; omega
          rw [up j (by omega)]
          refine sel_of (fun ht => ?_) (fun ht => ?_)
          · refine Calls.mono (hmk _ hf j g hj hg) ?_
            rintro _ w7 ⟨rfl, f7⟩
            have hf7 := hf.trans f7
            refine ⟨_, rfl, Calls.mono (hmk _ hf7 j v hj (by omega)) ?_⟩
            rintro _ w8 ⟨rfl, f8⟩
            refine ⟨_, rfl, rfl, q - 1, by omega, hf7.trans f8, j + 1, rfl, by omega, ?_⟩
            rw [beq_iff_eq]
            constructor
            · intro h1 u hu
              rcases Nat.lt_or_ge u j with h2 | h2
              · exact hbb.1 ht u h2
              · have : u = j := by omega
                subst this; exact h1
            · exact fun h1 => h1 j (by omega)
          · refine ⟨rfl, q - 1, by omega, hf, j + 1, rfl, by omega, ⟨fun h => (by cases h), fun h => ?_⟩⟩
            exact absurd (hbb.2 fun u hu => h u (by omega)) (by rw [ht]; decide)
        · have hj : j = a := by have := of_decide_eq_false hd; omega
          subst hj
          refine sel_of (fun ht => hno _ hf fun hh => hh.2.2 g hg v hv (hbb.1 ht)) (fun ht => ?_)
          rw [up v (by omega)]
          refine ⟨rfl, r4 - 1, by omega, hf, v + 1, rfl, by omega, fun u hu => ?_⟩
          rcases Nat.lt_or_ge u v with h1 | h1
          · exact hcol2 u h1
          · have : u = v := by omega
            subst this
            exact fun h => absurd (hbb.2 h) (by rw [ht]; decide)
      · have hv : v = g := by have := of_decide_eq_false hd; omega
        subst hv
        rw [up v (by omega)]
        refine ⟨rfl, r3 - 1, by omega, hf, v + 1, rfl, by omega, fun x hx => ?_⟩
        rcases Nat.lt_or_ge x v with h1 | h1
        · exact hcol x h1
        · have : x = v := by omega
          subst this; exact hcol2
    · have hg : g = H3 := by have := of_decide_eq_false hd; omega
      subst hg
      exact ⟨true, rfl, ⟨fun _ => ⟨hyes, hrow, hcol⟩, fun _ => rfl⟩, hf⟩
  · rintro e w' ⟨v, rfl, b, rfl, h⟩; exact ⟨b, rfl, h⟩
end PG
end Go.Proofs.Ytjmlfknogjaemaa
/- Page: the document's Laid. -/
set_option linter.unusedVariables false
set_option linter.unusedSimpArgs false
set_option maxRecDepth 10000
namespace Go.Proofs.Ytjmlfknogjaemaa
open Go Go.Proofs.Ytjmlfknogjaemaa.Vc
namespace PG
open Vc.PG NI
/-- The masks of a page, from 0 on. -/
def mskN (W : List Int) (t : Nat) (x y : Nat) : Int := maskP W t (W.getD 3 0) ((x + 1 : Nat) : Int) ((y + 1 : Nat) : Int)
/-- What the document asks of a page whose table has t places. -/
def LaidT (W : List Int) (t : Nat) : Prop :=
  tabN ((seatsP W 3 t).length + (seatsP W 1 t).length + (seatsP W 2 t).length) = t ∧ (seatsP W 3 t).length ≤ 16 ∧ (seatsP W 1 t).length ≤ 64 ∧ (seatsP W 2 t).length ≤ 64 ∧
  SpansP (seatsP W 3 t) (seatsP W 3 t).length true ∧ SpansP (seatsP W 1 t) (W.getD 2 0).toNat false ∧ SpansP (seatsP W 2 t) (W.getD 3 0).toNat false ∧ ApartP (mskN W t) (W.getD 2 0).toNat (W.getD 3 0).toNat (seatsP W 3 t).length
def LaidP (W : List Int) (l : List ByteArray) : Prop := ∃ t : Nat, tabP W = (t : Int) ∧ 0 < t ∧ shapeB W t = true ∧ seatedB W t l = true ∧ LaidT W t
theorem laidTail {S : List Nat} {w0 w_6 : World} {Aa0 A80 A82 A84 : Option Addr} {na0 ca0 n80 c80 n82 c82 n84 c84 : Nat} {W : List Int} {t : Nat} {R : Value → World → Prop}
    (hW0 : InW w0 Aa0 na0 W) (ht1 : W.getD 1 0 = (t : Int)) (htb : t ≤ 4096) (hb : 0 ≤ W.getD 2 0 ∧ W.getD 2 0 ≤ 64 ∧ 0 ≤ W.getD 3 0 ∧ W.getD 3 0 ≤ 64) (hlen : (na0 : Int) = 4 + 2 * t + W.getD 2 0 * W.getD 3 0)
    (hS : St [] w0 w_6 [sesR (.slice A84 n84 c84) (seatsP W 2 t), sesR (.slice A82 n82 c82) (seatsP W 1 t), sesR (.slice A80 n80 c80) (seatsP W 3 t)])
    (hl : (seatsP W 1 t).length ≤ t ∧ (seatsP W 2 t).length ≤ t ∧ (seatsP W 3 t).length ≤ t)
    (hR : ∀ b : Bool, (b = true ↔ LaidT W t) → ∀ w', Fr [] w0 w' → R (.bool b) w') {x87 x96 : Int} (h87 : x87 = (t : Int)) (h96 : x96 = ((tabN ((seatsP W 3 t).length + (seatsP W 1 t).length + (seatsP W 2 t).length) : Nat) : Int)) :
    sel ((x87 : Int) != (x96 : Int)) (
      R (.bool false) w_6) (
      sel (decide ((16 : Int) < ((n80 : Int) : Int))) (
        R (.bool false) w_6) (
        sel (decide ((64 : Int) < ((n82 : Int) : Int))) (
          R (.bool false) w_6) (
          sel (decide ((64 : Int) < ((n84 : Int) : Int))) (
            R (.bool false) w_6) (
            Calls Try.prog 87 #[.slice A80 n80 c80, .int .i64 (n80 : Int), .bool true] w_6 fun e_7 w_7 =>
            ∃ (b116 : Bool),
            e_7 = .returned (.bool b116) ∧
            (0 : Int) ≤ 2 ∧ 2 < (na0 : Int) ∧
            needPtr Aa0 fun b119 o119 =>
            ∃ (x120 : Int),
            w_7.cell? ⟨b119, o119 + 2, none⟩ = some (.int .i64 x120) ∧
            Calls Try.prog 87 #[.slice A82 n82 c82, .int .i64 x120, .bool false] w_7 fun e_8 w_8 =>
            ∃ (b121 : Bool),
            e_8 = .returned (.bool b121) ∧
            (0 : Int) ≤ 3 ∧ 3 < (na0 : Int) ∧
            needPtr Aa0 fun b124 o124 =>
            ∃ (x125 : Int),
            w_8.cell? ⟨b124, o124 + 3, none⟩ = some (.int .i64 x125) ∧
            Calls Try.prog 87 #[.slice A84 n84 c84, .int .i64 x125, .bool false] w_8 fun e_9 w_9 =>
            ∃ (b126 : Bool),
            e_9 = .returned (.bool b126) ∧
            sel b116 (
              sel b121 (
                sel b126 (
                  Calls Try.prog 88 #[.slice Aa0 na0 ca0, .int .i64 (n80 : Int)] w_9 fun e_10 w_10 =>
                  ∃ (b138 : Bool),
                  e_10 = .returned (.bool b138) ∧
                  R (.bool b138) w_10) (
                  R (.bool false) w_9)) (
                R (.bool false) w_9)) (
              R (.bool false) w_9))))) := by
  have hno : ∀ w', Fr [] w0 w' → ¬ LaidT W t → R (.bool false) w' := fun w' hf hh => hR false ⟨fun h => (by cases h), fun h => absurd h hh⟩ w' hf
  have hP0 : 0 ≤ W.getD 2 0 * W.getD 3 0 := Int.mul_nonneg hb.1 hb.2.2.1
  have g84 := hS.lrLen 0 rfl
  have g82 := hS.lrLen 1 rfl
  have g80 := hS.lrLen 2 rfl
  obtain ⟨b, o, rfl, hc0⟩ := hW0.2 (by omega)
  obtain ⟨H2, h2⟩ : ∃ H2 : Nat, W.getD 2 0 = (H2 : Int) := ⟨(W.getD 2 0).toNat, by omega⟩
  obtain ⟨H3, h3⟩ : ∃ H3 : Nat, W.getD 3 0 = (H3 : Int) := ⟨(W.getD 3 0).toNat, by omega⟩
  have hc2 : ∀ w', Fr [] w0 w' → w'.cell? ⟨b, o + 2, none⟩ = some (.int .i64 (H2 : Int)) := fun w' h => by rw [← h2]; exact h.cell (hc0 2 (by omega))
  have hc3 : ∀ w', Fr [] w0 w' → w'.cell? ⟨b, o + 3, none⟩ = some (.int .i64 (H3 : Int)) := fun w' h => by rw [← h3]; exact h.cell (hc0 3 (by omega))
  have n2 : (W.getD 2 0).toNat = H2 := by omega
  have n3 : (W.getD 3 0).toNat = H3 := by omega
  refine sel_of (fun c => hno _ hS.frame fun hh => ?_) (fun c1 => sel_of (fun c => hno _ hS.frame fun hh => ?_) (fun c2 => sel_of (fun c => hno _ hS.frame fun hh => ?_) (fun c3 => sel_of (fun c => hno _ hS.frame fun hh => ?_) (fun c4 => ?_))))
  · have c : x87 ≠ x96 := by simpa using c
    have := hh.1
    rw [h87, h96, this] at c
    exact c rfl
  · have c := of_decide_eq_true c
    have := hh.2.1; omega
  · have c := of_decide_eq_true c
    have := hh.2.2.1; omega
  · have c := of_decide_eq_true c
    have := hh.2.2.2.1; omega
  have c1 : x87 = x96 := by simpa using c1
  have c2 := of_decide_eq_false c2
  have c3 := of_decide_eq_false c3
  have c4 := of_decide_eq_false c4
  subst g80
  subst g82
  subst g84
  refine Calls.mono (spansR (St.inS hS 2 rfl) (by omega) _ (by omega) true) ?_
  rintro _ w7 ⟨b1, rfl, hb1, f7⟩
  have hS := hS.go f7
  refine ⟨b1, rfl, by omega, by omega, needPtr_of rfl ⟨_, hc2 _ hS.frame, ?_⟩⟩
  refine Calls.mono (spansR (St.inS hS 1 rfl) (by omega) H2 (by omega) false) ?_
  rintro _ w8 ⟨b2, rfl, hb2, f8⟩
  have hS := hS.go f8
  refine ⟨b2, rfl, by omega, by omega, needPtr_of rfl ⟨_, hc3 _ hS.frame, ?_⟩⟩
  refine Calls.mono (spansR (St.inS hS 0 rfl) (by omega) H3 (by omega) false) ?_
  rintro _ w9 ⟨b3, rfl, hb3, f9⟩
  have hS := hS.go f9
  rw [← n2] at hb2
  rw [← n3] at hb3
  have nt : ∀ {b : Bool}, b = false → ¬ (b = true) := fun h => by rw [h]; decide
  refine ⟨b3, rfl, sel_of (fun k1 => sel_of (fun k2 => sel_of (fun k3 => ?_) (fun k3 => hno _ hS.frame fun hh => nt k3 (hb3.2 hh.2.2.2.2.2.2.1))) (fun k2 => hno _ hS.frame fun hh => nt k2 (hb2.2 hh.2.2.2.2.2.1))) (fun k1 => hno _ hS.frame fun hh => nt k1 (hb1.2 hh.2.2.2.2.1))⟩
  refine Calls.mono (apartR (hW0.fr hS.frame) ht1 htb h2 h3 (by omega) (by omega) hlen (seatsP W 3 t).length (by omega)) ?_
  rintro _ w10 ⟨b4, rfl, hb4, f10⟩
  refine ⟨b4, rfl, hR b4 ?_ _ (hS.frame.trans f10)⟩
  rw [hb4]
  unfold LaidT
  rw [n2, n3]
  rw [n2] at hb2
  rw [n3] at hb3
  constructor
  · intro h4
    exact ⟨by omega, by omega, by omega, by omega, hb1.1 k1, hb2.1 k2, hb3.1 k3, h4⟩
  · intro hh
    exact hh.2.2.2.2.2.2.2
theorem laidR {w : World} {A : Option Addr} {n c : Nat} {W : List Int} {x : Nat} {l : List ByteArray} (hW0 : InW w A n W) (hX0 : RefAt w x l) (hl : l.length ≤ 1048576) (hn : n ≤ 1000000000) (hr : ∀ i, W.getD i 0 ≤ 9223372036854775807) :
    Calls Try.prog 59 #[.slice A n c, .pointer (some ⟨x, 0, none⟩)] w fun e w' => ∃ b : Bool, e = .returned (.bool b) ∧ (b = true ↔ LaidP W l) ∧ Fr [] w w' := by
  refine Calls.mono (f59.calls (R := fun v w' => ∃ b : Bool, v = .bool b ∧ (b = true ↔ LaidP W l) ∧ Fr [] w w') ?_) ?_
  · dsimp only [f59.VC]
    have hlen := hW0.1
    have hT := tabP_range W
    have hno : ∀ w', Fr [] w w' → ¬ LaidP W l → ∃ b : Bool, (Value.bool false) = .bool b ∧ (b = true ↔ LaidP W l) ∧ Fr [] w w' := fun w' hf hh => ⟨false, rfl, ⟨fun h => (by cases h), fun h => absurd h hh⟩, hf⟩
    have f0 : Fr [] w w := Fr.refl _ _
    refine sel_of (fun c0 => hno _ f0 fun ⟨t, h1, h2, _⟩ => by have := of_decide_eq_true c0; rw [h1] at hT; have := (hT.2.2 (by omega)).1; omega) (fun c0 => ?_)
    have c0 := of_decide_eq_false c0
    obtain ⟨b, o, rfl, hc0⟩ := hW0.2 (by omega)
    have hc : ∀ w', Fr [] w w' → ∀ q, q < n → w'.cell? ⟨b, o + q, none⟩ = some (.int .i64 (W.getD q 0)) := fun w' h q hq => h.cell (hc0 q hq)
    have hsh : ∀ t, shapeB W t = true ↔ (1 ≤ W.getD 0 0 ∧ W.getD 0 0 ≤ 2147483647 ∧ 0 ≤ W.getD 2 0 ∧ W.getD 2 0 ≤ 64 ∧ 0 ≤ W.getD 3 0 ∧ W.getD 3 0 ≤ 64) ∧ (W.length : Int) = 4 + 2 * t + W.getD 2 0 * W.getD 3 0 := by
      intro t
      unfold shapeB
      rw [Bool.and_eq_true, decide_eq_true_iff, decide_eq_true_iff]
    have herr : ∀ w', Fr [] w w' → ¬ (1 ≤ W.getD 0 0 ∧ W.getD 0 0 ≤ 2147483647 ∧ 0 ≤ W.getD 2 0 ∧ W.getD 2 0 ≤ 64 ∧ 0 ≤ W.getD 3 0 ∧ W.getD 3 0 ≤ 64) → ∃ b : Bool, (Value.bool false) = .bool b ∧ (b = true ↔ LaidP W l) ∧ Fr [] w w' := fun w' hf hh => hno w' hf fun ⟨t, _, _, h3, _⟩ => hh ((hsh t).1 h3).1
    refine ⟨by omega, by omega, needPtr_of rfl ⟨_, hc w f0 0 (by omega), sel_of (fun c1 => herr _ f0 fun hh => by have := of_decide_eq_true c1; omega) (fun c1 => ?_)⟩⟩
    have c1 := of_decide_eq_false c1
    refine ⟨by omega, by omega, needPtr_of rfl ⟨_, hc w f0 0 (by omega), sel_of (fun c2 => herr _ f0 fun hh => by have := of_decide_eq_true c2; omega) (fun c2 => ?_)⟩⟩
    have c2 := of_decide_eq_false c2
    refine ⟨by omega, by omega, needPtr_of rfl ⟨_, hc w f0 2 (by omega), sel_of (fun c3 => herr _ f0 fun hh => by have := of_decide_eq_true c3; omega) (fun c3 => ?_)⟩⟩
    have c3 := of_decide_eq_false c3
    refine ⟨by omega, by omega, needPtr_of rfl ⟨_, hc w f0 2 (by omega), sel_of (fun c4 => herr _ f0 fun hh => by have := of_decide_eq_true c4; omega) (fun c4 => ?_)⟩⟩
    have c4 := of_decide_eq_false c4
    refine ⟨by omega, by omega, needPtr_of rfl ⟨_, hc w f0 3 (by omega), sel_of (fun c5 => herr _ f0 fun hh => by have := of_decide_eq_true c5; omega) (fun c5 => ?_)⟩⟩
    have c5 := of_decide_eq_false c5
    refine ⟨by omega, by omega, needPtr_of rfl ⟨_, hc w f0 3 (by omega), sel_of (fun c6 => herr _ f0 fun hh => by have := of_decide_eq_true c6; omega) (fun c6 => ?_)⟩⟩
    have c6 := of_decide_eq_false c6
    refine ⟨by omega, by omega, needPtr_of rfl ⟨_, hc w f0 1 (by omega), ?_⟩⟩
    have hb : 0 ≤ W.getD 2 0 ∧ W.getD 2 0 ≤ 64 ∧ 0 ≤ W.getD 3 0 ∧ W.getD 3 0 ≤ 64 := by omega
    refine Calls.mono (powR w.drew _) ?_
    rintro _ w1 ⟨rfl, rfl⟩
    have f1 : Fr [] w w.drew := f0.drew
    refine ⟨_, rfl, sel_of (fun c7 => hno _ f1 fun ⟨t, h1, h2, _⟩ => ?_) (fun c7 => ?_)⟩
    · rw [h1] at hT
      have := hT.2.2 (by omega)
      rw [this.2.2.1, this.2.2.2.1] at c7
      cases c7
    have c7 : powB (W.getD 1 0) = true := by simpa using c7
    have hpr := powB_range c7
    obtain ⟨t, ht1⟩ : ∃ t : Nat, W.getD 1 0 = t := ⟨(W.getD 1 0).toNat, by omega⟩
    have k1 := hc w.drew f1 1 (by omega)
    rw [ht1] at k1 hpr c7
    have hP0 : 0 ≤ W.getD 2 0 * W.getD 3 0 := Int.mul_nonneg (by omega) (by omega)
    have hP1 : W.getD 2 0 * W.getD 3 0 ≤ 64 * 64 := Int.mul_le_mul (by omega) (by omega) (by omega) (by decide)
    have eL : IntKind.i64.wrap (IntKind.i64.wrap (4 + IntKind.i64.wrap (2 * (t : Int))) + IntKind.i64.wrap (W.getD 2 0 * W.getD 3 0)) = 4 + 2 * t + W.getD 2 0 * W.getD 3 0 := by
      generalize W.getD 2 0 * W.getD 3 0 = p at *
      rw [i64_id (x := 2 * _) (by omega) (by omega), i64_id (x := p) (by omega) (by omega), i64_id (x := 4 + _) (by omega) (by omega), i64_id (by omega) (by omega)]
    refine ⟨by omega, by omega, needPtr_of rfl ⟨by omega, by omega, needPtr_of rfl ⟨by omega, by omega, needPtr_of rfl ⟨_, k1, _, hc _ f1 2 (by omega), _, hc _ f1 3 (by omega), ?_⟩⟩⟩⟩
    rw [eL]
    refine sel_of (fun c8 => hno _ f1 fun ⟨t', h1, h2, h3, _⟩ => ?_) (fun c8 => ?_)
    · have c8 : (n : Int) ≠ 4 + 2 * t + W.getD 2 0 * W.getD 3 0 := by simpa using c8
      rw [h1] at hT
      have := (hT.2.2 (by omega)).2.2.1
      have := ((hsh t').1 h3).2
      omega
    have c8 : (n : Int) = 4 + 2 * t + W.getD 2 0 * W.getD 3 0 := by simpa using c8
    have ht : tabP W = (t : Int) := by
      unfold tabP
      rw [if_neg (by omega), ht1, if_pos ⟨c7, by omega⟩]
    have hshape : shapeB W t = true := (hsh t).2 ⟨by omega, by omega⟩
    refine Calls.mono (seatedR (hW0.fr f1) (hX0.fr f1) hl hn hr ht (by omega)) ?_
    rintro _ w2 ⟨rfl, f2⟩
    have f2 := f1.trans f2
    refine ⟨_, rfl, sel_of (fun c9 => hno _ f2 fun ⟨t', h1, h2, h3, h4, _⟩ => ?_) (fun c9 => ?_)⟩
    · rw [ht] at h1
      have : t' = t := by omega
      subst this
      rw [h4] at c9; cases c9
    have c9 : seatedB W t l = true := by simpa using c9
    have hWf : ∀ w', Fr [] w w' → InW w' (some ⟨b, o, none⟩) n W := fun w' h => hW0.fr h
    refine Calls.mono (seatsR ((St.start w).go f2) hWf hr ht1 (by omega) (by omega) 3) ?_
    rintro _ w3 ⟨XA, rfl, hS3⟩
    refine ⟨_, _, _, rfl, Calls.mono (seatsR hS3 hWf hr ht1 (by omega) (by omega) 1) ?_⟩
    rintro _ w4 ⟨XS, rfl, hS4⟩
    refine ⟨_, _, _, rfl, Calls.mono (seatsR hS4 hWf hr ht1 (by omega) (by omega) 2) ?_⟩
    rintro _ w5 ⟨XO, rfl, hS5⟩
    have gA := hS5.lrLen 2 rfl
    have gS := hS5.lrLen 1 rfl
    have gO := hS5.lrLen 0 rfl
    have l1 : (seatsP W 1 t).length ≤ t := by unfold seatsP; rw [srt_len]; exact rawS_len W 1 t
    have l2 : (seatsP W 2 t).length ≤ t := by unfold seatsP; rw [srt_len]; exact rawS_len W 2 t
    have l3 : (seatsP W 3 t).length ≤ t := by unfold seatsP; rw [srt_len]; exact rawS_len W 3 t
    have hRR : ∀ b : Bool, (b = true ↔ LaidT W t) → ∀ w', Fr [] w w' → ∃ b' : Bool, (Value.bool b) = .bool b' ∧ (b' = true ↔ LaidP W l) ∧ Fr [] w w' := by
      intro b hb w' hf
      refine ⟨b, rfl, ?_, hf⟩
      rw [hb]
      constructor
      · exact fun h => ⟨t, ht, by omega, hshape, c9, h⟩
      · rintro ⟨t', h1, _, _, _, h5⟩
        rw [ht] at h1
        have : t' = t := by omega
        subst this; exact h5
    have eK : IntKind.i64.wrap (IntKind.i64.wrap ((XA.2.1 : Int) + XS.2.1) + XO.2.1) = ((((seatsP W 3 t).length + (seatsP W 1 t).length + (seatsP W 2 t).length : Nat)) : Int) := by
      rw [i64_id (x := (XA.2.1 : Int) + XS.2.1) (by omega) (by omega), i64_id (by omega) (by omega)]; omega
    have k5 := hc w5 hS5.frame 1 (by omega)
    rw [ht1] at k5
    refine ⟨_, _, _, rfl, by omega, by omega, needPtr_of rfl ?_⟩
    rw [eK]
    have htb : ∀ w', Calls Try.prog 43 #[.int .i64 ((((seatsP W 3 t).length + (seatsP W 1 t).length + (seatsP W 2 t).length : Nat)) : Int)] w' fun e w'' => e = .returned (.int .i64 (tabN ((seatsP W 3 t).length + (seatsP W 1 t).length + (seatsP W 2 t).length) : Int)) ∧ w'' = w' := fun w' => tableR w' _ (by omega)
    have hS6 := hS5.drew
    refine ⟨⟨_, k5, Calls.mono (htb _) ?_⟩, Calls.mono (htb _) ?_, trivial⟩
    · rintro _ w6 ⟨rfl, rfl⟩
      exact ⟨_, rfl, laidTail (S := []) (R := fun v w' => ∃ b : Bool, v = .bool b ∧ (b = true ↔ LaidP W l) ∧ Fr [] w w') hW0 ht1 (by omega) hb c8 hS6 ⟨l1, l2, l3⟩ hRR rfl rfl⟩
    · rintro _ w6 ⟨rfl, rfl⟩
      exact ⟨_, rfl, _, (Fr.refl [] w5).drew.cell k5, laidTail (S := []) (R := fun v w' => ∃ b : Bool, v = .bool b ∧ (b = true ↔ LaidP W l) ∧ Fr [] w w') hW0 ht1 (by omega) hb c8 hS6 ⟨l1, l2, l3⟩ hRR rfl rfl⟩
  · rintro e w' ⟨v, rfl, b, rfl, h⟩; exact ⟨b, rfl, h⟩
end PG
end Go.Proofs.Ytjmlfknogjaemaa
