/- Page: what the document asks of a page is what the program asks: the plain law. -/
import Derived.Test.YtjmlfknogjaemaaDoorM26
import Derived.Test.YtjmlfknogjaemaaDoorM19
set_option linter.unusedVariables false
set_option linter.unusedSimpArgs false
set_option maxRecDepth 10000
namespace Go.Proofs.YtjmlfknogjaemaaDoor
open Go Go.Proofs.YtjmlfknogjaemaaDoor.Vc
namespace PG
open Vc.PG NI
theorem len_of_sub {α : Type} [DecidableEq α] : ∀ {l m : List α}, l.Nodup → (∀ x ∈ l, x ∈ m) → l.length ≤ m.length
  | [], m, _, _ => Nat.zero_le _
  | k :: l, m, hn, hs => by
    obtain ⟨h1, h2⟩ := List.nodup_cons.1 hn
    have hk : k ∈ m := hs k List.mem_cons_self
    have hl := (List.perm_cons_erase hk).length_eq
    simp only [List.length_cons] at hl ⊢
    have := len_of_sub h2 (m := m.erase k) fun x hx => by
      have hne : x ≠ k := fun e => h1 (e ▸ hx)
      exact (List.mem_erase_of_ne hne).2 (hs x (List.mem_cons_of_mem _ hx))
    omega
/-- The numbers from 1 to n. -/
def oneTo (n : Nat) : List Int := (List.range n).map fun (i : Nat) => ((i + 1 : Nat) : Int)
theorem oneTo_nodup (n : Nat) : (oneTo n).Nodup := by
  unfold oneTo
  rw [List.Nodup, List.pairwise_map]
  exact List.Pairwise.imp (fun hab => by omega) List.nodup_range
theorem oneTo_len (n : Nat) : (oneTo n).length = n := by simp [oneTo]
theorem oneTo_mem {n : Nat} {x : Int} : x ∈ oneTo n ↔ 1 ≤ x ∧ x ≤ n := by
  unfold oneTo
  constructor
  · intro h
    obtain ⟨i, hi, rfl⟩ := List.mem_map.1 h
    rw [List.mem_range] at hi; omega
  · intro h
    exact List.mem_map.2 ⟨(x - 1).toNat, List.mem_range.2 (by omega), by omega⟩
theorem cnt_map (l : List Se) (k : Int) : cnt l k = ((l.map (·.2)).filter fun x => decide (x = k)).length := by
  unfold cnt
  rw [List.filter_map, List.length_map]; rfl
theorem cnt_pos {l : List Se} {k : Int} : cnt l k ≠ 0 ↔ ∃ p ∈ l, p.2 = k := by
  unfold cnt
  rw [← Nat.pos_iff_ne_zero, List.length_pos_iff_exists_mem]
  constructor
  · rintro ⟨p, hp⟩
    obtain ⟨h1, h2⟩ := List.mem_filter.1 hp
    exact ⟨p, h1, of_decide_eq_true h2⟩
  · rintro ⟨p, h1, h2⟩
    exact ⟨p, List.mem_filter.2 ⟨h1, decide_eq_true h2⟩⟩
theorem nodup_once {l : List Int} (h : l.Nodup) (k : Int) : (l.filter fun x => decide (x = k)).length ≤ 1 := by
  have hn : (l.filter fun x => decide (x = k)).Nodup := h.filter _
  have := len_of_sub (m := [k]) hn fun x hx => by
    have := of_decide_eq_true (List.mem_filter.1 hx).2
    simp [this]
  simpa using this
theorem listed_spans (a : List Se) : listedB a = true ↔ SpansP a a.length true := by
  constructor
  · intro h
    unfold listedB at h
    rw [List.all_eq_true] at h
    have hper : (oneTo a.length).Perm (a.map (·.2)) := by
      refine perm_of_sub (oneTo_nodup _) ?_ (by rw [oneTo_len]; simp)
      intro x hx
      have hx := oneTo_mem.1 hx
      obtain ⟨p, hpa, hpe⟩ := seatOf_isSome.1 (h (x - 1).toNat (List.mem_range.2 (by omega)))
      exact List.mem_map.2 ⟨p, hpa, by omega⟩
    refine ⟨fun k hk => ⟨?_, fun _ => ?_⟩, fun i hi => ?_⟩
    · exact cnt_pos.2 (seatOf_isSome.1 (h k (List.mem_range.2 hk)))
    · rw [cnt_map, ← (hper.filter _).length_eq]
      exact nodup_once (oneTo_nodup _) _
    · have : (a.getD i se0).2 ∈ a.map (·.2) := List.mem_map.2 ⟨_, (mem_getD se0 _ _).2 ⟨i, hi, rfl⟩, rfl⟩
      exact oneTo_mem.1 (hper.mem_iff.2 this)
  · intro h
    unfold listedB
    rw [List.all_eq_true]
    intro i hi
    rw [List.mem_range] at hi
    exact seatOf_isSome.2 (cnt_pos.1 (h.1 i hi).1)
theorem namedGo_sup (l : List ByteArray) : ∀ (s : List Se) (t : List ByteArray × List Int × List Int) (x : Int), (x ∈ t.2.2 ∨ ∃ p ∈ s, p.2 = x) → x ∈ (s.foldl (namedStep l) t).2.2
  | [], t, x, h => by simpa using h
  | p :: s, t, x, h => by
    refine namedGo_sup l s _ x ?_
    have key : x ∈ t.2.2 ∨ p.2 = x → x ∈ (namedStep l t p).2.2 := by
      intro hh
      unfold namedStep
      split
      · rename_i hx
        simp only [List.mem_append, List.mem_singleton]
        rcases hh with hh | hh
        · exact .inl hh
        · exact .inr hh.symm
      · rename_i hx
        rcases hh with hh | rfl
        · exact hh
        · show p.2 ∈ t.2.2
          refine (memB_iff _ _).1 ?_
          rw [← idxI_mem]
          exact decide_eq_true (by omega)
    rcases h with h | ⟨q, hq, he⟩
    · exact .inl (key (.inl h))
    · rcases List.mem_cons.1 hq with rfl | hq
      · exact .inl (key (.inr he))
      · exact .inr ⟨q, hq, he⟩
theorem namedP_mem {l : List ByteArray} {s : List Se} {x : Int} : x ∈ (namedP l s).2.2 ↔ ∃ p ∈ s, p.2 = x :=
  ⟨namedP_sub, fun h => namedGo_sup l s _ x (.inr h)⟩
theorem whole_spans (l : List ByteArray) (s : List Se) (N : Nat) : wholeB (namedP l s).2.2 (N : Int) = true ↔ SpansP s N false := by
  have hn := namedP_nodup l s
  constructor
  · intro h
    obtain ⟨h1, h2⟩ := whole_parts h
    have hper := perm_of_sub (m := oneTo N) hn (fun x hx => oneTo_mem.2 (h1 x hx)) (by rw [oneTo_len]; omega)
    refine ⟨fun k hk => ⟨?_, fun h => (by cases h)⟩, fun i hi => ?_⟩
    · exact cnt_pos.2 (namedP_mem.1 (hper.mem_iff.2 (oneTo_mem.2 (by omega))))
    · exact h1 _ (namedP_mem.2 ⟨_, (mem_getD se0 _ _).2 ⟨i, hi, rfl⟩, rfl⟩)
  · intro h
    have h1 := spans_rows (l := l) h
    have l1 := len_of_sub (m := oneTo N) hn (fun x hx => oneTo_mem.2 (h1 x hx))
    have l2 := len_of_sub (m := (namedP l s).2.2) (oneTo_nodup N) fun x hx => by
      have hx := oneTo_mem.1 hx
      have := cnt_pos.1 (h.1 (x - 1).toNat (by omega)).1
      rw [show (((x - 1).toNat + 1 : Nat) : Int) = x by omega] at this
      exact namedP_mem.2 this
    rw [oneTo_len] at l1 l2
    unfold wholeB
    rw [Bool.and_eq_true, List.all_eq_true]
    exact ⟨fun x hx => decide_eq_true (h1 x hx), decide_eq_true (by omega)⟩
theorem great_app : ∀ (a b : List Int) (n : Nat), great (a ++ b) n = (great a n).bind (great b)
  | [], b, n => rfl
  | x :: a, b, n => by
    rw [List.cons_append, great, great]
    split
    · rfl
    · exact great_app a b _
theorem idxI_lt (l : List Int) (s : Int) : idxI l s < (l.length : Int) := by
  unfold idxI
  split
  · rename_i k hk
    have := (List.findIdx?_eq_some_iff_getElem.1 hk).1
    omega
  · omega
theorem namedGo_great (l : List ByteArray) : ∀ (s : List Se) (t : List ByteArray × List Int × List Int), great t.2.1 0 = some t.2.2.length → great (s.foldl (namedStep l) t).2.1 0 = some (s.foldl (namedStep l) t).2.2.length
  | [], t, h => h
  | p :: s, t, h => by
    refine namedGo_great l s _ ?_
    unfold namedStep
    split
    · rename_i hx
      show great (t.2.1 ++ [((t.2.2.length + 1 : Nat) : Int)]) 0 = some (t.2.2 ++ [p.2]).length
      rw [great_app, h]
      show great [((t.2.2.length + 1 : Nat) : Int)] t.2.2.length = _
      rw [great, if_neg (by omega), great, List.length_append, List.length_singleton]
      congr 1
      omega
    · rename_i hx
      have hlt := idxI_lt t.2.2 p.2
      show great (t.2.1 ++ [idxI t.2.2 p.2 + 1]) 0 = some t.2.2.length
      rw [great_app, h]
      show great [idxI t.2.2 p.2 + 1] t.2.2.length = _
      rw [great, if_neg (by omega), great]
      congr 1
      omega
theorem named_great (l : List ByteArray) (s : List Se) : great (namedP l s).2.1 0 = some (namedP l s).2.2.length := namedGo_great l s _ rfl
theorem namedGo_names (l : List ByteArray) : ∀ (s : List Se) (t : List ByteArray × List Int × List Int), (s.foldl (namedStep l) t).1 = t.1 ++ s.map fun p => (thing l p.1).1
  | [], t => by simp
  | p :: s, t => by
    rw [List.foldl_cons, namedGo_names l s]
    have : (namedStep l t p).1 = t.1 ++ [(thing l p.1).1] := by unfold namedStep; split <;> rfl
    rw [this, List.append_assoc]; rfl
theorem named_names (l : List ByteArray) (s : List Se) : (namedP l s).1 = s.map fun p => (thing l p.1).1 := by
  unfold namedP
  rw [namedGo_names]; rfl
theorem thing_inj {l : List ByteArray} (hl : l.Nodup) {x y : Int} (hx : (thing l x).2 = true) (hy : (thing l y).2 = true) (h : (thing l x).1 = (thing l y).1) : x = y := by
  unfold thing at hx hy h
  by_cases c1 : x < 1 ∨ (l.length : Int) < x
  · rw [if_pos c1] at hx; cases hx
  by_cases c2 : y < 1 ∨ (l.length : Int) < y
  · rw [if_pos c2] at hy; cases hy
  rw [if_neg c1, if_neg c2] at h
  have hg := (nodup_getD ⟨#[]⟩ l).1 hl
  rcases Nat.lt_trichotomy (x - 1).toNat (y - 1).toNat with h1 | h1 | h1
  · exact absurd h (hg _ _ h1 (by omega))
  · omega
  · exact absurd h.symm (hg _ _ h1 (by omega))
theorem map_nodup {α β : Type} {f : α → β} : ∀ {l : List α}, l.Nodup → ((l.map f).Nodup ↔ ∀ a ∈ l, ∀ b ∈ l, a ≠ b → f a ≠ f b)
  | [], _ => by simp
  | x :: l, h => by
    obtain ⟨h1, h2⟩ := List.nodup_cons.1 h
    rw [List.map_cons, List.nodup_cons, map_nodup h2]
    constructor
    · rintro ⟨k1, k2⟩ a ha b hb hab
      rcases List.mem_cons.1 ha with ea | ha2
      · rcases List.mem_cons.1 hb with eb | hb2
        · exact absurd (ea.trans eb.symm) hab
        · exact fun he => k1 (List.mem_map.2 ⟨b, hb2, by rw [← ea, he]⟩)
      · rcases List.mem_cons.1 hb with eb | hb2
        · exact fun he => k1 (List.mem_map.2 ⟨a, ha2, by rw [← eb, he]⟩)
        · exact k2 a ha2 b hb2 hab
    · intro hh
      refine ⟨fun hm => ?_, fun a ha b hb hab => hh a (List.mem_cons_of_mem _ ha) b (List.mem_cons_of_mem _ hb) hab⟩
      obtain ⟨b, hb, he⟩ := List.mem_map.1 hm
      have hne : x ≠ b := fun e => h1 (e ▸ hb)
      exact hh x List.mem_cons_self b (List.mem_cons_of_mem _ hb) hne he.symm
/-- The seats of a kind: each symbol once, each with a name. -/
theorem seats_good {W : List Int} {t : Nat} {l : List ByteArray} (h : seatedB W t l = true) (k : Int) : (seatsP W k t).Pairwise (fun x y => x.1 ≠ y.1) ∧ ∀ p ∈ seatsP W k t, (thing l p.1).2 = true := by
  unfold seatedB at h
  rw [List.all_eq_true] at h
  have hok : ∀ i, i < t → okAt W t l i = true := fun i hi => h i (List.mem_range.2 hi)
  refine ⟨((srt_perm _).pairwise_iff (fun h => Ne.symm h)).2 (rawS_apart hok), fun p hp => ?_⟩
  obtain ⟨i, hi, h1, h2, rfl⟩ := rawS_mem ((srt_perm _).mem_iff.1 hp)
  have := hok i hi
  unfold okAt at this
  rcases Bool.or_eq_true_iff.1 this with h3 | h3
  · rw [Bool.and_eq_true, decide_eq_true_iff, decide_eq_true_iff] at h3; omega
  · rw [Bool.and_eq_true, Bool.and_eq_true] at h3; exact h3.1.2
theorem apart_inj {a : List Se} (h : a.Pairwise (fun x y => x.1 ≠ y.1)) : ∀ p ∈ a, ∀ q ∈ a, p.1 = q.1 → p = q := by
  intro p hp q hq he
  obtain ⟨i, hi, rfl⟩ := (mem_getD se0 _ _).1 hp
  obtain ⟨j, hj, rfl⟩ := (mem_getD se0 _ _).1 hq
  rw [List.pairwise_iff_getElem] at h
  have e1 : ∀ i (h : i < a.length), a.getD i se0 = a[i] := fun i h => by simp [List.getD_eq_getElem?_getD, h]
  rcases Nat.lt_trichotomy i j with h1 | rfl | h1
  · have := h i j hi hj h1
    rw [e1 i hi, e1 j hj] at he
    exact absurd he this
  · rfl
  · have := h j i hj hi h1
    rw [e1 i hi, e1 j hj] at he
    exact absurd he.symm this
theorem nodup_of_apart {a : List Se} (h : a.Pairwise (fun x y => x.1 ≠ y.1)) : a.Nodup := h.imp fun hab he => hab (by rw [he])
theorem names_nodup {l : List ByteArray} (hl : l.Nodup) {a : List Se} (h : a.Pairwise (fun x y => x.1 ≠ y.1)) (hv : ∀ p ∈ a, (thing l p.1).2 = true) : (a.map fun p => (thing l p.1).1).Nodup := by
  rw [map_nodup (nodup_of_apart h)]
  intro p hp q hq hne he
  exact hne (apart_inj h p hp q hq (thing_inj hl (hv p hp) (hv q hq) he))
theorem listed_nodup {l : List ByteArray} (hl : l.Nodup) {a : List Se} (h : a.Pairwise (fun x y => x.1 ≠ y.1)) (hv : ∀ p ∈ a, (thing l p.1).2 = true) (hs : listedB a = true) : (listedP l a).Nodup := by
  rw [listedP_nameK, map_nodup List.nodup_range]
  unfold listedB at hs
  rw [List.all_eq_true] at hs
  intro i hi j hj hij he
  obtain ⟨p, hp⟩ := Option.isSome_iff_exists.1 (hs i hi)
  obtain ⟨q, hq⟩ := Option.isSome_iff_exists.1 (hs j hj)
  obtain ⟨p1, p2⟩ := seatOf_some hp
  obtain ⟨q1, q2⟩ := seatOf_some hq
  unfold nameK at he
  rw [hp, hq] at he
  have := apart_inj h p p1 q q1 (thing_inj hl (hv p p1) (hv q q1) he)
  rw [this] at p2
  omega
/-- Masks of rows and columns: all right. -/
theorem masks_shaped (f : Int → Int → Int) (R C : List Int) (b : Nat) : shapedB (R.map fun r => C.map fun y => f r y) R.length C.length b = true ↔ ∀ r ∈ R, ∀ y ∈ C, f r y < 2 ^ b := by
  unfold shapedB
  rw [Bool.and_eq_true, decide_eq_true_iff, List.all_eq_true]
  constructor
  · rintro ⟨_, h⟩ r hr y hy
    have := h _ (List.mem_map.2 ⟨r, hr, rfl⟩)
    rw [Bool.and_eq_true, List.all_eq_true] at this
    exact of_decide_eq_true (this.2 _ (List.mem_map.2 ⟨y, hy, rfl⟩))
  · intro h
    refine ⟨by simp, fun x hx => ?_⟩
    obtain ⟨r, hr, rfl⟩ := List.mem_map.1 hx
    rw [Bool.and_eq_true, List.all_eq_true]
    refine ⟨decide_eq_true (by simp), fun m hm => ?_⟩
    obtain ⟨y, hy, rfl⟩ := List.mem_map.1 hm
    exact decide_eq_true (h r hr y hy)
theorem rows_nodup (f : Int → Int → Int) {R C : List Int} (hR : R.Nodup) : (R.map fun r => C.map fun y => f r y).Nodup ↔ ∀ r ∈ R, ∀ r' ∈ R, r ≠ r' → ¬ ∀ y ∈ C, f r y = f r' y := by
  rw [map_nodup hR]
  constructor
  · exact fun h r hr r' hr' hne he => h r hr r' hr' hne (List.map_inj_left.2 he)
  · exact fun h r hr r' hr' hne he => h r hr r' hr' hne (List.map_inj_left.1 he)
theorem cols_eq (f : Int → Int → Int) (R C : List Int) : (List.range C.length).map (col (R.map fun r => C.map fun y => f r y)) = C.map fun y => R.map fun r => f r y := by
  apply List.ext_getElem (by simp)
  intro i h1 h2
  simp only [List.length_map, List.length_range] at h1
  simp only [List.getElem_map, List.getElem_range]
  unfold col
  rw [List.map_map]
  refine List.map_inj_left.2 fun r _ => ?_
  simp [List.getD_eq_getElem?_getD, h1]
theorem cols_nodup (f : Int → Int → Int) {R C : List Int} (hC : C.Nodup) : ((List.range C.length).map (col (R.map fun r => C.map fun y => f r y))).Nodup ↔ ∀ y ∈ C, ∀ y' ∈ C, y ≠ y' → ¬ ∀ r ∈ R, f r y = f r y' := by
  rw [cols_eq, map_nodup hC]
  constructor
  · exact fun h y hy y' hy' hne he => h y hy y' hy' hne (List.map_inj_left.2 he)
  · exact fun h y hy y' hy' hne he => h y hy y' hy' hne (List.map_inj_left.1 he)
theorem apart_iff (f : Int → Int → Int) {R C : List Int} {H2 H3 b : Nat} (hR : ∀ x, x ∈ R ↔ 1 ≤ x ∧ x ≤ (H2 : Int)) (hC : ∀ x, x ∈ C ↔ 1 ≤ x ∧ x ≤ (H3 : Int)) :
    ApartP (fun x y => f ((x + 1 : Nat) : Int) ((y + 1 : Nat) : Int)) H2 H3 b ↔ (∀ r ∈ R, ∀ y ∈ C, 0 ≤ f r y ∧ f r y < 2 ^ b) ∧ (∀ r ∈ R, ∀ r' ∈ R, r ≠ r' → ¬ ∀ y ∈ C, f r y = f r' y) ∧ (∀ y ∈ C, ∀ y' ∈ C, y ≠ y' → ¬ ∀ r ∈ R, f r y = f r y') := by
  have toN : ∀ {x : Int}, 1 ≤ x → (((x - 1).toNat + 1 : Nat) : Int) = x := fun h => by omega
  unfold ApartP
  dsimp only
  constructor
  · rintro ⟨h1, h2, h3⟩
    refine ⟨fun r hr y hy => ?_, fun r hr r' hr' hne he => ?_, fun y hy y' hy' hne he => ?_⟩
    · have a1 := (hR r).1 hr
      have a2 := (hC y).1 hy
      have := h1 (r - 1).toNat (by omega) (y - 1).toNat (by omega)
      rwa [toN a1.1, toN a2.1] at this
    · have a1 := (hR r).1 hr
      have a2 := (hR r').1 hr'
      rcases Int.lt_or_gt_of_ne hne with h | h
      · refine h2 (r' - 1).toNat (by omega) (r - 1).toNat (by omega) fun y hy => ?_
        simp only [toN a1.1, toN a2.1]
        exact (he _ ((hC _).2 (by omega))).symm
      · refine h2 (r - 1).toNat (by omega) (r' - 1).toNat (by omega) fun y hy => ?_
        simp only [toN a1.1, toN a2.1]
        exact he _ ((hC _).2 (by omega))
    · have a1 := (hC y).1 hy
      have a2 := (hC y').1 hy'
      rcases Int.lt_or_gt_of_ne hne with h | h
      · refine h3 (y' - 1).toNat (by omega) (y - 1).toNat (by omega) fun x hx => ?_
        simp only [toN a1.1, toN a2.1]
        exact (he _ ((hR _).2 (by omega))).symm
      · refine h3 (y - 1).toNat (by omega) (y' - 1).toNat (by omega) fun x hx => ?_
        simp only [toN a1.1, toN a2.1]
        exact he _ ((hR _).2 (by omega))
  · rintro ⟨h1, h2, h3⟩
    refine ⟨fun x hx y hy => h1 _ ((hR _).2 (by omega)) _ ((hC _).2 (by omega)), fun x hx k hk he => ?_, fun y hy k hk he => ?_⟩
    · refine h2 ((x + 1 : Nat) : Int) ((hR _).2 (by omega)) ((k + 1 : Nat) : Int) ((hR _).2 (by omega)) (by omega) fun y hy => ?_
      have a := (hC y).1 hy
      have := he (y - 1).toNat (by omega)
      simp only [toN a.1] at this
      exact this
    · refine h3 ((y + 1 : Nat) : Int) ((hC _).2 (by omega)) ((k + 1 : Nat) : Int) ((hC _).2 (by omega)) (by omega) fun x hx => ?_
      have a := (hR x).1 hx
      have := he (x - 1).toNat (by omega)
      simp only [toN a.1] at this
      exact this
/-- What the document asks is what the program asks. -/
theorem good_laid {W : List Int} {t : Nat} {l : List ByteArray} (hl : l.Nodup) (hb : 0 ≤ W.getD 2 0 ∧ 0 ≤ W.getD 3 0) (hseat : seatedB W t l = true) : goodB W t l = true ↔ LaidT W t := by
  obtain ⟨H2, h2⟩ : ∃ H2 : Nat, W.getD 2 0 = (H2 : Int) := ⟨(W.getD 2 0).toNat, by omega⟩
  obtain ⟨H3, h3⟩ : ∃ H3 : Nat, W.getD 3 0 = (H3 : Int) := ⟨(W.getD 3 0).toNat, by omega⟩
  have n2 : (W.getD 2 0).toNat = H2 := by omega
  have n3 : (W.getD 3 0).toNat = H3 := by omega
  have sA := seats_good hseat 3
  have sS := seats_good hseat 1
  have sO := seats_good hseat 2
  have eA : (gA (graphP W t l)).length = (seatsP W 3 t).length := by show (listedP l (seatsP W 3 t)).length = _; unfold listedP; simp
  have eS : (gS (graphP W t l)).length = (seatsP W 1 t).length := (namedP_len l (seatsP W 1 t)).1
  have eO : (gO (graphP W t l)).length = (seatsP W 2 t).length := (namedP_len l (seatsP W 2 t)).1
  have eF : (gF (graphP W t l)).length = (seatsP W 1 t).length := (namedP_len l (seatsP W 1 t)).2.1
  have eN : (gN (graphP W t l)).length = (seatsP W 2 t).length := (namedP_len l (seatsP W 2 t)).2.1
  have gr1 : great (gF (graphP W t l)) 0 = some (rowsP W t l).length := named_great l (seatsP W 1 t)
  have gr2 : great (gN (graphP W t l)) 0 = some (colsP W t l).length := named_great l (seatsP W 2 t)
  have ndS : (gS (graphP W t l)).Nodup := by
    show (namedP l (seatsP W 1 t)).1.Nodup
    rw [named_names]; exact names_nodup hl sS.1 sS.2
  have ndO : (gO (graphP W t l)).Nodup := by
    show (namedP l (seatsP W 2 t)).1.Nodup
    rw [named_names]; exact names_nodup hl sO.1 sO.2
  have hM : gM (graphP W t l) = (rowsP W t l).map fun r => (colsP W t l).map fun y => maskP W t (W.getD 3 0) r y := rfl
  have rn : (rowsP W t l).Nodup := namedP_nodup l _
  have cn : (colsP W t l).Nodup := namedP_nodup l _
  rw [good_parts]
  unfold LaidT
  rw [h2, h3, Int.toNat_natCast, Int.toNat_natCast, listed_spans, whole_spans, whole_spans]
  rw [h3] at hM
  have valid_iff : listedB (seatsP W 3 t) = true → (validP (graphP W t l) = true ↔ ((seatsP W 3 t).length ≤ 16 ∧ (seatsP W 1 t).length ≤ 64 ∧ (seatsP W 2 t).length ≤ 64) ∧
      (∀ r ∈ rowsP W t l, ∀ y ∈ colsP W t l, maskP W t (H3 : Int) r y < 2 ^ (seatsP W 3 t).length) ∧ (∀ r ∈ rowsP W t l, ∀ r' ∈ rowsP W t l, r ≠ r' → ¬ ∀ y ∈ colsP W t l, maskP W t (H3 : Int) r y = maskP W t (H3 : Int) r' y) ∧ (∀ y ∈ colsP W t l, ∀ y' ∈ colsP W t l, y ≠ y' → ¬ ∀ r ∈ rowsP W t l, maskP W t (H3 : Int) r y = maskP W t (H3 : Int) r y')) := by
    intro hls
    have ndA : (gA (graphP W t l)).Nodup := listed_nodup hl sA.1 sA.2 hls
    unfold validP
    rw [gr1, gr2, eA, eS, eO, eF, eN, hM]
    simp only [Bool.and_eq_true, decide_eq_true_iff]
    rw [masks_shaped, rows_nodup _ rn, cols_nodup _ cn]
    constructor
    · rintro ⟨⟨⟨a1, a2, a3, _, _⟩, _⟩, ⟨a4, a5⟩, a6⟩
      exact ⟨⟨a1, a2, a3⟩, a4, a5, a6⟩
    · rintro ⟨⟨a1, a2, a3⟩, a4, a5, a6⟩
      exact ⟨⟨⟨a1, a2, a3, trivial, trivial⟩, ndA, ndS, ndO⟩, ⟨a4, a5⟩, a6⟩
  have mem1 : SpansP (seatsP W 1 t) H2 false → ∀ x, x ∈ rowsP W t l ↔ 1 ≤ x ∧ x ≤ (H2 : Int) := by
    intro h x
    refine ⟨fun hx => spans_rows h x hx, fun hx => namedP_mem.2 ?_⟩
    have := cnt_pos.1 (h.1 (x - 1).toNat (by omega)).1
    rwa [show (((x - 1).toNat + 1 : Nat) : Int) = x by omega] at this
  have mem2 : SpansP (seatsP W 2 t) H3 false → ∀ x, x ∈ colsP W t l ↔ 1 ≤ x ∧ x ≤ (H3 : Int) := by
    intro h x
    refine ⟨fun hx => spans_rows h x hx, fun hx => namedP_mem.2 ?_⟩
    have := cnt_pos.1 (h.1 (x - 1).toNat (by omega)).1
    rwa [show (((x - 1).toNat + 1 : Nat) : Int) = x by omega] at this
  have hmk : mskN W t = fun x y => maskP W t (H3 : Int) ((x + 1 : Nat) : Int) ((y + 1 : Nat) : Int) := by
    funext x y
    unfold mskN
    rw [h3]
  constructor
  · rintro ⟨_, p2, p3, p4, p5, p6, p7⟩
    obtain ⟨⟨a1, a2, a3⟩, a4, a5, a6⟩ := (valid_iff ((listed_spans _).2 p3)).1 p7
    refine ⟨p2, a1, a2, a3, p3, p4, p5, ?_⟩
    rw [hmk, apart_iff (fun r y => maskP W t (H3 : Int) r y) (mem1 p4) (mem2 p5)]
    exact ⟨fun r hr y hy => ⟨(p6 r hr y hy).1, a4 r hr y hy⟩, a5, a6⟩
  · rintro ⟨p2, a1, a2, a3, p3, p4, p5, p6⟩
    rw [hmk, apart_iff (fun r y => maskP W t (H3 : Int) r y) (mem1 p4) (mem2 p5)] at p6
    obtain ⟨b1, b2, b3⟩ := p6
    have hp16 : (2 : Int) ^ (seatsP W 3 t).length ≤ 65536 := pow_le a1
    refine ⟨hseat, p2, p3, p4, p5, fun r hr y hy => ?_, (valid_iff ((listed_spans _).2 p3)).2 ⟨⟨a1, a2, a3⟩, fun r hr y hy => (b1 r hr y hy).2, b2, b3⟩⟩
    have := b1 r hr y hy
    omega
theorem laid_read {W : List Int} {l : List ByteArray} (hl : l.Nodup) :
    (∀ t : Nat, tabP W = (t : Int) → 0 < t → shapeB W t = true → seatedB W t l = true → LaidT W t → readP W l = (W.getD 0 0, graphP W t l, 0)) ∧ (¬ LaidP W l → readP W l = (0, emptyG, 120)) := by
  have hb : ∀ {t : Nat}, shapeB W t = true → 0 ≤ W.getD 2 0 ∧ 0 ≤ W.getD 3 0 := by
    intro t h
    unfold shapeB at h
    rw [Bool.and_eq_true, decide_eq_true_iff] at h
    omega
  constructor
  · intro t ht h0 hs hseat hL
    exact readP_good ht (by omega) hs ((good_laid hl (hb hs) hseat).2 hL)
  · intro hno
    have hT := tabP_range W
    obtain ⟨t, ht⟩ : ∃ t : Nat, tabP W = t := ⟨(tabP W).toNat, by omega⟩
    refine readP_bad ht fun ⟨h1, h2, h3⟩ => hno ⟨t, ht, by omega, h2, (good_parts.1 h3).1, ?_⟩
    exact (good_laid hl (hb h2) (good_parts.1 h3).1).1 h3
theorem of_nodup {l : List ByteArray} (h : l.Nodup) (s : ByteArray) : (IX.of l s).Nodup := by
  unfold IX.of
  split
  · rename_i h0
    split
    · exact h
    · have hm : ¬ s ∈ l := by
        intro hm
        unfold IX.num at h0
        split at h0
        · omega
        · rename_i hf
          have := List.findIdx?_eq_none_iff.1 hf s hm
          simp at this
      rw [List.nodup_append]
      exact ⟨h, by simp, fun a ha b hb => by simp at hb; subst hb; rintro rfl; exact hm ha⟩
  · exact h
theorem of_small {l : List ByteArray} (h : l.length ≤ 1048576) (s : ByteArray) : (IX.of l s).length ≤ 1048576 := by
  unfold IX.of
  split
  · split
    · exact h
    · simp; omega
  · exact h
theorem all_good : ∀ (known l : List ByteArray), l.Nodup → l.length ≤ 1048576 → (all l known).Nodup ∧ (all l known).length ≤ 1048576
  | [], l, h1, h2 => ⟨h1, h2⟩
  | s :: known, l, h1, h2 => all_good known (IX.of l s) (of_nodup h1 s) (of_small h2 s)
theorem readP_small (W : List Int) (l : List ByteArray) : ((gA (readP W l).2.1).length ≤ 4096 ∧ (gS (readP W l).2.1).length ≤ 4096 ∧ (gO (readP W l).2.1).length ≤ 4096 ∧ (gF (readP W l).2.1).length ≤ 4096 ∧ (gN (readP W l).2.1).length ≤ 4096 ∧ (gM (readP W l).2.1).length ≤ 4096) ∧ ∀ r ∈ gM (readP W l).2.1, r.length ≤ 4096 := by
  have hT := tabP_range W
  unfold readP
  split
  · have hk : ∀ k, (seatsP W k (tabP W).toNat).length ≤ 4096 := fun k => by
      unfold seatsP; rw [srt_len]
      have := rawS_len W k (tabP W).toNat
      omega
    have h1 := hk 1
    have h2 := hk 2
    have h3 := hk 3
    generalize (tabP W).toNat = t at *
    have n1 := namedP_len l (seatsP W 1 t)
    have n2 := namedP_len l (seatsP W 2 t)
    have ea : (listedP l (seatsP W 3 t)).length = (seatsP W 3 t).length := by unfold listedP; simp
    refine ⟨⟨?_, ?_, ?_, ?_, ?_, ?_⟩, ?_⟩
    · show (listedP l (seatsP W 3 t)).length ≤ _; omega
    · show (namedP l (seatsP W 1 t)).1.length ≤ _; omega
    · show (namedP l (seatsP W 2 t)).1.length ≤ _; omega
    · show (namedP l (seatsP W 1 t)).2.1.length ≤ _; omega
    · show (namedP l (seatsP W 2 t)).2.1.length ≤ _; omega
    · show (masksP W t (W.getD 3 0) (namedP l (seatsP W 1 t)).2.2 (namedP l (seatsP W 2 t)).2.2).length ≤ _
      unfold masksP; rw [List.length_map]; omega
    · intro r hr
      obtain ⟨r', _, rfl⟩ := List.mem_map.1 hr
      rw [List.length_map]; omega
  · exact ⟨⟨by simp [emptyG, gA], by simp [emptyG, gS], by simp [emptyG, gO], by simp [emptyG, gF], by simp [emptyG, gN], by simp [emptyG, gM]⟩, fun r hr => by simp [emptyG, gM] at hr⟩
end PG
end Go.Proofs.YtjmlfknogjaemaaDoor
/- Page: laid again, with an index that has its names, a page is the same one: the plain law. -/
set_option linter.unusedVariables false
set_option linter.unusedSimpArgs false
set_option maxRecDepth 10000
namespace Go.Proofs.YtjmlfknogjaemaaDoor
open Go Go.Proofs.YtjmlfknogjaemaaDoor.Vc
namespace PG
open Vc.PG NI
theorem nodup_len {α : Type} [DecidableEq α] : ∀ {l m : List α}, l.Nodup → (∀ x ∈ l, x ∈ m) → l.length ≤ m.length
  | [], m, _, _ => Nat.zero_le _
  | k :: l, m, hn, hs => by
    obtain ⟨h1, h2⟩ := List.nodup_cons.1 hn
    have hk : k ∈ m := hs k List.mem_cons_self
    have hl := (List.perm_cons_erase hk).length_eq
    simp only [List.length_cons] at hl ⊢
    have := nodup_len h2 (m := m.erase k) fun x hx => by
      have hne : x ≠ k := fun e => h1 (e ▸ hx)
      exact (List.mem_erase_of_ne hne).2 (hs x (List.mem_cons_of_mem _ hx))
    omega
theorem num_zero {l : List ByteArray} {s : ByteArray} : IX.num l s = 0 ↔ ¬ s ∈ l := by
  unfold IX.num
  cases hx : l.findIdx? (fun x => decide (x = s)) with
  | none =>
    refine ⟨fun _ hm => ?_, fun _ => rfl⟩
    have := List.findIdx?_eq_none_iff.1 hx s hm
    simp at this
  | some j =>
    obtain ⟨hj, he, _⟩ := List.findIdx?_eq_some_iff_getElem.mp hx
    refine ⟨fun h => by simp at h, fun h => absurd ?_ h⟩
    have := of_decide_eq_true he
    rw [← this]
    exact List.getElem_mem hj
theorem num_app {l : List ByteArray} {s : ByteArray} (h : s ∈ l) (r : List ByteArray) : IX.num (l ++ r) s = IX.num l s := by
  unfold IX.num
  rw [List.findIdx?_append]
  cases hx : l.findIdx? (fun x => decide (x = s)) with
  | none =>
    have := List.findIdx?_eq_none_iff.1 hx s h
    simp at this
  | some j => rfl
theorem num_new {l : List ByteArray} {s : ByteArray} (h : ¬ s ∈ l) (r : List ByteArray) : IX.num (l ++ s :: r) s = l.length + 1 := by
  unfold IX.num
  rw [List.findIdx?_append]
  have hx : l.findIdx? (fun x => decide (x = s)) = none := List.findIdx?_eq_none_iff.2 fun x hx => by
    refine decide_eq_false fun e => h (e ▸ hx)
  rw [hx, List.findIdx?_cons]
  simp
theorem of_app (l : List ByteArray) (s : ByteArray) : ∃ r, IX.of l s = l ++ r := by
  unfold IX.of
  split
  · split
    · exact ⟨[], by simp⟩
    · exact ⟨[s], rfl⟩
  · exact ⟨[], by simp⟩
theorem all_app : ∀ (ns l : List ByteArray), ∃ r, all l ns = l ++ r
  | [], l => ⟨[], by simp [all]⟩
  | s :: ns, l => by
    obtain ⟨r, h⟩ := of_app l s
    obtain ⟨q, h2⟩ := all_app ns (IX.of l s)
    exact ⟨r ++ q, by show all (IX.of l s) ns = _; rw [h2, h, List.append_assoc]⟩
theorem of_full {l : List ByteArray} (h : l.length ≥ 1048576) (s : ByteArray) : IX.of l s = l := by
  unfold IX.of
  split
  · rfl
  · rfl
theorem all_full : ∀ (ns : List ByteArray) {l : List ByteArray}, l.length ≥ 1048576 → all l ns = l
  | [], l, _ => rfl
  | s :: ns, l, h => by show all (IX.of l s) ns = l; rw [of_full h]; exact all_full ns h
theorem ofN_all {l ns : List ByteArray} {s : ByteArray} (h : s ∈ all l (s :: ns)) : IX.ofN l s = IX.num (all l (s :: ns)) s := by
  have e : all l (s :: ns) = all (IX.of l s) ns := rfl
  rw [e] at h ⊢
  unfold IX.ofN IX.of at *
  split
  · rename_i h0
    rw [if_pos h0] at h
    split
    · rename_i hf
      rw [if_pos hf] at h
      rw [all_full ns hf] at h
      exact absurd h (num_zero.1 h0)
    · rename_i hf
      obtain ⟨r, hr⟩ := all_app ns (l ++ [s])
      rw [hr, List.append_assoc]
      exact (num_new (num_zero.1 h0) r).symm
  · rename_i h0
    obtain ⟨r, hr⟩ := all_app ns l
    rw [hr]
    exact (num_app (Classical.not_not.1 fun hm => h0 (num_zero.2 hm)) r).symm
/-- A name's key is put down; the names have their numbers. -/
def putK (L : List ByteArray) (Z : List Pz) (e : En) : List Pz := putZ Z ((IX.num L e.1 : Int) * 4 + e.2.1) e.2.2
theorem layGo_tab : ∀ (es : List En) (l : List ByteArray) (Z : List Pz) (L : List ByteArray), (∃ r, L = all l (es.map (·.1)) ++ r) → (∀ e ∈ es, e.1 ∈ all l (es.map (·.1))) →
    layGo es (l, Z) = (all l (es.map (·.1)), es.foldl (putK L) Z)
  | [], l, Z, L, _, _ => rfl
  | e :: es, l, Z, L, ⟨r, hr⟩, hin => by
    have h1 : IX.ofN l e.1 = IX.num L e.1 := by
      have hm := hin e List.mem_cons_self
      rw [hr, num_app hm]
      exact ofN_all hm
    have h2 := layGo_tab es (IX.of l e.1) (putK L Z e) L ⟨r, hr⟩ (fun x hx => hin x (List.mem_cons_of_mem _ hx))
    have e0 : layGo (e :: es) (l, Z) = layGo es (layStep (l, Z) e) := rfl
    have e1 : layStep (l, Z) e = (IX.of l e.1, putK L Z e) := by unfold layStep putK; rw [h1]
    rw [e0, e1, h2]
    rfl
theorem wantGo_ge (l : List ByteArray) : ∀ (ns acc : List ByteArray), acc.length ≤ (wantGo l ns acc).length
  | [], acc => Nat.le_refl _
  | s :: ns, acc => by
    rw [wantGo]
    split
    · have := wantGo_ge l ns (acc ++ [s]); rw [List.length_append] at this; omega
    · exact wantGo_ge l ns acc
theorem wantGo_nodup (l : List ByteArray) : ∀ (ns acc : List ByteArray), acc.Nodup → (wantGo l ns acc).Nodup
  | [], acc, h => h
  | s :: ns, acc, h => by
    rw [wantGo]
    split
    · rename_i hs
      refine wantGo_nodup l ns _ ?_
      rw [List.nodup_append]
      refine ⟨h, by simp, fun a ha b hb => ?_⟩
      rw [List.mem_singleton] at hb
      subst hb
      rintro rfl
      have := (memB_iff _ _).2 ha
      rw [hs.2] at this; cases this
    · exact wantGo_nodup l ns _ h
theorem all_want : ∀ (ns l acc : List ByteArray), l.length + (wantGo l ns acc).length ≤ 1048576 → all (l ++ acc) ns = l ++ wantGo l ns acc
  | [], l, acc, _ => rfl
  | s :: ns, l, acc, h => by
    show all (IX.of (l ++ acc) s) ns = _
    rw [wantGo] at h ⊢
    split
    · rename_i hs
      rw [if_pos hs] at h
      have hg := wantGo_ge l ns (acc ++ [s])
      rw [List.length_append, List.length_singleton] at hg
      have h0 : IX.num (l ++ acc) s = 0 := num_zero.2 fun hm => by
        rcases List.mem_append.1 hm with h1 | h1
        · exact num_zero.1 hs.1 h1
        · have := (memB_iff _ _).2 h1
          rw [hs.2] at this; cases this
      have e : IX.of (l ++ acc) s = l ++ (acc ++ [s]) := by
        unfold IX.of
        rw [if_pos h0, if_neg (by rw [List.length_append]; omega), List.append_assoc]
      rw [e]
      exact all_want ns l (acc ++ [s]) h
    · rename_i hs
      rw [if_neg hs] at h
      have h0 : ¬ IX.num (l ++ acc) s = 0 := fun h0 => hs (by
        have h1 := num_zero.1 h0
        refine ⟨num_zero.2 fun hm => h1 (List.mem_append.2 (.inl hm)), ?_⟩
        cases hm : memB acc s with
        | false => rfl
        | true => exact absurd (List.mem_append.2 (.inr ((memB_iff _ _).1 hm))) h1)
      have e : IX.of (l ++ acc) s = l ++ acc := by
        unfold IX.of
        rw [if_neg h0]
      rw [e]
      exact all_want ns l acc h
theorem all_in {ns l : List ByteArray} (h : l.length + (wantGo l ns []).length ≤ 1048576) {s : ByteArray} (hs : s ∈ ns) : s ∈ all l ns := by
  have e := all_want ns l [] h
  rw [List.append_nil] at e
  rw [e, List.mem_append]
  by_cases hm : s ∈ l
  · exact .inl hm
  · exact .inr ((wantGo_mem l s ns []).2 (.inr ⟨hs, num_zero.2 hm⟩))
theorem want_none {ns l : List ByteArray} (h : ∀ s ∈ ns, s ∈ l) : wantGo l ns [] = [] := by
  refine List.eq_nil_iff_forall_not_mem.2 fun s hs => ?_
  rcases (wantGo_mem l s ns []).1 hs with h1 | ⟨h1, h2⟩
  · simp at h1
  · exact num_zero.1 h2 (h s h1)
theorem ensOf_fst {l : List ByteArray} {k : Int} {n : List Int} (h : l.length = n.length) : (ensOf l k n).map (·.1) = l := by
  unfold ensOf
  rw [List.map_map]
  have e : ((fun x : En => x.1) ∘ fun p : ByteArray × Int => (p.1, k, p.2)) = Prod.fst := rfl
  rw [e, List.map_fst_zip]
  omega
theorem upTo_len (n : Nat) : (upTo n).length = n := by simp [upTo]
theorem ens_fst {g : Gd} (h : (gF g).length = (gS g).length ∧ (gN g).length = (gO g).length) : (ens g).map (·.1) = names g := by
  unfold ens names
  rw [List.map_append, List.map_append, ensOf_fst (by rw [upTo_len]), ensOf_fst h.1.symm, ensOf_fst h.2.symm]
/-- How a valid graph is laid, where there is room. -/
theorem layZ_eq {g : Gd} (hv : validP g = true) {l : List ByteArray} (hr : l.length + freshN l g ≤ 1048576) (r : List ByteArray) :
    layZ g l = (all l (names g), (ens g).foldl (putK (all l (names g) ++ r)) (List.replicate (tOf g) pz0)) := by
  obtain ⟨⟨_, _, _, h1, h2⟩, _⟩ := valid_parts hv
  have e := ens_fst (g := g) ⟨h1, h2⟩
  have h := layGo_tab (ens g) l (List.replicate (tOf g) pz0) (all l (names g) ++ r) ⟨r, by rw [e]⟩ (fun x hx => by
    rw [e]
    exact all_in hr (e ▸ List.mem_map.2 ⟨x, hx, rfl⟩))
  rw [e] at h
  exact h
theorem lay_le (v : Int) (g : Gd) {l : List ByteArray} (h : l.length ≤ 1048576) : (layP v g l).2.2.length ≤ 1048576 := by
  unfold layP
  split
  · exact h
  split
  · exact h
  split
  · exact h
  rename_i _ hv hr
  have hv : validP g = true := by cases h : validP g with | true => rfl | false => exact absurd h hv
  rw [layZ_eq hv (by omega) []]
  exact all_le _ _ h
/-- Laid again, with more names known: the same page, and the names stay. -/
theorem lay_again (v : Int) (g : Gd) {l l2 : List ByteArray} (hr : ∃ r, l2 = (layP v g l).2.2 ++ r) (h2 : l2.length ≤ 1048576) : layP v g l2 = ((layP v g l).1, (layP v g l).2.1, l2) := by
  obtain ⟨r, hr⟩ := hr
  unfold layP at hr ⊢
  by_cases hver : v < 1 ∨ 2147483647 < v
  · rw [if_pos hver, if_pos hver]
  rw [if_neg hver] at hr
  rw [if_neg hver, if_neg hver]
  by_cases hval : validP g = false
  · rw [if_pos hval, if_pos hval]
  rw [if_neg hval] at hr
  rw [if_neg hval, if_neg hval]
  have hv : validP g = true := by cases h : validP g with | true => rfl | false => exact absurd h hval
  by_cases hroom : 1048576 < l.length + freshN l g
  · rw [if_pos hroom] at hr
    have hr : l2 = l ++ r := hr
    rw [if_pos hroom, if_pos]
    have hsub := nodup_len (m := wantGo l2 (names g) [] ++ r) (wantGo_nodup l (names g) [] (by simp)) fun x hx => by
      rcases (wantGo_mem l x (names g) []).1 hx with h1 | ⟨h1, h3⟩
      · simp at h1
      · rw [List.mem_append]
        by_cases hxr : x ∈ r
        · exact .inr hxr
        · refine .inl ((wantGo_mem l2 x (names g) []).2 (.inr ⟨h1, num_zero.2 fun hm => ?_⟩))
          rw [hr] at hm
          rcases List.mem_append.1 hm with h4 | h4
          · exact num_zero.1 h3 h4
          · exact hxr h4
    have hl := congrArg List.length hr
    rw [List.length_append] at hsub hl
    unfold freshN at hroom ⊢
    omega
  · rw [if_neg hroom] at hr
    have hr : l2 = (layZ g l).1 ++ r := hr
    rw [if_neg hroom]
    have hz := layZ_eq hv (l := l) (by omega) r
    rw [hz] at hr
    have hr : l2 = all l (names g) ++ r := hr
    have hin : ∀ s ∈ names g, s ∈ l2 := fun s hs => by
      rw [hr, List.mem_append]
      exact .inl (all_in (by unfold freshN at hroom; omega) hs)
    have hw := want_none hin
    have hf : freshN l2 g = 0 := by unfold freshN; rw [hw]; rfl
    rw [if_neg (by omega)]
    have hall : all l2 (names g) = l2 := by
      have := all_want (names g) l2 [] (by rw [hw]; simpa using h2)
      rw [List.append_nil, hw, List.append_nil] at this
      exact this
    have hz2 := layZ_eq hv (l := l2) (by omega) []
    rw [hall, List.append_nil] at hz2
    rw [hz, hz2, ← hr]
end PG
end Go.Proofs.YtjmlfknogjaemaaDoor
