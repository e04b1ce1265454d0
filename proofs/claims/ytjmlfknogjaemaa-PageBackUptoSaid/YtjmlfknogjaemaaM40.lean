/- Page: what a laid page's words answer: searches and decisions (plain law). -/
import Derived.Test.YtjmlfknogjaemaaM35
import Derived.Test.YtjmlfknogjaemaaM4
import Derived.Test.YtjmlfknogjaemaaProg
import Derived.KernelRfl
set_option linter.unusedVariables false
set_option linter.unusedSimpArgs false
set_option maxRecDepth 10000
namespace Go.Proofs.Ytjmlfknogjaemaa
open Go Go.Proofs.Ytjmlfknogjaemaa.Vc
namespace PG
open Vc.PG NI
theorem num_get {L : List ByteArray} {s : ByteArray} (h : s ∈ L) : 1 ≤ IX.num L s ∧ IX.num L s ≤ L.length ∧ ∀ d, L.getD (IX.num L s - 1) d = s := by
  unfold IX.num
  cases hx : L.findIdx? (fun x => decide (x = s)) with
  | none =>
    have := List.findIdx?_eq_none_iff.1 hx s h
    simp at this
  | some j =>
    obtain ⟨hj, he, _⟩ := List.findIdx?_eq_some_iff_getElem.mp hx
    refine ⟨Nat.le_add_left _ _, hj, fun d => ?_⟩
    have := of_decide_eq_true he
    simpa [List.getD_eq_getElem?_getD, hj] using this
theorem num_inj {L : List ByteArray} {s t : ByteArray} (h : s ∈ L) (h' : t ∈ L) (e : IX.num L s = IX.num L t) : s = t := by
  have h1 := (num_get h).2.2 ⟨#[]⟩
  rw [e, (num_get h').2.2] at h1
  exact h1.symm
theorem ens_keys {L l : List ByteArray} {k : Int} {n : List Int} (h : l.length = n.length) : (ensOf l k n).map (keyE L) = l.map fun s => (IX.num L s : Int) * 4 + k := by
  have e : (ensOf l k n).map (keyE L) = ((ensOf l k n).map (·.1)).map fun s => (IX.num L s : Int) * 4 + k := by
    unfold ensOf
    rw [List.map_map, List.map_map, List.map_map]
    rfl
  rw [e, ensOf_fst h]
theorem ent_mem {L l : List ByteArray} {k : Int} {n : List Int} (h : l.length = n.length) {p : Pz} : p ∈ entP L (ensOf l k n) ↔ ∃ i, i < l.length ∧ p = ((IX.num L (l.getD i ByteArray.empty) : Int) * 4 + k, n.getD i 0) := by
  unfold entP ensOf
  rw [List.map_map]
  constructor
  · intro hp
    obtain ⟨q, hq, rfl⟩ := List.mem_map.1 hp
    obtain ⟨i, hi, rfl⟩ := List.mem_iff_getElem.1 hq
    rw [List.length_zip] at hi
    refine ⟨i, by omega, ?_⟩
    simp [keyE, List.getD_eq_getElem?_getD, show i < l.length by omega, show i < n.length by omega]
  · rintro ⟨i, hi, rfl⟩
    refine List.mem_map.2 ⟨(l.getD i ByteArray.empty, n.getD i 0), ?_, rfl⟩
    refine List.mem_iff_getElem.2 ⟨i, by rw [List.length_zip]; omega, ?_⟩
    simp [List.getD_eq_getElem?_getD, hi, show i < n.length by omega]
theorem ent_app (L : List ByteArray) (a b : List En) : entP L (a ++ b) = entP L a ++ entP L b := List.map_append
theorem ens_len2 {g : Gd} (hv : validP g = true) : (ens g).length = (names g).length := by
  obtain ⟨⟨p1, p2, p3, p4, p5⟩, _⟩ := valid_parts hv
  have := congrArg List.length (ens_fst (g := g) ⟨p4, p5⟩)
  simpa using this
theorem keys_nodup {g : Gd} (hv : validP g = true) {L : List ByteArray} (hin : ∀ s ∈ names g, s ∈ L) : ((ens g).map (keyE L)).Nodup := by
  obtain ⟨⟨p1, p2, p3, p4, p5⟩, ⟨n1, n2, n3⟩, _⟩ := valid_parts hv
  have one : ∀ (l : List ByteArray) (k : Int), l.Nodup → (∀ s ∈ l, s ∈ L) → (l.map fun s => (IX.num L s : Int) * 4 + k).Nodup := by
    intro l k hn hi
    rw [List.Nodup, List.pairwise_map]
    refine List.Pairwise.imp_of_mem ?_ hn
    intro a b ha hb hab e
    exact hab (num_inj (hi a ha) (hi b hb) (by omega))
  have two : ∀ (l m : List ByteArray) (j k : Int), j ≠ k → 0 ≤ j → j < 4 → 0 ≤ k → k < 4 → ∀ a ∈ l.map (fun s => (IX.num L s : Int) * 4 + j), ∀ b ∈ m.map (fun s => (IX.num L s : Int) * 4 + k), a ≠ b := by
    intro l m j k hjk h1 h2 h3 h4 a ha b hb e
    obtain ⟨s, _, rfl⟩ := List.mem_map.1 ha
    obtain ⟨t, _, rfl⟩ := List.mem_map.1 hb
    omega
  unfold ens
  rw [List.map_append, List.map_append, ens_keys (by rw [upTo_len]), ens_keys p4.symm, ens_keys p5.symm]
  unfold names at hin
  rw [List.nodup_append, List.nodup_append]
  refine ⟨⟨one _ _ n1 fun s hs => hin s (by simp [hs]), one _ _ n2 fun s hs => hin s (by simp [hs]), two _ _ _ _ (by decide) (by decide) (by decide) (by decide) (by decide)⟩, one _ _ n3 fun s hs => hin s (by simp [hs]), ?_⟩
  intro a ha b hb
  rcases List.mem_append.1 ha with ha | ha
  · exact two _ _ _ _ (by decide) (by decide) (by decide) (by decide) (by decide) a ha b hb
  · exact two _ _ _ _ (by decide) (by decide) (by decide) (by decide) (by decide) a ha b hb
theorem key_pos {g : Gd} (L : List ByteArray) : ∀ e ∈ ens g, 0 < keyE L e := by
  have hk : ∀ (l : List ByteArray) (k : Int) (n : List Int), 0 < k → ∀ e ∈ ensOf l k n, 0 < keyE L e := by
    intro l k n hk e he
    unfold ensOf at he
    obtain ⟨q, _, rfl⟩ := List.mem_map.1 he
    unfold keyE
    dsimp only
    omega
  intro e he
  unfold ens at he
  rcases List.mem_append.1 he with he | he
  · rcases List.mem_append.1 he with he | he
    · exact hk _ _ _ (by decide) e he
    · exact hk _ _ _ (by decide) e he
  · exact hk _ _ _ (by decide) e he
theorem lay_tab {g : Gd} (hv : validP g = true) {l : List ByteArray} (hr : l.length + freshN l g ≤ 1048576) : Tab (layZ g l).2 (entP (layZ g l).1 (ens g)) ∧ ∀ s ∈ names g, s ∈ (layZ g l).1 := by
  have hz := layZ_eq hv hr []
  rw [List.append_nil] at hz
  rw [hz]
  show Tab ((ens g).foldl (putK (all l (names g))) (List.replicate (tOf g) pz0)) (entP (all l (names g)) (ens g)) ∧ ∀ s ∈ names g, s ∈ all l (names g)
  have hin : ∀ s ∈ names g, s ∈ all l (names g) := fun s hs => all_in (by unfold freshN at hr; omega) hs
  generalize all l (names g) = L at *
  have hlen := ens_len2 hv
  obtain ⟨⟨p1, p2, p3, p4, p5⟩, _⟩ := valid_parts hv
  have hnl := names_len g
  have ht := tabN_ge (k := (names g).length) (by omega)
  refine ⟨?_, hin⟩
  have := tab_fold L (ens g) (List.replicate (tOf g) pz0) [] (Tab.nil _) (by rw [full_zero, List.length_replicate]; unfold tOf; omega) (keys_nodup hv hin) (fun e he => by have := key_pos L e he; omega) (by simp)
  simpa using this
theorem flat_get {m : Nat} : ∀ (M : List (List Int)), (∀ r ∈ M, r.length = m) → ∀ x y, x < M.length → y < m → M.flatten.getD (x * m + y) 0 = (M.getD x []).getD y 0
  | [], _, x, y, hx, _ => by simp at hx
  | r :: M, hM, 0, y, _, hy => by
    have hr := hM r List.mem_cons_self
    rw [List.flatten_cons, Nat.zero_mul, Nat.zero_add, List.getD_eq_getElem?_getD, List.getElem?_append_left (by omega)]
    simp [List.getD_eq_getElem?_getD]
  | r :: M, hM, x + 1, y, hx, hy => by
    have hr := hM r List.mem_cons_self
    have ih := flat_get M (fun s hs => hM s (List.mem_cons_of_mem _ hs)) x y (by simpa using hx) hy
    rw [List.flatten_cons, List.getD_eq_getElem?_getD, List.getElem?_append_right (by rw [Nat.succ_mul]; omega), hr, show (x + 1) * m + y - m = x * m + y by rw [Nat.succ_mul]; omega]
    rw [List.getD_eq_getElem?_getD] at ih
    rw [ih]
    simp [List.getD_eq_getElem?_getD]
/-- A laid page: its words, its table, the names with their numbers. -/
structure LaidW (W : List Int) (L : List ByteArray) (v : Int) (g : Gd) (Z : List Pz) : Prop where
  tab : Tab Z (entP L (ens g))
  zl : Z.length = tOf g
  reads : Reads W Z
  len : W.length = 4 + 2 * tOf g + topOf (gF g) * topOf (gN g)
  h0 : W.getD 0 0 = v
  h1 : W.getD 1 0 = (tOf g : Int)
  h2 : W.getD 2 0 = (topOf (gF g) : Int)
  h3 : W.getD 3 0 = (topOf (gN g) : Int)
  mask : ∀ x, x < topOf (gF g) → ∀ y, y < topOf (gN g) → W.getD (4 + 2 * tOf g + x * topOf (gN g) + y) 0 = ((gM g).getD x []).getD y 0
  known : ∀ s ∈ names g, s ∈ L
theorem valid_rows {g : Gd} (hv : validP g = true) : (gM g).length = topOf (gF g) ∧ ∀ r ∈ gM g, r.length = topOf (gN g) := by
  obtain ⟨p1, p2, p3, p4, p5, p6, p7, p8, p9⟩ := valid_parts hv
  have hm4 : (gM g).length = topOf (gF g) := ((shaped_iff _ _ _ _).1 p7).1
  refine ⟨hm4, fun r hr => ?_⟩
  obtain ⟨a, ha, rfl⟩ := (mem_getD [] _ _).1 hr
  exact row_len hv (by omega)
theorem getD_left {a b : List Int} {i : Nat} (h : i < a.length) : (a ++ b).getD i 0 = a.getD i 0 := by
  rw [List.getD_eq_getElem?_getD, List.getElem?_append_left h, List.getD_eq_getElem?_getD]
theorem laidW_of {v : Int} {g : Gd} {l : List ByteArray} (h : (layP v g l).2.1 = 0) : 1 ≤ v ∧ v ≤ 2147483647 ∧ validP g = true ∧ ∃ Z, LaidW (layP v g l).1 (layP v g l).2.2 v g Z := by
  have hlen := lay_len h
  unfold layP at h hlen ⊢
  split at h
  · cases h
  split at h
  · cases h
  split at h
  · cases h
  rename_i hver hv0 hr
  rw [if_neg hver, if_neg hv0, if_neg hr] at hlen ⊢
  have hv : validP g = true := by cases h : validP g with | true => rfl | false => exact absurd h hv0
  obtain ⟨ht, hk⟩ := lay_tab hv (l := l) (by omega)
  have hzl : (layZ g l).2.length = tOf g := by rw [layZ_eq hv (by omega) [], putK_len, List.length_replicate]
  obtain ⟨hm, hrow⟩ := valid_rows hv
  refine ⟨by omega, by omega, hv, (layZ g l).2, ?_⟩
  dsimp only at hlen ⊢
  have hpl : (pageZ (headP v g) (layZ g l).2).length = 4 + 2 * tOf g := by rw [pageZ_len (head_len v g), hzl]
  have hhd : ∀ i, i < 4 → (pageZ (headP v g) (layZ g l).2 ++ (gM g).flatten).getD i 0 = (headP v g).getD i 0 := fun i hi => by
    rw [getD_left (by omega)]
    unfold pageZ
    rw [getD_left (by rw [head_len]; exact hi)]
  refine ⟨ht, hzl, fun i hi => ?_, ?_, hhd 0 (by decide), hhd 1 (by decide), hhd 2 (by decide), hhd 3 (by decide), fun x hx y hy => ?_, hk⟩
  · rw [getD_left (by omega), getD_left (by omega)]
    exact ⟨pageZ_fst (head_len v g) hi, pageZ_snd (head_len v g) hi⟩
  · unfold sizeP at hlen
    rw [if_pos hv] at hlen
    omega
  · rw [List.getD_eq_getElem?_getD, List.getElem?_append_right (by omega), hpl, show 4 + 2 * tOf g + x * topOf (gN g) + y - (4 + 2 * tOf g) = x * topOf (gN g) + y by omega, ← List.getD_eq_getElem?_getD]
    exact flat_get (gM g) hrow x y (by omega) hy
theorem ent_more {g : Gd} (hv : validP g = true) {L : List ByteArray} (hk : ∀ s ∈ names g, s ∈ L) (r : List ByteArray) : entP (L ++ r) (ens g) = entP L (ens g) := by
  obtain ⟨⟨p1, p2, p3, p4, p5⟩, _⟩ := valid_parts hv
  unfold entP
  refine List.map_inj_left.2 fun e he => ?_
  have hm : e.1 ∈ names g := by
    rw [← ens_fst ⟨p4, p5⟩]
    exact List.mem_map.2 ⟨e, he, rfl⟩
  unfold keyE
  rw [num_app (hk _ hm)]
theorem LaidW.more {W : List Int} {L : List ByteArray} {v : Int} {g : Gd} {Z : List Pz} (h : LaidW W L v g Z) (hv : validP g = true) (r : List ByteArray) : LaidW W (L ++ r) v g Z :=
  { h with tab := by rw [ent_more hv h.known]; exact h.tab, known := fun s hs => List.mem_append.2 (.inl (h.known s hs)) }
theorem LaidW.of {W : List Int} {L : List ByteArray} {v : Int} {g : Gd} {Z : List Pz} (h : LaidW W L v g Z) (hv : validP g = true) (s : ByteArray) : LaidW W (IX.of L s) v g Z := by
  obtain ⟨r, hr⟩ := of_app L s
  rw [hr]
  exact h.more hv r
/-- The class of a name. -/
def clsP (l : List ByteArray) (n : List Int) (s : ByteArray) : Option Int := if IX.num l s = 0 then none else some (n.getD (IX.num l s - 1) 0)
theorem keyN_id {s : Nat} (h : s ≤ 1048577) (k : Int) (hk : 0 ≤ k ∧ k ≤ 3) : keyN (s : Int) k = (s : Int) * 4 + k := by
  unfold keyN; rw [wr]; omega
section
variable {W : List Int} {L : List ByteArray} {v : Int} {g : Gd} {Z : List Pz} (h : LaidW W L v g Z) (hv : validP g = true) (hL : L.length ≤ 1048576)
include h hv
theorem LaidW.full : fullN Z = (names g).length ∧ 2 * fullN Z ≤ tOf g ∧ 2 ≤ tOf g ∧ fullN Z < Z.length ∧ (names g).length ≤ 144 := by
  have h1 := h.tab.full
  unfold entP at h1
  rw [List.length_map, ens_len2 hv] at h1
  obtain ⟨⟨p1, p2, p3, _⟩, _⟩ := valid_parts hv
  have hnl := names_len g
  have ht := tabN_ge (k := (names g).length) (by omega)
  have hzl := h.zl
  unfold tOf at *
  omega
theorem LaidW.tabP : tabP W = (tOf g : Int) := by
  obtain ⟨f1, f2, f3, f4, f5⟩ := h.full hv
  have hp := (tabN_small ⟨(names g).length, by omega⟩).2
  have hl := h.len
  unfold Vc.PG.tabP
  rw [if_neg (by omega), h.h1, if_pos ⟨hp, by omega⟩]
/-- What stands in the table for a kind. -/
theorem LaidW.ent {k : Int} {l : List ByteArray} {n : List Int} (hk : (k = 3 ∧ l = gA g ∧ n = upTo (gA g).length) ∨ (k = 1 ∧ l = gS g ∧ n = gF g) ∨ (k = 2 ∧ l = gO g ∧ n = gN g)) :
    l.length = n.length ∧ (∀ s ∈ l, s ∈ L) ∧ (∀ p, p ∈ entP L (ensOf l k n) → p ∈ entP L (ens g)) ∧ (∀ p ∈ entP L (ens g), p.1 % 4 = k → p ∈ entP L (ensOf l k n)) ∧ 1 ≤ k ∧ k ≤ 3 ∧ l.Nodup := by
  obtain ⟨⟨p1, p2, p3, p4, p5⟩, ⟨n1, n2, n3⟩, _⟩ := valid_parts hv
  have hkn := h.known
  unfold names at hkn
  have e : entP L (ens g) = (entP L (ensOf (gA g) 3 (upTo (gA g).length)) ++ entP L (ensOf (gS g) 1 (gF g))) ++ entP L (ensOf (gO g) 2 (gN g)) := by
    unfold ens; rw [ent_app, ent_app]
  have hA := @ent_mem L (gA g) 3 (upTo (gA g).length) (by rw [upTo_len])
  have hS := @ent_mem L (gS g) 1 (gF g) p4.symm
  have hO := @ent_mem L (gO g) 2 (gN g) p5.symm
  rw [e]
  have key : ∀ p : Pz, p ∈ (entP L (ensOf (gA g) 3 (upTo (gA g).length)) ++ entP L (ensOf (gS g) 1 (gF g))) ++ entP L (ensOf (gO g) 2 (gN g)) → (p.1 % 4 = 3 ∧ p ∈ entP L (ensOf (gA g) 3 (upTo (gA g).length))) ∨ (p.1 % 4 = 1 ∧ p ∈ entP L (ensOf (gS g) 1 (gF g))) ∨ (p.1 % 4 = 2 ∧ p ∈ entP L (ensOf (gO g) 2 (gN g))) := by
    intro p hp
    rcases List.mem_append.1 hp with hp | hp
    · rcases List.mem_append.1 hp with hp | hp
      · obtain ⟨i, _, rfl⟩ := hA.1 hp
        exact .inl ⟨by dsimp only; omega, hp⟩
      · obtain ⟨i, _, rfl⟩ := hS.1 hp
        exact .inr (.inl ⟨by dsimp only; omega, hp⟩)
    · obtain ⟨i, _, rfl⟩ := hO.1 hp
      exact .inr (.inr ⟨by dsimp only; omega, hp⟩)
  rcases hk with ⟨rfl, rfl, rfl⟩ | ⟨rfl, rfl, rfl⟩ | ⟨rfl, rfl, rfl⟩
  · refine ⟨by rw [upTo_len], fun s hs => hkn s (by simp [hs]), fun p hp => by simp [hp], fun p hp hk => ?_, by decide, by decide, n1⟩
    rcases key p hp with ⟨_, h1⟩ | ⟨h1, _⟩ | ⟨h1, _⟩
    · exact h1
    · omega
    · omega
  · refine ⟨p4.symm, fun s hs => hkn s (by simp [hs]), fun p hp => by simp [hp], fun p hp hk => ?_, by decide, by decide, n2⟩
    rcases key p hp with ⟨h1, _⟩ | ⟨_, h1⟩ | ⟨h1, _⟩
    · omega
    · exact h1
    · omega
  · refine ⟨p5.symm, fun s hs => hkn s (by simp [hs]), fun p hp => by simp [hp], fun p hp hk => ?_, by decide, by decide, n3⟩
    rcases key p hp with ⟨h1, _⟩ | ⟨h1, _⟩ | ⟨_, h1⟩
    · omega
    · omega
    · exact h1
include hL
/-- What is sought: a name, by its number, and a kind. -/
theorem LaidW.sought {k : Int} {l : List ByteArray} {n : List Int} (hk : (k = 3 ∧ l = gA g ∧ n = upTo (gA g).length) ∨ (k = 1 ∧ l = gS g ∧ n = gF g) ∨ (k = 2 ∧ l = gO g ∧ n = gN g)) (t : ByteArray) :
    keyN (IX.ofN L t : Int) k ≠ 0 ∧ (t ∈ l → (keyN (IX.ofN L t : Int) k, n.getD (IX.num l t - 1) 0) ∈ entP L (ens g)) ∧ (¬ t ∈ l → ∀ p ∈ entP L (ens g), p.1 ≠ keyN (IX.ofN L t : Int) k) := by
  obtain ⟨e1, e2, e3, e4, e5, e6, e7⟩ := h.ent hv hk
  rw [keyN_id (by have := ofN_le hL t; omega) k ⟨by omega, e6⟩]
  refine ⟨by omega, fun ht => ?_, fun ht p hp he => ?_⟩
  · have hin := e2 t ht
    have h0 : IX.ofN L t = IX.num L t := by
      unfold IX.ofN
      rw [if_neg fun h0 => num_zero.1 h0 hin]
    obtain ⟨g1, g2, g3⟩ := num_get ht
    refine e3 _ ((ent_mem e1).2 ⟨IX.num l t - 1, by omega, ?_⟩)
    rw [h0, g3]
  · have hp4 := e4 p hp (by rw [he]; omega)
    obtain ⟨i, hi, rfl⟩ := (ent_mem e1).1 hp4
    have hm : l.getD i ByteArray.empty ∈ l := (mem_getD _ _ _).2 ⟨i, hi, rfl⟩
    have hin := e2 _ hm
    have hg := num_get hin
    dsimp only at he
    have he : IX.num L (l.getD i ByteArray.empty) = IX.ofN L t := by omega
    unfold IX.ofN at he
    split at he
    · split at he
      · omega
      · omega
    · rename_i h0
      have htL : t ∈ L := Classical.byContradiction fun hn => h0 (num_zero.2 hn)
      exact ht (num_inj hin htL he ▸ hm)
theorem LaidW.seek {k : Int} {l : List ByteArray} {n : List Int} (hk : (k = 3 ∧ l = gA g ∧ n = upTo (gA g).length) ∨ (k = 1 ∧ l = gS g ∧ n = gF g) ∨ (k = 2 ∧ l = gO g ∧ n = gN g)) (t : ByteArray) (q : Nat) :
    (seekP W (tOf g) (keyN (IX.ofN L t : Int) k) q).1 = clsP l n t := by
  obtain ⟨s1, s2, s3⟩ := h.sought hv hL hk t
  obtain ⟨f1, f2, f3, f4, f5⟩ := h.full hv
  have hl := h.len
  have hzl := h.zl
  unfold clsP
  by_cases htl : t ∈ l
  · rw [if_neg fun h0 => num_zero.1 h0 htl, ← hzl]
    exact h.tab.seek h.reads (by omega) (s2 htl) q
  · rw [if_pos (num_zero.2 htl), ← hzl]
    exact h.tab.lost h.reads (by omega) f4 s1 (s3 htl) q
end
theorem upTo_get {n i : Nat} (h : i < n) : (upTo n).getD i 0 = ((i + 1 : Nat) : Int) := by
  unfold upTo
  simp [List.getD_eq_getElem?_getD, h]
section
variable {W : List Int} {L1 L2 L3 : List ByteArray} {v : Int} {g : Gd} {Z1 Z2 Z3 : List Pz} (h1 : LaidW W L1 v g Z1) (h2 : LaidW W L2 v g Z2) (h3 : LaidW W L3 v g Z3) (hv : validP g = true) (hL : L1.length ≤ 1048576 ∧ L2.length ≤ 1048576 ∧ L3.length ≤ 1048576)
include h1 h2 h3 hv hL
end
end PG
end Go.Proofs.Ytjmlfknogjaemaa
/- The plain statements of some functions, printed by vcgen.py. -/
set_option maxRecDepth 100000
set_option linter.unusedVariables false
namespace Go.Proofs.Ytjmlfknogjaemaa
open Go Go.Proofs.Ytjmlfknogjaemaa.Vc
theorem W25.mixed : Try.prog.follows .mixedOrders = true := by kernel_rfl
/-- gatehouse/gatehouselaw12.PageTable -/
def f8.AL : Nat → Option Ann := fun r => match r with | 14 => some ⟨[(14, .int .i64), (15, .int .i64)], [2, 3, 7, 9, 11, 13]⟩ | 19 => some ⟨[(7, .bool), (16, .int .i64)], [2, 3, 9, 11, 13, 14]⟩ | 24 => some ⟨[(7, .bool), (19, .int .i64)], [2, 3, 9, 11, 13, 14]⟩ | 29 => some ⟨[(7, .bool), (22, .int .i64)], [2, 3, 9, 11, 13, 14]⟩ | _ => none
def f8.AC : Nat → Option Ann := fun _ => none
def f8.VC (Aa0_0 : Option Addr) (na0_0 ca0_0 : Nat) (Aa0_1 : Option Addr) (na0_1 ca0_1 : Nat) (Aa0_2 : Option Addr) (na0_2 ca0_2 : Nat) (Aa0_3 : Option Addr) (na0_3 ca0_3 : Nat) (Aa0_4 : Option Addr) (na0_4 ca0_4 : Nat) (Aa0_5 : Option Addr) (na0_5 ca0_5 : Nat) (Aa1 : Option Addr) (na1 ca1 : Nat) (sa2 : ByteArray) (w : World) (R : Value → World → Prop) : Prop :=
  let w_1 : World := World.alloc w (.cells #[.slice Aa0_0 na0_0 ca0_0, .slice Aa0_1 na0_1 ca0_1, .slice Aa0_2 na0_2 ca0_2, .slice Aa0_3 na0_3 ca0_3, .slice Aa0_4 na0_4 ca0_4, .slice Aa0_5 na0_5 ca0_5] 29);
  Calls Try.prog 10 #[] w_1 fun e_1 w_2 =>
  ∃ (b28 : Bool),
  e_1 = .returned (.bool b28) ∧
  ∃ (A29_0 : Option Addr) (n29_0 c29_0 : Nat),
  w_2.cell? ⟨w.heap.size, 0, none⟩ = some (.slice A29_0 n29_0 c29_0) ∧
  ∃ (A29_1 : Option Addr) (n29_1 c29_1 : Nat),
  w_2.cell? ⟨w.heap.size, 1, none⟩ = some (.slice A29_1 n29_1 c29_1) ∧
  ∃ (A29_2 : Option Addr) (n29_2 c29_2 : Nat),
  w_2.cell? ⟨w.heap.size, 2, none⟩ = some (.slice A29_2 n29_2 c29_2) ∧
  ∃ (A29_3 : Option Addr) (n29_3 c29_3 : Nat),
  w_2.cell? ⟨w.heap.size, 3, none⟩ = some (.slice A29_3 n29_3 c29_3) ∧
  ∃ (A29_4 : Option Addr) (n29_4 c29_4 : Nat),
  w_2.cell? ⟨w.heap.size, 4, none⟩ = some (.slice A29_4 n29_4 c29_4) ∧
  ∃ (A29_5 : Option Addr) (n29_5 c29_5 : Nat),
  w_2.cell? ⟨w.heap.size, 5, none⟩ = some (.slice A29_5 n29_5 c29_5) ∧
  Calls Try.prog 28 #[.agg #[.slice A29_0 n29_0 c29_0, .slice A29_1 n29_1 c29_1, .slice A29_2 n29_2 c29_2, .slice A29_3 n29_3 c29_3, .slice A29_4 n29_4 c29_4, .slice A29_5 n29_5 c29_5]] w_2 fun e_2 w_3 =>
  ∃ (b30 : Bool),
  e_2 = .returned (.bool b30) ∧
  sel (!b30) (
  R (.bool b28) w_3) (
  sel (decide ((1000000 : Int) < ((na1 : Int) : Int))) (
  R (.bool b28) w_3) (
  Calls Try.prog 13 #[.slice Aa1 na1 ca1] w_3 fun e_3 w_4 =>
  ∃ (p41_0 : Option Addr) (p41_1 : Option Addr),
  e_3 = .returned (.tuple #[.pointer p41_0, .pointer p41_1]) ∧
  sel (Option.isNone p41_0) (
  R (.bool false) w_4) (
  ∃ (A47_0 : Option Addr) (n47_0 c47_0 : Nat),
  w_4.cell? ⟨w.heap.size, 0, none⟩ = some (.slice A47_0 n47_0 c47_0) ∧
  ∃ (A47_1 : Option Addr) (n47_1 c47_1 : Nat),
  w_4.cell? ⟨w.heap.size, 1, none⟩ = some (.slice A47_1 n47_1 c47_1) ∧
  ∃ (A47_2 : Option Addr) (n47_2 c47_2 : Nat),
  w_4.cell? ⟨w.heap.size, 2, none⟩ = some (.slice A47_2 n47_2 c47_2) ∧
  ∃ (A47_3 : Option Addr) (n47_3 c47_3 : Nat),
  w_4.cell? ⟨w.heap.size, 3, none⟩ = some (.slice A47_3 n47_3 c47_3) ∧
  ∃ (A47_4 : Option Addr) (n47_4 c47_4 : Nat),
  w_4.cell? ⟨w.heap.size, 4, none⟩ = some (.slice A47_4 n47_4 c47_4) ∧
  ∃ (A47_5 : Option Addr) (n47_5 c47_5 : Nat),
  w_4.cell? ⟨w.heap.size, 5, none⟩ = some (.slice A47_5 n47_5 c47_5) ∧
  Calls Try.prog 15 #[.agg #[.slice A47_0 n47_0 c47_0, .slice A47_1 n47_1 c47_1, .slice A47_2 n47_2 c47_2, .slice A47_3 n47_3 c47_3, .slice A47_4 n47_4 c47_4, .slice A47_5 n47_5 c47_5]] w_4 fun e_4 w_5 =>
  ∃ (A48_0 : Option Addr) (n48_0 c48_0 : Nat) (A48_1 : Option Addr) (n48_1 c48_1 : Nat) (A48_2 : Option Addr) (n48_2 c48_2 : Nat) (A48_3 : Option Addr) (n48_3 c48_3 : Nat) (A48_4 : Option Addr) (n48_4 c48_4 : Nat) (A48_5 : Option Addr) (n48_5 c48_5 : Nat),
  e_4 = .returned (.agg #[.slice A48_0 n48_0 c48_0, .slice A48_1 n48_1 c48_1, .slice A48_2 n48_2 c48_2, .slice A48_3 n48_3 c48_3, .slice A48_4 n48_4 c48_4, .slice A48_5 n48_5 c48_5]) ∧
  Calls Try.prog 17 #[.int .i64 1, .agg #[.slice A48_0 n48_0 c48_0, .slice A48_1 n48_1 c48_1, .slice A48_2 n48_2 c48_2, .slice A48_3 n48_3 c48_3, .slice A48_4 n48_4 c48_4, .slice A48_5 n48_5 c48_5], .pointer p41_0] w_5 fun e_5 w_6 =>
  ∃ (A50_0 : Option Addr) (n50_0 c50_0 : Nat) (x50_1 : Int),
  e_5 = .returned (.tuple #[.slice A50_0 n50_0 c50_0, .int .i64 x50_1]) ∧
  sel ((x50_1 : Int) != (0 : Int)) (
  R (.bool false) w_6) (
  sel (decide (((n50_0 : Int) : Int) < (4 : Int))) (
  R (.bool false) w_6) (
  (0 : Int) ≤ 1 ∧ 1 < (n50_0 : Int) ∧
  needPtr A50_0 fun b62 o62 =>
  ∃ (x63 : Int),
  w_6.cell? ⟨b62, o62 + 1, none⟩ = some (.int .i64 x63) ∧
  sel (decide ((x63 : Int) < (2 : Int))) (
  R (.bool false) w_6) (
  (0 : Int) ≤ 1 ∧ 1 < (n50_0 : Int) ∧
  needPtr A50_0 fun b68 o68 =>
  ∃ (x69 : Int),
  w_6.cell? ⟨b68, o68 + 1, none⟩ = some (.int .i64 x69) ∧
  sel (decide ((4096 : Int) < (x69 : Int))) (
  R (.bool false) w_6) (
  (0 : Int) ≤ 1 ∧ 1 < (n50_0 : Int) ∧
  needPtr A50_0 fun b76 o76 =>
  ∃ (x77 : Int),
  w_6.cell? ⟨b76, o76 + 1, none⟩ = some (.int .i64 x77) ∧
  let i78 : Int := IntKind.i64.wrap (2 * x77);
  let i79 : Int := IntKind.i64.wrap (4 + i78);
  sel (decide (((n50_0 : Int) : Int) < (i79 : Int))) (
  R (.bool false) w_6) (
  ∃ (A83 : Option Addr) (n83 c83 : Nat),
  w_6.cell? ⟨w.heap.size, 0, none⟩ = some (.slice A83 n83 c83) ∧
  ∃ (A86 : Option Addr) (n86 c86 : Nat),
  w_6.cell? ⟨w.heap.size, 1, none⟩ = some (.slice A86 n86 c86) ∧
  let i88 : Int := IntKind.i64.wrap ((n83 : Int) + (n86 : Int));
  ∃ (A90 : Option Addr) (n90 c90 : Nat),
  w_6.cell? ⟨w.heap.size, 2, none⟩ = some (.slice A90 n90 c90) ∧
  let i92 : Int := IntKind.i64.wrap (i88 + (n90 : Int));
  ∃ I : Int → Int → World → Nat → Prop,
  (∃ n, I 0 0 w_6 n) ∧
  ∀ d : Env, ∀ (x14 : Int) (x15 : Int) (w_7 : World) (r : Nat), I x14 x15 w_7 r →
  (0 : Int) ≤ 1 ∧ 1 < (n50_0 : Int) ∧
  needPtr A50_0 fun b95 o95 =>
  ∃ (x96 : Int),
  w_7.cell? ⟨b95, o95 + 1, none⟩ = some (.int .i64 x96) ∧
  sel (decide ((x15 : Int) < (x96 : Int))) (
  let i102 : Int := IntKind.i64.wrap (2 * x15);
  let i103 : Int := IntKind.i64.wrap (4 + i102);
  (0 : Int) ≤ i103 ∧ i103 < (n50_0 : Int) ∧
  needPtr A50_0 fun b104 o104 =>
  ∃ (x105 : Int),
  w_7.cell? ⟨b104, o104 + i103.toNat * 1, none⟩ = some (.int .i64 x105) ∧
  sel ((x105 : Int) != (0 : Int)) (
  let i108 : Int := IntKind.i64.wrap (x14 + 1);
  let i99 : Int := IntKind.i64.wrap (x15 + 1);
  ([.string sa2, .pointer (some ⟨w.heap.size, 0, none⟩), .bool b28, .pointer p41_0, .slice A50_0 n50_0 c50_0, .int .i64 i92] : List Value) = ([.string sa2, .pointer (some ⟨w.heap.size, 0, none⟩), .bool b28, .pointer p41_0, .slice A50_0 n50_0 c50_0, .int .i64 i92] : List Value) ∧ ∃ m, m < r ∧ I i108 i99 w_7 m) (
  let i99_1 : Int := IntKind.i64.wrap (x15 + 1);
  ([.string sa2, .pointer (some ⟨w.heap.size, 0, none⟩), .bool b28, .pointer p41_0, .slice A50_0 n50_0 c50_0, .int .i64 i92] : List Value) = ([.string sa2, .pointer (some ⟨w.heap.size, 0, none⟩), .bool b28, .pointer p41_0, .slice A50_0 n50_0 c50_0, .int .i64 i92] : List Value) ∧ ∃ m, m < r ∧ I x14 i99_1 w_7 m)) (
  ∃ I_1 : Bool → Int → World → Nat → Prop,
  (∃ n, I_1 b28 0 w_7 n) ∧
  ∀ d_1 : Env, ∀ (b7 : Bool) (x16 : Int) (w_8 : World) (r_1 : Nat), I_1 b7 x16 w_8 r_1 →
  ∃ (A111 : Option Addr) (n111 c111 : Nat),
  w_8.cell? ⟨w.heap.size, 0, none⟩ = some (.slice A111 n111 c111) ∧
  sel (decide ((x16 : Int) < ((n111 : Int) : Int))) (
  ∃ (A120 : Option Addr) (n120 c120 : Nat),
  w_8.cell? ⟨w.heap.size, 0, none⟩ = some (.slice A120 n120 c120) ∧
  (0 : Int) ≤ x16 ∧ x16 < (n120 : Int) ∧
  needPtr A120 fun b122 o122 =>
  ∃ (s123 : ByteArray),
  w_8.cell? ⟨b122, o122 + x16.toNat * 1, none⟩ = some (.string s123) ∧
  Calls Try.prog 32 #[.pointer p41_0, .string s123] w_8 fun e_6 w_9 =>
  ∃ (x124 : Int),
  e_6 = .returned (.int .i64 x124) ∧
  Calls Try.prog 31 #[.slice A50_0 n50_0 c50_0, .int .i64 x124, .int .i8 3] w_9 fun e_7 w_10 =>
  ∃ (x125_0 : Int) (x125_1 : Int),
  e_7 = .returned (.tuple #[.int .i64 x125_0, .int .i64 x125_1]) ∧
  sel b7 (
  let i132 : Int := IntKind.i64.wrap (x16 + 1);
  sel ((x125_0 : Int) == (i132 : Int)) (
  sel (decide ((1 : Int) ≤ (x125_1 : Int))) (
  let i115 : Int := IntKind.i64.wrap (x16 + 1);
  ([.string sa2, .pointer (some ⟨w.heap.size, 0, none⟩), .pointer p41_0, .slice A50_0 n50_0 c50_0, .int .i64 i92, .int .i64 x14] : List Value) = ([.string sa2, .pointer (some ⟨w.heap.size, 0, none⟩), .pointer p41_0, .slice A50_0 n50_0 c50_0, .int .i64 i92, .int .i64 x14] : List Value) ∧ ∃ m, m < r_1 ∧ I_1 (decide ((x125_1 : Int) ≤ (i92 : Int))) i115 w_10 m) (
  let i115_1 : Int := IntKind.i64.wrap (x16 + 1);
  ([.string sa2, .pointer (some ⟨w.heap.size, 0, none⟩), .pointer p41_0, .slice A50_0 n50_0 c50_0, .int .i64 i92, .int .i64 x14] : List Value) = ([.string sa2, .pointer (some ⟨w.heap.size, 0, none⟩), .pointer p41_0, .slice A50_0 n50_0 c50_0, .int .i64 i92, .int .i64 x14] : List Value) ∧ ∃ m, m < r_1 ∧ I_1 false i115_1 w_10 m)) (
  let i115_2 : Int := IntKind.i64.wrap (x16 + 1);
  ([.string sa2, .pointer (some ⟨w.heap.size, 0, none⟩), .pointer p41_0, .slice A50_0 n50_0 c50_0, .int .i64 i92, .int .i64 x14] : List Value) = ([.string sa2, .pointer (some ⟨w.heap.size, 0, none⟩), .pointer p41_0, .slice A50_0 n50_0 c50_0, .int .i64 i92, .int .i64 x14] : List Value) ∧ ∃ m, m < r_1 ∧ I_1 false i115_2 w_10 m)) (
  let i115_3 : Int := IntKind.i64.wrap (x16 + 1);
  ([.string sa2, .pointer (some ⟨w.heap.size, 0, none⟩), .pointer p41_0, .slice A50_0 n50_0 c50_0, .int .i64 i92, .int .i64 x14] : List Value) = ([.string sa2, .pointer (some ⟨w.heap.size, 0, none⟩), .pointer p41_0, .slice A50_0 n50_0 c50_0, .int .i64 i92, .int .i64 x14] : List Value) ∧ ∃ m, m < r_1 ∧ I_1 false i115_3 w_10 m)) (
  ∃ I_2 : Bool → Int → World → Nat → Prop,
  (∃ n, I_2 b7 0 w_8 n) ∧
  ∀ d_2 : Env, ∀ (b7_1 : Bool) (x19 : Int) (w_11 : World) (r_2 : Nat), I_2 b7_1 x19 w_11 r_2 →
  ∃ (A146 : Option Addr) (n146 c146 : Nat),
  w_11.cell? ⟨w.heap.size, 1, none⟩ = some (.slice A146 n146 c146) ∧
  sel (decide ((x19 : Int) < ((n146 : Int) : Int))) (
  ∃ (A155 : Option Addr) (n155 c155 : Nat),
  w_11.cell? ⟨w.heap.size, 1, none⟩ = some (.slice A155 n155 c155) ∧
  (0 : Int) ≤ x19 ∧ x19 < (n155 : Int) ∧
  needPtr A155 fun b157 o157 =>
  ∃ (s158 : ByteArray),
  w_11.cell? ⟨b157, o157 + x19.toNat * 1, none⟩ = some (.string s158) ∧
  Calls Try.prog 32 #[.pointer p41_0, .string s158] w_11 fun e_8 w_12 =>
  ∃ (x159 : Int),
  e_8 = .returned (.int .i64 x159) ∧
  Calls Try.prog 31 #[.slice A50_0 n50_0 c50_0, .int .i64 x159, .int .i8 1] w_12 fun e_9 w_13 =>
  ∃ (x160_0 : Int) (x160_1 : Int),
  e_9 = .returned (.tuple #[.int .i64 x160_0, .int .i64 x160_1]) ∧
  sel b7_1 (
  ∃ (A167 : Option Addr) (n167 c167 : Nat),
  w_13.cell? ⟨w.heap.size, 3, none⟩ = some (.slice A167 n167 c167) ∧
  (0 : Int) ≤ x19 ∧ x19 < (n167 : Int) ∧
  needPtr A167 fun b169 o169 =>
  ∃ (x170 : Int),
  w_13.cell? ⟨b169, o169 + x19.toNat * 1, none⟩ = some (.int .i64 x170) ∧
  sel ((x160_0 : Int) == (x170 : Int)) (
  sel (decide ((1 : Int) ≤ (x160_1 : Int))) (
  let i150 : Int := IntKind.i64.wrap (x19 + 1);
  ([.string sa2, .pointer (some ⟨w.heap.size, 0, none⟩), .pointer p41_0, .slice A50_0 n50_0 c50_0, .int .i64 i92, .int .i64 x14] : List Value) = ([.string sa2, .pointer (some ⟨w.heap.size, 0, none⟩), .pointer p41_0, .slice A50_0 n50_0 c50_0, .int .i64 i92, .int .i64 x14] : List Value) ∧ ∃ m, m < r_2 ∧ I_2 (decide ((x160_1 : Int) ≤ (i92 : Int))) i150 w_13 m) (
  let i150_1 : Int := IntKind.i64.wrap (x19 + 1);
  ([.string sa2, .pointer (some ⟨w.heap.size, 0, none⟩), .pointer p41_0, .slice A50_0 n50_0 c50_0, .int .i64 i92, .int .i64 x14] : List Value) = ([.string sa2, .pointer (some ⟨w.heap.size, 0, none⟩), .pointer p41_0, .slice A50_0 n50_0 c50_0, .int .i64 i92, .int .i64 x14] : List Value) ∧ ∃ m, m < r_2 ∧ I_2 false i150_1 w_13 m)) (
  let i150_2 : Int := IntKind.i64.wrap (x19 + 1);
  ([.string sa2, .pointer (some ⟨w.heap.size, 0, none⟩), .pointer p41_0, .slice A50_0 n50_0 c50_0, .int .i64 i92, .int .i64 x14] : List Value) = ([.string sa2, .pointer (some ⟨w.heap.size, 0, none⟩), .pointer p41_0, .slice A50_0 n50_0 c50_0, .int .i64 i92, .int .i64 x14] : List Value) ∧ ∃ m, m < r_2 ∧ I_2 false i150_2 w_13 m)) (
  let i150_3 : Int := IntKind.i64.wrap (x19 + 1);
  ([.string sa2, .pointer (some ⟨w.heap.size, 0, none⟩), .pointer p41_0, .slice A50_0 n50_0 c50_0, .int .i64 i92, .int .i64 x14] : List Value) = ([.string sa2, .pointer (some ⟨w.heap.size, 0, none⟩), .pointer p41_0, .slice A50_0 n50_0 c50_0, .int .i64 i92, .int .i64 x14] : List Value) ∧ ∃ m, m < r_2 ∧ I_2 false i150_3 w_13 m)) (
  ∃ I_3 : Bool → Int → World → Nat → Prop,
  (∃ n, I_3 b7_1 0 w_11 n) ∧
  ∀ d_3 : Env, ∀ (b7_2 : Bool) (x22 : Int) (w_14 : World) (r_3 : Nat), I_3 b7_2 x22 w_14 r_3 →
  ∃ (A184 : Option Addr) (n184 c184 : Nat),
  w_14.cell? ⟨w.heap.size, 2, none⟩ = some (.slice A184 n184 c184) ∧
  sel (decide ((x22 : Int) < ((n184 : Int) : Int))) (
  ∃ (A193 : Option Addr) (n193 c193 : Nat),
  w_14.cell? ⟨w.heap.size, 2, none⟩ = some (.slice A193 n193 c193) ∧
  (0 : Int) ≤ x22 ∧ x22 < (n193 : Int) ∧
  needPtr A193 fun b195 o195 =>
  ∃ (s196 : ByteArray),
  w_14.cell? ⟨b195, o195 + x22.toNat * 1, none⟩ = some (.string s196) ∧
  Calls Try.prog 32 #[.pointer p41_0, .string s196] w_14 fun e_10 w_15 =>
  ∃ (x197 : Int),
  e_10 = .returned (.int .i64 x197) ∧
  Calls Try.prog 31 #[.slice A50_0 n50_0 c50_0, .int .i64 x197, .int .i8 2] w_15 fun e_11 w_16 =>
  ∃ (x198_0 : Int) (x198_1 : Int),
  e_11 = .returned (.tuple #[.int .i64 x198_0, .int .i64 x198_1]) ∧
  sel b7_2 (
  ∃ (A205 : Option Addr) (n205 c205 : Nat),
  w_16.cell? ⟨w.heap.size, 4, none⟩ = some (.slice A205 n205 c205) ∧
  (0 : Int) ≤ x22 ∧ x22 < (n205 : Int) ∧
  needPtr A205 fun b207 o207 =>
  ∃ (x208 : Int),
  w_16.cell? ⟨b207, o207 + x22.toNat * 1, none⟩ = some (.int .i64 x208) ∧
  sel ((x198_0 : Int) == (x208 : Int)) (
  sel (decide ((1 : Int) ≤ (x198_1 : Int))) (
  let i188 : Int := IntKind.i64.wrap (x22 + 1);
  ([.string sa2, .pointer (some ⟨w.heap.size, 0, none⟩), .pointer p41_0, .slice A50_0 n50_0 c50_0, .int .i64 i92, .int .i64 x14] : List Value) = ([.string sa2, .pointer (some ⟨w.heap.size, 0, none⟩), .pointer p41_0, .slice A50_0 n50_0 c50_0, .int .i64 i92, .int .i64 x14] : List Value) ∧ ∃ m, m < r_3 ∧ I_3 (decide ((x198_1 : Int) ≤ (i92 : Int))) i188 w_16 m) (
  let i188_1 : Int := IntKind.i64.wrap (x22 + 1);
  ([.string sa2, .pointer (some ⟨w.heap.size, 0, none⟩), .pointer p41_0, .slice A50_0 n50_0 c50_0, .int .i64 i92, .int .i64 x14] : List Value) = ([.string sa2, .pointer (some ⟨w.heap.size, 0, none⟩), .pointer p41_0, .slice A50_0 n50_0 c50_0, .int .i64 i92, .int .i64 x14] : List Value) ∧ ∃ m, m < r_3 ∧ I_3 false i188_1 w_16 m)) (
  let i188_2 : Int := IntKind.i64.wrap (x22 + 1);
  ([.string sa2, .pointer (some ⟨w.heap.size, 0, none⟩), .pointer p41_0, .slice A50_0 n50_0 c50_0, .int .i64 i92, .int .i64 x14] : List Value) = ([.string sa2, .pointer (some ⟨w.heap.size, 0, none⟩), .pointer p41_0, .slice A50_0 n50_0 c50_0, .int .i64 i92, .int .i64 x14] : List Value) ∧ ∃ m, m < r_3 ∧ I_3 false i188_2 w_16 m)) (
  let i188_3 : Int := IntKind.i64.wrap (x22 + 1);
  ([.string sa2, .pointer (some ⟨w.heap.size, 0, none⟩), .pointer p41_0, .slice A50_0 n50_0 c50_0, .int .i64 i92, .int .i64 x14] : List Value) = ([.string sa2, .pointer (some ⟨w.heap.size, 0, none⟩), .pointer p41_0, .slice A50_0 n50_0 c50_0, .int .i64 i92, .int .i64 x14] : List Value) ∧ ∃ m, m < r_3 ∧ I_3 false i188_3 w_16 m)) (
  ∃ (A221 : Option Addr) (n221 c221 : Nat),
  w_14.cell? ⟨w.heap.size, 1, none⟩ = some (.slice A221 n221 c221) ∧
  Calls Try.prog 33 #[.slice A221 n221 c221, .string sa2] w_14 fun e_12 w_17 =>
  ∃ (b223 : Bool),
  e_12 = .returned (.bool b223) ∧
  Calls Try.prog 32 #[.pointer p41_0, .string sa2] w_17 fun e_13 w_18 =>
  ∃ (x229 : Int),
  e_13 = .returned (.int .i64 x229) ∧
  Calls Try.prog 31 #[.slice A50_0 n50_0 c50_0, .int .i64 x229, .int .i8 1] w_18 fun e_14 w_19 =>
  ∃ (x230_0 : Int) (x230_1 : Int),
  e_14 = .returned (.tuple #[.int .i64 x230_0, .int .i64 x230_1]) ∧
  sel b7_2 (
  sel ((x14 : Int) == (i92 : Int)) (
  let i241 : Int := IntKind.i64.wrap (2 * x14);
  (0 : Int) ≤ 1 ∧ 1 < (n50_0 : Int) ∧
  needPtr A50_0 fun b243 o243 =>
  ∃ (x244 : Int),
  w_19.cell? ⟨b243, o243 + 1, none⟩ = some (.int .i64 x244) ∧
  sel (decide ((i241 : Int) ≤ (x244 : Int))) (
  sel (!(!b223)) (
  R (.bool true) w_19) (
  sel ((x230_0 : Int) == (0 : Int)) (
  sel (decide ((1 : Int) ≤ (x230_1 : Int))) (
  let i260 : Int := IntKind.i64.wrap (i92 + 1);
  R (.bool (decide ((x230_1 : Int) ≤ (i260 : Int)))) w_19) (
  R (.bool false) w_19)) (
  R (.bool false) w_19))) (
  R (.bool false) w_19)) (
  R (.bool false) w_19)) (
  R (.bool false) w_19)))))))))))))
theorem f8.eq (Aa0_0 : Option Addr) (na0_0 ca0_0 : Nat) (Aa0_1 : Option Addr) (na0_1 ca0_1 : Nat) (Aa0_2 : Option Addr) (na0_2 ca0_2 : Nat) (Aa0_3 : Option Addr) (na0_3 ca0_3 : Nat) (Aa0_4 : Option Addr) (na0_4 ca0_4 : Nat) (Aa0_5 : Option Addr) (na0_5 ca0_5 : Nat) (Aa1 : Option Addr) (na1 ca1 : Nat) (sa2 : ByteArray) (w : World) (R : Value → World → Prop) : f8.VC Aa0_0 na0_0 ca0_0 Aa0_1 na0_1 ca0_1 Aa0_2 na0_2 ca0_2 Aa0_3 na0_3 ca0_3 Aa0_4 na0_4 ca0_4 Aa0_5 na0_5 ca0_5 Aa1 na1 ca1 sa2 w R = funV Try.prog Try.f8 f8.AL f8.AC #[.agg #[.slice Aa0_0 na0_0 ca0_0, .slice Aa0_1 na0_1 ca0_1, .slice Aa0_2 na0_2 ca0_2, .slice Aa0_3 na0_3 ca0_3, .slice Aa0_4 na0_4 ca0_4, .slice Aa0_5 na0_5 ca0_5], .slice Aa1 na1 ca1, .string sa2] w R := by kernel_rfl
theorem f8.calls {Aa0_0 : Option Addr} {na0_0 ca0_0 : Nat} {Aa0_1 : Option Addr} {na0_1 ca0_1 : Nat} {Aa0_2 : Option Addr} {na0_2 ca0_2 : Nat} {Aa0_3 : Option Addr} {na0_3 ca0_3 : Nat} {Aa0_4 : Option Addr} {na0_4 ca0_4 : Nat} {Aa0_5 : Option Addr} {na0_5 ca0_5 : Nat} {Aa1 : Option Addr} {na1 ca1 : Nat} {sa2 : ByteArray} {w : World} {R : Value → World → Prop} (h : f8.VC Aa0_0 na0_0 ca0_0 Aa0_1 na0_1 ca0_1 Aa0_2 na0_2 ca0_2 Aa0_3 na0_3 ca0_3 Aa0_4 na0_4 ca0_4 Aa0_5 na0_5 ca0_5 Aa1 na1 ca1 sa2 w R) : Calls Try.prog 8 #[.agg #[.slice Aa0_0 na0_0 ca0_0, .slice Aa0_1 na0_1 ca0_1, .slice Aa0_2 na0_2 ca0_2, .slice Aa0_3 na0_3 ca0_3, .slice Aa0_4 na0_4 ca0_4, .slice Aa0_5 na0_5 ca0_5], .slice Aa1 na1 ca1, .string sa2] w fun e w' => ∃ v, e = .returned v ∧ R v w' :=
  funV_sound (fn := Try.f8) (AL := f8.AL) (AC := f8.AC) W25.mixed (by kernel_rfl) (by rw [← f8.eq Aa0_0 na0_0 ca0_0 Aa0_1 na0_1 ca0_1 Aa0_2 na0_2 ca0_2 Aa0_3 na0_3 ca0_3 Aa0_4 na0_4 ca0_4 Aa0_5 na0_5 ca0_5 Aa1 na1 ca1 sa2]; exact h)

/-- gatehouse/gatehouselaw12.in -/
def f33.AL : Nat → Option Ann := fun r => match r with | 2 => some ⟨[(5, .int .i64)], [0, 1]⟩ | _ => none
def f33.AC : Nat → Option Ann := fun _ => none
def f33.VC (Aa0 : Option Addr) (na0 ca0 : Nat) (sa1 : ByteArray) (w : World) (R : Value → World → Prop) : Prop :=
  ∃ I : Int → World → Nat → Prop,
  (∃ n, I 0 w n) ∧
  ∀ d : Env, ∀ (x5 : Int) (w_1 : World) (r : Nat), I x5 w_1 r →
  sel (decide ((x5 : Int) < ((na0 : Int) : Int))) (
  (0 : Int) ≤ x5 ∧ x5 < (na0 : Int) ∧
  needPtr Aa0 fun b14 o14 =>
  ∃ (s15 : ByteArray),
  w_1.cell? ⟨b14, o14 + x5.toNat * 1, none⟩ = some (.string s15) ∧
  sel (decide (s15 = sa1)) (
  R (.bool true) w_1) (
  let i11 : Int := IntKind.i64.wrap (x5 + 1);
  ([.slice Aa0 na0 ca0, .string sa1] : List Value) = ([.slice Aa0 na0 ca0, .string sa1] : List Value) ∧ ∃ m, m < r ∧ I i11 w_1 m)) (
  R (.bool false) w_1)
theorem f33.eq (Aa0 : Option Addr) (na0 ca0 : Nat) (sa1 : ByteArray) (w : World) (R : Value → World → Prop) : f33.VC Aa0 na0 ca0 sa1 w R = funV Try.prog Try.f33 f33.AL f33.AC #[.slice Aa0 na0 ca0, .string sa1] w R := by kernel_rfl
theorem f33.calls {Aa0 : Option Addr} {na0 ca0 : Nat} {sa1 : ByteArray} {w : World} {R : Value → World → Prop} (h : f33.VC Aa0 na0 ca0 sa1 w R) : Calls Try.prog 33 #[.slice Aa0 na0 ca0, .string sa1] w fun e w' => ∃ v, e = .returned v ∧ R v w' :=
  funV_sound (fn := Try.f33) (AL := f33.AL) (AC := f33.AC) W25.mixed (by kernel_rfl) (by rw [← f33.eq Aa0 na0 ca0 sa1]; exact h)

end Go.Proofs.Ytjmlfknogjaemaa
