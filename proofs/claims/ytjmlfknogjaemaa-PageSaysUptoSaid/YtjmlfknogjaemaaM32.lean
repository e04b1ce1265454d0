/- Page: what a laid page's words answer: searches and decisions (plain law). -/
import Derived.Test.YtjmlfknogjaemaaM30
import Derived.Test.YtjmlfknogjaemaaM4
import Derived.Test.YtjmlfknogjaemaaProg
import Derived.KernelRfl
set_option linter.unusedVariables false
set_option linter.unusedSimpArgs false
set_option maxRecDepth 10000
namespace Go.Proofs.Ytjmlfknogjaemaa
open Go Go.Proofs.Ytjmlfknogjaemaa.Vc
namespace PG
open Vc.PG NI
theorem num_get {L : List ByteArray} {s : ByteArray} (h : s ∈ L) : 1 ≤ IX.num L s ∧ IX.num L s ≤ L.length ∧ ∀ d, L.getD (IX.num L s - 1) d = s := by
  unfold IX.num
  cases hx : L.findIdx? (fun x => decide (x = s)) with
  | none =>
    have := List.findIdx?_eq_none_iff.1 hx s h
    simp at this
  | some j =>
    obtain ⟨hj, he, _⟩ := List.findIdx?_eq_some_iff_getElem.mp hx
    refine ⟨Nat.le_add_left _ _, hj, fun d => ?_⟩
    have := of_decide_eq_true he
    simpa [List.getD_eq_getElem?_getD, hj] using this
theorem num_inj {L : List ByteArray} {s t : ByteArray} (h : s ∈ L) (h' : t ∈ L) (e : IX.num L s = IX.num L t) : s = t := by
  have h1 := (num_get h).2.2 ⟨#[]⟩
  rw [e, (num_get h').2.2] at h1
  exact h1.symm
theorem ens_keys {L l : List ByteArray} {k : Int} {n : List Int} (h : l.length = n.length) : (ensOf l k n).map (keyE L) = l.map fun s => (IX.num L s : Int) * 4 + k := by
  have e : (ensOf l k n).map (keyE L) = ((ensOf l k n).map (·.1)).map fun s => (IX.num L s : Int) * 4 + k := by
    unfold ensOf
    rw [List.map_map, List.map_map, List.map_map]
    rfl
  rw [e, ensOf_fst h]
theorem ent_mem {L l : List ByteArray} {k : Int} {n : List Int} (h : l.length = n.length) {p : Pz} : p ∈ entP L (ensOf l k n) ↔ ∃ i, i < l.length ∧ p = ((IX.num L (l.getD i ByteArray.empty) : Int) * 4 + k, n.getD i 0) := by
  unfold entP ensOf
  rw [List.map_map]
  constructor
  · intro hp
    obtain ⟨q, hq, rfl⟩ := List.mem_map.1 hp
    obtain ⟨i, hi, rfl⟩ := List.mem_iff_getElem.1 hq
    rw [List.length_zip] at hi
    refine ⟨i, by omega, ?_⟩
    simp [keyE, List.getD_eq_getElem?_getD, show i < l.length by omega, show i < n.length by omega]
  · rintro ⟨i, hi, rfl⟩
    refine List.mem_map.2 ⟨(l.getD i ByteArray.empty, n.getD i 0), ?_, rfl⟩
    refine List.mem_iff_getElem.2 ⟨i, by rw [List.length_zip]; omega, ?_⟩
    simp [List.getD_eq_getElem?_getD, hi, show i < n.length by omega]
theorem ent_app (L : List ByteArray) (a b : List En) : entP L (a ++ b) = entP L a ++ entP L b := List.map_append
theorem ens_len2 {g : Gd} (hv : validP g = true) : (ens g).length = (names g).length := by
  obtain ⟨⟨p1, p2, p3, p4, p5⟩, _⟩ := valid_parts hv
  have := congrArg List.length (ens_fst (g := g) ⟨p4, p5⟩)
  simpa using this
theorem keys_nodup {g : Gd} (hv : validP g = true) {L : List ByteArray} (hin : ∀ s ∈ names g, s ∈ L) : ((ens g).map (keyE L)).Nodup := by
  obtain ⟨⟨p1, p2, p3, p4, p5⟩, ⟨n1, n2, n3⟩, _⟩ := valid_parts hv
  have one : ∀ (l : List ByteArray) (k : Int), l.Nodup → (∀ s ∈ l, s ∈ L) → (l.map fun s => (IX.num L s : Int) * 4 + k).Nodup := by
    intro l k hn hi
    rw [List.Nodup, List.pairwise_map]
    refine List.Pairwise.imp_of_mem ?_ hn
    intro a b ha hb hab e
    exact hab (num_inj (hi a ha) (hi b hb) (by omega))
  have two : ∀ (l m : List ByteArray) (j k : Int), j ≠ k → 0 ≤ j → j < 4 → 0 ≤ k → k < 4 → ∀ a ∈ l.map (fun s => (IX.num L s : Int) * 4 + j), ∀ b ∈ m.map (fun s => (IX.num L s : Int) * 4 + k), a ≠ b := by
    intro l m j k hjk h1 h2 h3 h4 a ha b hb e
    obtain ⟨s, _, rfl⟩ := List.mem_map.1 ha
    obtain ⟨t, _, rfl⟩ := List.mem_map.1 hb
    omega
  unfold ens
  rw [List.map_append, List.map_append, ens_keys (by rw [upTo_len]), ens_keys p4.symm, ens_keys p5.symm]
  unfold names at hin
  rw [List.nodup_append, List.nodup_append]
  refine ⟨⟨one _ _ n1 fun s hs => hin s (by simp [hs]), one _ _ n2 fun s hs => hin s (by simp [hs]), two _ _ _ _ (by decide) (by decide) (by decide) (by decide) (by decide)⟩, one _ _ n3 fun s hs => hin s (by simp [hs]), ?_⟩
  intro a ha b hb
  rcases List.mem_append.1 ha with ha | ha
  · exact two _ _ _ _ (by decide) (by decide) (by decide) (by decide) (by decide) a ha b hb
  · exact two _ _ _ _ (by decide) (by decide) (by decide) (by decide) (by decide) a ha b hb
theorem key_pos {g : Gd} (L : List ByteArray) : ∀ e ∈ ens g, 0 < keyE L e := by
  have hk : ∀ (l : List ByteArray) (k : Int) (n : List Int), 0 < k → ∀ e ∈ ensOf l k n, 0 < keyE L e := by
    intro l k n hk e he
    unfold ensOf at he
    obtain ⟨q, _, rfl⟩ := List.mem_map.1 he
    unfold keyE
    dsimp only
    omega
  intro e he
  unfold ens at he
  rcases List.mem_append.1 he with he | he
  · rcases List.mem_append.1 he with he | he
    · exact hk _ _ _ (by decide) e he
    · exact hk _ _ _ (by decide) e he
  · exact hk _ _ _ (by decide) e he
theorem lay_tab {g : Gd} (hv : validP g = true) {l : List ByteArray} (hr : l.length + freshN l g ≤ 1048576) : Tab (layZ g l).2 (entP (layZ g l).1 (ens g)) ∧ ∀ s ∈ names g, s ∈ (layZ g l).1 := by
  have hz := layZ_eq hv hr []
  rw [List.append_nil] at hz
  rw [hz]
  show Tab ((ens g).foldl (putK (all l (names g))) (List.replicate (tOf g) pz0)) (entP (all l (names g)) (ens g)) ∧ ∀ s ∈ names g, s ∈ all l (names g)
  have hin : ∀ s ∈ names g, s ∈ all l (names g) := fun s hs => all_in (by unfold freshN at hr; omega) hs
  generalize all l (names g) = L at *
  have hlen := ens_len2 hv
  obtain ⟨⟨p1, p2, p3, p4, p5⟩, _⟩ := valid_parts hv
  have hnl := names_len g
  have ht := tabN_ge (k := (names g).length) (by omega)
  refine ⟨?_, hin⟩
  have := tab_fold L (ens g) (List.replicate (tOf g) pz0) [] (Tab.nil _) (by rw [full_zero, List.length_replicate]; unfold tOf; omega) (keys_nodup hv hin) (fun e he => by have := key_pos L e he; omega) (by simp)
  simpa using this
theorem flat_get {m : Nat} : ∀ (M : List (List Int)), (∀ r ∈ M, r.length = m) → ∀ x y, x < M.length → y < m → M.flatten.getD (x * m + y) 0 = (M.getD x []).getD y 0
  | [], _, x, y, hx, _ => by simp at hx
  | r :: M, hM, 0, y, _, hy => by
    have hr := hM r List.mem_cons_self
    rw [List.flatten_cons, Nat.zero_mul, Nat.zero_add, List.getD_eq_getElem?_getD, List.getElem?_append_left (by omega)]
    simp [List.getD_eq_getElem?_getD]
  | r :: M, hM, x + 1, y, hx, hy => by
    have hr := hM r List.mem_cons_self
    have ih := flat_get M (fun s hs => hM s (List.mem_cons_of_mem _ hs)) x y (by simpa using hx) hy
    rw [List.flatten_cons, List.getD_eq_getElem?_getD, List.getElem?_append_right (by rw [Nat.succ_mul]; omega), hr, show (x + 1) * m + y - m = x * m + y by rw [Nat.succ_mul]; omega]
    rw [List.getD_eq_getElem?_getD] at ih
    rw [ih]
    simp [List.getD_eq_getElem?_getD]
/-- A laid page: its words, its table, the names with their numbers. -/
structure LaidW (W : List Int) (L : List ByteArray) (v : Int) (g : Gd) (Z : List Pz) : Prop where
  tab : Tab Z (entP L (ens g))
  zl : Z.length = tOf g
  reads : Reads W Z
  len : W.length = 4 + 2 * tOf g + topOf (gF g) * topOf (gN g)
  h0 : W.getD 0 0 = v
  h1 : W.getD 1 0 = (tOf g : Int)
  h2 : W.getD 2 0 = (topOf (gF g) : Int)
  h3 : W.getD 3 0 = (topOf (gN g) : Int)
  mask : ∀ x, x < topOf (gF g) → ∀ y, y < topOf (gN g) → W.getD (4 + 2 * tOf g + x * topOf (gN g) + y) 0 = ((gM g).getD x []).getD y 0
  known : ∀ s ∈ names g, s ∈ L
theorem valid_rows {g : Gd} (hv : validP g = true) : (gM g).length = topOf (gF g) ∧ ∀ r ∈ gM g, r.length = topOf (gN g) := by
  obtain ⟨p1, p2, p3, p4, p5, p6, p7, p8, p9⟩ := valid_parts hv
  have hm4 : (gM g).length = topOf (gF g) := ((shaped_iff _ _ _ _).1 p7).1
  refine ⟨hm4, fun r hr => ?_⟩
  obtain ⟨a, ha, rfl⟩ := (mem_getD [] _ _).1 hr
  exact row_len hv (by omega)
theorem getD_left {a b : List Int} {i : Nat} (h : i < a.length) : (a ++ b).getD i 0 = a.getD i 0 := by
  rw [List.getD_eq_getElem?_getD, List.getElem?_append_left h, List.getD_eq_getElem?_getD]
theorem laidW_of {v : Int} {g : Gd} {l : List ByteArray} (h : (layP v g l).2.1 = 0) : 1 ≤ v ∧ v ≤ 2147483647 ∧ validP g = true ∧ ∃ Z, LaidW (layP v g l).1 (layP v g l).2.2 v g Z := by
  have hlen := lay_len h
  unfold layP at h hlen ⊢
  split at h
  · cases h
  split at h
  · cases h
  split at h
  · cases h
  rename_i hver hv0 hr
  rw [if_neg hver, if_neg hv0, if_neg hr] at hlen ⊢
  have hv : validP g = true := by cases h : validP g with | true => rfl | false => exact absurd h hv0
  obtain ⟨ht, hk⟩ := lay_tab hv (l := l) (by omega)
  have hzl : (layZ g l).2.length = tOf g := by rw [layZ_eq hv (by omega) [], putK_len, List.length_replicate]
  obtain ⟨hm, hrow⟩ := valid_rows hv
  refine ⟨by omega, by omega, hv, (layZ g l).2, ?_⟩
  dsimp only at hlen ⊢
  have hpl : (pageZ (headP v g) (layZ g l).2).length = 4 + 2 * tOf g := by rw [pageZ_len (head_len v g), hzl]
  have hhd : ∀ i, i < 4 → (pageZ (headP v g) (layZ g l).2 ++ (gM g).flatten).getD i 0 = (headP v g).getD i 0 := fun i hi => by
    rw [getD_left (by omega)]
    unfold pageZ
    rw [getD_left (by rw [head_len]; exact hi)]
  refine ⟨ht, hzl, fun i hi => ?_, ?_, hhd 0 (by decide), hhd 1 (by decide), hhd 2 (by decide), hhd 3 (by decide), fun x hx y hy => ?_, hk⟩
  · rw [getD_left (by omega), getD_left (by omega)]
    exact ⟨pageZ_fst (head_len v g) hi, pageZ_snd (head_len v g) hi⟩
  · unfold sizeP at hlen
    rw [if_pos hv] at hlen
    omega
  · rw [List.getD_eq_getElem?_getD, List.getElem?_append_right (by omega), hpl, show 4 + 2 * tOf g + x * topOf (gN g) + y - (4 + 2 * tOf g) = x * topOf (gN g) + y by omega, ← List.getD_eq_getElem?_getD]
    exact flat_get (gM g) hrow x y (by omega) hy
theorem ent_more {g : Gd} (hv : validP g = true) {L : List ByteArray} (hk : ∀ s ∈ names g, s ∈ L) (r : List ByteArray) : entP (L ++ r) (ens g) = entP L (ens g) := by
  obtain ⟨⟨p1, p2, p3, p4, p5⟩, _⟩ := valid_parts hv
  unfold entP
  refine List.map_inj_left.2 fun e he => ?_
  have hm : e.1 ∈ names g := by
    rw [← ens_fst ⟨p4, p5⟩]
    exact List.mem_map.2 ⟨e, he, rfl⟩
  unfold keyE
  rw [num_app (hk _ hm)]
theorem LaidW.more {W : List Int} {L : List ByteArray} {v : Int} {g : Gd} {Z : List Pz} (h : LaidW W L v g Z) (hv : validP g = true) (r : List ByteArray) : LaidW W (L ++ r) v g Z :=
  { h with tab := by rw [ent_more hv h.known]; exact h.tab, known := fun s hs => List.mem_append.2 (.inl (h.known s hs)) }
theorem LaidW.of {W : List Int} {L : List ByteArray} {v : Int} {g : Gd} {Z : List Pz} (h : LaidW W L v g Z) (hv : validP g = true) (s : ByteArray) : LaidW W (IX.of L s) v g Z := by
  obtain ⟨r, hr⟩ := of_app L s
  rw [hr]
  exact h.more hv r
/-- The class of a name. -/
def clsP (l : List ByteArray) (n : List Int) (s : ByteArray) : Option Int := if IX.num l s = 0 then none else some (n.getD (IX.num l s - 1) 0)
theorem keyN_id {s : Nat} (h : s ≤ 1048577) (k : Int) (hk : 0 ≤ k ∧ k ≤ 3) : keyN (s : Int) k = (s : Int) * 4 + k := by
  unfold keyN; rw [wr]; omega
section
variable {W : List Int} {L : List ByteArray} {v : Int} {g : Gd} {Z : List Pz} (h : LaidW W L v g Z) (hv : validP g = true) (hL : L.length ≤ 1048576)
include h hv
theorem LaidW.full : fullN Z = (names g).length ∧ 2 * fullN Z ≤ tOf g ∧ 2 ≤ tOf g ∧ fullN Z < Z.length ∧ (names g).length ≤ 144 := by
  have h1 := h.tab.full
  unfold entP at h1
  rw [List.length_map, ens_len2 hv] at h1
  obtain ⟨⟨p1, p2, p3, _⟩, _⟩ := valid_parts hv
  have hnl := names_len g
  have ht := tabN_ge (k := (names g).length) (by omega)
  have hzl := h.zl
  unfold tOf at *
  omega
theorem LaidW.tabP : tabP W = (tOf g : Int) := by
  obtain ⟨f1, f2, f3, f4, f5⟩ := h.full hv
  have hp := (tabN_small ⟨(names g).length, by omega⟩).2
  have hl := h.len
  unfold Vc.PG.tabP
  rw [if_neg (by omega), h.h1, if_pos ⟨hp, by omega⟩]
/-- What stands in the table for a kind. -/
theorem LaidW.ent {k : Int} {l : List ByteArray} {n : List Int} (hk : (k = 3 ∧ l = gA g ∧ n = upTo (gA g).length) ∨ (k = 1 ∧ l = gS g ∧ n = gF g) ∨ (k = 2 ∧ l = gO g ∧ n = gN g)) :
    l.length = n.length ∧ (∀ s ∈ l, s ∈ L) ∧ (∀ p, p ∈ entP L (ensOf l k n) → p ∈ entP L (ens g)) ∧ (∀ p ∈ entP L (ens g), p.1 % 4 = k → p ∈ entP L (ensOf l k n)) ∧ 1 ≤ k ∧ k ≤ 3 ∧ l.Nodup := by
  obtain ⟨⟨p1, p2, p3, p4, p5⟩, ⟨n1, n2, n3⟩, _⟩ := valid_parts hv
  have hkn := h.known
  unfold names at hkn
  have e : entP L (ens g) = (entP L (ensOf (gA g) 3 (upTo (gA g).length)) ++ entP L (ensOf (gS g) 1 (gF g))) ++ entP L (ensOf (gO g) 2 (gN g)) := by
    unfold ens; rw [ent_app, ent_app]
  have hA := @ent_mem L (gA g) 3 (upTo (gA g).length) (by rw [upTo_len])
  have hS := @ent_mem L (gS g) 1 (gF g) p4.symm
  have hO := @ent_mem L (gO g) 2 (gN g) p5.symm
  rw [e]
  have key : ∀ p : Pz, p ∈ (entP L (ensOf (gA g) 3 (upTo (gA g).length)) ++ entP L (ensOf (gS g) 1 (gF g))) ++ entP L (ensOf (gO g) 2 (gN g)) → (p.1 % 4 = 3 ∧ p ∈ entP L (ensOf (gA g) 3 (upTo (gA g).length))) ∨ (p.1 % 4 = 1 ∧ p ∈ entP L (ensOf (gS g) 1 (gF g))) ∨ (p.1 % 4 = 2 ∧ p ∈ entP L (ensOf (gO g) 2 (gN g))) := by
    intro p hp
    rcases List.mem_append.1 hp with hp | hp
    · rcases List.mem_append.1 hp with hp | hp
      · obtain ⟨i, _, rfl⟩ := hA.1 hp
        exact .inl ⟨by dsimp only; omega, hp⟩
      · obtain ⟨i, _, rfl⟩ := hS.1 hp
        exact .inr (.inl ⟨by dsimp only; omega, hp⟩)
    · obtain ⟨i, _, rfl⟩ := hO.1 hp
      exact .inr (.inr ⟨by dsimp only; omega, hp⟩)
  rcases hk with ⟨rfl, rfl, rfl⟩ | ⟨rfl, rfl, rfl⟩ | ⟨rfl, rfl, rfl⟩
  · refine ⟨by rw [upTo_len], fun s hs => hkn s (by simp [hs]), fun p hp => by simp [hp], fun p hp hk => ?_, by decide, by decide, n1⟩
    rcases key p hp with ⟨_, h1⟩ | ⟨h1, _⟩ | ⟨h1, _⟩
    · exact h1
    · omega
    · omega
  · refine ⟨p4.symm, fun s hs => hkn s (by simp [hs]), fun p hp => by simp [hp], fun p hp hk => ?_, by decide, by decide, n2⟩
    rcases key p hp with ⟨h1, _⟩ | ⟨_, h1⟩ | ⟨h1, _⟩
    · omega
    · exact h1
    · omega
  · refine ⟨p5.symm, fun s hs => hkn s (by simp [hs]), fun p hp => by simp [hp], fun p hp hk => ?_, by decide, by decide, n3⟩
    rcases key p hp with ⟨h1, _⟩ | ⟨h1, _⟩ | ⟨_, h1⟩
    · omega
    · omega
    · exact h1
include hL
/-- What is sought: a name, by its number, and a kind. -/
theorem LaidW.sought {k : Int} {l : List ByteArray} {n : List Int} (hk : (k = 3 ∧ l = gA g ∧ n = upTo (gA g).length) ∨ (k = 1 ∧ l = gS g ∧ n = gF g) ∨ (k = 2 ∧ l = gO g ∧ n = gN g)) (t : ByteArray) :
    keyN (IX.ofN L t : Int) k ≠ 0 ∧ (t ∈ l → (keyN (IX.ofN L t : Int) k, n.getD (IX.num l t - 1) 0) ∈ entP L (ens g)) ∧ (¬ t ∈ l → ∀ p ∈ entP L (ens g), p.1 ≠ keyN (IX.ofN L t : Int) k) := by
  obtain ⟨e1, e2, e3, e4, e5, e6, e7⟩ := h.ent hv hk
  rw [keyN_id (by have := ofN_le hL t; omega) k ⟨by omega, e6⟩]
  refine ⟨by omega, fun ht => ?_, fun ht p hp he => ?_⟩
  · have hin := e2 t ht
    have h0 : IX.ofN L t = IX.num L t := by
      unfold IX.ofN
      rw [if_neg fun h0 => num_zero.1 h0 hin]
    obtain ⟨g1, g2, g3⟩ := num_get ht
    refine e3 _ ((ent_mem e1).2 ⟨IX.num l t - 1, by omega, ?_⟩)
    rw [h0, g3]
  · have hp4 := e4 p hp (by rw [he]; omega)
    obtain ⟨i, hi, rfl⟩ := (ent_mem e1).1 hp4
    have hm : l.getD i ByteArray.empty ∈ l := (mem_getD _ _ _).2 ⟨i, hi, rfl⟩
    have hin := e2 _ hm
    have hg := num_get hin
    dsimp only at he
    have he : IX.num L (l.getD i ByteArray.empty) = IX.ofN L t := by omega
    unfold IX.ofN at he
    split at he
    · split at he
      · omega
      · omega
    · rename_i h0
      have htL : t ∈ L := Classical.byContradiction fun hn => h0 (num_zero.2 hn)
      exact ht (num_inj hin htL he ▸ hm)
theorem LaidW.seek {k : Int} {l : List ByteArray} {n : List Int} (hk : (k = 3 ∧ l = gA g ∧ n = upTo (gA g).length) ∨ (k = 1 ∧ l = gS g ∧ n = gF g) ∨ (k = 2 ∧ l = gO g ∧ n = gN g)) (t : ByteArray) (q : Nat) :
    (seekP W (tOf g) (keyN (IX.ofN L t : Int) k) q).1 = clsP l n t := by
  obtain ⟨s1, s2, s3⟩ := h.sought hv hL hk t
  obtain ⟨f1, f2, f3, f4, f5⟩ := h.full hv
  have hl := h.len
  have hzl := h.zl
  unfold clsP
  by_cases htl : t ∈ l
  · rw [if_neg fun h0 => num_zero.1 h0 htl, ← hzl]
    exact h.tab.seek h.reads (by omega) (s2 htl) q
  · rw [if_pos (num_zero.2 htl), ← hzl]
    exact h.tab.lost h.reads (by omega) f4 s1 (s3 htl) q
end
/-- What a graph decides. -/
def decG (g : Gd) (s o a : ByteArray) : Bool :=
  match clsP (gS g) (gF g) s, clsP (gO g) (gN g) o, clsP (gA g) (upTo (gA g).length) a with
  | some x, some y, some z => bitB (((gM g).getD (x - 1).toNat []).getD (y - 1).toNat 0) (z - 1)
  | _, _, _ => false
theorem cls_range {l : List ByteArray} {n : List Int} {m : Nat} (hg : great n 0 = some m) (hl : n.length = l.length) {s : ByteArray} {x : Int} (h : clsP l n s = some x) : 1 ≤ x ∧ x ≤ m := by
  unfold clsP at h
  split at h
  · cases h
  · rename_i hs
    injection h with h
    have := num_get (Classical.byContradiction fun hn => hs (num_zero.2 hn))
    exact (great_ge _ _ _ hg).2 x ((mem_getD 0 _ _).2 ⟨IX.num l s - 1, by omega, h⟩)
theorem upTo_get {n i : Nat} (h : i < n) : (upTo n).getD i 0 = ((i + 1 : Nat) : Int) := by
  unfold upTo
  simp [List.getD_eq_getElem?_getD, h]
theorem cls_upTo {l : List ByteArray} {s : ByteArray} {x : Int} (h : clsP l (upTo l.length) s = some x) : 1 ≤ x ∧ x ≤ l.length := by
  unfold clsP at h
  split at h
  · cases h
  · rename_i hs
    injection h with h
    have := num_get (Classical.byContradiction fun hn => hs (num_zero.2 hn))
    rw [upTo_get (by omega)] at h
    omega
theorem decFrom3 (W : List Int) (t : Nat) (s o a x y z : Int) (n : Nat) : decFrom W t s o a 3 x y z n = match seekP W t (keyN s 1) n with | (none, m) => (false, m) | (some v, m) => decFrom W t s o a 2 v y z m := by
  rw [decFrom]
  generalize seekP W t (keyN s 1) n = r
  obtain ⟨r, m⟩ := r
  cases r <;> rfl
theorem decFrom2 (W : List Int) (t : Nat) (s o a x y z : Int) (n : Nat) : decFrom W t s o a 2 x y z n = match seekP W t (keyN o 2) n with | (none, m) => (false, m) | (some v, m) => decFrom W t s o a 1 x v z m := by
  rw [decFrom]
  generalize seekP W t (keyN o 2) n = r
  obtain ⟨r, m⟩ := r
  cases r <;> rfl
theorem decFrom1 (W : List Int) (t : Nat) (s o a x y z : Int) (n : Nat) : decFrom W t s o a 1 x y z n = match seekP W t (keyN a 3) n with | (none, m) => (false, m) | (some v, m) => decEnd W t x y v m := by
  rw [decFrom]
  generalize seekP W t (keyN a 3) n = r
  obtain ⟨r, m⟩ := r
  cases r <;> rfl
section
variable {W : List Int} {L1 L2 L3 : List ByteArray} {v : Int} {g : Gd} {Z1 Z2 Z3 : List Pz} (h1 : LaidW W L1 v g Z1) (h2 : LaidW W L2 v g Z2) (h3 : LaidW W L3 v g Z3) (hv : validP g = true) (hL : L1.length ≤ 1048576 ∧ L2.length ≤ 1048576 ∧ L3.length ≤ 1048576)
include h1 h2 h3 hv hL
/-- The page says what the graph says. -/
theorem says_dec (s o a : ByteArray) : (decP W (IX.ofN L1 s : Int) (IX.ofN L2 o : Int) (IX.ofN L3 a : Int)).1 = decG g s o a ∧ ((decP W (IX.ofN L1 s : Int) (IX.ofN L2 o : Int) (IX.ofN L3 a : Int)).2 : Int) ≤ 6 + 3 * (tOf g : Int) := by
  obtain ⟨f1, f2, f3, f4, f5⟩ := h1.full hv
  obtain ⟨⟨p1, p2, p3, p4, p5⟩, _, q1, q2, q3, q4, q5, q6, q7⟩ := valid_parts hv
  have hp : powB (W.getD 1 0) = true := by rw [h1.h1]; exact (tabN_small ⟨(names g).length, by omega⟩).2
  have hl := h1.len
  have b1 := fun q => seekP_le W (tOf g) (keyN (IX.ofN L1 s : Int) 1) q
  have b2 := fun q => seekP_le W (tOf g) (keyN (IX.ofN L2 o : Int) 2) q
  have b3 := fun q => seekP_le W (tOf g) (keyN (IX.ofN L3 a : Int) 3) q
  have k1 := fun q => h1.seek hv hL.1 (k := 1) (.inr (.inl ⟨rfl, rfl, rfl⟩)) s q
  have k2 := fun q => h2.seek hv hL.2.1 (k := 2) (.inr (.inr ⟨rfl, rfl, rfl⟩)) o q
  have k3 := fun q => h3.seek hv hL.2.2 (k := 3) (.inl ⟨rfl, rfl, rfl⟩) a q
  have hh3 := h1.h3
  have hmask := h1.mask
  unfold decP decG
  rw [if_pos (by omega), if_pos hp, h1.h1, Int.toNat_natCast, decFrom3]
  have k1 := k1 1
  have b1 := b1 1
  generalize seekP W (tOf g) (keyN (IX.ofN L1 s : Int) 1) 1 = r1 at *
  obtain ⟨r1, m1⟩ := r1
  dsimp only at k1 b1
  rw [← k1]
  cases r1 with
  | none => dsimp only; exact ⟨rfl, by omega⟩
  | some x =>
  dsimp only
  rw [decFrom2]
  have k2 := k2 m1
  have b2 := b2 m1
  generalize seekP W (tOf g) (keyN (IX.ofN L2 o : Int) 2) m1 = r2 at *
  obtain ⟨r2, m2⟩ := r2
  dsimp only at k2 b2
  rw [← k2]
  cases r2 with
  | none => dsimp only; exact ⟨rfl, by omega⟩
  | some y =>
  dsimp only
  rw [decFrom1]
  have k3 := k3 m2
  have b3 := b3 m2
  generalize seekP W (tOf g) (keyN (IX.ofN L3 a : Int) 3) m2 = r3 at *
  obtain ⟨r3, m3⟩ := r3
  dsimp only at k3 b3
  rw [← k3]
  cases r3 with
  | none => dsimp only; exact ⟨rfl, by omega⟩
  | some z =>
  dsimp only
  have x1 := cls_range q1 p4 k1.symm
  have y1 := cls_range q2 p5 k2.symm
  have z1 := cls_upTo k3.symm
  obtain ⟨X, rfl⟩ : ∃ X : Nat, x = (X : Int) + 1 := ⟨(x - 1).toNat, by omega⟩
  obtain ⟨Y, rfl⟩ : ∃ Y : Nat, y = (Y : Int) + 1 := ⟨(y - 1).toNat, by omega⟩
  have hm := hmask X (by omega) Y (by omega)
  have ht := tOf_le hv
  have hXC : X * topOf (gN g) + topOf (gN g) ≤ topOf (gF g) * topOf (gN g) := by
    rw [← Nat.succ_mul]; exact Nat.mul_le_mul_right _ (by omega)
  have hR := Nat.mul_le_mul q3 q4
  have hat : maskAt (tOf g : Int) ((X : Int) + 1) ((Y : Int) + 1) (topOf (gN g) : Int) = ((4 + 2 * tOf g + X * topOf (gN g) + Y : Nat) : Int) := by
    unfold maskAt
    rw [show ((X : Int) + 1 - 1) * (topOf (gN g) : Int) = ((X * topOf (gN g) : Nat) : Int) by rw [Int.add_sub_cancel, Int.natCast_mul], wr]
    generalize X * topOf (gN g) = p at *
    omega
  unfold decEnd
  rw [if_pos (by omega), hh3, hat, if_pos (by generalize X * topOf (gN g) = p at *; generalize topOf (gF g) * topOf (gN g) = q at *; omega), if_neg (by omega), Int.toNat_natCast, hm]
  refine ⟨?_, by dsimp only; omega⟩
  rw [show ((X : Int) + 1 - 1).toNat = X by omega, show ((Y : Int) + 1 - 1).toNat = Y by omega]
end
end PG
end Go.Proofs.Ytjmlfknogjaemaa
/- The plain statements of some functions, printed by vcgen.py. -/
set_option maxRecDepth 100000
set_option linter.unusedVariables false
namespace Go.Proofs.Ytjmlfknogjaemaa
open Go Go.Proofs.Ytjmlfknogjaemaa.Vc
/-- gatehouse/gatehouselaw12.PageTable -/
def f8.AL : Nat → Option Ann := fun r => match r with | 14 => some ⟨[(14, .int .i64), (15, .int .i64)], [2, 3, 7, 9, 11, 13]⟩ | 19 => some ⟨[(7, .bool), (16, .int .i64)], [2, 3, 9, 11, 13, 14]⟩ | 24 => some ⟨[(7, .bool), (19, .int .i64)], [2, 3, 9, 11, 13, 14]⟩ | 29 => some ⟨[(7, .bool), (22, .int .i64)], [2, 3, 9, 11, 13, 14]⟩ | _ => none
def f8.AC : Nat → Option Ann := fun _ => none
/-- gatehouse/gatehouselaw12.in -/
def f33.AL : Nat → Option Ann := fun r => match r with | 2 => some ⟨[(5, .int .i64)], [0, 1]⟩ | _ => none
def f33.AC : Nat → Option Ann := fun _ => none
end Go.Proofs.Ytjmlfknogjaemaa
/- Page: the law PageTable, the walk. -/
set_option linter.unusedVariables false
set_option linter.unusedSimpArgs false
set_option maxRecDepth 10000
namespace Go.Proofs.Ytjmlfknogjaemaa
open Go Go.Proofs.Ytjmlfknogjaemaa.Vc
namespace PG
open Vc.PG NI
theorem all_len : ∀ (ns l : List ByteArray), (all l ns).length ≤ l.length + ns.length
  | [], l => by simp [all]
  | s :: ns, l => by
    have h1 := all_len ns (IX.of l s)
    have h2 : (IX.of l s).length ≤ l.length + 1 := by
      unfold IX.of
      split
      · split
        · omega
        · simp
      · omega
    show (all (IX.of l s) ns).length ≤ _
    rw [List.length_cons]
    omega
theorem want_len : ∀ (l ns acc : List ByteArray), (wantGo l ns acc).length ≤ acc.length + ns.length
  | l, [], acc => by simp [wantGo]
  | l, s :: ns, acc => by
    rw [wantGo, List.length_cons]
    split
    · have := want_len l ns (acc ++ [s]); rw [List.length_append, List.length_singleton] at this; omega
    · have := want_len l ns acc; omega
/-- Where there is room a valid graph is laid. -/
theorem lay_ok {v : Int} {g : Gd} {l : List ByteArray} (hv : validP g = true) (h1 : 1 ≤ v) (h2 : v ≤ 2147483647) (hl : l.length ≤ 1000000) : (layP v g l).2.1 = 0 := by
  obtain ⟨⟨p1, p2, p3, _⟩, _⟩ := valid_parts hv
  have hn := names_len g
  have hw := want_len l (names g) []
  rw [List.length_nil] at hw
  unfold layP
  rw [if_neg (by omega), if_neg (by rw [hv]; decide), if_neg (by unfold freshN; omega)]
theorem num_at {l : List ByteArray} (hn : l.Nodup) {i : Nat} (hi : i < l.length) : IX.num l (l.getD i ByteArray.empty) = i + 1 := by
  have hm : l.getD i ByteArray.empty ∈ l := (mem_getD _ _ _).2 ⟨i, hi, rfl⟩
  obtain ⟨g1, g2, g3⟩ := num_get hm
  have hg := g3 ByteArray.empty
  have hp := (nodup_getD ByteArray.empty l).1 hn
  rcases Nat.lt_trichotomy (IX.num l (l.getD i ByteArray.empty) - 1) i with h | h | h
  · exact absurd hg (hp _ _ h hi)
  · omega
  · exact absurd hg.symm (hp _ _ h (by omega))
end PG
end Go.Proofs.Ytjmlfknogjaemaa
