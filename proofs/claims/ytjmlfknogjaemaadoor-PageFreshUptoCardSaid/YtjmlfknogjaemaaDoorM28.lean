/- Page: the table of a page: each key that was put down is met. -/
import Derived.Test.YtjmlfknogjaemaaDoorM27
set_option linter.unusedVariables false
set_option linter.unusedSimpArgs false
set_option maxRecDepth 10000
namespace Go.Proofs.YtjmlfknogjaemaaDoor
open Go Go.Proofs.YtjmlfknogjaemaaDoor.Vc
namespace PG
open Vc.PG NI
theorem flat_len {g : Gd} (hv : validP g = true) : (gM g).flatten.length = topOf (gF g) * topOf (gN g) := by
  obtain ⟨p1, p2, p3, p4, p5, p6, p7, p8, p9⟩ := valid_parts hv
  have hm4 : (gM g).length = topOf (gF g) := ((shaped_iff _ _ _ _).1 p7).1
  have : ∀ r ∈ gM g, r.length = topOf (gN g) := fun r hr => by
    obtain ⟨a, ha, rfl⟩ := (mem_getD [] _ _).1 hr
    exact row_len hv (by omega)
  rw [List.length_flatten]
  have e : (gM g).map List.length = List.replicate (topOf (gF g)) (topOf (gN g)) := by
    apply List.ext_getElem (by simp; omega)
    intro q h1 h2
    simp only [List.getElem_map, List.getElem_replicate]
    exact this _ (List.getElem_mem _)
  rw [e]; simp
theorem putK_len (L : List ByteArray) : ∀ (es : List En) (Z : List Pz), (es.foldl (putK L) Z).length = Z.length
  | [], Z => rfl
  | e :: es, Z => by
    show (es.foldl (putK L) (putK L Z e)).length = _
    rw [putK_len L es]
    exact putZ_len _ _ _
theorem head_len (v : Int) (g : Gd) : (headP v g).length = 4 := rfl
theorem tOf_le {g : Gd} (hv : validP g = true) : tOf g ≤ 512 := by
  obtain ⟨⟨p1, p2, p3, _⟩, _⟩ := valid_parts hv
  have := names_len g
  exact (tabN_small ⟨(names g).length, by omega⟩).1
/-- How long a page is. -/
theorem lay_len {v : Int} {g : Gd} {l : List ByteArray} (h : (layP v g l).2.1 = 0) : ((layP v g l).1.length : Int) = sizeP g := by
  unfold layP at h ⊢
  split at h
  · cases h
  split at h
  · cases h
  split at h
  · cases h
  rename_i hver hv hr
  rw [if_neg hver, if_neg hv, if_neg hr]
  have hv : validP g = true := by cases h : validP g with | true => rfl | false => exact absurd h hv
  have hz := layZ_eq hv (l := l) (by omega) []
  show ((pageZ (headP v g) (layZ g l).2 ++ (gM g).flatten).length : Int) = _
  rw [hz, List.length_append, pageZ_len (head_len v g), putK_len, List.length_replicate, flat_len hv]
  unfold sizeP
  rw [if_pos hv]
theorem size_small (g : Gd) : 0 ≤ sizeP g ∧ sizeP g ≤ 6000 := by
  unfold sizeP
  split
  · rename_i hv
    have := tOf_le hv
    obtain ⟨p1, p2, p3, p4, p5, p6, p7, p8, p9⟩ := valid_parts hv
    have hm := Nat.mul_le_mul p5 p6
    generalize topOf (gF g) * topOf (gN g) = p at *
    omega
  · omega
theorem lay_small (v : Int) (g : Gd) (l : List ByteArray) : (layP v g l).1.length ≤ 6000 := by
  have h := size_small g
  by_cases h0 : (layP v g l).2.1 = 0
  · have := lay_len h0; omega
  · have : (layP v g l).1 = [] := by
      unfold layP at h0 ⊢
      split
      · rfl
      split
      · rfl
      split
      · rfl
      · rename_i a b c
        rw [if_neg a, if_neg b, if_neg c] at h0
        exact absurd rfl h0
    rw [this]; simp
theorem freeAt_spec (Z : List Pz) (f : Nat) : ∀ r n, (∃ m, n ≤ m ∧ m < n + r ∧ (Z.getD ((f + m) % Z.length) pz0).1 = 0) → ∃ j, n ≤ j ∧ j < n + r ∧ freeAt Z f n r = (f + j) % Z.length ∧ (Z.getD ((f + j) % Z.length) pz0).1 = 0 ∧ ∀ m, n ≤ m → m < j → (Z.getD ((f + m) % Z.length) pz0).1 ≠ 0
  | 0, n, ⟨m, h1, h2, _⟩ => by omega
  | r + 1, n, ⟨m, h1, h2, h3⟩ => by
    rw [freeAt]
    split
    · rename_i h0
      exact ⟨n, Nat.le_refl _, by omega, rfl, h0, fun m h4 h5 => by omega⟩
    · rename_i hne
      obtain ⟨j, j1, j2, j3, j4, j5⟩ := freeAt_spec Z f r (n + 1) ⟨m, by
        rcases Nat.eq_or_lt_of_le h1 with h | h
        · subst h; exact absurd h3 hne
        · exact h, by omega, h3⟩
      refine ⟨j, by omega, by omega, j3, j4, fun q hq1 hq2 => ?_⟩
      rcases Nat.eq_or_lt_of_le hq1 with h | h
      · subst h; exact hne
      · exact j5 q h hq2
theorem getD_setZ {Z : List Pz} {q : Nat} (hq : q < Z.length) (p : Pz) (i : Nat) : (Z.set q p).getD i pz0 = if i = q then p else Z.getD i pz0 := by
  rw [List.getD_eq_getElem?_getD, List.getElem?_set]
  by_cases h : q = i
  · subst h; simp [hq]
  · rw [if_neg h, if_neg (fun e => h e.symm), List.getD_eq_getElem?_getD]
/-- A table that holds some keys, each where a search meets it. -/
structure Tab (Z : List Pz) (P : List Pz) : Prop where
  pos : ∀ p ∈ P, p.1 ≠ 0
  mem : ∀ i, i < Z.length → (Z.getD i pz0).1 ≠ 0 → Z.getD i pz0 ∈ P
  zero : ∀ i, i < Z.length → (Z.getD i pz0).1 = 0 → Z.getD i pz0 = pz0
  met : ∀ p ∈ P, ∃ j, j < Z.length ∧ Z.getD ((kfirst p.1 Z.length + j) % Z.length) pz0 = p ∧ ∀ m, m < j → (Z.getD ((kfirst p.1 Z.length + m) % Z.length) pz0).1 ≠ 0 ∧ (Z.getD ((kfirst p.1 Z.length + m) % Z.length) pz0).1 ≠ p.1
  one : ∀ i j, i < Z.length → j < Z.length → (Z.getD i pz0).1 ≠ 0 → (Z.getD i pz0).1 = (Z.getD j pz0).1 → i = j
  full : fullN Z = P.length
theorem Tab.nil (t : Nat) : Tab (List.replicate t pz0) [] := by
  have h0 : ∀ i, (List.replicate t pz0).getD i pz0 = pz0 := fun i => by
    rw [List.getD_eq_getElem?_getD, List.getElem?_replicate]
    split <;> rfl
  refine ⟨by simp, fun i _ h => absurd (by rw [h0]) h, fun i _ _ => h0 i, by simp, fun i j _ _ h => absurd (by rw [h0]) h, by rw [full_zero]; rfl⟩
theorem Tab.put {Z P : List Pz} (h : Tab Z P) (hf : fullN Z < Z.length) {key : Int} (num : Int) (hk : key ≠ 0) (hn : ∀ p ∈ P, p.1 ≠ key) : Tab (putZ Z key num) (P ++ [(key, num)]) := by
  obtain ⟨m, hm1, hm2⟩ := empty_of hf (kfirst key Z.length)
  obtain ⟨j, _, j2, j3, j4, j5⟩ := freeAt_spec Z (kfirst key Z.length) Z.length 0 ⟨m, by omega, by omega, hm2⟩
  have hfull := putZ_full hf hk num
  have hpos : 0 < Z.length := by omega
  unfold putZ placeZ at *
  rw [j3] at hfull ⊢
  have hq : (kfirst key Z.length + j) % Z.length < Z.length := Nat.mod_lt _ hpos
  have hl : (Z.set ((kfirst key Z.length + j) % Z.length) (key, num)).length = Z.length := List.length_set
  have hget := getD_setZ hq (key, num)
  generalize hQ : (kfirst key Z.length + j) % Z.length = q at *
  refine ⟨?_, ?_, ?_, ?_, ?_, ?_⟩
  · intro p hp
    rcases List.mem_append.1 hp with hp | hp
    · exact h.pos p hp
    · rw [List.mem_singleton] at hp; subst hp; exact hk
  · intro i hi hne
    rw [hget] at hne ⊢
    rw [hl] at hi
    split
    · simp
    · rename_i hiq
      rw [if_neg hiq] at hne
      exact List.mem_append.2 (.inl (h.mem i hi hne))
  · intro i hi h0
    rw [hget] at h0 ⊢
    rw [hl] at hi
    by_cases hiq : i = q
    · rw [if_pos hiq] at h0; exact absurd h0 hk
    · rw [if_neg hiq] at h0 ⊢; exact h.zero i hi h0
  · intro p hp
    rw [hl]
    rcases List.mem_append.1 hp with hp | hp
    · obtain ⟨a, a1, a2, a3⟩ := h.met p hp
      refine ⟨a, a1, ?_, fun m hm => ?_⟩
      · rw [hget, if_neg]
        · exact a2
        · intro e
          rw [e] at a2
          have := h.pos p hp
          rw [← a2, j4] at this
          exact this rfl
      · rw [hget, if_neg]
        · exact a3 m hm
        · intro e
          have := (a3 m hm).1
          rw [e] at this
          exact this j4
    · rw [List.mem_singleton] at hp; subst hp
      refine ⟨j, by omega, ?_, fun m hm => ?_⟩
      · rw [hget, if_pos hQ]
      · have h1 := j5 m (by omega) hm
        have hne : (kfirst key Z.length + m) % Z.length ≠ q := by
          intro e
          rw [e] at h1
          exact h1 j4
        show ((Z.set q (key, num)).getD ((kfirst key Z.length + m) % Z.length) pz0).1 ≠ 0 ∧ ((Z.set q (key, num)).getD ((kfirst key Z.length + m) % Z.length) pz0).1 ≠ key
        rw [hget, if_neg hne]
        exact ⟨h1, hn _ (h.mem _ (Nat.mod_lt _ hpos) h1)⟩
  · intro i k hi hk2 hne he
    rw [hl] at hi hk2
    rw [hget] at hne he
    rw [hget] at he
    by_cases h1 : i = q
    · by_cases h2 : k = q
      · rw [h1, h2]
      · rw [if_pos h1, if_neg h2] at he
        rw [if_pos h1] at hne
        have h3 : (Z.getD k pz0).1 ≠ 0 := by rw [← he]; exact hne
        exact absurd he.symm (hn _ (h.mem k hk2 h3))
    · rw [if_neg h1] at hne he
      by_cases h2 : k = q
      · rw [if_pos h2] at he
        exact absurd he (hn _ (h.mem i hi hne))
      · rw [if_neg h2] at he
        exact h.one i k hi hk2 hne he
  · rw [hfull, h.full]; simp
/-- The key of an entry. -/
def keyE (L : List ByteArray) (e : En) : Int := (IX.num L e.1 : Int) * 4 + e.2.1
def entP (L : List ByteArray) (es : List En) : List Pz := es.map fun e => (keyE L e, e.2.2)
theorem tab_fold (L : List ByteArray) : ∀ (es : List En) (Z P : List Pz), Tab Z P → fullN Z + es.length ≤ Z.length → (es.map (keyE L)).Nodup → (∀ e ∈ es, keyE L e ≠ 0) → (∀ e ∈ es, ∀ p ∈ P, p.1 ≠ keyE L e) → Tab (es.foldl (putK L) Z) (P ++ entP L es)
  | [], Z, P, h, _, _, _, _ => by simpa [entP] using h
  | e :: es, Z, P, h, hf, hn, h0, hd => by
    rw [List.length_cons] at hf
    rw [List.map_cons, List.nodup_cons] at hn
    have h1 := h.put (by omega) (key := keyE L e) e.2.2 (h0 e List.mem_cons_self) (hd e List.mem_cons_self)
    have hz : fullN (putZ Z (keyE L e) e.2.2) = fullN Z + 1 := putZ_full (by omega) (h0 e List.mem_cons_self) _
    have h2 := tab_fold L es _ _ h1 (by rw [hz, putZ_len]; omega) hn.2 (fun x hx => h0 x (List.mem_cons_of_mem _ hx)) (fun x hx p hp => by
      rcases List.mem_append.1 hp with hp | hp
      · exact hd x (List.mem_cons_of_mem _ hx) p hp
      · rw [List.mem_singleton] at hp; subst hp
        intro e2
        exact hn.1 (List.mem_map.2 ⟨x, hx, e2.symm⟩))
    rw [List.append_assoc] at h2
    exact h2
/-- Some places in a row that are not empty are no more than there are keys. -/
theorem row_le {Z : List Pz} {f j : Nat} (hj : j ≤ Z.length) (h : ∀ m, m < j → (Z.getD ((f + m) % Z.length) pz0).1 ≠ 0) : j ≤ fullN Z := by
  rcases Nat.eq_zero_or_pos Z.length with hz | hz
  · omega
  have e : fullN Z = ((List.range Z.length).filter fun i => decide ((Z.getD i pz0).1 ≠ 0)).length := by
    have hm : Z = (List.range Z.length).map fun i => Z.getD i pz0 := by
      apply List.ext_getElem (by simp)
      intro i h1 h2
      simp [List.getD_eq_getElem?_getD, h1]
    unfold fullN
    conv => lhs; rw [hm]
    rw [List.countP_map, List.countP_eq_length_filter]
    rfl
  rw [e]
  have hnd : ((List.range j).map fun m => (f + m) % Z.length).Nodup := by
    rw [List.Nodup, List.pairwise_map]
    refine List.Pairwise.imp_of_mem ?_ List.nodup_range
    intro a b ha hb hab e
    rw [List.mem_range] at ha hb
    have h1 := Nat.mod_add_div (f + a) Z.length
    have h2 := Nat.mod_add_div (f + b) Z.length
    rw [e] at h1
    generalize (f + a) / Z.length = x at *
    generalize (f + b) / Z.length = y at *
    generalize (f + b) % Z.length = r at *
    rcases Nat.lt_trichotomy x y with h | h | h
    · have : Z.length * (x + 1) ≤ Z.length * y := Nat.mul_le_mul_left _ h
      rw [Nat.mul_add] at this
      omega
    · subst h; omega
    · have : Z.length * (y + 1) ≤ Z.length * x := Nat.mul_le_mul_left _ h
      rw [Nat.mul_add] at this
      omega
  have := nodup_len hnd (m := (List.range Z.length).filter fun i => decide ((Z.getD i pz0).1 ≠ 0)) (fun x hx => by
    obtain ⟨m, hm, rfl⟩ := List.mem_map.1 hx
    rw [List.mem_range] at hm
    exact List.mem_filter.2 ⟨List.mem_range.2 (Nat.mod_lt _ hz), decide_eq_true (h m hm)⟩)
  simpa using this
/-- The words of a page stand for a table. -/
def Reads (W : List Int) (Z : List Pz) : Prop := ∀ i, i < Z.length → W.getD (4 + 2 * i) 0 = (Z.getD i pz0).1 ∧ W.getD (4 + 2 * i + 1) 0 = (Z.getD i pz0).2
theorem lookGo_at {W : List Int} {t : Nat} {key : Int} {f : Nat} {j : Nat} {z : Int} (hz : z = W.getD (4 + 2 * ((f + j) % t)) 0) (hj : z = key ∨ z = 0 ∧ key ≠ 0) (hm : ∀ m, m < j → W.getD (4 + 2 * ((f + m) % t)) 0 ≠ 0 ∧ W.getD (4 + 2 * ((f + m) % t)) 0 ≠ key) :
    ∀ r n, n ≤ j → j < n + r → lookGo W t key f n r = (if z = key then W.getD (4 + 2 * ((f + j) % t) + 1) 0 else 0, j + 1)
  | 0, n, h1, h2 => by omega
  | r + 1, n, h1, h2 => by
    rw [lookGo]
    rcases Nat.eq_or_lt_of_le h1 with h | h
    · subst h
      rw [← hz]
      rcases hj with h3 | ⟨h3, h4⟩
      · rw [if_pos h3, if_pos h3]
      · rw [if_neg (by omega), if_pos h3, if_neg (by omega)]
    · rw [if_neg (hm n h).2, if_neg (hm n h).1]
      exact lookGo_at hz hj hm r (n + 1) h (by omega)
section
variable {W : List Int} {Z P : List Pz} (h : Tab Z P) (hR : Reads W Z)
include h hR
/-- A key that was put down is met. -/
theorem Tab.look {p : Pz} (hp : p ∈ P) : ∃ j, j < Z.length ∧ j + 1 ≤ P.length ∧ Z.getD ((kfirst p.1 Z.length + j) % Z.length) pz0 = p ∧ lookGo W Z.length p.1 (kfirst p.1 Z.length) 0 Z.length = (p.2, j + 1) := by
  obtain ⟨j, j1, j2, j3⟩ := h.met p hp
  have hpos : 0 < Z.length := by omega
  have hr := hR _ (Nat.mod_lt (kfirst p.1 Z.length + j) hpos)
  rw [j2] at hr
  refine ⟨j, j1, ?_, j2, ?_⟩
  · have := row_le (Z := Z) (f := kfirst p.1 Z.length) (j := j + 1) (by omega) (fun m hm => by
      rcases Nat.lt_or_ge m j with h1 | h1
      · exact (j3 m h1).1
      · have : m = j := by omega
        subst this
        rw [j2]; exact h.pos p hp)
    rw [h.full] at this; exact this
  · rw [lookGo_at (j := j) (z := p.1) hr.1.symm (.inl rfl) (fun m hm => by rw [(hR _ (Nat.mod_lt _ hpos)).1]; exact j3 m hm) _ 0 (by omega) (by omega), if_pos rfl, hr.2]
end
end PG
end Go.Proofs.YtjmlfknogjaemaaDoor
/- Page: what a laid page's words answer: searches and decisions (plain law). -/
set_option linter.unusedVariables false
set_option linter.unusedSimpArgs false
set_option maxRecDepth 10000
namespace Go.Proofs.YtjmlfknogjaemaaDoor
open Go Go.Proofs.YtjmlfknogjaemaaDoor.Vc
namespace PG
open Vc.PG NI
theorem num_get {L : List ByteArray} {s : ByteArray} (h : s ∈ L) : 1 ≤ IX.num L s ∧ IX.num L s ≤ L.length ∧ ∀ d, L.getD (IX.num L s - 1) d = s := by
  unfold IX.num
  cases hx : L.findIdx? (fun x => decide (x = s)) with
  | none =>
    have := List.findIdx?_eq_none_iff.1 hx s h
    simp at this
  | some j =>
    obtain ⟨hj, he, _⟩ := List.findIdx?_eq_some_iff_getElem.mp hx
    refine ⟨Nat.le_add_left _ _, hj, fun d => ?_⟩
    have := of_decide_eq_true he
    simpa [List.getD_eq_getElem?_getD, hj] using this
theorem num_inj {L : List ByteArray} {s t : ByteArray} (h : s ∈ L) (h' : t ∈ L) (e : IX.num L s = IX.num L t) : s = t := by
  have h1 := (num_get h).2.2 ⟨#[]⟩
  rw [e, (num_get h').2.2] at h1
  exact h1.symm
theorem ens_keys {L l : List ByteArray} {k : Int} {n : List Int} (h : l.length = n.length) : (ensOf l k n).map (keyE L) = l.map fun s => (IX.num L s : Int) * 4 + k := by
  have e : (ensOf l k n).map (keyE L) = ((ensOf l k n).map (·.1)).map fun s => (IX.num L s : Int) * 4 + k := by
    unfold ensOf
    rw [List.map_map, List.map_map, List.map_map]
    rfl
  rw [e, ensOf_fst h]
theorem ent_mem {L l : List ByteArray} {k : Int} {n : List Int} (h : l.length = n.length) {p : Pz} : p ∈ entP L (ensOf l k n) ↔ ∃ i, i < l.length ∧ p = ((IX.num L (l.getD i ByteArray.empty) : Int) * 4 + k, n.getD i 0) := by
  unfold entP ensOf
  rw [List.map_map]
  constructor
  · intro hp
    obtain ⟨q, hq, rfl⟩ := List.mem_map.1 hp
    obtain ⟨i, hi, rfl⟩ := List.mem_iff_getElem.1 hq
    rw [List.length_zip] at hi
    refine ⟨i, by omega, ?_⟩
    simp [keyE, List.getD_eq_getElem?_getD, show i < l.length by omega, show i < n.length by omega]
  · rintro ⟨i, hi, rfl⟩
    refine List.mem_map.2 ⟨(l.getD i ByteArray.empty, n.getD i 0), ?_, rfl⟩
    refine List.mem_iff_getElem.2 ⟨i, by rw [List.length_zip]; omega, ?_⟩
    simp [List.getD_eq_getElem?_getD, hi, show i < n.length by omega]
theorem ent_app (L : List ByteArray) (a b : List En) : entP L (a ++ b) = entP L a ++ entP L b := List.map_append
theorem ens_len2 {g : Gd} (hv : validP g = true) : (ens g).length = (names g).length := by
  obtain ⟨⟨p1, p2, p3, p4, p5⟩, _⟩ := valid_parts hv
  have := congrArg List.length (ens_fst (g := g) ⟨p4, p5⟩)
  simpa using this
theorem keys_nodup {g : Gd} (hv : validP g = true) {L : List ByteArray} (hin : ∀ s ∈ names g, s ∈ L) : ((ens g).map (keyE L)).Nodup := by
  obtain ⟨⟨p1, p2, p3, p4, p5⟩, ⟨n1, n2, n3⟩, _⟩ := valid_parts hv
  have one : ∀ (l : List ByteArray) (k : Int), l.Nodup → (∀ s ∈ l, s ∈ L) → (l.map fun s => (IX.num L s : Int) * 4 + k).Nodup := by
    intro l k hn hi
    rw [List.Nodup, List.pairwise_map]
    refine List.Pairwise.imp_of_mem ?_ hn
    intro a b ha hb hab e
    exact hab (num_inj (hi a ha) (hi b hb) (by omega))
  have two : ∀ (l m : List ByteArray) (j k : Int), j ≠ k → 0 ≤ j → j < 4 → 0 ≤ k → k < 4 → ∀ a ∈ l.map (fun s => (IX.num L s : Int) * 4 + j), ∀ b ∈ m.map (fun s => (IX.num L s : Int) * 4 + k), a ≠ b := by
    intro l m j k hjk h1 h2 h3 h4 a ha b hb e
    obtain ⟨s, _, rfl⟩ := List.mem_map.1 ha
    obtain ⟨t, _, rfl⟩ := List.mem_map.1 hb
    omega
  unfold ens
  rw [List.map_append, List.map_append, ens_keys (by rw [upTo_len]), ens_keys p4.symm, ens_keys p5.symm]
  unfold names at hin
  rw [List.nodup_append, List.nodup_append]
  refine ⟨⟨one _ _ n1 fun s hs => hin s (by simp [hs]), one _ _ n2 fun s hs => hin s (by simp [hs]), two _ _ _ _ (by decide) (by decide) (by decide) (by decide) (by decide)⟩, one _ _ n3 fun s hs => hin s (by simp [hs]), ?_⟩
  intro a ha b hb
  rcases List.mem_append.1 ha with ha | ha
  · exact two _ _ _ _ (by decide) (by decide) (by decide) (by decide) (by decide) a ha b hb
  · exact two _ _ _ _ (by decide) (by decide) (by decide) (by decide) (by decide) a ha b hb
theorem key_pos {g : Gd} (L : List ByteArray) : ∀ e ∈ ens g, 0 < keyE L e := by
  have hk : ∀ (l : List ByteArray) (k : Int) (n : List Int), 0 < k → ∀ e ∈ ensOf l k n, 0 < keyE L e := by
    intro l k n hk e he
    unfold ensOf at he
    obtain ⟨q, _, rfl⟩ := List.mem_map.1 he
    unfold keyE
    dsimp only
    omega
  intro e he
  unfold ens at he
  rcases List.mem_append.1 he with he | he
  · rcases List.mem_append.1 he with he | he
    · exact hk _ _ _ (by decide) e he
    · exact hk _ _ _ (by decide) e he
  · exact hk _ _ _ (by decide) e he
theorem lay_tab {g : Gd} (hv : validP g = true) {l : List ByteArray} (hr : l.length + freshN l g ≤ 1048576) : Tab (layZ g l).2 (entP (layZ g l).1 (ens g)) ∧ ∀ s ∈ names g, s ∈ (layZ g l).1 := by
  have hz := layZ_eq hv hr []
  rw [List.append_nil] at hz
  rw [hz]
  show Tab ((ens g).foldl (putK (all l (names g))) (List.replicate (tOf g) pz0)) (entP (all l (names g)) (ens g)) ∧ ∀ s ∈ names g, s ∈ all l (names g)
  have hin : ∀ s ∈ names g, s ∈ all l (names g) := fun s hs => all_in (by unfold freshN at hr; omega) hs
  generalize all l (names g) = L at *
  have hlen := ens_len2 hv
  obtain ⟨⟨p1, p2, p3, p4, p5⟩, _⟩ := valid_parts hv
  have hnl := names_len g
  have ht := tabN_ge (k := (names g).length) (by omega)
  refine ⟨?_, hin⟩
  have := tab_fold L (ens g) (List.replicate (tOf g) pz0) [] (Tab.nil _) (by rw [full_zero, List.length_replicate]; unfold tOf; omega) (keys_nodup hv hin) (fun e he => by have := key_pos L e he; omega) (by simp)
  simpa using this
theorem flat_get {m : Nat} : ∀ (M : List (List Int)), (∀ r ∈ M, r.length = m) → ∀ x y, x < M.length → y < m → M.flatten.getD (x * m + y) 0 = (M.getD x []).getD y 0
  | [], _, x, y, hx, _ => by simp at hx
  | r :: M, hM, 0, y, _, hy => by
    have hr := hM r List.mem_cons_self
    rw [List.flatten_cons, Nat.zero_mul, Nat.zero_add, List.getD_eq_getElem?_getD, List.getElem?_append_left (by omega)]
    simp [List.getD_eq_getElem?_getD]
  | r :: M, hM, x + 1, y, hx, hy => by
    have hr := hM r List.mem_cons_self
    have ih := flat_get M (fun s hs => hM s (List.mem_cons_of_mem _ hs)) x y (by simpa using hx) hy
    rw [List.flatten_cons, List.getD_eq_getElem?_getD, List.getElem?_append_right (by rw [Nat.succ_mul]; omega), hr, show (x + 1) * m + y - m = x * m + y by rw [Nat.succ_mul]; omega]
    rw [List.getD_eq_getElem?_getD] at ih
    rw [ih]
    simp [List.getD_eq_getElem?_getD]
/-- A laid page: its words, its table, the names with their numbers. -/
structure LaidW (W : List Int) (L : List ByteArray) (v : Int) (g : Gd) (Z : List Pz) : Prop where
  tab : Tab Z (entP L (ens g))
  zl : Z.length = tOf g
  reads : Reads W Z
  len : W.length = 4 + 2 * tOf g + topOf (gF g) * topOf (gN g)
  h0 : W.getD 0 0 = v
  h1 : W.getD 1 0 = (tOf g : Int)
  h2 : W.getD 2 0 = (topOf (gF g) : Int)
  h3 : W.getD 3 0 = (topOf (gN g) : Int)
  mask : ∀ x, x < topOf (gF g) → ∀ y, y < topOf (gN g) → W.getD (4 + 2 * tOf g + x * topOf (gN g) + y) 0 = ((gM g).getD x []).getD y 0
  known : ∀ s ∈ names g, s ∈ L
theorem valid_rows {g : Gd} (hv : validP g = true) : (gM g).length = topOf (gF g) ∧ ∀ r ∈ gM g, r.length = topOf (gN g) := by
  obtain ⟨p1, p2, p3, p4, p5, p6, p7, p8, p9⟩ := valid_parts hv
  have hm4 : (gM g).length = topOf (gF g) := ((shaped_iff _ _ _ _).1 p7).1
  refine ⟨hm4, fun r hr => ?_⟩
  obtain ⟨a, ha, rfl⟩ := (mem_getD [] _ _).1 hr
  exact row_len hv (by omega)
theorem getD_left {a b : List Int} {i : Nat} (h : i < a.length) : (a ++ b).getD i 0 = a.getD i 0 := by
  rw [List.getD_eq_getElem?_getD, List.getElem?_append_left h, List.getD_eq_getElem?_getD]
theorem laidW_of {v : Int} {g : Gd} {l : List ByteArray} (h : (layP v g l).2.1 = 0) : 1 ≤ v ∧ v ≤ 2147483647 ∧ validP g = true ∧ ∃ Z, LaidW (layP v g l).1 (layP v g l).2.2 v g Z := by
  have hlen := lay_len h
  unfold layP at h hlen ⊢
  split at h
  · cases h
  split at h
  · cases h
  split at h
  · cases h
  rename_i hver hv0 hr
  rw [if_neg hver, if_neg hv0, if_neg hr] at hlen ⊢
  have hv : validP g = true := by cases h : validP g with | true => rfl | false => exact absurd h hv0
  obtain ⟨ht, hk⟩ := lay_tab hv (l := l) (by omega)
  have hzl : (layZ g l).2.length = tOf g := by rw [layZ_eq hv (by omega) [], putK_len, List.length_replicate]
  obtain ⟨hm, hrow⟩ := valid_rows hv
  refine ⟨by omega, by omega, hv, (layZ g l).2, ?_⟩
  dsimp only at hlen ⊢
  have hpl : (pageZ (headP v g) (layZ g l).2).length = 4 + 2 * tOf g := by rw [pageZ_len (head_len v g), hzl]
  have hhd : ∀ i, i < 4 → (pageZ (headP v g) (layZ g l).2 ++ (gM g).flatten).getD i 0 = (headP v g).getD i 0 := fun i hi => by
    rw [getD_left (by omega)]
    unfold pageZ
    rw [getD_left (by rw [head_len]; exact hi)]
  refine ⟨ht, hzl, fun i hi => ?_, ?_, hhd 0 (by decide), hhd 1 (by decide), hhd 2 (by decide), hhd 3 (by decide), fun x hx y hy => ?_, hk⟩
  · rw [getD_left (by omega), getD_left (by omega)]
    exact ⟨pageZ_fst (head_len v g) hi, pageZ_snd (head_len v g) hi⟩
  · unfold sizeP at hlen
    rw [if_pos hv] at hlen
    omega
  · rw [List.getD_eq_getElem?_getD, List.getElem?_append_right (by omega), hpl, show 4 + 2 * tOf g + x * topOf (gN g) + y - (4 + 2 * tOf g) = x * topOf (gN g) + y by omega, ← List.getD_eq_getElem?_getD]
    exact flat_get (gM g) hrow x y (by omega) hy
theorem ent_more {g : Gd} (hv : validP g = true) {L : List ByteArray} (hk : ∀ s ∈ names g, s ∈ L) (r : List ByteArray) : entP (L ++ r) (ens g) = entP L (ens g) := by
  obtain ⟨⟨p1, p2, p3, p4, p5⟩, _⟩ := valid_parts hv
  unfold entP
  refine List.map_inj_left.2 fun e he => ?_
  have hm : e.1 ∈ names g := by
    rw [← ens_fst ⟨p4, p5⟩]
    exact List.mem_map.2 ⟨e, he, rfl⟩
  unfold keyE
  rw [num_app (hk _ hm)]
theorem LaidW.more {W : List Int} {L : List ByteArray} {v : Int} {g : Gd} {Z : List Pz} (h : LaidW W L v g Z) (hv : validP g = true) (r : List ByteArray) : LaidW W (L ++ r) v g Z :=
  { h with tab := by rw [ent_more hv h.known]; exact h.tab, known := fun s hs => List.mem_append.2 (.inl (h.known s hs)) }
theorem LaidW.of {W : List Int} {L : List ByteArray} {v : Int} {g : Gd} {Z : List Pz} (h : LaidW W L v g Z) (hv : validP g = true) (s : ByteArray) : LaidW W (IX.of L s) v g Z := by
  obtain ⟨r, hr⟩ := of_app L s
  rw [hr]
  exact h.more hv r
theorem keyN_id {s : Nat} (h : s ≤ 1048577) (k : Int) (hk : 0 ≤ k ∧ k ≤ 3) : keyN (s : Int) k = (s : Int) * 4 + k := by
  unfold keyN; rw [wr]; omega
section
variable {W : List Int} {L : List ByteArray} {v : Int} {g : Gd} {Z : List Pz} (h : LaidW W L v g Z) (hv : validP g = true) (hL : L.length ≤ 1048576)
include h hv
theorem LaidW.full : fullN Z = (names g).length ∧ 2 * fullN Z ≤ tOf g ∧ 2 ≤ tOf g ∧ fullN Z < Z.length ∧ (names g).length ≤ 144 := by
  have h1 := h.tab.full
  unfold entP at h1
  rw [List.length_map, ens_len2 hv] at h1
  obtain ⟨⟨p1, p2, p3, _⟩, _⟩ := valid_parts hv
  have hnl := names_len g
  have ht := tabN_ge (k := (names g).length) (by omega)
  have hzl := h.zl
  unfold tOf at *
  omega
theorem LaidW.tabP : tabP W = (tOf g : Int) := by
  obtain ⟨f1, f2, f3, f4, f5⟩ := h.full hv
  have hp := (tabN_small ⟨(names g).length, by omega⟩).2
  have hl := h.len
  unfold Vc.PG.tabP
  rw [if_neg (by omega), h.h1, if_pos ⟨hp, by omega⟩]
/-- What stands in the table for a kind. -/
theorem LaidW.ent {k : Int} {l : List ByteArray} {n : List Int} (hk : (k = 3 ∧ l = gA g ∧ n = upTo (gA g).length) ∨ (k = 1 ∧ l = gS g ∧ n = gF g) ∨ (k = 2 ∧ l = gO g ∧ n = gN g)) :
    l.length = n.length ∧ (∀ s ∈ l, s ∈ L) ∧ (∀ p, p ∈ entP L (ensOf l k n) → p ∈ entP L (ens g)) ∧ (∀ p ∈ entP L (ens g), p.1 % 4 = k → p ∈ entP L (ensOf l k n)) ∧ 1 ≤ k ∧ k ≤ 3 ∧ l.Nodup := by
  obtain ⟨⟨p1, p2, p3, p4, p5⟩, ⟨n1, n2, n3⟩, _⟩ := valid_parts hv
  have hkn := h.known
  unfold names at hkn
  have e : entP L (ens g) = (entP L (ensOf (gA g) 3 (upTo (gA g).length)) ++ entP L (ensOf (gS g) 1 (gF g))) ++ entP L (ensOf (gO g) 2 (gN g)) := by
    unfold ens; rw [ent_app, ent_app]
  have hA := @ent_mem L (gA g) 3 (upTo (gA g).length) (by rw [upTo_len])
  have hS := @ent_mem L (gS g) 1 (gF g) p4.symm
  have hO := @ent_mem L (gO g) 2 (gN g) p5.symm
  rw [e]
  have key : ∀ p : Pz, p ∈ (entP L (ensOf (gA g) 3 (upTo (gA g).length)) ++ entP L (ensOf (gS g) 1 (gF g))) ++ entP L (ensOf (gO g) 2 (gN g)) → (p.1 % 4 = 3 ∧ p ∈ entP L (ensOf (gA g) 3 (upTo (gA g).length))) ∨ (p.1 % 4 = 1 ∧ p ∈ entP L (ensOf (gS g) 1 (gF g))) ∨ (p.1 % 4 = 2 ∧ p ∈ entP L (ensOf (gO g) 2 (gN g))) := by
    intro p hp
    rcases List.mem_append.1 hp with hp | hp
    · rcases List.mem_append.1 hp with hp | hp
      · obtain ⟨i, _, rfl⟩ := hA.1 hp
        exact .inl ⟨by dsimp only; omega, hp⟩
      · obtain ⟨i, _, rfl⟩ := hS.1 hp
        exact .inr (.inl ⟨by dsimp only; omega, hp⟩)
    · obtain ⟨i, _, rfl⟩ := hO.1 hp
      exact .inr (.inr ⟨by dsimp only; omega, hp⟩)
  rcases hk with ⟨rfl, rfl, rfl⟩ | ⟨rfl, rfl, rfl⟩ | ⟨rfl, rfl, rfl⟩
  · refine ⟨by rw [upTo_len], fun s hs => hkn s (by simp [hs]), fun p hp => by simp [hp], fun p hp hk => ?_, by decide, by decide, n1⟩
    rcases key p hp with ⟨_, h1⟩ | ⟨h1, _⟩ | ⟨h1, _⟩
    · exact h1
    · omega
    · omega
  · refine ⟨p4.symm, fun s hs => hkn s (by simp [hs]), fun p hp => by simp [hp], fun p hp hk => ?_, by decide, by decide, n2⟩
    rcases key p hp with ⟨h1, _⟩ | ⟨_, h1⟩ | ⟨h1, _⟩
    · omega
    · exact h1
    · omega
  · refine ⟨p5.symm, fun s hs => hkn s (by simp [hs]), fun p hp => by simp [hp], fun p hp hk => ?_, by decide, by decide, n3⟩
    rcases key p hp with ⟨h1, _⟩ | ⟨h1, _⟩ | ⟨_, h1⟩
    · omega
    · omega
    · exact h1
include hL
end
theorem upTo_get {n i : Nat} (h : i < n) : (upTo n).getD i 0 = ((i + 1 : Nat) : Int) := by
  unfold upTo
  simp [List.getD_eq_getElem?_getD, h]
section
variable {W : List Int} {L1 L2 L3 : List ByteArray} {v : Int} {g : Gd} {Z1 Z2 Z3 : List Pz} (h1 : LaidW W L1 v g Z1) (h2 : LaidW W L2 v g Z2) (h3 : LaidW W L3 v g Z3) (hv : validP g = true) (hL : L1.length ≤ 1048576 ∧ L2.length ≤ 1048576 ∧ L3.length ≤ 1048576)
include h1 h2 h3 hv hL
end
end PG
end Go.Proofs.YtjmlfknogjaemaaDoor
