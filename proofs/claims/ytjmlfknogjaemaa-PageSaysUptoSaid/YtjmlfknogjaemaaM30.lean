/- Page: the table of a page: each key that was put down is met. -/
import Derived.Test.YtjmlfknogjaemaaM29
import Derived.Test.YtjmlfknogjaemaaM28
import Derived.Test.YtjmlfknogjaemaaM4
import Derived.Test.YtjmlfknogjaemaaProg
import Derived.KernelRfl
import Derived.Test.YtjmlfknogjaemaaM6
set_option linter.unusedVariables false
set_option linter.unusedSimpArgs false
set_option maxRecDepth 10000
namespace Go.Proofs.Ytjmlfknogjaemaa
open Go Go.Proofs.Ytjmlfknogjaemaa.Vc
namespace PG
open Vc.PG NI
theorem flat_len {g : Gd} (hv : validP g = true) : (gM g).flatten.length = topOf (gF g) * topOf (gN g) := by
  obtain ⟨p1, p2, p3, p4, p5, p6, p7, p8, p9⟩ := valid_parts hv
  have hm4 : (gM g).length = topOf (gF g) := ((shaped_iff _ _ _ _).1 p7).1
  have : ∀ r ∈ gM g, r.length = topOf (gN g) := fun r hr => by
    obtain ⟨a, ha, rfl⟩ := (mem_getD [] _ _).1 hr
    exact row_len hv (by omega)
  rw [List.length_flatten]
  have e : (gM g).map List.length = List.replicate (topOf (gF g)) (topOf (gN g)) := by
    apply List.ext_getElem (by simp; omega)
    intro q h1 h2
    simp only [List.getElem_map, List.getElem_replicate]
    exact this _ (List.getElem_mem _)
  rw [e]; simp
theorem putK_len (L : List ByteArray) : ∀ (es : List En) (Z : List Pz), (es.foldl (putK L) Z).length = Z.length
  | [], Z => rfl
  | e :: es, Z => by
    show (es.foldl (putK L) (putK L Z e)).length = _
    rw [putK_len L es]
    exact putZ_len _ _ _
theorem head_len (v : Int) (g : Gd) : (headP v g).length = 4 := rfl
theorem tOf_le {g : Gd} (hv : validP g = true) : tOf g ≤ 512 := by
  obtain ⟨⟨p1, p2, p3, _⟩, _⟩ := valid_parts hv
  have := names_len g
  exact (tabN_small ⟨(names g).length, by omega⟩).1
/-- How long a page is. -/
theorem lay_len {v : Int} {g : Gd} {l : List ByteArray} (h : (layP v g l).2.1 = 0) : ((layP v g l).1.length : Int) = sizeP g := by
  unfold layP at h ⊢
  split at h
  · cases h
  split at h
  · cases h
  split at h
  · cases h
  rename_i hver hv hr
  rw [if_neg hver, if_neg hv, if_neg hr]
  have hv : validP g = true := by cases h : validP g with | true => rfl | false => exact absurd h hv
  have hz := layZ_eq hv (l := l) (by omega) []
  show ((pageZ (headP v g) (layZ g l).2 ++ (gM g).flatten).length : Int) = _
  rw [hz, List.length_append, pageZ_len (head_len v g), putK_len, List.length_replicate, flat_len hv]
  unfold sizeP
  rw [if_pos hv]
theorem size_small (g : Gd) : 0 ≤ sizeP g ∧ sizeP g ≤ 6000 := by
  unfold sizeP
  split
  · rename_i hv
    have := tOf_le hv
    obtain ⟨p1, p2, p3, p4, p5, p6, p7, p8, p9⟩ := valid_parts hv
    have hm := Nat.mul_le_mul p5 p6
    generalize topOf (gF g) * topOf (gN g) = p at *
    omega
  · omega
theorem lay_small (v : Int) (g : Gd) (l : List ByteArray) : (layP v g l).1.length ≤ 6000 := by
  have h := size_small g
  by_cases h0 : (layP v g l).2.1 = 0
  · have := lay_len h0; omega
  · have : (layP v g l).1 = [] := by
      unfold layP at h0 ⊢
      split
      · rfl
      split
      · rfl
      split
      · rfl
      · rename_i a b c
        rw [if_neg a, if_neg b, if_neg c] at h0
        exact absurd rfl h0
    rw [this]; simp
theorem freeAt_spec (Z : List Pz) (f : Nat) : ∀ r n, (∃ m, n ≤ m ∧ m < n + r ∧ (Z.getD ((f + m) % Z.length) pz0).1 = 0) → ∃ j, n ≤ j ∧ j < n + r ∧ freeAt Z f n r = (f + j) % Z.length ∧ (Z.getD ((f + j) % Z.length) pz0).1 = 0 ∧ ∀ m, n ≤ m → m < j → (Z.getD ((f + m) % Z.length) pz0).1 ≠ 0
  | 0, n, ⟨m, h1, h2, _⟩ => by omega
  | r + 1, n, ⟨m, h1, h2, h3⟩ => by
    rw [freeAt]
    split
    · rename_i h0
      exact ⟨n, Nat.le_refl _, by omega, rfl, h0, fun m h4 h5 => by omega⟩
    · rename_i hne
      obtain ⟨j, j1, j2, j3, j4, j5⟩ := freeAt_spec Z f r (n + 1) ⟨m, by
        rcases Nat.eq_or_lt_of_le h1 with h | h
        · subst h; exact absurd h3 hne
        · exact h, by omega, h3⟩
      refine ⟨j, by omega, by omega, j3, j4, fun q hq1 hq2 => ?_⟩
      rcases Nat.eq_or_lt_of_le hq1 with h | h
      · subst h; exact hne
      · exact j5 q h hq2
theorem getD_setZ {Z : List Pz} {q : Nat} (hq : q < Z.length) (p : Pz) (i : Nat) : (Z.set q p).getD i pz0 = if i = q then p else Z.getD i pz0 := by
  rw [List.getD_eq_getElem?_getD, List.getElem?_set]
  by_cases h : q = i
  · subst h; simp [hq]
  · rw [if_neg h, if_neg (fun e => h e.symm), List.getD_eq_getElem?_getD]
/-- A table that holds some keys, each where a search meets it. -/
structure Tab (Z : List Pz) (P : List Pz) : Prop where
  pos : ∀ p ∈ P, p.1 ≠ 0
  mem : ∀ i, i < Z.length → (Z.getD i pz0).1 ≠ 0 → Z.getD i pz0 ∈ P
  zero : ∀ i, i < Z.length → (Z.getD i pz0).1 = 0 → Z.getD i pz0 = pz0
  met : ∀ p ∈ P, ∃ j, j < Z.length ∧ Z.getD ((kfirst p.1 Z.length + j) % Z.length) pz0 = p ∧ ∀ m, m < j → (Z.getD ((kfirst p.1 Z.length + m) % Z.length) pz0).1 ≠ 0 ∧ (Z.getD ((kfirst p.1 Z.length + m) % Z.length) pz0).1 ≠ p.1
  one : ∀ i j, i < Z.length → j < Z.length → (Z.getD i pz0).1 ≠ 0 → (Z.getD i pz0).1 = (Z.getD j pz0).1 → i = j
  full : fullN Z = P.length
theorem Tab.nil (t : Nat) : Tab (List.replicate t pz0) [] := by
  have h0 : ∀ i, (List.replicate t pz0).getD i pz0 = pz0 := fun i => by
    rw [List.getD_eq_getElem?_getD, List.getElem?_replicate]
    split <;> rfl
  refine ⟨by simp, fun i _ h => absurd (by rw [h0]) h, fun i _ _ => h0 i, by simp, fun i j _ _ h => absurd (by rw [h0]) h, by rw [full_zero]; rfl⟩
theorem Tab.put {Z P : List Pz} (h : Tab Z P) (hf : fullN Z < Z.length) {key : Int} (num : Int) (hk : key ≠ 0) (hn : ∀ p ∈ P, p.1 ≠ key) : Tab (putZ Z key num) (P ++ [(key, num)]) := by
  obtain ⟨m, hm1, hm2⟩ := empty_of hf (kfirst key Z.length)
  obtain ⟨j, _, j2, j3, j4, j5⟩ := freeAt_spec Z (kfirst key Z.length) Z.length 0 ⟨m, by omega, by omega, hm2⟩
  have hfull := putZ_full hf hk num
  have hpos : 0 < Z.length := by omega
  unfold putZ placeZ at *
  rw [j3] at hfull ⊢
  have hq : (kfirst key Z.length + j) % Z.length < Z.length := Nat.mod_lt _ hpos
  have hl : (Z.set ((kfirst key Z.length + j) % Z.length) (key, num)).length = Z.length := List.length_set
  have hget := getD_setZ hq (key, num)
  generalize hQ : (kfirst key Z.length + j) % Z.length = q at *
  refine ⟨?_, ?_, ?_, ?_, ?_, ?_⟩
  · intro p hp
    rcases List.mem_append.1 hp with hp | hp
    · exact h.pos p hp
    · rw [List.mem_singleton] at hp; subst hp; exact hk
  · intro i hi hne
    rw [hget] at hne ⊢
    rw [hl] at hi
    split
    · simp
    · rename_i hiq
      rw [if_neg hiq] at hne
      exact List.mem_append.2 (.inl (h.mem i hi hne))
  · intro i hi h0
    rw [hget] at h0 ⊢
    rw [hl] at hi
    by_cases hiq : i = q
    · rw [if_pos hiq] at h0; exact absurd h0 hk
    · rw [if_neg hiq] at h0 ⊢; exact h.zero i hi h0
  · intro p hp
    rw [hl]
    rcases List.mem_append.1 hp with hp | hp
    · obtain ⟨a, a1, a2, a3⟩ := h.met p hp
      refine ⟨a, a1, ?_, fun m hm => ?_⟩
      · rw [hget, if_neg]
        · exact a2
        · intro e
          rw [e] at a2
          have := h.pos p hp
          rw [← a2, j4] at this
          exact this rfl
      · rw [hget, if_neg]
        · exact a3 m hm
        · intro e
          have := (a3 m hm).1
          rw [e] at this
          exact this j4
    · rw [List.mem_singleton] at hp; subst hp
      refine ⟨j, by omega, ?_, fun m hm => ?_⟩
      · rw [hget, if_pos hQ]
      · have h1 := j5 m (by omega) hm
        have hne : (kfirst key Z.length + m) % Z.length ≠ q := by
          intro e
          rw [e] at h1
          exact h1 j4
        show ((Z.set q (key, num)).getD ((kfirst key Z.length + m) % Z.length) pz0).1 ≠ 0 ∧ ((Z.set q (key, num)).getD ((kfirst key Z.length + m) % Z.length) pz0).1 ≠ key
        rw [hget, if_neg hne]
        exact ⟨h1, hn _ (h.mem _ (Nat.mod_lt _ hpos) h1)⟩
  · intro i k hi hk2 hne he
    rw [hl] at hi hk2
    rw [hget] at hne he
    rw [hget] at he
    by_cases h1 : i = q
    · by_cases h2 : k = q
      · rw [h1, h2]
      · rw [if_pos h1, if_neg h2] at he
        rw [if_pos h1] at hne
        have h3 : (Z.getD k pz0).1 ≠ 0 := by rw [← he]; exact hne
        exact absurd he.symm (hn _ (h.mem k hk2 h3))
    · rw [if_neg h1] at hne he
      by_cases h2 : k = q
      · rw [if_pos h2] at he
        exact absurd he (hn _ (h.mem i hi hne))
      · rw [if_neg h2] at he
        exact h.one i k hi hk2 hne he
  · rw [hfull, h.full]; simp
/-- The key of an entry. -/
def keyE (L : List ByteArray) (e : En) : Int := (IX.num L e.1 : Int) * 4 + e.2.1
def entP (L : List ByteArray) (es : List En) : List Pz := es.map fun e => (keyE L e, e.2.2)
theorem tab_fold (L : List ByteArray) : ∀ (es : List En) (Z P : List Pz), Tab Z P → fullN Z + es.length ≤ Z.length → (es.map (keyE L)).Nodup → (∀ e ∈ es, keyE L e ≠ 0) → (∀ e ∈ es, ∀ p ∈ P, p.1 ≠ keyE L e) → Tab (es.foldl (putK L) Z) (P ++ entP L es)
  | [], Z, P, h, _, _, _, _ => by simpa [entP] using h
  | e :: es, Z, P, h, hf, hn, h0, hd => by
    rw [List.length_cons] at hf
    rw [List.map_cons, List.nodup_cons] at hn
    have h1 := h.put (by omega) (key := keyE L e) e.2.2 (h0 e List.mem_cons_self) (hd e List.mem_cons_self)
    have hz : fullN (putZ Z (keyE L e) e.2.2) = fullN Z + 1 := putZ_full (by omega) (h0 e List.mem_cons_self) _
    have h2 := tab_fold L es _ _ h1 (by rw [hz, putZ_len]; omega) hn.2 (fun x hx => h0 x (List.mem_cons_of_mem _ hx)) (fun x hx p hp => by
      rcases List.mem_append.1 hp with hp | hp
      · exact hd x (List.mem_cons_of_mem _ hx) p hp
      · rw [List.mem_singleton] at hp; subst hp
        intro e2
        exact hn.1 (List.mem_map.2 ⟨x, hx, e2.symm⟩))
    rw [List.append_assoc] at h2
    exact h2
/-- Some places in a row that are not empty are no more than there are keys. -/
theorem row_le {Z : List Pz} {f j : Nat} (hj : j ≤ Z.length) (h : ∀ m, m < j → (Z.getD ((f + m) % Z.length) pz0).1 ≠ 0) : j ≤ fullN Z := by
  rcases Nat.eq_zero_or_pos Z.length with hz | hz
  · omega
  have e : fullN Z = ((List.range Z.length).filter fun i => decide ((Z.getD i pz0).1 ≠ 0)).length := by
    have hm : Z = (List.range Z.length).map fun i => Z.getD i pz0 := by
      apply List.ext_getElem (by simp)
      intro i h1 h2
      simp [List.getD_eq_getElem?_getD, h1]
    unfold fullN
    conv => lhs; rw [hm]
    rw [List.countP_map, List.countP_eq_length_filter]
    rfl
  rw [e]
  have hnd : ((List.range j).map fun m => (f + m) % Z.length).Nodup := by
    rw [List.Nodup, List.pairwise_map]
    refine List.Pairwise.imp_of_mem ?_ List.nodup_range
    intro a b ha hb hab e
    rw [List.mem_range] at ha hb
    have h1 := Nat.mod_add_div (f + a) Z.length
    have h2 := Nat.mod_add_div (f + b) Z.length
    rw [e] at h1
    generalize (f + a) / Z.length = x at *
    generalize (f + b) / Z.length = y at *
    generalize (f + b) % Z.length = r at *
    rcases Nat.lt_trichotomy x y with h | h | h
    · have : Z.length * (x + 1) ≤ Z.length * y := Nat.mul_le_mul_left _ h
      rw [Nat.mul_add] at this
      omega
    · subst h; omega
    · have : Z.length * (y + 1) ≤ Z.length * x := Nat.mul_le_mul_left _ h
      rw [Nat.mul_add] at this
      omega
  have := nodup_len hnd (m := (List.range Z.length).filter fun i => decide ((Z.getD i pz0).1 ≠ 0)) (fun x hx => by
    obtain ⟨m, hm, rfl⟩ := List.mem_map.1 hx
    rw [List.mem_range] at hm
    exact List.mem_filter.2 ⟨List.mem_range.2 (Nat.mod_lt _ hz), decide_eq_true (h m hm)⟩)
  simpa using this
/-- The words of a page stand for a table. -/
def Reads (W : List Int) (Z : List Pz) : Prop := ∀ i, i < Z.length → W.getD (4 + 2 * i) 0 = (Z.getD i pz0).1 ∧ W.getD (4 + 2 * i + 1) 0 = (Z.getD i pz0).2
theorem lookGo_at {W : List Int} {t : Nat} {key : Int} {f : Nat} {j : Nat} {z : Int} (hz : z = W.getD (4 + 2 * ((f + j) % t)) 0) (hj : z = key ∨ z = 0 ∧ key ≠ 0) (hm : ∀ m, m < j → W.getD (4 + 2 * ((f + m) % t)) 0 ≠ 0 ∧ W.getD (4 + 2 * ((f + m) % t)) 0 ≠ key) :
    ∀ r n, n ≤ j → j < n + r → lookGo W t key f n r = (if z = key then W.getD (4 + 2 * ((f + j) % t) + 1) 0 else 0, j + 1)
  | 0, n, h1, h2 => by omega
  | r + 1, n, h1, h2 => by
    rw [lookGo]
    rcases Nat.eq_or_lt_of_le h1 with h | h
    · subst h
      rw [← hz]
      rcases hj with h3 | ⟨h3, h4⟩
      · rw [if_pos h3, if_pos h3]
      · rw [if_neg (by omega), if_pos h3, if_neg (by omega)]
    · rw [if_neg (hm n h).2, if_neg (hm n h).1]
      exact lookGo_at hz hj hm r (n + 1) h (by omega)
theorem seekGo_at {W : List Int} {t : Nat} (ht : 0 < t) (hW : 4 + 2 * t ≤ W.length) {key : Int} {f : Nat} {j : Nat} {z : Int} (hz : z = W.getD (4 + 2 * ((f + j) % t)) 0) (hj : z = key ∨ z = 0 ∧ key ≠ 0) (hm : ∀ m, m < j → W.getD (4 + 2 * ((f + m) % t)) 0 ≠ 0 ∧ W.getD (4 + 2 * ((f + m) % t)) 0 ≠ key) :
    ∀ r n s, n ≤ j → j < n + r → (seekGo W t key f n r s).1 = if z = key then some (W.getD (4 + 2 * ((f + j) % t) + 1) 0) else none
  | 0, n, s, h1, h2 => by omega
  | r + 1, n, s, h1, h2 => by
    have hlt := Nat.mod_lt (f + n) ht
    rw [seekGo, if_pos (by omega)]
    rcases Nat.eq_or_lt_of_le h1 with h | h
    · subst h
      rw [← hz]
      rcases hj with h3 | ⟨h3, h4⟩
      · rw [if_pos h3, if_pos h3, if_pos (by omega)]
      · rw [if_neg (by omega), if_pos h3, if_neg (by omega)]
    · rw [if_neg (hm n h).2, if_neg (hm n h).1]
      exact seekGo_at ht hW hz hj hm r (n + 1) (s + 1) h (by omega)
section
variable {W : List Int} {Z P : List Pz} (h : Tab Z P) (hR : Reads W Z)
include h hR
/-- A key that was put down is met. -/
theorem Tab.look {p : Pz} (hp : p ∈ P) : ∃ j, j < Z.length ∧ j + 1 ≤ P.length ∧ Z.getD ((kfirst p.1 Z.length + j) % Z.length) pz0 = p ∧ lookGo W Z.length p.1 (kfirst p.1 Z.length) 0 Z.length = (p.2, j + 1) := by
  obtain ⟨j, j1, j2, j3⟩ := h.met p hp
  have hpos : 0 < Z.length := by omega
  have hr := hR _ (Nat.mod_lt (kfirst p.1 Z.length + j) hpos)
  rw [j2] at hr
  refine ⟨j, j1, ?_, j2, ?_⟩
  · have := row_le (Z := Z) (f := kfirst p.1 Z.length) (j := j + 1) (by omega) (fun m hm => by
      rcases Nat.lt_or_ge m j with h1 | h1
      · exact (j3 m h1).1
      · have : m = j := by omega
        subst this
        rw [j2]; exact h.pos p hp)
    rw [h.full] at this; exact this
  · rw [lookGo_at (j := j) (z := p.1) hr.1.symm (.inl rfl) (fun m hm => by rw [(hR _ (Nat.mod_lt _ hpos)).1]; exact j3 m hm) _ 0 (by omega) (by omega), if_pos rfl, hr.2]
/-- A key that was not put down is not met. -/
theorem Tab.miss (hf : fullN Z < Z.length) {key : Int} (h0 : key ≠ 0) (hn : ∀ p ∈ P, p.1 ≠ key) : ∃ j, j < Z.length ∧ j ≤ P.length ∧ lookGo W Z.length key (kfirst key Z.length) 0 Z.length = (0, j + 1) := by
  obtain ⟨m, hm1, hm2⟩ := empty_of hf (kfirst key Z.length)
  obtain ⟨j, _, j2, _, j4, j5⟩ := freeAt_spec Z (kfirst key Z.length) Z.length 0 ⟨m, by omega, by omega, hm2⟩
  have hpos : 0 < Z.length := by omega
  have hr := hR _ (Nat.mod_lt (kfirst key Z.length + j) hpos)
  refine ⟨j, by omega, ?_, ?_⟩
  · have := row_le (Z := Z) (f := kfirst key Z.length) (j := j) (by omega) (fun m hm => j5 m (by omega) hm)
    rw [h.full] at this; exact this
  · rw [lookGo_at (j := j) (z := 0) (by rw [hr.1, j4]) (.inr ⟨rfl, h0⟩) (fun m hm => by
      rw [(hR _ (Nat.mod_lt _ hpos)).1]
      have := j5 m (by omega) hm
      exact ⟨this, hn _ (h.mem _ (Nat.mod_lt _ hpos) this)⟩) _ 0 (by omega) (by omega), if_neg (fun e => h0 e.symm)]
theorem Tab.seek (hW : 4 + 2 * Z.length ≤ W.length) {p : Pz} (hp : p ∈ P) (s : Nat) : (seekP W Z.length p.1 s).1 = some p.2 := by
  obtain ⟨j, j1, j2, j3⟩ := h.met p hp
  have hpos : 0 < Z.length := by omega
  have hr := hR _ (Nat.mod_lt (kfirst p.1 Z.length + j) hpos)
  rw [j2] at hr
  unfold seekP
  rw [seekGo_at hpos hW (j := j) (z := p.1) hr.1.symm (.inl rfl) (fun m hm => by rw [(hR _ (Nat.mod_lt _ hpos)).1]; exact j3 m hm) _ 0 s (by omega) (by omega), if_pos rfl, hr.2]
theorem Tab.lost (hW : 4 + 2 * Z.length ≤ W.length) (hf : fullN Z < Z.length) {key : Int} (h0 : key ≠ 0) (hn : ∀ p ∈ P, p.1 ≠ key) (s : Nat) : (seekP W Z.length key s).1 = none := by
  obtain ⟨m, hm1, hm2⟩ := empty_of hf (kfirst key Z.length)
  obtain ⟨j, _, j2, _, j4, j5⟩ := freeAt_spec Z (kfirst key Z.length) Z.length 0 ⟨m, by omega, by omega, hm2⟩
  have hpos : 0 < Z.length := by omega
  have hr := hR _ (Nat.mod_lt (kfirst key Z.length + j) hpos)
  unfold seekP
  rw [seekGo_at hpos hW (j := j) (z := 0) (by rw [hr.1, j4]) (.inr ⟨rfl, h0⟩) (fun m hm => by
      rw [(hR _ (Nat.mod_lt _ hpos)).1]
      have := j5 m (by omega) hm
      exact ⟨this, hn _ (h.mem _ (Nat.mod_lt _ hpos) this)⟩) _ 0 s (by omega) (by omega), if_neg (fun e => h0 e.symm)]
end
end PG
end Go.Proofs.Ytjmlfknogjaemaa
/- Page: laying, beside other pieces of memory. -/
set_option linter.unusedVariables false
set_option linter.unusedSimpArgs false
set_option maxRecDepth 10000
namespace Go.Proofs.Ytjmlfknogjaemaa
open Go Go.Proofs.Ytjmlfknogjaemaa.Vc
namespace PG
open Vc.PG NI
/-- The program's Lay, of a graph that is a piece of memory. -/
theorem layCs {S : List Nat} {w0 w : World} {K : List Chunk} (h : St S w0 w K) (i j : Nat) (hij : j ≠ i) {x : Nat} {l : List ByteArray} (hi : K[i]? = some (idxC x l)) {p : World → Prop} (hj : K[j]? = some (Chunk.keep p)) {v : GV} {g : Gd} (hG : ∀ w, p w → InG w v g) (hl : l.length ≤ 1048576) (hbig : v.a.2.1 ≤ 1100000 ∧ v.s.2.1 ≤ 1100000 ∧ v.o.2.1 ≤ 1100000) (ver : Int) :
    Calls Try.prog 17 #[.int .i64 ver, v.v, .pointer (some ⟨x, 0, none⟩)] w fun e w' => ∃ A n c, e = .returned (.tuple #[.slice A n c, .int .i64 (layP ver g l).2.1]) ∧ St S w0 w' (ints (.slice A n c) (layP ver g l).1 :: K.set i (idxC x (layP ver g l).2.2)) := by
  obtain ⟨F, hF, hd, hgr⟩ := h.graftW i hi
  obtain ⟨G, hG4, hdj⟩ := hd j _ hij hj
  refine Calls.mono (layC (St.start1 hF) (v := v) (g := g) (fun w' hf => hG _ (Chunk.keep_says (Chunk.fr _ hG4 hf hdj))) hl hbig ver) ?_
  rintro _ w' ⟨A, n, c, rfl, hS⟩
  exact ⟨A, n, c, rfl, hgr (hS.swap 0 1 rfl rfl)⟩
end PG
end Go.Proofs.Ytjmlfknogjaemaa
/- The plain statements of some functions, printed by vcgen.py. -/
set_option maxRecDepth 100000
set_option linter.unusedVariables false
namespace Go.Proofs.Ytjmlfknogjaemaa
open Go Go.Proofs.Ytjmlfknogjaemaa.Vc
/-- gatehouse/gatehouselaw12.PageLay -/
def f4.AL : Nat → Option Ann := fun _ => none
def f4.AC : Nat → Option Ann := fun r => match r with | 10 => some ⟨[(21, .bool)], [0, 5, 6, 9, 10, 11, 12, 13, 14, 15, 16, 17, 18, 19]⟩ | 13 => some ⟨[(26, .bool)], [0, 5, 6, 9, 10, 12, 13, 14, 15, 16, 17, 18, 19, 21]⟩ | 15 => some ⟨[(28, .bool)], [0, 5, 6, 9, 12, 13, 14, 15, 16, 21, 26]⟩ | _ => none
end Go.Proofs.Ytjmlfknogjaemaa
/- Page: the law PageLay, the walk. -/
set_option linter.unusedVariables false
set_option linter.unusedSimpArgs false
set_option maxRecDepth 10000
namespace Go.Proofs.Ytjmlfknogjaemaa
open Go Go.Proofs.Ytjmlfknogjaemaa.Vc
namespace PG
open Vc.PG NI
/-- How large a graph is that is handed in. -/
def SmallG (v : GV) (g : Gd) : Prop := (v.a.2.1 ≤ 1100000 ∧ v.s.2.1 ≤ 1100000 ∧ v.o.2.1 ≤ 1100000 ∧ v.f.2.1 ≤ 1100000 ∧ v.n.2.1 ≤ 1100000 ∧ v.m.2.1 ≤ 1100000) ∧ ∀ r ∈ gM g, r.length ≤ 1100000
theorem SmallG.lens {w : World} {v : GV} {g : Gd} (h : SmallG v g) (hG : InG w v g) : ((gA g).length ≤ 1100000 ∧ (gS g).length ≤ 1100000 ∧ (gO g).length ≤ 1100000 ∧ (gF g).length ≤ 1100000 ∧ (gN g).length ≤ 1100000 ∧ (gM g).length ≤ 1100000) ∧ ∀ r ∈ gM g, r.length ≤ 1100000 := by
  obtain ⟨⟨q1, q2, q3, q4, q5, q6⟩, q7⟩ := h
  have e1 := hG.a.1.1
  have e2 := hG.s.1.1
  have e3 := hG.o.1.1
  have e4 := hG.f.1.1
  have e5 := hG.n.1.1
  have e6 := hG.m.1.1
  exact ⟨⟨by omega, by omega, by omega, by omega, by omega, by omega⟩, q7⟩
theorem SmallG.of {w w' : World} {v u : GV} {g : Gd} (h : SmallG v g) (hG : InG w v g) (hu : InG w' u g) : SmallG u g := by
  obtain ⟨⟨q1, q2, q3, q4, q5, q6⟩, q7⟩ := h.lens hG
  have e1 := hu.a.1.1
  have e2 := hu.s.1.1
  have e3 := hu.o.1.1
  have e4 := hu.f.1.1
  have e5 := hu.n.1.1
  have e6 := hu.m.1.1
  exact ⟨⟨by omega, by omega, by omega, by omega, by omega, by omega⟩, q7⟩
end PG
end Go.Proofs.Ytjmlfknogjaemaa
/- Graphs that are handed in. -/
set_option linter.unusedVariables false
namespace Go.Proofs.Ytjmlfknogjaemaa.Vc
open Go Go.Deep Go.ChangeShapes Go.WideShapes Go.Proofs.Ytjmlfknogjaemaa.PG Vc.PG
abbrev graphTy : Ty := .pair (.sl .str) (.pair (.sl .str) (.pair (.sl .str) (.pair (.sl (.int .i64)) (.pair (.sl (.int .i64)) (.pair (.sl (.sl (.int .u16))) .unit)))))
theorem In.one {w : World} {e : Ty} {cs : List Value} {l : List (Den e)} {F : List Nat} (h : In w (.sl e) cs l F) : ∃ x : Sl, cs = [x.v] ∧ In w (.sl e) [x.v] l F := by
  obtain ⟨A, n, c, rfl, h2⟩ := h
  exact ⟨(A, n, c), rfl, A, n, c, rfl, h2⟩
theorem wf_u16 {z : Int} (h : (Lit.int .u16 z).wf = true) : 0 ≤ z ∧ z < 65536 := by
  have h2 : (decide (IntKind.min .u16 ≤ z) && decide (z ≤ IntKind.max .u16)) = true := h
  simp [IntKind.min, IntKind.max, IntKind.signed, IntKind.bits] at h2
  omega
theorem In.u16s {w : World} {A : Option Addr} {n c : Nat} {l : List Int} {F : List Nat} (h : In w (.sl (.int .u16)) [.slice A n c] l F) : InU w A n l ∧ ∀ x ∈ l, 0 ≤ x ∧ x < 65536 := by
  obtain ⟨h1, _, h2⟩ := h.elems
  have each : ∀ (b o : Nat), (∀ i (h : i < l.length), ∃ es G, es.length = (Ty.int .u16).w ∧ (∀ j, j < (Ty.int .u16).w → w.cell? ⟨b, o + i * (Ty.int .u16).w + j, none⟩ = es[j]?) ∧ In w (.int .u16) es l[i] G ∧ ∀ x ∈ G, x ∈ F) → ∀ i (h : i < l.length), w.cell? ⟨b, o + i, none⟩ = some (.int .u16 (l.getD i 0)) ∧ 0 ≤ l.getD i 0 ∧ l.getD i 0 < 65536 := by
    intro b o h3 i hi
    obtain ⟨es, G, e1, e2, ⟨e3, e4, _⟩, _⟩ := h3 i hi
    have h4 := e2 0 (by decide)
    rw [e3] at h4
    have e5 : l.getD i 0 = l[i] := by simp [List.getD_eq_getElem?_getD, hi]
    rw [e5]
    refine ⟨?_, wf_u16 e4⟩
    simpa [Ty.w] using h4
  refine ⟨⟨h1, fun hn => ?_⟩, fun x hx => ?_⟩
  · obtain ⟨b, o, rfl, h3⟩ := h2 hn
    exact ⟨b, o, rfl, fun i hi => (each b o h3 i (by omega)).1⟩
  · obtain ⟨i, hi, rfl⟩ := (mem_getD 0 _ _).1 hx
    obtain ⟨b, o, _, h3⟩ := h2 (by omega)
    exact (each b o h3 i hi).2
theorem In.rows {w : World} {A : Option Addr} {n c : Nat} {M : List (List Int)} {F : List Nat} (h : In w (.sl (.sl (.int .u16))) [.slice A n c] M F) : InM w A n M ∧ ∀ r ∈ M, ∀ x ∈ r, 0 ≤ x ∧ x < 65536 := by
  obtain ⟨h1, _, h2⟩ := h.elems
  have each : ∀ (b o : Nat), (∀ i (h : i < M.length), ∃ es G, es.length = (Ty.sl (.int .u16)).w ∧ (∀ j, j < (Ty.sl (.int .u16)).w → w.cell? ⟨b, o + i * (Ty.sl (.int .u16)).w + j, none⟩ = es[j]?) ∧ In w (.sl (.int .u16)) es M[i] G ∧ ∀ x ∈ G, x ∈ F) → ∀ i (h : i < M.length), (∃ B k c, w.cell? ⟨b, o + i, none⟩ = some (.slice B k c) ∧ InU w B k (M.getD i [])) ∧ ∀ x ∈ M.getD i [], 0 ≤ x ∧ x < 65536 := by
    intro b o h3 i hi
    obtain ⟨es, G, e1, e2, e3, _⟩ := h3 i hi
    have h4 := e2 0 (by decide)
    obtain ⟨x, rfl, e6⟩ := In.one e3
    have e5 : M.getD i [] = M[i] := by simp [List.getD_eq_getElem?_getD, hi]
    rw [e5]
    obtain ⟨e7, e8⟩ := In.u16s e6
    exact ⟨⟨x.1, x.2.1, x.2.2, by simpa [Ty.w] using h4, e7⟩, e8⟩
  refine ⟨⟨h1, fun hn => ?_⟩, fun r hr => ?_⟩
  · obtain ⟨b, o, rfl, h3⟩ := h2 hn
    exact ⟨b, o, rfl, fun i hi => (each b o h3 i (by have : n = M.length := h1; omega)).1⟩
  · obtain ⟨i, hi, rfl⟩ := (mem_getD [] _ _).1 hr
    have hi' : i < M.length := hi
    have h1' : n = M.length := h1
    obtain ⟨b, o, _, h3⟩ := h2 (by omega)
    exact (each b o h3 i hi).2
theorem In.cap {w : World} {e : Ty} {x : Sl} {l : List (Den e)} {F : List Nat} (h : In w (.sl e) [x.v] l F) : x.2.1 ≤ x.2.2 := h.elems.2.1
theorem inGraph {w : World} {cs : List Value} {g : Gd} {F : List Nat} (h : In w graphTy cs g F) : ∃ v : GV, cs = v.cells.toList ∧ InG w v g := by
  obtain ⟨c1, k1, _, _, rfl, _, _, h1, h⟩ := h
  obtain ⟨c2, k2, _, _, rfl, _, _, h2, h⟩ := h
  obtain ⟨c3, k3, _, _, rfl, _, _, h3, h⟩ := h
  obtain ⟨c4, k4, _, _, rfl, _, _, h4, h⟩ := h
  obtain ⟨c5, k5, _, _, rfl, _, _, h5, h⟩ := h
  obtain ⟨c6, k6, _, _, rfl, _, _, h6, h⟩ := h
  obtain ⟨rfl, _⟩ := h
  obtain ⟨x1, rfl, h1⟩ := In.one h1
  obtain ⟨x2, rfl, h2⟩ := In.one h2
  obtain ⟨x3, rfl, h3⟩ := In.one h3
  obtain ⟨x4, rfl, h4⟩ := In.one h4
  obtain ⟨x5, rfl, h5⟩ := In.one h5
  obtain ⟨x6, rfl, h6⟩ := In.one h6
  obtain ⟨r1, r2⟩ := In.rows h6
  exact ⟨⟨x1, x2, x3, x4, x5, x6⟩, rfl, ⟨In.strs h1, In.cap h1⟩, ⟨In.strs h2, In.cap h2⟩, ⟨In.strs h3, In.cap h3⟩, ⟨In.ints h4, In.cap h4⟩, ⟨In.ints h5, In.cap h5⟩, ⟨r1, In.cap h6⟩, r2⟩
theorem wt_row : ∀ {M : List (List Int)} {r : List Int}, r ∈ M → (wt (.sl (.int .u16)) r) ≤ (M.map fun x => max 1 (wt (.sl (.int .u16)) x)).sum
  | m :: M, r, h => by
    rw [List.map_cons, List.sum_cons]
    rcases List.mem_cons.1 h with rfl | h
    · omega
    · have := wt_row h; omega
theorem smallGraph {w : World} {v : GV} {g : Gd} (h : InG w v g) (hk : wt graphTy g ≤ 1048576) : SmallG v g := by
  obtain ⟨l1, l2, l3, l4, l5, l6, _⟩ := g
  have hk : wt (.sl .str) l1 + (wt (.sl .str) l2 + (wt (.sl .str) l3 + (wt (.sl (.int .i64)) l4 + (wt (.sl (.int .i64)) l5 + (wt (.sl (.sl (.int .u16))) l6 + 0))))) ≤ 1048576 := hk
  have a1 := wt_len (e := .str) l1
  have a2 := wt_len (e := .str) l2
  have a3 := wt_len (e := .str) l3
  have a4 := wt_len (e := .int .i64) l4
  have a5 := wt_len (e := .int .i64) l5
  have a6 := wt_len (e := .sl (.int .u16)) l6
  have e1 : v.a.2.1 = l1.length := h.a.1.1
  have e2 : v.s.2.1 = l2.length := h.s.1.1
  have e3 : v.o.2.1 = l3.length := h.o.1.1
  have e4 : v.f.2.1 = l4.length := h.f.1.1
  have e5 : v.n.2.1 = l5.length := h.n.1.1
  have e6 : v.m.2.1 = l6.length := h.m.1.1
  refine ⟨⟨by omega, by omega, by omega, by omega, by omega, by omega⟩, fun r hr => ?_⟩
  have hr : r ∈ l6 := hr
  have h1 := wt_row hr
  have h2 := wt_len (e := .int .u16) r
  have h3 : wt (.sl (.sl (.int .u16))) l6 = 1 + (l6.map fun x => max 1 (wt (.sl (.int .u16)) x)).sum := rfl
  omega
end Go.Proofs.Ytjmlfknogjaemaa.Vc
/- Five things handed in. -/
set_option linter.unusedVariables false
namespace Go.Proofs.Ytjmlfknogjaemaa.Vc
open Go Go.Deep Go.ChangeShapes Go.WideShapes
variable {H : Type} {enc : TypeId × Value → H} {P : Program} {w : World} {base : Nat} {spare : Nat → Bool} {held : Bool}
theorem trodAll_five {t0 t1 t2 t3 t4 : TypeId} {args : Array Value} {ds : List (DataW H)} {ps : List MemPlace} (h : DataW.TrodAll enc P w base spare held [t0, t1, t2, t3, t4] args.toList ds ps) :
    ∃ v0 v1 v2 v3 v4 d0 d1 d2 d3 d4 p0 p1 p2 p3 p4, args = #[v0, v1, v2, v3, v4] ∧ ds = [d0, d1, d2, d3, d4] ∧ ps = p0 ++ p1 ++ p2 ++ p3 ++ p4 ∧ DataW.Trod enc P w base spare held t0 v0 d0 p0 ∧ DataW.Trod enc P w base spare held t1 v1 d1 p1 ∧ DataW.Trod enc P w base spare held t2 v2 d2 p2 ∧ DataW.Trod enc P w base spare held t3 v3 d3 p3 ∧ DataW.Trod enc P w base spare held t4 v4 d4 p4 := by
  obtain ⟨v0, r0, d0, e0, p0, q0, hargs, rfl, rfl, h0, k0⟩ := trodAll_cons h
  obtain ⟨v1, r1, d1, e1, p1, q1, rfl, rfl, rfl, h1, k1⟩ := trodAll_cons k0
  obtain ⟨v2, r2, d2, e2, p2, q2, rfl, rfl, rfl, h2, k2⟩ := trodAll_cons k1
  obtain ⟨v3, r3, d3, e3, p3, q3, rfl, rfl, rfl, h3, k3⟩ := trodAll_cons k2
  obtain ⟨v4, r4, d4, e4, p4, q4, rfl, rfl, rfl, h4, k4⟩ := trodAll_cons k3
  obtain ⟨rfl, rfl, rfl⟩ := trodAll_nil k4
  exact ⟨v0, v1, v2, v3, v4, d0, d1, d2, d3, d4, p0, p1, p2, p3, p4, by cases args; simp_all, rfl, by simp, h0, h1, h2, h3, h4⟩
end Go.Proofs.Ytjmlfknogjaemaa.Vc
/- The plain statements of some functions, printed by vcgen.py. -/
set_option maxRecDepth 100000
set_option linter.unusedVariables false
namespace Go.Proofs.Ytjmlfknogjaemaa
open Go Go.Proofs.Ytjmlfknogjaemaa.Vc
/-- gatehouse/gatehouseref12.seats -/
def f60.AL : Nat → Option Ann := fun r => match r with | 3 => some ⟨[(5, .slice), (6, .int .i64)], [0, 1]⟩ | 10 => some ⟨[(9, .slice), (10, .int .i64)], [0, 1, 5, 6, 8]⟩ | 16 => some ⟨[(9, .slice), (11, .int .i64)], [0, 1, 5, 6, 8]⟩ | _ => none
def f60.AC : Nat → Option Ann := fun _ => none
/-- gatehouse/gatehouseref12.named -/
def f62.AL : Nat → Option Ann := fun r => match r with | 5 => some ⟨[(7, .slice), (8, .slice), (9, .slice), (10, .int .i64)], [0, 1]⟩ | 11 => some ⟨[(13, .int .i64), (14, .int .i64)], [0, 1, 7, 8, 9, 10]⟩ | _ => none
def f62.AC : Nat → Option Ann := fun _ => none
/-- gatehouse/gatehouseref12.mask -/
def f63.AL : Nat → Option Ann := fun _ => none
def f63.AC : Nat → Option Ann := fun _ => none
/-- gatehouse/gatehouseref12.seated -/
def f86.AL : Nat → Option Ann := fun r => match r with | 2 => some ⟨[(5, .int .i64)], [0, 1]⟩ | _ => none
def f86.AC : Nat → Option Ann := fun _ => none
/-- gatehouse/gatehouseref12.spans -/
def f87.AL : Nat → Option Ann := fun r => match r with | 2 => some ⟨[(7, .int .i64)], [0, 1, 2]⟩ | 6 => some ⟨[(8, .int .i64), (9, .int .i64)], [0, 1, 2, 7]⟩ | 13 => some ⟨[(10, .int .i64)], [0, 1]⟩ | _ => none
def f87.AC : Nat → Option Ann := fun _ => none
/-- gatehouse/gatehouseref12.apart -/
def f88.AL : Nat → Option Ann := fun r => match r with | 3 => some ⟨[(5, .int .i64), (6, .int .i64)], [0, 1]⟩ | 7 => some ⟨[(7, .int .i64)], [0, 5]⟩ | 10 => some ⟨[(8, .int .i64)], [0, 5, 7]⟩ | 15 => some ⟨[(9, .int .i64)], [0]⟩ | 18 => some ⟨[(10, .int .i64)], [0, 9]⟩ | 22 => some ⟨[(11, .bool), (12, .int .i64)], [0, 9, 10]⟩ | 28 => some ⟨[(13, .int .i64)], [0]⟩ | 31 => some ⟨[(14, .int .i64)], [0, 13]⟩ | 35 => some ⟨[(15, .bool), (16, .int .i64)], [0, 13, 14]⟩ | _ => none
def f88.AC : Nat → Option Ann := fun _ => none
/-- gatehouse/gatehouseref12.Laid -/
def f59.AL : Nat → Option Ann := fun _ => none
def f59.AC : Nat → Option Ann := fun _ => none
/-- gatehouse/gatehouseref12.Read -/
def f26.AL : Nat → Option Ann := fun r => match r with | 9 => some ⟨[(10, .int .i64)], [0, 1, 5, 8, 9]⟩ | 12 => some ⟨[(11, .int .i64)], [0, 1, 5, 8, 9, 10]⟩ | 24 => some ⟨[(20, .int .i64)], [0, 5, 8, 16, 19]⟩ | 28 => some ⟨[(21, .slice), (22, .int .i64)], [0, 5, 8, 16, 19, 20]⟩ | _ => none
def f26.AC : Nat → Option Ann := fun _ => none
end Go.Proofs.Ytjmlfknogjaemaa
/- Page: the document's Read, its parts: seats, mask, named. -/
set_option linter.unusedVariables false
set_option linter.unusedSimpArgs false
set_option maxRecDepth 10000
namespace Go.Proofs.Ytjmlfknogjaemaa
open Go Go.Proofs.Ytjmlfknogjaemaa.Vc
namespace PG
open Vc.PG NI
end PG
end Go.Proofs.Ytjmlfknogjaemaa
/- Page: the document's Read, its parts: named, seated, spans. -/
set_option linter.unusedVariables false
set_option linter.unusedSimpArgs false
set_option maxRecDepth 10000
namespace Go.Proofs.Ytjmlfknogjaemaa
open Go Go.Proofs.Ytjmlfknogjaemaa.Vc
namespace PG
open Vc.PG NI
theorem namedStep_nodup (l : List ByteArray) (t : List ByteArray × List Int × List Int) (p : Se) (h : t.2.2.Nodup) : (namedStep l t p).2.2.Nodup := by
  unfold namedStep
  by_cases hx : idxI t.2.2 p.2 < 0
  · rw [if_pos hx]
    have hm : ¬ p.2 ∈ t.2.2 := by
      intro hm
      have := (memB_iff _ _).2 hm
      rw [← idxI_mem] at this
      have := of_decide_eq_true this
      omega
    rw [List.nodup_append]
    exact ⟨h, by simp, fun a ha b hb => by simp at hb; subst hb; rintro rfl; exact hm ha⟩
  · rw [if_neg hx]; exact h
theorem namedGo_nodup (l : List ByteArray) : ∀ (s : List Se) (t : List ByteArray × List Int × List Int), t.2.2.Nodup → (s.foldl (namedStep l) t).2.2.Nodup
  | [], t, h => h
  | p :: s, t, h => namedGo_nodup l s _ (namedStep_nodup l t p h)
theorem namedP_nodup (l : List ByteArray) (s : List Se) : (namedP l s).2.2.Nodup := namedGo_nodup l s _ (by simp)
end PG
end Go.Proofs.Ytjmlfknogjaemaa
/- Page: the document's Read, its parts: spans, apart. -/
set_option linter.unusedVariables false
set_option linter.unusedSimpArgs false
set_option maxRecDepth 10000
namespace Go.Proofs.Ytjmlfknogjaemaa
open Go Go.Proofs.Ytjmlfknogjaemaa.Vc
namespace PG
open Vc.PG NI
def cnt (l : List Se) (k : Int) : Nat := (l.filter fun p => decide (p.2 = k)).length
/-- Do the numbers span 1 to n? -/
def SpansP (l : List Se) (N : Nat) (once : Bool) : Prop :=
  (∀ k : Nat, k < N → cnt l ((k + 1 : Nat) : Int) ≠ 0 ∧ (once = true → cnt l ((k + 1 : Nat) : Int) ≤ 1)) ∧ ∀ i, i < l.length → 1 ≤ (l.getD i se0).2 ∧ (l.getD i se0).2 ≤ N
/-- Are the masks small, no two rows alike, no two columns? (m: the masks, from 0 on.) -/
def ApartP (m : Nat → Nat → Int) (H2 H3 bits : Nat) : Prop :=
  (∀ x, x < H2 → ∀ y, y < H3 → 0 ≤ m x y ∧ m x y < 2 ^ bits) ∧ (∀ x, x < H2 → ∀ k, k < x → ¬ ∀ y, y < H3 → m x y = m k y) ∧ (∀ y, y < H3 → ∀ k, k < y → ¬ ∀ x, x < H2 → m x y = m x k)
end PG
end Go.Proofs.Ytjmlfknogjaemaa
/- Page: the document's Laid. -/
set_option linter.unusedVariables false
set_option linter.unusedSimpArgs false
set_option maxRecDepth 10000
namespace Go.Proofs.Ytjmlfknogjaemaa
open Go Go.Proofs.Ytjmlfknogjaemaa.Vc
namespace PG
open Vc.PG NI
/-- The masks of a page, from 0 on. -/
def mskN (W : List Int) (t : Nat) (x y : Nat) : Int := maskP W t (W.getD 3 0) ((x + 1 : Nat) : Int) ((y + 1 : Nat) : Int)
/-- What the document asks of a page whose table has t places. -/
def LaidT (W : List Int) (t : Nat) : Prop :=
  tabN ((seatsP W 3 t).length + (seatsP W 1 t).length + (seatsP W 2 t).length) = t ∧ (seatsP W 3 t).length ≤ 16 ∧ (seatsP W 1 t).length ≤ 64 ∧ (seatsP W 2 t).length ≤ 64 ∧
  SpansP (seatsP W 3 t) (seatsP W 3 t).length true ∧ SpansP (seatsP W 1 t) (W.getD 2 0).toNat false ∧ SpansP (seatsP W 2 t) (W.getD 3 0).toNat false ∧ ApartP (mskN W t) (W.getD 2 0).toNat (W.getD 3 0).toNat (seatsP W 3 t).length
def LaidP (W : List Int) (l : List ByteArray) : Prop := ∃ t : Nat, tabP W = (t : Int) ∧ 0 < t ∧ shapeB W t = true ∧ seatedB W t l = true ∧ LaidT W t
end PG
end Go.Proofs.Ytjmlfknogjaemaa
/- Page: the document's Read. -/
set_option linter.unusedVariables false
set_option linter.unusedSimpArgs false
set_option maxRecDepth 10000
namespace Go.Proofs.Ytjmlfknogjaemaa
open Go Go.Proofs.Ytjmlfknogjaemaa.Vc
namespace PG
open Vc.PG NI
theorem namedGo_sub (l : List ByteArray) : ∀ (s : List Se) (t : List ByteArray × List Int × List Int) (x : Int), x ∈ (s.foldl (namedStep l) t).2.2 → x ∈ t.2.2 ∨ ∃ p ∈ s, p.2 = x
  | [], t, x, h => .inl h
  | p :: s, t, x, h => by
    rcases namedGo_sub l s _ x h with h1 | ⟨q, hq, he⟩
    · unfold namedStep at h1
      split at h1
      · simp only [List.mem_append, List.mem_singleton] at h1
        rcases h1 with h1 | h1
        · exact .inl h1
        · exact .inr ⟨p, List.mem_cons_self, h1.symm⟩
      · exact .inl h1
    · exact .inr ⟨q, List.mem_cons_of_mem _ hq, he⟩
theorem namedP_sub {l : List ByteArray} {s : List Se} {x : Int} (h : x ∈ (namedP l s).2.2) : ∃ p ∈ s, p.2 = x := by
  rcases namedGo_sub l s _ x h with h1 | h1
  · simp at h1
  · exact h1
theorem spans_rows {l : List ByteArray} {s : List Se} {N : Nat} {o : Bool} (h : SpansP s N o) : ∀ x ∈ (namedP l s).2.2, 1 ≤ x ∧ x ≤ N := by
  intro x hx
  obtain ⟨p, hp, rfl⟩ := namedP_sub hx
  obtain ⟨i, hi, rfl⟩ := (mem_getD se0 _ _).1 hp
  exact h.2 i hi
def nameK (l : List ByteArray) (a : List Se) (i : Nat) : ByteArray := (thing l ((seatOf a ((i + 1 : Nat) : Int)).getD se0).1).1
theorem listedP_nameK (l : List ByteArray) (a : List Se) : listedP l a = (List.range a.length).map (nameK l a) := rfl
end PG
end Go.Proofs.Ytjmlfknogjaemaa
