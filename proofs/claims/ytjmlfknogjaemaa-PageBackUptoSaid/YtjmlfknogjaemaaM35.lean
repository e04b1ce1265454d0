/- Page: the table of a page: each key that was put down is met. -/
import Derived.Test.YtjmlfknogjaemaaM34
import Derived.Test.YtjmlfknogjaemaaM32
set_option linter.unusedVariables false
set_option linter.unusedSimpArgs false
set_option maxRecDepth 10000
namespace Go.Proofs.Ytjmlfknogjaemaa
open Go Go.Proofs.Ytjmlfknogjaemaa.Vc
namespace PG
open Vc.PG NI
theorem flat_len {g : Gd} (hv : validP g = true) : (gM g).flatten.length = topOf (gF g) * topOf (gN g) := by
  obtain ⟨p1, p2, p3, p4, p5, p6, p7, p8, p9⟩ := valid_parts hv
  have hm4 : (gM g).length = topOf (gF g) := ((shaped_iff _ _ _ _).1 p7).1
  have : ∀ r ∈ gM g, r.length = topOf (gN g) := fun r hr => by
    obtain ⟨a, ha, rfl⟩ := (mem_getD [] _ _).1 hr
    exact row_len hv (by omega)
  rw [List.length_flatten]
  have e : (gM g).map List.length = List.replicate (topOf (gF g)) (topOf (gN g)) := by
    apply List.ext_getElem (by simp; omega)
    intro q h1 h2
    simp only [List.getElem_map, List.getElem_replicate]
    exact this _ (List.getElem_mem _)
  rw [e]; simp
theorem putK_len (L : List ByteArray) : ∀ (es : List En) (Z : List Pz), (es.foldl (putK L) Z).length = Z.length
  | [], Z => rfl
  | e :: es, Z => by
    show (es.foldl (putK L) (putK L Z e)).length = _
    rw [putK_len L es]
    exact putZ_len _ _ _
theorem head_len (v : Int) (g : Gd) : (headP v g).length = 4 := rfl
theorem tOf_le {g : Gd} (hv : validP g = true) : tOf g ≤ 512 := by
  obtain ⟨⟨p1, p2, p3, _⟩, _⟩ := valid_parts hv
  have := names_len g
  exact (tabN_small ⟨(names g).length, by omega⟩).1
/-- How long a page is. -/
theorem lay_len {v : Int} {g : Gd} {l : List ByteArray} (h : (layP v g l).2.1 = 0) : ((layP v g l).1.length : Int) = sizeP g := by
  unfold layP at h ⊢
  split at h
  · cases h
  split at h
  · cases h
  split at h
  · cases h
  rename_i hver hv hr
  rw [if_neg hver, if_neg hv, if_neg hr]
  have hv : validP g = true := by cases h : validP g with | true => rfl | false => exact absurd h hv
  have hz := layZ_eq hv (l := l) (by omega) []
  show ((pageZ (headP v g) (layZ g l).2 ++ (gM g).flatten).length : Int) = _
  rw [hz, List.length_append, pageZ_len (head_len v g), putK_len, List.length_replicate, flat_len hv]
  unfold sizeP
  rw [if_pos hv]
theorem size_small (g : Gd) : 0 ≤ sizeP g ∧ sizeP g ≤ 6000 := by
  unfold sizeP
  split
  · rename_i hv
    have := tOf_le hv
    obtain ⟨p1, p2, p3, p4, p5, p6, p7, p8, p9⟩ := valid_parts hv
    have hm := Nat.mul_le_mul p5 p6
    generalize topOf (gF g) * topOf (gN g) = p at *
    omega
  · omega
theorem lay_small (v : Int) (g : Gd) (l : List ByteArray) : (layP v g l).1.length ≤ 6000 := by
  have h := size_small g
  by_cases h0 : (layP v g l).2.1 = 0
  · have := lay_len h0; omega
  · have : (layP v g l).1 = [] := by
      unfold layP at h0 ⊢
      split
      · rfl
      split
      · rfl
      split
      · rfl
      · rename_i a b c
        rw [if_neg a, if_neg b, if_neg c] at h0
        exact absurd rfl h0
    rw [this]; simp
theorem freeAt_spec (Z : List Pz) (f : Nat) : ∀ r n, (∃ m, n ≤ m ∧ m < n + r ∧ (Z.getD ((f + m) % Z.length) pz0).1 = 0) → ∃ j, n ≤ j ∧ j < n + r ∧ freeAt Z f n r = (f + j) % Z.length ∧ (Z.getD ((f + j) % Z.length) pz0).1 = 0 ∧ ∀ m, n ≤ m → m < j → (Z.getD ((f + m) % Z.length) pz0).1 ≠ 0
  | 0, n, ⟨m, h1, h2, _⟩ => by omega
  | r + 1, n, ⟨m, h1, h2, h3⟩ => by
    rw [freeAt]
    split
    · rename_i h0
      exact ⟨n, Nat.le_refl _, by omega, rfl, h0, fun m h4 h5 => by omega⟩
    · rename_i hne
      obtain ⟨j, j1, j2, j3, j4, j5⟩ := freeAt_spec Z f r (n + 1) ⟨m, by
        rcases Nat.eq_or_lt_of_le h1 with h | h
        · subst h; exact absurd h3 hne
        · exact h, by omega, h3⟩
      refine ⟨j, by omega, by omega, j3, j4, fun q hq1 hq2 => ?_⟩
      rcases Nat.eq_or_lt_of_le hq1 with h | h
      · subst h; exact hne
      · exact j5 q h hq2
theorem getD_setZ {Z : List Pz} {q : Nat} (hq : q < Z.length) (p : Pz) (i : Nat) : (Z.set q p).getD i pz0 = if i = q then p else Z.getD i pz0 := by
  rw [List.getD_eq_getElem?_getD, List.getElem?_set]
  by_cases h : q = i
  · subst h; simp [hq]
  · rw [if_neg h, if_neg (fun e => h e.symm), List.getD_eq_getElem?_getD]
/-- A table that holds some keys, each where a search meets it. -/
structure Tab (Z : List Pz) (P : List Pz) : Prop where
  pos : ∀ p ∈ P, p.1 ≠ 0
  mem : ∀ i, i < Z.length → (Z.getD i pz0).1 ≠ 0 → Z.getD i pz0 ∈ P
  zero : ∀ i, i < Z.length → (Z.getD i pz0).1 = 0 → Z.getD i pz0 = pz0
  met : ∀ p ∈ P, ∃ j, j < Z.length ∧ Z.getD ((kfirst p.1 Z.length + j) % Z.length) pz0 = p ∧ ∀ m, m < j → (Z.getD ((kfirst p.1 Z.length + m) % Z.length) pz0).1 ≠ 0 ∧ (Z.getD ((kfirst p.1 Z.length + m) % Z.length) pz0).1 ≠ p.1
  one : ∀ i j, i < Z.length → j < Z.length → (Z.getD i pz0).1 ≠ 0 → (Z.getD i pz0).1 = (Z.getD j pz0).1 → i = j
  full : fullN Z = P.length
theorem Tab.nil (t : Nat) : Tab (List.replicate t pz0) [] := by
  have h0 : ∀ i, (List.replicate t pz0).getD i pz0 = pz0 := fun i => by
    rw [List.getD_eq_getElem?_getD, List.getElem?_replicate]
    split <;> rfl
  refine ⟨by simp, fun i _ h => absurd (by rw [h0]) h, fun i _ _ => h0 i, by simp, fun i j _ _ h => absurd (by rw [h0]) h, by rw [full_zero]; rfl⟩
theorem Tab.put {Z P : List Pz} (h : Tab Z P) (hf : fullN Z < Z.length) {key : Int} (num : Int) (hk : key ≠ 0) (hn : ∀ p ∈ P, p.1 ≠ key) : Tab (putZ Z key num) (P ++ [(key, num)]) := by
  obtain ⟨m, hm1, hm2⟩ := empty_of hf (kfirst key Z.length)
  obtain ⟨j, _, j2, j3, j4, j5⟩ := freeAt_spec Z (kfirst key Z.length) Z.length 0 ⟨m, by omega, by omega, hm2⟩
  have hfull := putZ_full hf hk num
  have hpos : 0 < Z.length := by omega
  unfold putZ placeZ at *
  rw [j3] at hfull ⊢
  have hq : (kfirst key Z.length + j) % Z.length < Z.length := Nat.mod_lt _ hpos
  have hl : (Z.set ((kfirst key Z.length + j) % Z.length) (key, num)).length = Z.length := List.length_set
  have hget := getD_setZ hq (key, num)
  generalize hQ : (kfirst key Z.length + j) % Z.length = q at *
  refine ⟨?_, ?_, ?_, ?_, ?_, ?_⟩
  · intro p hp
    rcases List.mem_append.1 hp with hp | hp
    · exact h.pos p hp
    · rw [List.mem_singleton] at hp; subst hp; exact hk
  · intro i hi hne
    rw [hget] at hne ⊢
    rw [hl] at hi
    split
    · simp
    · rename_i hiq
      rw [if_neg hiq] at hne
      exact List.mem_append.2 (.inl (h.mem i hi hne))
  · intro i hi h0
    rw [hget] at h0 ⊢
    rw [hl] at hi
    by_cases hiq : i = q
    · rw [if_pos hiq] at h0; exact absurd h0 hk
    · rw [if_neg hiq] at h0 ⊢; exact h.zero i hi h0
  · intro p hp
    rw [hl]
    rcases List.mem_append.1 hp with hp | hp
    · obtain ⟨a, a1, a2, a3⟩ := h.met p hp
      refine ⟨a, a1, ?_, fun m hm => ?_⟩
      · rw [hget, if_neg]
        · exact a2
        · intro e
          rw [e] at a2
          have := h.pos p hp
          rw [← a2, j4] at this
          exact this rfl
      · rw [hget, if_neg]
        · exact a3 m hm
        · intro e
          have := (a3 m hm).1
          rw [e] at this
          exact this j4
    · rw [List.mem_singleton] at hp; subst hp
      refine ⟨j, by omega, ?_, fun m hm => ?_⟩
      · rw [hget, if_pos hQ]
      · have h1 := j5 m (by omega) hm
        have hne : (kfirst key Z.length + m) % Z.length ≠ q := by
          intro e
          rw [e] at h1
          exact h1 j4
        show ((Z.set q (key, num)).getD ((kfirst key Z.length + m) % Z.length) pz0).1 ≠ 0 ∧ ((Z.set q (key, num)).getD ((kfirst key Z.length + m) % Z.length) pz0).1 ≠ key
        rw [hget, if_neg hne]
        exact ⟨h1, hn _ (h.mem _ (Nat.mod_lt _ hpos) h1)⟩
  · intro i k hi hk2 hne he
    rw [hl] at hi hk2
    rw [hget] at hne he
    rw [hget] at he
    by_cases h1 : i = q
    · by_cases h2 : k = q
      · rw [h1, h2]
      · rw [if_pos h1, if_neg h2] at he
        rw [if_pos h1] at hne
        have h3 : (Z.getD k pz0).1 ≠ 0 := by rw [← he]; exact hne
        exact absurd he.symm (hn _ (h.mem k hk2 h3))
    · rw [if_neg h1] at hne he
      by_cases h2 : k = q
      · rw [if_pos h2] at he
        exact absurd he (hn _ (h.mem i hi hne))
      · rw [if_neg h2] at he
        exact h.one i k hi hk2 hne he
  · rw [hfull, h.full]; simp
/-- The key of an entry. -/
def keyE (L : List ByteArray) (e : En) : Int := (IX.num L e.1 : Int) * 4 + e.2.1
def entP (L : List ByteArray) (es : List En) : List Pz := es.map fun e => (keyE L e, e.2.2)
theorem tab_fold (L : List ByteArray) : ∀ (es : List En) (Z P : List Pz), Tab Z P → fullN Z + es.length ≤ Z.length → (es.map (keyE L)).Nodup → (∀ e ∈ es, keyE L e ≠ 0) → (∀ e ∈ es, ∀ p ∈ P, p.1 ≠ keyE L e) → Tab (es.foldl (putK L) Z) (P ++ entP L es)
  | [], Z, P, h, _, _, _, _ => by simpa [entP] using h
  | e :: es, Z, P, h, hf, hn, h0, hd => by
    rw [List.length_cons] at hf
    rw [List.map_cons, List.nodup_cons] at hn
    have h1 := h.put (by omega) (key := keyE L e) e.2.2 (h0 e List.mem_cons_self) (hd e List.mem_cons_self)
    have hz : fullN (putZ Z (keyE L e) e.2.2) = fullN Z + 1 := putZ_full (by omega) (h0 e List.mem_cons_self) _
    have h2 := tab_fold L es _ _ h1 (by rw [hz, putZ_len]; omega) hn.2 (fun x hx => h0 x (List.mem_cons_of_mem _ hx)) (fun x hx p hp => by
      rcases List.mem_append.1 hp with hp | hp
      · exact hd x (List.mem_cons_of_mem _ hx) p hp
      · rw [List.mem_singleton] at hp; subst hp
        intro e2
        exact hn.1 (List.mem_map.2 ⟨x, hx, e2.symm⟩))
    rw [List.append_assoc] at h2
    exact h2
/-- Some places in a row that are not empty are no more than there are keys. -/
theorem row_le {Z : List Pz} {f j : Nat} (hj : j ≤ Z.length) (h : ∀ m, m < j → (Z.getD ((f + m) % Z.length) pz0).1 ≠ 0) : j ≤ fullN Z := by
  rcases Nat.eq_zero_or_pos Z.length with hz | hz
  · omega
  have e : fullN Z = ((List.range Z.length).filter fun i => decide ((Z.getD i pz0).1 ≠ 0)).length := by
    have hm : Z = (List.range Z.length).map fun i => Z.getD i pz0 := by
      apply List.ext_getElem (by simp)
      intro i h1 h2
      simp [List.getD_eq_getElem?_getD, h1]
    unfold fullN
    conv => lhs; rw [hm]
    rw [List.countP_map, List.countP_eq_length_filter]
    rfl
  rw [e]
  have hnd : ((List.range j).map fun m => (f + m) % Z.length).Nodup := by
    rw [List.Nodup, List.pairwise_map]
    refine List.Pairwise.imp_of_mem ?_ List.nodup_range
    intro a b ha hb hab e
    rw [List.mem_range] at ha hb
    have h1 := Nat.mod_add_div (f + a) Z.length
    have h2 := Nat.mod_add_div (f + b) Z.length
    rw [e] at h1
    generalize (f + a) / Z.length = x at *
    generalize (f + b) / Z.length = y at *
    generalize (f + b) % Z.length = r at *
    rcases Nat.lt_trichotomy x y with h | h | h
    · have : Z.length * (x + 1) ≤ Z.length * y := Nat.mul_le_mul_left _ h
      rw [Nat.mul_add] at this
      omega
    · subst h; omega
    · have : Z.length * (y + 1) ≤ Z.length * x := Nat.mul_le_mul_left _ h
      rw [Nat.mul_add] at this
      omega
  have := nodup_len hnd (m := (List.range Z.length).filter fun i => decide ((Z.getD i pz0).1 ≠ 0)) (fun x hx => by
    obtain ⟨m, hm, rfl⟩ := List.mem_map.1 hx
    rw [List.mem_range] at hm
    exact List.mem_filter.2 ⟨List.mem_range.2 (Nat.mod_lt _ hz), decide_eq_true (h m hm)⟩)
  simpa using this
/-- The words of a page stand for a table. -/
def Reads (W : List Int) (Z : List Pz) : Prop := ∀ i, i < Z.length → W.getD (4 + 2 * i) 0 = (Z.getD i pz0).1 ∧ W.getD (4 + 2 * i + 1) 0 = (Z.getD i pz0).2
theorem lookGo_at {W : List Int} {t : Nat} {key : Int} {f : Nat} {j : Nat} {z : Int} (hz : z = W.getD (4 + 2 * ((f + j) % t)) 0) (hj : z = key ∨ z = 0 ∧ key ≠ 0) (hm : ∀ m, m < j → W.getD (4 + 2 * ((f + m) % t)) 0 ≠ 0 ∧ W.getD (4 + 2 * ((f + m) % t)) 0 ≠ key) :
    ∀ r n, n ≤ j → j < n + r → lookGo W t key f n r = (if z = key then W.getD (4 + 2 * ((f + j) % t) + 1) 0 else 0, j + 1)
  | 0, n, h1, h2 => by omega
  | r + 1, n, h1, h2 => by
    rw [lookGo]
    rcases Nat.eq_or_lt_of_le h1 with h | h
    · subst h
      rw [← hz]
      rcases hj with h3 | ⟨h3, h4⟩
      · rw [if_pos h3, if_pos h3]
      · rw [if_neg (by omega), if_pos h3, if_neg (by omega)]
    · rw [if_neg (hm n h).2, if_neg (hm n h).1]
      exact lookGo_at hz hj hm r (n + 1) h (by omega)
theorem seekGo_at {W : List Int} {t : Nat} (ht : 0 < t) (hW : 4 + 2 * t ≤ W.length) {key : Int} {f : Nat} {j : Nat} {z : Int} (hz : z = W.getD (4 + 2 * ((f + j) % t)) 0) (hj : z = key ∨ z = 0 ∧ key ≠ 0) (hm : ∀ m, m < j → W.getD (4 + 2 * ((f + m) % t)) 0 ≠ 0 ∧ W.getD (4 + 2 * ((f + m) % t)) 0 ≠ key) :
    ∀ r n s, n ≤ j → j < n + r → (seekGo W t key f n r s).1 = if z = key then some (W.getD (4 + 2 * ((f + j) % t) + 1) 0) else none
  | 0, n, s, h1, h2 => by omega
  | r + 1, n, s, h1, h2 => by
    have hlt := Nat.mod_lt (f + n) ht
    rw [seekGo, if_pos (by omega)]
    rcases Nat.eq_or_lt_of_le h1 with h | h
    · subst h
      rw [← hz]
      rcases hj with h3 | ⟨h3, h4⟩
      · rw [if_pos h3, if_pos h3, if_pos (by omega)]
      · rw [if_neg (by omega), if_pos h3, if_neg (by omega)]
    · rw [if_neg (hm n h).2, if_neg (hm n h).1]
      exact seekGo_at ht hW hz hj hm r (n + 1) (s + 1) h (by omega)
section
variable {W : List Int} {Z P : List Pz} (h : Tab Z P) (hR : Reads W Z)
include h hR
/-- A key that was put down is met. -/
theorem Tab.look {p : Pz} (hp : p ∈ P) : ∃ j, j < Z.length ∧ j + 1 ≤ P.length ∧ Z.getD ((kfirst p.1 Z.length + j) % Z.length) pz0 = p ∧ lookGo W Z.length p.1 (kfirst p.1 Z.length) 0 Z.length = (p.2, j + 1) := by
  obtain ⟨j, j1, j2, j3⟩ := h.met p hp
  have hpos : 0 < Z.length := by omega
  have hr := hR _ (Nat.mod_lt (kfirst p.1 Z.length + j) hpos)
  rw [j2] at hr
  refine ⟨j, j1, ?_, j2, ?_⟩
  · have := row_le (Z := Z) (f := kfirst p.1 Z.length) (j := j + 1) (by omega) (fun m hm => by
      rcases Nat.lt_or_ge m j with h1 | h1
      · exact (j3 m h1).1
      · have : m = j := by omega
        subst this
        rw [j2]; exact h.pos p hp)
    rw [h.full] at this; exact this
  · rw [lookGo_at (j := j) (z := p.1) hr.1.symm (.inl rfl) (fun m hm => by rw [(hR _ (Nat.mod_lt _ hpos)).1]; exact j3 m hm) _ 0 (by omega) (by omega), if_pos rfl, hr.2]
theorem Tab.seek (hW : 4 + 2 * Z.length ≤ W.length) {p : Pz} (hp : p ∈ P) (s : Nat) : (seekP W Z.length p.1 s).1 = some p.2 := by
  obtain ⟨j, j1, j2, j3⟩ := h.met p hp
  have hpos : 0 < Z.length := by omega
  have hr := hR _ (Nat.mod_lt (kfirst p.1 Z.length + j) hpos)
  rw [j2] at hr
  unfold seekP
  rw [seekGo_at hpos hW (j := j) (z := p.1) hr.1.symm (.inl rfl) (fun m hm => by rw [(hR _ (Nat.mod_lt _ hpos)).1]; exact j3 m hm) _ 0 s (by omega) (by omega), if_pos rfl, hr.2]
theorem Tab.lost (hW : 4 + 2 * Z.length ≤ W.length) (hf : fullN Z < Z.length) {key : Int} (h0 : key ≠ 0) (hn : ∀ p ∈ P, p.1 ≠ key) (s : Nat) : (seekP W Z.length key s).1 = none := by
  obtain ⟨m, hm1, hm2⟩ := empty_of hf (kfirst key Z.length)
  obtain ⟨j, _, j2, _, j4, j5⟩ := freeAt_spec Z (kfirst key Z.length) Z.length 0 ⟨m, by omega, by omega, hm2⟩
  have hpos : 0 < Z.length := by omega
  have hr := hR _ (Nat.mod_lt (kfirst key Z.length + j) hpos)
  unfold seekP
  rw [seekGo_at hpos hW (j := j) (z := 0) (by rw [hr.1, j4]) (.inr ⟨rfl, h0⟩) (fun m hm => by
      rw [(hR _ (Nat.mod_lt _ hpos)).1]
      have := j5 m (by omega) hm
      exact ⟨this, hn _ (h.mem _ (Nat.mod_lt _ hpos) this)⟩) _ 0 s (by omega) (by omega), if_neg (fun e => h0 e.symm)]
end
end PG
end Go.Proofs.Ytjmlfknogjaemaa
/- Page: laying, beside other pieces of memory. -/
set_option linter.unusedVariables false
set_option linter.unusedSimpArgs false
set_option maxRecDepth 10000
namespace Go.Proofs.Ytjmlfknogjaemaa
open Go Go.Proofs.Ytjmlfknogjaemaa.Vc
namespace PG
open Vc.PG NI
/-- The program's Lay, of a graph that is a piece of memory. -/
theorem layCs {S : List Nat} {w0 w : World} {K : List Chunk} (h : St S w0 w K) (i j : Nat) (hij : j ≠ i) {x : Nat} {l : List ByteArray} (hi : K[i]? = some (idxC x l)) {p : World → Prop} (hj : K[j]? = some (Chunk.keep p)) {v : GV} {g : Gd} (hG : ∀ w, p w → InG w v g) (hl : l.length ≤ 1048576) (hbig : v.a.2.1 ≤ 1100000 ∧ v.s.2.1 ≤ 1100000 ∧ v.o.2.1 ≤ 1100000) (ver : Int) :
    Calls Try.prog 17 #[.int .i64 ver, v.v, .pointer (some ⟨x, 0, none⟩)] w fun e w' => ∃ A n c, e = .returned (.tuple #[.slice A n c, .int .i64 (layP ver g l).2.1]) ∧ St S w0 w' (ints (.slice A n c) (layP ver g l).1 :: K.set i (idxC x (layP ver g l).2.2)) := by
  obtain ⟨F, hF, hd, hgr⟩ := h.graftW i hi
  obtain ⟨G, hG4, hdj⟩ := hd j _ hij hj
  refine Calls.mono (layC (St.start1 hF) (v := v) (g := g) (fun w' hf => hG _ (Chunk.keep_says (Chunk.fr _ hG4 hf hdj))) hl hbig ver) ?_
  rintro _ w' ⟨A, n, c, rfl, hS⟩
  exact ⟨A, n, c, rfl, hgr (hS.swap 0 1 rfl rfl)⟩
end PG
end Go.Proofs.Ytjmlfknogjaemaa
