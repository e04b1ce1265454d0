/- Records of several cells: one more on a list. -/
import Derived.Test.YtddbebhklmaeoaaM7
import Derived.Test.YtddbebhklmaeoaaM6
set_option linter.unusedVariables false
set_option linter.unusedSimpArgs false
namespace Go.Proofs.Ytddbebhklmaeoaa.Vc
open Go
/-- A list of records. -/
abbrev Chunk.lr {α : Type} (enc : α → List Value) (e : TypeId) (s : Nat) (v : Value) (l : List α) : Chunk := Chunk.sl e s v (l.map enc)
theorem flat_at {s : Nat} (hs : 0 < s) : ∀ {rs : List (List Value)}, (∀ r ∈ rs, r.length = s) → ∀ j, rs.flatten[j]? = (rs.getD (j / s) [])[j % s]?
  | [], _, j => by simp
  | r :: rs, h, j => by
    have hr := h r List.mem_cons_self
    rw [List.flatten_cons]
    by_cases hj : j < s
    · rw [List.getElem?_append_left (by omega), Nat.div_eq_of_lt hj, Nat.mod_eq_of_lt hj]; rfl
    · rw [List.getElem?_append_right (by omega), flat_at hs (fun x hx => h x (List.mem_cons_of_mem _ hx)), hr]
      obtain ⟨q, rfl⟩ : ∃ q, j = q + s := ⟨j - s, by omega⟩
      rw [Nat.add_sub_cancel, Nat.add_div_right _ hs, Nat.add_mod_right]; rfl
/-- Many records more, that lie anywhere. -/
theorem St.appManyR {α : Type} (d : α) {enc : α → List Value} {s : Nat} (hs : 0 < s) (hlen : ∀ a, (enc a).length = s) (henc : ∀ a, ∀ u ∈ enc a, u.oneCell' = true) {P : Program} {t ty e : TypeId} {ti : TypeInfo} {z : Value} (ht : P.underlying t = some (.slice e)) (hti : P.info? e = some ti) (hz : ti.zero = some z) (hsize : ti.size = s) (hzs : z.cells.size = s) (hb : ti.bytes ≤ 1000)
    {S : List Nat} {w0 w : World} {L : List Chunk} (h : St S w0 w L) (i : Nat) {A : Option Addr} {n c : Nat} {l : List α} (hi : L[i]? = some (Chunk.lr enc e s (.slice A n c) l)) {A2 : Option Addr} {n2 c2 : Nat} {k : List α}
    (hn : n2 = k.length) (hk : 0 < n2 → ∃ b o, A2 = some ⟨b, o, Option.none⟩ ∧ ∀ q, q < n2 → ∀ j x, j < s → (enc (k.getD q d))[j]? = some x → w.cell? ⟨b, o + (q * s + j), Option.none⟩ = some x) (hl : l.length + k.length ≤ 40000000) :
    ∃ A' n' c' w', (Builtin.append_ #[t, t] ty #[.slice A n c, .slice A2 n2 c2]).run P w = .ok (.slice A' n' c') w' ∧ St S w0 w' (L.set i (Chunk.lr enc e s (.slice A' n' c') (l ++ k))) := by
  have hil : i < L.length := (List.getElem?_eq_some_iff.1 hi).1
  rcases Nat.eq_zero_or_pos n2 with h0 | h0
  · subst h0
    have hk0 : k = [] := List.eq_nil_of_length_eq_zero hn.symm
    subst hk0
    have hsrc : Src P ti.size t (.slice A2 0 c2) 0 [] w := by
      cases A2 with
      | none => exact Src.ofNil w ht c2
      | some a => exact Src.ofSlice w ht a 0 c2 [] (by simp) (by simp) (by simp)
    have hle : n ≤ c := by
      obtain ⟨F, h1, _⟩ := h.at i hi
      rcases h1 with ⟨h1, h2, _⟩ | ⟨g, cap, h1, _, h2⟩
      · injection h1 with _ e1 e2; omega
      · injection h1 with _ e1 e2
        obtain ⟨_, _, _, h5, _⟩ := h2
        omega
    refine ⟨A, n, c, w, run_append_nothing w t t ty e ti ht hti A n c hle _ hsrc, ?_⟩
    rw [List.append_nil]
    have e : L.set i (Chunk.lr enc e s (.slice A n c) l) = L := by
      apply List.ext_getElem?
      intro q
      by_cases hq : q = i
      · subst hq; rw [List.getElem?_set_self hil, hi]
      · rw [List.getElem?_set_ne (Ne.symm hq)]
    rw [e]; exact h
  · obtain ⟨b, o, rfl, hc⟩ := hk h0
    obtain ⟨F, k1, _, k3⟩ := h.at i hi
    have el : (l.map enc).length = l.length := by simp
    have ek : (k.map enc).length = k.length := by simp
    have hks : ∀ x ∈ k.map enc, x.length = s := fun x hx => by obtain ⟨a, _, rfl⟩ := List.mem_map.1 hx; exact hlen a
    obtain ⟨g', cap', w', hrun, hR, hg⟩ := append_rowsA (P := P) (w := w) (t := t) (ty := ty) (e := e) (i := ti) (z := z) (s := s) (rs := l.map enc) (v := .slice A n c) (news := k.map enc) (a0 := ⟨b, o, Option.none⟩) (c := c2) ht hti hz hsize hzs hs
      (by
        rcases k1 with ⟨k1, k2, _⟩ | ⟨g, cap, k1, _, k2⟩
        · exact .inl ⟨k1, k2⟩
        · exact .inr ⟨g, cap, k1, k2⟩)
      (by
        intro j u hu
        have hj : j < k.length * s := by
          have := (List.getElem?_eq_some_iff.1 hu).1
          rwa [flat_len hks, ek] at this
        have hq : j / s < k.length := (Nat.div_lt_iff_lt_mul hs).2 hj
        rw [flat_at hs hks] at hu
        rw [Addr.add_lit, ← hc (j / s) (by omega) (j % s) u (Nat.mod_lt _ hs) (by
          rw [← hu]
          simp [List.getD_eq_getElem?_getD, hq])]
        rw [Nat.mul_comm (j / s) s, Nat.div_add_mod])
      hks (by intro u hu; obtain ⟨r, hr, hu⟩ := List.mem_flatten.1 hu; obtain ⟨a, _, rfl⟩ := List.mem_map.1 hr; exact henc a u hu) (fun x hx => by obtain ⟨a, _, rfl⟩ := List.mem_map.1 hx; exact hlen a) (by rw [ek]; omega) (by rw [el, ek]; have := Nat.mul_le_mul (show l.length + k.length ≤ 40000000 by omega) hb; omega) (by rw [el, ek]; simp [maxLen]; omega)
    rw [el, ek] at hrun
    rw [← List.map_append] at hR
    rw [← hn] at hrun
    refine ⟨_, _, _, w', hrun, ?_⟩
    have eN : l.length + n2 = ((l ++ k).map enc).length := by simp; omega
    rw [eN]
    rcases hg with ⟨hv, hf⟩ | ⟨hge, hf⟩
    · refine k3 (F' := [g']) (hf.mono ?_) (.inr ⟨g', cap', rfl, rfl, hR⟩) ?_
      · intro x hx
        rcases k1 with ⟨k1, _, _⟩ | ⟨g, cap, k1, rfl, _⟩
        · rw [k1] at hv; cases hv
        · rw [k1] at hv; injection hv with e1 e2 e3; simp at e1; subst e1; exact hx
      · intro x hx
        rcases k1 with ⟨k1, _, _⟩ | ⟨g, cap, k1, rfl, _⟩
        · rw [k1] at hv; cases hv
        · rw [k1] at hv; injection hv with e1 e2 e3; simp at e1; subst e1; exact .inl hx
    · exact k3 (F' := [g']) (hf.mono (by simp)) (.inr ⟨g', cap', rfl, rfl, hR⟩) (fun x hx => by simp at hx; subst hx; exact .inr hge)
end Go.Proofs.Ytddbebhklmaeoaa.Vc
/- A contract told of one piece of memory, used among others. -/
set_option linter.unusedVariables false
set_option linter.unusedSimpArgs false
namespace Go.Proofs.Ytddbebhklmaeoaa.Vc
open Go
/-- New pieces, made by work that touched nothing. -/
theorem St.gone {S : List Nat} {w0 w w' : World} {L M : List Chunk} (h : St S w0 w L) (g : St [] w w' M) : St S w0 w' (M ++ L) := by
  obtain ⟨h1, Fs, h2, h3⟩ := h
  obtain ⟨g1, Gs, g2, g3⟩ := g
  have hlt : ∀ j, j < L.length → ∀ x ∈ Fs j, x < w.heap.size := by
    intro j hj x hx
    exact (L[j]).lt (h2 j L[j] (List.getElem?_eq_getElem hj)).1 x hx
  have hge : ∀ q, q < M.length → ∀ x ∈ Gs q, w.heap.size ≤ x := by
    intro q hq x hx
    exact ((g2 q _ (List.getElem?_eq_getElem hq)).2 x hx).resolve_left (by simp)
  refine ⟨h1.trans' g1 (by simp), fun j => if j < M.length then Gs j else Fs (j - M.length), ?_, ?_⟩
  · intro j d hd
    dsimp only
    by_cases hj : j < M.length
    · rw [if_pos hj]
      rw [List.getElem?_append_left hj] at hd
      have := g2 j d hd
      exact ⟨this.1, fun x hx => .inr (Nat.le_trans h1.1 (hge j hj x hx))⟩
    · rw [if_neg hj]
      rw [List.getElem?_append_right (by omega)] at hd
      exact ⟨d.fr (h2 _ d hd).1 g1 (by simp), (h2 _ d hd).2⟩
  · intro j k hj hk hjk x hx hx2
    dsimp only at hx hx2
    simp only [List.length_append] at hj hk
    by_cases ej : j < M.length
    · rw [if_pos ej] at hx
      by_cases ek : k < M.length
      · rw [if_pos ek] at hx2
        exact g3 j k ej ek hjk x hx hx2
      · rw [if_neg ek] at hx2
        have := hge j ej x hx
        have := hlt _ (by omega) x hx2
        omega
    · rw [if_neg ej] at hx
      by_cases ek : k < M.length
      · rw [if_pos ek] at hx2
        have := hge k ek x hx2
        have := hlt _ (by omega) x hx
        omega
      · rw [if_neg ek] at hx2
        exact h3 _ _ (by omega) (by omega) (by omega) x hx hx2
end Go.Proofs.Ytddbebhklmaeoaa.Vc
/- A piece of which only what it says is kept. -/
set_option linter.unusedVariables false
set_option linter.unusedSimpArgs false
namespace Go.Proofs.Ytddbebhklmaeoaa.Vc
open Go
/-- Some blocks that nobody else has, and what they say. -/
def Chunk.keep (p : World → Prop) : Chunk where
  holds w F := (∀ S w', Fr S w w' → (∀ x ∈ F, x ∉ S) → p w') ∧ ∀ x ∈ F, x < w.heap.size
  fr := by
    intro S w w' F h hf hS
    refine ⟨fun S2 w2 k hS2 => h.1 (S ++ S2) w2 ((hf.mono (by intro x hx; simp [hx])).trans (k.mono (by intro x hx; simp [hx]))) ?_, fun x hx => Nat.lt_of_lt_of_le (h.2 x hx) hf.1⟩
    intro x hx hm
    rcases List.mem_append.1 hm with h1 | h1
    · exact hS x hx h1
    · exact hS2 x hx h1
  lt := by intro w F h x hx; exact h.2 x hx
theorem Chunk.kept {c : Chunk} {p : World → Prop} (hp : ∀ F w, c.holds w F → p w) {w : World} {F : List Nat} (h : c.holds w F) : (Chunk.keep p).holds w F :=
  ⟨fun S w' k hS => hp F w' (c.fr h k hS), c.lt h⟩
theorem Chunk.keep_says {p : World → Prop} {w : World} {F : List Nat} (h : (Chunk.keep p).holds w F) : p w := h.1 [] w (Fr.refl _ _) (by simp)
theorem St.keep {S : List Nat} {w0 w : World} {L : List Chunk} (h : St S w0 w L) (i : Nat) {c : Chunk} (hi : L[i]? = some c) (p : World → Prop) (hp : ∀ F w, c.holds w F → p w) : St S w0 w (L.set i (Chunk.keep p)) :=
  h.as i hi _ fun F hF => Chunk.kept hp hF
theorem St.says {S : List Nat} {w0 w : World} {L : List Chunk} (h : St S w0 w L) (i : Nat) {p : World → Prop} (hi : L[i]? = some (Chunk.keep p)) : p w := by
  obtain ⟨F, hF, _⟩ := h.at i hi
  exact Chunk.keep_says hF
end Go.Proofs.Ytddbebhklmaeoaa.Vc
/- Page: the hash, as the program and as the document write it: one number. -/
set_option linter.unusedVariables false
set_option linter.unusedSimpArgs false
namespace Go.Proofs.Ytddbebhklmaeoaa.Vc
open Go
namespace PG
end PG
end Go.Proofs.Ytddbebhklmaeoaa.Vc
/- Page: words of a page, searched: the plain laws. -/
set_option linter.unusedVariables false
set_option linter.unusedSimpArgs false
set_option maxRecDepth 100000
namespace Go.Proofs.Ytddbebhklmaeoaa.Vc
open Go
namespace PG
theorem wr (n : Int) : IntKind.wrap .i64 n = (n + 9223372036854775808) % 18446744073709551616 - 9223372036854775808 := by
  show (if (decide (n % 18446744073709551616 ≥ 9223372036854775808)) = true then n % 18446744073709551616 - 18446744073709551616 else n % 18446744073709551616) = _
  simp only [decide_eq_true_eq]
  split <;> omega
/-- A power of two from 2 to 4096. -/
def powB (t : Int) : Bool := [2, 4, 8, 16, 32, 64, 128, 256, 512, 1024, 2048, 4096].any (fun p => decide (p = t))
/-- How many places a page's table has. -/
def tabP (W : List Int) : Int := if W.length < 4 then 0 else if powB (W.getD 1 0) = true ∧ 4 + 2 * W.getD 1 0 ≤ W.length then W.getD 1 0 else 0
end PG
end Go.Proofs.Ytddbebhklmaeoaa.Vc
/- Page: graphs as plain lists; when they are valid. -/
set_option linter.unusedVariables false
set_option linter.unusedSimpArgs false
set_option maxRecDepth 10000
namespace Go.Proofs.Ytddbebhklmaeoaa.Vc
open Go
namespace PG
abbrev Gd := List ByteArray × List ByteArray × List ByteArray × List Int × List Int × List (List Int) × Unit
def gA (g : Gd) : List ByteArray := g.1
def gS (g : Gd) : List ByteArray := g.2.1
def gF (g : Gd) : List Int := g.2.2.2.1
def gN (g : Gd) : List Int := g.2.2.2.2.1
def gM (g : Gd) : List (List Int) := g.2.2.2.2.2.1
theorem drop_cons {α : Type} (d : α) (l : List α) (i : Nat) (hi : i < l.length) : l.drop i = l.getD i d :: l.drop (i + 1) := by
  rw [List.drop_eq_getElem_cons hi]; simp [List.getD_eq_getElem?_getD, hi]
theorem mem_getD {α : Type} (d : α) (l : List α) (x : α) : x ∈ l ↔ ∃ i, i < l.length ∧ l.getD i d = x := by
  rw [List.mem_iff_getElem]
  constructor
  · rintro ⟨i, hi, rfl⟩; exact ⟨i, hi, by simp [List.getD_eq_getElem?_getD, hi]⟩
  · rintro ⟨i, hi, h⟩; exact ⟨i, hi, by simpa [List.getD_eq_getElem?_getD, hi] using h⟩
/-- The first place of a thing; -1: it has none. -/
def idxI {α : Type} [DecidableEq α] (l : List α) (s : α) : Int := match l.findIdx? (fun x => decide (x = s)) with | some j => (j : Int) | none => -1
theorem idxI_some {α : Type} [DecidableEq α] (d : α) {l : List α} {s : α} {j : Nat} (hj : j < l.length) (hno : ∀ q, q < j → l.getD q d ≠ s) (h : l.getD j d = s) : idxI l s = (j : Int) := by
  have : l.findIdx? (fun x => decide (x = s)) = some j := by
    rw [List.findIdx?_eq_some_iff_getElem]
    refine ⟨hj, ?_, fun q hq => ?_⟩
    · rw [List.getD_eq_getElem?_getD, List.getElem?_eq_getElem hj] at h
      simpa using h
    · have := hno q hq
      rw [List.getD_eq_getElem?_getD, List.getElem?_eq_getElem (by omega)] at this
      simpa using this
  unfold idxI
  rw [this]
theorem idxI_none {α : Type} [DecidableEq α] (d : α) {l : List α} {s : α} (hno : ∀ q, q < l.length → l.getD q d ≠ s) : idxI l s = -1 := by
  have : l.findIdx? (fun x => decide (x = s)) = none := by
    rw [List.findIdx?_eq_none_iff]
    intro x hx
    obtain ⟨q, hq, rfl⟩ := List.mem_iff_getElem.1 hx
    have := hno q hq
    rw [List.getD_eq_getElem?_getD, List.getElem?_eq_getElem hq] at this
    simpa using this
  unfold idxI
  rw [this]
/-- Does a list have a thing? -/
def memB {α : Type} [DecidableEq α] (l : List α) (s : α) : Bool := l.any fun x => decide (x = s)
theorem memB_iff {α : Type} [DecidableEq α] (l : List α) (s : α) : memB l s = true ↔ s ∈ l := by
  unfold memB
  rw [List.any_eq_true]
  constructor
  · rintro ⟨x, hx, he⟩
    have : x = s := by simpa using he
    rw [← this]; exact hx
  · intro h; exact ⟨s, h, by simp⟩
theorem idxI_mem {α : Type} [DecidableEq α] (l : List α) (s : α) : decide (0 ≤ idxI l s) = memB l s := by
  rw [Bool.eq_iff_iff, memB_iff, decide_eq_true_iff]
  unfold idxI
  cases h : l.findIdx? (fun x => decide (x = s)) with
  | none =>
    rw [List.findIdx?_eq_none_iff] at h
    have : s ∉ l := fun hs => by have := h s hs; simp at this
    simp [this]
  | some j =>
    obtain ⟨hj, he, _⟩ := List.findIdx?_eq_some_iff_getElem.mp h
    have hs : s ∈ l := by
      have : l[j] = s := by simpa using he
      rw [← this]; exact List.getElem_mem hj
    simp [hs]
end PG
end Go.Proofs.Ytddbebhklmaeoaa.Vc
/- What is read, of any type, told of its cells (for walks). -/
set_option linter.unusedVariables false
set_option linter.unusedSimpArgs false
namespace Go.Proofs.Ytddbebhklmaeoaa.Vc
open Go
/-- A slice's three parts. -/
abbrev Sl := Option Addr × Nat × Nat
abbrev Sl.v (x : Sl) : Value := .slice x.1 x.2.1 x.2.2
/-- The values cs (and what they lead to) are d. -/
def Rd (w : World) : (t : Ty) → List Value → Den t → Prop
  | .int k, cs, n => cs = [.int k n] ∧ (Lit.int k n).wf = true
  | .bool, cs, b => cs = [.bool b]
  | .str, cs, s => cs = [.string s]
  | .flt k, cs, n => cs = [.float k n]
  | .unit, cs, _ => cs = []
  | .pair a b, cs, d => ∃ c1 c2, cs = c1 ++ c2 ∧ Rd w a c1 d.1 ∧ Rd w b c2 d.2
  | .sl e, cs, l => ∃ x : Sl, cs = [x.v] ∧ x.2.1 = l.length ∧ x.2.1 ≤ x.2.2 ∧ (0 < x.2.1 → ∃ b o, x.1 = some ⟨b, o, none⟩ ∧
      ∀ q, q < x.2.1 → ∃ es, Rd w e es (l.getD q (Den.dflt e)) ∧ ∀ j v, es[j]? = some v → w.cell? ⟨b, o + q * e.w + j, none⟩ = some v)
/-- A list that is read. -/
def RdL (e : Ty) (w : World) (x : Sl) (l : List (Den e)) : Prop := x.2.1 = l.length ∧ x.2.1 ≤ x.2.2 ∧ (0 < x.2.1 → ∃ b o, x.1 = some ⟨b, o, none⟩ ∧
  ∀ q, q < x.2.1 → ∃ es, Rd w e es (l.getD q (Den.dflt e)) ∧ ∀ j v, es[j]? = some v → w.cell? ⟨b, o + q * e.w + j, none⟩ = some v)
theorem rd_sl {e : Ty} {w : World} {cs : List Value} {l : List (Den e)} : Rd w (.sl e) cs l ↔ ∃ x : Sl, cs = [x.v] ∧ RdL e w x l := Iff.rfl
theorem Rd.len {w : World} : ∀ {t : Ty} {cs : List Value} {d : Den t}, Rd w t cs d → cs.length = t.w
  | .int k, _, _, h => by rw [h.1]; rfl
  | .bool, _, _, h => by rw [show _ = [_] from h]; rfl
  | .str, _, _, h => by rw [show _ = [_] from h]; rfl
  | .flt k, _, _, h => by rw [show _ = [_] from h]; rfl
  | .unit, _, _, h => by rw [show _ = [] from h]; rfl
  | .pair a b, _, _, h => by
    obtain ⟨c1, c2, rfl, h1, h2⟩ := h
    rw [List.length_append, h1.len, h2.len]; rfl
  | .sl e, _, _, h => by
    obtain ⟨x, rfl, _⟩ := h
    rfl
theorem Rd.fr {w w' : World} (hf : Fr [] w w') : ∀ {t : Ty} {cs : List Value} {d : Den t}, Rd w t cs d → Rd w' t cs d
  | .int k, _, _, h => h
  | .bool, _, _, h => h
  | .str, _, _, h => h
  | .flt k, _, _, h => h
  | .unit, _, _, h => h
  | .pair a b, _, _, h => by
    obtain ⟨c1, c2, rfl, h1, h2⟩ := h
    exact ⟨c1, c2, rfl, h1.fr hf, h2.fr hf⟩
  | .sl e, _, _, h => by
    obtain ⟨x, rfl, h1, h2, h3⟩ := h
    refine ⟨x, rfl, h1, h2, fun hp => ?_⟩
    obtain ⟨b, o, hx, h4⟩ := h3 hp
    refine ⟨b, o, hx, fun q hq => ?_⟩
    obtain ⟨es, h5, h6⟩ := h4 q hq
    exact ⟨es, h5.fr hf, fun j v hv => hf.cell (h6 j v hv)⟩
theorem RdL.fr {w w' : World} {e : Ty} {x : Sl} {l : List (Den e)} (h : RdL e w x l) (hf : Fr [] w w') : RdL e w' x l := by
  obtain ⟨y, hy, h⟩ := Rd.fr hf (t := .sl e) (rd_sl.2 ⟨x, rfl, h⟩)
  simp only [List.cons.injEq, Value.slice.injEq, and_true] at hy
  obtain ⟨h1, h2, h3⟩ := hy
  have : x = y := Prod.ext h1 (Prod.ext h2 h3)
  subst this
  exact h
theorem In.rd {w : World} : ∀ {t : Ty} {cs : List Value} {d : Den t} {F : List Nat}, In w t cs d F → Rd w t cs d
  | .int k, _, _, _, h => ⟨h.1, h.2.1⟩
  | .bool, _, _, _, h => h.1
  | .str, _, _, _, h => h.1
  | .flt k, _, _, _, h => h.1
  | .unit, _, _, _, h => h.1
  | .pair a b, _, _, _, h => by
    obtain ⟨c1, c2, F1, F2, rfl, rfl, h1, h2, h3⟩ := h
    exact ⟨c1, c2, rfl, h2.rd, h3.rd⟩
  | .sl e, _, _, _, h => by
    obtain ⟨A, n, c, rfl, hn, hc, hA, h⟩ := h
    refine ⟨(A, n, c), rfl, hn, hc, fun hp => ?_⟩
    rcases h with ⟨h, _⟩ | ⟨b, o, Fs, rfl, rfl, hl, h⟩
    · subst h; exact absurd hp (by simp)
    · refine ⟨b, o, rfl, fun q hq => ?_⟩
      have hq' := hq
      rw [show (some (⟨b, o, none⟩ : Addr), n, c).2.1 = n from rfl, hn] at hq'
      obtain ⟨es, e1, e2, e3⟩ := h q hq'
      refine ⟨es, ?_, fun j v hv => ?_⟩
      · rw [List.getD_eq_getElem?_getD, List.getElem?_eq_getElem hq']
        exact e3.rd
      · have hj : j < e.w := by
          have := (List.getElem?_eq_some_iff.1 hv).1
          omega
        rw [e2 j hj]; exact hv
theorem Rd.flat {w : World} : ∀ {t : Ty} {cs : List Value} {d : Den t}, flatB t = true → Rd w t cs d → cs = flatV t d
  | .int k, _, _, _, h => h.1
  | .bool, _, _, _, h => h
  | .str, _, _, _, h => h
  | .flt k, _, _, _, h => h
  | .unit, _, _, _, h => h
  | .pair a b, _, _, hb, h => by
    obtain ⟨c1, c2, rfl, h1, h2⟩ := h
    have hb : (flatB a && flatB b) = true := hb
    rw [Bool.and_eq_true] at hb
    rw [h1.flat hb.1, h2.flat hb.2]; rfl
/-- Are the numbers of a record numbers? -/
def fineB : (t : Ty) → Den t → Bool
  | .int k, n => (Lit.int k n).wf
  | .pair a b, d => fineB a d.1 && fineB b d.2
  | _, _ => true
theorem Rd.ofFlat {w : World} : ∀ {t : Ty} {d : Den t}, flatB t = true → fineB t d = true → Rd w t (flatV t d) d
  | .int k, _, _, h => ⟨rfl, h⟩
  | .bool, _, _, _ => rfl
  | .str, _, _, _ => rfl
  | .flt k, _, _, _ => rfl
  | .unit, _, _, _ => rfl
  | .pair a b, _, hb, hf => by
    have hb : (flatB a && flatB b) = true := hb
    have hf : (fineB a _ && fineB b _) = true := hf
    rw [Bool.and_eq_true] at hb hf
    exact ⟨_, _, rfl, Rd.ofFlat hb.1 hf.1, Rd.ofFlat hb.2 hf.2⟩
  | .sl _, _, hb, _ => by cases hb
theorem Rd.fine {w : World} : ∀ {t : Ty} {cs : List Value} {d : Den t}, Rd w t cs d → fineB t d = true
  | .int k, _, _, h => h.2
  | .bool, _, _, _ => rfl
  | .str, _, _, _ => rfl
  | .flt k, _, _, _ => rfl
  | .unit, _, _, _ => rfl
  | .pair a b, _, _, h => by
    obtain ⟨c1, c2, rfl, h1, h2⟩ := h
    show (fineB a _ && fineB b _) = true
    rw [h1.fine, h2.fine]; rfl
  | .sl _, _, _, _ => rfl
section
variable {w : World} {e : Ty} {x : Sl} {l : List (Den e)}
/-- An element of a list of plain records. -/
theorem RdL.flat (hb : flatB e = true) (h : RdL e w x l) (hp : 0 < x.2.1) : ∃ b o, x.1 = some ⟨b, o, none⟩ ∧ ∀ q, q < x.2.1 → ∀ j v, (flatV e (l.getD q (Den.dflt e)))[j]? = some v → w.cell? ⟨b, o + q * e.w + j, none⟩ = some v := by
  obtain ⟨b, o, h1, h2⟩ := h.2.2 hp
  refine ⟨b, o, h1, fun q hq j v hv => ?_⟩
  obtain ⟨es, h3, h4⟩ := h2 q hq
  rw [← h3.flat hb] at hv
  exact h4 j v hv
theorem RdL.fine (h : RdL e w x l) : ∀ d ∈ l, fineB e d = true := by
  intro d hd
  obtain ⟨q, hq, rfl⟩ := List.mem_iff_getElem.1 hd
  have h1 := h.1
  obtain ⟨b, o, _, h2⟩ := h.2.2 (by omega)
  obtain ⟨es, h3, _⟩ := h2 q (by omega)
  have := h3.fine
  rwa [List.getD_eq_getElem?_getD, List.getElem?_eq_getElem hq] at this
theorem RdL.nil (c : Nat) (A : Option Addr) : RdL e w (A, 0, c) [] := ⟨rfl, Nat.zero_le _, fun h => absurd h (by simp)⟩
end
/-! ### The types of policies -/
abbrev pairT : Ty := .pair .str (.pair .str .unit)
abbrev subjT : Ty := .pair .str (.pair (.flt .f64) .unit)
abbrev ruleT : Ty := .pair .bool (.pair .str (.pair .str (.pair (.sl .str) (.pair (.int .i8) (.pair (.flt .f64) .unit)))))
abbrev triT : Ty := .pair .str (.pair .str (.pair .str .unit))
abbrev polT : Ty := .pair (.sl .str) (.pair (.sl subjT) (.pair (.sl .str) (.pair (.sl .str) (.pair (.sl .str) (.pair (.sl pairT) (.pair (.sl pairT) (.pair (.sl pairT) (.pair (.sl pairT) (.pair (.sl ruleT) (.pair (.sl triT) .unit))))))))))
abbrev calT : Ty := .pair (.int .i64) (.pair (.int .i64) (.pair .bool (.pair .bool (.pair .bool (.pair polT (.pair triT .unit))))))
/-- A rule's cells. -/
abbrev ruleV (r : Den ruleT) (u : Sl) : List Value := [.bool r.1, .string r.2.1, .string r.2.2.1, u.v, .int .i8 r.2.2.2.2.1, .float .f64 r.2.2.2.2.2.1]
theorem rd_rule {w : World} {cs : List Value} {r : Den ruleT} : Rd w ruleT cs r ↔ ∃ u : Sl, cs = ruleV r u ∧ RdL .str w u r.2.2.2.1 ∧ (Lit.int .i8 r.2.2.2.2.1).wf = true := by
  constructor
  · rintro ⟨c1, _, rfl, h1, c2, _, rfl, h2, c3, _, rfl, h3, c4, _, rfl, h4, c5, _, rfl, h5, c6, _, rfl, h6, h7⟩
    obtain ⟨u, rfl, k4⟩ := rd_sl.1 h4
    obtain ⟨rfl, k5⟩ := h5
    subst h1 h2 h3 h6 h7
    exact ⟨u, rfl, k4, k5⟩
  · rintro ⟨u, rfl, h1, h2⟩
    exact ⟨[.bool r.1], _, rfl, rfl, [.string r.2.1], _, rfl, rfl, [.string r.2.2.1], _, rfl, rfl, [u.v], _, rfl, rd_sl.2 ⟨u, rfl, h1⟩, [.int .i8 r.2.2.2.2.1], _, rfl, ⟨rfl, h2⟩, [.float .f64 r.2.2.2.2.2.1], [], rfl, rfl, rfl⟩
/-- A policy's slices. -/
structure PV where
  a : Sl
  s : Sl
  r : Sl
  o : Sl
  g : Sl
  m : Sl
  i : Sl
  q : Sl
  t : Sl
  u : Sl
  e : Sl
abbrev PV.l (v : PV) : List Value := [v.a.v, v.s.v, v.r.v, v.o.v, v.g.v, v.m.v, v.i.v, v.q.v, v.t.v, v.u.v, v.e.v]
abbrev PV.cells (v : PV) : Array Value := #[v.a.v, v.s.v, v.r.v, v.o.v, v.g.v, v.m.v, v.i.v, v.q.v, v.t.v, v.u.v, v.e.v]
abbrev PV.v (v : PV) : Value := .agg v.cells
/-- A policy that is read. -/
structure InP (w : World) (v : PV) (p : Den polT) : Prop where
  a : RdL .str w v.a p.1
  s : RdL subjT w v.s p.2.1
  r : RdL .str w v.r p.2.2.1
  o : RdL .str w v.o p.2.2.2.1
  g : RdL .str w v.g p.2.2.2.2.1
  m : RdL pairT w v.m p.2.2.2.2.2.1
  i : RdL pairT w v.i p.2.2.2.2.2.2.1
  q : RdL pairT w v.q p.2.2.2.2.2.2.2.1
  t : RdL pairT w v.t p.2.2.2.2.2.2.2.2.1
  u : RdL ruleT w v.u p.2.2.2.2.2.2.2.2.2.1
  e : RdL triT w v.e p.2.2.2.2.2.2.2.2.2.2.1
theorem InP.fr {w w' : World} {v : PV} {p : Den polT} (h : InP w v p) (hf : Fr [] w w') : InP w' v p :=
  ⟨h.a.fr hf, h.s.fr hf, h.r.fr hf, h.o.fr hf, h.g.fr hf, h.m.fr hf, h.i.fr hf, h.q.fr hf, h.t.fr hf, h.u.fr hf, h.e.fr hf⟩
theorem rd_pol {w : World} {cs : List Value} {p : Den polT} : Rd w polT cs p ↔ ∃ v : PV, cs = v.l ∧ InP w v p := by
  constructor
  · rintro ⟨c1, _, rfl, h1, c2, _, rfl, h2, c3, _, rfl, h3, c4, _, rfl, h4, c5, _, rfl, h5, c6, _, rfl, h6, c7, _, rfl, h7, c8, _, rfl, h8, c9, _, rfl, h9, c10, _, rfl, h10, c11, _, rfl, h11, h12⟩
    obtain ⟨x1, rfl, k1⟩ := rd_sl.1 h1
    obtain ⟨x2, rfl, k2⟩ := rd_sl.1 h2
    obtain ⟨x3, rfl, k3⟩ := rd_sl.1 h3
    obtain ⟨x4, rfl, k4⟩ := rd_sl.1 h4
    obtain ⟨x5, rfl, k5⟩ := rd_sl.1 h5
    obtain ⟨x6, rfl, k6⟩ := rd_sl.1 h6
    obtain ⟨x7, rfl, k7⟩ := rd_sl.1 h7
    obtain ⟨x8, rfl, k8⟩ := rd_sl.1 h8
    obtain ⟨x9, rfl, k9⟩ := rd_sl.1 h9
    obtain ⟨x10, rfl, k10⟩ := rd_sl.1 h10
    obtain ⟨x11, rfl, k11⟩ := rd_sl.1 h11
    subst h12
    exact ⟨⟨x1, x2, x3, x4, x5, x6, x7, x8, x9, x10, x11⟩, rfl, ⟨k1, k2, k3, k4, k5, k6, k7, k8, k9, k10, k11⟩⟩
  · rintro ⟨v, rfl, h⟩
    exact ⟨[v.a.v], _, rfl, rd_sl.2 ⟨_, rfl, h.a⟩, [v.s.v], _, rfl, rd_sl.2 ⟨_, rfl, h.s⟩, [v.r.v], _, rfl, rd_sl.2 ⟨_, rfl, h.r⟩, [v.o.v], _, rfl, rd_sl.2 ⟨_, rfl, h.o⟩, [v.g.v], _, rfl, rd_sl.2 ⟨_, rfl, h.g⟩,
      [v.m.v], _, rfl, rd_sl.2 ⟨_, rfl, h.m⟩, [v.i.v], _, rfl, rd_sl.2 ⟨_, rfl, h.i⟩, [v.q.v], _, rfl, rd_sl.2 ⟨_, rfl, h.q⟩, [v.t.v], _, rfl, rd_sl.2 ⟨_, rfl, h.t⟩, [v.u.v], _, rfl, rd_sl.2 ⟨_, rfl, h.u⟩, [v.e.v], [], rfl, rd_sl.2 ⟨_, rfl, h.e⟩, rfl⟩
/-- A call's cells. -/
abbrev calV (c : Den calT) (v : PV) : List Value := [.int .i64 c.1, .int .i64 c.2.1, .bool c.2.2.1, .bool c.2.2.2.1, .bool c.2.2.2.2.1, v.a.v, v.s.v, v.r.v, v.o.v, v.g.v, v.m.v, v.i.v, v.q.v, v.t.v, v.u.v, v.e.v,
  .string c.2.2.2.2.2.2.1.1, .string c.2.2.2.2.2.2.1.2.1, .string c.2.2.2.2.2.2.1.2.2.1]
theorem rd_call {w : World} {cs : List Value} {c : Den calT} : Rd w calT cs c ↔ ∃ v : PV, cs = calV c v ∧ InP w v c.2.2.2.2.2.1 ∧ (Lit.int .i64 c.1).wf = true ∧ (Lit.int .i64 c.2.1).wf = true := by
  constructor
  · rintro ⟨c1, _, rfl, h1, c2, _, rfl, h2, c3, _, rfl, h3, c4, _, rfl, h4, c5, _, rfl, h5, c6, _, rfl, h6, c7, _, rfl, h7, h8⟩
    obtain ⟨v, rfl, k6⟩ := rd_pol.1 h6
    obtain ⟨rfl, k1⟩ := h1
    obtain ⟨rfl, k2⟩ := h2
    subst h3 h4 h5 h8
    obtain rfl := h7.flat (t := triT) rfl
    exact ⟨v, rfl, k6, k1, k2⟩
  · rintro ⟨v, rfl, h1, h2, h3⟩
    exact ⟨[.int .i64 c.1], _, rfl, ⟨rfl, h2⟩, [.int .i64 c.2.1], _, rfl, ⟨rfl, h3⟩, [.bool c.2.2.1], _, rfl, rfl, [.bool c.2.2.2.1], _, rfl, rfl, [.bool c.2.2.2.2.1], _, rfl, rfl, v.l, _, rfl, rd_pol.2 ⟨v, rfl, h1⟩, flatV triT c.2.2.2.2.2.2.1, [], rfl, Rd.ofFlat rfl rfl, rfl⟩
end Go.Proofs.Ytddbebhklmaeoaa.Vc
/- What a policy allows (plain law): who is reached along pairs, which rules speak, what is allowed. -/
namespace Go.Proofs.Ytddbebhklmaeoaa.JD
abbrev PairD := ByteArray × ByteArray × Unit
abbrev SubjD := ByteArray × Nat × Unit
abbrev RuleD := Bool × ByteArray × ByteArray × List ByteArray × Int × Nat × Unit
abbrev TriD := ByteArray × ByteArray × ByteArray × Unit
abbrev PolD := List ByteArray × List SubjD × List ByteArray × List ByteArray × List ByteArray × List PairD × List PairD × List PairD × List PairD × List RuleD × List TriD × Unit
abbrev pAct (p : PolD) : List ByteArray := p.1
abbrev pSub (p : PolD) : List SubjD := p.2.1
abbrev pRol (p : PolD) : List ByteArray := p.2.2.1
abbrev pObj (p : PolD) : List ByteArray := p.2.2.2.1
abbrev pGrp (p : PolD) : List ByteArray := p.2.2.2.2.1
abbrev pMem (p : PolD) : List PairD := p.2.2.2.2.2.1
abbrev pInh (p : PolD) : List PairD := p.2.2.2.2.2.2.1
abbrev pPar (p : PolD) : List PairD := p.2.2.2.2.2.2.2.1
abbrev pWit (p : PolD) : List PairD := p.2.2.2.2.2.2.2.2.1
abbrev pRul (p : PolD) : List RuleD := p.2.2.2.2.2.2.2.2.2.1
abbrev pExc (p : PolD) : List TriD := p.2.2.2.2.2.2.2.2.2.2.1
abbrev rDeny (r : RuleD) : Bool := r.1
abbrev rWho (r : RuleD) : ByteArray := r.2.1
abbrev rWhat (r : RuleD) : ByteArray := r.2.2.1
abbrev rActs (r : RuleD) : List ByteArray := r.2.2.2.1
abbrev rCond (r : RuleD) : Int := r.2.2.2.2.1
abbrev rLev (r : RuleD) : Nat := r.2.2.2.2.2.1

/-- What is reached from a name along pairs. -/
inductive Rch (E : List PairD) (s : ByteArray) : ByteArray → Prop
  | refl : Rch E s s
  | step {x : ByteArray} (q : PairD) : Rch E s x → q ∈ E → q.1 = x → Rch E s q.2.1
/-- A list that holds just what is reached. -/
def IsUps (E : List PairD) (s : ByteArray) (l : List ByteArray) : Prop := ∀ x, x ∈ l ↔ Rch E s x
theorem isUps_of {E : List PairD} {s : ByteArray} {l : List ByteArray} (h0 : s ∈ l) (h1 : ∀ x ∈ l, Rch E s x) (h2 : ∀ q ∈ E, q.1 ∈ l → q.2.1 ∈ l) : IsUps E s l := by
  intro x
  refine ⟨h1 x, fun h => ?_⟩
  induction h with
  | refl => exact h0
  | step q _ hq e ih => exact h2 q hq (by rw [e]; exact ih)
/-- The first subject of a name: its trust. -/
def trustOf : List SubjD → ByteArray → Option Nat
  | [], _ => none
  | x :: l, s => if x.1 = s then some x.2.1 else trustOf l s
section
variable (ge lt : Nat → Nat → Bool)
/-- A rule's condition. -/
def passP (r : RuleD) (trust : Nat) : Bool := decide (rCond r = 0) || (decide (rCond r = 1) && ge trust (rLev r)) || (decide (rCond r = 2) && lt trust (rLev r))
/-- A rule speaks of a subject and an object. -/
def Speaks (p : PolD) (r : RuleD) (s o : ByteArray) (trust : Nat) : Prop := Rch (pMem p ++ pInh p) s (rWho r) ∧ Rch (pPar p ++ pWit p) o (rWhat r) ∧ passP ge lt r trust = true
def Named (r : RuleD) (a : ByteArray) : Prop := rActs r = [] ∨ a ∈ rActs r
/-- What rules that speak say of an action. -/
def May (p : PolD) (s o a : ByteArray) (trust : Nat) : Prop :=
  (∃ r ∈ pRul p, Speaks ge lt p r s o trust ∧ Named r a) ∧ (∀ r ∈ pRul p, Speaks ge lt p r s o trust → Named r a → rDeny r = false) ∧ ((s, o, a, ()) : TriD) ∉ pExc p
def AllowsP (p : PolD) (t : TriD) : Prop :=
  ∃ trust, trustOf (pSub p) t.1 = some trust ∧ t.2.1 ∈ pObj p ∧ t.2.2.1 ∈ pAct p ∧ May ge lt p t.1 t.2.1 t.2.2.1 trust
open Classical in
noncomputable def allowsB (p : PolD) (t : TriD) : Bool := decide (AllowsP ge lt p t)
theorem allowsB_iff (p : PolD) (t : TriD) : allowsB ge lt p t = true ↔ AllowsP ge lt p t := by
  classical
  unfold allowsB
  simp
end
section
variable (ge lt : Nat → Nat → Bool)
end
end Go.Proofs.Ytddbebhklmaeoaa.JD
