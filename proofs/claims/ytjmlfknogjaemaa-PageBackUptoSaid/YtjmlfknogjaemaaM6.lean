/- What a stretch of work owns, piece by piece: pieces of memory that do not touch one another. -/
import Derived.Test.YtjmlfknogjaemaaM5
import Derived.Test.YtjmlfknogjaemaaRows
import Derived.OpenShut
import Derived.ChangeArms
import Derived.ChangeSlices
import Derived.Deep.Slices
import Derived.Laws.Cover2
set_option linter.unusedVariables false
set_option linter.unusedSimpArgs false
namespace Go.Proofs.Ytjmlfknogjaemaa.Vc
open Go

/-- A piece of memory: what holds, with its blocks. -/
structure Chunk where
  holds : World → List Nat → Prop
  fr : ∀ {S w w' F}, holds w F → Fr S w w' → (∀ x ∈ F, x ∉ S) → holds w' F
  lt : ∀ {w F}, holds w F → ∀ x ∈ F, x < w.heap.size

/-- From w0 on only what S names was touched, of what was there; the pieces of L are owned, each apart from the others. -/
def St (S : List Nat) (w0 w : World) (L : List Chunk) : Prop :=
  Fr S w0 w ∧ ∃ Fs : Nat → List Nat, (∀ i c, L[i]? = some c → c.holds w (Fs i) ∧ ∀ x ∈ Fs i, x ∈ S ∨ w0.heap.size ≤ x) ∧
    ∀ i j, i < L.length → j < L.length → i ≠ j → ∀ x ∈ Fs i, x ∉ Fs j

section
variable {S : List Nat} {w0 w w' : World} {L : List Chunk}
theorem St.frame (h : St S w0 w L) : Fr S w0 w := h.1
theorem St.start (w : World) : St [] w w [] := ⟨Fr.refl _ _, fun _ => [], by simp, by simp⟩
theorem St.start1 {c : Chunk} {F : List Nat} (h : c.holds w F) : St F w w [c] := by
  refine ⟨Fr.refl _ _, fun _ => F, ?_, ?_⟩
  · intro i d hd
    cases i with
    | zero => simp at hd; subst hd; exact ⟨h, fun x hx => .inl hx⟩
    | succ i => simp at hd
  · intro i j hi hj hij
    simp at hi hj; omega
theorem St.start2 {c d : Chunk} {F G : List Nat} (h : c.holds w F) (k : d.holds w G) (hd : ∀ x ∈ F, x ∉ G) : St (F ++ G) w w [c, d] := by
  refine ⟨Fr.refl _ _, fun i => if i = 0 then F else G, ?_, ?_⟩
  · intro i e he
    match i with
    | 0 => simp at he; subst he; exact ⟨h, fun x hx => .inl (by simp at hx; simp [hx])⟩
    | 1 => simp at he; subst he; exact ⟨k, fun x hx => .inl (by simp at hx; simp [hx])⟩
    | i + 2 => simp at he
  · intro i j hi hj hij x hx hx2
    simp only [List.length_cons, List.length_nil] at hi hj
    rcases (show i = 0 ∨ i = 1 by omega) with rfl | rfl <;> rcases (show j = 0 ∨ j = 1 by omega) with rfl | rfl <;> simp at hij hx hx2
    · exact hd x hx hx2
    · exact hd x hx2 hx
/-- Work that touches nothing that was there. -/
theorem St.go (h : St S w0 w L) (hf : Fr [] w w') : St S w0 w' L := by
  obtain ⟨h1, Fs, h2, h3⟩ := h
  exact ⟨h1.trans' hf (by simp), Fs, fun i c hc => ⟨c.fr (h2 i c hc).1 hf (by simp), (h2 i c hc).2⟩, h3⟩
theorem St.drew (h : St S w0 w L) : St S w0 w.drew L := h.go (Fr.refl [] w).drew
/-- A piece more, all new. -/
theorem St.new (h : St S w0 w L) {c : Chunk} {F : List Nat} (hf : Fr [] w w') (hc : c.holds w' F) (hF : ∀ x ∈ F, w.heap.size ≤ x) : St S w0 w' (c :: L) := by
  obtain ⟨h1, Fs, h2, h3⟩ := h
  have hlt : ∀ i, i < L.length → ∀ x ∈ Fs i, x < w.heap.size := by
    intro i hi x hx
    exact (L[i]).lt (h2 i L[i] (List.getElem?_eq_getElem hi)).1 x hx
  refine ⟨h1.trans' hf (by simp), fun i => match i with | 0 => F | i + 1 => Fs i, ?_, ?_⟩
  · intro i d hd
    cases i with
    | zero => simp at hd; subst hd; exact ⟨hc, fun x hx => .inr (Nat.le_trans h1.1 (hF x hx))⟩
    | succ i => simp at hd; exact ⟨d.fr (h2 i d hd).1 hf (by simp), (h2 i d hd).2⟩
  · intro i j hi hj hij x hx hx2
    cases i with
    | zero =>
      cases j with
      | zero => exact hij rfl
      | succ j => have := hF x hx; have := hlt j (by simpa using hj) x hx2; omega
    | succ i =>
      cases j with
      | zero => have := hF x hx2; have := hlt i (by simpa using hi) x hx; omega
      | succ j => exact h3 i j (by simpa using hi) (by simpa using hj) (by omega) x hx hx2
/-- A piece is looked at, or worked on. -/
theorem St.at (h : St S w0 w L) (i : Nat) {c : Chunk} (hi : L[i]? = some c) : ∃ F, c.holds w F ∧ (∀ x ∈ F, x ∈ S ∨ w0.heap.size ≤ x) ∧
    ∀ {w' : World} {c' : Chunk} {F' : List Nat}, Fr F w w' → c'.holds w' F' → (∀ x ∈ F', x ∈ F ∨ w.heap.size ≤ x) → St S w0 w' (L.set i c') := by
  obtain ⟨h1, Fs, h2, h3⟩ := h
  have hil : i < L.length := by
    rcases Nat.lt_or_ge i L.length with h | h
    · exact h
    · rw [List.getElem?_eq_none h] at hi; cases hi
  have hlt : ∀ i, i < L.length → ∀ x ∈ Fs i, x < w.heap.size := by
    intro i hi x hx
    exact (L[i]).lt (h2 i L[i] (List.getElem?_eq_getElem hi)).1 x hx
  refine ⟨Fs i, (h2 i c hi).1, (h2 i c hi).2, ?_⟩
  intro w' c' F' hf hc' hF'
  refine ⟨h1.trans' hf (fun x hx hlt => ((h2 i c hi).2 x hx).resolve_right (by omega)), fun j => if j = i then F' else Fs j, ?_, ?_⟩
  · intro j d hd
    dsimp only
    by_cases hj : j = i
    · subst hj
      rw [List.getElem?_set_self hil] at hd
      injection hd with hd
      subst hd
      rw [if_pos rfl]
      exact ⟨hc', fun x hx => (hF' x hx).elim (fun k => (h2 j c hi).2 x k) (fun k => .inr (Nat.le_trans h1.1 k))⟩
    · rw [List.getElem?_set_ne (Ne.symm hj)] at hd
      rw [if_neg hj]
      have hjl : j < L.length := by
        rcases Nat.lt_or_ge j L.length with h | h
        · exact h
        · rw [List.getElem?_eq_none h] at hd; cases hd
      exact ⟨d.fr (h2 j d hd).1 hf (fun x hx hx2 => h3 j i hjl hil hj x hx hx2), (h2 j d hd).2⟩
  · intro j k hj hk hjk x hx hx2
    dsimp only at hx hx2
    simp only [List.length_set] at hj hk
    by_cases ej : j = i
    · have ek : k ≠ i := fun e => hjk (ej.trans e.symm)
      rw [if_pos ej] at hx
      rw [if_neg ek] at hx2
      rcases hF' x hx with h | h
      · exact h3 k i hk hil ek x hx2 h
      · have := hlt k hk x hx2; omega
    · rw [if_neg ej] at hx
      by_cases ek : k = i
      · rw [if_pos ek] at hx2
        rcases hF' x hx2 with h | h
        · exact h3 j i hj hil ej x hx h
        · have := hlt j hj x hx; omega
      · rw [if_neg ek] at hx2
        exact h3 j k hj hk hjk x hx hx2
/-- Two pieces at once. -/
theorem St.at2 (h : St S w0 w L) (i j : Nat) (hij : i ≠ j) {c d : Chunk} (hi : L[i]? = some c) (hj : L[j]? = some d) : ∃ F G, c.holds w F ∧ d.holds w G ∧ (∀ x ∈ F, x ∉ G) ∧ (∀ x ∈ F, x ∈ S ∨ w0.heap.size ≤ x) ∧ (∀ x ∈ G, x ∈ S ∨ w0.heap.size ≤ x) ∧
    ∀ {w' : World} {c' d' : Chunk} {F' G' : List Nat}, Fr (F ++ G) w w' → c'.holds w' F' → d'.holds w' G' → (∀ x ∈ F', x ∉ G') → (∀ x ∈ F', x ∈ F ++ G ∨ w.heap.size ≤ x) → (∀ x ∈ G', x ∈ F ++ G ∨ w.heap.size ≤ x) → St S w0 w' ((L.set i c').set j d') := by
  obtain ⟨h1, Fs, h2, h3⟩ := h
  have inb : ∀ {i : Nat} {c : Chunk}, L[i]? = some c → i < L.length := by
    intro i c hi
    rcases Nat.lt_or_ge i L.length with h | h
    · exact h
    · rw [List.getElem?_eq_none h] at hi; cases hi
  have hil := inb hi
  have hjl := inb hj
  have hlt : ∀ i, i < L.length → ∀ x ∈ Fs i, x < w.heap.size := by
    intro i hi x hx
    exact (L[i]).lt (h2 i L[i] (List.getElem?_eq_getElem hi)).1 x hx
  refine ⟨Fs i, Fs j, (h2 i c hi).1, (h2 j d hj).1, h3 i j hil hjl hij, (h2 i c hi).2, (h2 j d hj).2, ?_⟩
  intro w' c' d' F' G' hf hc' hd' hFG hF' hG'
  have both : ∀ x ∈ Fs i ++ Fs j, x ∈ S ∨ w0.heap.size ≤ x := by
    intro x hx
    rcases List.mem_append.mp hx with hx | hx
    · exact (h2 i c hi).2 x hx
    · exact (h2 j d hj).2 x hx
  have out : ∀ k, k < L.length → k ≠ i → k ≠ j → ∀ x ∈ Fs k, x ∉ Fs i ++ Fs j := by
    intro k hk e1 e2 x hx hx2
    rcases List.mem_append.mp hx2 with hx2 | hx2
    · exact h3 k i hk hil e1 x hx hx2
    · exact h3 k j hk hjl e2 x hx hx2
  refine ⟨h1.trans' hf (fun x hx hlt => (both x hx).resolve_right (by omega)), fun k => if k = j then G' else if k = i then F' else Fs k, ?_, ?_⟩
  · intro k e hk
    dsimp only
    by_cases ej : k = j
    · subst ej
      rw [List.getElem?_set_self (by simpa using hjl)] at hk
      injection hk with hk
      subst hk
      rw [if_pos rfl]
      exact ⟨hd', fun x hx => (hG' x hx).elim (fun q => both x q) (fun q => .inr (Nat.le_trans h1.1 q))⟩
    · rw [List.getElem?_set_ne (Ne.symm ej)] at hk
      rw [if_neg ej]
      by_cases ei : k = i
      · subst ei
        rw [List.getElem?_set_self hil] at hk
        injection hk with hk
        subst hk
        rw [if_pos rfl]
        exact ⟨hc', fun x hx => (hF' x hx).elim (fun q => both x q) (fun q => .inr (Nat.le_trans h1.1 q))⟩
      · rw [List.getElem?_set_ne (Ne.symm ei)] at hk
        rw [if_neg ei]
        exact ⟨e.fr (h2 k e hk).1 hf (out k (inb hk) ei ej), (h2 k e hk).2⟩
  · have main : ∀ k m, k < L.length → m < L.length → k ≠ m → k ≠ j → (m = j ∨ m ≠ i) → ∀ x, x ∈ (if k = j then G' else if k = i then F' else Fs k) → x ∉ (if m = j then G' else if m = i then F' else Fs m) := by
      intro k m hk hm hkm ekj hmm x hx hx2
      rw [if_neg ekj] at hx
      by_cases eki : k = i
      · rw [if_pos eki] at hx
        by_cases emj : m = j
        · rw [if_pos emj] at hx2; exact hFG x hx hx2
        · have emi : m ≠ i := fun e => hkm (eki.trans e.symm)
          rw [if_neg emj, if_neg emi] at hx2
          rcases hF' x hx with q | q
          · exact out m hm emi emj x hx2 q
          · have := hlt m hm x hx2; omega
      · rw [if_neg eki] at hx
        by_cases emj : m = j
        · rw [if_pos emj] at hx2
          rcases hG' x hx2 with q | q
          · exact out k hk eki ekj x hx q
          · have := hlt k hk x hx; omega
        · have emi : m ≠ i := hmm.resolve_left emj
          rw [if_neg emj, if_neg emi] at hx2
          exact h3 k m hk hm hkm x hx hx2
    intro k m hk hm hkm x hx hx2
    dsimp only at hx hx2
    simp only [List.length_set] at hk hm
    by_cases ekj : k = j
    · exact main m k hm hk (Ne.symm hkm) (fun e => hkm (ekj.trans e.symm)) (.inl ekj) x hx2 hx
    · by_cases emi : m = i
      · by_cases eki : k = i
        · exact hkm (eki.trans emi.symm)
        · by_cases emj : m = j
          · exact main k m hk hm hkm ekj (.inl emj) x hx hx2
          · exact main m k hm hk (Ne.symm hkm) emj (.inr eki) x hx2 hx
      · exact main k m hk hm hkm ekj (.inr emi) x hx hx2
/-- Some of the pieces, in some order. -/
theorem St.pick (h : St S w0 w L) (L' : List Chunk) (σ : Nat → Nat) (h1 : ∀ i c, L'[i]? = some c → L[σ i]? = some c) (h2 : ∀ i j, i < L'.length → j < L'.length → σ i = σ j → i = j) : St S w0 w L' := by
  obtain ⟨a, Fs, b, c⟩ := h
  refine ⟨a, fun i => Fs (σ i), fun i d hd => b _ d (h1 i d hd), fun i j hi hj hij x hx hx2 => ?_⟩
  have inb : ∀ i, i < L'.length → σ i < L.length := by
    intro i hi
    have := h1 i L'[i] (List.getElem?_eq_getElem hi)
    rcases Nat.lt_or_ge (σ i) L.length with h | h
    · exact h
    · rw [List.getElem?_eq_none h] at this; cases this
  exact c _ _ (inb i hi) (inb j hj) (fun e => hij (h2 i j hi hj e)) x hx hx2
theorem St.tail {c : Chunk} (h : St S w0 w (c :: L)) : St S w0 w L := h.pick L (· + 1) (fun i c h => by simpa using h) (fun i j _ _ h => by omega)
theorem St.one {c : Chunk} (h : St S w0 w [c]) : ∃ F', c.holds w F' ∧ Fr S w0 w ∧ ∀ x ∈ F', x ∈ S ∨ w0.heap.size ≤ x := by
  obtain ⟨a, Fs, b, _⟩ := h
  exact ⟨Fs 0, (b 0 c rfl).1, a, (b 0 c rfl).2⟩
/-- The first piece and the rest; its blocks are none of what was there and is not named. -/
theorem St.none (h : St S w0 w L) : Fr S w0 w := h.1
end

/-- A block. -/
def Chunk.blk (b : Nat) (cs : Array Value) (T : TypeId) : Chunk where
  holds w F := F = [b] ∧ Blk w b cs T
  fr h hf hS := ⟨h.1, hf.blk h.2 (hS _ (by simp [h.1]))⟩
  lt h x hx := by rw [h.1] at hx; simp at hx; subst hx; exact h.2.lt
theorem St.alloc {S : List Nat} {w0 w : World} {L : List Chunk} (h : St S w0 w L) (cs : Array Value) (T : TypeId) : St S w0 (World.alloc w (.cells cs T)) (Chunk.blk w.heap.size cs T :: L) :=
  h.new (Fr.refl [] w).alloc ⟨rfl, Blk.new⟩ (by simp)
theorem St.blk {S : List Nat} {w0 w : World} {L : List Chunk} (h : St S w0 w L) (i : Nat) {b : Nat} {cs : Array Value} {T : TypeId} (hi : L[i]? = some (Chunk.blk b cs T)) : Blk w b cs T := by
  obtain ⟨F, h1, _⟩ := h.at i hi
  exact h1.2
theorem St.set {S : List Nat} {w0 w : World} {L : List Chunk} (h : St S w0 w L) (i : Nat) {b : Nat} {cs : Array Value} {T : TypeId} (hi : L[i]? = some (Chunk.blk b cs T)) (o : Nat) (vs : List Value) :
    St S w0 (setCs w b o vs) (L.set i (Chunk.blk b (putA cs o vs) T)) := by
  obtain ⟨F, h1, _, h2⟩ := h.at i hi
  refine h2 (c' := Chunk.blk b (putA cs o vs) T) (F' := F) ?_ ⟨h1.1, h1.2.set vs o⟩ (fun x hx => .inl hx)
  rw [h1.1]
  exact (Fr.refl _ _).set (.inl (by simp))
/-- The whole block is written over. -/
theorem St.over {S : List Nat} {w0 w : World} {L : List Chunk} (h : St S w0 w L) (i : Nat) {b : Nat} {cs : Array Value} {T : TypeId} (hi : L[i]? = some (Chunk.blk b cs T)) (vs : List Value) (hl : vs.length = cs.size) :
    St S w0 (setCs w b 0 vs) (L.set i (Chunk.blk b vs.toArray T)) := by
  obtain ⟨F, h1, _, h2⟩ := h.at i hi
  refine h2 (c' := Chunk.blk b vs.toArray T) (F' := F) ?_ ⟨h1.1, h1.2.whole hl⟩ (fun x hx => .inl hx)
  rw [h1.1]
  exact (Fr.refl _ _).set (.inl (by simp))

/-- A list that grows: a slice of records, from its block's first place on. -/
def Chunk.sl (TE : TypeId) (s : Nat) (v : Value) (rs : List (List Value)) : Chunk where
  holds w F := (v = .slice none 0 0 ∧ rs = [] ∧ F = []) ∨ ∃ g cap, v = .slice (some ⟨g, 0, none⟩) rs.length cap ∧ F = [g] ∧ Row w TE s g cap rs
  fr h hf hS := by
    rcases h with h | ⟨g, cap, h1, rfl, h2⟩
    · exact .inl h
    · exact .inr ⟨g, cap, h1, rfl, h2.fr hf (hS g (by simp))⟩
  lt h x hx := by
    rcases h with ⟨_, _, rfl⟩ | ⟨g, cap, h1, rfl, h2⟩
    · simp at hx
    · simp at hx; subst hx; exact h2.lt
theorem St.nil {S : List Nat} {w0 w : World} {L : List Chunk} (h : St S w0 w L) (TE : TypeId) (s : Nat) : St S w0 w (Chunk.sl TE s (.slice Option.none 0 0) [] :: L) :=
  h.new (Fr.refl [] w) (F := []) (.inl ⟨rfl, rfl, rfl⟩) (by simp)
theorem St.slLen {S : List Nat} {w0 w : World} {L : List Chunk} (h : St S w0 w L) (i : Nat) {TE : TypeId} {s : Nat} {A : Option Addr} {n c : Nat} {rs : List (List Value)} (hi : L[i]? = some (Chunk.sl TE s (.slice A n c) rs)) : n = rs.length := by
  obtain ⟨F, h1, _⟩ := h.at i hi
  rcases h1 with ⟨h1, h2, _⟩ | ⟨g, cap, h1, _⟩
  · injection h1 with _ h1 _; subst h2; exact h1
  · injection h1
/-- A cell of the list. -/
theorem St.slGet {S : List Nat} {w0 w : World} {L : List Chunk} (h : St S w0 w L) (i : Nat) {TE : TypeId} {s : Nat} {A : Option Addr} {n c : Nat} {rs : List (List Value)} (hi : L[i]? = some (Chunk.sl TE s (.slice A n c) rs)) (hpos : 0 < rs.length) :
    ∃ g, A = some ⟨g, 0, Option.none⟩ ∧ ∀ k j x, k < rs.length → j < s → (rs.getD k [])[j]? = some x → w.cell? ⟨g, k * s + j, Option.none⟩ = some x := by
  obtain ⟨F, h1, _⟩ := h.at i hi
  rcases h1 with ⟨h1, h2, _⟩ | ⟨g, cap, h1, _, h2⟩
  · subst h2; simp at hpos
  · injection h1 with h1 _ _
    exact ⟨g, h1, fun k j x hk hj hx => h2.cell hk hj rfl hx⟩
/-- A record of the list is written. -/
theorem St.slSet {S : List Nat} {w0 w : World} {L : List Chunk} (h : St S w0 w L) (i : Nat) {TE : TypeId} {s : Nat} {A : Option Addr} {n c : Nat} {rs : List (List Value)} (hi : L[i]? = some (Chunk.sl TE s (.slice A n c) rs)) {k : Nat} (hk : k < rs.length) :
    ∃ g, A = some ⟨g, 0, Option.none⟩ ∧ ∀ r : List Value, r.length = s → canStore w g (k * s) s ∧ St S w0 (setCs w g (k * s) r) (L.set i (Chunk.sl TE s (.slice A n c) (rs.set k r))) := by
  obtain ⟨F, h1, _, h3⟩ := h.at i hi
  rcases h1 with ⟨h1, h2, _⟩ | ⟨g, cap, h1, rfl, h2⟩
  · subst h2; simp at hk
  · injection h1 with e1 e2 e3
    refine ⟨g, e1, fun r hr => ⟨h2.can hk rfl, h3 (F' := [g]) ((Fr.refl _ _).set (.inl (by simp))) (.inr ⟨g, cap, ?_, rfl, h2.set hk rfl hr⟩) (fun x hx => .inl hx)⟩⟩
    rw [e1, e2, e3, List.length_set]
/-- A record more; it lies in the block b. -/
theorem St.append {S : List Nat} {w0 w : World} {L : List Chunk} (h : St S w0 w L) (i : Nat) {P : Program} {t ty e : TypeId} {ti : TypeInfo} {z : Value} {s : Nat} {A : Option Addr} {n c : Nat} {rs : List (List Value)} {r : List Value} {b : Nat} {T' : TypeId} {cs : Array Value}
    (ht : P.underlying t = some (.slice e)) (hti : P.info? e = some ti) (hz : ti.zero = some z) (hsize : ti.size = s) (hzs : z.cells.size = s) (hs : 0 < s)
    (hi : L[i]? = some (Chunk.sl e s (.slice A n c) rs)) (hb : Blk w b cs T') (hcs : cs = r.toArray) (hr : r.length = s) (h1 : ∀ u ∈ r, u.oneCell' = true) (hbytes : (rs.length + 1) * ti.bytes ≤ 140737488355328) (hmax : rs.length + 1 ≤ maxLen) :
    ∃ g' cap' w', (Builtin.append_ #[t, t] ty #[.slice A n c, .slice (some ⟨b, 0, Option.none⟩) 1 1]).run P w = .ok (.slice (some ⟨g', 0, Option.none⟩) (rs.length + 1) cap') w' ∧
      St S w0 w' (L.set i (Chunk.sl e s (.slice (some ⟨g', 0, Option.none⟩) (rs.length + 1) cap') (rs ++ [r]))) := by
  subst hcs
  obtain ⟨F, k1, _, k3⟩ := h.at i hi
  have hrs : ∀ x ∈ rs, x.length = s := by
    rcases k1 with ⟨_, rfl, _⟩ | ⟨g, cap, _, _, k2⟩
    · simp
    · obtain ⟨_, _, _, _, _, k, _⟩ := k2; exact k
  obtain ⟨g', cap', w', hrun, hR, hF, hg⟩ := append_row (P := P) (w := w) (t := t) (ty := ty) (e := e) (i := ti) (z := z) (s := s) (rs := rs) (v := .slice A n c) (r := r) (b := b) (T' := T') ht hti hz hsize hzs hs
    (by
      rcases k1 with ⟨k1, k2, _⟩ | ⟨g, cap, k1, _, k2⟩
      · exact .inl ⟨k1, k2⟩
      · exact .inr ⟨g, cap, k1, k2⟩) hb hr h1 hrs hbytes hmax
  refine ⟨g', cap', w', hrun, k3 (F' := [g']) (hF.mono ?_) (.inr ⟨g', cap', by simp, rfl, hR⟩) ?_⟩
  · intro x hx
    rcases k1 with ⟨k1, _, _⟩ | ⟨g, cap, k1, rfl, _⟩
    · rw [k1] at hx; simp [Value.ownBlock] at hx
    · rw [k1] at hx; simpa [Value.ownBlock] using hx
  · intro x hx
    simp at hx
    subst hx
    rcases hg with hg | hg
    · rcases k1 with ⟨k1, _, _⟩ | ⟨g, cap, k1, rfl, _⟩
      · rw [k1] at hg; simp [Value.ownBlock] at hg
      · rw [k1] at hg; simp [Value.ownBlock] at hg; subst hg; exact .inl (by simp)
    · exact .inr hg
/-! ### Calls -/
section
variable {S : List Nat} {w0 w : World} {L : List Chunk} {P : Program} {f : FuncId} {args : Array Value}
theorem St.step0 (h : St S w0 w L) {Q : Ending → Prop} (hc : Calls P f args w fun e w' => Q e ∧ Fr [] w w') : Calls P f args w fun e w' => Q e ∧ St S w0 w' L :=
  hc.mono fun e w' ⟨h1, h2⟩ => ⟨h1, h.go h2⟩
theorem St.step1 (h : St S w0 w L) (i : Nat) {c : Chunk} (hi : L[i]? = some c) (c' : Chunk) {Q : Ending → Prop}
    (hc : ∀ F, c.holds w F → Calls P f args w fun e w' => Q e ∧ ∃ F', c'.holds w' F' ∧ Fr F w w' ∧ ∀ b ∈ F', b ∈ F ∨ w.heap.size ≤ b) : Calls P f args w fun e w' => Q e ∧ St S w0 w' (L.set i c') := by
  obtain ⟨F, h1, _, h2⟩ := h.at i hi
  refine (hc F h1).mono ?_
  rintro e w' ⟨he, F', k1, k2, k3⟩
  exact ⟨he, h2 k2 k1 k3⟩
theorem St.atWith (h : St S w0 w L) (i j : Nat) (hij : i ≠ j) {c d : Chunk} (hi : L[i]? = some c) (hj : L[j]? = some d) : ∃ F G, c.holds w F ∧ d.holds w G ∧ (∀ x ∈ G, x ∉ F) ∧ (∀ x ∈ F, x ∈ S ∨ w0.heap.size ≤ x) ∧ (∀ x ∈ G, x ∈ S ∨ w0.heap.size ≤ x) ∧
    ∀ {w' : World} {c' : Chunk} {F' : List Nat}, Fr F w w' → c'.holds w' F' → (∀ x ∈ F', x ∈ F ∨ w.heap.size ≤ x) → St S w0 w' (L.set i c') := by
  obtain ⟨F, G, h1, h2, h3, h4, h5, h6⟩ := h.at2 i j hij hi hj
  refine ⟨F, G, h1, h2, fun x hx hx2 => h3 x hx2 hx, h4, h5, ?_⟩
  intro w' c' F' k1 k2 k3
  have hjl : j < L.length := by
    rcases Nat.lt_or_ge j L.length with h | h
    · exact h
    · rw [List.getElem?_eq_none h] at hj; cases hj
  have := h6 (c' := c') (d' := d) (F' := F') (G' := G) (k1.mono (fun x hx => List.mem_append_left _ hx)) k2 (d.fr h2 k1 (fun x hx hx2 => h3 x hx2 hx)) (fun x hx hx2 => (k3 x hx).elim (fun q => h3 x q hx2) (fun q => by have := d.lt h2 x hx2; omega))
    (fun x hx => (k3 x hx).imp (fun q => List.mem_append_left _ q) id) (fun x hx => .inl (List.mem_append_right _ hx))
  have e : (L.set i c').set j d = L.set i c' := by
    apply List.ext_getElem?
    intro k
    by_cases hk : k = j
    · subst hk
      rw [List.getElem?_set_self (by simpa using hjl), List.getElem?_set_ne hij, hj]
    · rw [List.getElem?_set_ne (Ne.symm hk)]
  rw [e] at this
  exact this
theorem St.stepWith (h : St S w0 w L) (i j : Nat) (hij : i ≠ j) {c d : Chunk} (hi : L[i]? = some c) (hj : L[j]? = some d) (c' : Chunk) {Q : Ending → Prop}
    (hc : ∀ F G, c.holds w F → d.holds w G → (∀ x ∈ G, x ∉ F) → (∀ x ∈ F, x ∈ S ∨ w0.heap.size ≤ x) → Calls P f args w fun e w' => Q e ∧ ∃ F', c'.holds w' F' ∧ Fr F w w' ∧ ∀ b ∈ F', b ∈ F ∨ w.heap.size ≤ b) : Calls P f args w fun e w' => Q e ∧ St S w0 w' (L.set i c') := by
  obtain ⟨F, G, h1, h2, h3, h4, _, h5⟩ := h.atWith i j hij hi hj
  refine (hc F G h1 h2 h3 h4).mono ?_
  rintro e w' ⟨he, F', k1, k2, k3⟩
  exact ⟨he, h5 k2 k1 k3⟩
end
/-- A heap. -/
def Chunk.heap {α : Type} (TH TE : TypeId) (s : Nat) (enc : α × Int → List Value) (a : Nat) (less : Value) (es : List (α × Int)) (came : Int) : Chunk where
  holds w F := HeapAt TH TE s enc w F a less es came
  fr h hf hS := h.fr hf hS
  lt h := h.lt
theorem rests_chunk (d : Chunk) (G : List Nat) : Rests G (fun w => d.holds w G) := fun S w w' hf hG h => d.fr h hf hG
theorem rests_blk (b : Nat) (cs : Array Value) (T : TypeId) : Rests [b] (fun w => Blk w b cs T) := fun S w w' hf hG h => hf.blk h (hG b (by simp))
end Go.Proofs.Ytjmlfknogjaemaa.Vc
/- What is handed in, of any type without maps, pointers and interfaces: read once as plain Lean values. -/
set_option linter.unusedVariables false
set_option linter.unusedSimpArgs false
namespace Go.Proofs.Ytjmlfknogjaemaa.Vc
open Go Go.Deep Go.ChangeShapes Go.WideShapes

inductive Ty where
  | int (k : IntKind) | bool | str | flt (k : FloatKind) | unit | pair (a b : Ty) | sl (e : Ty)
/-- How many cells. -/
def Ty.w : Ty → Nat
  | .unit => 0
  | .pair a b => a.w + b.w
  | _ => 1
abbrev Den : Ty → Type
  | .int _ => Int
  | .bool => Bool
  | .str => ByteArray
  | .flt _ => Nat
  | .unit => Unit
  | .pair a b => Den a × Den b
  | .sl e => List (Den e)
/-- The values cs (and what they lead to, in the blocks F) are d. -/
def In (w : World) : (t : Ty) → List Value → Den t → List Nat → Prop
  | .int k, cs, n, F => cs = [.int k n] ∧ (Lit.int k n).wf = true ∧ F = []
  | .bool, cs, b, F => cs = [.bool b] ∧ F = []
  | .str, cs, s, F => cs = [.string s] ∧ F = []
  | .flt k, cs, n, F => cs = [.float k n] ∧ (Lit.float k n).wf = true ∧ F = []
  | .unit, cs, _, F => cs = [] ∧ F = []
  | .pair a b, cs, d, F => ∃ c1 c2 F1 F2, cs = c1 ++ c2 ∧ F = F1 ++ F2 ∧ c1.length = a.w ∧ In w a c1 d.1 F1 ∧ In w b c2 d.2 F2
  | .sl e, cs, l, F => ∃ A n c, cs = [.slice A n c] ∧ n = l.length ∧ n ≤ c ∧ (A = none → c = 0) ∧ ((n = 0 ∧ F = []) ∨ ∃ (b o : Nat) (Fs : List (List Nat)), A = some ⟨b, o, none⟩ ∧ F = b :: Fs.flatten ∧ Fs.length = n ∧
      ∀ i (h : i < l.length), ∃ es, es.length = e.w ∧ (∀ j, j < e.w → w.cell? ⟨b, o + i * e.w + j, none⟩ = es[j]?) ∧ In w e es l[i] (Fs.getD i []))
/-- How much it is. -/
def wt : (t : Ty) → Den t → Nat
  | .int _, _ => 1
  | .bool, _ => 1
  | .str, s => s.size + 1
  | .flt _, _ => 1
  | .unit, _ => 0
  | .pair a b, d => wt a d.1 + wt b d.2
  | .sl e, l => 1 + (l.map fun x => max 1 (wt e x)).sum
theorem In.len {w : World} : ∀ {t : Ty} {cs : List Value} {d : Den t} {F : List Nat}, In w t cs d F → cs.length = t.w
  | .int k, _, _, _, h => by rw [h.1]; rfl
  | .bool, _, _, _, h => by rw [h.1]; rfl
  | .str, _, _, _, h => by rw [h.1]; rfl
  | .flt k, _, _, _, h => by rw [h.1]; rfl
  | .unit, _, _, _, h => by rw [h.1]; rfl
  | .pair a b, _, _, _, h => by
    obtain ⟨c1, c2, F1, F2, rfl, rfl, h1, h2, h3⟩ := h
    rw [List.length_append, h1, h3.len]; rfl
  | .sl e, _, _, _, h => by
    obtain ⟨A, n, c, rfl, _⟩ := h
    rfl
theorem flat_mem {Fs : List (List Nat)} {i x : Nat} (h : x ∈ Fs.getD i []) : x ∈ Fs.flatten := by
  rw [List.getD_eq_getElem?_getD] at h
  cases hi : Fs[i]? with
  | none => rw [hi] at h; simp at h
  | some l =>
    rw [hi] at h
    exact List.mem_flatten.2 ⟨l, List.mem_of_getElem? hi, h⟩
theorem In.fr {S : List Nat} {w w' : World} (hf : Fr S w w') : ∀ {t : Ty} {cs : List Value} {d : Den t} {F : List Nat}, In w t cs d F → (∀ x ∈ F, x ∉ S) → In w' t cs d F
  | .int k, _, _, _, h, _ => h
  | .bool, _, _, _, h, _ => h
  | .str, _, _, _, h, _ => h
  | .flt k, _, _, _, h, _ => h
  | .unit, _, _, _, h, _ => h
  | .pair a b, _, _, _, h, hS => by
    obtain ⟨c1, c2, F1, F2, rfl, rfl, h1, h2, h3⟩ := h
    exact ⟨c1, c2, F1, F2, rfl, rfl, h1, h2.fr hf (fun x hx => hS x (by simp [hx])), h3.fr hf (fun x hx => hS x (by simp [hx]))⟩
  | .sl e, _, _, _, h, hS => by
    obtain ⟨A, n, c, rfl, hn, hc, hA, h⟩ := h
    refine ⟨A, n, c, rfl, hn, hc, hA, ?_⟩
    rcases h with h | ⟨b, o, Fs, rfl, rfl, hl, h⟩
    · exact .inl h
    · refine .inr ⟨b, o, Fs, rfl, rfl, hl, fun i hi => ?_⟩
      obtain ⟨es, e1, e2, e3⟩ := h i hi
      refine ⟨es, e1, fun j hj => ?_, e3.fr hf (fun x hx => hS x (List.mem_cons_of_mem _ (flat_mem hx)))⟩
      have hv : w.cell? ⟨b, o + i * e.w + j, none⟩ = some es[j] := by rw [e2 j hj]; exact List.getElem?_eq_getElem _
      have hb := World.block_lt_of_cell? w _ hv
      have hbl := hf.2 b hb (hS b (by simp))
      rw [← e2 j hj]
      simp only [World.cell?]
      rw [hbl]
theorem In.lt {w : World} : ∀ {t : Ty} {cs : List Value} {d : Den t} {F : List Nat}, (∀ e, t = .sl e → True) → (0 < 1) → In w t cs d F → True
  | _, _, _, _, _, _, _ => trivial
def Den.dflt : (t : Ty) → Den t
  | .int _ => (0 : Int)
  | .bool => false
  | .str => (ByteArray.empty : ByteArray)
  | .flt _ => (0 : Nat)
  | .unit => ()
  | .pair a b => (Den.dflt a, Den.dflt b)
  | .sl _ => []
instance {t : Ty} : Inhabited (Den t) := ⟨Den.dflt t⟩

/-! ### Opening -/
def arrTy (ty : Ty) : Nat → Ty
  | 0 => .unit
  | n + 1 => .pair ty (arrTy ty n)
theorem arrTy_w (ty : Ty) : ∀ n, (arrTy ty n).w = n * ty.w
  | 0 => by simp [arrTy, Ty.w]
  | n + 1 => by simp only [arrTy, Ty.w, arrTy_w ty n, Nat.add_mul]; omega
mutual
def tyOf (P : Program) : Nat → TypeId → Option Ty
  | 0, _ => none
  | fuel + 1, t => match P.underlying t with
    | some (.int k) => some (.int k)
    | some .bool => some .bool
    | some .string => some .str
    | some (.float k) => some (.flt k)
    | some (.slice e) => match tyOf P fuel e with
      | some ty => match Nat.beq (P.cellsOf e) ty.w, Nat.blt 0 ty.w with
        | true, true => some (.sl ty)
        | _, _ => none
      | none => none
    | some (.struct fs) => match tyFields P fuel fs.toList 0 with
      | some ty => match Nat.beq (P.cellsOf t) ty.w with
        | true => some ty
        | false => none
      | none => none
    | some (.array n e) => match tyOf P fuel e with
      | some ty => match Nat.beq (P.cellsOf e) ty.w, Nat.beq (P.cellsOf t) (n * ty.w) with
        | true, true => some (arrTy ty n)
        | _, _ => none
      | none => none
    | _ => none
def tyFields (P : Program) : Nat → List Field → Nat → Option Ty
  | 0, _, _ => none
  | _ + 1, [], _ => some .unit
  | fuel + 1, f :: fs, off => match Nat.beq f.offset off, tyOf P fuel f.type with
    | true, some a => match Nat.beq (P.cellsOf f.type) a.w, tyFields P fuel fs (off + a.w) with
      | true, some b => some (.pair a b)
      | _, _ => none
    | _, _ => none
end
theorem bulk_pos {H : Type} (d : DataW H) : 1 ≤ Rows.uptoBulk d := by
  cases d with
  | lit l => cases l <;> simp [Rows.uptoBulk]
  | _ => simp [Rows.uptoBulk]
theorem bulk_sum {H : Type} {e : Ty} : ∀ (ds : List (DataW H)) (l : List (Den e)), ds.length = l.length → (∀ i (h : i < l.length) (h' : i < ds.length), wt e l[i] ≤ Rows.uptoBulk ds[i]) → (l.map fun x => max 1 (wt e x)).sum ≤ Rows.uptoBulkAll ds
  | [], [], _, _ => by simp [Rows.uptoBulkAll]
  | d :: ds, x :: l, hl, h => by
    have h0 := h 0 (by simp) (by simp)
    have h1 := bulk_sum ds l (by simpa using hl) (fun i hi hi' => h (i + 1) (by simpa using hi) (by simpa using hi'))
    have := bulk_pos d
    simp only [List.getElem_cons_zero] at h0
    simp only [List.map_cons, List.sum_cons, Rows.uptoBulkAll]
    omega
  | [], _ :: _, h, _ => by simp at h
  | _ :: _, [], h, _ => by simp at h
section
variable {H : Type} {enc : TypeId × Value → H} {P : Program} {w : World} {base : Nat} {spare : Nat → Bool} {held : Bool}
abbrev Opens (enc : TypeId × Value → H) (P : Program) (w : World) (base : Nat) (spare : Nat → Bool) (held : Bool) (t : TypeId) (ty : Ty) : Prop :=
  ∀ (n : Nat) (cs : List Value) (x : DataW H × List MemPlace), DataW.trod enc P w base spare held n t cs = some x → ∃ (d : Den ty) (F : List Nat), In w ty cs d F ∧ wt ty d ≤ Rows.uptoBulk x.1
theorem trod_flt {fuel : Nat} {t : TypeId} {cs : List Value} {x : DataW H × List MemPlace} {k : FloatKind} (ht : P.underlying t = some (.float k)) (h : DataW.trod enc P w base spare held fuel t cs = some x) : ∃ n, cs = [.float k n] ∧ x = (.lit (.float k n), []) ∧ (Lit.float k n).wf = true := by
  cases fuel with
  | zero => simp [DataW.trod] at h
  | succ n =>
    unfold DataW.trod at h
    rw [ht] at h
    split at h <;> simp_all
theorem opens_arr {e : TypeId} {ty : Ty} (ho : Opens enc P w base spare held e ty) {m : Nat} {cs : List Value} {xs : List (DataW H × List MemPlace)} : ∀ (n k : Nat), cs.length = (k + n) * ty.w → xs.length = k + n →
    (∀ i, k ≤ i → i < k + n → DataW.trod enc P w base spare held m e ((cs.drop (i * ty.w)).take ty.w) = xs[i]?) → ∃ (d : Den (arrTy ty n)) (F : List Nat), In w (arrTy ty n) (cs.drop (k * ty.w)) d F ∧ wt (arrTy ty n) d ≤ Rows.uptoBulkAll ((xs.drop k).map (·.1))
  | 0, k, hl, hx, h => ⟨(), [], ⟨List.drop_eq_nil_of_le (by simp at hl; omega), rfl⟩, by simp [arrTy, wt]⟩
  | n + 1, k, hl, hx, h => by
    have hk := h k (Nat.le_refl _) (by omega)
    rw [List.getElem?_eq_getElem (by omega)] at hk
    obtain ⟨d1, F1, h1, h2⟩ := ho _ _ _ hk
    obtain ⟨d2, F2, h3, h4⟩ := opens_arr ho n (k + 1) (by rw [hl]; congr 1; omega) (by omega) (fun i hi hi' => h i (by omega) (by omega))
    refine ⟨(d1, d2), F1 ++ F2, ⟨_, _, F1, F2, ?_, rfl, h1.len, h1, h3⟩, ?_⟩
    · rw [show (k + 1) * ty.w = k * ty.w + ty.w by rw [Nat.add_mul]; omega, ← List.drop_drop, List.take_append_drop]
    · simp only [arrTy, wt]
      rw [List.drop_eq_getElem_cons (show k < xs.length by omega), List.map_cons, Rows.uptoBulkAll]
      omega
theorem opens_fields {m : Nat} {cs : List Value} : ∀ (fuel : Nat) (fs : List Field) (off : Nat) (ty : Ty), (∀ fuel' t ty, fuel' < fuel → tyOf P fuel' t = some ty → Opens enc P w base spare held t ty) → tyFields P fuel fs off = some ty → cs.length = off + ty.w →
    ∀ xs : List (DataW H × List MemPlace), xs.length = fs.length → (∀ (i : Nat) (f : Field), fs[i]? = some f → DataW.trod enc P w base spare held m f.type ((cs.drop f.offset).take (P.cellsOf f.type)) = xs[i]?) →
    ∃ (d : Den ty) (F : List Nat), In w ty (cs.drop off) d F ∧ wt ty d ≤ Rows.uptoBulkAll (xs.map (·.1))
  | 0, _, _, _, _, h, _, _, _, _ => by simp [tyFields] at h
  | fuel + 1, [], off, ty, ih, h, hl, xs, hx, hf => by
    simp only [tyFields, Option.some.injEq] at h
    subst h
    exact ⟨(), [], ⟨List.drop_eq_nil_of_le (by simp [Ty.w] at hl; omega), rfl⟩, by simp [wt]⟩
  | fuel + 1, f :: fs, off, ty, ih, h, hl, xs, hx, hf => by
    rw [tyFields] at h
    split at h
    · rename_i a ho ha
      split at h
      · rename_i b hc hb
        injection h with h
        subst h
        have ho := Nat.eq_of_beq_eq_true ho
        have hc := Nat.eq_of_beq_eq_true hc
        subst ho
        obtain ⟨y, ys, rfl⟩ : ∃ y ys, xs = y :: ys := by
          cases xs with
          | nil => simp at hx
          | cons y ys => exact ⟨y, ys, rfl⟩
        have h0 := hf 0 f rfl
        rw [hc] at h0
        obtain ⟨d1, F1, k1, k2⟩ := ih fuel _ _ (by omega) ha _ _ _ h0
        simp only [Ty.w] at hl
        obtain ⟨d2, F2, k3, k4⟩ := opens_fields fuel fs (f.offset + a.w) b (fun fuel' t ty hlt => ih fuel' t ty (by omega)) hb (by omega) ys (by simpa using hx) (fun i g hg => hf (i + 1) g (by simpa using hg))
        refine ⟨(d1, d2), F1 ++ F2, ⟨_, _, F1, F2, ?_, rfl, k1.len, k1, k3⟩, ?_⟩
        · rw [← List.drop_drop, List.take_append_drop]
        · simp only [wt, List.map_cons, Rows.uptoBulkAll]
          omega
      · cases h
    · cases h
theorem opens : ∀ (fuel : Nat) (t : TypeId) (ty : Ty), tyOf P fuel t = some ty → Opens enc P w base spare held t ty := by
  intro fuel
  induction fuel using Nat.strongRecOn with
  | _ fuel ih =>
    intro t ty h n cs x hx
    cases fuel with
    | zero => simp [tyOf] at h
    | succ fuel =>
      rw [tyOf] at h
      split at h
      · rename_i k hu
        injection h with h; subst h
        obtain ⟨n, rfl, rfl, hw⟩ := DataW.trod_int hu hx
        exact ⟨n, [], ⟨rfl, hw, rfl⟩, by simp [wt, Rows.uptoBulk]⟩
      · rename_i hu
        injection h with h; subst h
        obtain ⟨b, rfl, rfl⟩ := DataW.trod_bool hu hx
        exact ⟨b, [], ⟨rfl, rfl⟩, by simp [wt, Rows.uptoBulk]⟩
      · rename_i hu
        injection h with h; subst h
        obtain ⟨s, rfl, rfl, hw⟩ := DataW.trod_string hu hx
        exact ⟨s, [], ⟨rfl, rfl⟩, by show s.size + 1 ≤ s.data.toList.length + 1; rw [Array.length_toList]; exact Nat.le_refl _⟩
      · rename_i k hu
        injection h with h; subst h
        obtain ⟨b, rfl, rfl, hw⟩ := trod_flt hu hx
        exact ⟨b, [], ⟨rfl, hw, rfl⟩, by simp [wt, Rows.uptoBulk]⟩
      · rename_i e hu
        split at h
        · rename_i ty' hty
          split at h
          · rename_i h1 h2
            injection h with h; subst h
            have h1 := Nat.eq_of_beq_eq_true h1
            rcases DataW.trod_slice hu hx with ⟨rfl, rfl⟩ | ⟨a, len, cap, elems, rest, n, rfl, rfl, rfl, hb, hl, hm, hlen, hel, hsp, hns⟩
            · exact ⟨[], [], ⟨none, 0, 0, rfl, rfl, Nat.le_refl _, fun _ => rfl, .inl ⟨rfl, rfl⟩⟩, by simp [wt, Rows.uptoBulk]⟩
            · have hz : ∀ i, i < len → ∃ q : Den ty' × List Nat, ∃ es, es.length = ty'.w ∧ (∀ j, j < ty'.w → w.cell? ((a.add (i * ty'.w)).add j) = es[j]?) ∧ In w ty' es q.1 q.2 ∧ ∀ hi : i < elems.length, wt ty' q.1 ≤ Rows.uptoBulk elems[i].1 := by
                intro i hi
                have he := hel i hi
                rw [List.getElem?_eq_getElem (by omega)] at he
                obtain ⟨es, c1, c2⟩ := Option.bind_eq_some_iff.1 he
                obtain ⟨_, l1, l2⟩ := World.cells?_some c1
                rw [h1] at l1 l2
                obtain ⟨d, F, k1, k2⟩ := ih fuel (by omega) e ty' hty _ _ _ c2
                exact ⟨(d, F), es, l1, l2, k1, fun _ => k2⟩
              obtain ⟨q, hq⟩ := choose_lt hz
              have hlq : ((List.range len).map fun i => (q i).1).length = len := by simp
              refine ⟨(List.range len).map fun i => (q i).1, if len = 0 then [] else a.block :: ((List.range len).map fun i => (q i).2).flatten, ⟨some a, len, cap, rfl, by simp, hl, by simp, ?_⟩, ?_⟩
              · by_cases h0 : len = 0
                · exact .inl ⟨h0, by rw [if_pos h0]⟩
                · have hspot : a.spot = none := by
                    obtain ⟨es, e1, e2, _⟩ := hq 0 (by omega)
                    have h3 := e2 0 (Nat.lt_of_not_le (by simp at h2; omega))
                    rw [List.getElem?_eq_getElem (by rw [e1]; simp at h2; omega)] at h3
                    have := World.cell?_spot h3
                    simpa [Addr.add] using this
                  obtain ⟨b, o, sp⟩ := a
                  simp only at hspot
                  subst hspot
                  refine .inr ⟨b, o, (List.range len).map fun i => (q i).2, rfl, by rw [if_neg h0], by simp, fun i hi => ?_⟩
                  rw [hlq] at hi
                  obtain ⟨es, e1, e2, e3, _⟩ := hq i hi
                  refine ⟨es, e1, fun j hj => ?_, ?_⟩
                  · have := e2 j hj
                    rw [add_plain, add_plain] at this
                    exact this
                  · simpa [List.getD_eq_getElem?_getD, hi] using e3
              · simp only [wt, Rows.uptoBulk]
                have := bulk_sum (elems.map (·.1)) ((List.range len).map fun i => (q i).1) (by simp [hlen]) (fun i hi hi' => by
                  simp only [List.length_map, List.length_range] at hi hi'
                  obtain ⟨_, _, _, _, h5⟩ := hq i hi
                  simpa using h5 hi')
                omega
          · cases h
        · cases h
      · rename_i fs hu
        split at h
        · rename_i ty' hty
          split at h
          · rename_i hc
            injection h with h; subst h
            have hc := Nat.eq_of_beq_eq_true hc
            obtain ⟨xs, m, rfl, rfl, hl, hxl, hf⟩ := DataW.trod_struct hu hx
            obtain ⟨d, F, k1, k2⟩ := opens_fields (enc := enc) (w := w) (base := base) (spare := spare) (held := held) (m := m) (cs := cs) fuel fs.toList 0 ty' (fun fuel' t ty hlt => ih fuel' (by omega) t ty) hty (by omega) xs (by simpa using hxl) (fun i f hi => hf i f (by simpa using hi))
            exact ⟨d, F, k1, by simp only [Rows.uptoBulk]; omega⟩
          · cases h
        · cases h
      · rename_i n' e hu
        split at h
        · rename_i ty' hty
          split at h
          · rename_i h1 h2
            injection h with h; subst h
            have h1 := Nat.eq_of_beq_eq_true h1
            have h2 := Nat.eq_of_beq_eq_true h2
            obtain ⟨xs, m, rfl, rfl, hl, hxl, hf⟩ := DataW.trod_array hu hx
            rw [h1] at hf
            obtain ⟨d, F, k1, k2⟩ := opens_arr (cs := cs) (xs := xs) (m := m) (ih fuel (by omega) e ty' hty) n' 0 (by rw [hl, h2, Nat.zero_add]) (by omega) (fun i _ hi => hf i (by omega))
            refine ⟨d, F, by simpa using k1, ?_⟩
            simp only [Rows.uptoBulk]
            simp at k2
            omega
          · cases h
        · cases h
      · cases h
end
end Go.Proofs.Ytjmlfknogjaemaa.Vc
