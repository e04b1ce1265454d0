/- Pieces of memory, put together and taken apart. -/
import Derived.Test.YtjmlfknogjaemaaDoorM6
import Derived.MapKept
import Derived.Test.YtjmlfknogjaemaaDoorM5
import Derived.Test.YtjmlfknogjaemaaDoorProg
import Derived.KernelRfl
import Derived.Test.YtjmlfknogjaemaaDoorM7
set_option linter.unusedVariables false
set_option linter.unusedSimpArgs false
namespace Go.Proofs.YtjmlfknogjaemaaDoor.Vc
open Go

/-- Two pieces as one. -/
def Chunk.star (c d : Chunk) : Chunk where
  holds w F := ∃ F1 F2, F = F1 ++ F2 ∧ c.holds w F1 ∧ d.holds w F2 ∧ ∀ x ∈ F1, x ∉ F2
  fr h hf hS := by
    obtain ⟨F1, F2, rfl, h1, h2, h3⟩ := h
    exact ⟨F1, F2, rfl, c.fr h1 hf (fun x hx => hS x (by simp [hx])), d.fr h2 hf (fun x hx => hS x (by simp [hx])), h3⟩
  lt h x hx := by
    obtain ⟨F1, F2, rfl, h1, h2, h3⟩ := h
    rcases List.mem_append.1 hx with hx | hx
    · exact c.lt h1 x hx
    · exact d.lt h2 x hx
/-- One of many. -/
def Chunk.ex {α : Type} (f : α → Chunk) : Chunk where
  holds w F := ∃ a, (f a).holds w F
  fr h hf hS := by obtain ⟨a, h⟩ := h; exact ⟨a, (f a).fr h hf hS⟩
  lt h x hx := by obtain ⟨a, h⟩ := h; exact (f a).lt h x hx
section
variable {S : List Nat} {w0 w w' : World} {L : List Chunk}
/-- The piece at i is seen in another way. -/
theorem St.as (h : St S w0 w L) (i : Nat) {c : Chunk} (hi : L[i]? = some c) (c' : Chunk) (hc : ∀ F, c.holds w F → c'.holds w F) : St S w0 w (L.set i c') := by
  obtain ⟨F, h1, _, h2⟩ := h.at i hi
  exact h2 (Fr.refl _ _) (hc F h1) (fun x hx => .inl hx)
theorem St.unex (h : St S w0 w L) (i : Nat) {α : Type} {f : α → Chunk} (hi : L[i]? = some (Chunk.ex f)) : ∃ a, St S w0 w (L.set i (f a)) := by
  obtain ⟨F, ⟨a, h1⟩, _, h2⟩ := h.at i hi
  exact ⟨a, h2 (Fr.refl _ _) h1 (fun x hx => .inl hx)⟩
/-- The piece in front is two. -/
theorem St.split {c d : Chunk} (h : St S w0 w (Chunk.star c d :: L)) : St S w0 w (c :: d :: L) := by
  obtain ⟨h1, Fs, h2, h3⟩ := h
  obtain ⟨⟨F1, F2, e, k1, k2, k3⟩, k4⟩ := h2 0 _ rfl
  have q1 : ∀ x ∈ F1, x ∈ Fs 0 := fun x hx => by rw [e]; simp [hx]
  have q2 : ∀ x ∈ F2, x ∈ Fs 0 := fun x hx => by rw [e]; simp [hx]
  refine ⟨h1, fun i => match i with | 0 => F1 | 1 => F2 | i + 2 => Fs (i + 1), ?_, ?_⟩
  · intro i b hb
    match i with
    | 0 => simp at hb; subst hb; exact ⟨k1, fun x hx => k4 x (q1 x hx)⟩
    | 1 => simp at hb; subst hb; exact ⟨k2, fun x hx => k4 x (q2 x hx)⟩
    | i + 2 => exact h2 (i + 1) b (by simpa using hb)
  · intro i j hi hj hij x hx hx2
    simp only [List.length_cons] at hi hj
    match i, j with
    | 0, 0 => exact hij rfl
    | 1, 1 => exact hij rfl
    | 0, 1 => exact k3 x hx hx2
    | 1, 0 => exact k3 x hx2 hx
    | 0, j + 2 => exact h3 0 (j + 1) (by simp) (by simp; omega) (by omega) x (q1 x hx) hx2
    | 1, j + 2 => exact h3 0 (j + 1) (by simp) (by simp; omega) (by omega) x (q2 x hx) hx2
    | i + 2, 0 => exact h3 0 (i + 1) (by simp) (by simp; omega) (by omega) x (q1 x hx2) hx
    | i + 2, 1 => exact h3 0 (i + 1) (by simp) (by simp; omega) (by omega) x (q2 x hx2) hx
    | i + 2, j + 2 => exact h3 (i + 1) (j + 1) (by simp; omega) (by simp; omega) (by omega) x hx hx2
theorem St.join {c d : Chunk} (h : St S w0 w (c :: d :: L)) : St S w0 w (Chunk.star c d :: L) := by
  obtain ⟨h1, Fs, h2, h3⟩ := h
  obtain ⟨k1, k2⟩ := h2 0 _ rfl
  obtain ⟨k3, k4⟩ := h2 1 _ rfl
  refine ⟨h1, fun i => match i with | 0 => Fs 0 ++ Fs 1 | i + 1 => Fs (i + 2), ?_, ?_⟩
  · intro i b hb
    match i with
    | 0 =>
      simp at hb; subst hb
      refine ⟨⟨Fs 0, Fs 1, rfl, k1, k3, fun x hx => h3 0 1 (by simp) (by simp) (by omega) x hx⟩, fun x hx => ?_⟩
      rcases List.mem_append.1 hx with hx | hx
      · exact k2 x hx
      · exact k4 x hx
    | i + 1 => exact h2 (i + 2) b (by simpa using hb)
  · have out : ∀ j, j + 1 < (Chunk.star c d :: L).length → ∀ x ∈ Fs 0 ++ Fs 1, x ∉ Fs (j + 2) := by
      intro j hj x hx hx2
      simp at hj
      rcases List.mem_append.1 hx with hx | hx
      · exact h3 0 (j + 2) (by simp) (by simp; omega) (by omega) x hx hx2
      · exact h3 1 (j + 2) (by simp) (by simp; omega) (by omega) x hx hx2
    intro i j hi hj hij x hx hx2
    match i, j with
    | 0, 0 => exact hij rfl
    | 0, j + 1 => exact out j hj x hx hx2
    | i + 1, 0 => exact out i hi x hx2 hx
    | i + 1, j + 1 => exact h3 (i + 2) (j + 2) (by simp at hi ⊢; omega) (by simp at hj ⊢; omega) (by omega) x hx hx2
/-- The piece at i comes to the front; the one in front goes there. -/
theorem St.swap (h : St S w0 w L) (i j : Nat) {c d : Chunk} (hi : L[i]? = some c) (hj : L[j]? = some d) : St S w0 w ((L.set i d).set j c) := by
  have inb : ∀ {i : Nat} {c : Chunk}, L[i]? = some c → i < L.length := by
    intro i c hi
    rcases Nat.lt_or_ge i L.length with h | h
    · exact h
    · rw [List.getElem?_eq_none h] at hi; cases hi
  have hil := inb hi
  have hjl := inb hj
  refine h.pick _ (fun k => if k = j then i else if k = i then j else k) ?_ ?_
  · intro k e hk
    by_cases e1 : k = j
    · rw [if_pos e1]
      subst e1
      rw [List.getElem?_set_self (by simpa using hjl)] at hk
      rw [hi]; exact hk
    · rw [if_neg e1]
      rw [List.getElem?_set_ne (Ne.symm e1)] at hk
      by_cases e2 : k = i
      · rw [if_pos e2]
        subst e2
        rw [List.getElem?_set_self hil] at hk
        rw [hj]; exact hk
      · rw [if_neg e2]
        rw [List.getElem?_set_ne (Ne.symm e2)] at hk
        exact hk
  · intro a b _ _ hab
    by_cases a1 : a = j <;> by_cases b1 : b = j <;> by_cases a2 : a = i <;> by_cases b2 : b = i <;> simp_all
theorem perm_map {α : Type} {l l' : List α} (p : l.Perm l') : ∃ σ : Nat → Nat, (∀ i c, l'[i]? = some c → l[σ i]? = some c) ∧ ∀ i j, i < l'.length → j < l'.length → σ i = σ j → i = j := by
  induction p with
  | nil => exact ⟨id, by simp, by simp⟩
  | cons x p ih =>
    obtain ⟨σ, h1, h2⟩ := ih
    refine ⟨fun i => match i with | 0 => 0 | i + 1 => σ i + 1, ?_, ?_⟩
    · intro i c hc
      cases i with
      | zero => simpa using hc
      | succ i => simpa using h1 i c (by simpa using hc)
    · intro i j hi hj h
      cases i with
      | zero =>
        cases j with
        | zero => rfl
        | succ j => simp at h
      | succ i =>
        cases j with
        | zero => simp at h
        | succ j => simp at h hi hj; rw [h2 i j hi hj h]
  | swap x y l =>
    refine ⟨fun i => match i with | 0 => 1 | 1 => 0 | i + 2 => i + 2, ?_, ?_⟩
    · intro i c hc
      match i, hc with
      | 0, hc => simpa using hc
      | 1, hc => simpa using hc
      | i + 2, hc => simpa using hc
    · intro i j hi hj h
      match i, j, h with
      | 0, 0, _ => rfl
      | 1, 1, _ => rfl
      | 0, 1, h => simp at h
      | 1, 0, h => simp at h
      | 0, j + 2, h => simp at h
      | 1, j + 2, h => simp at h
      | i + 2, 0, h => simp at h
      | i + 2, 1, h => simp at h
      | i + 2, j + 2, h => simpa using h
  | trans p q ih1 ih2 =>
    obtain ⟨σ, h1, h2⟩ := ih1
    obtain ⟨τ, h3, h4⟩ := ih2
    refine ⟨fun i => σ (τ i), fun i c hc => h1 _ _ (h3 i c hc), fun i j hi hj h => h4 i j hi hj (h2 _ _ ?_ ?_ h)⟩
    · exact (List.getElem?_eq_some_iff.1 (h3 i _ (List.getElem?_eq_getElem hi))).1
    · exact (List.getElem?_eq_some_iff.1 (h3 j _ (List.getElem?_eq_getElem hj))).1
theorem St.perm (h : St S w0 w L) {L' : List Chunk} (p : L.Perm L') : St S w0 w L' := by
  obtain ⟨σ, h1, h2⟩ := perm_map p
  exact h.pick L' σ h1 h2
/-- The pieces at some places. -/
theorem St.sel (h : St S w0 w L) (idx : List Nat) (hnd : idx.Nodup) (L' : List Chunk) (hL : L'.map some = idx.map fun i => L[i]?) : St S w0 w L' := by
  have hlen : L'.length = idx.length := by simpa using congrArg List.length hL
  refine h.pick L' (fun i => idx.getD i 0) ?_ ?_
  · intro i c hc
    have hi : i < L'.length := (List.getElem?_eq_some_iff.1 hc).1
    have e := congrArg (fun l => l[i]?) hL
    have hi2 : i < idx.length := by omega
    simp only [List.getElem?_map, hc, Option.map_some] at e
    rw [List.getElem?_eq_getElem hi2, Option.map_some] at e
    rw [List.getD_eq_getElem?_getD, List.getElem?_eq_getElem hi2]
    exact (Option.some.inj e).symm
  · intro i j hi hj h
    have hi2 : i < idx.length := by omega
    have hj2 : j < idx.length := by omega
    simp only [List.getD_eq_getElem?_getD, List.getElem?_eq_getElem hi2, List.getElem?_eq_getElem hj2, Option.getD_some] at h
    have hp := List.pairwise_iff_getElem.1 hnd
    rcases Nat.lt_trichotomy i j with h1 | h1 | h1
    · exact absurd h (hp i j hi2 hj2 h1)
    · exact h1
    · exact absurd h.symm (hp j i hj2 hi2 h1)
end

end Go.Proofs.YtjmlfknogjaemaaDoor.Vc
/- Maps of any plain keys and values: what the operations do. -/
set_option linter.unusedVariables false
set_option linter.unusedSimpArgs false
set_option linter.unusedSectionVars false
namespace Go.Proofs.YtjmlfknogjaemaaDoor.Vc
namespace GM
open Go Go.MapKept
section
variable {K V : Type} [DecidableEq K]
/-- What a key's kind must keep: it may be one, it is found by its value, and it stays as it is. -/
structure KeyLaw (P : Program) (kt : TypeId) (enc : K → Value) : Prop where
  inj : ∀ a b, enc a = enc b → a = b
  check : ∀ (e : Bool) k w, (Instr.checkKey e 10000 kt (enc k)).run P w = .ok () w
  find : ∀ (k : K) (es : List MapEntry) (ks : List K) (w : World), es.map (·.key) = ks.map enc → (Instr.findKey kt (enc k) es).run P w = .ok (match ks.findIdx? (fun x => decide (x = k)) with | some j => (es[j]?).map fun e => (j, e.val) | none => none) w
  stays : ∀ k w, (Instr.keyThatStays (enc k) (enc k)).run P w = .ok (enc k) w
theorem findNow_law {d : TypeDesc} {enc : K → Value} (hs : ∀ a b, Instr.sameNow d (enc a) (enc b) = some (decide (a = b))) (k : K) : ∀ (es : List MapEntry) (ks : List K) (i : Nat), es.map (·.key) = ks.map enc →
    Instr.findNow d (enc k) es i = some (match ks.findIdx? (fun x => decide (x = k)) with | some j => (es[j]?).map fun e => (i + j, e.val) | none => none)
  | [], [], i, _ => rfl
  | [], _ :: _, _, h => by simp at h
  | _ :: _, [], _, h => by simp at h
  | e :: es, x :: ks, i, h => by
    simp only [List.map_cons, List.cons.injEq] at h
    simp only [Instr.findNow, h.1, hs, List.findIdx?_cons]
    by_cases hk : x = k
    · subst hk; simp
    · have e1 : decide (k = x) = false := by simp [Ne.symm hk]
      have e2 : decide (x = k) = false := by simp [hk]
      simp only [e1, e2, Bool.false_eq_true, if_false]
      rw [findNow_law hs k es ks (i + 1) h.2]
      cases List.findIdx? (fun x => decide (x = k)) ks with
      | none => rfl
      | some j =>
        simp only [Option.map_some, List.getElem?_cons_succ]
        congr 2
        funext e
        congr 1; omega
theorem findAsking_law {P : Program} {kt : TypeId} {enc : K → Value} (hq : ∀ a b w, (Op.equal kt (enc a) (enc b)).run P w = .ok (decide (a = b)) w) (k : K) (w : World) : ∀ (es : List MapEntry) (ks : List K) (i : Nat), es.map (·.key) = ks.map enc →
    (Instr.findAsking kt (enc k) es i).run P w = .ok (match ks.findIdx? (fun x => decide (x = k)) with | some j => (es[j]?).map fun e => (i + j, e.val) | none => none) w
  | [], [], i, _ => by simp [Instr.findAsking]
  | [], _ :: _, _, h => by simp at h
  | _ :: _, [], _, h => by simp at h
  | e :: es, x :: ks, i, h => by
    simp only [List.map_cons, List.cons.injEq] at h
    simp only [Instr.findAsking, h.1, Sem.run_bind, hq, Result.andThen_ok, List.findIdx?_cons]
    by_cases hk : x = k
    · subst hk; simp
    · have e1 : decide (k = x) = false := by simp [Ne.symm hk]
      have e2 : decide (x = k) = false := by simp [hk]
      simp only [e1, e2, Bool.false_eq_true, if_false]
      rw [findAsking_law hq k w es ks (i + 1) h.2]
      cases List.findIdx? (fun x => decide (x = k)) ks with
      | none => rfl
      | some j =>
        simp only [Option.map_some, List.getElem?_cons_succ]
        congr 2
        funext e
        congr 1; omega
theorem findNow_none {d : TypeDesc} {enc : K → Value} (hs : ∀ a b, Instr.sameNow d (enc a) (enc b) = none) (k : K) (e : MapEntry) (es : List MapEntry) (x : K) (hx : e.key = enc x) (i : Nat) : Instr.findNow d (enc k) (e :: es) i = none := by
  simp [Instr.findNow, hx, hs]
/-- Keys that are compared at once: numbers, texts. -/
theorem KeyLaw.now {P : Program} {kt : TypeId} {d : TypeDesc} {enc : K → Value} (hu : P.underlying kt = some d) (hk : ∀ k, IsKey d (enc k)) (hi : ∀ a b, enc a = enc b → a = b) (hs : ∀ a b, Instr.sameNow d (enc a) (enc b) = some (decide (a = b)))
    (hst : ∀ k w, (Instr.keyThatStays (enc k) (enc k)).run P w = .ok (enc k) w) : KeyLaw P kt enc where
  inj := hi
  check e k w := run_checkKey hu (hk k) e 9999
  find k es ks w h := by
    have := run_findKey (w := w) hu (findNow_law hs k es ks 0 h)
    simpa using this
  stays := hst
/-- Keys that are asked: structs, arrays. -/
theorem KeyLaw.asked {P : Program} {kt : TypeId} {d : TypeDesc} {enc : K → Value} (hu : P.underlying kt = some d) (hc : ∀ (e : Bool) k w, (Instr.checkKey e 10000 kt (enc k)).run P w = .ok () w) (hi : ∀ a b, enc a = enc b → a = b) (hs : ∀ a b, Instr.sameNow d (enc a) (enc b) = none)
    (hq : ∀ a b w, (Op.equal kt (enc a) (enc b)).run P w = .ok (decide (a = b)) w) (hst : ∀ k w, (Instr.keyThatStays (enc k) (enc k)).run P w = .ok (enc k) w) : KeyLaw P kt enc where
  inj := hi
  check := hc
  find k es ks w h := by
    match es, ks, h with
    | [], [], _ => simp [Instr.findKey, run_underlying hu, Instr.findNow]
    | e :: es, x :: ks, h =>
      have h2 := h
      simp only [List.map_cons, List.cons.injEq] at h2
      have := findAsking_law hq k w (e :: es) (x :: ks) 0 h
      simp only [Instr.findKey, Sem.run_bind, run_underlying hu, Result.andThen_ok, findNow_none hs k e es x h2.1 0]
      simpa using this
  stays := hst
/-- Texts as keys. -/
theorem beq_text (a b : ByteArray) : (a == b) = decide (a = b) := by
  rw [Bool.eq_iff_iff, bytes_beq]; simp
theorem KeyLaw.text {P : Program} {kt : TypeId} (hu : P.underlying kt = some .string) : KeyLaw P kt (fun s : ByteArray => Value.string s) :=
  KeyLaw.now hu (fun k => by simp [IsKey]) (fun a b h => by simpa using h) (fun a b => by simp [Instr.sameNow, beq_text])
    (fun k w => by simp [Instr.keyThatStays, Instr.sameBits, beq_text])
/-- Numbers as keys. -/
theorem KeyLaw.num {P : Program} {kt : TypeId} {i : IntKind} (hu : P.underlying kt = some (.int i)) : KeyLaw P kt (fun n : Int => Value.int i n) :=
  KeyLaw.now hu (fun k => by simp [IsKey]) (fun a b h => by simpa using h) (fun a b => by
      simp only [Instr.sameNow, if_pos]
      rw [Option.some.injEq, Bool.eq_iff_iff]; simp)
    (fun k w => by simp [Instr.keyThatStays, Instr.sameBits])
/-- A map in the heap. -/
def MapIs (encK : K → Value) (encV : V → Value) (w : World) (r : Nat) (l : List (K × V)) : Prop :=
  ∃ es clock, w.heap[r]? = some (.map es clock) ∧ es.toList.map (fun e => (e.key, e.val)) = l.map (fun p => (encK p.1, encV p.2)) ∧ Stamped es clock
def idx (l : List (K × V)) (k : K) : Option Nat := (l.map (·.1)).findIdx? (fun x => decide (x = k))
def get (d : V) (l : List (K × V)) (k : K) : V := match idx l k with | some j => (l.map (·.2)).getD j d | none => d
def has (l : List (K × V)) (k : K) : Bool := (idx l k).isSome
def put (l : List (K × V)) (k : K) (v : V) : List (K × V) := match idx l k with | some j => l.set j (k, v) | none => l ++ [(k, v)]
variable {encK : K → Value} {encV : V → Value}
theorem MapIs.lt {w : World} {r : Nat} {l : List (K × V)} (h : MapIs encK encV w r l) : r < w.heap.size := by
  obtain ⟨es, c, h, _⟩ := h
  exact (Array.getElem?_eq_some_iff.1 h).1
theorem MapIs.fr {S : List Nat} {w w' : World} {r : Nat} {l : List (K × V)} (h : MapIs encK encV w r l) (hf : Fr S w w') (hr : r ∉ S) : MapIs encK encV w' r l := by
  have hl := h.lt
  obtain ⟨es, c, h, h2⟩ := h
  exact ⟨es, c, by rw [hf.2 r hl hr, h], h2⟩
theorem MapIs.new (w : World) : MapIs encK encV (w.alloc (.map #[] 0)) w.heap.size [] := ⟨#[], 0, heap_alloc_new w _, rfl, stamped_empty 0⟩
theorem fr_map {w : World} {r : Nat} {es : Array MapEntry} {c : Nat} (h : w.heap[r]? = some (.map es c)) (es' : Array MapEntry) (c' : Nat) : Fr [r] w { w with heap := w.heap.setIfInBounds r (.map es' c') } := by
  refine ⟨by simp, fun b hb hS => (heap_set (o' := .map es' c') h).2 b (by simpa using hS), rfl, rfl, fun a _ => ?_⟩
  obtain ⟨h1, h2⟩ := heap_set (o' := .map es' c') h
  unfold World.frozen?
  by_cases ha : a.block = r
  · simp only [ha, h1, h]
  · simp only [h2 _ ha]
theorem keys_of {es : List MapEntry} {l : List (K × V)} (h : es.map (fun e => (e.key, e.val)) = l.map (fun p => (encK p.1, encV p.2))) : es.map (·.key) = (l.map (·.1)).map encK := by
  have := congrArg (List.map Prod.fst) h
  simpa [List.map_map, Function.comp_def] using this
theorem val_of {es : List MapEntry} {l : List (K × V)} (h : es.map (fun e => (e.key, e.val)) = l.map (fun p => (encK p.1, encV p.2))) {j : Nat} {d : V} (hj : j < l.length) : ∃ e, es[j]? = some e ∧ e.key = encK (l[j]).1 ∧ e.val = encV ((l.map (·.2)).getD j d) := by
  have hl : es.length = l.length := by simpa using congrArg List.length h
  have := congrArg (fun x => x[j]?) h
  simp only [List.getElem?_map] at this
  rw [List.getElem?_eq_getElem (show j < es.length by omega), List.getElem?_eq_getElem hj] at this
  simp only [Option.map_some, Option.some.injEq, Prod.mk.injEq] at this
  exact ⟨es[j], List.getElem?_eq_getElem _, this.1, by rw [this.2]; simp [List.getD_eq_getElem?_getD, hj]⟩
section
variable {P : Program} {w : World} {r : Nat} {l : List (K × V)} {t kt et : TypeId}
theorem look {i : TypeInfo} (ht : P.underlying t = some (.map kt et)) (hk : KeyLaw P kt encK) {d : V} (hi : P.info? et = some i) (hz : i.zero = some (encV d)) (h : MapIs encK encV w r l) (k : K) (ok : Bool) :
    (Instr.lookup t (.map (some r)) (encK k) ok).run P w = .ok (if ok then .tuple #[encV (get d l k), .bool (has l k)] else encV (get d l k)) w := by
  obtain ⟨es, c, h, h2, hs⟩ := h
  have hf := hk.find k es.toList (l.map (·.1)) w (keys_of h2)
  simp only [Instr.lookup, Sem.run_bind, run_underlying ht, Result.andThen_ok, Go.MapKept.run_getObj_map h, Sem.run_pure, hk.check, hf]
  unfold get has
  cases hx : idx l k with
  | none =>
    unfold idx at hx
    simp only [hx]
    cases ok <;> simp [zeroValue, typeInfo, hi, hz]
  | some j =>
    have hx' := hx
    unfold idx at hx
    have hj : j < l.length := by
      obtain ⟨h, _⟩ := List.findIdx?_eq_some_iff_getElem.mp hx
      simpa using h
    obtain ⟨e, e1, e2, e3⟩ := val_of (d := d) h2 hj
    simp only [hx, e1, Option.map_some, e3]
    cases ok <;> simp
theorem upd (ht : P.underlying t = some (.map kt et)) (hk : KeyLaw P kt encK) (h : MapIs encK encV w r l) (k : K) (v : V) :
    ∃ w', (Instr.mapUpdate t (.map (some r)) (encK k) (encV v)).run P w = .ok () w' ∧ MapIs encK encV w' r (put l k v) ∧ Fr [r] w w' := by
  obtain ⟨es, c, h, h2, hs⟩ := h
  have hf := hk.find k es.toList (l.map (·.1)) w (keys_of h2)
  have hlen : es.size = l.length := by simpa using congrArg List.length h2
  simp only [Instr.mapUpdate, Sem.run_bind, run_underlying ht, Result.andThen_ok, Go.MapKept.run_getObj_map h, hk.check, hf]
  cases hx : idx l k with
  | none =>
    have hx' := hx
    unfold idx at hx
    simp only [hx, Go.MapKept.run_setObj_map _ h]
    refine ⟨_, rfl, ⟨_, _, (heap_set h).1, ?_, stamped_push hs ?_⟩, fr_map h _ _⟩
    · simp [put, hx', h2]
    · intro x hxm he
      have h3 : (x.key, x.val) ∈ es.toList.map (fun e => (e.key, e.val)) := List.mem_map.2 ⟨x, hxm, rfl⟩
      rw [h2] at h3
      obtain ⟨p, hp, he2⟩ := List.mem_map.1 h3
      simp only [Prod.mk.injEq] at he2
      rw [he] at he2
      have h4 := hk.inj _ _ he2.1
      have h5 := List.findIdx?_eq_none_iff.1 hx p.1 (List.mem_map.2 ⟨p, hp, rfl⟩)
      simp [h4] at h5
  | some j =>
    have hx' := hx
    unfold idx at hx
    obtain ⟨hjl, hjk, _⟩ := List.findIdx?_eq_some_iff_getElem.mp hx
    have hj : j < l.length := by simpa using hjl
    have hkj : (l[j]).1 = k := by simpa using hjk
    obtain ⟨e, e1, e2, e3⟩ := val_of (d := v) h2 hj
    have hjs : j < es.size := by omega
    have e1' : es[j]? = some e := by simpa using e1
    have hst : (Instr.keyThatStays (((es[j]?).map (·.key)).getD (encK k)) (encK k)).run P w = .ok (encK k) w := by
      rw [e1']
      simp only [Option.map_some, Option.getD_some, e2, hkj]
      exact hk.stays k w
    simp only [hx, e1, Option.map_some, Sem.run_bind, hst, Result.andThen_ok, Go.MapKept.run_setObj_map _ h]
    refine ⟨_, rfl, ⟨_, _, (heap_set h).1, ?_, stamped_modify hs _ _ (fun _ _ => rfl) ?_⟩, fr_map h _ _⟩
    rotate_left
    · intro e' _ he
      rw [e1'] at he
      injection he with he
      subst he
      rw [e2, hkj]
    simp only [put, hx']
    apply List.ext_getElem?
    intro q
    have hq := congrArg (fun x => x[q]?) h2
    simp only [List.getElem?_map, Array.getElem?_toList] at hq
    simp only [List.getElem?_map, Array.getElem?_toList, Array.getElem?_modify, List.getElem?_set]
    by_cases hqj : j = q
    · subst hqj
      simp [hjs, hj]
    · simp [hqj, hq]
theorem len {ty : TypeId} (ht : P.underlying t = some (.map kt et)) (h : MapIs encK encV w r l) : (Builtin.len_ #[t] ty #[.map (some r)]).run P w = .ok (.int .i64 (l.length : Int)) w := by
  obtain ⟨es, c, h, h2, _⟩ := h
  have hlen : es.size = l.length := by simpa using congrArg List.length h2
  simp [Builtin.len_, run_underlying ht, Go.MapKept.run_getObj_map h, goInt, hlen]
end
end
end GM
end Go.Proofs.YtjmlfknogjaemaaDoor.Vc
/- Maps as owned pieces of memory. -/
set_option linter.unusedVariables false
set_option linter.unusedSimpArgs false
namespace Go.Proofs.YtjmlfknogjaemaaDoor.Vc
open Go
section
variable {K V : Type} [DecidableEq K]
def Chunk.map (encK : K → Value) (encV : V → Value) (r : Nat) (l : List (K × V)) : Chunk where
  holds w F := F = [r] ∧ GM.MapIs encK encV w r l
  fr h hf hS := ⟨h.1, h.2.fr hf (hS r (by simp [h.1]))⟩
  lt h x hx := by
    rw [h.1] at hx
    simp at hx
    subst hx
    exact h.2.lt
variable {encK : K → Value} {encV : V → Value} {S : List Nat} {w0 w : World} {L : List Chunk} {P : Program} {t kt et : TypeId} {r : Nat} {l : List (K × V)}
theorem St.mapNew (h : St S w0 w L) : St S w0 (World.alloc w (.map #[] 0)) (Chunk.map encK encV w.heap.size [] :: L) :=
  h.new (Fr.refl [] w).allocM ⟨rfl, GM.MapIs.new w⟩ (by simp)
theorem St.mapIs (h : St S w0 w L) (i : Nat) (hi : L[i]? = some (Chunk.map encK encV r l)) : GM.MapIs encK encV w r l := by
  obtain ⟨F, h1, _⟩ := h.at i hi
  exact h1.2
theorem St.mapUpd (h : St S w0 w L) (i : Nat) (hi : L[i]? = some (Chunk.map encK encV r l)) (ht : P.underlying t = some (.map kt et)) (hk : GM.KeyLaw P kt encK) (k : K) (v : V) :
    ∃ w', (Instr.mapUpdate t (.map (some r)) (encK k) (encV v)).run P w = .ok () w' ∧ St S w0 w' (L.set i (Chunk.map encK encV r (GM.put l k v))) := by
  obtain ⟨F, h1, _, h3⟩ := h.at i hi
  obtain ⟨w', q1, q2, q3⟩ := GM.upd ht hk h1.2 k v
  exact ⟨w', q1, h3 (F' := F) (by rw [h1.1]; exact q3) ⟨h1.1, q2⟩ (fun x hx => .inl hx)⟩
end
end Go.Proofs.YtjmlfknogjaemaaDoor.Vc
/- An index of texts, as a plain list; a map of texts to their numbers says the same. -/
set_option linter.unusedVariables false
set_option linter.unusedSimpArgs false
namespace Go.Proofs.YtjmlfknogjaemaaDoor.Vc
open Go
namespace IX
/-- The place of a thing, from 1 on; 0: it has none. -/
def num (l : List ByteArray) (s : ByteArray) : Nat := match l.findIdx? (fun x => decide (x = s)) with | some j => j + 1 | none => 0
/-- What asking for a thing's number does. -/
def of (l : List ByteArray) (s : ByteArray) : List ByteArray := if num l s = 0 then (if l.length ≥ 1048576 then l else l ++ [s]) else l
def ofN (l : List ByteArray) (s : ByteArray) : Nat := if num l s = 0 then (if l.length ≥ 1048576 then 0 else l.length + 1) else num l s
/-- The map that belongs to a list of things. -/
def pairs (l : List ByteArray) : List (ByteArray × Int) := l.zipIdx.map fun p => (p.1, ((p.2 + 1 : Nat) : Int))
theorem pairs_keys (l : List ByteArray) : (pairs l).map (·.1) = l := by
  unfold pairs
  rw [List.map_map]
  have : ((fun p : ByteArray × Int => p.1) ∘ fun p : ByteArray × Nat => (p.1, ((p.2 + 1 : Nat) : Int))) = Prod.fst := rfl
  rw [this]
  simp
theorem pairs_snoc (l : List ByteArray) (s : ByteArray) : pairs (l ++ [s]) = pairs l ++ [(s, ((l.length + 1 : Nat) : Int))] := by
  simp [pairs, List.zipIdx_append]
theorem pairs_vals (l : List ByteArray) {j : Nat} (hj : j < l.length) (d : Int) : ((pairs l).map (·.2)).getD j d = ((j + 1 : Nat) : Int) := by
  simp [pairs, List.getD_eq_getElem?_getD, hj]
theorem get_pairs (l : List ByteArray) (s : ByteArray) : GM.get 0 (pairs l) s = (num l s : Int) ∧ GM.has (pairs l) s = decide (num l s ≠ 0) := by
  unfold GM.get GM.has GM.idx num
  rw [pairs_keys]
  cases hx : l.findIdx? (fun x => decide (x = s)) with
  | none => simp
  | some j =>
    obtain ⟨hj, _⟩ := List.findIdx?_eq_some_iff_getElem.mp hx
    simp only [Option.isSome_some]
    refine ⟨pairs_vals l hj 0, ?_⟩
    simp
theorem put_pairs (l : List ByteArray) (s : ByteArray) (h : num l s = 0) : GM.put (pairs l) s ((l.length + 1 : Nat) : Int) = pairs (l ++ [s]) := by
  have hi : GM.idx (pairs l) s = none := by
    unfold GM.idx
    rw [pairs_keys]
    unfold num at h
    cases hx : l.findIdx? (fun x => decide (x = s)) with
    | none => rfl
    | some j => rw [hx] at h; simp at h
  unfold GM.put
  rw [hi, pairs_snoc]
end IX
end Go.Proofs.YtjmlfknogjaemaaDoor.Vc
/- The plain statements of some functions, printed by vcgen.py. -/
set_option maxRecDepth 100000
set_option maxHeartbeats 4000000
set_option linter.unusedVariables false
namespace Go.Proofs.YtjmlfknogjaemaaDoor
open Go Go.Proofs.YtjmlfknogjaemaaDoor.Vc
theorem W0.mixed : Tryd.prog.follows .mixedOrders = true := by kernel_rfl
/-- gatehouse/page.Hash -/
def f22.AL : Nat → Option Ann := fun _ => none
def f22.AC : Nat → Option Ann := fun _ => none
def f22.VC (xa0 : Int) (xa1 : Int) (w : World) (R : Value → World → Prop) : Prop :=
  sel (decide ((xa1 : Int) < (1 : Int))) (
  R (.int .i64 0) w) (
  let b0 : Int := IntKind.i64.wrap (xa0 * 40503);
  let d0 : Int := IntKind.u16.wrap b0;
  let g0 : Int := IntKind.i64.wrap d0;
  xa1 ≠ (0 : Int) ∧
  let h0 : Int := Int.tmod g0 xa1;
  R (.int .i64 h0) w)
theorem f22.eq (xa0 : Int) (xa1 : Int) (w : World) (R : Value → World → Prop) : f22.VC xa0 xa1 w R = funV Tryd.prog Tryd.f22 f22.AL f22.AC #[.int .i64 xa0, .int .i64 xa1] w R := by kernel_rfl
theorem f22.calls {xa0 : Int} {xa1 : Int} {w : World} {R : Value → World → Prop} (h : f22.VC xa0 xa1 w R) : Calls Tryd.prog 22 #[.int .i64 xa0, .int .i64 xa1] w fun e w' => ∃ v, e = .returned v ∧ R v w' :=
  funV_sound (fn := Tryd.f22) (AL := f22.AL) (AC := f22.AC) W0.mixed (by kernel_rfl) (by rw [← f22.eq xa0 xa1]; exact h)

/-- gatehouse/gatehouselaw12.sameInts -/
def f15.AL : Nat → Option Ann := fun r => match r with | 4 => some ⟨[(5, .int .i64)], [0, 1]⟩ | _ => none
def f15.AC : Nat → Option Ann := fun _ => none
def f15.VC (Aa0 : Option Addr) (na0 ca0 : Nat) (Aa1 : Option Addr) (na1 ca1 : Nat) (w : World) (R : Value → World → Prop) : Prop :=
  sel (((na0 : Int) : Int) != ((na1 : Int) : Int)) (
  R (.bool false) w) (
  ∃ b0 : Int → World → Nat → Prop,
  (∃ n, b0 0 w n) ∧
  ∀ d0 : Env, ∀ g0 h0 i0, b0 g0 h0 i0 →
  sel (decide ((g0 : Int) < ((na0 : Int) : Int))) (
  (0 : Int) ≤ g0 ∧ g0 < (na0 : Int) ∧
  needPtr Aa0 fun j0 k0 =>
  (0 : Int) ≤ g0 ∧ g0 < (na1 : Int) ∧
  needPtr Aa1 fun p0 q0 =>
  ∃ t0,
  h0.cell? ⟨j0, k0 + g0.toNat * 1, none⟩ = some (.int .i64 t0) ∧
  ∃ u0,
  h0.cell? ⟨p0, q0 + g0.toNat * 1, none⟩ = some (.int .i64 u0) ∧
  sel ((t0 : Int) != (u0 : Int)) (
  R (.bool false) h0.drew) (
  let v0 : Int := IntKind.i64.wrap (g0 + 1);
  ([.slice Aa0 na0 ca0, .slice Aa1 na1 ca1] : List Value) = ([.slice Aa0 na0 ca0, .slice Aa1 na1 ca1] : List Value) ∧ ∃ m, m < i0 ∧ b0 v0 h0.drew m)) (
  R (.bool true) h0))
theorem f15.eq (Aa0 : Option Addr) (na0 ca0 : Nat) (Aa1 : Option Addr) (na1 ca1 : Nat) (w : World) (R : Value → World → Prop) : f15.VC Aa0 na0 ca0 Aa1 na1 ca1 w R = funV Tryd.prog Tryd.f15 f15.AL f15.AC #[.slice Aa0 na0 ca0, .slice Aa1 na1 ca1] w R := by kernel_rfl
theorem f15.calls {Aa0 : Option Addr} {na0 ca0 : Nat} {Aa1 : Option Addr} {na1 ca1 : Nat} {w : World} {R : Value → World → Prop} (h : f15.VC Aa0 na0 ca0 Aa1 na1 ca1 w R) : Calls Tryd.prog 15 #[.slice Aa0 na0 ca0, .slice Aa1 na1 ca1] w fun e w' => ∃ v, e = .returned v ∧ R v w' :=
  funV_sound (fn := Tryd.f15) (AL := f15.AL) (AC := f15.AC) W0.mixed (by kernel_rfl) (by rw [← f15.eq Aa0 na0 ca0 Aa1 na1 ca1]; exact h)

/-- gatehouse/gatehouselaw12.copied -/
def f14.AL : Nat → Option Ann := fun r => match r with | 4 => some ⟨[(5, .slice), (6, .int .i64)], [1]⟩ | _ => none
def f14.AC : Nat → Option Ann := fun _ => none
def f14.VC (Aa0 : Option Addr) (na0 ca0 : Nat) (xa1 : Int) (w : World) (R : Value → World → Prop) : Prop :=
  ∃ b0 d0 g0,
  ∃ h0, (Builtin.append_ #[28, 28] 28 #[.slice none 0 0, .slice Aa0 na0 ca0]).run Tryd.prog w = .ok (.slice b0 d0 g0) h0 ∧
  ∃ i0 : Option Addr → Nat → Nat → Int → World → Nat → Prop,
  (∃ n, i0 b0 d0 g0 0 h0 n) ∧
  ∀ j0 : Env, ∀ k0 p0 q0 t0 u0 v0, i0 k0 p0 q0 t0 u0 v0 →
  sel (decide ((t0 : Int) < (xa1 : Int))) (
  let x0 : Int := IntKind.i64.wrap ((-7000) - t0);
  let y0 := World.alloc u0 (.cells #[.int .i64 x0] 3);
  ∃ z0 b1 d1,
  ∃ g1, (Builtin.append_ #[28, 28] 28 #[.slice k0 p0 q0, .slice (some ⟨u0.heap.size, 0, none⟩) 1 1]).run Tryd.prog y0 = .ok (.slice z0 b1 d1) g1 ∧
  let h1 : Int := IntKind.i64.wrap (t0 + 1);
  ([.int .i64 xa1] : List Value) = ([.int .i64 xa1] : List Value) ∧ ∃ m, m < v0 ∧ i0 z0 b1 d1 h1 g1 m) (
  R (.slice k0 p0 q0) u0)
theorem f14.eq (Aa0 : Option Addr) (na0 ca0 : Nat) (xa1 : Int) (w : World) (R : Value → World → Prop) : f14.VC Aa0 na0 ca0 xa1 w R = funV Tryd.prog Tryd.f14 f14.AL f14.AC #[.slice Aa0 na0 ca0, .int .i64 xa1] w R := by kernel_rfl
theorem f14.calls {Aa0 : Option Addr} {na0 ca0 : Nat} {xa1 : Int} {w : World} {R : Value → World → Prop} (h : f14.VC Aa0 na0 ca0 xa1 w R) : Calls Tryd.prog 14 #[.slice Aa0 na0 ca0, .int .i64 xa1] w fun e w' => ∃ v, e = .returned v ∧ R v w' :=
  funV_sound (fn := Tryd.f14) (AL := f14.AL) (AC := f14.AC) W0.mixed (by kernel_rfl) (by rw [← f14.eq Aa0 na0 ca0 xa1]; exact h)

/-- gatehouse/names.NewIndex[string] -/
def f6.AL : Nat → Option Ann := fun _ => none
def f6.AC : Nat → Option Ann := fun _ => none
def f6.VC  (w : World) (R : Value → World → Prop) : Prop :=
  let b0 := World.alloc w (.map #[] 0);
  let d0 := World.alloc b0 (.cells #[.map (some w.heap.size), .slice none 0 0] 53);
  R (.pointer (some ⟨b0.heap.size, 0, none⟩)) d0
theorem f6.eq  (w : World) (R : Value → World → Prop) : f6.VC  w R = funV Tryd.prog Tryd.f6 f6.AL f6.AC #[] w R := by kernel_rfl
theorem f6.calls {w : World} {R : Value → World → Prop} (h : f6.VC  w R) : Calls Tryd.prog 6 #[] w fun e w' => ∃ v, e = .returned v ∧ R v w' :=
  funV_sound (fn := Tryd.f6) (AL := f6.AL) (AC := f6.AC) W0.mixed (by kernel_rfl) (by rw [← f6.eq ]; exact h)

/-- (*gatehouse/names.Index[string]).Len -/
def f11.AL : Nat → Option Ann := fun _ => none
def f11.AC : Nat → Option Ann := fun _ => none
def f11.VC (a0 : Nat) (w : World) (R : Value → World → Prop) : Prop :=
  ∃ b0 d0 g0,
  w.cell? ⟨a0, 1, none⟩ = some (.slice b0 d0 g0) ∧
  R (.int .i64 (d0 : Int)) w
theorem f11.eq (a0 : Nat) (w : World) (R : Value → World → Prop) : f11.VC a0 w R = funV Tryd.prog Tryd.f11 f11.AL f11.AC #[.pointer (some ⟨a0, 0, none⟩)] w R := by kernel_rfl
theorem f11.calls {a0 : Nat} {w : World} {R : Value → World → Prop} (h : f11.VC a0 w R) : Calls Tryd.prog 11 #[.pointer (some ⟨a0, 0, none⟩)] w fun e w' => ∃ v, e = .returned v ∧ R v w' :=
  funV_sound (fn := Tryd.f11) (AL := f11.AL) (AC := f11.AC) W0.mixed (by kernel_rfl) (by rw [← f11.eq a0]; exact h)

/-- (*gatehouse/names.Index[string]).At -/
def f53.AL : Nat → Option Ann := fun _ => none
def f53.AC : Nat → Option Ann := fun _ => none
def f53.VC (a0 : Nat) (xa1 : Int) (w : World) (R : Value → World → Prop) : Prop :=
  sel (decide ((xa1 : Int) < (1 : Int))) (
  R (.tuple #[.string ⟨#[]⟩, .bool false]) w) (
  ∃ b0 d0 g0,
  w.cell? ⟨a0, 1, none⟩ = some (.slice b0 d0 g0) ∧
  sel (decide (((d0 : Int) : Int) < (xa1 : Int))) (
  R (.tuple #[.string ⟨#[]⟩, .bool false]) w) (
  ∃ h0 i0 j0,
  w.cell? ⟨a0, 1, none⟩ = some (.slice h0 i0 j0) ∧
  let k0 : Int := IntKind.i64.wrap (xa1 - 1);
  (0 : Int) ≤ k0 ∧ k0 < (i0 : Int) ∧
  needPtr h0 fun p0 q0 =>
  ∃ t0,
  w.cell? ⟨p0, q0 + k0.toNat * 1, none⟩ = some (.string t0) ∧
  R (.tuple #[.string t0, .bool true]) w))
theorem f53.eq (a0 : Nat) (xa1 : Int) (w : World) (R : Value → World → Prop) : f53.VC a0 xa1 w R = funV Tryd.prog Tryd.f53 f53.AL f53.AC #[.pointer (some ⟨a0, 0, none⟩), .int .i64 xa1] w R := by kernel_rfl
theorem f53.calls {a0 : Nat} {xa1 : Int} {w : World} {R : Value → World → Prop} (h : f53.VC a0 xa1 w R) : Calls Tryd.prog 53 #[.pointer (some ⟨a0, 0, none⟩), .int .i64 xa1] w fun e w' => ∃ v, e = .returned v ∧ R v w' :=
  funV_sound (fn := Tryd.f53) (AL := f53.AL) (AC := f53.AC) W0.mixed (by kernel_rfl) (by rw [← f53.eq a0 xa1]; exact h)

/-- (*gatehouse/page.eye).read -/
def f45.AL : Nat → Option Ann := fun _ => none
def f45.AC : Nat → Option Ann := fun _ => none
def f45.VC (a0 : Nat) (xa1 : Int) (w : World) (R : Value → World → Prop) : Prop :=
  sel (decide ((xa1 : Int) < (0 : Int))) (
  R (.tuple #[.int .i64 0, .bool false]) w) (
  ∃ b0 d0 g0,
  w.cell? ⟨a0, 0, none⟩ = some (.slice b0 d0 g0) ∧
  sel (decide (((d0 : Int) : Int) ≤ (xa1 : Int))) (
  R (.tuple #[.int .i64 0, .bool false]) w) (
  ∃ h0,
  w.cell? ⟨a0, 1, none⟩ = some (.int .i64 h0) ∧
  let i0 : Int := IntKind.i64.wrap (h0 + 1);
  canStore w a0 1 1 ∧
  let j0 := setCs w a0 1 [.int .i64 i0];
  ∃ k0 p0 q0,
  j0.cell? ⟨a0, 0, none⟩ = some (.slice k0 p0 q0) ∧
  (0 : Int) ≤ xa1 ∧ xa1 < (p0 : Int) ∧
  needPtr k0 fun t0 u0 =>
  ∃ v0,
  j0.cell? ⟨t0, u0 + xa1.toNat * 1, none⟩ = some (.int .i64 v0) ∧
  R (.tuple #[.int .i64 v0, .bool true]) j0))
theorem f45.eq (a0 : Nat) (xa1 : Int) (w : World) (R : Value → World → Prop) : f45.VC a0 xa1 w R = funV Tryd.prog Tryd.f45 f45.AL f45.AC #[.pointer (some ⟨a0, 0, none⟩), .int .i64 xa1] w R := by kernel_rfl
theorem f45.calls {a0 : Nat} {xa1 : Int} {w : World} {R : Value → World → Prop} (h : f45.VC a0 xa1 w R) : Calls Tryd.prog 45 #[.pointer (some ⟨a0, 0, none⟩), .int .i64 xa1] w fun e w' => ∃ v, e = .returned v ∧ R v w' :=
  funV_sound (fn := Tryd.f45) (AL := f45.AL) (AC := f45.AC) W0.mixed (by kernel_rfl) (by rw [← f45.eq a0 xa1]; exact h)

/-- gatehouse/page.power -/
def f46.AL : Nat → Option Ann := fun _ => none
def f46.AC : Nat → Option Ann := fun _ => none
def f46.VC (xa0 : Int) (w : World) (R : Value → World → Prop) : Prop :=
  sel (decide ((2 : Int) ≤ (xa0 : Int))) (
  sel (decide ((xa0 : Int) ≤ (4096 : Int))) (
  let b0 : Int := IntKind.i64.wrap (xa0 - 1);
  let d0 : Int := bitsI .and .i64 xa0 b0;
  R (.bool ((d0 : Int) == (0 : Int))) w) (
  R (.bool false) w)) (
  R (.bool false) w)
theorem f46.eq (xa0 : Int) (w : World) (R : Value → World → Prop) : f46.VC xa0 w R = funV Tryd.prog Tryd.f46 f46.AL f46.AC #[.int .i64 xa0] w R := by kernel_rfl
theorem f46.calls {xa0 : Int} {w : World} {R : Value → World → Prop} (h : f46.VC xa0 w R) : Calls Tryd.prog 46 #[.int .i64 xa0] w fun e w' => ∃ v, e = .returned v ∧ R v w' :=
  funV_sound (fn := Tryd.f46) (AL := f46.AL) (AC := f46.AC) W0.mixed (by kernel_rfl) (by rw [← f46.eq xa0]; exact h)

/-- (*gatehouse/names.Index[string]).Find -/
def f10.AL : Nat → Option Ann := fun _ => none
def f10.AC : Nat → Option Ann := fun _ => none
def f10.VC (a0 : Nat) (sa1 : ByteArray) (w : World) (R : Value → World → Prop) : Prop :=
  ∃ b0,
  w.cell? ⟨a0, 0, none⟩ = some (.map b0) ∧
  ∃ d0 g0,
  ∃ h0, (Instr.lookup 51 (.map b0) (.string sa1) true).run Tryd.prog w = .ok (.tuple #[.int .i64 d0, .bool g0]) h0 ∧
  R (.tuple #[.int .i64 d0, .bool g0]) h0
theorem f10.eq (a0 : Nat) (sa1 : ByteArray) (w : World) (R : Value → World → Prop) : f10.VC a0 sa1 w R = funV Tryd.prog Tryd.f10 f10.AL f10.AC #[.pointer (some ⟨a0, 0, none⟩), .string sa1] w R := by kernel_rfl
theorem f10.calls {a0 : Nat} {sa1 : ByteArray} {w : World} {R : Value → World → Prop} (h : f10.VC a0 sa1 w R) : Calls Tryd.prog 10 #[.pointer (some ⟨a0, 0, none⟩), .string sa1] w fun e w' => ∃ v, e = .returned v ∧ R v w' :=
  funV_sound (fn := Tryd.f10) (AL := f10.AL) (AC := f10.AC) W0.mixed (by kernel_rfl) (by rw [← f10.eq a0 sa1]; exact h)

end Go.Proofs.YtjmlfknogjaemaaDoor
/- Page: where the search for a key begins: the program's and the document's. -/
set_option linter.unusedVariables false
set_option linter.unusedSimpArgs false
set_option maxRecDepth 10000
namespace Go.Proofs.YtjmlfknogjaemaaDoor
open Go Go.Proofs.YtjmlfknogjaemaaDoor.Vc
namespace PG
open Vc.PG
theorem hashP (w : World) (key size : Int) (hs : size ≤ 9223372036854775807) : Calls Tryd.prog 22 #[.int .i64 key, .int .i64 size] w fun e w' => e = .returned (.int .i64 (pgHash key size)) ∧ Fr [] w w' := by
  refine Calls.mono (f22.calls (R := fun v w' => v = .int .i64 (pgHash key size) ∧ Fr [] w w') ?_) ?_
  · dsimp only [f22.VC]
    refine sel_of (fun hd => ?_) (fun hd => ?_)
    · have hd : size < 1 := of_decide_eq_true hd
      exact ⟨by unfold pgHash; rw [if_pos hd], Fr.refl _ _⟩
    · have hd : ¬ size < 1 := of_decide_eq_false hd
      refine ⟨by omega, ?_, Fr.refl _ _⟩
      rw [u16_wrap, i64_id (by omega) (by omega), tmod_pos (by omega)]
      unfold pgHash
      rw [if_neg hd]
  · rintro e w' ⟨v, rfl, rfl, h⟩; exact ⟨rfl, h⟩
end PG
end Go.Proofs.YtjmlfknogjaemaaDoor
