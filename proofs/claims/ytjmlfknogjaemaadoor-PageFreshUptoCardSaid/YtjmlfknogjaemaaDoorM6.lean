/- Memory, block by block: what stands in a block, what a stretch of work left alone. -/
import Derived.Test.YtjmlfknogjaemaaDoorM5
import Derived.Laws.OwnMore
import Derived.Laws.AppendOwn
import Derived.Laws.Append
set_option linter.unusedVariables false
set_option linter.unusedSimpArgs false
namespace Go.Proofs.YtjmlfknogjaemaaDoor.Vc
open Go

def Blk (w : World) (b : Nat) (cs : Array Value) (T : TypeId) : Prop := w.heap[b]? = some (.cells cs T (0, 0))
def putA (cs : Array Value) : Nat → List Value → Array Value
  | _, [] => cs
  | o, v :: vs => putA (cs.setIfInBounds o v) (o + 1) vs

theorem size_set (w : World) (b : Nat) : ∀ (vs : List Value) (o : Nat), (setCs w b o vs).heap.size = w.heap.size := by
  intro vs
  induction vs generalizing w with
  | nil => intro o; rfl
  | cons v vs ih => intro o; rw [setCs, ih]; simp [World.setCell]
theorem heap_set_ne (w : World) (b : Nat) : ∀ (vs : List Value) (o b' : Nat), b' ≠ b → (setCs w b o vs).heap[b']? = w.heap[b']? := by
  intro vs
  induction vs generalizing w with
  | nil => intro o b' h; rfl
  | cons v vs ih =>
    intro o b' h
    rw [setCs, ih _ _ _ h]
    simp [World.setCell, Array.getElem?_modify, Ne.symm h]
theorem putA_size (cs : Array Value) : ∀ (vs : List Value) (o : Nat), (putA cs o vs).size = cs.size := by
  intro vs
  induction vs generalizing cs with
  | nil => intro o; rfl
  | cons v vs ih => intro o; rw [putA, ih]; simp
theorem putA_get (cs : Array Value) : ∀ (vs : List Value) (o k : Nat), o + vs.length ≤ cs.size → (putA cs o vs)[k]? = if o ≤ k ∧ k < o + vs.length then vs[k - o]? else cs[k]? := by
  intro vs
  induction vs generalizing cs with
  | nil => intro o k h; rw [if_neg (by simp)]; rfl
  | cons v vs ih =>
    intro o k h
    simp only [List.length_cons] at h
    rw [putA, ih _ _ _ (by simp; omega)]
    by_cases h1 : o + 1 ≤ k ∧ k < o + 1 + vs.length
    · rw [if_pos h1, if_pos (by simp; omega)]
      rw [show k - o = (k - (o + 1)) + 1 by omega]
      rfl
    · rw [if_neg h1]
      by_cases h2 : k = o
      · subst h2
        rw [if_pos (by simp)]
        simp [Array.getElem?_setIfInBounds]
        omega
      · rw [if_neg (by simp; omega)]
        simp [Array.getElem?_setIfInBounds, Ne.symm h2]

theorem Blk.lt {w : World} {b : Nat} {cs : Array Value} {T : TypeId} (h : Blk w b cs T) : b < w.heap.size := by
  have := Array.getElem?_eq_some_iff.mp h
  exact this.1
theorem Blk.cell {w : World} {b i : Nat} {cs : Array Value} {T : TypeId} {v : Value} (h : Blk w b cs T) (hv : cs[i]? = some v) : w.cell? ⟨b, i, none⟩ = some v := by
  unfold Blk at h
  simp [World.cell?, h, hv]
theorem Blk.can {w : World} {b o n : Nat} {cs : Array Value} {T : TypeId} (h : Blk w b cs T) (hn : o + n ≤ cs.size) : canStore w b o n := ⟨cs, T, h, hn⟩
theorem Blk.set {w : World} {b : Nat} {cs : Array Value} {T : TypeId} (h : Blk w b cs T) : ∀ (vs : List Value) (o : Nat), Blk (setCs w b o vs) b (putA cs o vs) T := by
  intro vs
  induction vs generalizing w cs with
  | nil => intro o; exact h
  | cons v vs ih =>
    intro o
    rw [setCs, putA]
    refine ih ?_ _
    unfold Blk at h ⊢
    simp [World.setCell, Array.getElem?_modify, h]
theorem Blk.whole {w : World} {b : Nat} {cs : Array Value} {T : TypeId} {vs : List Value} (h : Blk w b cs T) (hl : vs.length = cs.size) : Blk (setCs w b 0 vs) b vs.toArray T := by
  have := h.set vs 0
  have e : putA cs 0 vs = vs.toArray := by
    apply Array.ext_getElem?
    intro k
    rw [putA_get _ _ _ _ (by omega)]
    by_cases hk : k < vs.length
    · rw [if_pos (by omega)]; simp
    · rw [if_neg (by omega), Array.getElem?_eq_none (by omega)]
      simp; omega
  rw [e] at this
  exact this
theorem Blk.new {w : World} {cs : Array Value} {T : TypeId} : Blk (w.alloc (.cells cs T)) w.heap.size cs T := by
  unfold Blk World.alloc
  simp
theorem Blk.newd {w : World} {cs : Array Value} {T : TypeId} : Blk (w.drew.alloc (.cells cs T)) w.heap.size cs T := Blk.new
/-- Nothing but the blocks of S, of those that were there, was touched; nothing was frozen; nothing was said. -/
structure Fr (S : List Nat) (w w' : World) : Prop where
  size : w.heap.size ≤ w'.heap.size
  block : ∀ b, b < w.heap.size → b ∉ S → w'.heap[b]? = w.heap[b]?
  os : w'.os = w.os
  output : w'.output = w.output
  frozen : ∀ a : Addr, a.block < w.heap.size → w'.frozen? a = w.frozen? a
theorem Fr.refl (S : List Nat) (w : World) : Fr S w w := ⟨Nat.le_refl _, fun _ _ _ => rfl, rfl, rfl, fun _ _ => rfl⟩
theorem Fr.trans {S : List Nat} {a b c : World} (h : Fr S a b) (k : Fr S b c) : Fr S a c :=
  ⟨Nat.le_trans h.1 k.1, fun i hi hS => (k.2 i (Nat.lt_of_lt_of_le hi h.1) hS).trans (h.2 i hi hS), k.os.trans h.os, k.output.trans h.output, fun x hx => (k.frozen x (Nat.lt_of_lt_of_le hx h.1)).trans (h.frozen x hx)⟩
theorem Fr.mono {S S' : List Nat} {a b : World} (h : Fr S a b) (hs : ∀ x ∈ S, x ∈ S') : Fr S' a b := ⟨h.1, fun i hi hS => h.2 i hi fun hx => hS (hs i hx), h.os, h.output, h.frozen⟩
/-- What was touched afresh counts for nothing. -/
theorem Fr.trans' {S S' : List Nat} {a b c : World} (h : Fr S a b) (k : Fr S' b c) (hs : ∀ x ∈ S', x < a.heap.size → x ∈ S) : Fr S a c :=
  ⟨Nat.le_trans h.1 k.1, fun i hi hS => (k.2 i (Nat.lt_of_lt_of_le hi h.1) fun hx => hS (hs i hx hi)).trans (h.2 i hi hS), k.os.trans h.os, k.output.trans h.output, fun x hx => (k.frozen x (Nat.lt_of_lt_of_le hx h.1)).trans (h.frozen x hx)⟩
theorem Fr.drew {S : List Nat} {a b : World} (h : Fr S a b) : Fr S a b.drew := ⟨h.1, h.2, h.os, h.output, h.frozen⟩
/-- An object that freezes nothing. -/
def softObj : Obj → Bool
  | .cells _ _ (0, 0) => true
  | .map _ _ => true
  | _ => false
theorem Fr.allocO {S : List Nat} {a b : World} {o : Obj} (ho : softObj o = true) (h : Fr S a b) : Fr S a (b.alloc o) := by
  refine h.trans ⟨by simp, fun i hi _ => (ext_alloc b o).2 i hi, rfl, rfl, fun x hx => ?_⟩
  unfold World.frozen?
  rw [(ext_alloc b o).2 _ hx]
theorem Fr.alloc {S : List Nat} {a b : World} {cs : Array Value} {T : TypeId} (h : Fr S a b) : Fr S a (b.alloc (.cells cs T)) := h.allocO rfl
theorem Fr.allocM {S : List Nat} {a b : World} {es : Array MapEntry} {c : Nat} (h : Fr S a b) : Fr S a (b.alloc (.map es c)) := h.allocO rfl
theorem frozen_setCell (w : World) (x : Addr) (v : Value) (a : Addr) : (w.setCell x v).frozen? a = w.frozen? a := by
  unfold World.frozen? World.setCell
  by_cases h : a.block = x.block
  · simp only [h, Array.getElem?_modify]
    cases hw : w.heap[x.block]? with
    | none => simp
    | some o => cases o <;> simp
  · simp only [Array.getElem?_modify]
    rw [if_neg (fun e => h e.symm)]
theorem set_rest (w : World) (b : Nat) : ∀ (vs : List Value) (o : Nat), (setCs w b o vs).os = w.os ∧ (setCs w b o vs).output = w.output ∧ ∀ a, (setCs w b o vs).frozen? a = w.frozen? a := by
  intro vs
  induction vs generalizing w with
  | nil => intro o; exact ⟨rfl, rfl, fun _ => rfl⟩
  | cons v vs ih =>
    intro o
    obtain ⟨h1, h2, h3⟩ := ih (w.setCell ⟨b, o, none⟩ v) (o + 1)
    exact ⟨h1, h2, fun a => (h3 a).trans (frozen_setCell w _ v a)⟩
theorem Fr.set {S : List Nat} {a b : World} {g o : Nat} {vs : List Value} (h : Fr S a b) (hg : g ∈ S ∨ a.heap.size ≤ g) : Fr S a (setCs b g o vs) := by
  obtain ⟨r1, r2, r3⟩ := set_rest b g vs o
  refine ⟨by rw [size_set]; exact h.1, fun i hi hS => ?_, r1.trans h.os, r2.trans h.output, fun x hx => (r3 x).trans (h.frozen x hx)⟩
  rw [heap_set_ne _ _ _ _ _ ?_, h.2 i hi hS]
  rintro rfl
  rcases hg with hg | hg
  · exact hS hg
  · omega
theorem frozen_setRow (w : World) (g : Nat) (cs : Array Value) (a : Addr) : (w.setRow g cs).frozen? a = w.frozen? a := by
  unfold World.frozen? World.setRow
  by_cases h : a.block = g
  · simp only [h, Array.getElem?_modify]
    cases hw : w.heap[g]? with
    | none => simp
    | some o => cases o <;> simp
  · simp only [Array.getElem?_modify]
    rw [if_neg (fun e => h e.symm)]
theorem Fr.of_grown {w w' : World} {row : Option Nat} (h : w.grownBy w' row) (hz : ∀ a, w'.frozen? a = w.frozen? a) {S : List Nat} (hs : ∀ b, row = some b → b < w.heap.size → b ∈ S) : Fr S w w' :=
  ⟨h.size, fun b hb hS => h.block b hb fun e => hS (hs b e.symm hb), h.os, h.output, fun x _ => hz x⟩
theorem Fr.blk {S : List Nat} {w w' : World} {b : Nat} {cs : Array Value} {T : TypeId} (h : Fr S w w') (hb : Blk w b cs T) (hS : b ∉ S) : Blk w' b cs T := by
  have hl := hb.lt
  unfold Blk at hb ⊢
  rw [h.2 b hl hS, hb]
theorem Fr.cell {w w' : World} {a : Addr} {v : Value} (h : Fr [] w w') (hc : w.cell? a = some v) : w'.cell? a = some v :=
  Ext.cell ⟨h.1, fun b hb => h.2 b hb (by simp)⟩ hc

/-! ### Rows of records -/
def Row (w : World) (TE : TypeId) (s g cap : Nat) (rs : List (List Value)) : Prop :=
  ∃ cur, Blk w g cur TE ∧ cur.size = cap * s ∧ rs.length ≤ cap ∧ cap ≤ maxLen ∧ (∀ r ∈ rs, r.length = s) ∧ ∀ i, i < rs.length → ∀ j, j < s → cur[i * s + j]? = (rs.getD i [])[j]?
theorem flat_len {s : Nat} : ∀ {rs : List (List Value)}, (∀ r ∈ rs, r.length = s) → rs.flatten.length = rs.length * s
  | [], _ => by simp
  | r :: rs, h => by
    rw [List.flatten_cons, List.length_append, flat_len fun x hx => h x (List.mem_cons_of_mem _ hx), h r (List.mem_cons_self), List.length_cons, Nat.add_mul]
    omega
theorem flat_get {s : Nat} : ∀ {rs : List (List Value)}, (∀ r ∈ rs, r.length = s) → ∀ i, i < rs.length → ∀ j, j < s → rs.flatten[i * s + j]? = (rs.getD i [])[j]?
  | [], _, i, hi, _, _ => by simp at hi
  | r :: rs, h, 0, _, j, hj => by
    have := h r (List.mem_cons_self)
    rw [List.flatten_cons, Nat.zero_mul, Nat.zero_add, List.getElem?_append_left (by omega)]
    rfl
  | r :: rs, h, i + 1, hi, j, hj => by
    have := h r (List.mem_cons_self)
    rw [List.flatten_cons, List.getElem?_append_right (by rw [this, Nat.add_mul]; omega), this, show (i + 1) * s + j - s = i * s + j by rw [Nat.add_mul]; omega]
    exact flat_get (fun x hx => h x (List.mem_cons_of_mem _ hx)) i (by simpa using hi) j hj
theorem Row.ofOwn {w : World} {TE : TypeId} {s g cap n : Nat} {rs : List (List Value)} (hs : 0 < s) (h : w.ownsRow 0 TE s (.slice (some ⟨g, 0, none⟩) n cap) n rs.flatten) (hl : ∀ r ∈ rs, r.length = s) : Row w TE s g cap rs ∧ n = rs.length := by
  obtain ⟨h1, h2⟩ := h
  rw [flat_len hl] at h1
  have hn : rs.length = n := Nat.eq_of_mul_eq_mul_right hs h1
  subst hn
  refine ⟨?_, rfl⟩
  rcases h2 with ⟨h2, _⟩ | ⟨g', cap', cur, h2, _, hg, hnc, hcm, hcs, htake⟩
  · simp at h2
  · simp only [Value.slice.injEq, Option.some.injEq, Addr.mk.injEq, and_true, true_and] at h2
    obtain ⟨rfl, rfl⟩ := h2
    refine ⟨cur, hg, hcs, hnc, hcm, hl, fun i hi j hj => ?_⟩
    have : i * s + j < rs.length * s := by
      have : (i + 1) * s ≤ rs.length * s := Nat.mul_le_mul_right s hi
      rw [Nat.add_mul] at this; omega
    rw [← flat_get hl i hi j hj, ← htake, List.getElem?_take, if_pos this]
    simp
theorem Row.toOwn {w : World} {TE : TypeId} {s g cap : Nat} {rs : List (List Value)} (hs : 0 < s) (h : Row w TE s g cap rs) : w.ownsRow 0 TE s (.slice (some ⟨g, 0, none⟩) rs.length cap) rs.length rs.flatten := by
  obtain ⟨cur, hg, hcs, hnc, hcm, hl, hget⟩ := h
  refine ⟨flat_len hl, .inr ⟨g, cap, cur, rfl, Nat.zero_le _, hg, hnc, hcm, hcs, ?_⟩⟩
  apply List.ext_getElem?
  intro k
  rw [List.getElem?_take]
  by_cases hk : k < rs.length * s
  · rw [if_pos hk]
    have hd : k / s < rs.length := Nat.div_lt_of_lt_mul (by rw [Nat.mul_comm]; exact hk)
    have hm : k % s < s := Nat.mod_lt _ hs
    have he : k / s * s + k % s = k := Nat.div_add_mod' k s
    rw [← he, flat_get hl _ hd _ hm, ← hget _ hd _ hm]
    simp
  · rw [if_neg hk, List.getElem?_eq_none (by rw [flat_len hl]; omega)]
theorem Row.cell {w : World} {TE : TypeId} {s g cap : Nat} {rs : List (List Value)} (h : Row w TE s g cap rs) {i j k : Nat} (hi : i < rs.length) (hj : j < s) (hk : k = i * s + j) {x : Value} (hx : (rs.getD i [])[j]? = some x) : w.cell? ⟨g, k, none⟩ = some x := by
  obtain ⟨cur, hg, hcs, hnc, hcm, hl, hget⟩ := h
  subst hk
  exact hg.cell ((hget i hi j hj).trans hx)
theorem Row.can {w : World} {TE : TypeId} {s g cap : Nat} {rs : List (List Value)} (h : Row w TE s g cap rs) {i k : Nat} (hi : i < rs.length) (hk : k = i * s) : canStore w g k s := by
  obtain ⟨cur, hg, hcs, hnc, hcm, hl, hget⟩ := h
  refine hg.can ?_
  have : (i + 1) * s ≤ cap * s := Nat.mul_le_mul_right s (by omega)
  rw [Nat.add_mul] at this; omega
theorem Row.set {w : World} {TE : TypeId} {s g cap : Nat} {rs : List (List Value)} (h : Row w TE s g cap rs) {i k : Nat} (hi : i < rs.length) (hk : k = i * s) {r : List Value} (hr : r.length = s) : Row (setCs w g k r) TE s g cap (rs.set i r) := by
  obtain ⟨cur, hg, hcs, hnc, hcm, hl, hget⟩ := h
  subst hk
  have hb : (i + 1) * s ≤ cap * s := Nat.mul_le_mul_right s (by omega)
  rw [Nat.add_mul] at hb
  refine ⟨_, hg.set r (i * s), by rw [putA_size]; exact hcs, by simpa using hnc, hcm, ?_, ?_⟩
  · intro x hx
    rcases List.mem_or_eq_of_mem_set hx with hx | rfl
    · exact hl x hx
    · exact hr
  · intro i' hi' j hj
    simp only [List.length_set] at hi'
    rw [putA_get _ _ _ _ (by omega)]
    by_cases he : i' = i
    · subst he
      rw [if_pos (by omega), show i' * s + j - i' * s = j by omega]
      simp [List.getD_eq_getElem?_getD, hi]
    · rw [if_neg, hget i' hi' j hj]
      · simp [List.getD_eq_getElem?_getD, Ne.symm he]
      · rw [hr]
        rintro ⟨h1, h2⟩
        rcases Nat.lt_or_gt_of_ne he with h3 | h3
        · have : (i' + 1) * s ≤ i * s := Nat.mul_le_mul_right s h3
          rw [Nat.add_mul] at this; omega
        · have : (i + 1) * s ≤ i' * s := Nat.mul_le_mul_right s h3
          rw [Nat.add_mul] at this; omega
theorem Row.take {w : World} {TE : TypeId} {s g cap : Nat} {rs : List (List Value)} (h : Row w TE s g cap rs) (m : Nat) : Row w TE s g cap (rs.take m) := by
  obtain ⟨cur, hg, hcs, hnc, hcm, hl, hget⟩ := h
  refine ⟨cur, hg, hcs, by simp; omega, hcm, fun r hr => hl r (List.mem_of_mem_take hr), fun i hi j hj => ?_⟩
  simp only [List.length_take] at hi
  rw [hget i (by omega) j hj]
  simp [List.getD_eq_getElem?_getD, List.getElem?_take]
  rw [if_pos (by omega)]
theorem Row.fr {S : List Nat} {w w' : World} {TE : TypeId} {s g cap : Nat} {rs : List (List Value)} (h : Row w TE s g cap rs) (hf : Fr S w w') (hg : g ∉ S) : Row w' TE s g cap rs := by
  obtain ⟨cur, hb, h⟩ := h
  exact ⟨cur, hf.blk hb hg, h⟩
theorem Row.lt {w : World} {TE : TypeId} {s g cap : Nat} {rs : List (List Value)} (h : Row w TE s g cap rs) : g < w.heap.size := by
  obtain ⟨cur, hb, h⟩ := h
  exact hb.lt
theorem Row.cap_le {w : World} {TE : TypeId} {s g cap : Nat} {rs : List (List Value)} (h : Row w TE s g cap rs) : rs.length ≤ cap := by
  obtain ⟨cur, _, _, h, _⟩ := h; exact h

/-! ### A heap of things -/
section
variable {α : Type}
/-- The heap at a: its row stands in a block of its own; F: its blocks. -/
def HeapAt (TH TE : TypeId) (s : Nat) (enc : α × Int → List Value) (w : World) (F : List Nat) (a : Nat) (less : Value) (es : List (α × Int)) (came : Int) : Prop :=
  ∃ v, Blk w a #[less, v, .int .i64 came] TH ∧ (∀ x, (enc x).length = s) ∧
    ((v = .slice none 0 0 ∧ es = [] ∧ F = [a]) ∨ ∃ g cap, v = .slice (some ⟨g, 0, none⟩) es.length cap ∧ F = [a, g] ∧ g ≠ a ∧ Row w TE s g cap (es.map enc))
variable {TH TE : TypeId} {s : Nat} {enc : α × Int → List Value} {w w' : World} {F : List Nat} {a : Nat} {less : Value} {es : List (α × Int)} {came : Int}
theorem HeapAt.fr {S : List Nat} (h : HeapAt TH TE s enc w F a less es came) (hf : Fr S w w') (hd : ∀ x ∈ F, x ∉ S) : HeapAt TH TE s enc w' F a less es came := by
  obtain ⟨v, h1, he, h2⟩ := h
  rcases h2 with ⟨h2, h3, rfl⟩ | ⟨g, cap, h2, rfl, h4, h5⟩
  · exact ⟨v, hf.blk h1 (hd a (by simp)), he, .inl ⟨h2, h3, rfl⟩⟩
  · exact ⟨v, hf.blk h1 (hd a (by simp)), he, .inr ⟨g, cap, h2, rfl, h4, h5.fr hf (hd g (by simp))⟩⟩
theorem HeapAt.lt (h : HeapAt TH TE s enc w F a less es came) : ∀ x ∈ F, x < w.heap.size := by
  obtain ⟨v, h1, he, h2⟩ := h
  rcases h2 with ⟨h2, h3, rfl⟩ | ⟨g, cap, h2, rfl, h4, h5⟩
  · intro x hx; simp at hx; subst hx; exact h1.lt
  · intro x hx
    simp at hx
    rcases hx with rfl | rfl
    · exact h1.lt
    · exact h5.lt
/-- A heap that is not empty. -/
theorem HeapAt.row (h : HeapAt TH TE s enc w F a less es came) (hn : 0 < es.length) : ∃ g cap, Blk w a #[less, .slice (some ⟨g, 0, none⟩) es.length cap, .int .i64 came] TH ∧ F = [a, g] ∧ g ≠ a ∧ Row w TE s g cap (es.map enc) ∧ ∀ x, (enc x).length = s := by
  obtain ⟨v, h1, he, h2⟩ := h
  rcases h2 with ⟨h2, h3, rfl⟩ | ⟨g, cap, rfl, h3, h4, h5⟩
  · subst h3; simp at hn
  · exact ⟨g, cap, h1, h3, h4, h5, he⟩
theorem HeapAt.of {g cap : Nat} (h1 : Blk w a #[less, .slice (some ⟨g, 0, none⟩) es.length cap, .int .i64 came] TH) (hg : g ≠ a) (h2 : Row w TE s g cap (es.map enc)) (he : ∀ x, (enc x).length = s) : HeapAt TH TE s enc w [a, g] a less es came :=
  ⟨_, h1, he, .inr ⟨g, cap, rfl, rfl, hg, h2⟩⟩
theorem Row.ent {g cap : Nat} {d : α × Int} (h : Row w TE s g cap (es.map enc)) {i j k : Nat} (hi : i < es.length) (hj : j < s) (hk : k = i * s + j) {x : Value} (hx : (enc (es.getD i d))[j]? = some x) : w.cell? ⟨g, k, none⟩ = some x := by
  refine h.cell (by simpa using hi) hj hk ?_
  simp only [List.getD_eq_getElem?_getD, List.getElem?_map, hi, List.getElem?_eq_getElem, Option.map_some, Option.getD_some] at hx ⊢
  exact hx
end
theorem callT_mono {P : Program} {fv : Value} {args : Array Value} {w : World} {R R' : Ending → World → Prop} (h : callT P fv args w R) (hr : ∀ e w', R e w' → R' e w') : callT P fv args w R' := by
  unfold callT at h ⊢
  split at h
  · rename_i f first cap
    split at h
    · rename_i hb
      exact h.mono hr
    · exact h.elim
  · exact h.elim

/-! ### Append of one record -/
theorem i64_id {x : Int} (h0 : -9223372036854775808 ≤ x) (h1 : x ≤ 9223372036854775807) : IntKind.i64.wrap x = x := by
  rw [IntKind.wrap_i64]; omega
theorem append_row {P : Program} {w : World} {t ty e : TypeId} {i : TypeInfo} {z : Value} {s : Nat} {rs : List (List Value)} {v : Value} {r : List Value} {b : Nat} {T' : TypeId}
    (ht : P.underlying t = some (.slice e)) (hi : P.info? e = some i) (hz : i.zero = some z) (hsize : i.size = s) (hzs : z.cells.size = s) (hs : 0 < s)
    (hown : (v = .slice none 0 0 ∧ rs = []) ∨ ∃ g cap, v = .slice (some ⟨g, 0, none⟩) rs.length cap ∧ Row w e s g cap rs)
    (hb : Blk w b r.toArray T') (hr : r.length = s) (h1 : ∀ u ∈ r, u.oneCell' = true) (hrs : ∀ x ∈ rs, x.length = s)
    (hbytes : (rs.length + 1) * i.bytes ≤ 140737488355328) (hmax : rs.length + 1 ≤ maxLen) :
    ∃ g' cap' w', (Builtin.append_ #[t, t] ty #[v, .slice (some ⟨b, 0, none⟩) 1 1]).run P w = .ok (.slice (some ⟨g', 0, none⟩) (rs.length + 1) cap') w' ∧
      Row w' e s g' cap' (rs ++ [r]) ∧ Fr v.ownBlock.toList w w' ∧ (v.ownBlock = some g' ∨ w.heap.size ≤ g') := by
  have hnews : ∀ (j : Nat) (u : Value), r[j]? = some u → w.cell? ((⟨b, 0, none⟩ : Addr).add j) = some u := by
    intro j u hu
    have e0 : (⟨b, 0, none⟩ : Addr).add j = ⟨b, j, none⟩ := by simp [Addr.add_lit]
    rw [e0]
    exact hb.cell (by simpa using hu)
  have hl : r.length = 1 * i.size := by rw [hr, hsize]; omega
  have hrs' : ∀ x ∈ rs ++ [r], x.length = s := by
    intro x hx
    rcases List.mem_append.mp hx with hx | hx
    · exact hrs x hx
    · simp at hx; subst hx; exact hr
  have hflat : (rs ++ [r]).flatten = rs.flatten ++ r := by simp
  have fin : ∀ (v' : Value) (w' : World) (base : Nat), w'.ownsRow base e s v' (rs.length + 1) (rs.flatten ++ r) → ∃ g' cap', v' = .slice (some ⟨g', 0, none⟩) (rs.length + 1) cap' ∧ Row w' e s g' cap' (rs ++ [r]) ∧ base ≤ g' := by
    intro v' w' base ho
    rcases ho.2 with ⟨_, h⟩ | ⟨g', cap', cur, rfl, hbg, hg, hnc, hcm, hcs, htake⟩
    · omega
    · refine ⟨g', cap', rfl, (Row.ofOwn hs (n := rs.length + 1) ?_ hrs').1, hbg⟩
      rw [hflat]
      exact ⟨ho.1, .inr ⟨g', cap', cur, rfl, Nat.zero_le _, hg, hnc, hcm, hcs, htake⟩⟩
  rcases hown with ⟨rfl, rfl⟩ | ⟨g, cap, rfl, hR⟩
  · obtain ⟨v', w', hrun, ho, hg, _⟩ := run_append_own (P := P) w w.heap.size t ty e i z s i.bytes ht hi hz hsize rfl hzs hs (.slice none 0 0) 0 [] (World.ownsRow_nil w _ e s) ⟨b, 0, none⟩ 1 1 r (by rw [← hsize]; exact hl) hnews h1
      (by simpa using hmax) (by simpa using hbytes) (Nat.le_refl _)
    obtain ⟨g', cap', rfl, hR, hbg⟩ := fin v' w' _ (by simpa using ho)
    have hx := run_append_nil (P := P) w t ty e i z ht hi hz ⟨b, 0, none⟩ 1 1 r hl hnews (by decide) (by decide) (by simp only [List.length_nil, Nat.zero_add, Nat.one_mul] at hbytes ⊢; omega)
    have hw : w' = w.drew.alloc (.cells (r.toArray ++ Builtin.zeroCells z.cells (grownCap w 1 0 e - 1)) e) := by
      rw [hx] at hrun; injection hrun with _ h; exact h.symm
    exact ⟨g', cap', w', hrun, hR, by rw [hw]; exact (Fr.refl _ w).drew.alloc, .inr hbg⟩
  · have hO := hR.toOwn hs
    by_cases hroom : rs.length + 1 ≤ cap
    · obtain ⟨w', hrun, ho, hg⟩ := run_append_fits (P := P) w 0 t ty e i s ht hi hsize g rs.length cap rs.flatten hO ⟨b, 0, none⟩ 1 1 r (by rw [← hsize]; exact hl) hnews h1 hroom
      obtain ⟨g', cap', he, hR', _⟩ := fin _ w' _ ho
      simp only [Value.slice.injEq, Option.some.injEq, Addr.mk.injEq, and_true, true_and] at he
      obtain ⟨rfl, rfl⟩ := he
      have hfr : ∀ a, w'.frozen? a = w.frozen? a := by
        obtain ⟨cur, hbk, hcs, _⟩ := hR
        have hx := run_append_room (P := P) w t ty e i ht hi g rs.length cap cur hbk ⟨b, 0, none⟩ 1 1 r hl hnews h1 hroom (by
          have : (rs.length + 1) * s ≤ cap * s := Nat.mul_le_mul_right s hroom
          rw [Nat.add_mul] at this; rw [hsize, hcs, hr]; omega)
        rw [hx] at hrun
        injection hrun with _ hw
        intro x
        rw [← hw]
        exact frozen_setRow w g _ x
      exact ⟨g, cap, w', hrun, hR', Fr.of_grown hg hfr (by simp [Value.ownBlock]), .inl rfl⟩
    · have hcap := hR.cap_le
      have hl2 := flat_len hrs
      have holds := hO.cells (g := g) rfl
      have hrun := run_append_grow (P := P) w t ty e i z ht hi hz ⟨g, 0, none⟩ rs.length cap rs.flatten (by rw [hl2, hsize]) holds ⟨b, 0, none⟩ 1 1 r hl hnews (by omega) (by simp only [maxLen] at hmax; omega) (growslice_fits (by omega) hbytes)
      have hge := grownCap_ge w (rs.length + 1) cap e
      refine ⟨_, _, _, hrun, (Row.ofOwn hs (n := rs.length + 1) ?_ hrs').1, (Fr.refl _ w).drew.alloc, .inr (Nat.le_refl _)⟩
      rw [hflat]
      refine ⟨by rw [List.length_append, hl2, hr, Nat.add_mul]; omega, .inr ⟨w.heap.size, _, _, rfl, Nat.zero_le _, Blk.newd, hge, grownCap_le_maxLen w _ cap e hmax, ?_, ?_⟩⟩
      · simp only [Array.size_append, List.size_toArray, size_zeroCells, hzs, hl2, hr]
        rw [← Nat.succ_mul, ← Nat.add_mul]
        congr 1
        omega
      · have : (rs.flatten ++ r).length = (rs.length + 1) * s := by rw [List.length_append, hl2, hr, Nat.add_mul]; omega
        rw [← this]
        simp only [Array.toList_append, List.append_assoc]
        rw [← List.append_assoc]
        exact List.take_left

end Go.Proofs.YtjmlfknogjaemaaDoor.Vc
/- What a stretch of work owns, piece by piece: pieces of memory that do not touch one another. -/
set_option linter.unusedVariables false
set_option linter.unusedSimpArgs false
namespace Go.Proofs.YtjmlfknogjaemaaDoor.Vc
open Go

/-- A piece of memory: what holds, with its blocks. -/
structure Chunk where
  holds : World → List Nat → Prop
  fr : ∀ {S w w' F}, holds w F → Fr S w w' → (∀ x ∈ F, x ∉ S) → holds w' F
  lt : ∀ {w F}, holds w F → ∀ x ∈ F, x < w.heap.size

/-- From w0 on only what S names was touched, of what was there; the pieces of L are owned, each apart from the others. -/
def St (S : List Nat) (w0 w : World) (L : List Chunk) : Prop :=
  Fr S w0 w ∧ ∃ Fs : Nat → List Nat, (∀ i c, L[i]? = some c → c.holds w (Fs i) ∧ ∀ x ∈ Fs i, x ∈ S ∨ w0.heap.size ≤ x) ∧
    ∀ i j, i < L.length → j < L.length → i ≠ j → ∀ x ∈ Fs i, x ∉ Fs j

section
variable {S : List Nat} {w0 w w' : World} {L : List Chunk}
theorem St.frame (h : St S w0 w L) : Fr S w0 w := h.1
theorem St.start (w : World) : St [] w w [] := ⟨Fr.refl _ _, fun _ => [], by simp, by simp⟩
theorem St.start1 {c : Chunk} {F : List Nat} (h : c.holds w F) : St F w w [c] := by
  refine ⟨Fr.refl _ _, fun _ => F, ?_, ?_⟩
  · intro i d hd
    cases i with
    | zero => simp at hd; subst hd; exact ⟨h, fun x hx => .inl hx⟩
    | succ i => simp at hd
  · intro i j hi hj hij
    simp at hi hj; omega
/-- Work that touches nothing that was there. -/
theorem St.go (h : St S w0 w L) (hf : Fr [] w w') : St S w0 w' L := by
  obtain ⟨h1, Fs, h2, h3⟩ := h
  exact ⟨h1.trans' hf (by simp), Fs, fun i c hc => ⟨c.fr (h2 i c hc).1 hf (by simp), (h2 i c hc).2⟩, h3⟩
theorem St.drew (h : St S w0 w L) : St S w0 w.drew L := h.go (Fr.refl [] w).drew
/-- A piece more, all new. -/
theorem St.new (h : St S w0 w L) {c : Chunk} {F : List Nat} (hf : Fr [] w w') (hc : c.holds w' F) (hF : ∀ x ∈ F, w.heap.size ≤ x) : St S w0 w' (c :: L) := by
  obtain ⟨h1, Fs, h2, h3⟩ := h
  have hlt : ∀ i, i < L.length → ∀ x ∈ Fs i, x < w.heap.size := by
    intro i hi x hx
    exact (L[i]).lt (h2 i L[i] (List.getElem?_eq_getElem hi)).1 x hx
  refine ⟨h1.trans' hf (by simp), fun i => match i with | 0 => F | i + 1 => Fs i, ?_, ?_⟩
  · intro i d hd
    cases i with
    | zero => simp at hd; subst hd; exact ⟨hc, fun x hx => .inr (Nat.le_trans h1.1 (hF x hx))⟩
    | succ i => simp at hd; exact ⟨d.fr (h2 i d hd).1 hf (by simp), (h2 i d hd).2⟩
  · intro i j hi hj hij x hx hx2
    cases i with
    | zero =>
      cases j with
      | zero => exact hij rfl
      | succ j => have := hF x hx; have := hlt j (by simpa using hj) x hx2; omega
    | succ i =>
      cases j with
      | zero => have := hF x hx2; have := hlt i (by simpa using hi) x hx; omega
      | succ j => exact h3 i j (by simpa using hi) (by simpa using hj) (by omega) x hx hx2
/-- A piece is looked at, or worked on. -/
theorem St.at (h : St S w0 w L) (i : Nat) {c : Chunk} (hi : L[i]? = some c) : ∃ F, c.holds w F ∧ (∀ x ∈ F, x ∈ S ∨ w0.heap.size ≤ x) ∧
    ∀ {w' : World} {c' : Chunk} {F' : List Nat}, Fr F w w' → c'.holds w' F' → (∀ x ∈ F', x ∈ F ∨ w.heap.size ≤ x) → St S w0 w' (L.set i c') := by
  obtain ⟨h1, Fs, h2, h3⟩ := h
  have hil : i < L.length := by
    rcases Nat.lt_or_ge i L.length with h | h
    · exact h
    · rw [List.getElem?_eq_none h] at hi; cases hi
  have hlt : ∀ i, i < L.length → ∀ x ∈ Fs i, x < w.heap.size := by
    intro i hi x hx
    exact (L[i]).lt (h2 i L[i] (List.getElem?_eq_getElem hi)).1 x hx
  refine ⟨Fs i, (h2 i c hi).1, (h2 i c hi).2, ?_⟩
  intro w' c' F' hf hc' hF'
  refine ⟨h1.trans' hf (fun x hx hlt => ((h2 i c hi).2 x hx).resolve_right (by omega)), fun j => if j = i then F' else Fs j, ?_, ?_⟩
  · intro j d hd
    dsimp only
    by_cases hj : j = i
    · subst hj
      rw [List.getElem?_set_self hil] at hd
      injection hd with hd
      subst hd
      rw [if_pos rfl]
      exact ⟨hc', fun x hx => (hF' x hx).elim (fun k => (h2 j c hi).2 x k) (fun k => .inr (Nat.le_trans h1.1 k))⟩
    · rw [List.getElem?_set_ne (Ne.symm hj)] at hd
      rw [if_neg hj]
      have hjl : j < L.length := by
        rcases Nat.lt_or_ge j L.length with h | h
        · exact h
        · rw [List.getElem?_eq_none h] at hd; cases hd
      exact ⟨d.fr (h2 j d hd).1 hf (fun x hx hx2 => h3 j i hjl hil hj x hx hx2), (h2 j d hd).2⟩
  · intro j k hj hk hjk x hx hx2
    dsimp only at hx hx2
    simp only [List.length_set] at hj hk
    by_cases ej : j = i
    · have ek : k ≠ i := fun e => hjk (ej.trans e.symm)
      rw [if_pos ej] at hx
      rw [if_neg ek] at hx2
      rcases hF' x hx with h | h
      · exact h3 k i hk hil ek x hx2 h
      · have := hlt k hk x hx2; omega
    · rw [if_neg ej] at hx
      by_cases ek : k = i
      · rw [if_pos ek] at hx2
        rcases hF' x hx2 with h | h
        · exact h3 j i hj hil ej x hx h
        · have := hlt j hj x hx; omega
      · rw [if_neg ek] at hx2
        exact h3 j k hj hk hjk x hx hx2
/-- Some of the pieces, in some order. -/
theorem St.pick (h : St S w0 w L) (L' : List Chunk) (σ : Nat → Nat) (h1 : ∀ i c, L'[i]? = some c → L[σ i]? = some c) (h2 : ∀ i j, i < L'.length → j < L'.length → σ i = σ j → i = j) : St S w0 w L' := by
  obtain ⟨a, Fs, b, c⟩ := h
  refine ⟨a, fun i => Fs (σ i), fun i d hd => b _ d (h1 i d hd), fun i j hi hj hij x hx hx2 => ?_⟩
  have inb : ∀ i, i < L'.length → σ i < L.length := by
    intro i hi
    have := h1 i L'[i] (List.getElem?_eq_getElem hi)
    rcases Nat.lt_or_ge (σ i) L.length with h | h
    · exact h
    · rw [List.getElem?_eq_none h] at this; cases this
  exact c _ _ (inb i hi) (inb j hj) (fun e => hij (h2 i j hi hj e)) x hx hx2
theorem St.tail {c : Chunk} (h : St S w0 w (c :: L)) : St S w0 w L := h.pick L (· + 1) (fun i c h => by simpa using h) (fun i j _ _ h => by omega)
/-- The first piece and the rest; its blocks are none of what was there and is not named. -/
theorem St.none (h : St S w0 w L) : Fr S w0 w := h.1
end

/-- A block. -/
def Chunk.blk (b : Nat) (cs : Array Value) (T : TypeId) : Chunk where
  holds w F := F = [b] ∧ Blk w b cs T
  fr h hf hS := ⟨h.1, hf.blk h.2 (hS _ (by simp [h.1]))⟩
  lt h x hx := by rw [h.1] at hx; simp at hx; subst hx; exact h.2.lt
theorem St.alloc {S : List Nat} {w0 w : World} {L : List Chunk} (h : St S w0 w L) (cs : Array Value) (T : TypeId) : St S w0 (World.alloc w (.cells cs T)) (Chunk.blk w.heap.size cs T :: L) :=
  h.new (Fr.refl [] w).alloc ⟨rfl, Blk.new⟩ (by simp)
theorem St.blk {S : List Nat} {w0 w : World} {L : List Chunk} (h : St S w0 w L) (i : Nat) {b : Nat} {cs : Array Value} {T : TypeId} (hi : L[i]? = some (Chunk.blk b cs T)) : Blk w b cs T := by
  obtain ⟨F, h1, _⟩ := h.at i hi
  exact h1.2
theorem St.set {S : List Nat} {w0 w : World} {L : List Chunk} (h : St S w0 w L) (i : Nat) {b : Nat} {cs : Array Value} {T : TypeId} (hi : L[i]? = some (Chunk.blk b cs T)) (o : Nat) (vs : List Value) :
    St S w0 (setCs w b o vs) (L.set i (Chunk.blk b (putA cs o vs) T)) := by
  obtain ⟨F, h1, _, h2⟩ := h.at i hi
  refine h2 (c' := Chunk.blk b (putA cs o vs) T) (F' := F) ?_ ⟨h1.1, h1.2.set vs o⟩ (fun x hx => .inl hx)
  rw [h1.1]
  exact (Fr.refl _ _).set (.inl (by simp))
/-- The whole block is written over. -/
theorem St.over {S : List Nat} {w0 w : World} {L : List Chunk} (h : St S w0 w L) (i : Nat) {b : Nat} {cs : Array Value} {T : TypeId} (hi : L[i]? = some (Chunk.blk b cs T)) (vs : List Value) (hl : vs.length = cs.size) :
    St S w0 (setCs w b 0 vs) (L.set i (Chunk.blk b vs.toArray T)) := by
  obtain ⟨F, h1, _, h2⟩ := h.at i hi
  refine h2 (c' := Chunk.blk b vs.toArray T) (F' := F) ?_ ⟨h1.1, h1.2.whole hl⟩ (fun x hx => .inl hx)
  rw [h1.1]
  exact (Fr.refl _ _).set (.inl (by simp))

/-- A list that grows: a slice of records, from its block's first place on. -/
def Chunk.sl (TE : TypeId) (s : Nat) (v : Value) (rs : List (List Value)) : Chunk where
  holds w F := (v = .slice none 0 0 ∧ rs = [] ∧ F = []) ∨ ∃ g cap, v = .slice (some ⟨g, 0, none⟩) rs.length cap ∧ F = [g] ∧ Row w TE s g cap rs
  fr h hf hS := by
    rcases h with h | ⟨g, cap, h1, rfl, h2⟩
    · exact .inl h
    · exact .inr ⟨g, cap, h1, rfl, h2.fr hf (hS g (by simp))⟩
  lt h x hx := by
    rcases h with ⟨_, _, rfl⟩ | ⟨g, cap, h1, rfl, h2⟩
    · simp at hx
    · simp at hx; subst hx; exact h2.lt
theorem St.nil {S : List Nat} {w0 w : World} {L : List Chunk} (h : St S w0 w L) (TE : TypeId) (s : Nat) : St S w0 w (Chunk.sl TE s (.slice Option.none 0 0) [] :: L) :=
  h.new (Fr.refl [] w) (F := []) (.inl ⟨rfl, rfl, rfl⟩) (by simp)
theorem St.slLen {S : List Nat} {w0 w : World} {L : List Chunk} (h : St S w0 w L) (i : Nat) {TE : TypeId} {s : Nat} {A : Option Addr} {n c : Nat} {rs : List (List Value)} (hi : L[i]? = some (Chunk.sl TE s (.slice A n c) rs)) : n = rs.length := by
  obtain ⟨F, h1, _⟩ := h.at i hi
  rcases h1 with ⟨h1, h2, _⟩ | ⟨g, cap, h1, _⟩
  · injection h1 with _ h1 _; subst h2; exact h1
  · injection h1
/-- A cell of the list. -/
theorem St.slGet {S : List Nat} {w0 w : World} {L : List Chunk} (h : St S w0 w L) (i : Nat) {TE : TypeId} {s : Nat} {A : Option Addr} {n c : Nat} {rs : List (List Value)} (hi : L[i]? = some (Chunk.sl TE s (.slice A n c) rs)) (hpos : 0 < rs.length) :
    ∃ g, A = some ⟨g, 0, Option.none⟩ ∧ ∀ k j x, k < rs.length → j < s → (rs.getD k [])[j]? = some x → w.cell? ⟨g, k * s + j, Option.none⟩ = some x := by
  obtain ⟨F, h1, _⟩ := h.at i hi
  rcases h1 with ⟨h1, h2, _⟩ | ⟨g, cap, h1, _, h2⟩
  · subst h2; simp at hpos
  · injection h1 with h1 _ _
    exact ⟨g, h1, fun k j x hk hj hx => h2.cell hk hj rfl hx⟩
/-- A record of the list is written. -/
theorem St.slSet {S : List Nat} {w0 w : World} {L : List Chunk} (h : St S w0 w L) (i : Nat) {TE : TypeId} {s : Nat} {A : Option Addr} {n c : Nat} {rs : List (List Value)} (hi : L[i]? = some (Chunk.sl TE s (.slice A n c) rs)) {k : Nat} (hk : k < rs.length) :
    ∃ g, A = some ⟨g, 0, Option.none⟩ ∧ ∀ r : List Value, r.length = s → canStore w g (k * s) s ∧ St S w0 (setCs w g (k * s) r) (L.set i (Chunk.sl TE s (.slice A n c) (rs.set k r))) := by
  obtain ⟨F, h1, _, h3⟩ := h.at i hi
  rcases h1 with ⟨h1, h2, _⟩ | ⟨g, cap, h1, rfl, h2⟩
  · subst h2; simp at hk
  · injection h1 with e1 e2 e3
    refine ⟨g, e1, fun r hr => ⟨h2.can hk rfl, h3 (F' := [g]) ((Fr.refl _ _).set (.inl (by simp))) (.inr ⟨g, cap, ?_, rfl, h2.set hk rfl hr⟩) (fun x hx => .inl hx)⟩⟩
    rw [e1, e2, e3, List.length_set]
/-- A record more; it lies in the block b. -/
theorem St.append {S : List Nat} {w0 w : World} {L : List Chunk} (h : St S w0 w L) (i : Nat) {P : Program} {t ty e : TypeId} {ti : TypeInfo} {z : Value} {s : Nat} {A : Option Addr} {n c : Nat} {rs : List (List Value)} {r : List Value} {b : Nat} {T' : TypeId} {cs : Array Value}
    (ht : P.underlying t = some (.slice e)) (hti : P.info? e = some ti) (hz : ti.zero = some z) (hsize : ti.size = s) (hzs : z.cells.size = s) (hs : 0 < s)
    (hi : L[i]? = some (Chunk.sl e s (.slice A n c) rs)) (hb : Blk w b cs T') (hcs : cs = r.toArray) (hr : r.length = s) (h1 : ∀ u ∈ r, u.oneCell' = true) (hbytes : (rs.length + 1) * ti.bytes ≤ 140737488355328) (hmax : rs.length + 1 ≤ maxLen) :
    ∃ g' cap' w', (Builtin.append_ #[t, t] ty #[.slice A n c, .slice (some ⟨b, 0, Option.none⟩) 1 1]).run P w = .ok (.slice (some ⟨g', 0, Option.none⟩) (rs.length + 1) cap') w' ∧
      St S w0 w' (L.set i (Chunk.sl e s (.slice (some ⟨g', 0, Option.none⟩) (rs.length + 1) cap') (rs ++ [r]))) := by
  subst hcs
  obtain ⟨F, k1, _, k3⟩ := h.at i hi
  have hrs : ∀ x ∈ rs, x.length = s := by
    rcases k1 with ⟨_, rfl, _⟩ | ⟨g, cap, _, _, k2⟩
    · simp
    · obtain ⟨_, _, _, _, _, k, _⟩ := k2; exact k
  obtain ⟨g', cap', w', hrun, hR, hF, hg⟩ := append_row (P := P) (w := w) (t := t) (ty := ty) (e := e) (i := ti) (z := z) (s := s) (rs := rs) (v := .slice A n c) (r := r) (b := b) (T' := T') ht hti hz hsize hzs hs
    (by
      rcases k1 with ⟨k1, k2, _⟩ | ⟨g, cap, k1, _, k2⟩
      · exact .inl ⟨k1, k2⟩
      · exact .inr ⟨g, cap, k1, k2⟩) hb hr h1 hrs hbytes hmax
  refine ⟨g', cap', w', hrun, k3 (F' := [g']) (hF.mono ?_) (.inr ⟨g', cap', by simp, rfl, hR⟩) ?_⟩
  · intro x hx
    rcases k1 with ⟨k1, _, _⟩ | ⟨g, cap, k1, rfl, _⟩
    · rw [k1] at hx; simp [Value.ownBlock] at hx
    · rw [k1] at hx; simpa [Value.ownBlock] using hx
  · intro x hx
    simp at hx
    subst hx
    rcases hg with hg | hg
    · rcases k1 with ⟨k1, _, _⟩ | ⟨g, cap, k1, rfl, _⟩
      · rw [k1] at hg; simp [Value.ownBlock] at hg
      · rw [k1] at hg; simp [Value.ownBlock] at hg; subst hg; exact .inl (by simp)
    · exact .inr hg
/-! ### Calls -/
section
variable {S : List Nat} {w0 w : World} {L : List Chunk} {P : Program} {f : FuncId} {args : Array Value}
theorem St.step0 (h : St S w0 w L) {Q : Ending → Prop} (hc : Calls P f args w fun e w' => Q e ∧ Fr [] w w') : Calls P f args w fun e w' => Q e ∧ St S w0 w' L :=
  hc.mono fun e w' ⟨h1, h2⟩ => ⟨h1, h.go h2⟩
end
/-- A heap. -/
def Chunk.heap {α : Type} (TH TE : TypeId) (s : Nat) (enc : α × Int → List Value) (a : Nat) (less : Value) (es : List (α × Int)) (came : Int) : Chunk where
  holds w F := HeapAt TH TE s enc w F a less es came
  fr h hf hS := h.fr hf hS
  lt h := h.lt
end Go.Proofs.YtjmlfknogjaemaaDoor.Vc
