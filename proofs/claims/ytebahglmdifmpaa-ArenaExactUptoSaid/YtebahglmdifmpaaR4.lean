/- The document's arena: Take, Give, Live, New, back. -/
import Derived.Test.YtebahglmdifmpaaR2
import Derived.Test.YtebahglmdifmpaaL0
set_option linter.unusedVariables false
set_option linter.unusedSimpArgs false
set_option maxRecDepth 10000
namespace Go.Proofs.Ytebahglmdifmpaa
open Go Go.Proofs.Ytebahglmdifmpaa.Vc
namespace RA
open PA
theorem take_mem {n : Int} (hn : 1 ≤ n) : ∀ {L L' : List B} {a e at_ : Int}, takeL n L = some (at_, L') → Tiled a e L → ∀ b ∈ L', b = (at_, n, false) ∨
    (b.2.2 = false ∧ b ∈ L ∧ ∀ p : Int, b.1 ≤ p → p < b.1 + b.2.1 → p < at_ ∨ at_ + n ≤ p) ∨
    (b.2.2 = true ∧ ∃ b0 ∈ L, b0.2.2 = true ∧ ∀ p : Int, b.1 ≤ p → p < b.1 + b.2.1 → (b0.1 ≤ p ∧ p < b0.1 + b0.2.1) ∧ (p < at_ ∨ at_ + n ≤ p))
  | [], L', a, e, at_, h, _ => by simp [takeL] at h
  | x :: L, L', a, e, at_, h, ⟨h1, h2, h3⟩ => by
    rw [takeL] at h
    by_cases hc : x.2.2 = true ∧ n ≤ x.2.1
    · rw [if_pos hc] at h
      injection h with h
      injection h with e1 e2
      subst e1 e2
      have tl : ∀ b ∈ L, b = (x.1, n, false) ∨ (b.2.2 = false ∧ b ∈ x :: L ∧ ∀ p : Int, b.1 ≤ p → p < b.1 + b.2.1 → p < x.1 ∨ x.1 + n ≤ p) ∨
          (b.2.2 = true ∧ ∃ b0 ∈ x :: L, b0.2.2 = true ∧ ∀ p : Int, b.1 ≤ p → p < b.1 + b.2.1 → (b0.1 ≤ p ∧ p < b0.1 + b0.2.1) ∧ (p < x.1 ∨ x.1 + n ≤ p)) := by
        intro b hb
        have hm := h3.mem b hb
        cases hf : b.2.2 with
        | false => exact .inr (.inl ⟨rfl, List.mem_cons_of_mem _ hb, fun p h1 h2 => by omega⟩)
        | true => exact .inr (.inr ⟨rfl, b, List.mem_cons_of_mem _ hb, hf, fun p h1 h2 => by omega⟩)
      intro b hb
      rcases List.mem_cons.1 hb with rfl | hb
      · exact .inl rfl
      · by_cases hl : n < x.2.1
        · rw [if_pos hl] at hb
          rcases List.mem_cons.1 hb with rfl | hb
          · exact .inr (.inr ⟨rfl, x, List.mem_cons_self, hc.1, fun p h1 h2 => by dsimp only at h1 h2; omega⟩)
          · exact tl b hb
        · rw [if_neg hl] at hb
          exact tl b hb
    · rw [if_neg hc] at h
      cases hT : takeL n L with
      | none => rw [hT] at h; cases h
      | some r =>
        obtain ⟨at2, L2⟩ := r
        rw [hT] at h
        simp only [Option.map_some, Option.some.injEq, Prod.mk.injEq] at h
        obtain ⟨rfl, rfl⟩ := h
        obtain ⟨_, _, t3, _⟩ := takeL_some hn hT h3
        intro b hb
        rcases List.mem_cons.1 hb with rfl | hb
        · cases hf : b.2.2 with
          | false => exact .inr (.inl ⟨rfl, List.mem_cons_self, fun p h1 h2 => by omega⟩)
          | true => exact .inr (.inr ⟨rfl, b, List.mem_cons_self, hf, fun p h1 h2 => by omega⟩)
        · rcases take_mem hn hT h3 b hb with h | ⟨q1, q2, q3⟩ | ⟨q1, b0, q2, q3⟩
          · exact .inl h
          · exact .inr (.inl ⟨q1, List.mem_cons_of_mem _ q2, q3⟩)
          · exact .inr (.inr ⟨q1, b0, List.mem_cons_of_mem _ q2, q3⟩)
theorem give_mem {addr : Int} : ∀ {L L' : List B} {a e n : Int}, giveL addr L = some (n, L') → Tiled a e L → ∀ b ∈ L', b = (addr, n, true) ∨ (b ∈ L ∧ ∀ p : Int, b.1 ≤ p → p < b.1 + b.2.1 → p < addr ∨ addr + n ≤ p)
  | [], L', a, e, n, h, _ => by simp [giveL] at h
  | x :: L, L', a, e, n, h, ⟨h1, h2, h3⟩ => by
    rw [giveL] at h
    by_cases hc : x.2.2 = false ∧ x.1 = addr
    · rw [if_pos hc] at h
      injection h with h
      injection h with e1 e2
      subst e1 e2
      intro b hb
      rcases List.mem_cons.1 hb with rfl | hb
      · exact .inl (by rw [hc.2])
      · have hm := h3.mem b hb
        exact .inr ⟨List.mem_cons_of_mem _ hb, fun p h1 h2 => by omega⟩
    · rw [if_neg hc] at h
      cases hT : giveL addr L with
      | none => rw [hT] at h; cases h
      | some r =>
        obtain ⟨n2, L2⟩ := r
        rw [hT] at h
        simp only [Option.map_some, Option.some.injEq, Prod.mk.injEq] at h
        obtain ⟨rfl, rfl⟩ := h
        obtain ⟨_, _, _, g4, _⟩ := giveL_some hT h3
        intro b hb
        rcases List.mem_cons.1 hb with rfl | hb
        · exact .inr ⟨List.mem_cons_self, fun p h1 h2 => by omega⟩
        · rcases give_mem hT h3 b hb with h | ⟨q1, q2⟩
          · exact .inl h
          · exact .inr ⟨List.mem_cons_of_mem _ q1, q2⟩
def Z (of : List Int) (b : B) : Prop := ∀ p : Nat, b.1 ≤ p → p < b.1 + b.2.1 → of.getD p 0 = 0
theorem coal_mem {of : List Int} : ∀ (L : List B) (a e : Int), Tiled a e L → (∀ b ∈ L, b.2.2 = true → Z of b) →
    (∀ b ∈ coal none L, (b.2.2 = true → Z of b) ∧ (b.2.2 = false → b ∈ L)) ∧ ∀ x : B, x.2.2 = true → x.1 + x.2.1 = a → Z of x → ∀ b ∈ coal (some x) L, (b.2.2 = true → Z of b) ∧ (b.2.2 = false → b ∈ L)
  | [], a, e, _, _ => by
    refine ⟨fun b hb => by simp [coal] at hb, fun x hx _ hz b hb => ?_⟩
    simp [coal] at hb
    subst hb
    exact ⟨fun _ => hz, fun h => by rw [hx] at h; cases h⟩
  | y :: L, a, e, ⟨h1, h2, h3⟩, hz => by
    have ih := coal_mem L _ e h3 (fun b hb => hz b (List.mem_cons_of_mem _ hb))
    refine ⟨?_, ?_⟩
    · intro b hb
      rw [coal] at hb
      by_cases hf : y.2.2 = true
      · rw [if_pos hf] at hb
        obtain ⟨q1, q2⟩ := ih.2 y hf (by omega) (hz y List.mem_cons_self hf) b hb
        exact ⟨q1, fun h => List.mem_cons_of_mem _ (q2 h)⟩
      · rw [if_neg hf] at hb
        rcases List.mem_cons.1 hb with rfl | hb
        · exact ⟨fun h => absurd h hf, fun _ => List.mem_cons_self⟩
        · obtain ⟨q1, q2⟩ := ih.1 b hb
          exact ⟨q1, fun h => List.mem_cons_of_mem _ (q2 h)⟩
    · intro x hx hxa hzx b hb
      rw [coal] at hb
      by_cases hf : y.2.2 = true
      · rw [if_pos hf] at hb
        have hzy := hz y List.mem_cons_self hf
        obtain ⟨q1, q2⟩ := ih.2 (x.1, x.2.1 + y.2.1, true) rfl (by show x.1 + (x.2.1 + y.2.1) = _; omega) (fun p p1 p2 => by
          dsimp only at p1 p2
          rcases Int.lt_or_le (p : Int) (x.1 + x.2.1) with h | h
          · exact hzx p p1 h
          · exact hzy p (by omega) (by omega)) b hb
        exact ⟨q1, fun h => List.mem_cons_of_mem _ (q2 h)⟩
      · rw [if_neg hf] at hb
        rcases List.mem_cons.1 hb with rfl | hb
        · exact ⟨fun _ => hzx, fun h => by rw [hx] at h; cases h⟩
        · rcases List.mem_cons.1 hb with rfl | hb
          · exact ⟨fun h => absurd h hf, fun _ => List.mem_cons_self⟩
          · obtain ⟨q1, q2⟩ := ih.1 b hb
            exact ⟨q1, fun h => List.mem_cons_of_mem _ (q2 h)⟩
theorem fill_out {of : List Int} {at_ n v : Int} (h0 : 0 ≤ at_) (hn : 0 ≤ n) (h1 : at_ + n ≤ of.length) (p : Nat) (h : (p : Int) < at_ ∨ at_ + n ≤ (p : Int)) : (CM.fillN of at_.toNat v n.toNat).getD p 0 = of.getD p 0 := by
  rw [fillN_get _ _ _ _ _ (by omega), if_neg (by omega)]
theorem fill_in {of : List Int} {at_ n v : Int} (h0 : 0 ≤ at_) (hn : 0 ≤ n) (h1 : at_ + n ≤ of.length) (p : Nat) (h : at_ ≤ (p : Int)) (h2 : (p : Int) < at_ + n) : (CM.fillN of at_.toNat v n.toNat).getD p 0 = v := by
  rw [fillN_get _ _ _ _ _ (by omega), if_pos (by omega)]
theorem OkR.take {st N : Nat} {of : List Int} {cnt : Int} {L L' : List B} (h : OkR st N of cnt L) (hc : 0 ≤ cnt) {n at_ : Int} (hn : 1 ≤ n) (hT : takeL n L = some (at_, L')) :
    OkR st N (CM.fillN of at_.toNat (cnt + 1) n.toNat) (cnt + 1) L' := by
  obtain ⟨t1, t2, t3, t4, t5, t6⟩ := takeL_some hn hT h.tiled
  have hmem := take_mem hn hT h.tiled
  have hlen := h.len
  have out : ∀ p : Nat, ((p : Int) < at_ ∨ at_ + n ≤ (p : Int)) → (CM.fillN of at_.toNat (cnt + 1) n.toNat).getD p 0 = of.getD p 0 := fun p hp => fill_out (by omega) (by omega) (by omega) p hp
  have inn : ∀ p : Nat, at_ ≤ (p : Int) → (p : Int) < at_ + n → (CM.fillN of at_.toNat (cnt + 1) n.toNat).getD p 0 = cnt + 1 := fun p h1 h2 => fill_in (by omega) (by omega) (by omega) p h1 h2
  refine ⟨h.lt, by rw [CM.fillN_length]; exact hlen, t1, (t6 h.apart).1, ⟨?_, ?_, ?_⟩⟩
  · intro b hb hf p p1 p2
    rcases hmem b hb with rfl | ⟨q1, _⟩ | ⟨q1, b0, q2, q3, q4⟩
    · cases hf
    · rw [q1] at hf; cases hf
    · obtain ⟨r1, r2⟩ := q4 p p1 p2
      rw [out p r2]
      exact h.marks.free b0 q2 q3 p r1.1 r1.2
  · intro b hb hf
    rcases hmem b hb with rfl | ⟨q1, q2, q3⟩ | ⟨q1, _⟩
    · exact ⟨cnt + 1, by omega, by omega, fun p p1 p2 => inn p p1 p2⟩
    · obtain ⟨m, m1, m2, m3⟩ := h.marks.out b q2 hf
      exact ⟨m, m1, by omega, fun p p1 p2 => by rw [out p (q3 p p1 p2)]; exact m3 p p1 p2⟩
    · rw [q1] at hf; cases hf
  · have val : ∀ b ∈ L', b.2.2 = false → (b = (at_, n, false) ∧ (CM.fillN of at_.toNat (cnt + 1) n.toNat).getD b.1.toNat 0 = cnt + 1) ∨ (b ∈ L ∧ (CM.fillN of at_.toNat (cnt + 1) n.toNat).getD b.1.toNat 0 = of.getD b.1.toNat 0 ∧ of.getD b.1.toNat 0 ≤ cnt) := by
      intro b hb hf
      rcases hmem b hb with rfl | ⟨q1, q2, q3⟩ | ⟨q1, _⟩
      · exact .inl ⟨rfl, inn _ (by dsimp only; omega) (by dsimp only; omega)⟩
      · have hm := h.tiled.mem b q2
        obtain ⟨m, m1, m2, m3⟩ := h.marks.out b q2 hf
        refine .inr ⟨q2, out _ (q3 _ (by omega) (by omega)), ?_⟩
        rw [m3 b.1.toNat (by omega) (by omega)]
        exact m2
      · rw [q1] at hf; cases hf
    intro x hx y hy hfx hfy he
    rcases val x hx hfx with ⟨rfl, e1⟩ | ⟨x1, e1, x2⟩ <;> rcases val y hy hfy with ⟨rfl, e2⟩ | ⟨y1, e2, y2⟩
    · rfl
    · rw [e1, e2] at he; omega
    · rw [e1, e2] at he; omega
    · rw [e1, e2] at he
      exact h.marks.dist x x1 y y1 hfx hfy he
theorem OkR.give {st N : Nat} {of : List Int} {cnt : Int} {L L' : List B} (h : OkR st N of cnt L) {n addr : Int} (hG : giveL addr L = some (n, L')) :
    OkR st N (CM.fillN of addr.toNat 0 n.toNat) cnt (coal none L') := by
  obtain ⟨t1, t2, t3, t4, t5, t6, t7⟩ := giveL_some hG h.tiled
  have hmem := give_mem hG h.tiled
  have hlen := h.len
  have out : ∀ p : Nat, ((p : Int) < addr ∨ addr + n ≤ (p : Int)) → (CM.fillN of addr.toNat 0 n.toNat).getD p 0 = of.getD p 0 := fun p hp => fill_out (by omega) (by omega) (by omega) p hp
  have inn : ∀ p : Nat, addr ≤ (p : Int) → (p : Int) < addr + n → (CM.fillN of addr.toNat 0 n.toNat).getD p 0 = 0 := fun p h1 h2 => fill_in (by omega) (by omega) (by omega) p h1 h2
  have hz : ∀ b ∈ L', b.2.2 = true → Z (CM.fillN of addr.toNat 0 n.toNat) b := by
    intro b hb hf p p1 p2
    rcases hmem b hb with rfl | ⟨q1, q2⟩
    · exact inn p p1 p2
    · rw [out p (q2 p p1 p2)]
      exact h.marks.free b q1 hf p p1 p2
  have hcm := (coal_mem L' st N t1 hz).1
  have nonf : ∀ b ∈ coal none L', b.2.2 = false → b ∈ L ∧ (∀ p : Nat, b.1 ≤ p → p < b.1 + b.2.1 → (CM.fillN of addr.toNat 0 n.toNat).getD p 0 = of.getD p 0) := by
    intro b hb hf
    rcases hmem b ((hcm b hb).2 hf) with rfl | ⟨q1, q2⟩
    · cases hf
    · exact ⟨q1, fun p p1 p2 => out p (q2 p p1 p2)⟩
  refine ⟨h.lt, by rw [CM.fillN_length]; exact hlen, (coal_tiled L' _ _ t1).1, (coal_apart L').1.1, ⟨?_, ?_, ?_⟩⟩
  · intro b hb hf
    exact (hcm b hb).1 hf
  · intro b hb hf
    obtain ⟨q1, q2⟩ := nonf b hb hf
    obtain ⟨m, m1, m2, m3⟩ := h.marks.out b q1 hf
    exact ⟨m, m1, m2, fun p p1 p2 => by rw [q2 p p1 p2]; exact m3 p p1 p2⟩
  · intro x hx y hy hfx hfy he
    obtain ⟨x1, x2⟩ := nonf x hx hfx
    obtain ⟨y1, y2⟩ := nonf y hy hfy
    have hmx := h.tiled.mem x x1
    have hmy := h.tiled.mem y y1
    rw [x2 _ (by omega) (by omega), y2 _ (by omega) (by omega)] at he
    exact h.marks.dist x x1 y y1 hfx hfy he
theorem OkR.new {st N : Nat} (h : st < N) : OkR st N (List.replicate N 0) 0 [((st : Int), ((N - st : Nat) : Int), true)] := by
  refine ⟨h, by simp, ⟨rfl, by dsimp only; omega, by show (st : Int) + ((N - st : Nat) : Int) = _; omega⟩, trivial, ⟨?_, ?_, ?_⟩⟩
  · intro b hb hf p p1 p2
    simp [List.getD_eq_getElem?_getD, List.getElem?_replicate]
    split <;> rfl
  · intro b hb hf
    simp at hb
    subst hb
    cases hf
  · intro x hx y hy hf
    simp at hx
    subst hx
    cases hf
theorem take_at {n : Int} : ∀ {L : List B} {i : Nat}, i < L.length → (∀ j, j < i → ¬ ((L.getD j AR.dB).2.2 = true ∧ n ≤ (L.getD j AR.dB).2.1)) → (L.getD i AR.dB).2.2 = true → n ≤ (L.getD i AR.dB).2.1 → ∃ L', takeL n L = some ((L.getD i AR.dB).1, L')
  | x :: L, 0, _, _, h1, h2 => by
    simp only [List.getD_cons_zero] at h1 h2 ⊢
    rw [takeL, if_pos ⟨h1, h2⟩]
    exact ⟨_, rfl⟩
  | x :: L, i + 1, hl, hj, h1, h2 => by
    simp only [List.getD_cons_succ] at h1 h2 ⊢
    have h0 := hj 0 (by omega)
    simp only [List.getD_cons_zero] at h0
    obtain ⟨L', hT⟩ := take_at (L := L) (i := i) (by simpa using hl) (fun j hj' => by have := hj (j + 1) (by omega); simpa only [List.getD_cons_succ] using this) h1 h2
    rw [takeL, if_neg h0, hT]
    exact ⟨_, rfl⟩
theorem take_no {n : Int} {L : List B} (h : ∀ j, j < L.length → ¬ ((L.getD j AR.dB).2.2 = true ∧ n ≤ (L.getD j AR.dB).2.1)) : takeL n L = none := by
  rw [takeL_none]
  intro b hb hf
  obtain ⟨j, hj, rfl⟩ := List.mem_iff_getElem.1 hb
  have := h j hj
  rw [List.getD_eq_getElem?_getD, List.getElem?_eq_getElem hj, Option.getD_some] at this
  exact Int.not_le.1 fun hq => this ⟨hf, hq⟩
theorem give_at {addr : Int} : ∀ {L : List B} {i : Nat}, i < L.length → (∀ j, j < i → ¬ ((L.getD j AR.dB).1 = addr ∧ (L.getD j AR.dB).2.2 = false)) → (L.getD i AR.dB).2.2 = false → (L.getD i AR.dB).1 = addr → ∃ L', giveL addr L = some ((L.getD i AR.dB).2.1, L')
  | x :: L, 0, _, _, h1, h2 => by
    simp only [List.getD_cons_zero] at h1 h2 ⊢
    rw [giveL, if_pos ⟨h1, h2⟩]
    exact ⟨_, rfl⟩
  | x :: L, i + 1, hl, hj, h1, h2 => by
    simp only [List.getD_cons_succ] at h1 h2 ⊢
    have h0 := hj 0 (by omega)
    simp only [List.getD_cons_zero] at h0
    obtain ⟨L', hT⟩ := give_at (L := L) (i := i) (by simpa using hl) (fun j hj' => by have := hj (j + 1) (by omega); simpa only [List.getD_cons_succ] using this) h1 h2
    rw [giveL, if_neg (fun h => h0 ⟨h.2, h.1⟩), hT]
    exact ⟨_, rfl⟩
theorem give_no {addr : Int} {L : List B} (h : ∀ j, j < L.length → ¬ ((L.getD j AR.dB).1 = addr ∧ (L.getD j AR.dB).2.2 = false)) : giveL addr L = none := by
  rw [giveL_none]
  intro n hn
  unfold takens at hn
  obtain ⟨b, hb, he⟩ := List.mem_map.1 hn
  obtain ⟨hb1, hb2⟩ := List.mem_filter.1 hb
  obtain ⟨j, hj, rfl⟩ := List.mem_iff_getElem.1 hb1
  have := h j hj
  rw [List.getD_eq_getElem?_getD, List.getElem?_eq_getElem hj, Option.getD_some] at this
  exact this ⟨(Prod.mk.inj he).1, by simpa using hb2⟩
/-! ### The piece of memory -/
structure RV where
  A1 : Option Addr
  n1 : Nat
  c1 : Nat
  A2 : Option Addr
  n2 : Nat
  c2 : Nat
  of : List Int
  cnt : Int
abbrev rB (r st : Nat) (x : RV) : Chunk := Chunk.blk r #[.int .i64 (st : Int), .slice x.A1 x.n1 x.c1, .slice x.A2 x.n2 x.c2, .int .i64 x.cnt] 110
def refC (r st : Nat) (ws : List Int) (L : List B) (k : Nat) : Chunk :=
  Chunk.ex fun x : RV => Chunk.fact (OkR st ws.length x.of x.cnt L ∧ 0 ≤ x.cnt ∧ x.cnt ≤ k) (Chunk.star (rB r st x) (Chunk.star (intsC (.slice x.A1 x.n1 x.c1) ws) (intsC (.slice x.A2 x.n2 x.c2) x.of)))
theorem openR {S : List Nat} {w0 w : World} {K : List Chunk} {r st : Nat} {ws : List Int} {L : List B} {k : Nat} (h : St S w0 w (refC r st ws L k :: K)) :
    ∃ x : RV, OkR st ws.length x.of x.cnt L ∧ 0 ≤ x.cnt ∧ x.cnt ≤ k ∧ St S w0 w (rB r st x :: intsC (.slice x.A1 x.n1 x.c1) ws :: intsC (.slice x.A2 x.n2 x.c2) x.of :: K) := by
  obtain ⟨x, h1⟩ := h.unex 0 rfl
  obtain ⟨⟨k1, k2, k3⟩, h2⟩ := h1.unfact 0 rfl
  have h3 := h2.split
  have h4 := ((h3.perm (List.Perm.swap _ _ _)).split)
  refine ⟨x, k1, k2, k3, h4.perm ?_⟩
  exact ((List.Perm.swap _ _ _).cons _).trans (List.Perm.swap _ _ _)
theorem closeR {S : List Nat} {w0 w : World} {K : List Chunk} {r st : Nat} {ws : List Int} {L : List B} {k : Nat} (x : RV) (k1 : OkR st ws.length x.of x.cnt L) (k2 : 0 ≤ x.cnt) (k3 : x.cnt ≤ k)
    (h : St S w0 w (rB r st x :: intsC (.slice x.A1 x.n1 x.c1) ws :: intsC (.slice x.A2 x.n2 x.c2) x.of :: K)) : St S w0 w (refC r st ws L k :: K) := by
  have h2 := (h.perm ((List.Perm.swap _ _ _).trans ((List.Perm.swap _ _ _).cons _))).join
  have h3 := (h2.perm (List.Perm.swap _ _ _)).join
  exact h3.as 0 rfl (refC r st ws L k) (fun F hF => ⟨x, ⟨k1, k2, k3⟩, hF⟩)
theorem rdR {S : List Nat} {w0 w : World} {K : List Chunk} {r st : Nat} {ws : List Int} {x : RV} (h : St S w0 w (rB r st x :: intsC (.slice x.A1 x.n1 x.c1) ws :: intsC (.slice x.A2 x.n2 x.c2) x.of :: K)) :
    Rd w r st x.A2 x.n2 x.c2 x.of := ⟨(h.blk 0 rfl).cell rfl, (h.blk 0 rfl).cell rfl, rdI h 2 rfl⟩
section
variable {S : List Nat} {w0 w : World} {K : List Chunk} {r st : Nat} {ws : List Int} {L : List B} {k : Nat}
/-- A contract told of the piece alone, used among others. -/
theorem use1 (h : St S w0 w K) (i : Nat) (hi : K[i]? = some (refC r st ws L k)) {ws' : List Int} {L' : List B} {k' : Nat} {f : FuncId} {args : Array Value} {Q : Ending → Prop}
    (hc : ∀ F, St F w w [refC r st ws L k] → Calls Try.prog f args w fun e w' => Q e ∧ St F w w' [refC r st ws' L' k']) :
    Calls Try.prog f args w fun e w' => Q e ∧ St S w0 w' (K.set i (refC r st ws' L' k')) := by
  obtain ⟨F, hF, hg⟩ := h.graft i hi
  refine (hc F (St.start1 hF)).mono fun e w' ⟨h1, h2⟩ => ⟨h1, ?_⟩
  simpa using hg (M := []) h2
theorem rBlocksS (h : St S w0 w K) (i : Nat) (hi : K[i]? = some (refC r st ws L k)) (hN : ws.length ≤ 4000) :
    Calls Try.prog 47 #[.pointer (some ⟨r, 0, none⟩)] w fun e w' => ∃ A n c, e = .returned (.slice A n c) ∧ St S w0 w' (slC (.slice A n c) L :: K) := by
  obtain ⟨F, hF, _⟩ := h.graft i hi
  obtain ⟨x, k1, k2, k3, hS⟩ := openR (St.start1 hF)
  refine (rBlocks (rdR hS) k1 hN).mono ?_
  rintro e w' ⟨A', n', c', rfl, hB⟩
  exact ⟨_, _, _, rfl, more h hB⟩
theorem rLive (h : St S w0 w K) (i : Nat) (hi : K[i]? = some (refC r st ws L k)) (hN : ws.length ≤ 4000) :
    Calls Try.prog 50 #[.pointer (some ⟨r, 0, none⟩)] w fun e w' => e = .returned (.int .i64 ((takens L).length : Int)) ∧ St S w0 w' K := by
  refine Calls.mono (f50.calls (R := fun v w' => v = .int .i64 ((takens L).length : Int) ∧ St S w0 w' K) ?_) ?_
  · dsimp only [f50.VC]
    obtain ⟨F, hF, _⟩ := h.graft i hi
    obtain ⟨x, k1, k2, k3, hS⟩ := openR (St.start1 hF)
    have hLl := k1.tiled.len
    refine Calls.mono (rBlocksS h i hi hN) ?_
    rintro _ w1 ⟨A, n, c, rfl, h1⟩
    refine ⟨_, _, _, rfl, ?_⟩
    have hr := rdB h1 0 rfl
    rw [← outN_eq]
    refine ⟨fun x3 x4 w2 r => w2 = w1 ∧ ∃ i k : Nat, x4 = (i : Int) ∧ x3 = (k : Int) ∧ k + outN (L.drop i) = outN L ∧ i + r = n, ⟨n, rfl, 0, 0, rfl, rfl, by simp, by omega⟩, ?_⟩
    rintro d x3 x4 w2 r ⟨rfl, i, k, rfl, rfl, hk, hir⟩
    have hn := hr.1
    have ho := outN_le L
    refine sel_of (fun hd => ?_) (fun hd => ?_)
    · have hi : i < n := by simpa using hd
      obtain ⟨b, o, rfl, hc⟩ := hr.2 (by omega)
      obtain ⟨_, _, c3⟩ := hc i hi
      have hi1 : IntKind.i64.wrap ((i : Int) + 1) = ((i + 1 : Nat) : Int) := by rw [i64_id (by omega) (by omega)]; omega
      have hk1 : IntKind.i64.wrap ((k : Int) + 1) = ((k + 1 : Nat) : Int) := by rw [i64_id (by omega) (by omega)]; omega
      rw [drop_getD AR.dB L i (by omega), outN] at hk
      refine ⟨by omega, by omega, needPtr_of rfl ⟨_, by rw [Int.toNat_natCast]; exact c3, sel_of (fun hb => ?_) (fun hb => ?_)⟩⟩
      · rw [if_neg (by simpa using hb)] at hk
        rw [hi1, hk1]
        exact ⟨rfl, r - 1, by omega, rfl, i + 1, k + 1, rfl, rfl, by omega, by omega⟩
      · rw [if_pos (by simpa using hb)] at hk
        rw [hi1]
        exact ⟨rfl, r - 1, by omega, rfl, i + 1, k, rfl, rfl, by omega, by omega⟩
    · have hi : i = n := by
        have : ¬ (i : Int) < (n : Int) := by simpa using hd
        omega
      rw [List.drop_of_length_le (by omega), outN] at hk
      exact ⟨by rw [← hk]; simp, h1.tail⟩
  · rintro e w' ⟨v, rfl, rfl, h⟩; exact ⟨rfl, h⟩
theorem rBack (h : St S w0 w K) (i : Nat) (hi : K[i]? = some (refC r st ws L k)) (hN : ws.length ≤ 4000) (z : Int) :
    Calls Try.prog 40 #[.pointer (some ⟨r, 0, none⟩), .int .i64 z] w fun e w' => ∃ a, e = .returned (.int .i64 a) ∧ St S w0 w' K := by
  refine Calls.mono (f40.calls (R := fun v w' => ∃ a, v = .int .i64 a ∧ St S w0 w' K) ?_) ?_
  · dsimp only [f40.VC]
    obtain ⟨F, hF, _⟩ := h.graft i hi
    obtain ⟨x, k1, k2, k3, hS⟩ := openR (St.start1 hF)
    have hLl := k1.tiled.len
    refine Calls.mono (rBlocksS h i hi hN) ?_
    rintro _ w1 ⟨A, n, c, rfl, h1⟩
    refine ⟨_, _, _, rfl, ?_⟩
    refine ⟨fun A6 n6 c6 x w2 rr => ∃ (i : Nat) (got : List Int), x = (i : Int) ∧ i + rr = n ∧ got.length ≤ i ∧ St S w0 w2 (intsC (.slice A6 n6 c6) got :: slC (.slice A n c) L :: K), ⟨n, 0, [], rfl, by omega, by simp, h1.nil 3 1⟩, ?_⟩
    rintro d A6 n6 c6 x w2 rr ⟨i, got, rfl, hir, hgl, hS⟩
    have hr := rdB hS 1 rfl
    have hn := hr.1
    have hn6 := (rdI hS 0 rfl).1
    refine sel_of (fun hd => ?_) (fun hd => ?_)
    · have hi : i < n := by simpa using hd
      obtain ⟨b, o, rfl, hc⟩ := hr.2 (by omega)
      obtain ⟨c1, _, c3⟩ := hc i hi
      have hi1 : IntKind.i64.wrap ((i : Int) + 1) = ((i + 1 : Nat) : Int) := by rw [i64_id (by omega) (by omega)]; omega
      rw [hi1]
      refine ⟨by omega, by omega, needPtr_of rfl ⟨_, by rw [Int.toNat_natCast]; exact c3, sel_of (fun hb => ?_) (fun hb => ?_)⟩⟩
      · refine ⟨by omega, by omega, needPtr_of rfl ⟨_, by rw [Int.toNat_natCast]; exact c1, ?_⟩⟩
        have hS7 := hS.alloc #[.int .i64 (L.getD i AR.dB).1] 3
        obtain ⟨ti, i1, i2, i3, i4⟩ := CM.info3
        obtain ⟨g', cap', w', hrun, hS8⟩ := hS7.append (P := Try.prog) (ty := 23) (r := [.int .i64 (L.getD i AR.dB).1]) 1 CM.under23 i1 i2 i3 rfl (by decide) rfl (hS7.blk 0 rfl) rfl rfl (by intro u hu; simp only [List.mem_singleton] at hu; subst hu; rfl) (by rw [i4]; simp; omega) (by simp [maxLen]; omega)
        refine ⟨_, _, _, _, hrun, rfl, rr - 1, by omega, i + 1, got ++ [(L.getD i AR.dB).1], rfl, by omega, by rw [List.length_append, List.length_singleton]; omega, ?_⟩
        have e : (got ++ [(L.getD i AR.dB).1]).map (fun x => [Value.int .i64 x]) = got.map (fun x => [Value.int .i64 x]) ++ [[.int .i64 (L.getD i AR.dB).1]] := by simp only [List.map_append, List.map_cons, List.map_nil]
        simp only [intsC]
        rw [e]
        exact hS8.tail
      · exact ⟨rfl, rr - 1, by omega, i + 1, got, rfl, by omega, by omega, hS⟩
    · have hi : i = n := by
        have : ¬ (i : Int) < (n : Int) := by simpa using hd
        omega
      refine sel_of (fun h0 => ⟨z, rfl, hS.tail.tail⟩) (fun h0 => ?_)
      have hp : 0 < n6 := by
        have : ¬ (n6 : Int) = 0 := beq_eq_false_iff_ne.1 h0
        omega
      refine Calls.mono (hS.step0 (LW.at_ w2 z (n := n6) hp (by omega))) ?_
      rintro _ w5 ⟨rfl, hS5⟩
      have har := LW.atI_range z (n := n6) hp
      obtain ⟨j, hj⟩ : ∃ q : Nat, LW.atI z n6 = (q : Int) := ⟨(LW.atI z n6).toNat, by omega⟩
      rw [hj] at har ⊢
      obtain ⟨b, o, hA, hc⟩ := (rdI hS5 0 rfl).2 hp
      exact ⟨_, rfl, har.1, har.2, needPtr_of hA ⟨_, by rw [Int.toNat_natCast]; exact hc j (by omega), _, rfl, hS5.tail.tail⟩⟩
  · rintro e w' ⟨v, rfl, a, rfl, h⟩; exact ⟨_, rfl, h⟩
end
end RA
end Go.Proofs.Ytebahglmdifmpaa
