/- The document's heap (gatehouseref15.Heap): things in the order in which they came. -/
import Derived.Test.YtebahglmdifmpaaV6
import Derived.Test.YtebahglmdifmpaaS1
import Derived.Test.YtebahglmdifmpaaHeapPlain
set_option linter.unusedVariables false
set_option linter.unusedSimpArgs false
set_option maxRecDepth 10000
namespace Go.Proofs.Ytebahglmdifmpaa
open Go Go.Proofs.Ytebahglmdifmpaa.Vc
namespace RH
abbrev d : Int × Int := (0, 0)
abbrev two (q : Int × Int) : List Value := [.int .i64 q.1, .int .i64 q.2]
def leastUpto (t : List (Int × Int)) : Nat → Nat
  | 0 => 0
  | i + 1 => if (t.getD i d).1 < (t.getD (leastUpto t i) d).1 then i else leastUpto t i
def leastOf (t : List (Int × Int)) : Nat := leastUpto t t.length
theorem leastUpto_lt (t : List (Int × Int)) : ∀ i, 0 < i → leastUpto t i < i
  | 0, h => by omega
  | i + 1, _ => by
    unfold leastUpto
    split
    · omega
    · rcases Nat.eq_zero_or_pos i with h | h
      · subst h; simp [leastUpto]
      · have := leastUpto_lt t i h; omega
theorem leastUpto_le (t : List (Int × Int)) : ∀ i, ∀ j, j < i → (t.getD (leastUpto t i) d).1 ≤ (t.getD j d).1 ∧ (j < leastUpto t i → (t.getD (leastUpto t i) d).1 < (t.getD j d).1)
  | 0, j, h => by omega
  | i + 1, j, h => by
    unfold leastUpto
    have ih := leastUpto_le t i
    split
    · rename_i hl
      rcases Nat.lt_or_ge j i with hj | hj
      · have := (ih j hj).1
        constructor <;> omega
      · have : j = i := by omega
        subst this
        constructor <;> omega
    · rename_i hl
      rcases Nat.lt_or_ge j i with hj | hj
      · exact ih j hj
      · have : j = i := by omega
        subst this
        refine ⟨by omega, fun hlt => ?_⟩
        rcases Nat.eq_zero_or_pos j with h0 | h0
        · subst h0; simp [leastUpto] at hlt
        · have := leastUpto_lt t j h0; omega
theorem leastOf_first {t : List (Int × Int)} (h : 0 < t.length) : HeapPlain.FirstLeast (t.map (·.1)) (leastOf t) := by
  have hl : leastOf t < t.length := leastUpto_lt t t.length h
  have e : ∀ j, j < t.length → (t.map (·.1)).getD j 0 = (t.getD j d).1 := by
    intro j hj
    simp [List.getD_eq_getElem?_getD, hj]
  refine ⟨by simpa using hl, fun i hi => ?_, fun i hi => ?_⟩
  · simp only [List.length_map] at hi
    rw [e _ hl, e _ hi]
    exact (leastUpto_le t t.length i hi).1
  · have hi2 : i < t.length := by omega
    rw [e _ hl, e _ hi2]
    exact (leastUpto_le t t.length i hi2).2 hi
theorem at_pre {w : World} {b : Nat} {pre : List Value} {v : Value} {T : TypeId} (h : Blk w b (pre ++ [v]).toArray T) : w.cell? ⟨b, pre.length, none⟩ = some v := h.cell (by simp)
theorem put_pre (pre : List Value) (v u : Value) : putA (pre ++ [v]).toArray pre.length [u] = (pre ++ [u]).toArray := by
  simp [putA]
abbrev L (v : Value) (t : List (Int × Int)) : Chunk := Chunk.sl 38 2 v (t.map two)
theorem L.shape {w : World} {v : Value} {t : List (Int × Int)} {F : List Nat} (h : (L v t).holds w F) : ∃ A c, v = .slice A t.length c ∧ (0 < t.length → ∃ g, A = some ⟨g, 0, none⟩ ∧ ∀ i, i < t.length → w.cell? ⟨g, i * 2, none⟩ = some (.int .i64 (t.getD i d).1) ∧ w.cell? ⟨g, i * 2 + 1, none⟩ = some (.int .i64 (t.getD i d).2)) := by
  rcases h with ⟨rfl, h, _⟩ | ⟨g, cap, rfl, _, hR⟩
  · have : t = [] := by simpa using h
    subst this
    exact ⟨_, _, rfl, fun h => absurd h (by simp)⟩
  · refine ⟨some ⟨g, 0, none⟩, cap, by simp, fun h => ⟨g, rfl, fun i hi => ?_⟩⟩
    have e : (t.map two).getD i [] = two (t.getD i d) := by simp [List.getD_eq_getElem?_getD, hi]
    exact ⟨hR.cell (i := i) (j := 0) (by simpa using hi) (by decide) (by omega) (by rw [e]; rfl), hR.cell (i := i) (j := 1) (by simpa using hi) (by decide) (by omega) (by rw [e]; rfl)⟩
theorem least {w : World} {b : Nat} {pre : List Value} {v : Value} {T : TypeId} {t : List (Int × Int)} {F : List Nat} (hB : Blk w b (pre ++ [v]).toArray T) (hL : (L v t).holds w F) (ht : t.length ≤ 4000000) :
    Calls Try.prog 65 #[.pointer (some ⟨b, pre.length, none⟩)] w fun e w' => e = .returned (.int .i64 (leastOf t : Int)) ∧ Fr [] w w' := by
  refine Calls.mono (f65.calls (R := fun v w' => v = .int .i64 (leastOf t : Int) ∧ Fr [] w w') ?_) ?_
  · dsimp only [f65.VC]
    have c0 := at_pre hB
    obtain ⟨A, c, rfl, hg⟩ := L.shape hL
    refine ⟨fun x3 x4 w1 r => ∃ i : Nat, x4 = (i : Int) ∧ i + r = t.length ∧ x3 = (leastUpto t i : Int) ∧ Fr [] w w1, ⟨t.length, 0, rfl, by omega, rfl, Fr.refl _ _⟩, ?_⟩
    rintro _ x3 x4 w1 r ⟨i, rfl, hir, rfl, hF⟩
    refine ⟨_, _, _, hF.cell c0, sel_of ?_ ?_⟩
    · intro hd
      have hi : i < t.length := by simpa using hd
      obtain ⟨g, rfl, hcs⟩ := hg (by omega)
      have hk : leastUpto t i < t.length := by
        rcases Nat.eq_zero_or_pos i with h0 | h0
        · subst h0; simp [leastUpto]; omega
        · have := leastUpto_lt t i h0; omega
      have e1 : 0 + (i : Int).toNat * 2 = i * 2 := by simp
      have e2 : 0 + (leastUpto t i : Int).toNat * 2 = leastUpto t i * 2 := by simp
      have hw : IntKind.i64.wrap ((i : Int) + 1) = ((i + 1 : Nat) : Int) := by rw [i64_id (by omega) (by omega)]; omega
      refine ⟨_, _, _, hF.cell c0, by omega, by omega, needPtr_of rfl ⟨(t.getD i d).1, by rw [e1]; exact hF.cell (hcs i hi).1, _, _, _, hF.cell c0, by omega, by omega, needPtr_of rfl ⟨(t.getD (leastUpto t i) d).1, by rw [e2]; exact hF.cell (hcs _ hk).1, ?_⟩⟩⟩
      rw [hw]
      refine sel_of ?_ ?_
      · intro h
        have h : (t.getD i d).1 < (t.getD (leastUpto t i) d).1 := by simpa using h
        exact ⟨rfl, r - 1, by omega, i + 1, rfl, by omega, by rw [leastUpto, if_pos h], hF.drew⟩
      · intro h
        have h : ¬ (t.getD i d).1 < (t.getD (leastUpto t i) d).1 := by simpa using h
        exact ⟨rfl, r - 1, by omega, i + 1, rfl, by omega, by rw [leastUpto, if_neg h], hF.drew⟩
    · intro hd
      have hi : i = t.length := by
        have : ¬ (i : Int) < (t.length : Int) := by simpa using hd
        omega
      subst hi
      exact ⟨rfl, hF⟩
  · rintro e w' ⟨v, rfl, rfl, h⟩
    exact ⟨rfl, h⟩
theorem peek {w : World} {b : Nat} {pre : List Value} {v : Value} {T : TypeId} {t : List (Int × Int)} {F : List Nat} (hB : Blk w b (pre ++ [v]).toArray T) (hL : (L v t).holds w F) (ht : t.length ≤ 4000000) :
    Calls Try.prog 64 #[.pointer (some ⟨b, pre.length, none⟩)] w fun e w' => e = .returned (.tuple #[.agg #[.int .i64 (t.getD (leastOf t) d).1, .int .i64 (t.getD (leastOf t) d).2], .bool (decide (0 < t.length))]) ∧ Fr [] w w' := by
  refine Calls.mono (f64.calls (R := fun v w' => v = .tuple #[.agg #[.int .i64 (t.getD (leastOf t) d).1, .int .i64 (t.getD (leastOf t) d).2], .bool (decide (0 < t.length))] ∧ Fr [] w w') ?_) ?_
  · dsimp only [f64.VC]
    obtain ⟨A, c, rfl, hg⟩ := L.shape hL
    have hF1 : Fr [] w (World.alloc w (.cells #[.int .i64 0, .int .i64 0] 38)) := (Fr.refl _ _).alloc
    have hQ : Blk (World.alloc w (.cells #[.int .i64 0, .int .i64 0] 38)) w.heap.size #[.int .i64 0, .int .i64 0] 38 := Blk.new
    have hB1 := hF1.blk hB (by simp)
    have hL1 := (L (.slice A t.length c) t).fr hL hF1 (by simp)
    generalize World.alloc w (.cells #[.int .i64 0, .int .i64 0] 38) = w1 at *
    have c0 := at_pre hB1
    refine ⟨_, _, _, c0, sel_of ?_ ?_⟩
    · intro hd
      have h0 : t = [] := by simpa using hd
      subst h0
      refine ⟨hQ.can (by simp), _, (hQ.whole (vs := two (0, 0)) rfl).cell rfl, _, (hQ.whole (vs := two (0, 0)) rfl).cell rfl, rfl, ?_⟩
      exact hF1.set (.inr (Nat.le_refl _))
    · intro hd
      have hpos : 0 < t.length := by
        rcases Nat.eq_zero_or_pos t.length with h | h
        · simp [List.eq_nil_of_length_eq_zero h] at hd
        · exact h
      obtain ⟨g, rfl, hcs⟩ := hg hpos
      have hk : leastOf t < t.length := leastUpto_lt t _ hpos
      have e2 : 0 + (leastOf t : Int).toNat * 2 = leastOf t * 2 := by simp
      rw [decide_eq_true hpos]
      have rest : ∀ w3, Fr [] w1.drew w3 → ∃ (x18_0 : Int), w3.cell? ⟨g, 0 + (leastOf t : Int).toNat * 2, none⟩ = some (.int .i64 x18_0) ∧ ∃ (x18_1 : Int), w3.cell? ⟨g, 0 + (leastOf t : Int).toNat * 2 + 1, none⟩ = some (.int .i64 x18_1) ∧
          canStore w3 w.heap.size 0 2 ∧ ∃ (x2_0_1 : Int), (setCs w3 w.heap.size 0 [.int .i64 x18_0, .int .i64 x18_1]).cell? ⟨w.heap.size, 0, none⟩ = some (.int .i64 x2_0_1) ∧ ∃ (x2_1_1 : Int), (setCs w3 w.heap.size 0 [.int .i64 x18_0, .int .i64 x18_1]).cell? ⟨w.heap.size, 1, none⟩ = some (.int .i64 x2_1_1) ∧
          (Value.tuple #[.agg #[.int .i64 x2_0_1, .int .i64 x2_1_1], .bool true] = .tuple #[.agg #[.int .i64 (t.getD (leastOf t) d).1, .int .i64 (t.getD (leastOf t) d).2], .bool true] ∧ Fr [] w (setCs w3 w.heap.size 0 [.int .i64 x18_0, .int .i64 x18_1])) := by
        intro w3 hF
        have hF := hF.ofdrew
        have hQ3 := hF.blk hQ (by simp)
        have q := hQ3.whole (vs := two (t.getD (leastOf t) d)) rfl
        have c1 := (hF1.trans hF).cell (hcs _ hk).1
        have c2 := (hF1.trans hF).cell (hcs _ hk).2
        refine ⟨(t.getD (leastOf t) d).1, by rw [e2]; exact c1, (t.getD (leastOf t) d).2, by rw [e2]; exact c2, hQ3.can (by simp), _, q.cell rfl, _, q.cell rfl, rfl, ?_⟩
        exact (hF1.trans hF).set (.inr (Nat.le_refl _))
      refine ⟨⟨_, _, _, c0, ?_⟩, ?_, trivial⟩
      · refine Calls.mono (least hB1.drew ((L (.slice (some ⟨g, 0, none⟩) t.length c) t).fr hL1 (Fr.refl [] w1).drew (by simp)) ht) ?_
        rintro _ w3 ⟨rfl, hF⟩
        exact ⟨_, rfl, by omega, by omega, needPtr_of rfl (rest w3 hF)⟩
      · refine Calls.mono (least hB1.drew ((L (.slice (some ⟨g, 0, none⟩) t.length c) t).fr hL1 (Fr.refl [] w1).drew (by simp)) ht) ?_
        rintro _ w3 ⟨rfl, hF⟩
        exact ⟨_, rfl, _, _, _, hF.ofdrew.cell c0, by omega, by omega, needPtr_of rfl (rest w3 hF)⟩
  · rintro e w' ⟨v, rfl, rfl, h⟩
    exact ⟨rfl, h⟩
def refC (T : TypeId) (pre : List Value) (b : Nat) (t : List (Int × Int)) : Chunk := Chunk.ex fun v => Chunk.star (Chunk.blk b (pre ++ [v]).toArray T) (L v t)
theorem info38 : ∃ i, Try.prog.info? 38 = some i ∧ i.zero = some (.agg #[.int .i64 0, .int .i64 0]) ∧ i.size = 2 ∧ i.bytes = 16 := ⟨Try.prog.types[38]!, by kernel_rfl, by kernel_rfl, by kernel_rfl, by kernel_rfl⟩
theorem under32 : Try.prog.underlying 32 = some (.slice 38) := by kernel_rfl
theorem L.none (n c : Nat) (A : Option Addr) (t : List (Int × Int)) {w : World} {F : List Nat} (h : (L (.slice A n c) t).holds w F) : n = t.length := by
  obtain ⟨A', c', h1, _⟩ := L.shape h
  injection h1
section
variable {S : List Nat} {w0 w : World} {K : List Chunk} {T : TypeId} {pre : List Value} {b : Nat} {t : List (Int × Int)}
theorem push (h : St S w0 w K) (i : Nat) (hi : K[i]? = some (refC T pre b t)) (x : Int × Int) (ht : t.length ≤ 4000000) :
    Calls Try.prog 17 #[.pointer (some ⟨b, pre.length, none⟩), .agg #[.int .i64 x.1, .int .i64 x.2]] w fun e w' => e = .returned (.tuple #[]) ∧ St S w0 w' (K.set i (refC T pre b (t ++ [x]))) := by
  refine h.step1 i hi _ fun F hF => ?_
  refine Calls.mono (f17.calls (R := fun v w' => v = .tuple #[] ∧ ∃ F', (refC T pre b (t ++ [x])).holds w' F' ∧ Fr F w w' ∧ ∀ b ∈ F', b ∈ F ∨ w.heap.size ≤ b) ?_) ?_
  · dsimp only [f17.VC]
    obtain ⟨v, hS⟩ := (St.start1 hF).unex 0 rfl
    have hS := St.split (L := []) hS
    obtain ⟨F1, hL, _⟩ := hS.at 1 rfl
    obtain ⟨A, c, rfl, _⟩ := L.shape hL
    have hS1 := hS.alloc (two x).toArray 38
    have hQ := hS1.blk 0 rfl
    refine ⟨_, _, _, at_pre (hS1.blk 1 rfl), _, hQ.cell rfl, _, hQ.cell rfl, ?_⟩
    generalize World.alloc w (.cells #[.int .i64 x.1, .int .i64 x.2] 38) = w1 at *
    have hS2 := hS1.drew.alloc (two x).toArray 38
    obtain ⟨ti, t1, t2, t3, t4⟩ := info38
    obtain ⟨g', cap', w', hrun, hS3⟩ := hS2.append (P := Try.prog) (ty := 32) (r := two x) 3 under32 t1 t2 t3 rfl (by decide) rfl (hS2.blk 0 rfl) rfl rfl (by intro u hu; simp [two] at hu; rcases hu with rfl | rfl <;> rfl) (by rw [t4]; simp; omega) (by simp [maxLen]; omega)
    refine ⟨_, _, _, _, hrun, (hS3.blk 2 rfl).can (by simp), rfl, ?_⟩
    have hS4 := hS3.set 2 rfl pre.length [.slice (some ⟨g', 0, none⟩) ((t.map two).length + 1) cap']
    rw [put_pre] at hS4
    have hS5 := St.join (hS4.tail.tail)
    have hS6 := hS5.as 0 rfl (refC T pre b (t ++ [x])) (fun F hF => ⟨.slice (some ⟨g', 0, none⟩) (t.length + 1) cap', by simpa [L] using hF⟩)
    exact hS6.whole
  · rintro e w' ⟨v, rfl, rfl, h⟩
    exact ⟨rfl, h⟩
theorem rest_succ (t : List (Int × Int)) (k i : Nat) (hi : i < t.length) : (t.take (i + 1)).eraseIdx k = if i = k then (t.take i).eraseIdx k else (t.take i).eraseIdx k ++ [t.getD i d] := by
  have e : t.take (i + 1) = t.take i ++ [t.getD i d] := by
    rw [List.take_succ_eq_append_getElem hi]
    simp [List.getD_eq_getElem?_getD, hi]
  have hl : (t.take i).length = i := by simp; omega
  rw [e]
  split
  · rename_i h
    subst h
    rw [List.eraseIdx_append_of_length_le (by omega), hl, Nat.sub_self, List.eraseIdx_of_length_le (l := t.take i) (by omega)]
    simp
  · rename_i h
    rcases Nat.lt_or_ge k i with h1 | h1
    · rw [List.eraseIdx_append_of_lt_length (by omega)]
    · rw [List.eraseIdx_of_length_le (by simp; omega), List.eraseIdx_of_length_le (by omega)]
theorem pop (h : St S w0 w K) (i : Nat) (hi : K[i]? = some (refC T pre b t)) (ht : t.length ≤ 4000000) :
    Calls Try.prog 21 #[.pointer (some ⟨b, pre.length, none⟩)] w fun e w' => e = .returned (.tuple #[.agg #[.int .i64 (t.getD (leastOf t) d).1, .int .i64 (t.getD (leastOf t) d).2], .bool (decide (0 < t.length))]) ∧ St S w0 w' (K.set i (refC T pre b (t.eraseIdx (leastOf t)))) := by
  refine h.step1 i hi _ fun F hF => ?_
  refine Calls.mono (f21.calls (R := fun v w' => v = .tuple #[.agg #[.int .i64 (t.getD (leastOf t) d).1, .int .i64 (t.getD (leastOf t) d).2], .bool (decide (0 < t.length))] ∧ ∃ F', (refC T pre b (t.eraseIdx (leastOf t))).holds w' F' ∧ Fr F w w' ∧ ∀ b ∈ F', b ∈ F ∨ w.heap.size ≤ b) ?_) ?_
  · dsimp only [f21.VC]
    obtain ⟨v, hS⟩ := (St.start1 hF).unex 0 rfl
    have hS := St.split (L := []) hS
    obtain ⟨_, hL0, _⟩ := hS.at 1 rfl
    obtain ⟨A, c, rfl, _⟩ := L.shape hL0
    have hS1 := hS.alloc (two (0, 0)).toArray 38
    generalize World.alloc w (.cells #[.int .i64 0, .int .i64 0] 38) = w1 at *
    obtain ⟨_, hL1, _⟩ := hS1.at 2 rfl
    refine Calls.mono (hS1.step0 (peek (hS1.blk 1 rfl) hL1 ht)) ?_
    rintro _ w2 ⟨rfl, hS2⟩
    refine ⟨_, _, _, rfl, ?_⟩
    have hS3 := hS2.alloc (two (0, 0)).toArray 38
    generalize World.alloc w2 (.cells #[.int .i64 0, .int .i64 0] 38) = w3 at *
    generalize htb : w2.heap.size = tb at *
    refine ⟨(hS3.blk 0 rfl).can (by simp), ?_⟩
    have hS4 := hS3.over 0 rfl (two (t.getD (leastOf t) d)) rfl
    generalize hx : t.getD (leastOf t) d = x at *
    have hT := hS4.blk 0 rfl
    refine sel_of ?_ ?_
    · intro hb
      have hb : ¬ 0 < t.length := by simpa using hb
      have h0 : t = [] := List.eq_nil_of_length_eq_zero (by omega)
      have hS5 := hS4.over 1 rfl (two x) rfl
      have hR := hS5.blk 1 rfl
      refine ⟨_, hT.cell rfl, _, hT.cell rfl, (hS4.blk 1 rfl).can (by simp), _, hR.cell rfl, _, hR.cell rfl, by rw [decide_eq_false hb], ?_⟩
      have hS6 := St.join hS5.tail.tail
      subst h0
      rw [show ([] : List (Int × Int)).eraseIdx (leastOf []) = [] from rfl]
      exact (hS6.as 0 rfl (refC T pre b []) (fun F hF => ⟨_, hF⟩)).whole
    · intro hb
      have hpos : 0 < t.length := by simpa using hb
      have hk : leastOf t < t.length := leastUpto_lt t _ hpos
      rw [decide_eq_true hpos]
      obtain ⟨_, hL4, _⟩ := hS4.at 3 rfl
      refine Calls.mono (hS4.step0 (least (hS4.blk 2 rfl) hL4 ht)) ?_
      rintro _ w6 ⟨rfl, hS6⟩
      refine ⟨_, rfl, ?_⟩
      refine ⟨fun A7 n7 c7 x8 w' r => ∃ i : Nat, x8 = (i : Int) ∧ i + r = t.length ∧ St F w w' [L (.slice A7 n7 c7) ((t.take i).eraseIdx (leastOf t)), Chunk.blk tb (two x).toArray 38, Chunk.blk w.heap.size (two (0, 0)).toArray 38, Chunk.blk b (pre ++ [Value.slice A t.length c]).toArray T, L (.slice A t.length c) t],
        ⟨t.length, 0, rfl, by omega, hS6.nil 38 2⟩, ?_⟩
      rintro _ A7 n7 c7 x8 w7 r ⟨i, rfl, hir, hS7⟩
      have hv := at_pre (hS7.blk 3 rfl)
      have hw : i < t.length → IntKind.i64.wrap ((i : Int) + 1) = ((i + 1 : Nat) : Int) := by intro hi; rw [i64_id (by omega) (by omega)]; omega
      refine ⟨_, _, _, hv, sel_of ?_ ?_⟩
      · intro hd
        have hi : i < t.length := by simpa using hd
        rw [hw hi]
        refine sel_of ?_ ?_
        · intro hne
          have hne : i ≠ leastOf t := by
            intro e
            rw [e] at hne
            simp at hne
          obtain ⟨_, hL7, _⟩ := hS7.at 4 rfl
          obtain ⟨A', c', he, hg⟩ := L.shape hL7
          injection he with he1 he2 he3
          subst he1; subst he3
          obtain ⟨g, rfl, hcs⟩ := hg hpos
          have e1 : 0 + (i : Int).toNat * 2 = i * 2 := by simp
          refine ⟨_, _, _, hv, by omega, by omega, needPtr_of rfl ⟨(t.getD i d).1, by rw [e1]; exact (hcs i hi).1, (t.getD i d).2, by rw [e1]; exact (hcs i hi).2, ?_⟩⟩
          have hS8 := hS7.alloc (two (t.getD i d)).toArray 38
          obtain ⟨ti, t1, t2, t3, t4⟩ := info38
          obtain ⟨g', cap', w', hrun, hS9⟩ := hS8.append (P := Try.prog) (ty := 32) (r := two (t.getD i d)) 1 under32 t1 t2 t3 rfl (by decide) rfl (hS8.blk 0 rfl) rfl rfl (by intro u hu; simp [two] at hu; rcases hu with rfl | rfl <;> rfl)
            (by rw [t4]; have := List.length_eraseIdx_le (t.take i) (leastOf t); simp at this ⊢; omega) (by have := List.length_eraseIdx_le (t.take i) (leastOf t); simp [maxLen] at this ⊢; omega)
          refine ⟨_, _, _, _, hrun, rfl, r - 1, by omega, i + 1, rfl, by omega, ?_⟩
          rw [rest_succ t _ i hi, if_neg hne]
          have hS10 := hS9.tail
          simpa [L] using hS10
        · intro he
          have he : i = leastOf t := by
            have : (i : Int) = (leastOf t : Int) := by simpa using he
            omega
          refine ⟨rfl, r - 1, by omega, i + 1, rfl, by omega, ?_⟩
          rw [rest_succ t _ i hi, if_pos he]
          exact hS7
      · intro hd
        have hi : i = t.length := by
          have : ¬ (i : Int) < (t.length : Int) := by simpa using hd
          omega
        subst hi
        rw [List.take_length] at hS7
        refine ⟨(hS7.blk 3 rfl).can (by simp), ?_⟩
        have hS8 := hS7.set 3 rfl pre.length [.slice A7 n7 c7]
        rw [put_pre] at hS8
        have hT := hS8.blk 1 rfl
        have hS9 := hS8.over 2 rfl (two x) rfl
        have hR := hS9.blk 2 rfl
        refine ⟨_, hT.cell rfl, _, hT.cell rfl, (hS8.blk 2 rfl).can (by simp), _, hR.cell rfl, _, hR.cell rfl, rfl, ?_⟩
        have hS10 := hS9.pick [Chunk.blk b (pre ++ [Value.slice A7 n7 c7]).toArray T, L (.slice A7 n7 c7) (t.eraseIdx (leastOf t))] (fun i => if i = 0 then 3 else 0) (by
          intro i c hc
          match i, hc with
          | 0, hc => simpa using hc
          | 1, hc => simpa using hc) (by
          intro i j hi hj h
          simp at hi hj
          match i, j with
          | 0, 0 => rfl
          | 1, 1 => rfl
          | 0, 1 => simp at h
          | 1, 0 => simp at h)
        exact ((St.join hS10).as 0 rfl (refC T pre b _) (fun F hF => ⟨_, hF⟩)).whole
  · rintro e w' ⟨v, rfl, rfl, h⟩
    exact ⟨rfl, h⟩
theorem peekS (h : St S w0 w K) (i : Nat) (hi : K[i]? = some (refC T pre b t)) (ht : t.length ≤ 4000000) :
    Calls Try.prog 64 #[.pointer (some ⟨b, pre.length, none⟩)] w fun e w' => e = .returned (.tuple #[.agg #[.int .i64 (t.getD (leastOf t) d).1, .int .i64 (t.getD (leastOf t) d).2], .bool (decide (0 < t.length))]) ∧ St S w0 w' K := by
  obtain ⟨F, ⟨v, F1, F2, _, h1, h2, _⟩, _⟩ := h.at i hi
  exact h.step0 (peek h1.2 h2 ht)
/-- The cell of the list. -/
theorem cellS (h : St S w0 w K) (i : Nat) (hi : K[i]? = some (refC T pre b t)) : ∃ A c, w.cell? ⟨b, pre.length, none⟩ = some (.slice A t.length c) := by
  obtain ⟨F, ⟨v, F1, F2, _, h1, h2, _⟩, _⟩ := h.at i hi
  obtain ⟨A, c, rfl, _⟩ := L.shape h2
  exact ⟨A, c, at_pre h1.2⟩
/-- A cell ahead of it. -/
theorem preS (h : St S w0 w K) (i : Nat) (hi : K[i]? = some (refC T pre b t)) {j : Nat} {v : Value} (hj : pre[j]? = some v) : w.cell? ⟨b, j, none⟩ = some v := by
  obtain ⟨F, ⟨u, F1, F2, _, h1, h2, _⟩, _⟩ := h.at i hi
  refine h1.2.cell ?_
  have := (List.getElem?_eq_some_iff.1 hj).1
  simp [List.getElem?_append_left this, hj]
end
end RH
end Go.Proofs.Ytebahglmdifmpaa
