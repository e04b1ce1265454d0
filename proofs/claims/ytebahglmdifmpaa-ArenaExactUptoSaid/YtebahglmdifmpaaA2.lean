/- The arena's Take. -/
import Derived.Test.YtebahglmdifmpaaA1
set_option linter.unusedVariables false
set_option linter.unusedSimpArgs false
set_option maxRecDepth 10000
namespace Go.Proofs.Ytebahglmdifmpaa
open Go Go.Proofs.Ytebahglmdifmpaa.Vc
namespace AR
abbrev AH := HeapPlain.ahead lt
abbrev dE : B × Int := HB.d
/-- The search: what is left in the heap, what was passed, where it was found (-1: nowhere). -/
def scan (n : Int) : Nat → List (B × Int) → List B → List (B × Int) × List B × Int
  | 0, es, p => (es, p, -1)
  | k + 1, es, p =>
    if (es.getD 0 dE).1.2.1 < n then scan n k (HeapPlain.popped dE AH es) (p ++ [(es.getD 0 dE).1])
    else if n < (es.getD 0 dE).1.2.1 then (HeapPlain.popped dE AH es, p ++ [((es.getD 0 dE).1.1 + n, (es.getD 0 dE).1.2.1 - n, true)], (es.getD 0 dE).1.1)
    else (HeapPlain.popped dE AH es, p, (es.getD 0 dE).1.1)
/-- Pieces put back, one by one. -/
def putAll : List (B × Int) → Int → List B → List (B × Int)
  | es, _, [] => es
  | es, c, b :: bs => putAll (HeapPlain.push dE AH es (b, c)) (c + 1) bs
/-- A piece lies within so many words. -/
def Fits (m : Nat) (e : B × Int) : Prop := 0 ≤ e.1.1 ∧ 1 ≤ e.1.2.1 ∧ e.1.1 + e.1.2.1 ≤ (m : Int)
theorem popped_mem {es : List (B × Int)} {P : B × Int → Prop} (h : ∀ e ∈ es, P e) : ∀ e ∈ HeapPlain.popped dE AH es, P e := by
  cases es with
  | nil => intro e he; exact absurd he (by simp [HeapPlain.popped, HeapPlain.cut, HeapPlain.down])
  | cons x t =>
    intro e he
    exact h e (List.mem_cons_of_mem _ ((HeapPlain.popped_perm dE AH x t).mem_iff.mp he))
theorem head_mem {es : List (B × Int)} {P : B × Int → Prop} (h : ∀ e ∈ es, P e) (hn : 0 < es.length) : P (es.getD 0 dE) := by
  cases es with
  | nil => simp at hn
  | cons x t => exact h x (by simp)
theorem scan_length (n : Int) : ∀ (k : Nat) (es : List (B × Int)) (p : List B), es.length = k → (scan n k es p).1.length + (scan n k es p).2.1.length ≤ es.length + p.length
  | 0, es, p, _ => by simp [scan]
  | k + 1, es, p, h => by
    have hl := HeapPlain.popped_length dE AH es
    rw [scan]
    split
    · have := scan_length n k (HeapPlain.popped dE AH es) (p ++ [(es.getD 0 dE).1]) (by omega)
      simp only [List.length_append, List.length_cons, List.length_nil] at this ⊢
      omega
    · split
      · simp; omega
      · simp; omega
theorem scan_at (n : Int) (m : Nat) : ∀ (k : Nat) (es : List (B × Int)) (p : List B), es.length = k → (∀ e ∈ es, Fits m e) → (scan n k es p).2.2 = -1 ∨ (0 ≤ (scan n k es p).2.2 ∧ (scan n k es p).2.2 + n ≤ m)
  | 0, es, p, _, _ => by simp [scan]
  | k + 1, es, p, h, hf => by
    have hl := HeapPlain.popped_length dE AH es
    have h0 := head_mem hf (by omega)
    obtain ⟨f1, f2, f3⟩ := h0
    rw [scan]
    split
    · exact scan_at n m k _ _ (by omega) (popped_mem hf)
    · split
      · exact .inr ⟨f1, by simp only []; omega⟩
      · exact .inr ⟨f1, by simp only []; omega⟩

variable {w : World} {F : List Nat} {a mb gb : Nat} {ws : List Int} {tr : Value} {bad : Int} {es : List (B × Int)} {came : Int} {out : List (Int × Int)}
theorem take (h : ArAt w F a mb gb ws tr bad es came out) {n : Nat} (hn : 1 ≤ n) (hn2 : n ≤ 9223372036854775807) (hlen : ws.length ≤ 4000000000) (hes : es.length ≤ 3000000) (hc0 : 0 ≤ came) (hc1 : came ≤ 2305843009213693952) (hfit : ∀ e ∈ es, Fits ws.length e) :
    Calls Try.prog 43 #[.pointer (some ⟨a, 0, none⟩), .int .i64 (n : Int)] w fun e w' =>
      ∃ F', e = .returned (.tuple #[.int .i64 (if (scan n es.length es []).2.2 < 0 then 0 else (scan n es.length es []).2.2), .int .i64 (if (scan n es.length es []).2.2 < 0 then 150 else 0)]) ∧
        ArAt w' F' a mb gb (if (scan n es.length es []).2.2 < 0 then ws else CM.fillN ws (scan n es.length es []).2.2.toNat 0 n) tr bad (putAll (scan n es.length es []).1 came (scan n es.length es []).2.1) (came + (scan n es.length es []).2.1.length)
          (if (scan n es.length es []).2.2 < 0 then out else putM out (scan n es.length es []).2.2 n) ∧ Fr F w w' ∧ ∀ x ∈ F', x ∈ F ∨ w.heap.size ≤ x := by
  have hsl := scan_length n es.length es [] rfl
  have hsa := scan_at n ws.length es.length es [] rfl hfit
  generalize hT : scan n es.length es [] = T at *
  obtain ⟨esT, pT, atT⟩ := T
  simp only [List.length_nil, Nat.add_zero] at hsl hsa ⊢
  refine Calls.mono (f43.calls (R := fun v w' => ∃ F', v = .tuple #[.int .i64 (if atT < 0 then 0 else atT), .int .i64 (if atT < 0 then 150 else 0)] ∧
      ArAt w' F' a mb gb (if atT < 0 then ws else CM.fillN ws atT.toNat 0 n) tr bad (putAll esT came pT) (came + pT.length) (if atT < 0 then out else putM out atT n) ∧ Fr F w w' ∧ ∀ x ∈ F', x ∈ F ∨ w.heap.size ≤ x) ?_) ?_
  · dsimp only [f43.VC]
    refine sel_false (by simp <;> omega) ?_
    refine ⟨fun A m c x w1 => x = atT ∧ ∃ FS F1, SlB w1 FS A m c pT ∧ ArAt w1 F1 a mb gb ws tr bad esT came out ∧ (∀ x ∈ FS, x ∉ F1 ∧ w.heap.size ≤ x) ∧ Fr F w w1 ∧ (∀ x ∈ F1, x ∈ F ∨ w.heap.size ≤ x), ?_, ?_⟩
    · refine ⟨fun A m c x w1 r => x = -1 ∧ ∃ FS F1 es1 p, SlB w1 FS A m c p ∧ ArAt w1 F1 a mb gb ws tr bad es1 came out ∧ (∀ x ∈ FS, x ∉ F1 ∧ w.heap.size ≤ x) ∧ Fr F w w1 ∧ (∀ x ∈ F1, x ∈ F ∨ w.heap.size ≤ x) ∧
        es1.length = r ∧ scan n r es1 p = (esT, pT, atT) ∧ es1.length + p.length ≤ es.length ∧ (∀ e ∈ es1, Fits ws.length e), ?_, ?_⟩
      · exact ⟨es.length, rfl, [], F, es, [], .inl ⟨rfl, rfl, rfl, rfl, rfl⟩, h, by simp, Fr.refl _ _, fun x hx => .inl hx, rfl, hT, by simp, hfit⟩
      · rintro _ A m c x w1 r ⟨rfl, FS, F1, es1, p, hS, hA, hFS, hF, hF1, hr, hsc, hle, hft⟩
        obtain ⟨hb, mp, FH, ⟨b1, b2, b3, _⟩, b4, _⟩ := hA.parts
        refine ⟨_, b1.cell rfl, ?_⟩
        refine Calls.mono (HB.pop rests less trivial (by simp) b2 (by omega)) ?_
        rintro _ w2 ⟨rfl, FH', hH2, hF2, hFH⟩
        obtain ⟨F2, hA2, hF2'⟩ := b4 w2 FH' _ _ hH2 hF2 hFH
        have hl1 := hA.lt
        have hs1 := hS.lt
        have hFS2 : ∀ x ∈ FS, x ∉ F2 ∧ w.heap.size ≤ x := by
          intro x hx
          refine ⟨fun h2 => ?_, (hFS x hx).2⟩
          rcases hF2' x h2 with h2 | h2
          · exact (hFS x hx).1 h2
          · have := hs1 x hx; omega
        have hS2 := hS.fr hF2 (fun x hx hx2 => (hFS x hx).1 (b3 x hx2))
        have hF12 : Fr F w w2 := hF.trans' hF2 (fun x hx hlt => by rcases hF1 x (b3 x hx) with h | h; exact h; omega)
        have hFF2 : ∀ x ∈ F2, x ∈ F ∨ w.heap.size ≤ x := by
          intro x hx
          rcases hF2' x hx with h | h
          · exact hF1 x h
          · have := hF.1; right; omega
        have hl2 := hA2.lt
        have hq : ∀ (S : List Nat) (W : World), Fr S w2 W → (∀ x ∈ S, w2.heap.size ≤ x) → SlB W FS A m c p ∧ ArAt W F2 a mb gb ws tr bad (HeapPlain.popped dE AH es1) came out ∧ Fr F w W := by
          intro S W hSW hnew
          refine ⟨hS2.fr hSW (fun x hx hx2 => ?_), hA2.fr hSW (fun x hx hx2 => ?_), hF12.trans' hSW (fun x hx hlt => ?_)⟩
          · have := hS2.lt x hx; have := hnew x hx2; omega
          · have := hl2 x hx; have := hnew x hx2; omega
          · have := hnew x hx; have := hF12.1; omega
        refine ⟨_, _, _, _, rfl, Blk.can Blk.new (by simp), ?_⟩
        have hX : Blk (setCs (World.alloc w2 (.cells #[.int .i64 0, .int .i64 0, .bool false] 96)) w2.heap.size 0 [.int .i64 (es1.getD 0 dE).1.1, .int .i64 (es1.getD 0 dE).1.2.1, .bool (es1.getD 0 dE).1.2.2]) w2.heap.size _ 96 := Blk.new.whole rfl
        have hFX : Fr [w2.heap.size] w2 (setCs (World.alloc w2 (.cells #[.int .i64 0, .int .i64 0, .bool false] 96)) w2.heap.size 0 [.int .i64 (es1.getD 0 dE).1.1, .int .i64 (es1.getD 0 dE).1.2.1, .bool (es1.getD 0 dE).1.2.2]) := (Fr.refl _ _).alloc.set (.inl (by simp))
        obtain ⟨hS3, hA3, hF3⟩ := hq _ _ hFX (by simp)
        generalize hw3 : setCs (World.alloc w2 (.cells #[.int .i64 0, .int .i64 0, .bool false] 96)) w2.heap.size 0 [.int .i64 (es1.getD 0 dE).1.1, .int .i64 (es1.getD 0 dE).1.2.1, .bool (es1.getD 0 dE).1.2.2] = w3 at *
        cases r with
        | zero =>
          rw [show decide (0 < es1.length) = false by simp [hr]]
          have h0 : es1 = [] := List.eq_nil_of_length_eq_zero hr
          subst h0
          injection hsc with q1 q2
          injection q2 with q2 q3
          subst q1 q2 q3
          exact ⟨rfl, rfl, FS, F2, hS3, hA3, hFS2, hF3, hFF2⟩
        | succ k =>
          rw [show decide (0 < es1.length) = true by simp [hr]]
          rw [scan] at hsc
          obtain ⟨f1, f2, f3⟩ := head_mem hft (by omega)
          have hpl := HeapPlain.popped_length dE AH es1
          generalize hb0 : es1.getD 0 dE = e0 at *
          obtain ⟨⟨x0, x1, x2⟩, x3⟩ := e0
          dsimp only at hsc hX f1 f2 f3 ⊢
          refine ⟨_, hX.cell rfl, ?_⟩
          refine sel_of ?_ ?_
          · intro hd
            have hlt : x1 < (n : Int) := by simpa using hd
            rw [if_pos hlt] at hsc
            have hF4 : Fr [] w3 (World.alloc w3 (.cells #[.int .i64 x0, .int .i64 x1, .bool x2] 96)) := (Fr.refl _ _).alloc
            obtain ⟨A', m', c', FS', w5, hrun, hS5, hF5, hFS5⟩ := (hS3.fr hF4 (by simp)).append (x0, x1, x2) (b := w3.heap.size) (T' := 96) Blk.new (by omega)
            have hn4 : (World.alloc w3 (.cells #[.int .i64 x0, .int .i64 x1, .bool x2] 96)).heap.size = w3.heap.size + 1 := size_alloc _ _
            refine ⟨_, hX.cell rfl, _, hX.cell rfl, _, hX.cell rfl, _, _, _, _, hrun, rfl, k, by omega, rfl, FS', F2, HeapPlain.popped dE AH es1, p ++ [(x0, x1, x2)], hS5, (hA3.fr hF4 (by simp)).fr hF5 (fun x hx hx2 => (hFS2 x hx2).1 hx), ?_, ?_, hFF2, by omega, hsc, by simp; omega, popped_mem hft⟩
            · intro x hx
              rcases hFS5 x hx with hx | hx
              · exact hFS2 x hx
              · have h9 := hA3.lt
                have h11 := hF3.1
                exact ⟨fun hx2 => by have := h9 x hx2; omega, by omega⟩
            · refine (hF3.trans (hF4.mono (by simp))).trans' hF5 (fun x hx hlt => by have := (hFS2 x hx).2; omega)
          · intro hd
            have hge : ¬ x1 < (n : Int) := by simpa using hd
            rw [if_neg hge] at hsc
            refine ⟨_, hX.cell rfl, _, hX.cell rfl, ?_⟩
            refine sel_of ?_ ?_
            · intro hd2
              have hgt : (n : Int) < x1 := by simpa using hd2
              rw [if_pos hgt] at hsc
              injection hsc with q1 q2
              injection q2 with q2 q3
              subst q1 q2 q3
              have hw1 : IntKind.i64.wrap (x0 + (n : Int)) = x0 + n := i64_id (by omega) (by omega)
              have hw2 : IntKind.i64.wrap (x1 - (n : Int)) = x1 - n := i64_id (by omega) (by omega)
              have hF4 : Fr [] w3 (World.alloc w3 (.cells #[.int .i64 (x0 + n), .int .i64 (x1 - n), .bool true] 96)) := (Fr.refl _ _).alloc
              obtain ⟨A', m', c', FS', w5, hrun, hS5, hF5, hFS5⟩ := (hS3.fr hF4 (by simp)).append (x0 + n, x1 - n, true) (b := w3.heap.size) (T' := 96) Blk.new (by omega)
              have hn4 : (World.alloc w3 (.cells #[.int .i64 (x0 + n), .int .i64 (x1 - n), .bool true] 96)).heap.size = w3.heap.size + 1 := size_alloc _ _
              refine ⟨_, hX.cell rfl, _, hX.cell rfl, ?_⟩
              rw [hw1, hw2]
              refine ⟨_, _, _, _, hrun, rfl, rfl, FS', F2, hS5, (hA3.fr hF4 (by simp)).fr hF5 (fun x hx hx2 => (hFS2 x hx2).1 hx), ?_, ?_, hFF2⟩
              · intro x hx
                rcases hFS5 x hx with hx | hx
                · exact hFS2 x hx
                · have h9 := hA3.lt
                  have h11 := hF3.1
                  exact ⟨fun hx2 => by have := h9 x hx2; omega, by omega⟩
              · refine (hF3.trans (hF4.mono (by simp))).trans' hF5 (fun x hx hlt => by have := (hFS2 x hx).2; omega)
            · intro hd2
              have hng : ¬ (n : Int) < x1 := by simpa using hd2
              rw [if_neg hng] at hsc
              injection hsc with q1 q2
              injection q2 with q2 q3
              subst q1 q2 q3
              exact ⟨rfl, rfl, FS, F2, hS3, hA3, hFS2, hF3, hFF2⟩
    · rintro _ A m c x w1 ⟨rfl, FS, F1, hS, hA, hFS, hF, hF1⟩
      refine ⟨fun x w' r => ∃ k : Nat, x = (k : Int) ∧ k + r = pT.length ∧ ∃ F2 es2, SlB w' FS A m c pT ∧ ArAt w' F2 a mb gb ws tr bad es2 (came + k) out ∧ (∀ x ∈ FS, x ∉ F2 ∧ w.heap.size ≤ x) ∧ Fr F w w' ∧ (∀ x ∈ F2, x ∈ F ∨ w.heap.size ≤ x) ∧
        putAll es2 (came + k) (pT.drop k) = putAll esT came pT ∧ es2.length = esT.length + k, ?_, ?_⟩
      · exact ⟨pT.length, 0, rfl, by omega, F1, esT, hS, by simpa using hA, hFS, hF, hF1, by simp, rfl⟩
      · rintro _ y w2 r ⟨k, rfl, hkr, F2, es2, hS2, hA2, hFS2, hF2, hFF2, hpa, hel⟩
        have hml := hS2.len
        refine sel_of ?_ ?_
        · intro hd
          have hk : k < pT.length := by rw [hml] at hd; simpa using hd
          obtain ⟨g, rfl, rfl, g1, g2, g3⟩ := hS2.get hk
          obtain ⟨hb, mp, FH, ⟨b1, b2, b3, _⟩, b4, _⟩ := hA2.parts
          have hdr : pT.drop k = pT.getD k dB :: pT.drop (k + 1) := by rw [List.drop_eq_getElem_cons hk]; simp [List.getD_eq_getElem?_getD, hk]
          rw [hdr, putAll] at hpa
          generalize pT.getD k dB = bb at *
          obtain ⟨x0, x1, x2⟩ := bb
          dsimp only at g1 g2 g3
          refine ⟨by omega, by rw [hml]; omega, needPtr_of rfl ⟨_, g1, _, g2, _, g3, Blk.can Blk.new (by simp), ?_⟩⟩
          have hX : Blk (setCs (World.alloc w2 (.cells #[.int .i64 0, .int .i64 0, .bool false] 96)) w2.heap.size 0 [.int .i64 x0, .int .i64 x1, .bool x2]) w2.heap.size _ 96 := Blk.new.whole rfl
          have hFX : Fr [] w2 (setCs (World.alloc w2 (.cells #[.int .i64 0, .int .i64 0, .bool false] 96)) w2.heap.size 0 [.int .i64 x0, .int .i64 x1, .bool x2]) := (Fr.refl _ _).alloc.set (.inr (Nat.le_refl _))
          generalize hw3 : setCs (World.alloc w2 (.cells #[.int .i64 0, .int .i64 0, .bool false] 96)) w2.heap.size 0 [.int .i64 x0, .int .i64 x1, .bool x2] = w3 at *
          have hk1 : IntKind.i64.wrap ((k : Int) + 1) = ((k + 1 : Nat) : Int) := by rw [i64_id (by omega) (by omega)]; omega
          rw [hk1]
          refine ⟨_, (hFX.blk b1 (by simp)).cell rfl, _, hX.cell rfl, _, hX.cell rfl, _, hX.cell rfl, ?_⟩
          refine Calls.mono (HB.push (w := w3.drew) (x := (x0, x1, x2)) rests less trivial (by simp) (b2.fr hFX.drew (by simp)) (by omega) (by omega) (by omega)) ?_
          rintro _ w4 ⟨rfl, FH', hH4, hF4, hFH⟩
          have hF4' : Fr FH w3 w4 := hF4.ofdrew
          have hF24 : Fr FH w2 w4 := (hFX.mono (by simp)).trans hF4'
          have hsz := hFX.1
          obtain ⟨F4, hA4, hFF4⟩ := b4 w4 FH' _ _ hH4 hF24 (fun x hx => by
            rcases hFH x hx with h | h
            · exact .inl h
            · right; rw [size_drew] at h; omega)
          have hlS := hS2.lt
          have hck : came + ((k + 1 : Nat) : Int) = came + (k : Int) + 1 := by omega
          have hpa' : putAll (HeapPlain.push dE AH es2 ((x0, x1, x2), came + (k : Int))) (came + ((k + 1 : Nat) : Int)) (pT.drop (k + 1)) = putAll esT came pT := by rw [hck]; exact hpa
          refine ⟨rfl, rfl, r - 1, by omega, k + 1, rfl, by omega, F4, _, hS2.fr hF24 (fun x hx hx2 => (hFS2 x hx).1 (b3 x hx2)), ?_, ?_, ?_, ?_, hpa', ?_⟩
          · rw [hck]; exact hA4
          · intro x hx
            refine ⟨fun hx2 => ?_, (hFS2 x hx).2⟩
            rcases hFF4 x hx2 with h | h
            · exact (hFS2 x hx).1 h
            · have := hlS x hx; omega
          · exact hF2.trans' hF24 (fun x hx hlt => by rcases hFF2 x (b3 x hx) with h | h; exact h; omega)
          · intro x hx
            rcases hFF4 x hx with h | h
            · exact hFF2 x h
            · have := hF2.1; right; omega
          · rw [HeapPlain.push_length]; omega
        · intro hd
          have hk : k = pT.length := by rw [hml] at hd; simp at hd; omega
          subst hk
          rw [List.drop_length] at hpa
          rw [putAll] at hpa
          subst hpa
          by_cases hneg : x < 0
          · rw [if_pos hneg, if_pos hneg, if_pos hneg, if_pos hneg]
            exact sel_true (by simpa using hneg) ⟨F2, rfl, hA2, hF2, hFF2⟩
          · rw [if_neg hneg, if_neg hneg, if_neg hneg, if_neg hneg]
            refine sel_false (by simpa using hneg) ?_
            obtain ⟨at_, rfl⟩ : ∃ q : Nat, x = (q : Int) := ⟨x.toNat, by omega⟩
            obtain ⟨hb, mp, FH, ⟨b1, b2, b3, b5, b6, _⟩, b4, b7, b8⟩ := hA2.parts
            obtain ⟨w3, hrun, hM3, hF3⟩ := map_put (P := Try.prog) (t := 136) (kt := 3) (et := 3) (by kernel_rfl) (by kernel_rfl) b6 (at_ : Int) (n : Int)
            obtain ⟨m3, c3⟩ := b8 w3 hF3
            refine ⟨_, b1.cell rfl, w3, hrun, _, c3, ?_⟩
            refine Calls.mono (CM.clear m3 (a := at_) (n := n) (by rcases hsa with h | h <;> omega) hlen) ?_
            rintro _ w4 ⟨rfl, hM4, hF4⟩
            obtain ⟨hA4, hF24⟩ := b7 w3 w4 _ _ hF3 hM3 hF4 hM4
            have hsz := hF2.1
            exact ⟨_, rfl, F2, rfl, hA4, hF2.trans' hF24 (fun x hx hlt => by rcases hFF2 x hx with h | h; exact h; omega), hFF2⟩
  · rintro e w' ⟨v, rfl, F', rfl, h⟩
    exact ⟨F', rfl, h⟩
end AR
end Go.Proofs.Ytebahglmdifmpaa
