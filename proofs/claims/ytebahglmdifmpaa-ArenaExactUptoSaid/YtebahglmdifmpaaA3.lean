/- The arena's drained and Give. -/
import Derived.Test.YtebahglmdifmpaaA2
set_option linter.unusedVariables false
set_option linter.unusedSimpArgs false
set_option maxRecDepth 10000
namespace Go.Proofs.Ytebahglmdifmpaa
open Go Go.Proofs.Ytebahglmdifmpaa.Vc
namespace Vc
theorem Row.put {w : World} {TE : TypeId} {s g cap : Nat} {rs : List (List Value)} (h : Row w TE s g cap rs) {i j k : Nat} (hi : i < rs.length) (hj : j < s) (hk : k = i * s + j) (v : Value) :
    canStore w g k 1 ∧ Row (setCs w g k [v]) TE s g cap (rs.set i ((rs.getD i []).set j v)) := by
  obtain ⟨cur, hg, hcs, hnc, hcm, hl, hget⟩ := h
  subst hk
  have hb : (i + 1) * s ≤ cap * s := Nat.mul_le_mul_right s (by omega)
  rw [Nat.add_mul] at hb
  have hri : (rs.getD i []).length = s := by
    have : rs.getD i [] = rs[i] := by simp [List.getD_eq_getElem?_getD, hi]
    rw [this]; exact hl _ (List.getElem_mem hi)
  refine ⟨hg.can (by omega), _, hg.set [v] (i * s + j), by rw [putA_size]; exact hcs, by simpa using hnc, hcm, ?_, ?_⟩
  · intro x hx
    rcases List.mem_or_eq_of_mem_set hx with hx | rfl
    · exact hl x hx
    · rw [List.length_set]; exact hri
  · intro i' hi' j' hj'
    simp only [List.length_set] at hi'
    rw [putA_get _ _ _ _ (by simp; omega)]
    by_cases he : i' = i
    · subst he
      have e1 : (rs.set i' ((rs.getD i' []).set j v)).getD i' [] = (rs.getD i' []).set j v := by simp [List.getD_eq_getElem?_getD, hi]
      rw [e1, List.getElem?_set]
      by_cases hjj : j = j'
      · subst hjj
        rw [if_pos (by simp), if_pos rfl, if_pos (by rw [hri]; exact hj), Nat.sub_self]
        rfl
      · rw [if_neg (by simp; omega), if_neg hjj, hget i' hi j' hj']
    · rw [if_neg, hget i' hi' j' hj']
      · simp [List.getD_eq_getElem?_getD, Ne.symm he]
      · simp only [List.length_cons, List.length_nil]
        rintro ⟨h1, h2⟩
        rcases Nat.lt_or_gt_of_ne he with h3 | h3
        · have : (i' + 1) * s ≤ i * s := Nat.mul_le_mul_right s h3
          rw [Nat.add_mul] at this; omega
        · have : (i + 1) * s ≤ i' * s := Nat.mul_le_mul_right s h3
          rw [Nat.add_mul] at this; omega
end Vc
namespace AR
/-- The next piece, by address: one with the last, or by itself. -/
def merge (l : List B) (b : B) : List B :=
  if 0 < l.length ∧ IntKind.i64.wrap ((l.getD (l.length - 1) dB).1 + (l.getD (l.length - 1) dB).2.1) = b.1 then l.set (l.length - 1) ((l.getD (l.length - 1) dB).1, IntKind.i64.wrap ((l.getD (l.length - 1) dB).2.1 + b.2.1), (l.getD (l.length - 1) dB).2.2) else l ++ [b]
def drain : Nat → List (B × Int) → List B → List B
  | 0, _, l => l
  | k + 1, es, l => drain k (HeapPlain.popped dE AH es) (merge l (es.getD 0 dE).1)
theorem merge_length (l : List B) (b : B) : (merge l b).length ≤ l.length + 1 := by
  unfold merge; split <;> simp
theorem drain_length : ∀ (k : Nat) (es : List (B × Int)) (l : List B), (drain k es l).length ≤ l.length + k
  | 0, _, l => by simp [drain]
  | k + 1, es, l => by
    have := drain_length k (HeapPlain.popped dE AH es) (merge l (es.getD 0 dE).1)
    have := merge_length l (es.getD 0 dE).1
    rw [drain]; omega
variable {w : World} {F : List Nat} {a mb gb : Nat} {ws : List Int} {tr : Value} {bad : Int} {es : List (B × Int)} {came : Int} {out : List (Int × Int)}
theorem drained (h : ArAt w F a mb gb ws tr bad es came out) (hes : es.length ≤ 3000000) :
    Calls Try.prog 72 #[.pointer (some ⟨a, 0, none⟩)] w fun e w' => ∃ A m c FS F', e = .returned (.slice A m c) ∧ SlB w' FS A m c (drain es.length es []) ∧ ArAt w' F' a mb gb ws tr bad [] came out ∧ (∀ x ∈ FS, x ∉ F' ∧ w.heap.size ≤ x) ∧ Fr F w w' ∧ ∀ x ∈ F', x ∈ F ∨ w.heap.size ≤ x := by
  refine Calls.mono (f72.calls (R := fun v w' => ∃ A m c FS F', v = .slice A m c ∧ SlB w' FS A m c (drain es.length es []) ∧ ArAt w' F' a mb gb ws tr bad [] came out ∧ (∀ x ∈ FS, x ∉ F' ∧ w.heap.size ≤ x) ∧ Fr F w w' ∧ ∀ x ∈ F', x ∈ F ∨ w.heap.size ≤ x) ?_) ?_
  · dsimp only [f72.VC]
    refine ⟨fun A m c w1 r => ∃ FS F1 es1 p, SlB w1 FS A m c p ∧ ArAt w1 F1 a mb gb ws tr bad es1 came out ∧ (∀ x ∈ FS, x ∉ F1 ∧ w.heap.size ≤ x) ∧ Fr F w w1 ∧ (∀ x ∈ F1, x ∈ F ∨ w.heap.size ≤ x) ∧
        es1.length = r ∧ drain r es1 p = drain es.length es [] ∧ es1.length + p.length ≤ es.length, ?_, ?_⟩
    · exact ⟨es.length, [], F, es, [], .inl ⟨rfl, rfl, rfl, rfl, rfl⟩, h, by simp, Fr.refl _ _, fun x hx => .inl hx, rfl, rfl, by simp⟩
    · rintro _ A m c w1 r ⟨FS, F1, es1, p, hS, hA, hFS, hF, hF1, hr, hdr, hle⟩
      obtain ⟨hb, mp, FH, ⟨b1, b2, b3, _⟩, b4, _⟩ := hA.parts
      refine ⟨_, b1.cell rfl, ?_⟩
      refine Calls.mono (HB.pop rests less trivial (by simp) b2 (by omega)) ?_
      rintro _ w2 ⟨rfl, FH', hH2, hF2, hFH⟩
      obtain ⟨F2, hA2, hF2'⟩ := b4 w2 FH' _ _ hH2 hF2 hFH
      have hl1 := hA.lt
      have hs1 := hS.lt
      have hFS2 : ∀ x ∈ FS, x ∉ F2 ∧ w.heap.size ≤ x := by
        intro x hx
        refine ⟨fun h2 => ?_, (hFS x hx).2⟩
        rcases hF2' x h2 with h2 | h2
        · exact (hFS x hx).1 h2
        · have := hs1 x hx; omega
      have hS2 := hS.fr hF2 (fun x hx hx2 => (hFS x hx).1 (b3 x hx2))
      have hF12 : Fr F w w2 := hF.trans' hF2 (fun x hx hlt => by rcases hF1 x (b3 x hx) with h | h; exact h; omega)
      have hFF2 : ∀ x ∈ F2, x ∈ F ∨ w.heap.size ≤ x := by
        intro x hx
        rcases hF2' x hx with h | h
        · exact hF1 x h
        · have := hF.1; right; omega
      have hl2 := hA2.lt
      refine ⟨_, _, _, _, rfl, Blk.can Blk.new (by simp), ?_⟩
      have hX : Blk (setCs (World.alloc w2 (.cells #[.int .i64 0, .int .i64 0, .bool false] 96)) w2.heap.size 0 [.int .i64 (es1.getD 0 dE).1.1, .int .i64 (es1.getD 0 dE).1.2.1, .bool (es1.getD 0 dE).1.2.2]) w2.heap.size _ 96 := Blk.new.whole rfl
      have hFX : Fr [] w2 (setCs (World.alloc w2 (.cells #[.int .i64 0, .int .i64 0, .bool false] 96)) w2.heap.size 0 [.int .i64 (es1.getD 0 dE).1.1, .int .i64 (es1.getD 0 dE).1.2.1, .bool (es1.getD 0 dE).1.2.2]) := (Fr.refl _ _).alloc.set (.inr (Nat.le_refl _))
      have hS3 := hS2.fr hFX (by simp)
      have hA3 := hA2.fr hFX (by simp)
      have hF3 := hF12.trans' hFX (by simp)
      generalize hw3 : setCs (World.alloc w2 (.cells #[.int .i64 0, .int .i64 0, .bool false] 96)) w2.heap.size 0 [.int .i64 (es1.getD 0 dE).1.1, .int .i64 (es1.getD 0 dE).1.2.1, .bool (es1.getD 0 dE).1.2.2] = w3 at *
      cases r with
      | zero =>
        rw [show decide (0 < es1.length) = false by simp [hr]]
        have h0 : es1 = [] := List.eq_nil_of_length_eq_zero hr
        subst h0
        rw [← hdr]
        exact ⟨_, _, _, FS, F2, rfl, hS3, hA3, hFS2, hF3, hFF2⟩
      | succ k =>
        rw [show decide (0 < es1.length) = true by simp [hr]]
        refine sel_false rfl ?_
        rw [drain] at hdr
        have hpl := HeapPlain.popped_length dE AH es1
        generalize hb0 : es1.getD 0 dE = e0 at *
        obtain ⟨⟨x0, x1, x2⟩, x3⟩ := e0
        dsimp only at hdr hX ⊢
        have hml := hS3.len
        have hFSl := hS3.lt
        have hA3l := hA3.lt
        have hmle := merge_length p (x0, x1, x2)
        have app : ∀ w4, Fr [] w3 w4 → Blk w4 (w4.heap.size - 1) (encB (x0, x1, x2)).toArray 96 → merge p (x0, x1, x2) = p ++ [(x0, x1, x2)] → ∃ A' m' c' w5, (Builtin.append_ #[83, 83] 83 #[.slice A m c, .slice (some ⟨w4.heap.size - 1, 0, none⟩) 1 1]).run Try.prog w4 = .ok (.slice A' m' c') w5 ∧
            ∃ FS F1 es1 p, SlB w5 FS A' m' c' p ∧ ArAt w5 F1 a mb gb ws tr bad es1 came out ∧ (∀ x ∈ FS, x ∉ F1 ∧ w.heap.size ≤ x) ∧ Fr F w w5 ∧ (∀ x ∈ F1, x ∈ F ∨ w.heap.size ≤ x) ∧ es1.length = k ∧ drain k es1 p = drain es.length es [] ∧ es1.length + p.length ≤ es.length := by
          intro w4 hF4 hB hm
          obtain ⟨A', m', c', FS', w5, hrun, hS5, hF5, hFS5⟩ := (hS3.fr hF4 (by simp)).append (x0, x1, x2) hB (by omega)
          refine ⟨_, _, _, w5, hrun, FS', F2, HeapPlain.popped dE AH es1, p ++ [(x0, x1, x2)], hS5, (hA3.fr hF4 (by simp)).fr hF5 (fun x hx hx2 => (hFS2 x hx2).1 hx), ?_, ?_, hFF2, by omega, by rw [← hm]; exact hdr, by simp; omega⟩
          · intro x hx
            have h11 := hF3.1
            have h12 := hF4.1
            rcases hFS5 x hx with hx | hx
            · exact hFS2 x hx
            · exact ⟨fun hx2 => by have := hA3l x hx2; omega, by omega⟩
          · exact (hF3.trans (hF4.mono (by simp))).trans' hF5 (fun x hx hlt => by have := (hFS2 x hx).2; omega)
        have alone : merge p (x0, x1, x2) = p ++ [(x0, x1, x2)] → ∀ w4, w4 = World.alloc w3.drew (.cells #[.int .i64 x0, .int .i64 x1, .bool x2] 96) → ∃ A' m' c' w5, (Builtin.append_ #[83, 83] 83 #[.slice A m c, .slice (some ⟨w3.heap.size, 0, none⟩) 1 1]).run Try.prog w4 = .ok (.slice A' m' c') w5 ∧
            True ∧ ∃ m, m < k + 1 ∧ ∃ FS F1 es1 p, SlB w5 FS A' m' c' p ∧ ArAt w5 F1 a mb gb ws tr bad es1 came out ∧ (∀ x ∈ FS, x ∉ F1 ∧ w.heap.size ≤ x) ∧ Fr F w w5 ∧ (∀ x ∈ F1, x ∈ F ∨ w.heap.size ≤ x) ∧ es1.length = m ∧ drain m es1 p = drain es.length es [] ∧ es1.length + p.length ≤ es.length := by
          rintro hm w4 rfl
          have e1 : (World.alloc w3.drew (.cells #[.int .i64 x0, .int .i64 x1, .bool x2] 96)).heap.size - 1 = w3.heap.size := by rw [size_alloc, size_drew]; omega
          obtain ⟨A', m', c', w5, hrun, hrest⟩ := app (World.alloc w3.drew (.cells #[.int .i64 x0, .int .i64 x1, .bool x2] 96)) ((Fr.refl _ _).drew.alloc) (by rw [e1]; exact Blk.newd) hm
          rw [e1] at hrun
          exact ⟨_, _, _, w5, hrun, trivial, k, by omega, hrest⟩
        by_cases hp : p.length = 0
        · have hp0 : p = [] := List.eq_nil_of_length_eq_zero hp
          have hw1 : IntKind.i64.wrap ((m : Int) - 1) = -1 := by rw [hml, hp]; rfl
          rw [hw1]
          refine sel_false (by decide) ⟨_, hX.cell rfl, _, hX.cell rfl, _, hX.cell rfl, ?_⟩
          obtain ⟨A', m', c', w5, hrun, _, hrest⟩ := alone (by subst hp0; rfl) _ rfl
          exact ⟨A', m', c', w5, hrun, rfl, hrest⟩
        · obtain ⟨q, hq⟩ : ∃ q, p.length = q + 1 := ⟨p.length - 1, by omega⟩
          have hw1 : IntKind.i64.wrap ((m : Int) - 1) = (q : Int) := by rw [hml, hq, i64_id (by omega) (by omega)]; omega
          rw [hw1]
          have hqp : q < p.length := by omega
          have hm0 : (0 : Int) ≤ (q : Int) := by omega
          have hm1 : (q : Int) < (m : Int) := by rw [hml]; omega
          obtain ⟨g, rfl, rfl, g1, g2, g3⟩ := hS3.get hqp
          have hlast : p.length - 1 = q := by omega
          refine sel_true (by simp) ⟨hm0, hm1, needPtr_of rfl ⟨hm0, hm1, needPtr_of rfl ⟨_, g1, _, g2, _, hX.cell rfl, ?_⟩⟩⟩
          refine sel_of ?_ ?_
          · intro hd
            have heq : IntKind.i64.wrap ((p.getD q dB).1 + (p.getD q dB).2.1) = x0 := by simpa using hd
            have hm : merge p (x0, x1, x2) = p.set q ((p.getD q dB).1, IntKind.i64.wrap ((p.getD q dB).2.1 + x1), (p.getD q dB).2.2) := by
              unfold merge; rw [hlast, if_pos ⟨by omega, heq⟩]
            rw [hm] at hdr
            rcases hS3 with ⟨h9, _⟩ | ⟨g', h9, h10, h11, hR⟩
            · cases h9
            · injection h9 with h9
              injection h9 with h9 _
              subst h9
              have hpg : (p.map encB).getD q [] = encB (p.getD q dB) := by simp [List.getD_eq_getElem?_getD, hqp]
              obtain ⟨hc, hR2⟩ := hR.put (i := q) (j := 1) (k := 0 + (q : Int).toNat * 3 + 1) (by simpa using hqp) (by decide) (by rw [Int.toNat_natCast, Nat.zero_add]) (.int .i64 (IntKind.i64.wrap ((p.getD q dB).2.1 + x1)))
              rw [hpg] at hR2
              have hF5 : Fr [g] w3 (setCs w3.drew.drew g (0 + (q : Int).toNat * 3 + 1) [.int .i64 (IntKind.i64.wrap ((p.getD q dB).2.1 + x1))]) := (Fr.refl _ _).drew.drew.set (.inl (by simp))
              refine ⟨hm0, hm1, needPtr_of rfl ⟨_, g2, _, hX.cell rfl, hm0, hm1, needPtr_of rfl ⟨hc, rfl, k, by omega, [g], F2, HeapPlain.popped dE AH es1, p.set q ((p.getD q dB).1, IntKind.i64.wrap ((p.getD q dB).2.1 + x1), (p.getD q dB).2.2), .inr ⟨g, rfl, by rw [List.length_set]; exact h10, rfl, ?_⟩, hA3.fr hF5 (fun x hx hx2 => (hFS2 x hx2).1 hx), hFS2, ?_, hFF2, by omega, hdr, by rw [List.length_set]; omega⟩⟩⟩
              · rw [List.map_set]; exact hR2
              · exact hF3.trans' hF5 (fun x hx hlt => by have := (hFS2 x hx).2; omega)
          · intro hd
            have hne : ¬ IntKind.i64.wrap ((p.getD q dB).1 + (p.getD q dB).2.1) = x0 := by simpa using hd
            have hm : merge p (x0, x1, x2) = p ++ [(x0, x1, x2)] := by
              unfold merge; rw [hlast, if_neg (fun hh => hne hh.2)]
            refine ⟨_, hX.cell rfl, _, hX.cell rfl, _, hX.cell rfl, ?_⟩
            obtain ⟨A', m', c', w5, hrun, _, hrest⟩ := alone hm _ rfl
            exact ⟨A', m', c', w5, hrun, rfl, hrest⟩
  · rintro e w' ⟨v, rfl, A, m, c, FS, F', rfl, h⟩
    exact ⟨A, m, c, FS, F', rfl, h⟩
theorem give_no (h : ArAt w F a mb gb ws tr bad es came out) {addr : Int} (hno : hasM out addr = false) :
    Calls Try.prog 41 #[.pointer (some ⟨a, 0, none⟩), .int .i64 addr] w fun e w' => e = .returned (.int .i64 151) ∧ ArAt w' F a mb gb ws tr bad es came out ∧ Fr F w w' := by
  refine Calls.mono (f41.calls (R := fun v w' => v = .int .i64 151 ∧ ArAt w' F a mb gb ws tr bad es came out ∧ Fr F w w') ?_) ?_
  · dsimp only [f41.VC]
    obtain ⟨hb, mp, FH, ⟨b1, b2, b3, b5, b6, _⟩, _⟩ := h.parts
    obtain ⟨i, i1, i2, _⟩ := CM.info3
    refine ⟨_, b1.cell rfl, _, _, _, map_lookup (P := Try.prog) (t := 136) (kt := 3) (et := 3) (i := i) (by kernel_rfl) (by kernel_rfl) i1 i2 b6 addr, ?_⟩
    rw [hno]
    exact ⟨rfl, h, Fr.refl _ _⟩
  · rintro e w' ⟨v, rfl, rfl, h⟩
    exact ⟨rfl, h⟩
theorem give (h : ArAt w F a mb gb ws tr bad es came out) {addr n : Nat} (hyes : hasM out (addr : Int) = true) (hgn : getM out (addr : Int) = (n : Int)) (hin : addr + n ≤ ws.length)
    (hlen : ws.length ≤ 4000000000) (hes : es.length ≤ 1000000) (hc0 : 0 ≤ came) (hc1 : came ≤ 2305843009213693952) :
    Calls Try.prog 41 #[.pointer (some ⟨a, 0, none⟩), .int .i64 (addr : Int)] w fun e w' => ∃ F', e = .returned (.int .i64 0) ∧
      ArAt w' F' a mb gb (CM.fillN ws addr (-4611686018427387904) n) tr bad (putAll [] (came + 1) (drain (es.length + 1) (HeapPlain.push dE AH es (((addr : Int), (n : Int), true), came)) []))
        (came + 1 + (drain (es.length + 1) (HeapPlain.push dE AH es (((addr : Int), (n : Int), true), came)) []).length) (delM out addr) ∧ Fr F w w' ∧ ∀ x ∈ F', x ∈ F ∨ w.heap.size ≤ x := by
  have hdl := drain_length (es.length + 1) (HeapPlain.push dE AH es (((addr : Int), (n : Int), true), came)) []
  generalize hl : drain (es.length + 1) (HeapPlain.push dE AH es (((addr : Int), (n : Int), true), came)) [] = pT at *
  simp only [List.length_nil, Nat.zero_add] at hdl
  refine Calls.mono (f41.calls (R := fun v w' => ∃ F', v = .int .i64 0 ∧ ArAt w' F' a mb gb (CM.fillN ws addr (-4611686018427387904) n) tr bad (putAll [] (came + 1) pT) (came + 1 + pT.length) (delM out addr) ∧ Fr F w w' ∧ ∀ x ∈ F', x ∈ F ∨ w.heap.size ≤ x) ?_) ?_
  · dsimp only [f41.VC]
    obtain ⟨hb, mp, FH, ⟨b1, b2, b3, b5, b6, _⟩, b4, b7, b8⟩ := h.parts
    obtain ⟨i, i1, i2, _⟩ := CM.info3
    refine ⟨_, b1.cell rfl, _, _, _, map_lookup (P := Try.prog) (t := 136) (kt := 3) (et := 3) (i := i) (by kernel_rfl) (by kernel_rfl) i1 i2 b6 _, ?_⟩
    rw [hyes, hgn]
    refine sel_false rfl ?_
    obtain ⟨w1, hrun, hM1, hF1⟩ := map_del (P := Try.prog) (t := 136) (kt := 3) (et := 3) (ty := 0) (by kernel_rfl) (by kernel_rfl) b6 (addr : Int)
    obtain ⟨m1, c1⟩ := b8 w1 hF1
    refine ⟨_, b1.cell rfl, w1, hrun, _, c1, ?_⟩
    refine Calls.mono (CM.poison m1 (a := addr) (n := n) hin hlen) ?_
    rintro _ w2 ⟨rfl, hM2, hF2⟩
    obtain ⟨hA2, hF02⟩ := b7 w1 w2 _ _ hF1 hM1 hF2 hM2
    refine ⟨_, rfl, ?_⟩
    obtain ⟨hb', mp', FH2, ⟨d1, d2, d3, _⟩, d4, _⟩ := hA2.parts
    refine ⟨_, d1.cell rfl, ?_⟩
    refine Calls.mono (HB.push (x := ((addr : Int), (n : Int), true)) rests less trivial (by simp) d2 (by omega) hc0 (by omega)) ?_
    rintro _ w3 ⟨rfl, FH3, hH3, hF3, hFH3⟩
    obtain ⟨F3, hA3, hFF3⟩ := d4 w3 FH3 _ _ hH3 hF3 hFH3
    have hF03 : Fr F w w3 := hF02.trans (hF3.mono d3)
    have hs02 := hF02.1
    have hFF03 : ∀ x ∈ F3, x ∈ F ∨ w.heap.size ≤ x := fun x hx => by
      rcases hFF3 x hx with h | h
      · exact .inl h
      · right; omega
    refine ⟨rfl, ?_⟩
    refine Calls.mono (drained hA3 (by rw [HeapPlain.push_length]; omega)) ?_
    rintro _ w4 ⟨A, m, c, FS, F4, rfl, hS4, hA4, hFS4, hF4, hFF4⟩
    rw [HeapPlain.push_length, hl] at hS4
    have hs03 := hF03.1
    have hF04 : Fr F w w4 := hF03.trans' hF4 (fun x hx hlt => by rcases hFF03 x hx with h | h; exact h; omega)
    have hFF04 : ∀ x ∈ F4, x ∈ F ∨ w.heap.size ≤ x := fun x hx => by
      rcases hFF4 x hx with h | h
      · exact hFF03 x h
      · right; omega
    refine ⟨_, _, _, rfl, ?_⟩
    refine ⟨fun x w' r => ∃ k : Nat, x = (k : Int) ∧ k + r = pT.length ∧ ∃ F2 es2, SlB w' FS A m c pT ∧ ArAt w' F2 a mb gb (CM.fillN ws addr (-4611686018427387904) n) tr bad es2 (came + 1 + k) (delM out addr) ∧ (∀ x ∈ FS, x ∉ F2 ∧ w.heap.size ≤ x) ∧ Fr F w w' ∧ (∀ x ∈ F2, x ∈ F ∨ w.heap.size ≤ x) ∧
        putAll es2 (came + 1 + k) (pT.drop k) = putAll [] (came + 1) pT ∧ es2.length = k, ?_, ?_⟩
    · exact ⟨pT.length, 0, rfl, by omega, F4, [], hS4, by simpa using hA4, fun x hx => ⟨(hFS4 x hx).1, by have := (hFS4 x hx).2; omega⟩, hF04, hFF04, by simp, rfl⟩
    · rintro _ y w2 r ⟨k, rfl, hkr, F2, es2, hS2, hA2, hFS2, hF2, hFF2, hpa, hel⟩
      have hml := hS2.len
      refine sel_of ?_ ?_
      · intro hd
        have hk : k < pT.length := by rw [hml] at hd; simpa using hd
        obtain ⟨g, rfl, rfl, g1, g2, g3⟩ := hS2.get hk
        obtain ⟨hb, mp, FH, ⟨b1, b2, b3, _⟩, b4, _⟩ := hA2.parts
        have hdr : pT.drop k = pT.getD k dB :: pT.drop (k + 1) := by rw [List.drop_eq_getElem_cons hk]; simp [List.getD_eq_getElem?_getD, hk]
        rw [hdr, putAll] at hpa
        generalize pT.getD k dB = bb at *
        obtain ⟨x0, x1, x2⟩ := bb
        dsimp only at g1 g2 g3
        refine ⟨by omega, by rw [hml]; omega, needPtr_of rfl ⟨_, g1, _, g2, _, g3, Blk.can Blk.new (by simp), ?_⟩⟩
        have hX : Blk (setCs (World.alloc w2 (.cells #[.int .i64 0, .int .i64 0, .bool false] 96)) w2.heap.size 0 [.int .i64 x0, .int .i64 x1, .bool x2]) w2.heap.size _ 96 := Blk.new.whole rfl
        have hFX : Fr [] w2 (setCs (World.alloc w2 (.cells #[.int .i64 0, .int .i64 0, .bool false] 96)) w2.heap.size 0 [.int .i64 x0, .int .i64 x1, .bool x2]) := (Fr.refl _ _).alloc.set (.inr (Nat.le_refl _))
        generalize hw3 : setCs (World.alloc w2 (.cells #[.int .i64 0, .int .i64 0, .bool false] 96)) w2.heap.size 0 [.int .i64 x0, .int .i64 x1, .bool x2] = w3 at *
        have hk1 : IntKind.i64.wrap ((k : Int) + 1) = ((k + 1 : Nat) : Int) := by rw [i64_id (by omega) (by omega)]; omega
        rw [hk1]
        refine ⟨_, (hFX.blk b1 (by simp)).cell rfl, _, hX.cell rfl, _, hX.cell rfl, _, hX.cell rfl, ?_⟩
        refine Calls.mono (HB.push (w := w3.drew) (x := (x0, x1, x2)) rests less trivial (by simp) (b2.fr hFX.drew (by simp)) (by omega) (by omega) (by omega)) ?_
        rintro _ w4 ⟨rfl, FH', hH4, hF4, hFH⟩
        have hF4' : Fr FH w3 w4 := hF4.ofdrew
        have hF24 : Fr FH w2 w4 := (hFX.mono (by simp)).trans hF4'
        have hsz := hFX.1
        obtain ⟨F4, hA4, hFF4⟩ := b4 w4 FH' _ _ hH4 hF24 (fun x hx => by
          rcases hFH x hx with h | h
          · exact .inl h
          · right; rw [size_drew] at h; omega)
        have hlS := hS2.lt
        have hck : came + 1 + ((k + 1 : Nat) : Int) = came + 1 + (k : Int) + 1 := by omega
        have hpa' : putAll (HeapPlain.push dE AH es2 ((x0, x1, x2), came + 1 + (k : Int))) (came + 1 + ((k + 1 : Nat) : Int)) (pT.drop (k + 1)) = putAll [] (came + 1) pT := by rw [hck]; exact hpa
        refine ⟨rfl, rfl, r - 1, by omega, k + 1, rfl, by omega, F4, _, hS2.fr hF24 (fun x hx hx2 => (hFS2 x hx).1 (b3 x hx2)), ?_, ?_, ?_, ?_, hpa', ?_⟩
        · rw [hck]; exact hA4
        · intro x hx
          refine ⟨fun hx2 => ?_, (hFS2 x hx).2⟩
          rcases hFF4 x hx2 with h | h
          · exact (hFS2 x hx).1 h
          · have := hlS x hx; omega
        · exact hF2.trans' hF24 (fun x hx hlt => by rcases hFF2 x (b3 x hx) with h | h; exact h; omega)
        · intro x hx
          rcases hFF4 x hx with h | h
          · exact hFF2 x h
          · have := hF2.1; right; omega
        · rw [HeapPlain.push_length]; omega
      · intro hd
        have hk : k = pT.length := by rw [hml] at hd; simp at hd; omega
        subst hk
        rw [List.drop_length] at hpa
        rw [putAll] at hpa
        subst hpa
        exact ⟨F2, rfl, hA2, hF2, hFF2⟩
  · rintro e w' ⟨v, rfl, F', rfl, h⟩
    exact ⟨F', rfl, h⟩
end AR
end Go.Proofs.Ytebahglmdifmpaa
