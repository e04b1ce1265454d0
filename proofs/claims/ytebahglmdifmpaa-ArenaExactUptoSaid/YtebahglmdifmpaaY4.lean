/- Blocks: the walk. -/
import Derived.Test.YtebahglmdifmpaaY3
set_option linter.unusedVariables false
set_option linter.unusedSimpArgs false
set_option maxRecDepth 10000
namespace Go.Proofs.Ytebahglmdifmpaa
open Go Go.Proofs.Ytebahglmdifmpaa.Vc
namespace PA
abbrev slC (v : Value) (bs : List B) : Chunk := Chunk.sl 96 3 v (bs.map AR.encB)
theorem sl_of {w : World} {FS : List Nat} {A : Option Addr} {n c : Nat} {bs : List B} (h : AR.SlB w FS A n c bs) : (slC (.slice A n c) bs).holds w FS := by
  rcases h with ⟨rfl, rfl, rfl, rfl, rfl⟩ | ⟨g, rfl, rfl, rfl, h⟩
  · exact .inl ⟨rfl, rfl, rfl⟩
  · exact .inr ⟨g, c, by simp, rfl, h⟩
section
variable {S : List Nat} {w0 w : World} {K : List Chunk} {a mb gb : Nat} {tr : Value} {bad : Int} {ws : List Int} {es : List (B × Int)} {came : Int} {out : List (Int × Int)}
/-- A piece goes into the heap. -/
theorem pushA (h : St S w0 w K) (i : Nat) (hi : K[i]? = some (aC a mb gb ws tr bad es came out)) (b : B) (hes : es.length ≤ 3000000) (hc0 : 0 ≤ came) (hc1 : came ≤ 2305843009213693952) :
    ∃ hb : Nat, w.cell? ⟨a, 1, none⟩ = some (.pointer (some ⟨hb, 0, none⟩)) ∧ Calls Try.prog 70 #[.pointer (some ⟨hb, 0, none⟩), .agg #[.int .i64 b.1, .int .i64 b.2.1, .bool b.2.2]] w.drew fun e w' => e = .returned (.tuple #[]) ∧ St S w0 w' (K.set i (aC a mb gb ws tr bad (HeapPlain.push dE AH es (b, came)) (came + 1) out)) := by
  obtain ⟨F, hA, _, hk⟩ := h.drew.at i hi
  obtain ⟨hb, mp, FH, ⟨b1, b2, b3, _⟩, b4, _⟩ := AR.ArAt.parts hA
  refine ⟨hb, b1.cell rfl, ?_⟩
  refine Calls.mono (HB.push AR.rests AR.less trivial (by simp) b2 (by omega) hc0 (by omega) b) ?_
  rintro e w2 ⟨rfl, FH', hH2, hF2, hFH⟩
  obtain ⟨F2, hA2, hF2'⟩ := b4 w2 FH' _ _ hH2 hF2 hFH
  exact ⟨rfl, hk (hF2.mono b3) hA2 hF2'⟩
theorem mapA (h : St S w0 w K) (i : Nat) (hi : K[i]? = some (aC a mb gb ws tr bad es came out)) : ∃ mp, w.cell? ⟨a, 2, none⟩ = some (.map (some mp)) ∧ MapIs w mp out := by
  obtain ⟨F, hA, _⟩ := h.at i hi
  obtain ⟨hb, mp, FH, ⟨b1, b2, b3, b4, b5, _⟩, _⟩ := AR.ArAt.parts hA
  exact ⟨mp, b1.cell rfl, b5⟩
end
theorem slCells {S : List Nat} {w0 w : World} {K : List Chunk} (h : St S w0 w K) (i : Nat) {A : Option Addr} {n c : Nat} {bs : List B} (hi : K[i]? = some (slC (.slice A n c) bs)) {j : Nat} (hj : j < bs.length) :
    ∃ g, A = some ⟨g, 0, none⟩ ∧ w.cell? ⟨g, 0 + (j : Int).toNat * 3, none⟩ = some (.int .i64 (bs.getD j AR.dB).1) ∧ w.cell? ⟨g, 0 + (j : Int).toNat * 3 + 1, none⟩ = some (.int .i64 (bs.getD j AR.dB).2.1) ∧ w.cell? ⟨g, 0 + (j : Int).toNat * 3 + 1 + 1, none⟩ = some (.bool (bs.getD j AR.dB).2.2) := by
  obtain ⟨g, hg, hc⟩ := h.slGet i hi (by simp; omega)
  have e : (bs.map AR.encB).getD j [] = AR.encB (bs.getD j AR.dB) := by simp [List.getD_eq_getElem?_getD, hj]
  have e2 : 0 + (j : Int).toNat * 3 = j * 3 := by simp
  refine ⟨g, hg, ?_, ?_, ?_⟩
  · rw [e2]; exact hc j 0 _ (by simpa using hj) (by decide) (by rw [e]; rfl)
  · rw [e2]; exact hc j 1 _ (by simpa using hj) (by decide) (by rw [e]; rfl)
  · rw [e2]; exact hc j 2 _ (by simpa using hj) (by decide) (by rw [e]; rfl)
theorem intCell {S : List Nat} {w0 w : World} {K : List Chunk} (h : St S w0 w K) (i : Nat) {A : Option Addr} {n c : Nat} {l : List Int} (hi : K[i]? = some (intsC (.slice A n c) l)) {j : Nat} (hj : j < l.length) :
    ∃ g, A = some ⟨g, 0, none⟩ ∧ w.cell? ⟨g, 0 + (j : Int).toNat * 1, none⟩ = some (.int .i64 (l.getD j 0)) := by
  obtain ⟨g, hg, hc⟩ := h.slGet i hi (by simp; omega)
  refine ⟨g, hg, ?_⟩
  rw [show 0 + (j : Int).toNat * 1 = j * 1 + 0 by simp]
  exact hc j 0 _ (by simpa using hj) (by decide) (by simp [List.getD_eq_getElem?_getD, hj])
theorem putAll_snoc : ∀ (bs : List B) (es : List (B × Int)) (c : Int) (b : B), AR.putAll es c (bs ++ [b]) = HeapPlain.push dE AH (AR.putAll es c bs) (b, c + bs.length)
  | [], es, c, b => by simp [AR.putAll]
  | x :: bs, es, c, b => by
    rw [List.cons_append, AR.putAll, putAll_snoc bs, AR.putAll]
    congr 2
    simp only [List.length_cons]; omega
def asB (out : List (Int × Int)) (k : Int) : B := (k, getM out k, false)
theorem asB_perm {out : List (Int × Int)} {ks : List Int} (hk : Keys out) (hp : ks.Perm (out.map (·.1))) {L : List B} (ho : out.Perm (takens L)) : (frees L ++ ks.map (asB out)).Perm L := by
  have h1 : (ks.map (asB out)).Perm (out.map fun p => (p.1, p.2, false)) := by
    refine (hp.map (asB out)).trans (List.Perm.of_eq ?_)
    rw [List.map_map]
    refine List.map_congr_left fun p hp => ?_
    simp only [Function.comp_def, asB]
    rw [getM_mem hk (v := p.2) hp]
  have h2 : ((takens L).map fun p => ((p.1, p.2, false) : B)) = L.filter (fun b => !b.2.2) := by
    unfold takens
    rw [List.map_map]
    have : ∀ b ∈ L.filter (fun b : B => !b.2.2), ((fun p : Int × Int => ((p.1, p.2, false) : B)) ∘ fun b : B => (b.1, b.2.1)) b = b := by
      intro b hb
      have := (List.mem_filter.1 hb).2
      obtain ⟨b1, b2, b3⟩ := b
      simp only [Bool.not_eq_eq_eq_not, Bool.not_true] at this
      simp [Function.comp_def, this]
    rw [List.map_congr_left this, List.map_id'']
    intro x; rfl
  have h3 : (ks.map (asB out)).Perm (L.filter (fun b => !b.2.2)) := h1.trans ((ho.map _).trans (List.Perm.of_eq h2))
  exact (List.Perm.append_left _ h3).trans (List.filter_append_perm _ L)
theorem blocks_ {w : World} {F : List Nat} {a mb gb : Nat} {tr : Value} {bad st : Int} {ws : List Int} {L : List B} {k : Nat} (h : (arC a mb gb tr bad st ws L k).holds w F) (hst : 0 ≤ st) (hne : st < ws.length) (hlen : ws.length ≤ 4000) (hk : k ≤ 500000000) :
    Calls Try.prog 45 #[.pointer (some ⟨a, 0, none⟩)] w fun e w' => ∃ A n c, e = .returned (.slice A n c) ∧ St F w w' [arC a mb gb tr bad st ws L (k + 1), slC (.slice A n c) L] := by
  refine Calls.mono (f45.calls (R := fun v w' => ∃ A n c, v = .slice A n c ∧ St F w w' [arC a mb gb tr bad st ws L (k + 1), slC (.slice A n c) L]) ?_) ?_
  · dsimp only [f45.VC]
    obtain ⟨⟨es, came, out⟩, hO, hA⟩ := h
    dsimp only at hO hA
    have hel := hO.len hst
    have hLl := hO.tiled.len
    have hc0 := hO.c0
    have hc1 := hO.c1
    refine Calls.mono (AR.drained hA (by omega)) ?_
    rintro e w1 ⟨A9, n9, c9, FS, F', rfl, hSl, hA1, hFS, hF1, hF'⟩
    refine ⟨_, _, _, rfl, ?_⟩
    have hd : AR.drain es.length es [] = frees L := by
      rw [drain_eq _ _ _ _ rfl hO.free (frees_asc hO.tiled.asc)]
      have := (frees_coal L st ws.length hO.tiled hst (by omega)).1 [] (.inl rfl)
      rw [(coal_id L).1 hO.apart] at this
      simpa using this
    rw [hd] at hSl
    have hn9 := hSl.len
    have hfl : (frees L).length ≤ 4000 := by
      have := List.length_filter_le (fun b : B => b.2.2) L
      have e : (frees L).length = (L.filter (fun b : B => b.2.2)).length := rfl
      omega
    have hS1 : St F w w1 [slC (.slice A9 n9 c9) (frees L), aC a mb gb ws tr bad [] came out] := St.mk2 hF1 (sl_of hSl) hA1 (fun x hx => .inr (hFS x hx).2) hF' (fun x hx => (hFS x hx).1)
    refine ⟨fun x w' r => ∃ j : Nat, x = (j : Int) ∧ j + r = (frees L).length ∧ St F w w' [slC (.slice A9 n9 c9) (frees L), aC a mb gb ws tr bad (AR.putAll [] came ((frees L).take j)) (came + j) out], ⟨(frees L).length, 0, rfl, by omega, by simpa [AR.putAll] using hS1⟩, ?_⟩
    clear hS1 hSl hA1 hFS hF' hF1
    rintro _ x w2 r ⟨j, rfl, hjr, hS2⟩
    refine sel_of ?_ ?_
    · intro hd2
      have hj : j < (frees L).length := by
        have : (j : Int) < (n9 : Int) := by simpa using hd2
        omega
      have hj1 : IntKind.i64.wrap ((j : Int) + 1) = ((j + 1 : Nat) : Int) := by rw [i64_id (by omega) (by omega)]; omega
      obtain ⟨g, rfl, e1, e2, e3⟩ := slCells hS2 0 rfl hj
      refine ⟨by omega, by omega, needPtr_of rfl ⟨_, e1, _, e2, _, e3, ?_⟩⟩
      have hb : (frees L).take (j + 1) = (frees L).take j ++ [(frees L).getD j AR.dB] := by
        rw [List.take_succ_eq_append_getElem hj]
        simp [List.getD_eq_getElem?_getD, hj]
      generalize (frees L).getD j AR.dB = b at *
      have hS3 := hS2.alloc #[.int .i64 0, .int .i64 0, .bool false] 96
      generalize World.alloc w2 (.cells #[.int .i64 0, .int .i64 0, .bool false] 96) = w3 at *
      generalize w2.heap.size = t at *
      refine ⟨(hS3.blk 0 rfl).can (by simp), ?_⟩
      have hS4 := hS3.over 0 rfl [.int .i64 b.1, .int .i64 b.2.1, .bool b.2.2] rfl
      have hT := hS4.blk 0 rfl
      have hpl : ∀ (bs : List B) (es : List (B × Int)) (c : Int), (AR.putAll es c bs).length = es.length + bs.length := by
        intro bs
        induction bs with
        | nil => intro es c; simp [AR.putAll]
        | cons x bs ih => intro es c; rw [AR.putAll, ih, HeapPlain.push_length]; simp only [List.length_cons]; omega
      obtain ⟨hb', c1, hcall⟩ := pushA hS4 2 rfl b (by rw [hpl]; simp; omega) (by omega) (by omega)
      refine ⟨_, c1, _, hT.cell rfl, _, hT.cell rfl, _, hT.cell rfl, ?_⟩
      refine Calls.mono hcall ?_
      rintro e w5 ⟨rfl, hS5⟩
      rw [hj1]
      refine ⟨rfl, rfl, r - 1, by omega, j + 1, rfl, by omega, ?_⟩
      have hl : ((frees L).take j).length = j := by simp; omega
      rw [hb, putAll_snoc, hl]
      have e5 : came + ((j + 1 : Nat) : Int) = came + (j : Int) + 1 := by omega
      rw [e5]
      exact hS5.tail
    · intro hd2
      have hj : j = (frees L).length := by
        have : ¬ (j : Int) < (n9 : Int) := by simpa using hd2
        omega
      subst hj
      rw [List.take_length] at hS2
      obtain ⟨mp, m1, m2⟩ := mapA hS2 1 rfl
      refine ⟨_, m1, ?_⟩
      have hrange : ∀ p ∈ out, 0 ≤ p.1 ∧ p.1 ≤ 4000 := by
        intro p hp
        have hp2 := hO.out.mem_iff.1 hp
        obtain ⟨b, hb, rfl⟩ := List.mem_map.1 hp2
        have := hO.tiled.mem b (List.mem_filter.1 hb).1
        simp only
        omega
      have hol : out.length ≤ 4000 := by
        rw [hO.out.length_eq]
        have := List.length_filter_le (fun b : B => !b.2.2) L
        simp only [takens, List.length_map]
        omega
      refine Calls.mono (sortedKeys m2 (fun p hp => by have := hrange p hp; simp [Lit.wf, IntKind.min, IntKind.max, IntKind.signed, IntKind.bits]; omega) hol) ?_
      rintro e w6 ⟨v, rfl, hF6, hcall⟩
      refine ⟨_, rfl, ?_⟩
      refine Calls.mono hcall ?_
      rintro e w7 ⟨A28, n28, c28, FK, ks, rfl, hks, hkp, hksort, hFK, hF7⟩
      refine ⟨_, _, _, rfl, ?_⟩
      have hs6 := hF6.1
      have hS7 := hS2.new (c := intsC (.slice A28 n28 c28) ks) hF7 hks (fun x hx => Nat.le_trans hs6 (hFK x hx))
      have hn28 := hS7.slLen 0 rfl
      rw [List.length_map] at hn28
      have hkl : ks.length = out.length := by rw [hkp.length_eq]; simp
      clear hcall hks hFK hF7 hF6 hs6 m1 m2 hS2 hd2
      refine ⟨fun A3 n3 c3 x w' r => ∃ j : Nat, x = (j : Int) ∧ j + r = ks.length ∧ St F w w' [intsC (.slice A28 n28 c28) ks, slC (.slice A3 n3 c3) (frees L ++ (ks.take j).map (asB out)), aC a mb gb ws tr bad (AR.putAll [] came (frees L)) (came + (frees L).length) out],
        ⟨ks.length, 0, rfl, by omega, by simpa using hS7⟩, ?_⟩
      clear hS7
      rintro _ A3 n3 c3 x30 w8 r1 ⟨j, rfl, hjr2, hS8⟩
      have hn3 := hS8.slLen 1 rfl
      refine sel_of ?_ ?_
      · intro hd3
        have hj : j < ks.length := by
          have : (j : Int) < (n28 : Int) := by simpa using hd3
          omega
        have hj1 : IntKind.i64.wrap ((j : Int) + 1) = ((j + 1 : Nat) : Int) := by rw [i64_id (by omega) (by omega)]; omega
        obtain ⟨g, rfl, e1⟩ := intCell hS8 0 rfl hj
        obtain ⟨mp2, m1, m2⟩ := mapA hS8 2 rfl
        have hkt : ks.take (j + 1) = ks.take j ++ [ks.getD j 0] := by
          rw [List.take_succ_eq_append_getElem hj]
          simp [List.getD_eq_getElem?_getD, hj]
        generalize ks.getD j 0 = key at *
        obtain ⟨ti, t1, t2, _⟩ := CM.info3
        refine ⟨by omega, by omega, needPtr_of rfl ⟨_, e1, _, m1, _, _, map_get (P := Try.prog) (t := 136) (kt := 3) (et := 3) (i := ti) (by kernel_rfl) (by kernel_rfl) t1 t2 m2 key, ?_⟩⟩
        have hS9 := hS8.alloc #[.int .i64 key, .int .i64 (getM out key), .bool false] 96
        obtain ⟨bi, b1, b2, b3, b4⟩ := AR.info96
        have htl : (ks.take j).length ≤ ks.length := by simp; omega
        obtain ⟨g', cap', w', hrun, hS10⟩ := hS9.append (P := Try.prog) (ty := 83) (r := AR.encB (asB out key)) 2 AR.under83 b1 b2 b3 rfl (by decide) rfl (hS9.blk 0 rfl) rfl rfl (by intro u hu; simp [AR.encB] at hu; rcases hu with rfl | rfl | rfl <;> rfl)
          (by rw [b4]; simp only [List.length_map, List.length_append]; omega) (by simp only [List.length_map, List.length_append, maxLen]; omega)
        refine ⟨_, _, _, _, hrun, rfl, r1 - 1, by omega, j + 1, hj1, by omega, ?_⟩
        have e : (frees L ++ (ks.take (j + 1)).map (asB out)).map AR.encB = (frees L ++ (ks.take j).map (asB out)).map AR.encB ++ [AR.encB (asB out key)] := by
          rw [hkt]; simp
        simp only [slC]
        rw [e]
        exact hS10.tail
      · intro hd3
        have hj : j = ks.length := by
          have : ¬ (j : Int) < (n28 : Int) := by simpa using hd3
          omega
        subst hj
        rw [List.take_length] at hS8
        have hperm := asB_perm hO.keys hkp hO.out
        have hLpos : 0 < L.length := by
          rcases Nat.eq_zero_or_pos L.length with h0 | h0
          · have h1 : L = [] := List.eq_nil_of_length_eq_zero h0
            have h2 := hO.tiled
            rw [h1] at h2
            have : st = (ws.length : Int) := h2
            omega
          · exact h0
        refine Calls.mono (hS8.step1 1 rfl (slC (.slice A3 n3 c3) L) (fun F hF => sortBlocks hF hperm hO.tiled.asc (by rw [hperm.length_eq]; exact hLpos) (fun b hb => by
          have := hO.tiled.mem b (hperm.mem_iff.1 hb); omega) (by rw [hperm.length_eq]; omega))) ?_
        rintro e w12 ⟨rfl, hS12⟩
        refine ⟨rfl, A3, n3, c3, rfl, ?_⟩
        have hS13 := hS12.as 2 rfl (arC a mb gb tr bad st ws L (k + 1)) (fun F hF => ⟨(_, _, out), ⟨by simpa using Free.nil.putAll (bs := frees L) (c := came), hO.out, hO.tiled, hO.apart, by simp only; omega, by simp only; omega⟩, hF⟩)
        exact hS13.sel [2, 1] (by decide) _ rfl
  · rintro e w' ⟨v, rfl, A, n, c, rfl, h⟩
    exact ⟨A, n, c, rfl, h⟩
theorem blocksS {S : List Nat} {w0 w : World} {K : List Chunk} {a mb gb : Nat} {tr : Value} {bad st : Int} {ws : List Int} {L : List B} {k : Nat} (h : St S w0 w K) (i : Nat) (hi : K[i]? = some (arC a mb gb tr bad st ws L k)) (hst : 0 ≤ st) (hne : st < ws.length) (hlen : ws.length ≤ 4000) (hk : k ≤ 500000000) :
    Calls Try.prog 45 #[.pointer (some ⟨a, 0, none⟩)] w fun e w' => ∃ A n c, e = .returned (.slice A n c) ∧ St S w0 w' (slC (.slice A n c) L :: K.set i (arC a mb gb tr bad st ws L (k + 1))) := by
  obtain ⟨F, hF, hg⟩ := h.graft i hi
  refine Calls.mono (blocks_ hF hst hne hlen hk) ?_
  rintro e w' ⟨A, n, c, rfl, hS⟩
  exact ⟨A, n, c, rfl, hg hS⟩
end PA
end Go.Proofs.Ytebahglmdifmpaa
