/- An arena as a piece of memory that is owned, by its list of pieces: Take, Give, Live. -/
import Derived.Test.YtebahglmdifmpaaP1
import Derived.Test.YtebahglmdifmpaaS1
set_option linter.unusedVariables false
set_option linter.unusedSimpArgs false
set_option maxRecDepth 10000
namespace Go.Proofs.Ytebahglmdifmpaa
open Go Go.Proofs.Ytebahglmdifmpaa.Vc
namespace PA
structure Ok (st : Int) (ws : List Int) (L : List B) (k : Nat) (es : List (B × Int)) (came : Int) (out : List (Int × Int)) : Prop where
  free : Free es (frees L)
  out : out.Perm (takens L)
  tiled : Tiled st ws.length L
  apart : Apart L
  c0 : 0 ≤ came
  c1 : came ≤ 4000000 * k
def aC (a mb gb : Nat) (ws : List Int) (tr : Value) (bad : Int) (es : List (B × Int)) (came : Int) (out : List (Int × Int)) : Chunk where
  holds w F := AR.ArAt w F a mb gb ws tr bad es came out
  fr h hf hS := h.fr hf hS
  lt h := h.lt
def arC (a mb gb : Nat) (tr : Value) (bad st : Int) (ws : List Int) (L : List B) (k : Nat) : Chunk :=
  Chunk.ex fun q : List (B × Int) × Int × List (Int × Int) => Chunk.fact (Ok st ws L k q.1 q.2.1 q.2.2) (aC a mb gb ws tr bad q.1 q.2.1 q.2.2)
theorem Tiled.len : ∀ {L : List B} {a e : Int}, Tiled a e L → (L.length : Int) ≤ e - a
  | [], a, e, h => by have : a = e := h; simp; omega
  | b :: L, a, e, ⟨h1, h2, h3⟩ => by have := h3.len; simp only [List.length_cons]; omega
theorem Ok.keys {st : Int} {ws : List Int} {L : List B} {k : Nat} {es : List (B × Int)} {came : Int} {out : List (Int × Int)} (h : Ok st ws L k es came out) : Keys out :=
  Keys.perm (l := takens L) ((takens_asc h.tiled.asc).imp (fun h => by omega)) h.out.symm
theorem Ok.len {st : Int} {ws : List Int} {L : List B} {k : Nat} {es : List (B × Int)} {came : Int} {out : List (Int × Int)} (h : Ok st ws L k es came out) (hst : 0 ≤ st) : es.length ≤ ws.length := by
  have h1 := h.tiled.len
  have h2 := List.length_filter_le (fun b : B => b.2.2) L
  have h3 : es.length = (L.filter (fun b : B => b.2.2)).length := h.free.len
  omega
theorem Ok.fits {st : Int} {ws : List Int} {L : List B} {k : Nat} {es : List (B × Int)} {came : Int} {out : List (Int × Int)} (h : Ok st ws L k es came out) (hst : 0 ≤ st) : ∀ e ∈ es, AR.Fits ws.length e := by
  intro e he
  have h1 : e.1 ∈ frees L := h.free.perm.mem_iff.1 (List.mem_map.2 ⟨e, he, rfl⟩)
  have := h.tiled.mem e.1 (List.mem_filter.1 h1).1
  exact ⟨by omega, by omega, by omega⟩
def resT (n : Int) (L : List B) : Int × Int := if n < 1 then (0, 1) else match takeL n L with | none => (0, 150) | some r => (r.1, 0)
def nextT (n : Int) (L : List B) : List B := if n < 1 then L else listOf L (takeL n L)
def wordsT (n : Int) (L : List B) (ws : List Int) : List Int := if n < 1 then ws else match takeL n L with | none => ws | some r => CM.fillN ws r.1.toNat 0 n.toNat
def POISON : Int := -4611686018427387904
def resG (addr : Int) (L : List B) : Int := match giveL addr L with | none => 151 | some _ => 0
def nextG (addr : Int) (L : List B) : List B := match giveL addr L with | none => L | some r => coal none r.2
def wordsG (addr : Int) (L : List B) (ws : List Int) : List Int := match giveL addr L with | none => ws | some r => CM.fillN ws addr.toNat POISON r.1.toNat
section
variable {S : List Nat} {w0 w : World} {K : List Chunk} {a mb gb : Nat} {tr : Value} {bad st : Int} {ws : List Int} {L : List B} {k : Nat}
theorem takeS (h : St S w0 w K) (i : Nat) (hi : K[i]? = some (arC a mb gb tr bad st ws L k)) (hst : 0 ≤ st) (hlen : ws.length ≤ 4000) (hk : k ≤ 500000000) (n : Int) (hn : n ≤ 9223372036854775807) :
    Calls Try.prog 43 #[.pointer (some ⟨a, 0, none⟩), .int .i64 n] w fun e w' => e = .returned (.tuple #[.int .i64 (resT n L).1, .int .i64 (resT n L).2]) ∧ St S w0 w' (K.set i (arC a mb gb tr bad st (wordsT n L ws) (nextT n L) (k + 1))) := by
  refine h.step1 i hi _ fun F hF => ?_
  obtain ⟨⟨es, came, out⟩, hO, hA⟩ := hF
  dsimp only at hO hA
  by_cases hn1 : n < 1
  · have e1 : resT n L = (0, 1) := by unfold resT; rw [if_pos hn1]
    have e2 : nextT n L = L := by unfold nextT; rw [if_pos hn1]
    have e3 : wordsT n L ws = ws := by unfold wordsT; rw [if_pos hn1]
    rw [e1, e2, e3]
    refine Calls.mono (f43.calls (R := fun v w' => v = .tuple #[.int .i64 0, .int .i64 1] ∧ w' = w) ?_) ?_
    · dsimp only [f43.VC]
      exact sel_true (by simpa using hn1) ⟨rfl, rfl⟩
    · rintro e w' ⟨v, rfl, rfl, rfl⟩
      exact ⟨rfl, F, ⟨(es, came, out), ⟨hO.free, hO.out, hO.tiled, hO.apart, hO.c0, by have := hO.c1; simp only; omega⟩, hA⟩, Fr.refl _ _, fun b hb => .inl hb⟩
  · obtain ⟨m, rfl⟩ : ∃ m : Nat, n = (m : Int) := ⟨n.toNat, by omega⟩
    have hel := hO.len hst
    refine Calls.mono (AR.take hA (n := m) (by omega) (by omega) (by omega) (by omega) hO.c0 (by have := hO.c1; omega) (hO.fits hst)) ?_
    rintro e w' ⟨F', rfl, hA', hF', hFF⟩
    have hs := scan_eq (m : Int) es.length es (frees L) [] rfl hO.free (frees_asc hO.tiled.asc)
    have ht := scan_take (m : Int) L []
    have hsl := AR.scan_length (m : Int) es.length es [] rfl
    obtain ⟨s1, s2⟩ := hs
    rw [s1] at hA' hsl ⊢
    rw [ht.1] at hA' ⊢
    have hfree : Free (AR.putAll (AR.scan (m : Int) es.length es []).1 came (scanL (m : Int) (frees L) []).2.1) (frees (listOf L (takeL (m : Int) L))) := by
      have := (s2.putAll (bs := (scanL (m : Int) (frees L) []).2.1) (c := came)).perm' ht.2
      simpa using this
    have hc : came + ((scanL (m : Int) (frees L) []).2.1.length : Int) ≤ 4000000 * ((k + 1 : Nat) : Int) := by
      have := hO.c1
      simp only [List.length_nil] at hsl
      omega
    have hc0 : 0 ≤ came + ((scanL (m : Int) (frees L) []).2.1.length : Int) := by have := hO.c0; omega
    have e1 : nextT (m : Int) L = listOf L (takeL (m : Int) L) := by unfold nextT; rw [if_neg hn1]
    cases hT : takeL (m : Int) L with
    | none =>
      rw [hT] at hA' hfree
      have e2 : resT (m : Int) L = (0, 150) := by unfold resT; rw [if_neg hn1, hT]
      have e3 : wordsT (m : Int) L ws = ws := by unfold wordsT; rw [if_neg hn1, hT]
      rw [e1, e2, e3, hT]
      have hneg : atOf (none : Option (Int × List B)) < 0 := by decide
      rw [if_pos hneg] at hA'
      rw [if_pos hneg] at hA'
      rw [if_pos hneg, if_pos hneg]
      exact ⟨rfl, F', ⟨(_, _, out), ⟨hfree, hO.out, hO.tiled, hO.apart, hc0, hc⟩, hA'⟩, hF', hFF⟩
    | some r =>
      obtain ⟨at_, L'⟩ := r
      obtain ⟨t1, t2, t3, t4, t5, t6⟩ := takeL_some (by omega) hT hO.tiled
      rw [hT] at hA' hfree
      have e2 : resT (m : Int) L = (at_, 0) := by unfold resT; rw [if_neg hn1, hT]
      have e3 : wordsT (m : Int) L ws = CM.fillN ws at_.toNat 0 m := by unfold wordsT; rw [if_neg hn1, hT]; simp
      rw [e1, e2, e3, hT]
      have hneg : ¬ atOf (some (at_, L')) < 0 := by simp only [atOf]; omega
      rw [if_neg hneg] at hA'
      rw [if_neg hneg] at hA'
      rw [if_neg hneg, if_neg hneg]
      have hnew : ∀ v, (at_, v) ∉ out := by
        intro v hv
        have h1 : Keys (takens L') := (takens_asc t1.asc).imp (fun h => by omega)
        have h2 := Keys.perm h1 t2
        have h3 := (List.pairwise_cons.1 h2).1 _ (hO.out.mem_iff.1 hv)
        exact h3 rfl
      refine ⟨rfl, F', ⟨(_, _, putM out at_ m), ⟨hfree, ?_, ?_, (t6 hO.apart).1, hc0, hc⟩, hA'⟩, hF', hFF⟩
      · rw [putM_new hnew]
        exact (List.perm_append_comm.trans (hO.out.cons _)).trans t2.symm
      · rw [CM.fillN_length]; exact t1
theorem giveS (h : St S w0 w K) (i : Nat) (hi : K[i]? = some (arC a mb gb tr bad st ws L k)) (hst : 0 ≤ st) (hlen : ws.length ≤ 4000) (hk : k ≤ 500000000) (addr : Int) :
    Calls Try.prog 41 #[.pointer (some ⟨a, 0, none⟩), .int .i64 addr] w fun e w' => e = .returned (.int .i64 (resG addr L)) ∧ St S w0 w' (K.set i (arC a mb gb tr bad st (wordsG addr L ws) (nextG addr L) (k + 1))) := by
  refine h.step1 i hi _ fun F hF => ?_
  obtain ⟨⟨es, came, out⟩, hO, hA⟩ := hF
  dsimp only at hO hA
  have hel := hO.len hst
  cases hG : giveL addr L with
  | none =>
    have e1 : resG addr L = 151 := by unfold resG; rw [hG]
    have e2 : nextG addr L = L := by unfold nextG; rw [hG]
    have e3 : wordsG addr L ws = ws := by unfold wordsG; rw [hG]
    rw [e1, e2, e3]
    have hno : hasM out addr = false := by
      rw [← Bool.not_eq_true, hasM_iff]
      rintro ⟨v, hv⟩
      exact giveL_none.1 hG v (hO.out.mem_iff.1 hv)
    refine Calls.mono (AR.give_no hA hno) ?_
    rintro e w' ⟨rfl, hA', hF'⟩
    exact ⟨rfl, F, ⟨(es, came, out), ⟨hO.free, hO.out, hO.tiled, hO.apart, hO.c0, by have := hO.c1; simp only; omega⟩, hA'⟩, hF', fun b hb => .inl hb⟩
  | some r =>
    obtain ⟨n, L1⟩ := r
    obtain ⟨g1, g2, g3, g4, g5, g6, g7⟩ := giveL_some hG hO.tiled
    have e1 : resG addr L = 0 := by unfold resG; rw [hG]
    have e2 : nextG addr L = coal none L1 := by unfold nextG; rw [hG]
    have e3 : wordsG addr L ws = CM.fillN ws addr.toNat POISON n.toNat := by unfold wordsG; rw [hG]
    rw [e1, e2, e3]
    have hm : (addr, n) ∈ out := hO.out.mem_iff.2 (g2.mem_iff.2 (by simp))
    obtain ⟨p, rfl⟩ : ∃ p : Nat, addr = (p : Int) := ⟨addr.toNat, by omega⟩
    obtain ⟨q, rfl⟩ : ∃ q : Nat, n = (q : Int) := ⟨n.toNat, by omega⟩
    refine Calls.mono (AR.give hA (addr := p) (n := q) (hasM_iff.2 ⟨_, hm⟩) (getM_mem hO.keys hm) (by omega) (by omega) (by omega) hO.c0 (by have := hO.c1; omega)) ?_
    rintro e w' ⟨F', rfl, hA', hF', hFF⟩
    have hfr : Free (HeapPlain.push dE AH es (((p : Int), (q : Int), true), came)) (frees L1) := (hO.free.push _ came).perm' g3.symm
    have hd : AR.drain (es.length + 1) (HeapPlain.push dE AH es (((p : Int), (q : Int), true), came)) [] = frees (coal none L1) := by
      rw [drain_eq _ _ _ _ (by rw [HeapPlain.push_length]) hfr (frees_asc g1.asc)]
      have := (frees_coal L1 st ws.length g1 hst (by omega)).1 [] (.inl rfl)
      simpa using this
    have hct := (coal_tiled L1 st ws.length g1).1
    have hcl := hct.len
    have hfl := List.length_filter_le (fun b : B => b.2.2) (coal none L1)
    rw [hd] at hA'
    refine ⟨rfl, F', ⟨(_, _, delM out (p : Int)), ⟨?_, ?_, ?_, (coal_apart L1).1.1, ?_, ?_⟩, by rw [Int.toNat_natCast, Int.toNat_natCast]; exact hA'⟩, hF', hFF⟩
    · simpa using Free.nil.putAll (bs := frees (coal none L1)) (c := came + 1)
    · rw [(coal_takens L1).1]
      exact (List.perm_cons _).1 (((delM_perm hO.keys hm).symm.trans hO.out).trans g2)
    · rw [CM.fillN_length]; exact hct
    · have := hO.c0; simp only; omega
    · have := hO.c1
      have e : (frees (coal none L1)).length = ((coal none L1).filter (fun b : B => b.2.2)).length := rfl
      simp only [e]; omega
theorem liveS (h : St S w0 w K) (i : Nat) (hi : K[i]? = some (arC a mb gb tr bad st ws L k)) :
    Calls Try.prog 49 #[.pointer (some ⟨a, 0, none⟩)] w fun e w' => e = .returned (.int .i64 ((takens L).length : Int)) ∧ St S w0 w' K := by
  obtain ⟨F, ⟨⟨es, came, out⟩, hO, hA⟩, _⟩ := h.at i hi
  have := h.step0 (AR.live hA)
  rw [hO.out.length_eq] at this
  exact this
end
end PA
end Go.Proofs.Ytebahglmdifmpaa
