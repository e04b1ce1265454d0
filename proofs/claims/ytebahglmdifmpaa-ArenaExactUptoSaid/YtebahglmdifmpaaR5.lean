/- The document's arena: Take, Give, New; lists of pieces compared. -/
import Derived.Test.YtebahglmdifmpaaR4
import Derived.Test.YtebahglmdifmpaaE1
set_option linter.unusedVariables false
set_option linter.unusedSimpArgs false
set_option maxRecDepth 10000
namespace Go.Proofs.Ytebahglmdifmpaa
open Go Go.Proofs.Ytebahglmdifmpaa.Vc
namespace RA
open PA
theorem map_set1 (l : List Int) (k : Nat) (v : Int) : (l.map fun x => [Value.int .i64 x]).set k [.int .i64 v] = (l.set k v).map fun x => [Value.int .i64 x] := by
  rw [List.map_set]
/-- A word of a list of numbers is written. -/
theorem intSet {S : List Nat} {w0 w : World} {K : List Chunk} (h : St S w0 w K) (i : Nat) {A : Option Addr} {n c : Nat} {l : List Int} (hi : K[i]? = some (intsC (.slice A n c) l)) {j : Nat} (hj : j < l.length) :
    ∃ g, A = some ⟨g, 0, none⟩ ∧ ∀ v : Int, canStore w g (0 + (j : Int).toNat * 1) 1 ∧ St S w0 (setCs w g (0 + (j : Int).toNat * 1) [.int .i64 v]) (K.set i (intsC (.slice A n c) (l.set j v))) := by
  obtain ⟨g, hg, hs⟩ := h.slSet i hi (k := j) (by simpa using hj)
  refine ⟨g, hg, fun v => ?_⟩
  obtain ⟨h1, h2⟩ := hs [.int .i64 v] rfl
  have e : 0 + (j : Int).toNat * 1 = j * 1 := by simp
  rw [e]
  rw [map_set1] at h2
  exact ⟨h1, h2⟩
theorem can_drew {w : World} {b o n : Nat} (h : canStore w b o n) : canStore w.drew b o n := h
section
variable {S : List Nat} {w0 w : World} {K : List Chunk} {r st : Nat} {ws : List Int} {L : List B} {k : Nat}
def ResT (r st : Nat) (ws : List Int) (L : List B) (k : Nat) (n : Int) (F : List Nat) (w : World) (e : Ending) (w' : World) : Prop :=
  e = .returned (.tuple #[.int .i64 (resT n L).1, .int .i64 (resT n L).2]) ∧ St F w w' [refC r st (wordsT n L ws) (nextT n L) (k + 1)]
theorem rTake_ {F : List Nat} (hR : St F w w [refC r st ws L k]) (hN : ws.length ≤ 4000) (hk : k ≤ 500000000) (n : Int) : Calls Try.prog 44 #[.pointer (some ⟨r, 0, none⟩), .int .i64 n] w (ResT r st ws L k n F w) := by
  refine Calls.mono (f44.calls (R := fun v w' => v = .tuple #[.int .i64 (resT n L).1, .int .i64 (resT n L).2] ∧ St F w w' [refC r st (wordsT n L ws) (nextT n L) (k + 1)]) ?_) ?_
  · dsimp only [f44.VC]
    have stay : ∀ w', St F w w' [refC r st ws L k] → St F w w' [refC r st ws L (k + 1)] := by
      intro w' h
      obtain ⟨x, k1, k2, k3, hS⟩ := openR h
      exact closeR x k1 k2 (by omega) hS
    refine sel_of (fun hn => ?_) (fun hn => ?_)
    · have hn : n < 1 := by simpa using hn
      have e1 : resT n L = (0, 1) := by unfold resT; rw [if_pos hn]
      have e2 : nextT n L = L := by unfold nextT; rw [if_pos hn]
      have e3 : wordsT n L ws = ws := by unfold wordsT; rw [if_pos hn]
      rw [e1, e2, e3]
      exact ⟨rfl, stay _ hR⟩
    · have hn : ¬ n < 1 := by simpa using hn
      obtain ⟨x, k1, k2, k3, hS⟩ := openR hR
      have hLl := k1.tiled.len
      refine Calls.mono (rBlocks (rdR hS) k1 hN) ?_
      rintro _ w1 ⟨A, m, c, rfl, hB⟩
      have h1 := more hS hB
      have h1R := more hR hB
      refine ⟨_, _, _, rfl, ?_⟩
      have hr := rdB h1 0 rfl
      have hm := hr.1
      refine ⟨fun x7 w2 rr => w2 = w1 ∧ ∃ i : Nat, x7 = (i : Int) ∧ i + rr = m ∧ ∀ j, j < i → ¬ ((L.getD j AR.dB).2.2 = true ∧ n ≤ (L.getD j AR.dB).2.1), ⟨m, rfl, 0, rfl, by omega, fun j hj => by omega⟩, ?_⟩
      rintro d x7 w2 rr ⟨rfl, i, rfl, hir, hno⟩
      refine sel_of (fun hd => ?_) (fun hd => ?_)
      · have hi : i < m := by simpa using hd
        obtain ⟨b, o, hA, hc⟩ := hr.2 (by omega)
        obtain ⟨c1, c2, c3⟩ := hc i hi
        have hi1 : IntKind.i64.wrap ((i : Int) + 1) = ((i + 1 : Nat) : Int) := by rw [i64_id (by omega) (by omega)]; omega
        rw [hi1]
        have e0 : (i : Int).toNat = i := Int.toNat_natCast i
        have skip : ¬ ((L.getD i AR.dB).2.2 = true ∧ n ≤ (L.getD i AR.dB).2.1) → ∀ j, j < i + 1 → ¬ ((L.getD j AR.dB).2.2 = true ∧ n ≤ (L.getD j AR.dB).2.1) := by
          intro h j hj
          rcases Nat.lt_or_ge j i with h2 | h2
          · exact hno j h2
          · have : j = i := by omega
            subst this; exact h
        refine ⟨by omega, by omega, needPtr_of hA ⟨_, by rw [e0]; exact c3, sel_of (fun hb => ?_) (fun hb => ?_)⟩⟩
        · refine ⟨by omega, by omega, needPtr_of hA ⟨_, by rw [e0]; exact c2, sel_of (fun hb2 => ?_) (fun hb2 => ?_)⟩⟩
          · have hb2 : n ≤ (L.getD i AR.dB).2.1 := of_decide_eq_true hb2
            obtain ⟨L', hT⟩ := take_at (by omega) hno hb hb2
            have hmem : L.getD i AR.dB ∈ L := by rw [List.getD_eq_getElem?_getD, List.getElem?_eq_getElem (by omega)]; exact List.getElem_mem _
            obtain ⟨q1, q2, q3⟩ := k1.tiled.mem _ hmem
            obtain ⟨at_, hat⟩ : ∃ a : Nat, (L.getD i AR.dB).1 = (a : Int) := ⟨(L.getD i AR.dB).1.toNat, by omega⟩
            obtain ⟨t, ht⟩ : ∃ t : Nat, n = (t : Int) := ⟨n.toNat, by omega⟩
            have hok := k1.take k2 (by omega) hT
            rw [hat] at hT hok q3 c1
            have hcn : IntKind.i64.wrap (x.cnt + 1) = x.cnt + 1 := i64_id (by omega) (by omega)
            have hS3 := h1.set 1 rfl 3 [.int .i64 (x.cnt + 1)]
            have hcan : canStore w2 r 3 1 := (h1.blk 1 rfl).can (by simp)
            have hcnt : w2.cell? ⟨r, 3, none⟩ = some (.int .i64 x.cnt) := (h1.blk 1 rfl).cell rfl
            refine ⟨_, hcnt, hcan, by omega, by omega, ?_⟩
            rw [hcn]
            generalize setCs w2 r 3 [.int .i64 (x.cnt + 1)] = w3 at *
            have hS3 : St F w w3 [slC (.slice A m c) L, rB r st { x with cnt := x.cnt + 1 }, intsC (.slice x.A1 x.n1 x.c1) (CM.fillN ws at_ 0 0), intsC (.slice x.A2 x.n2 x.c2) (CM.fillN x.of at_ (x.cnt + 1) 0)] := hS3
            obtain ⟨_, _, hA3, hc3⟩ := (rdB hS3 0 rfl).2 (by omega)
            obtain ⟨c31, _, _⟩ := hc3 i hi
            rw [hat] at c31
            refine needPtr_of hA3 ⟨_, by rw [e0]; exact c31, ?_⟩
            refine ⟨fun x8 w' rr => ∃ j : Nat, x8 = ((at_ + j : Nat) : Int) ∧ j + rr = t ∧ St F w w' [slC (.slice A m c) L, rB r st { x with cnt := x.cnt + 1 }, intsC (.slice x.A1 x.n1 x.c1) (CM.fillN ws at_ 0 j), intsC (.slice x.A2 x.n2 x.c2) (CM.fillN x.of at_ (x.cnt + 1) j)],
              ⟨t, 0, by omega, by omega, hS3⟩, ?_⟩
            rintro d2 _ w4 rr2 ⟨j, rfl, hjr, hS4⟩
            obtain ⟨_, _, hA4, hc4⟩ := (rdB hS4 0 rfl).2 (by omega)
            obtain ⟨c41, _, _⟩ := hc4 i hi
            rw [hat] at c41
            have hend : IntKind.i64.wrap ((at_ : Int) + n) = ((at_ + t : Nat) : Int) := by rw [i64_id (by omega) (by omega)]; omega
            refine ⟨by omega, by omega, needPtr_of hA4 ⟨_, by rw [e0]; exact c41, ?_⟩⟩
            rw [hend]
            refine sel_of (fun hj => ?_) (fun hj => ?_)
            · have hj : j < t := by
                have := of_decide_eq_true hj
                omega
              have hol : x.of.length = ws.length := k1.len
              have hj1 : IntKind.i64.wrap (((at_ + j : Nat) : Int) + 1) = ((at_ + (j + 1) : Nat) : Int) := by rw [i64_id (by omega) (by omega)]; omega
              rw [hj1]
              have hn3 : x.n2 = (CM.fillN x.of at_ (x.cnt + 1) j).length := (rdI hS4 3 rfl).1
              rw [CM.fillN_length] at hn3
              obtain ⟨g, hg, hs⟩ := intSet hS4 3 rfl (j := at_ + j) (by rw [CM.fillN_length]; omega)
              obtain ⟨g', hg', hs'⟩ := intSet hS4.drew 3 rfl (j := at_ + j) (by rw [CM.fillN_length]; omega)
              rw [hg] at hg'
              injection hg' with hg'
              injection hg' with hg'
              subst hg'
              have hS5 := (hs' (x.cnt + 1)).2
              refine ⟨x.A2, x.n2, x.c2, (hS4.blk 1 rfl).cell rfl, _, (hS4.blk 1 rfl).cell rfl, by omega, by omega, needPtr_of hg ⟨(hs 0).1, ?_⟩⟩
              generalize setCs w4.drew g (0 + ((at_ + j : Nat) : Int).toNat * 1) [.int .i64 (x.cnt + 1)] = w5 at *
              have hS5 : St F w w5 [slC (.slice A m c) L, rB r st { x with cnt := x.cnt + 1 }, intsC (.slice x.A1 x.n1 x.c1) (CM.fillN ws at_ 0 j), intsC (.slice x.A2 x.n2 x.c2) (CM.fillN x.of at_ (x.cnt + 1) (j + 1))] := hS5
              have hn2 : x.n1 = (CM.fillN ws at_ 0 j).length := (rdI hS5 2 rfl).1
              rw [CM.fillN_length] at hn2
              obtain ⟨g2, hg2, hs2⟩ := intSet hS5 2 rfl (j := at_ + j) (by rw [CM.fillN_length]; omega)
              refine ⟨x.A1, x.n1, x.c1, (hS5.blk 1 rfl).cell rfl, by omega, by omega, needPtr_of hg2 ⟨(hs2 0).1, rfl, rr2 - 1, by omega, j + 1, rfl, by omega, (hs2 0).2⟩⟩
            · have hj : j = t := by
                have := of_decide_eq_false hj
                omega
              subst hj
              have e1 : resT n L = ((at_ : Int), 0) := by unfold resT; rw [if_neg hn, hT]
              have e2 : nextT n L = L' := by unfold nextT; rw [if_neg hn, hT]; rfl
              have e3 : wordsT n L ws = CM.fillN ws at_ 0 j := by unfold wordsT; rw [if_neg hn, hT, ht]; simp
              rw [e1, e2, e3]
              refine ⟨by omega, by omega, needPtr_of hA4 ⟨_, by rw [e0]; exact c41, rfl, ?_⟩⟩
              rw [ht] at hok
              simp only [Int.toNat_natCast] at hok
              refine closeR { x with cnt := x.cnt + 1, of := CM.fillN x.of at_ (x.cnt + 1) j } ?_ ?_ ?_ hS4.tail
              · rw [CM.fillN_length]; exact hok
              · show 0 ≤ x.cnt + 1; omega
              · show x.cnt + 1 ≤ ((k + 1 : Nat) : Int); omega
          · exact ⟨rfl, rr - 1, by omega, rfl, i + 1, rfl, by omega, skip (fun h => of_decide_eq_false hb2 h.2)⟩
        · exact ⟨rfl, rr - 1, by omega, rfl, i + 1, rfl, by omega, skip (fun h => by rw [h.1] at hb; cases hb)⟩
      · have hi : i = m := by
          have : ¬ (i : Int) < (m : Int) := by simpa using hd
          omega
        have hT : takeL n L = none := take_no (fun j hj => hno j (by omega))
        have e1 : resT n L = (0, 150) := by unfold resT; rw [if_neg hn, hT]
        have e2 : nextT n L = L := by unfold nextT; rw [if_neg hn, hT]; rfl
        have e3 : wordsT n L ws = ws := by unfold wordsT; rw [if_neg hn, hT]
        rw [e1, e2, e3]
        exact ⟨rfl, stay _ h1R.tail⟩
  · rintro e w' ⟨v, rfl, rfl, h⟩; exact ⟨rfl, h⟩
theorem rTake (h : St S w0 w K) (i : Nat) (hi : K[i]? = some (refC r st ws L k)) (hN : ws.length ≤ 4000) (hk : k ≤ 500000000) (n : Int) :
    Calls Try.prog 44 #[.pointer (some ⟨r, 0, none⟩), .int .i64 n] w fun e w' => e = .returned (.tuple #[.int .i64 (resT n L).1, .int .i64 (resT n L).2]) ∧ St S w0 w' (K.set i (refC r st (wordsT n L ws) (nextT n L) (k + 1))) :=
  use1 h i hi (fun F hF => rTake_ hF hN hk n)
theorem rGive_ {F : List Nat} (hR : St F w w [refC r st ws L k]) (hN : ws.length ≤ 4000) (addr : Int) : Calls Try.prog 42 #[.pointer (some ⟨r, 0, none⟩), .int .i64 addr] w
    fun e w' => e = .returned (.int .i64 (resG addr L)) ∧ St F w w' [refC r st (wordsG addr L ws) (nextG addr L) k] := by
  refine Calls.mono (f42.calls (R := fun v w' => v = .int .i64 (resG addr L) ∧ St F w w' [refC r st (wordsG addr L ws) (nextG addr L) k]) ?_) ?_
  · dsimp only [f42.VC]
    obtain ⟨x, k1, k2, k3, hS⟩ := openR hR
    have hLl := k1.tiled.len
    refine Calls.mono (rBlocks (rdR hS) k1 hN) ?_
    rintro _ w1 ⟨A, m, c, rfl, hB⟩
    have h1 := more hS hB
    have h1R := more hR hB
    refine ⟨_, _, _, rfl, ?_⟩
    have hr := rdB h1 0 rfl
    have hm := hr.1
    refine ⟨fun x7 w2 rr => w2 = w1 ∧ ∃ i : Nat, x7 = (i : Int) ∧ i + rr = m ∧ ∀ j, j < i → ¬ ((L.getD j AR.dB).1 = addr ∧ (L.getD j AR.dB).2.2 = false), ⟨m, rfl, 0, rfl, by omega, fun j hj => by omega⟩, ?_⟩
    rintro d x7 w2 rr ⟨rfl, i, rfl, hir, hno⟩
    refine sel_of (fun hd => ?_) (fun hd => ?_)
    · have hi : i < m := by simpa using hd
      obtain ⟨b, o, hA, hc⟩ := hr.2 (by omega)
      obtain ⟨c1, c2, c3⟩ := hc i hi
      have hi1 : IntKind.i64.wrap ((i : Int) + 1) = ((i + 1 : Nat) : Int) := by rw [i64_id (by omega) (by omega)]; omega
      rw [hi1]
      have e0 : (i : Int).toNat = i := Int.toNat_natCast i
      have skip : ¬ ((L.getD i AR.dB).1 = addr ∧ (L.getD i AR.dB).2.2 = false) → ∀ j, j < i + 1 → ¬ ((L.getD j AR.dB).1 = addr ∧ (L.getD j AR.dB).2.2 = false) := by
        intro h j hj
        rcases Nat.lt_or_ge j i with h2 | h2
        · exact hno j h2
        · have : j = i := by omega
          subst this; exact h
      refine ⟨by omega, by omega, needPtr_of hA ⟨_, by rw [e0]; exact c1, sel_of (fun hb => ?_) (fun hb => ?_)⟩⟩
      · have hb : (L.getD i AR.dB).1 = addr := eq_of_beq hb
        refine ⟨by omega, by omega, needPtr_of hA ⟨_, by rw [e0]; exact c3, sel_of (fun hb2 => ?_) (fun hb2 => ?_)⟩⟩
        · have hb2 : (L.getD i AR.dB).2.2 = false := by simpa using hb2
          obtain ⟨L', hG⟩ := give_at (by omega) hno hb2 hb
          have hmem : L.getD i AR.dB ∈ L := by rw [List.getD_eq_getElem?_getD, List.getElem?_eq_getElem (by omega)]; exact List.getElem_mem _
          obtain ⟨q1, q2, q3⟩ := k1.tiled.mem _ hmem
          obtain ⟨at_, hat⟩ : ∃ a : Nat, addr = (a : Int) := ⟨addr.toNat, by omega⟩
          obtain ⟨t, ht⟩ : ∃ t : Nat, (L.getD i AR.dB).2.1 = (t : Int) := ⟨(L.getD i AR.dB).2.1.toNat, by omega⟩
          have hok := k1.give hG
          have hS3 : St F w w2 [slC (.slice A m c) L, rB r st x, intsC (.slice x.A1 x.n1 x.c1) (CM.fillN ws at_ POISON 0), intsC (.slice x.A2 x.n2 x.c2) (CM.fillN x.of at_ 0 0)] := h1
          refine ⟨fun x8 w' rr => ∃ j : Nat, x8 = ((at_ + j : Nat) : Int) ∧ j + rr = t ∧ St F w w' [slC (.slice A m c) L, rB r st x, intsC (.slice x.A1 x.n1 x.c1) (CM.fillN ws at_ POISON j), intsC (.slice x.A2 x.n2 x.c2) (CM.fillN x.of at_ 0 j)],
            ⟨t, 0, by omega, by omega, hS3⟩, ?_⟩
          rintro d2 _ w4 rr2 ⟨j, rfl, hjr, hS4⟩
          obtain ⟨_, _, hA4, hc4⟩ := (rdB hS4 0 rfl).2 (by omega)
          obtain ⟨_, c41, _⟩ := hc4 i hi
          have hend : IntKind.i64.wrap (addr + (L.getD i AR.dB).2.1) = ((at_ + t : Nat) : Int) := by rw [i64_id (by omega) (by omega)]; omega
          refine ⟨by omega, by omega, needPtr_of hA4 ⟨_, by rw [e0]; exact c41, ?_⟩⟩
          rw [hend]
          refine sel_of (fun hj => ?_) (fun hj => ?_)
          · have hj : j < t := by
              have := of_decide_eq_true hj
              omega
            have hol : x.of.length = ws.length := k1.len
            have hj1 : IntKind.i64.wrap (((at_ + j : Nat) : Int) + 1) = ((at_ + (j + 1) : Nat) : Int) := by rw [i64_id (by omega) (by omega)]; omega
            rw [hj1]
            have hn3 := (rdI hS4 3 rfl).1
            rw [CM.fillN_length] at hn3
            obtain ⟨g, hg, hs⟩ := intSet hS4 3 rfl (j := at_ + j) (by rw [CM.fillN_length]; omega)
            have hS5 := (hs 0).2
            refine ⟨_, _, _, (hS4.blk 1 rfl).cell rfl, by omega, by omega, needPtr_of hg ⟨(hs 0).1, ?_⟩⟩
            generalize setCs w4 g (0 + ((at_ + j : Nat) : Int).toNat * 1) [.int .i64 0] = w5 at *
            have hS5 : St F w w5 [slC (.slice A m c) L, rB r st x, intsC (.slice x.A1 x.n1 x.c1) (CM.fillN ws at_ POISON j), intsC (.slice x.A2 x.n2 x.c2) (CM.fillN x.of at_ 0 (j + 1))] := hS5
            have hn2 := (rdI hS5 2 rfl).1
            rw [CM.fillN_length] at hn2
            obtain ⟨g2, hg2, hs2⟩ := intSet hS5 2 rfl (j := at_ + j) (by rw [CM.fillN_length]; omega)
            refine ⟨_, _, _, (hS5.blk 1 rfl).cell rfl, by omega, by omega, needPtr_of hg2 ⟨(hs2 0).1, rfl, rr2 - 1, by omega, j + 1, rfl, by omega, (hs2 POISON).2⟩⟩
          · have hj : j = t := by
              have := of_decide_eq_false hj
              omega
            subst hj
            have e1 : resG addr L = 0 := by unfold resG; rw [hG]
            have e2 : nextG addr L = coal none L' := by unfold nextG; rw [hG]
            have e3 : wordsG addr L ws = CM.fillN ws at_ POISON j := by unfold wordsG; rw [hG, hat, ht]; simp
            rw [e1, e2, e3]
            refine ⟨rfl, ?_⟩
            rw [hat, ht] at hok
            simp only [Int.toNat_natCast] at hok
            refine closeR { x with of := CM.fillN x.of at_ 0 j } ?_ k2 k3 hS4.tail
            rw [CM.fillN_length]; exact hok
        · exact ⟨rfl, rr - 1, by omega, rfl, i + 1, rfl, by omega, skip (fun h => by rw [h.2] at hb2; cases hb2)⟩
      · exact ⟨rfl, rr - 1, by omega, rfl, i + 1, rfl, by omega, skip (fun h => beq_eq_false_iff_ne.1 hb h.1)⟩
    · have hi : i = m := by
        have : ¬ (i : Int) < (m : Int) := by simpa using hd
        omega
      have hG : giveL addr L = none := give_no (fun j hj => hno j (by omega))
      have e1 : resG addr L = 151 := by unfold resG; rw [hG]
      have e2 : nextG addr L = L := by unfold nextG; rw [hG]
      have e3 : wordsG addr L ws = ws := by unfold wordsG; rw [hG]
      rw [e1, e2, e3]
      exact ⟨rfl, h1R.tail⟩
  · rintro e w' ⟨v, rfl, rfl, h⟩; exact ⟨rfl, h⟩
theorem rGive (h : St S w0 w K) (i : Nat) (hi : K[i]? = some (refC r st ws L k)) (hN : ws.length ≤ 4000) (addr : Int) :
    Calls Try.prog 42 #[.pointer (some ⟨r, 0, none⟩), .int .i64 addr] w fun e w' => e = .returned (.int .i64 (resG addr L)) ∧ St S w0 w' (K.set i (refC r st (wordsG addr L ws) (nextG addr L) k)) :=
  use1 h i hi (fun F hF => rGive_ hF hN addr)
theorem rNew (h : St S w0 w K) {N : Nat} (hst : st < N) (hN : N ≤ 4000) :
    Calls Try.prog 39 #[.int .i64 (N : Int), .int .i64 (st : Int)] w fun e w' => ∃ r, e = .returned (.tuple #[.pointer (some ⟨r, 0, none⟩), .int .i64 0]) ∧ St S w0 w' (refC r st (List.replicate N 0) [((st : Int), ((N - st : Nat) : Int), true)] 0 :: K) := by
  refine Calls.mono (f39.calls (R := fun v w' => ∃ r, v = .tuple #[.pointer (some ⟨r, 0, none⟩), .int .i64 0] ∧ St S w0 w' (refC r st (List.replicate N 0) [((st : Int), ((N - st : Nat) : Int), true)] 0 :: K)) ?_) ?_
  · dsimp only [f39.VC]
    refine sel_false (by simp) (sel_false (by simp; omega) ?_)
    have hS := (((h.nil 3 1).nil 3 1).alloc #[.int .i64 (st : Int), .slice none 0 0, .slice none 0 0, .int .i64 0] 110)
    generalize World.alloc w (.cells #[.int .i64 (st : Int), .slice none 0 0, .slice none 0 0, .int .i64 0] 110) = w1 at *
    generalize w.heap.size = r at *
    refine ⟨fun x w' rr => ∃ (i : Nat) (A1 A2 : Option Addr) (n1 c1 n2 c2 : Nat), x = (i : Int) ∧ i + rr = N ∧ St S w0 w' (rB r st ⟨A1, n1, c1, A2, n2, c2, List.replicate i 0, 0⟩ :: intsC (.slice A1 n1 c1) (List.replicate i 0) :: intsC (.slice A2 n2 c2) (List.replicate i 0) :: K), ⟨N, 0, none, none, 0, 0, 0, 0, rfl, by omega, hS⟩, ?_⟩
    rintro d x w2 rr ⟨i, A1, A2, n1, c1, n2, c2, rfl, hir, hS⟩
    refine sel_of (fun hd => ?_) (fun hd => ?_)
    · have hi : i < N := by
        have := of_decide_eq_true hd
        omega
      have hi1 : IntKind.i64.wrap ((i : Int) + 1) = ((i + 1 : Nat) : Int) := by rw [i64_id (by omega) (by omega)]; omega
      rw [hi1]
      have e : (List.replicate (i + 1) (0 : Int)).map (fun x => [Value.int .i64 x]) = (List.replicate i (0 : Int)).map (fun x => [Value.int .i64 x]) ++ [[.int .i64 0]] := by simp [List.replicate_succ']
      have e1 : ((List.replicate i (0 : Int)).map (fun x => [Value.int .i64 x])).length = i := by simp
      obtain ⟨ti, i1, i2, i3, i4⟩ := CM.info3
      have hS3 := hS.alloc #[.int .i64 0] 3
      obtain ⟨g', cap', w4, hrun, hS4⟩ := hS3.append (P := Try.prog) (ty := 23) (r := [.int .i64 0]) 2 CM.under23 i1 i2 i3 rfl (by decide) rfl (hS3.blk 0 rfl) rfl rfl (by intro u hu; simp at hu; subst hu; rfl) (by rw [i4]; simp; omega) (by simp [maxLen]; omega)
      refine ⟨_, _, _, (hS.blk 0 rfl).cell rfl, _, _, _, _, hrun, ?_⟩
      have hS4 : St S w0 w4 (rB r st ⟨A1, n1, c1, A2, n2, c2, List.replicate i 0, 0⟩ :: intsC (.slice (some ⟨g', 0, none⟩) (i + 1) cap') (List.replicate (i + 1) 0) :: intsC (.slice A2 n2 c2) (List.replicate i 0) :: K) := by
        have := hS4.tail
        rw [e1, ← e] at this
        exact this
      rw [e1]
      refine ⟨(hS4.blk 0 rfl).can (by simp), ?_⟩
      have hS5 := hS4.set 0 rfl 1 [.slice (some ⟨g', 0, none⟩) (i + 1) cap']
      generalize setCs w4 r 1 [.slice (some ⟨g', 0, none⟩) (i + 1) cap'] = w5 at *
      have hS5 : St S w0 w5 (rB r st ⟨some ⟨g', 0, none⟩, i + 1, cap', A2, n2, c2, List.replicate i 0, 0⟩ :: intsC (.slice (some ⟨g', 0, none⟩) (i + 1) cap') (List.replicate (i + 1) 0) :: intsC (.slice A2 n2 c2) (List.replicate i 0) :: K) := hS5
      have hS6 := hS5.alloc #[.int .i64 0] 3
      obtain ⟨g2, cap2, w7, hrun2, hS7⟩ := hS6.append (P := Try.prog) (ty := 23) (r := [.int .i64 0]) 3 CM.under23 i1 i2 i3 rfl (by decide) rfl (hS6.blk 0 rfl) rfl rfl (by intro u hu; simp at hu; subst hu; rfl) (by rw [i4]; simp; omega) (by simp [maxLen]; omega)
      refine ⟨_, _, _, (hS5.blk 0 rfl).cell rfl, _, _, _, _, hrun2, ?_⟩
      have hS7 : St S w0 w7 (rB r st ⟨some ⟨g', 0, none⟩, i + 1, cap', A2, n2, c2, List.replicate i 0, 0⟩ :: intsC (.slice (some ⟨g', 0, none⟩) (i + 1) cap') (List.replicate (i + 1) 0) :: intsC (.slice (some ⟨g2, 0, none⟩) (i + 1) cap2) (List.replicate (i + 1) 0) :: K) := by
        have := hS7.tail
        rw [e1, ← e] at this
        exact this
      rw [e1]
      refine ⟨(hS7.blk 0 rfl).can (by simp), rfl, rr - 1, by omega, i + 1, some ⟨g', 0, none⟩, some ⟨g2, 0, none⟩, i + 1, cap', i + 1, cap2, rfl, by omega, ?_⟩
      exact hS7.set 0 rfl 2 [.slice (some ⟨g2, 0, none⟩) (i + 1) cap2]
    · have hi : i = N := by
        have := of_decide_eq_false hd
        omega
      subst hi
      exact ⟨r, rfl, closeR ⟨A1, n1, c1, A2, n2, c2, List.replicate i 0, 0⟩ (by rw [List.length_replicate]; exact OkR.new hst) (Int.le_refl 0) (by simp) hS⟩
  · rintro e w' ⟨v, rfl, r, rfl, h⟩; exact ⟨_, rfl, h⟩
end
/-- Two lists of pieces, alike. -/
theorem sameC {w : World} {A A' : Option Addr} {n c n' c' : Nat} {L : List B} (h : RdB w A n L) (h' : RdB w A' n' L) (hl : L.length ≤ 4000) : Calls Try.prog 46 #[.slice A n c, .slice A' n' c'] w fun e w' => e = .returned (.bool true) ∧ Fr [] w w' := by
  refine Calls.mono (f46.calls (R := fun v w' => v = .bool true ∧ Fr [] w w') ?_) ?_
  · dsimp only [f46.VC]
    have hn := h.1
    have hn' := h'.1
    refine sel_false (by simp; omega) ⟨fun x w1 r => ∃ i : Nat, x = (i : Int) ∧ i + r = n ∧ Fr [] w w1, ⟨n, 0, rfl, by omega, Fr.refl [] _⟩, ?_⟩
    rintro d x w1 r ⟨i, rfl, hr, hf⟩
    refine sel_of (fun hd => ?_) (fun hd => ⟨rfl, hf⟩)
    have hi : i < n := by simpa using hd
    obtain ⟨b, o, rfl, hc⟩ := h.2 (by omega)
    obtain ⟨b', o', rfl, hc'⟩ := h'.2 (by omega)
    obtain ⟨c1, c2, c3⟩ := hc i hi
    obtain ⟨d1, d2, d3⟩ := hc' i (by omega)
    have hi1 : IntKind.i64.wrap ((i : Int) + 1) = ((i + 1 : Nat) : Int) := by rw [i64_id (by omega) (by omega)]; omega
    have e0 : (i : Int).toNat = i := Int.toNat_natCast i
    rw [hi1]
    refine ⟨by omega, by omega, needPtr_of rfl ⟨by omega, by omega, needPtr_of rfl ⟨_, by rw [e0]; exact hf.cell c1, _, by rw [e0]; exact hf.cell c2, _, by rw [e0]; exact hf.cell c3, _, by rw [e0]; exact hf.cell d1, _, by rw [e0]; exact hf.cell d2, _, by rw [e0]; exact hf.cell d3, _, neqB _ _ _ _ _ _ _ _, ?_⟩⟩⟩
    refine sel_false (by simp) ⟨rfl, r - 1, by omega, i + 1, rfl, by omega, hf.drew⟩
  · rintro e w' ⟨v, rfl, rfl, h⟩; exact ⟨rfl, h⟩
end RA
end Go.Proofs.Ytebahglmdifmpaa
