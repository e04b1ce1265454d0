/- The document's arena: of each word the piece to which it belongs; what its Blocks read out of it. -/
import Derived.Test.YtebahglmdifmpaaP2
import Derived.Test.YtebahglmdifmpaaV11
set_option linter.unusedVariables false
set_option linter.unusedSimpArgs false
set_option maxRecDepth 10000
namespace Go.Proofs.Ytebahglmdifmpaa
open Go Go.Proofs.Ytebahglmdifmpaa.Vc
namespace RA
open PA
/-- The marks say the pieces. -/
structure Mk (of : List Int) (cnt : Int) (L : List B) : Prop where
  free : ∀ b ∈ L, b.2.2 = true → ∀ p : Nat, b.1 ≤ p → p < b.1 + b.2.1 → of.getD p 0 = 0
  out : ∀ b ∈ L, b.2.2 = false → ∃ m : Int, 1 ≤ m ∧ m ≤ cnt ∧ ∀ p : Nat, b.1 ≤ p → p < b.1 + b.2.1 → of.getD p 0 = m
  dist : ∀ x ∈ L, ∀ y ∈ L, x.2.2 = false → y.2.2 = false → of.getD x.1.toNat 0 = of.getD y.1.toNat 0 → x.1 = y.1
structure OkR (st N : Nat) (of : List Int) (cnt : Int) (L : List B) : Prop where
  lt : st < N
  len : of.length = N
  tiled : Tiled st N L
  apart : Apart L
  marks : Mk of cnt L
theorem tiled_app : ∀ {L1 L2 : List B} {a e : Int}, Tiled a e (L1 ++ L2) → ∃ q, Tiled a q L1 ∧ Tiled q e L2
  | [], L2, a, e, h => ⟨a, rfl, h⟩
  | x :: L1, L2, a, e, ⟨h1, h2, h3⟩ => by
    obtain ⟨q, k1, k2⟩ := tiled_app h3
    exact ⟨q, ⟨h1, h2, k1⟩, k2⟩
theorem app_tiled : ∀ {L1 L2 : List B} {a q e : Int}, Tiled a q L1 → Tiled q e L2 → Tiled a e (L1 ++ L2)
  | [], L2, a, q, e, h1, h2 => by have h1 : a = q := h1; subst h1; exact h2
  | x :: L1, L2, a, q, e, ⟨h1, h2, h3⟩, k => ⟨h1, h2, app_tiled h3 k⟩
theorem apart_mid : ∀ {L1 L2 : List B} {x y : B}, Apart (L1 ++ x :: y :: L2) → ¬ (x.2.2 = true ∧ y.2.2 = true)
  | [], _, _, _, h => h.1
  | a :: L1, L2, x, y, h => apart_mid (L1 := L1) (by
      rw [List.cons_append] at h
      exact h.tail)
/-- One mark throughout a piece. -/
theorem Mk.same {of : List Int} {cnt : Int} {L : List B} (h : Mk of cnt L) {b : B} (hb : b ∈ L) (h0 : 0 ≤ b.1) {p : Nat} (h1 : b.1 ≤ p) (h2 : p < b.1 + b.2.1) : of.getD p 0 = of.getD b.1.toNat 0 := by
  cases hf : b.2.2 with
  | true => rw [h.free b hb hf p h1 h2, h.free b hb hf b.1.toNat (by omega) (by omega)]
  | false =>
    obtain ⟨m, _, _, k⟩ := h.out b hb hf
    rw [k p h1 h2, k b.1.toNat (by omega) (by omega)]
theorem Mk.zero {of : List Int} {cnt : Int} {L : List B} (h : Mk of cnt L) {b : B} (hb : b ∈ L) (h0 : 0 ≤ b.1) (h1 : 1 ≤ b.2.1) : (of.getD b.1.toNat 0 == 0) = b.2.2 := by
  cases hf : b.2.2 with
  | true => rw [h.free b hb hf _ (by omega) (by omega)]; rfl
  | false =>
    obtain ⟨m, k1, _, k⟩ := h.out b hb hf
    rw [k _ (by omega) (by omega)]
    simp; omega
/-- Where a piece begins behind another, the marks differ. -/
theorem OkR.edge {st N : Nat} {of : List Int} {cnt : Int} {L1 L2 : List B} {x y : B} (h : OkR st N of cnt (L1 ++ x :: y :: L2)) : of.getD (y.1.toNat - 1) 0 ≠ of.getD y.1.toNat 0 := by
  obtain ⟨q, t1, t2, t3, t4⟩ := tiled_app h.tiled
  obtain ⟨t5, t6, _⟩ := t4
  have hq := t1.le
  have hx : x ∈ L1 ++ x :: y :: L2 := by simp
  have hy : y ∈ L1 ++ x :: y :: L2 := by simp
  have e := h.marks.same hx (by omega) (p := y.1.toNat - 1) (by omega) (by omega)
  rw [e]
  intro he
  have zx := h.marks.zero hx (by omega) t3
  have zy := h.marks.zero hy (by omega) t6
  rw [he] at zx
  have hxy : x.2.2 = y.2.2 := by rw [← zx, ← zy]
  cases hf : x.2.2 with
  | true => exact apart_mid h.apart ⟨hf, by rw [← hxy]; exact hf⟩
  | false =>
    have := h.marks.dist x hx y hy hf (by rw [← hxy]; exact hf) he
    omega
section
variable {w : World} {r : Nat} {st N : Nat} {A : Option Addr} {n c : Nat} {of : List Int}
/-- The document's arena, to be read. -/
structure Rd (w : World) (r st : Nat) (A : Option Addr) (n c : Nat) (of : List Int) : Prop where
  from_ : w.cell? ⟨r, 0, none⟩ = some (.int .i64 (st : Int))
  sl : w.cell? ⟨r, 2, none⟩ = some (.slice A n c)
  of : RdI w A n of
theorem RdI.fr {w' : World} {l : List Int} (h : RdI w A n l) (hf : Fr [] w w') : RdI w' A n l := by
  refine ⟨h.1, fun hn => ?_⟩
  obtain ⟨b, o, rfl, h2⟩ := h.2 hn
  exact ⟨b, o, rfl, fun i hi => hf.cell (h2 i hi)⟩
theorem Rd.fr {w' : World} (h : Rd w r st A n c of) (hf : Fr [] w w') : Rd w' r st A n c of := ⟨hf.cell h.from_, hf.cell h.sl, RdI.fr h.of hf⟩
def bg (st : Nat) (of : List Int) (i : Nat) : Bool := decide (i = st) || (decide (st < i) && (of.getD i 0 != of.getD (i - 1) 0))
theorem beginsC (h : Rd w r st A n c of) (i : Nat) (hi : i < n) (hn : n ≤ 4000) : Calls Try.prog 79 #[.pointer (some ⟨r, 0, none⟩), .int .i64 (i : Int)] w fun e w' => e = .returned (.bool (bg st of i)) ∧ Fr [] w w' := by
  refine Calls.mono (f79.calls (R := fun v w' => v = .bool (bg st of i) ∧ Fr [] w w') ?_) ?_
  · dsimp only [f79.VC]
    have hd := (Fr.refl [] w).drew
    refine ⟨_, h.from_, sel_of (fun hb => ?_) (fun hb => ⟨_, h.from_, sel_of (fun hb2 => ?_) (fun hb2 => ?_)⟩)⟩
    · have : i = st := by
        have := eq_of_beq hb
        omega
      exact ⟨by simp [bg, this], hd⟩
    · have h1 : st < i := by simpa using hb2
      have hn1 : i - 1 < n := by omega
      obtain ⟨b, o, hA, hc⟩ := h.of.2 (by omega)
      refine ⟨_, _, _, h.sl, sel_true (by simp; omega) ⟨_, _, _, h.sl, by omega, by omega, needPtr_of hA ⟨_, by rw [Int.toNat_natCast]; exact hc i hi, _, _, _, h.sl, ?_⟩⟩⟩
      have e : IntKind.i64.wrap ((i : Int) - 1) = ((i - 1 : Nat) : Int) := by rw [i64_id (by omega) (by omega)]; omega
      rw [e]
      refine ⟨by omega, by omega, needPtr_of hA ⟨_, by rw [Int.toNat_natCast]; exact hc (i - 1) hn1, ?_, hd⟩⟩
      simp [bg, h1, Nat.ne_of_gt h1]
    · have h1 : ¬ st < i := by simpa using hb2
      have h2 : i ≠ st := by
        rintro rfl
        simp at hb
      exact ⟨by simp [bg, h1, h2], hd⟩
  · rintro e w' ⟨v, rfl, rfl, h⟩; exact ⟨rfl, h⟩
theorem sizeR (h : Rd w r st A n c of) (hn : n ≤ 4000) (i s : Nat) (hs : 1 ≤ s) (his : i + s ≤ n) (hsame : ∀ p, i ≤ p → p < i + s → of.getD p 0 = of.getD i 0) (hend : i + s = n ∨ of.getD (i + s) 0 ≠ of.getD i 0) :
    Calls Try.prog 80 #[.pointer (some ⟨r, 0, none⟩), .int .i64 (i : Int)] w fun e w' => e = .returned (.int .i64 (s : Int)) ∧ Fr [] w w' := by
  refine Calls.mono (f80.calls (R := fun v w' => v = .int .i64 (s : Int) ∧ Fr [] w w') ?_) ?_
  · dsimp only [f80.VC]
    refine ⟨fun x w' rr => ∃ k : Nat, x = (k : Int) ∧ 1 ≤ k ∧ k + rr = s ∧ Fr [] w w', ⟨s - 1, 1, rfl, by omega, by omega, Fr.refl _ _⟩, ?_⟩
    rintro d x w1 rr ⟨k, rfl, hk1, hk2, hf⟩
    have h1 := h.fr hf
    have e : IntKind.i64.wrap ((i : Int) + (k : Int)) = ((i + k : Nat) : Int) := by rw [i64_id (by omega) (by omega)]; omega
    have ek : IntKind.i64.wrap ((k : Int) + 1) = ((k + 1 : Nat) : Int) := by rw [i64_id (by omega) (by omega)]; omega
    obtain ⟨b, o, hA, hc⟩ := h1.of.2 (by omega)
    rw [e, ek]
    refine ⟨_, _, _, h1.sl, sel_of (fun hd => ?_) (fun hd => ?_)⟩
    · have hlt : i + k < n := by
        have := of_decide_eq_true hd
        omega
      refine ⟨_, _, _, h1.sl, by omega, by omega, needPtr_of hA ⟨_, by rw [Int.toNat_natCast]; exact hc (i + k) hlt, _, _, _, h1.sl, by omega, by omega, needPtr_of hA ⟨_, by rw [Int.toNat_natCast]; exact hc i (by omega), sel_of (fun hq => ?_) (fun hq => ?_)⟩⟩⟩
      · have hq : of.getD (i + k) 0 = of.getD i 0 := eq_of_beq hq
        have : k < s := by
          rcases Nat.lt_or_ge k s with h | h
          · exact h
          · have : k = s := by omega
            subst this
            rcases hend with h | h
            · omega
            · exact absurd hq h
        exact ⟨rfl, rr - 1, by omega, k + 1, rfl, by omega, by omega, hf.drew⟩
      · have hq : of.getD (i + k) 0 ≠ of.getD i 0 := beq_eq_false_iff_ne.1 hq
        have : k = s := by
          rcases Nat.lt_or_ge k s with h | h
          · exact absurd (hsame (i + k) (by omega) (by omega)) hq
          · omega
        subst this
        exact ⟨rfl, hf.drew⟩
    · have : k = s := by
        have := of_decide_eq_false hd
        omega
      subst this
      exact ⟨rfl, hf.drew⟩
  · rintro e w' ⟨v, rfl, rfl, h⟩; exact ⟨rfl, h⟩
end
/-- What is asked anew lies beside what there is. -/
theorem more {S : List Nat} {w0 w w' : World} {K : List Chunk} (h : St S w0 w K) {ch : Chunk} (g : St [] w w' [ch]) : St S w0 w' (ch :: K) := by
  obtain ⟨F', h1, h2, h3⟩ := g.one
  exact h.new h2 h1 (fun x hx => (h3 x hx).resolve_left (by simp))
theorem rBlocks {w : World} {r st N : Nat} {A : Option Addr} {n c : Nat} {of : List Int} {cnt : Int} {L : List B} (h : Rd w r st A n c of) (hO : OkR st N of cnt L) (hN : N ≤ 4000) :
    Calls Try.prog 47 #[.pointer (some ⟨r, 0, none⟩)] w fun e w' => ∃ A' n' c', e = .returned (.slice A' n' c') ∧ St [] w w' [slC (.slice A' n' c') L] := by
  refine Calls.mono (f47.calls (R := fun v w' => ∃ A' n' c', v = .slice A' n' c' ∧ St [] w w' [slC (.slice A' n' c') L]) ?_) ?_
  · dsimp only [f47.VC]
    have hn : n = N := by rw [h.of.1, hO.len]
    subst hn
    refine ⟨_, h.from_, fun A3 n3 c3 x w' rr => ∃ (i q : Nat) (L1 L2 : List B), x = (i : Int) ∧ i + rr = n ∧ i ≤ q ∧ L = L1 ++ L2 ∧ Tiled st q L1 ∧ Tiled q n L2 ∧ (∀ p, i ≤ p → p < q → st < p ∧ of.getD p 0 = of.getD (p - 1) 0) ∧ St [] w w' [slC (.slice A3 n3 c3) L1],
      ⟨n - st, st, st, [], L, rfl, by have := hO.lt; omega, by omega, rfl, rfl, hO.tiled, fun p h1 h2 => by omega, (St.start w).nil 96 3⟩, ?_⟩
    rintro d A3 n3 c3 x w1 rr ⟨i, q, L1, L2, rfl, hir, hiq, hL, t1, t2, hp, hS⟩
    have h1 := h.fr hS.frame
    have hq1 := t1.le
    have hq2 := t2.le
    refine ⟨_, _, _, h1.sl, sel_of (fun hd => ?_) (fun hd => ?_)⟩
    · have hi : i < n := by simpa using hd
      have hi1 : IntKind.i64.wrap ((i : Int) + 1) = ((i + 1 : Nat) : Int) := by rw [i64_id (by omega) (by omega)]; omega
      rw [hi1]
      refine Calls.mono (hS.step0 (beginsC h1 i hi hN)) ?_
      rintro _ w2 ⟨rfl, hS2⟩
      have h2 := h.fr hS2.frame
      refine ⟨_, rfl, ?_⟩
      by_cases hiq2 : i = q
      · subst hiq2
        match L2, t2 with
        | [], t2 =>
          have : (i : Int) = (n : Int) := t2
          omega
        | y :: L2', ⟨y1, y2, y3⟩ =>
          have hle := y3.le
          have hym : y ∈ L := by rw [hL]; simp
          have hb : bg st of i = true := by
            unfold bg
            by_cases h0 : i = st
            · simp [h0]
            · have hlt : st < i := by omega
              rcases List.eq_nil_or_concat L1 with rfl | ⟨L1', x, rfl⟩
              · have : (st : Int) = (i : Int) := t1
                omega
              · have hL' : L = L1' ++ x :: y :: L2' := by rw [hL]; simp
                have hed := (hL' ▸ hO : OkR st n of cnt (L1' ++ x :: y :: L2')).edge
                have e : y.1.toNat = i := by omega
                rw [e] at hed
                have : (of.getD i 0 != of.getD (i - 1) 0) = true := bne_iff_ne.2 (Ne.symm hed)
                rw [this]
                simp [hlt]
          obtain ⟨s, hs⟩ : ∃ s : Nat, y.2.1 = (s : Int) := ⟨y.2.1.toNat, by omega⟩
          have hsame : ∀ p : Nat, i ≤ p → p < i + s → of.getD p 0 = of.getD i 0 := by
            intro p hp1 hp2
            have := hO.marks.same hym (by omega) (p := p) (by omega) (by omega)
            rw [this]
            congr 1; omega
          have hend : i + s = n ∨ of.getD (i + s) 0 ≠ of.getD i 0 := by
            match L2', y3 with
            | [], y3 =>
              have : (i : Int) + y.2.1 = (n : Int) := y3
              exact .inl (by omega)
            | z :: L3, ⟨z1, z2, z3⟩ =>
              have hL' : L = L1 ++ y :: z :: L3 := hL
              have hed := (hL' ▸ hO : OkR st n of cnt (L1 ++ y :: z :: L3)).edge
              have e : z.1.toNat = i + s := by omega
              rw [e, hsame (i + s - 1) (by omega) (by omega)] at hed
              exact .inr (Ne.symm hed)
          have hz : (of.getD i 0 == 0) = y.2.2 := by
            have := hO.marks.zero hym (by omega) y2
            rw [show y.1.toNat = i by omega] at this
            exact this
          rw [hb]
          have hsz : ∀ w2, St [] w w2 [slC (.slice A3 n3 c3) L1] → Calls Try.prog 80 #[.pointer (some ⟨r, 0, none⟩), .int .i64 (i : Int)] w2.drew fun e w' => e = .returned (.int .i64 (s : Int)) ∧ St [] w w' [slC (.slice A3 n3 c3) L1] :=
            fun w2 hS2 => hS2.drew.step0 (sizeR (h.fr hS2.drew.frame) hN i s (by omega) (by omega) hsame hend)
          have fin : ∀ w3, St [] w w3 [slC (.slice A3 n3 c3) L1] → ∃ (A38 : Option Addr) (n38 c38 : Nat) (w5 : World), (Builtin.append_ #[83, 83] 83 #[.slice A3 n3 c3, .slice (some ⟨w3.heap.size, 0, none⟩) 1 1]).run Try.prog (World.alloc w3 (.cells #[.int .i64 (i : Int), .int .i64 (s : Int), .bool ((of.getD i 0 : Int) == (0 : Int))] 96)) = .ok (.slice A38 n38 c38) w5 ∧
              ∃ m, m < rr ∧ ∃ (i' q : Nat) (L1 L2 : List B), ((i + 1 : Nat) : Int) = (i' : Int) ∧ i' + m = n ∧ i' ≤ q ∧ L = L1 ++ L2 ∧ Tiled st q L1 ∧ Tiled q n L2 ∧ (∀ p, i' ≤ p → p < q → st < p ∧ of.getD p 0 = of.getD (p - 1) 0) ∧ St [] w w5 [slC (.slice A38 n38 c38) L1] := by
            intro w3 hS3
            have hS4 := hS3.alloc #[.int .i64 (i : Int), .int .i64 (s : Int), .bool ((of.getD i 0 : Int) == (0 : Int))] 96
            obtain ⟨bi, b1, b2, b3, b4⟩ := AR.info96
            have hLl := t1.len
            obtain ⟨g', cap', w', hrun, hS5⟩ := hS4.append (P := Try.prog) (ty := 83) (r := AR.encB y) 1 AR.under83 b1 b2 b3 rfl (by decide) rfl (hS4.blk 0 rfl) (by
              rw [hz, AR.encB, y1, hs]) rfl (by intro u hu; simp [AR.encB] at hu; rcases hu with rfl | rfl | rfl <;> rfl) (by rw [b4]; simp; omega) (by simp [maxLen]; omega)
            refine ⟨_, _, _, _, hrun, rr - 1, by omega, i + 1, i + s, L1 ++ [y], L2', rfl, by omega, by omega, by rw [hL]; simp, app_tiled t1 ⟨y1, y2, by show (i : Int) + y.2.1 = ((i + s : Nat) : Int); omega⟩, by rw [show ((i + s : Nat) : Int) = (i : Int) + y.2.1 by omega]; exact y3, ?_, ?_⟩
            · intro p hp1 hp2
              rw [hsame p (by omega) (by omega), hsame (p - 1) (by omega) (by omega)]
              exact ⟨by omega, rfl⟩
            · have e : (L1 ++ [y]).map AR.encB = L1.map AR.encB ++ [AR.encB y] := by simp
              simp only [slC]
              rw [e]
              exact hS5.tail
          obtain ⟨bo, oo, hA, hcs⟩ := h2.of.2 (by omega)
          have cget : ∀ w3, Fr [] w w3 → ∀ b o, A = some ⟨b, o, none⟩ → w3.cell? ⟨b, o + (i : Int).toNat * 1, none⟩ = some (.int .i64 (of.getD i 0)) := by
            intro w3 hf b o hA
            obtain ⟨b', o', hA', hc'⟩ := (h.fr hf).of.2 (by omega)
            rw [hA] at hA'
            injection hA' with hA'
            injection hA' with q1 q2
            subst q1 q2
            rw [Int.toNat_natCast]
            exact hc' i hi
          refine sel_true rfl ⟨?_, ?_, trivial⟩
          · refine Calls.mono (hsz w2 hS2) ?_
            rintro _ w3 ⟨rfl, hS3⟩
            obtain ⟨A38, n38, c38, w5, hrun, hfin⟩ := fin w3 hS3
            exact ⟨_, rfl, _, _, _, (h.fr hS3.frame).sl, by omega, by omega, needPtr_of hA ⟨_, cget w3 hS3.frame _ _ hA, _, _, _, _, hrun, rfl, hfin⟩⟩
          · refine ⟨_, _, _, h2.sl, by omega, by omega, needPtr_of hA ⟨?_, ?_, trivial⟩⟩
            · refine Calls.mono (hsz w2 hS2) ?_
              rintro _ w3 ⟨rfl, hS3⟩
              obtain ⟨A38, n38, c38, w5, hrun, hfin⟩ := fin w3 hS3
              exact ⟨_, rfl, _, cget w3 hS3.frame _ _ hA, _, _, _, _, hrun, rfl, hfin⟩
            · refine ⟨_, cget w2 hS2.frame _ _ hA, ?_⟩
              refine Calls.mono (hsz w2 hS2) ?_
              rintro _ w3 ⟨rfl, hS3⟩
              obtain ⟨A38, n38, c38, w5, hrun, hfin⟩ := fin w3 hS3
              exact ⟨_, rfl, _, _, _, _, hrun, rfl, hfin⟩
      · obtain ⟨p1, p2⟩ := hp i (by omega) (by omega)
        have hb : bg st of i = false := by
          unfold bg
          have : (of.getD i 0 != of.getD (i - 1) 0) = false := by rw [p2]; simp
          rw [this]
          simp; omega
        rw [hb]
        exact sel_false rfl ⟨rfl, rr - 1, by omega, i + 1, q, L1, L2, rfl, by omega, by omega, hL, t1, t2, fun p hp1 hp2 => hp p (by omega) hp2, hS2⟩
    · have hi : i = n := by
        have : ¬ (i : Int) < (n : Int) := by simpa using hd
        omega
      have hqn : q = n := by omega
      subst hqn
      have : L2 = [] := by
        cases L2 with
        | nil => rfl
        | cons y L3 =>
          obtain ⟨_, y2, y3⟩ := t2
          have := y3.le
          omega
      subst this
      rw [hL, List.append_nil]
      exact ⟨_, _, _, rfl, hS⟩
  · rintro e w' ⟨v, rfl, A', n', c', rfl, h⟩
    exact ⟨_, _, _, rfl, h⟩
end RA
end Go.Proofs.Ytebahglmdifmpaa
