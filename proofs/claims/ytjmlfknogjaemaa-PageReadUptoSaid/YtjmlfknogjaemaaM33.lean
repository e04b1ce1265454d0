/- Page: copied; the law PageAsked, the walk. -/
import Derived.Test.YtjmlfknogjaemaaM32
import Derived.Test.YtjmlfknogjaemaaM6
set_option linter.unusedVariables false
set_option linter.unusedSimpArgs false
set_option maxRecDepth 10000
namespace Go.Proofs.Ytjmlfknogjaemaa
open Go Go.Proofs.Ytjmlfknogjaemaa.Vc
namespace PG
open Vc.PG NI
/-- The marks behind a list. -/
def marksL (k : Nat) : List Int := (List.range k).map fun (i : Nat) => -7000 - (i : Int)
theorem marksL_succ (k : Nat) : marksL (k + 1) = marksL k ++ [-7000 - (k : Int)] := by
  unfold marksL
  rw [List.range_succ, List.map_append]; rfl
theorem marksL_len (k : Nat) : (marksL k).length = k := by simp [marksL]
theorem copiedC {S : List Nat} {w0 w : World} {L : List Chunk} (h : St S w0 w L) {A : Option Addr} {n c : Nat} {W : List Int} (hW : InW w A n W) (hn : n ≤ 3000000) (k : Nat) (hk : k ≤ 1000) :
    Calls Try.prog 24 #[.slice A n c, .int .i64 (k : Int)] w fun e w' => ∃ X : Sl, e = .returned X.v ∧ St S w0 w' (ints X.v (W ++ marksL k) :: L) := by
  refine Calls.mono (f24.calls (R := fun v w' => ∃ X : Sl, v = X.v ∧ St S w0 w' (ints X.v (W ++ marksL k) :: L)) ?_) ?_
  · dsimp only [f24.VC]
    have hl := hW.1
    obtain ⟨ti, i1, i2, i3, i4⟩ := info3
    obtain ⟨A1, n1, c1, w1, r1, hS1⟩ := St.appMany (ty := 26) 0 (enc := encN) (fun _ => rfl) under26 i1 i2 i3 rfl (by omega) (h.nil 3 1) 0 (l := []) rfl hW.1 hW.2 (c2 := c) (by simp; omega)
    refine ⟨A1, n1, c1, w1, r1, fun A5 n5 c5 x w' r => ∃ i : Nat, x = (i : Int) ∧ i + r = k ∧ St S w0 w' (ints (.slice A5 n5 c5) (W ++ marksL i) :: L), ⟨k, 0, rfl, by omega, by simpa [marksL] using hS1⟩, ?_⟩
    rintro d A5 n5 c5 x w2 r ⟨i, rfl, hir, hS⟩
    refine sel_of (fun hd => ?_) (fun hd => ?_)
    · have hi : i < k := by have := of_decide_eq_true hd; omega
      have hm := marksL_len i
      obtain ⟨A6, n6, c6, w3, r3, hS3⟩ := appI hS 0 rfl (-7000 - (i : Int)) (by simp [hm]; omega)
      rw [i64_id (x := -7000 - (i : Int)) (by omega) (by omega), inc i k (by omega) (by omega)]
      refine ⟨A6, n6, c6, w3, r3, rfl, r - 1, by omega, i + 1, rfl, by omega, ?_⟩
      rw [marksL_succ, ← List.append_assoc]
      exact hS3
    · have hi : i = k := by have := of_decide_eq_false hd; omega
      subst hi
      exact ⟨(A5, n5, c5), rfl, hS⟩
  · rintro e w' ⟨v, rfl, X, rfl, h⟩; exact ⟨X, rfl, h⟩
theorem InW.take {w : World} {A : Option Addr} {n : Nat} {W : List Int} (h : InW w A n W) {q : Nat} (hq : q ≤ n) : InW w A q (W.take q) := by
  have hl := h.1
  refine ⟨by simp; omega, fun hn => ?_⟩
  obtain ⟨b, o, rfl, h2⟩ := h.2 (by omega)
  refine ⟨b, o, rfl, fun i hi => ?_⟩
  rw [h2 i (by omega)]
  simp [List.getD_eq_getElem?_getD, hi]
/-- Questions that are read. -/
def encK (x : Int × Int × Int × Int) : List Value := [.int .i64 x.1, .int .i64 x.2.1, .int .i64 x.2.2.1, .int .i8 x.2.2.2]
def InK (w : World) (A : Option Addr) (n : Nat) (l : List (Int × Int × Int × Int)) : Prop := InR w 4 A n (l.map encK)
theorem InK.fr {w w' : World} {A : Option Addr} {n : Nat} {l : List (Int × Int × Int × Int)} (h : InK w A n l) (hf : Fr [] w w') : InK w' A n l :=
  InR.fr (S := []) h (fun r hr => by obtain ⟨x, _, rfl⟩ := List.mem_map.1 hr; rfl) hf
theorem InK.cells {w : World} {A : Option Addr} {n : Nat} {l : List (Int × Int × Int × Int)} (h : InK w A n l) {i : Nat} (hi : i < n) : ∃ (b o : Nat) (x : Int × Int × Int × Int), A = some ⟨b, o, none⟩ ∧ w.cell? ⟨b, o + i * 4, none⟩ = some (.int .i64 x.1) ∧ w.cell? ⟨b, o + i * 4 + 1, none⟩ = some (.int .i64 x.2.1) ∧ w.cell? ⟨b, o + i * 4 + 1 + 1, none⟩ = some (.int .i64 x.2.2.1) ∧ w.cell? ⟨b, o + i * 4 + 1 + 1 + 1, none⟩ = some (.int .i8 x.2.2.2) := by
  have hl := h.1
  rw [List.length_map] at hl
  obtain ⟨b, o, rfl, h2⟩ := h.2 (by omega)
  have hil : i < l.length := by omega
  have e : (l.map encK).getD i [] = encK l[i] := by simp [List.getD_eq_getElem?_getD, hil]
  have h3 := h2 i hi
  rw [e] at h3
  exact ⟨b, o, l[i], rfl, h3 0 (by decide), h3 1 (by decide), h3 2 (by decide), h3 3 (by decide)⟩
/-- The type of a question. -/
abbrev askTy : Ty := .pair (.int .i64) (.pair (.int .i64) (.pair (.int .i64) (.pair (.int .i8) .unit)))
theorem inK {w : World} {A : Option Addr} {n c : Nat} {l : List (Den askTy)} {F : List Nat} (h : In w (.sl askTy) [.slice A n c] l F) : InK w A n (l.map fun d => (d.1, d.2.1, d.2.2.1, d.2.2.2.1)) := by
  have := In.recs (by decide) h
  unfold InK
  rw [List.map_map]
  exact this
theorem lawAsked {w : World} {A B C : Option Addr} {n m k c d f : Nat} {W V : List Int} {Q : List (Int × Int × Int × Int)} (hW : InW w A n W) (hV : InW w B m V) (hQ : InK w C k Q) (hn : n ≤ 1100000) (hm : m ≤ 1100000) (hk : k ≤ 1100000) :
    Calls Try.prog 5 #[.slice A n c, .slice B m d, .slice C k f] w fun e w' => e = .returned (.bool true) ∧ Fr [] w w' := by
  refine Calls.mono (f5.calls (R := fun v w' => v = .bool true ∧ Fr [] w w') ?_) ?_
  · dsimp only [f5.VC]
    have hl := hW.1
    refine Calls.mono (awake w) ?_
    rintro _ w1 ⟨rfl, f1⟩
    refine ⟨_, rfl, Calls.mono (copiedC (k := 40) ((St.start w).go f1) (hW.fr f1) (by omega) (by decide)) ?_⟩
    rintro _ w2 ⟨⟨A17, n17, c17⟩, rfl, hS2⟩
    have hm40 := marksL_len 40
    have g17 : n17 = (W ++ marksL 40).length := hS2.lsLen 0 rfl
    have hcap : n17 ≤ c17 := by
      obtain ⟨F, hF, _⟩ := hS2.at 0 rfl
      exact (Chunk.ls_says 0 hF).2.1
    rw [List.length_append, hm40] at g17
    rw [Int.toNat_natCast]
    have htake : (W ++ marksL 40).take n = W := by rw [hl, List.take_left]
    refine ⟨A17, n17, c17, rfl, by omega, by omega, ?_⟩
    refine ⟨fun b w' => b = true ∧ St [] w w' [ints (.slice A17 n17 c17) (W ++ marksL 40)], ?_, ?_⟩
    · refine ⟨fun b x w' r => b = true ∧ ∃ i : Nat, x = (i : Int) ∧ i + r = 2 ∧ St [] w w' [ints (.slice A17 n17 c17) (W ++ marksL 40)], ⟨2, rfl, 0, rfl, by omega, hS2⟩, ?_⟩
      rintro dd b x w3 r ⟨rfl, i, rfl, hir, hS⟩
      refine sel_of (fun hd => ?_) (fun hd => ⟨rfl, rfl, hS⟩)
      have hi : i < 2 := by have := of_decide_eq_true hd; omega
      refine sel_of (fun _ => ?_) (fun h => by cases h)
      refine ⟨fun b x w' r => b = true ∧ ∃ j : Nat, x = (j : Int) ∧ j + r = k ∧ St [] w w' [ints (.slice A17 n17 c17) (W ++ marksL 40)], ⟨k, rfl, 0, rfl, by omega, hS⟩, ?_⟩
      clear hS
      rintro dd b x w4 r1 ⟨rfl, j, rfl, hjr, hS⟩
      rw [inc i 100 (by omega) (by omega)]
      refine sel_of (fun hd => ?_) (fun hd => ⟨rfl, r - 1, by omega, rfl, i + 1, rfl, by omega, hS⟩)
      have hj : j < k := by have := of_decide_eq_true hd; omega
      refine sel_of (fun _ => ?_) (fun h => by cases h)
      obtain ⟨b, o, q, rfl, q1, q2, q3, q4⟩ := (hQ.fr hS.frame).cells hj
      have hI := (St.inI hS 0 rfl).take (q := n) (by omega)
      rw [htake] at hI
      refine ⟨by omega, by omega, needPtr_of rfl ⟨_, by rw [Int.toNat_natCast]; exact q1, _, by rw [Int.toNat_natCast]; exact q2, _, by rw [Int.toNat_natCast]; exact q3, _, by rw [Int.toNat_natCast]; exact q4, ?_⟩⟩
      refine Calls.mono (hS.step0 (askedC hI (hW.fr hS.frame) (by omega) _ _ _ _)) ?_
      rintro _ w5 ⟨rfl, hS⟩
      rw [inc j k (by omega) (by omega)]
      exact ⟨_, rfl, rfl, r1 - 1, by omega, rfl, j + 1, rfl, by omega, hS⟩
    · rintro dd b w3 ⟨rfl, hS⟩
      refine ⟨fun b w' => b = true ∧ St [] w w' [ints (.slice A17 n17 c17) (W ++ marksL 40)], ?_, ?_⟩
      · refine sel_of (fun _ => ?_) (fun h => by cases h)
        refine Calls.mono (copiedC (k := 40) hS (hW.fr hS.frame) (by omega) (by decide)) ?_
        rintro _ w4 ⟨X, rfl, hS4⟩
        refine ⟨_, _, _, rfl, ?_⟩
        refine Calls.mono (hS4.step0 (sameC (St.inI hS4 1 rfl) (St.inI hS4 0 rfl) (show n17 ≤ 1000000000 by omega))) ?_
        rintro _ w5 ⟨rfl, hS5⟩
        exact ⟨_, rfl, rfl, by simp, hS5.tail⟩
      · rintro dd b w4 ⟨rfl, hS⟩
        refine ⟨fun w' => ∃ L' : List Int, L'.length = n17 ∧ St [] w w' [ints (.slice A17 n17 c17) L'], ?_, ?_⟩
        · refine ⟨fun x w' r => ∃ (i : Nat) (L' : List Int), x = (i : Int) ∧ i + r = n ∧ L'.length = n17 ∧ St [] w w' [ints (.slice A17 n17 c17) L'], ⟨n, 0, _, rfl, by omega, by rw [List.length_append, hm40]; omega, hS⟩, ?_⟩
          clear hS
          rintro dd x w5 r ⟨i, L', rfl, hir, hL, hS⟩
          refine sel_of (fun hd => ?_) (fun hd => ⟨rfl, L', hL, hS⟩)
          refine sel_of (fun hd2 => ?_) (fun hd => ⟨rfl, L', hL, hS⟩)
          have hi : i < n := by have := of_decide_eq_true hd; omega
          have hi2 : i < m := by have := of_decide_eq_true hd2; omega
          obtain ⟨b, o, rfl, hc⟩ := (hV.fr hS.frame).2 (by omega)
          obtain ⟨g, rfl, hcan, hS6⟩ := hS.lsSet 0 rfl (k := i) (by omega) (V.getD i 0)
          rw [inc i n (by omega) (by omega)]
          refine ⟨by omega, by omega, needPtr_of rfl ⟨_, by rw [Int.toNat_natCast, Nat.mul_one]; exact hc i hi2, by omega, by omega, needPtr_of rfl ?_⟩⟩
          rw [Int.toNat_natCast, Nat.mul_one, Nat.zero_add]
          exact ⟨hcan, rfl, r - 1, by omega, i + 1, L'.set i (V.getD i 0), rfl, by omega, by simpa using hL, hS6⟩
        · clear hS
          rintro dd w5 ⟨L', hL, hS⟩
          have hI := (St.inI hS 0 rfl).take (q := n) (by omega)
          refine Calls.mono (copiedC (k := 0) hS hI (c := c17) (by omega) (by decide)) ?_
          rintro _ w6 ⟨X, rfl, hS6⟩
          have hS6 : St [] w w6 [ints X.v (L'.take n), ints (.slice A17 n17 c17) L'] := by simpa [marksL] using hS6
          refine ⟨_, _, _, rfl, fun b x w' r => b = true ∧ ∃ j : Nat, x = (j : Int) ∧ j + r = k ∧ St [] w w' [ints X.v (L'.take n), ints (.slice A17 n17 c17) L'], ⟨k, rfl, 0, rfl, by omega, hS6⟩, ?_⟩
          clear hS6 hS hI
          rintro dd b x w7 r ⟨rfl, j, rfl, hjr, hS⟩
          refine sel_of (fun hd => ?_) (fun hd => ⟨rfl, hS.frame⟩)
          have hj : j < k := by have := of_decide_eq_true hd; omega
          refine sel_of (fun _ => ?_) (fun h => by cases h)
          obtain ⟨b, o, q, rfl, q1, q2, q3, q4⟩ := (hQ.fr hS.frame).cells hj
          have hI := (St.inI hS 1 rfl).take (q := n) (by omega)
          refine ⟨by omega, by omega, needPtr_of rfl ⟨_, by rw [Int.toNat_natCast]; exact q1, _, by rw [Int.toNat_natCast]; exact q2, _, by rw [Int.toNat_natCast]; exact q3, _, by rw [Int.toNat_natCast]; exact q4, ?_⟩⟩
          refine Calls.mono (hS.step0 (askedC hI (St.inI hS 0 rfl) (by omega) _ _ _ _)) ?_
          rintro _ w8 ⟨rfl, hS⟩
          rw [inc j k (by omega) (by omega)]
          exact ⟨_, rfl, rfl, r - 1, by omega, rfl, j + 1, rfl, by omega, hS⟩
  · rintro e w' ⟨v, rfl, rfl, h⟩; exact ⟨rfl, h⟩
end PG
end Go.Proofs.Ytjmlfknogjaemaa
