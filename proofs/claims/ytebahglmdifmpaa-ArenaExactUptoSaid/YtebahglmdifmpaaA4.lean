/- What lively says: true. -/
import Derived.Test.YtebahglmdifmpaaA3
import Derived.Test.YtebahglmdifmpaaH2
set_option linter.unusedVariables false
set_option linter.unusedSimpArgs false
set_option maxRecDepth 10000
namespace Go.Proofs.Ytebahglmdifmpaa
open Go Go.Proofs.Ytebahglmdifmpaa.Vc
namespace LV
theorem newInt (w : World) (f : Nat) (cap : Array Value) : Calls Try.prog 25 #[.func (.func f) #[] cap] w fun e w' => e = .returned (.pointer (some ⟨w.heap.size, 0, none⟩)) ∧ HI.At w' [w.heap.size] w.heap.size (.func (.func f) #[] cap) [] 0 ∧ Fr [] w w' := by
  refine Calls.mono (f25.calls (a0 := f) (cap0 := cap) (w := w) (R := fun v w' => v = .pointer (some ⟨w.heap.size, 0, none⟩) ∧ HI.At w' [w.heap.size] w.heap.size (.func (.func f) #[] cap) [] 0 ∧ Fr [] w w') ?_) ?_
  · dsimp only [f25.VC]
    refine ⟨false, fun w' => by kernel_rfl, ?_⟩
    exact ⟨rfl, ⟨_, Blk.new, fun x => rfl, .inl ⟨rfl, rfl, rfl⟩⟩, (Fr.refl _ _).alloc⟩
  · rintro e w' ⟨v, rfl, rfl, h⟩
    exact ⟨rfl, h⟩
def lt (x y : Int) : Bool := decide (x < y)
theorem enters61 : entersB Try.prog 61 = true := by kernel_rfl
theorem less : HI.Less lt (fun _ => True) (.func (.func 61) #[] #[]) := by
  intro w x y _
  refine CM.callT_of enters61 ?_
  refine Calls.mono (f61.calls (xa0 := x) (xa1 := y) (w := w) (R := fun v w' => v = .bool (lt x y) ∧ Fr [] w w') ⟨rfl, Fr.refl _ _⟩) ?_
  rintro e w' ⟨v, rfl, rfl, h⟩
  exact ⟨rfl, h⟩
abbrev H1 : List (Int × Int) := HeapPlain.push HI.d (HeapPlain.ahead lt) [] (5, 0)
abbrev H2 : List (Int × Int) := HeapPlain.push HI.d (HeapPlain.ahead lt) H1 (3, 0 + 1)
abbrev H3 : List (Int × Int) := HeapPlain.popped HI.d (HeapPlain.ahead lt) H2
theorem lively (w : World) : Calls Try.prog 11 #[] w fun e w' => e = .returned (.bool true) ∧ Fr [] w w' := by
  refine Calls.mono (f11.calls (w := w) (R := fun v w' => v = .bool true ∧ Fr [] w w') ?_) ?_
  · dsimp only [f11.VC]
    refine Calls.mono (newInt w 61 #[]) ?_
    rintro _ w1 ⟨rfl, hH1, hF1⟩
    refine ⟨_, rfl, ?_⟩
    refine Calls.mono (CM.new (w := w1) (n := 20) (by decide) (by decide)) ?_
    rintro _ w2 ⟨m, g, rfl, hM2, hF2, hm, hg⟩
    refine ⟨_, _, rfl, sel_false rfl (sel_false rfl ?_)⟩
    have hp1 := hH1.lt w.heap.size (by simp)
    have hH2 := hH1.fr hF2 (by simp)
    have hF02 := hF1.trans hF2
    refine Calls.mono (HI.push AR.rests less trivial (by simp) hH2 (by decide) (by decide) (by decide) 5) ?_
    rintro _ w3 ⟨rfl, F3, hH3, hF3, hFF3⟩
    refine ⟨rfl, ?_⟩
    have k3 : ∀ x ∈ F3, w.heap.size ≤ x ∧ x ≠ m ∧ x ≠ g ∧ x < w3.heap.size := by
      intro x hx
      have hl := hH3.lt x hx
      have hs := hF1.1
      have hs2 := hF2.1
      have hmm := hM2.lt
      rcases hFF3 x hx with h | h
      · simp at h; omega
      · omega
    have hM3 := hM2.fr hF3 (by simp; omega) (by simp; omega)
    have hF03 : Fr [] w w3 := hF02.trans' hF3 (fun x hx hlt => by simp at hx; omega)
    refine Calls.mono (HI.push AR.rests less trivial (by simp) hH3 (by decide) (by decide) (by decide) 3) ?_
    rintro _ w4 ⟨rfl, F4, hH4, hF4, hFF4⟩
    refine ⟨rfl, ?_⟩
    have k4 : ∀ x ∈ F4, w.heap.size ≤ x ∧ x ≠ m ∧ x ≠ g ∧ x < w4.heap.size := by
      intro x hx
      have hl := hH4.lt x hx
      have hs := hF03.1
      have hmm := hM3.lt
      rcases hFF4 x hx with h | h
      · have := k3 x h; omega
      · omega
    have hM4 := hM3.fr hF4 (fun h => (k3 _ h).2.1 rfl) (fun h => (k3 _ h).2.2.1 rfl)
    have hF04 : Fr [] w w4 := hF03.trans' hF4 (fun x hx hlt => by have := (k3 x hx).1; omega)
    refine Calls.mono (HI.pop AR.rests less trivial (by simp) hH4 (by decide)) ?_
    rintro _ w5 ⟨rfl, F5, hH5, hF5, hFF5⟩
    refine ⟨_, _, rfl, ?_⟩
    have k5 : ∀ x ∈ F5, w.heap.size ≤ x ∧ x ≠ m ∧ x ≠ g ∧ x < w5.heap.size := by
      intro x hx
      have hl := hH5.lt x hx
      have hs := hF04.1
      have hmm := hM4.lt
      rcases hFF5 x hx with h | h
      · have := k4 x h; omega
      · omega
    have hM5 := hM4.fr hF5 (fun h => (k4 _ h).2.1 rfl) (fun h => (k4 _ h).2.2.1 rfl)
    have hF05 : Fr [] w w5 := hF04.trans' hF5 (fun x hx hlt => by have := (k4 x hx).1; omega)
    have hx3 : (H2.getD 0 HI.d).1 = 3 := by decide
    have hok : decide (0 < H2.length) = true := by decide
    refine Calls.mono (AR.new hM5 (from_ := 8) (by decide) (by decide)) ?_
    rintro _ w6 ⟨a, FA, rfl, hA6, hF6, hFA6⟩
    refine ⟨_, _, rfl, sel_false (by decide) (sel_false rfl ?_)⟩
    have hH6 := hH5.fr hF6 (by simp)
    have hF06 := hF05.trans hF6
    refine sel_false (by decide) (sel_false (by decide) ?_)
    refine Calls.mono (HI.len hH6) ?_
    rintro _ w7 ⟨rfl, hF7⟩
    refine ⟨_, rfl, sel_false (by decide) ?_⟩
    have hA7 := hA6.fr hF7 (by simp)
    have hF07 := hF06.trans hF7
    have kA : ∀ x ∈ FA, w.heap.size ≤ x := by
      intro x hx
      have hs := hF05.1
      have := hF1.1
      rcases hFA6 x hx with rfl | rfl | h <;> omega
    have hes0 : [((((8 : Nat) : Int), (((List.replicate 20 (0 : Int)).length - 8 : Nat) : Int), true), (0 : Int))] = [((8, 12, true), 0)] := by decide
    rw [hes0] at hA7
    refine Calls.mono (AR.take hA7 (n := 5) (by decide) (by decide) (by decide) (by decide) (by decide) (by decide) (by intro e he; simp at he; subst he; unfold AR.Fits; decide)) ?_
    rintro _ w8 ⟨FB, rfl, hA8, hF8, hFB⟩
    have s1 : AR.scan ((5 : Nat) : Int) [(((8, 12, true), 0) : AR.B × Int)].length [((8, 12, true), 0)] [] = ([], [(13, 7, true)], 8) := by decide
    rw [s1] at hA8 ⊢
    refine ⟨_, _, rfl, ?_⟩
    have hF08 : Fr [] w w8 := hF07.trans' hF8 (fun x hx hlt => by have := kA x hx; omega)
    have kB : ∀ x ∈ FB, w.heap.size ≤ x := by
      intro x hx
      have hs := hF07.1
      rcases hFB x hx with h | h
      · exact kA x h
      · omega
    have s2 : AR.putAll [] 1 [(13, 7, true)] = [((13, 7, true), 1)] := by decide
    have s3 : putM [] 8 ((5 : Nat) : Int) = [(8, 5)] := by decide
    simp only [s2, s3, if_neg (show ¬ (8 : Int) < 0 by decide)] at hA8
    refine Calls.mono (AR.take hA8 (n := 4) (by decide) (by decide) (by rw [CM.fillN_length]; decide) (by decide) (by decide) (by decide) (by intro e he; simp at he; subst he; unfold AR.Fits; rw [CM.fillN_length]; decide)) ?_
    rintro _ w9 ⟨FC, rfl, hA9, hF9, hFC⟩
    have s4 : AR.scan ((4 : Nat) : Int) [(((13, 7, true), 1) : AR.B × Int)].length [((13, 7, true), 1)] [] = ([], [(17, 3, true)], 13) := by decide
    rw [s4] at hA9 ⊢
    refine ⟨_, _, rfl, ?_⟩
    have hF09 : Fr [] w w9 := hF08.trans' hF9 (fun x hx hlt => by have := kB x hx; omega)
    have kC : ∀ x ∈ FC, w.heap.size ≤ x := by
      intro x hx
      have hs := hF08.1
      rcases hFC x hx with h | h
      · exact kB x h
      · omega
    have s5 : putM [(8, 5)] 13 ((4 : Nat) : Int) = [(8, 5), (13, 4)] := by decide
    simp only [s5, if_neg (show ¬ (13 : Int) < 0 by decide)] at hA9
    refine Calls.mono (AR.give hA9 (addr := 8) (n := 5) (by decide) (by decide) (by rw [CM.fillN_length, CM.fillN_length]; decide) (by rw [CM.fillN_length, CM.fillN_length]; decide) (by decide) (by decide) (by decide)) ?_
    rintro _ w10 ⟨FD, rfl, hA10, hF10, hFD⟩
    refine ⟨_, rfl, ?_⟩
    have hF010 : Fr [] w w10 := hF09.trans' hF10 (fun x hx hlt => by have := kC x hx; omega)
    refine sel_true (by decide) (sel_true (by decide) (sel_true (by decide) (sel_true (by decide) (sel_true (by decide) ?_))))
    refine Calls.mono (AR.live hA10) ?_
    rintro _ w11 ⟨rfl, hF11⟩
    exact ⟨_, rfl, congrArg Value.bool (by decide), hF010.trans hF11⟩
  · rintro e w' ⟨v, rfl, rfl, h⟩
    exact ⟨rfl, h⟩
end LV
end Go.Proofs.Ytebahglmdifmpaa
