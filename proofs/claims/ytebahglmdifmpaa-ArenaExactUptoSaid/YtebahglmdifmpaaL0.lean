/- Small functions of the laws of heaps: at, key, Rank, the closures that compare, Peek and NewHeap. -/
import Derived.Test.YtebahglmdifmpaaA4
import Derived.Test.YtebahglmdifmpaaV5
import Derived.Test.YtebahglmdifmpaaG0
set_option linter.unusedVariables false
set_option linter.unusedSimpArgs false
set_option maxRecDepth 10000
namespace Go.Proofs.Ytebahglmdifmpaa
open Go Go.Proofs.Ytebahglmdifmpaa.Vc
namespace LW
def atI (x : Int) (n : Nat) : Int := if Int.tmod x n < 0 then Int.tmod x n + n else Int.tmod x n
theorem atI_range (x : Int) {n : Nat} (hn : 0 < n) : 0 ≤ atI x n ∧ atI x n < n := by
  have h1 := Int.tmod_lt_of_pos x (show (0 : Int) < n by omega)
  have h2 : -(n : Int) < Int.tmod x n := by
    have := Int.lt_tmod_of_pos x (show (0 : Int) < n by omega)
    omega
  unfold atI
  split <;> omega
theorem at_ (w : World) (x : Int) {n : Nat} (hn : 0 < n) (hn2 : n ≤ 4000000000) : Calls Try.prog 19 #[.int .i64 x, .int .i64 (n : Int)] w fun e w' => e = .returned (.int .i64 (atI x n)) ∧ Fr [] w w' := by
  refine Calls.mono (f19.calls (R := fun v w' => v = .int .i64 (atI x n) ∧ Fr [] w w') ?_) ?_
  · dsimp only [f19.VC]
    have hr := atI_range x hn
    refine ⟨by omega, sel_of ?_ ?_⟩
    · intro hd
      have hl : Int.tmod x n < 0 := by simpa using hd
      have e1 : atI x n = Int.tmod x n + n := by unfold atI; rw [if_pos hl]
      rw [i64_id (by omega) (by omega), ← e1]
      exact ⟨rfl, Fr.refl _ _⟩
    · intro hd
      have hl : ¬ Int.tmod x n < 0 := by simpa using hd
      have e1 : atI x n = Int.tmod x n := by unfold atI; rw [if_neg hl]
      rw [← e1]
      exact ⟨rfl, Fr.refl _ _⟩
  · rintro e w' ⟨v, rfl, rfl, h⟩
    exact ⟨rfl, h⟩
/-- A list that was handed in. -/
def InB (w : World) (A : Option Addr) (n : Nat) (l : List Bool) : Prop := n = l.length ∧ (0 < n → ∃ b o, A = some ⟨b, o, none⟩ ∧ ∀ i, i < n → w.cell? ⟨b, o + i, none⟩ = some (.bool (l.getD i false)))
def InI (w : World) (A : Option Addr) (n : Nat) (l : List Int) : Prop := n = l.length ∧ (0 < n → ∃ b o, A = some ⟨b, o, none⟩ ∧ ∀ i, i < n → w.cell? ⟨b, o + i, none⟩ = some (.int .i64 (l.getD i 0)))
theorem cell_fr {S : List Nat} {w w' : World} {b o : Nat} {v : Value} (hf : Fr S w w') (h : w.cell? ⟨b, o, none⟩ = some v) (hS : b ∉ S) : w'.cell? ⟨b, o, none⟩ = some v := by
  have hb := World.block_lt_of_cell? w _ h
  have := hf.2 b hb hS
  simp only [World.cell?] at h ⊢
  rw [this]; exact h
/-- What was handed in stays, wherever the blocks below base stay. -/
theorem InB.fr {S : List Nat} {w w' : World} {A : Option Addr} {n : Nat} {l : List Bool} {base : Nat} (h : InB w A n l) (hA : 0 < n → ∀ a, A = some a → a.block < base) (hf : Fr S w w') (hS : ∀ x ∈ S, base ≤ x) : InB w' A n l := by
  refine ⟨h.1, fun hn => ?_⟩
  obtain ⟨b, o, rfl, h2⟩ := h.2 hn
  refine ⟨b, o, rfl, fun i hi => cell_fr hf (h2 i hi) fun hb => ?_⟩
  have := hA hn _ rfl
  have := hS b hb
  simp at *
  omega
theorem InI.fr {S : List Nat} {w w' : World} {A : Option Addr} {n : Nat} {l : List Int} {base : Nat} (h : InI w A n l) (hA : 0 < n → ∀ a, A = some a → a.block < base) (hf : Fr S w w') (hS : ∀ x ∈ S, base ≤ x) : InI w' A n l := by
  refine ⟨h.1, fun hn => ?_⟩
  obtain ⟨b, o, rfl, h2⟩ := h.2 hn
  refine ⟨b, o, rfl, fun i hi => cell_fr hf (h2 i hi) fun hb => ?_⟩
  have := hA hn _ rfl
  have := hS b hb
  simp at *
  omega
/-- The table's answer. -/
def says (l : List Bool) (x y : Int) : Bool := if l.length = 0 then true else l.getD (atI (IntKind.i64.wrap (IntKind.i64.wrap (x * 7) + y)) l.length).toNat false
theorem enters33 : entersB Try.prog 33 = true := by kernel_rfl
def InvT (c : Nat) (A : Option Addr) (n cap : Nat) (l : List Bool) (w : World) : Prop := Blk w c #[.slice A n cap] 61 ∧ InB w A n l
theorem less33 {c : Nat} {A : Option Addr} {n cap : Nat} {l : List Bool} (hn : n ≤ 4000000000) : HI.Less (says l) (InvT c A n cap l) (.func (.func 33) #[] #[.pointer (some ⟨c, 0, none⟩)]) := by
  rintro w x y ⟨hB, hl, hA⟩
  subst hl
  refine CM.callT_of enters33 ?_
  refine Calls.mono (f33.calls (xa0 := x) (xa1 := y) (a2 := c) (w := w) (R := fun v w' => v = .bool (says l x y) ∧ Fr [] w w') ?_) ?_
  · dsimp only [f33.VC]
    refine ⟨_, _, _, hB.cell rfl, sel_of ?_ ?_⟩
    · intro hd
      have h0 : l.length = 0 := by simpa using hd
      exact ⟨by unfold says; rw [if_pos h0], Fr.refl _ _⟩
    · intro hd
      have h0 : ¬ l.length = 0 := by simpa using hd
      obtain ⟨b, o, rfl, hcs⟩ := hA (by omega)
      have hr := atI_range (IntKind.i64.wrap (IntKind.i64.wrap (x * 7) + y)) (n := l.length) (by omega)
      have hsay : says l x y = l.getD (atI (IntKind.i64.wrap (IntKind.i64.wrap (x * 7) + y)) l.length).toNat false := by unfold says; rw [if_neg h0]
      refine ⟨_, _, _, hB.cell rfl, ⟨_, _, _, hB.cell rfl, ?_⟩, ?_, trivial⟩
      · refine Calls.mono (at_ w.drew _ (by omega) hn) ?_
        rintro _ w1 ⟨rfl, hF⟩
        refine ⟨_, rfl, hr.1, hr.2, needPtr_of rfl ⟨_, ?_, by rw [hsay], hF.ofdrew⟩⟩
        rw [Nat.mul_one]
        exact cell_fr (S := []) hF.ofdrew (hcs _ (by omega)) (by simp)
      · refine Calls.mono (at_ w.drew _ (by omega) hn) ?_
        rintro _ w1 ⟨rfl, hF⟩
        refine ⟨_, rfl, _, _, _, (Fr.blk (S := []) hF.ofdrew hB (by simp)).cell rfl, hr.1, hr.2, needPtr_of rfl ⟨_, ?_, by rw [hsay], hF.ofdrew⟩⟩
        rw [Nat.mul_one]
        exact cell_fr (S := []) hF.ofdrew (hcs _ (by omega)) (by simp)
  · rintro e w' ⟨v, rfl, rfl, h⟩
    exact ⟨rfl, h⟩
theorem peekI {w : World} {F : List Nat} {a : Nat} {less : Value} {es : List (Int × Int)} {came : Int} (h : HI.At w F a less es came) :
    Calls Try.prog 35 #[.pointer (some ⟨a, 0, none⟩)] w fun e w' => e = .returned (.tuple #[.int .i64 (es.getD 0 HI.d).1, .bool (decide (0 < es.length))]) ∧ Fr [] w w' := by
  refine Calls.mono (f35.calls (R := fun v w' => v = .tuple #[.int .i64 (es.getD 0 HI.d).1, .bool (decide (0 < es.length))] ∧ Fr [] w w') ?_) ?_
  · dsimp only [f35.VC]
    by_cases he0 : es = []
    · obtain ⟨v, hA, he, hv⟩ := h
      rcases hv with ⟨rfl, _, _⟩ | ⟨g, cap, rfl, _⟩
      · exact ⟨_, _, _, hA.cell rfl, by subst he0; exact ⟨rfl, Fr.refl _ _⟩⟩
      · subst he0
        exact ⟨_, _, _, hA.cell rfl, ⟨rfl, Fr.refl _ _⟩⟩
    · have hpos : 0 < es.length := List.length_pos_iff.mpr he0
      obtain ⟨g, cap, hA, rfl, hga, hR, he⟩ := h.row hpos
      refine ⟨_, _, _, hA.cell rfl, sel_false (by simp; exact he0) ⟨_, _, _, hA.cell rfl, by omega, by omega, needPtr_of rfl ⟨_, hR.ent (d := HI.d) hpos (j := 0) (by decide) (by simp) rfl, ?_, Fr.refl _ _⟩⟩⟩
      rw [decide_eq_true hpos]
  · rintro e w' ⟨v, rfl, rfl, h⟩
    exact ⟨rfl, h⟩
end LW
end Go.Proofs.Ytebahglmdifmpaa
