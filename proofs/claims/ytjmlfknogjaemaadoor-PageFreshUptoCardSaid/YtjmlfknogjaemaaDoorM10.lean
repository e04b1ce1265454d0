/- Page: Decide, the program's and the document's: one answer, as many words read. -/
import Derived.Test.YtjmlfknogjaemaaDoorM9
import Derived.Test.YtjmlfknogjaemaaDoorM5
import Derived.Test.YtjmlfknogjaemaaDoorProg
import Derived.KernelRfl
import Derived.Test.YtjmlfknogjaemaaDoorM8
set_option linter.unusedVariables false
set_option linter.unusedSimpArgs false
set_option maxRecDepth 10000
namespace Go.Proofs.YtjmlfknogjaemaaDoor
open Go Go.Proofs.YtjmlfknogjaemaaDoor.Vc
namespace PG
open Vc.PG
abbrev eyeB (b : Nat) (A : Option Addr) (n c s : Nat) : Chunk := Chunk.blk b #[.slice A n c, .int .i64 (s : Int)] 81
section
variable {w0 w : World} {K : List Chunk} {A : Option Addr} {n c b s : Nat} {W : List Int}
theorem eRead (h : St [] w0 w K) (hW : InW w0 A n W) (i : Nat) (hi : K[i]? = some (eyeB b A n c s)) (hs : s ≤ 1000000) (q : Nat) (hq : q < n) :
    Calls Tryd.prog 45 #[.pointer (some ⟨b, 0, none⟩), .int .i64 (q : Int)] w fun e w' => e = .returned (.tuple #[.int .i64 (W.getD q 0), .bool true]) ∧ St [] w0 w' (K.set i (eyeB b A n c (s + 1))) := by
  have hil : i < K.length := (List.getElem?_eq_some_iff.1 hi).1
  refine Calls.mono (f45.calls (R := fun v w' => v = .tuple #[.int .i64 (W.getD q 0), .bool true] ∧ St [] w0 w' (K.set i (eyeB b A n c (s + 1)))) ?_) ?_
  · dsimp only [f45.VC]
    refine sel_false (by simp) ⟨_, _, _, (h.blk i hi).cell rfl, sel_false (by simp; omega) ?_⟩
    have hS := h.set i hi 1 [.int .i64 ((s + 1 : Nat) : Int)]
    have e1 : IntKind.i64.wrap ((s : Int) + 1) = ((s + 1 : Nat) : Int) := by rw [i64_id (by omega) (by omega)]; omega
    have hS' : (K.set i (eyeB b A n c (s + 1)))[i]? = some (eyeB b A n c (s + 1)) := List.getElem?_set_self hil
    refine ⟨_, (h.blk i hi).cell rfl, (h.blk i hi).can (by simp), ?_⟩
    rw [e1]
    refine ⟨_, _, _, (hS.blk i hS').cell rfl, by omega, by omega, hW.need hS.frame rfl hq ⟨rfl, hS⟩⟩
  · rintro e w' ⟨v, rfl, rfl, h⟩; exact ⟨rfl, h⟩
theorem eOut (h : St [] w0 w K) (i : Nat) (hi : K[i]? = some (eyeB b A n c s)) (k : Int) (hk : k < 0 ∨ (n : Int) ≤ k) :
    Calls Tryd.prog 45 #[.pointer (some ⟨b, 0, none⟩), .int .i64 k] w fun e w' => e = .returned (.tuple #[.int .i64 0, .bool false]) ∧ St [] w0 w' K := by
  refine Calls.mono (f45.calls (R := fun v w' => v = .tuple #[.int .i64 0, .bool false] ∧ St [] w0 w' K) ?_) ?_
  · dsimp only [f45.VC]
    refine sel_of (fun h1 => ⟨rfl, h⟩) (fun h1 => ⟨_, _, _, (h.blk i hi).cell rfl, sel_true ?_ ⟨rfl, h⟩⟩)
    have h1 : ¬ k < 0 := of_decide_eq_false h1
    exact decide_eq_true (by omega)
  · rintro e w' ⟨v, rfl, rfl, h⟩; exact ⟨rfl, h⟩
theorem eSeek (h : St [] w0 w K) (hW : InW w0 A n W) (i : Nat) (hi : K[i]? = some (eyeB b A n c s)) (hs : s ≤ 100000) (hn : n ≤ 1000000000) (t : Nat) (ht : 2 ≤ t) (ht2 : t ≤ 4096) (key : Int) :
    Calls Tryd.prog 47 #[.pointer (some ⟨b, 0, none⟩), .int .i64 (t : Int), .int .i64 key] w fun e w' => e = .returned (.tuple #[.int .i64 ((seekP W t key s).1.getD 0), .bool (seekP W t key s).1.isSome]) ∧ St [] w0 w' (K.set i (eyeB b A n c (seekP W t key s).2)) := by
  have hil : i < K.length := (List.getElem?_eq_some_iff.1 hi).1
  refine Calls.mono (f47.calls (R := fun v w' => v = .tuple #[.int .i64 ((seekP W t key s).1.getD 0), .bool (seekP W t key s).1.isSome] ∧ St [] w0 w' (K.set i (eyeB b A n c (seekP W t key s).2))) ?_) ?_
  · dsimp only [f47.VC]
    have hl := hW.1
    refine Calls.mono (hashP w key t (by omega)) ?_
    rintro _ w2 ⟨rfl, hf2⟩
    have hfl := kfirst_lt key (t := t) (by omega)
    have hfe := kfirst_eq key (t := t)
    unfold seekP
    rw [← hfe]
    generalize kfirst key t = f at *
    refine ⟨_, rfl, fun x y w' r => ∃ j : Nat, y = (j : Int) ∧ x = (((f + j) % t : Nat) : Int) ∧ j + r = t ∧ ∃ s', s' ≤ s + j ∧ St [] w0 w' (K.set i (eyeB b A n c s')) ∧ seekGo W t key f j r s' = seekGo W t key f 0 t s, ⟨t, 0, rfl, by rw [Nat.add_zero, Nat.mod_eq_of_lt hfl], by omega, s, by omega, ?_, rfl⟩, ?_⟩
    · have e : K.set i (eyeB b A n c s) = K := by
        apply List.ext_getElem?
        intro q
        by_cases hq : q = i
        · subst hq; rw [List.getElem?_set_self hil, hi]
        · rw [List.getElem?_set_ne (Ne.symm hq)]
      rw [e]
      exact h.go hf2
    rintro d x y w3 r ⟨j, rfl, rfl, hjr, s', hs', hS, hgo⟩
    have hm : (f + j) % t < t := Nat.mod_lt _ (by omega)
    have hi' : ∀ s', (K.set i (eyeB b A n c s'))[i]? = some (eyeB b A n c s') := fun s' => List.getElem?_set_self hil
    refine sel_of (fun hy => ?_) (fun hy => ?_)
    · have hy : (j : Int) < t := of_decide_eq_true hy
      obtain ⟨r, rfl⟩ : ∃ r', r = r' + 1 := ⟨r - 1, by omega⟩
      rw [seekGo] at hgo
      rw [step_mod f j t (by omega) (by omega) hfl]
      generalize (f + j) % t = p at *
      have e1 : IntKind.i64.wrap (4 + IntKind.i64.wrap (2 * (p : Int))) = ((4 + 2 * p : Nat) : Int) := by rw [i64_id (x := 2 * _) (by omega) (by omega), i64_id (by omega) (by omega)]; omega
      have e2 : IntKind.i64.wrap (((4 + 2 * p : Nat) : Int) + 1) = ((4 + 2 * p + 1 : Nat) : Int) := by rw [i64_id (by omega) (by omega)]; omega
      have e3 : IntKind.i64.wrap ((j : Int) + 1) = ((j + 1 : Nat) : Int) := by rw [i64_id (by omega) (by omega)]; omega
      rw [e1, e2, e3]
      by_cases hp : 4 + 2 * p < W.length
      · rw [if_pos hp] at hgo
        refine Calls.mono (eRead hS hW i (hi' s') (by omega) (4 + 2 * p) (by omega)) ?_
        rintro _ w4 ⟨rfl, hS4⟩
        rw [List.set_set] at hS4
        refine ⟨_, _, rfl, sel_false rfl (sel_of (fun h1 => ?_) (fun h1 => ?_))⟩
        · rw [if_pos (eq_of_beq h1)] at hgo
          by_cases hp1 : 4 + 2 * p + 1 < W.length
          · rw [if_pos hp1] at hgo
            refine Calls.mono (eRead hS4 hW i (hi' _) (by omega) (4 + 2 * p + 1) (by omega)) ?_
            rintro _ w5 ⟨rfl, hS5⟩
            rw [List.set_set] at hS5
            refine ⟨_, _, rfl, ?_⟩
            rw [← hgo]
            exact ⟨rfl, hS5⟩
          · rw [if_neg hp1] at hgo
            refine Calls.mono (eOut hS4 i (hi' _) _ (.inr (by omega))) ?_
            rintro _ w5 ⟨rfl, hS5⟩
            refine ⟨_, _, rfl, ?_⟩
            rw [← hgo]
            exact ⟨rfl, hS5⟩
        · rw [if_neg (beq_eq_false_iff_ne.1 h1)] at hgo
          refine sel_of (fun h2 => ?_) (fun h2 => ?_)
          · rw [if_pos (eq_of_beq h2)] at hgo
            rw [← hgo]
            exact ⟨rfl, hS4⟩
          · rw [if_neg (beq_eq_false_iff_ne.1 h2)] at hgo
            exact ⟨by omega, rfl, r, by omega, j + 1, rfl, rfl, by omega, s' + 1, by omega, hS4, hgo⟩
      · rw [if_neg hp] at hgo
        refine Calls.mono (eOut hS i (hi' s') _ (.inr (by omega))) ?_
        rintro _ w4 ⟨rfl, hS4⟩
        refine ⟨_, _, rfl, sel_true rfl ?_⟩
        rw [← hgo]
        exact ⟨rfl, hS4⟩
    · have hy : ¬ (j : Int) < t := of_decide_eq_false hy
      have : r = 0 := by omega
      subst this
      rw [seekGo] at hgo
      rw [← hgo]
      exact ⟨rfl, hS⟩
  · rintro e w' ⟨v, rfl, rfl, h⟩; exact ⟨rfl, h⟩
theorem index3 (a b c : Int) (j : Nat) (hj : j < 3) (w : World) : (Instr.index 84 (.agg #[.int .i64 a, .int .i64 b, .int .i64 c]) (.int .i64 (j : Int))).run Tryd.prog w = .ok (.int .i64 ([a, b, c].getD j 0)) w := by
  obtain rfl | rfl | rfl : j = 0 ∨ j = 1 ∨ j = 2 := by omega
  all_goals kernel_rfl
end
theorem maskC (t : Nat) (x y c : Int) : IntKind.i64.wrap (IntKind.i64.wrap (IntKind.i64.wrap (IntKind.i64.wrap (4 + IntKind.i64.wrap (2 * (t : Int))) + IntKind.i64.wrap (IntKind.i64.wrap (x - 1) * c)) + y) - 1) = maskAt t x y c := by
  unfold maskAt
  rw [wr_mul]
  generalize (x - 1) * c = p
  simp only [wr]
  omega
theorem decC {w : World} {A : Option Addr} {n c : Nat} {W : List Int} (h : InW w A n W) (hn : n ≤ 1000000000) (s o a : Int) :
    Calls Tryd.prog 21 #[.slice A n c, .int .i64 s, .int .i64 o, .int .i64 a] w fun e w' => e = .returned (.tuple #[.bool (decP W s o a).1, .int .i64 ((decP W s o a).2 : Int)]) ∧ Fr [] w w' := by
  refine Calls.mono (f21.calls (R := fun v w' => v = .tuple #[.bool (decP W s o a).1, .int .i64 ((decP W s o a).2 : Int)] ∧ Fr [] w w') ?_) ?_
  · dsimp only [f21.VC]
    have hl := h.1
    have hS := (St.start w).alloc #[.slice A n c, .int .i64 0] 81
    generalize w.heap.size = b at *
    by_cases h1 : 1 < W.length
    · refine Calls.mono (eRead (s := 0) hS h 0 rfl (by omega) 1 (by omega)) ?_
      rintro _ w2 ⟨rfl, hS2⟩
      refine ⟨_, _, rfl, sel_false rfl ?_⟩
      refine Calls.mono (powP _ _) ?_
      rintro _ w3 ⟨rfl, e3⟩
      rw [e3]
      refine ⟨_, rfl, sel_of (fun hp => ?_) (fun hp => ?_)⟩
      · have hp : powB (W.getD 1 0) = false := by simpa using hp
        have e : decP W s o a = (false, 1) := by unfold decP; rw [if_pos h1, if_neg (by rw [hp]; simp)]
        rw [e]
        exact ⟨_, (hS2.blk 0 rfl).cell rfl, rfl, hS2.drew.frame⟩
      · have hp : powB (W.getD 1 0) = true := by simpa using hp
        have hr := powB_range hp
        have e : decP W s o a = decFrom W (W.getD 1 0).toNat s o a 3 0 0 0 1 := by unfold decP; rw [if_pos h1, if_pos hp]
        obtain ⟨t, ht⟩ : ∃ t : Nat, W.getD 1 0 = (t : Int) := ⟨(W.getD 1 0).toNat, by omega⟩
        rw [ht] at e hr ⊢
        rw [Int.toNat_natCast] at e
        have hS3 := hS2.alloc #[.int .i64 0, .int .i64 0, .int .i64 0] 84
        generalize w2.heap.size = b2 at *
        generalize World.alloc w2 (.cells #[.int .i64 0, .int .i64 0, .int .i64 0] 84) = w3 at *
        refine ⟨fun y w' r => ∃ j : Nat, y = (j : Int) ∧ j + r = 3 ∧ ∃ (m0 m1 m2 : Int) (s' : Nat), s' ≤ 1 + j * (t + 1) ∧ St [] w w' [Chunk.blk b2 #[.int .i64 m0, .int .i64 m1, .int .i64 m2] 84, eyeB b A n c s'] ∧ decFrom W t s o a r m0 m1 m2 s' = decP W s o a, ⟨3, 0, rfl, rfl, 0, 0, 0, 1, by omega, hS3, e.symm⟩, ?_⟩
        rintro d y w4 r ⟨j, rfl, hjr, m0, m1, m2, s', hs', hS4, hgo⟩
        refine sel_of (fun hy => ?_) (fun hy => ?_)
        · have hy : (j : Int) < 3 := of_decide_eq_true hy
          refine ⟨_, index3 s o a j (by omega), ?_⟩
          rw [keyN_eq1]
          obtain ⟨rfl, rfl⟩ | ⟨rfl, rfl⟩ | ⟨rfl, rfl⟩ : (j = 0 ∧ r = 3) ∨ (j = 1 ∧ r = 2) ∨ (j = 2 ∧ r = 1) := by omega
          · have hb := seekP_le W t (keyN s 1) s'
            have hx := eSeek hS4 h 1 rfl (by omega) hn t (by omega) (by omega) (keyN s 1)
            rw [decFrom] at hgo
            cases hq : seekP W t (keyN s 1) s' with
            | mk q m =>
              rw [hq] at hx hgo hb
              refine Calls.mono hx ?_
              rintro _ w5 ⟨rfl, hS5⟩
              have hS6 := hS5.set 0 rfl 0 [.int .i64 (q.getD 0)]
              refine ⟨_, _, rfl, by omega, by omega, (hS5.blk 0 rfl).can (by simp), ?_⟩
              cases q with
              | none => exact sel_true rfl ⟨_, (hS6.blk 1 rfl).cell rfl, by rw [← hgo], hS6.drew.frame⟩
              | some v => exact sel_false rfl ⟨rfl, 2, by omega, 1, rfl, rfl, v, m1, m2, m, by dsimp only at hb; omega, hS6, by first | exact hgo | (rw [decFrom]; exact hgo)⟩
          · have hb := seekP_le W t (keyN o 2) s'
            have hx := eSeek hS4 h 1 rfl (by omega) hn t (by omega) (by omega) (keyN o 2)
            rw [decFrom] at hgo
            cases hq : seekP W t (keyN o 2) s' with
            | mk q m =>
              rw [hq] at hx hgo hb
              refine Calls.mono hx ?_
              rintro _ w5 ⟨rfl, hS5⟩
              have hS6 := hS5.set 0 rfl 1 [.int .i64 (q.getD 0)]
              refine ⟨_, _, rfl, by omega, by omega, (hS5.blk 0 rfl).can (by simp), ?_⟩
              cases q with
              | none => exact sel_true rfl ⟨_, (hS6.blk 1 rfl).cell rfl, by rw [← hgo], hS6.drew.frame⟩
              | some v => exact sel_false rfl ⟨rfl, 1, by omega, 2, rfl, rfl, m0, v, m2, m, by dsimp only at hb; omega, hS6, by first | exact hgo | (rw [decFrom]; exact hgo)⟩
          · have hb := seekP_le W t (keyN a 3) s'
            have hx := eSeek hS4 h 1 rfl (by omega) hn t (by omega) (by omega) (keyN a 3)
            rw [decFrom] at hgo
            cases hq : seekP W t (keyN a 3) s' with
            | mk q m =>
              rw [hq] at hx hgo hb
              refine Calls.mono hx ?_
              rintro _ w5 ⟨rfl, hS5⟩
              have hS6 := hS5.set 0 rfl 2 [.int .i64 (q.getD 0)]
              refine ⟨_, _, rfl, by omega, by omega, (hS5.blk 0 rfl).can (by simp), ?_⟩
              cases q with
              | none => exact sel_true rfl ⟨_, (hS6.blk 1 rfl).cell rfl, by rw [← hgo], hS6.drew.frame⟩
              | some v => exact sel_false rfl ⟨rfl, 0, by omega, 3, rfl, rfl, m0, m1, v, m, by dsimp only at hb; omega, hS6, by first | exact hgo | (rw [decFrom]; exact hgo)⟩
        · have hy : ¬ (j : Int) < 3 := of_decide_eq_false hy
          obtain ⟨rfl, rfl⟩ : j = 3 ∧ r = 0 := by omega
          rw [decFrom] at hgo
          unfold decEnd at hgo
          by_cases h3 : 3 < W.length
          · rw [if_pos h3] at hgo
            refine Calls.mono (eRead hS4 h 1 rfl (by omega) 3 (by omega)) ?_
            rintro _ w5 ⟨rfl, hS5⟩
            refine ⟨_, _, rfl, sel_false rfl ⟨by omega, by omega, _, (hS5.blk 0 rfl).cell rfl, by omega, by omega, _, (hS5.blk 0 rfl).cell rfl, ?_⟩⟩
            rw [maskC]
            by_cases hm : 0 ≤ maskAt t m0 m1 (W.getD 3 0) ∧ maskAt t m0 m1 (W.getD 3 0) < W.length
            · rw [if_pos hm] at hgo
              obtain ⟨q, hq⟩ : ∃ q : Nat, maskAt t m0 m1 (W.getD 3 0) = (q : Int) := ⟨(maskAt t m0 m1 (W.getD 3 0)).toNat, by omega⟩
              rw [hq] at hm hgo ⊢
              rw [Int.toNat_natCast] at hgo
              refine Calls.mono (eRead hS5 h 1 rfl (by omega) q (by omega)) ?_
              rintro _ w6 ⟨rfl, hS6⟩
              refine ⟨_, _, rfl, sel_false rfl ⟨by omega, by omega, _, (hS6.blk 0 rfl).cell rfl, sel_of (fun z1 => ?_) (fun z1 => ⟨by omega, by omega, _, (hS6.blk 0 rfl).cell rfl, sel_of (fun z2 => ?_) (fun z2 => ?_)⟩)⟩⟩
              · have z1 : m2 < 1 := of_decide_eq_true z1
                rw [if_pos (.inl z1)] at hgo
                exact ⟨_, (hS6.blk 1 rfl).cell rfl, by rw [← hgo], hS6.drew.frame⟩
              · have z2 : 16 < m2 := of_decide_eq_true z2
                rw [if_pos (.inr z2)] at hgo
                exact ⟨_, (hS6.blk 1 rfl).cell rfl, by rw [← hgo], hS6.drew.frame⟩
              · have z1 : ¬ m2 < 1 := of_decide_eq_false z1
                have z2 : ¬ 16 < m2 := of_decide_eq_false z2
                rw [if_neg (by omega)] at hgo
                refine ⟨by omega, by omega, _, (hS6.blk 0 rfl).cell rfl, ?_⟩
                rw [i64_id (by omega) (by omega), bitB_ne]
                exact ⟨by omega, _, (hS6.blk 1 rfl).cell rfl, by rw [← hgo], hS6.drew.frame⟩
            · rw [if_neg hm] at hgo
              refine Calls.mono (eOut hS5 1 rfl _ (by omega)) ?_
              rintro _ w6 ⟨rfl, hS6⟩
              exact ⟨_, _, rfl, sel_true rfl ⟨_, (hS6.blk 1 rfl).cell rfl, by rw [← hgo], hS6.drew.frame⟩⟩
          · rw [if_neg h3] at hgo
            refine Calls.mono (eOut hS4 1 rfl 3 (.inr (by omega))) ?_
            rintro _ w5 ⟨rfl, hS5⟩
            exact ⟨_, _, rfl, sel_true rfl ⟨_, (hS5.blk 1 rfl).cell rfl, by rw [← hgo], hS5.drew.frame⟩⟩
    · have e : decP W s o a = (false, 0) := by unfold decP; rw [if_neg h1]
      rw [e]
      refine Calls.mono (eOut (s := 0) hS 0 rfl 1 (.inr (by omega))) ?_
      rintro _ w2 ⟨rfl, hS2⟩
      exact ⟨_, _, rfl, sel_true rfl ⟨_, (hS2.blk 0 rfl).cell rfl, rfl, hS2.drew.frame⟩⟩
  · rintro e w' ⟨v, rfl, rfl, h⟩; exact ⟨rfl, h⟩
end PG
end Go.Proofs.YtjmlfknogjaemaaDoor

/- Page: the document's Decide; 'asked'. -/
set_option linter.unusedVariables false
set_option linter.unusedSimpArgs false
set_option maxRecDepth 10000
namespace Go.Proofs.YtjmlfknogjaemaaDoor
open Go Go.Proofs.YtjmlfknogjaemaaDoor.Vc
namespace PG
open Vc.PG
end PG
end Go.Proofs.YtjmlfknogjaemaaDoor
/- The plain statements of some functions, printed by vcgen.py. -/
set_option maxRecDepth 100000
set_option maxHeartbeats 4000000
set_option linter.unusedVariables false
namespace Go.Proofs.YtjmlfknogjaemaaDoor
open Go Go.Proofs.YtjmlfknogjaemaaDoor.Vc
theorem W1.mixed : Tryd.prog.follows .mixedOrders = true := by kernel_rfl
/-- (*gatehouse/names.Index[string]).Of -/
def f7.AL : Nat → Option Ann := fun _ => none
def f7.AC : Nat → Option Ann := fun _ => none
def f7.VC (a0 : Nat) (sa1 : ByteArray) (w : World) (R : Value → World → Prop) : Prop :=
  ∃ b0,
  w.cell? ⟨a0, 0, none⟩ = some (.map b0) ∧
  ∃ d0 g0,
  ∃ h0, (Instr.lookup 51 (.map b0) (.string sa1) true).run Tryd.prog w = .ok (.tuple #[.int .i64 d0, .bool g0]) h0 ∧
  sel g0 (
  R (.int .i64 d0) h0) (
  ∃ i0 j0 k0,
  h0.cell? ⟨a0, 1, none⟩ = some (.slice i0 j0 k0) ∧
  sel (decide ((1048576 : Int) ≤ ((j0 : Int) : Int))) (
  R (.int .i64 0) h0) (
  ∃ p0 q0 t0,
  h0.cell? ⟨a0, 1, none⟩ = some (.slice p0 q0 t0) ∧
  let u0 := World.alloc h0 (.cells #[.string sa1] 9);
  ∃ v0 x0 y0,
  ∃ z0, (Builtin.append_ #[27, 27] 27 #[.slice p0 q0 t0, .slice (some ⟨h0.heap.size, 0, none⟩) 1 1]).run Tryd.prog u0 = .ok (.slice v0 x0 y0) z0 ∧
  canStore z0 a0 1 1 ∧
  let b1 := setCs z0 a0 1 [.slice v0 x0 y0];
  ∃ d1,
  b1.cell? ⟨a0, 0, none⟩ = some (.map d1) ∧
  ∃ g1 h1 i1,
  b1.cell? ⟨a0, 1, none⟩ = some (.slice g1 h1 i1) ∧
  ∃ j1, (Instr.mapUpdate 51 (.map d1) (.string sa1) (.int .i64 (h1 : Int))).run Tryd.prog b1.drew = .ok () j1 ∧
  ∃ k1 p1 q1,
  j1.cell? ⟨a0, 1, none⟩ = some (.slice k1 p1 q1) ∧
  R (.int .i64 (p1 : Int)) j1))
theorem f7.eq (a0 : Nat) (sa1 : ByteArray) (w : World) (R : Value → World → Prop) : f7.VC a0 sa1 w R = funV Tryd.prog Tryd.f7 f7.AL f7.AC #[.pointer (some ⟨a0, 0, none⟩), .string sa1] w R := by kernel_rfl
theorem f7.calls {a0 : Nat} {sa1 : ByteArray} {w : World} {R : Value → World → Prop} (h : f7.VC a0 sa1 w R) : Calls Tryd.prog 7 #[.pointer (some ⟨a0, 0, none⟩), .string sa1] w fun e w' => ∃ v, e = .returned v ∧ R v w' :=
  funV_sound (fn := Tryd.f7) (AL := f7.AL) (AC := f7.AC) W1.mixed (by kernel_rfl) (by rw [← f7.eq a0 sa1]; exact h)

end Go.Proofs.YtjmlfknogjaemaaDoor
/- Page: the index of texts: its contracts. -/
set_option linter.unusedVariables false
set_option linter.unusedSimpArgs false
set_option maxRecDepth 10000
namespace Go.Proofs.YtjmlfknogjaemaaDoor
open Go Go.Proofs.YtjmlfknogjaemaaDoor.Vc
namespace NI
abbrev encS (s : ByteArray) : Value := .string s
abbrev encN (n : Int) : Value := .int .i64 n
abbrev txC (v : Value) (l : List ByteArray) : Chunk := Chunk.sl 9 1 v (l.map fun s => [Value.string s])
abbrev mpC (r : Nat) (l : List ByteArray) : Chunk := Chunk.map encS encN r (IX.pairs l)
abbrev xB (x : Nat) (y : Nat × Option Addr × Nat × Nat) : Chunk := Chunk.blk x #[.map (some y.1), .slice y.2.1 y.2.2.1 y.2.2.2] 53
/-- An index at x that knows the things l. -/
def idxC (x : Nat) (l : List ByteArray) : Chunk :=
  Chunk.ex fun y : Nat × Option Addr × Nat × Nat => Chunk.star (xB x y) (Chunk.star (mpC y.1 l) (txC (.slice y.2.1 y.2.2.1 y.2.2.2) l))
section
variable {S : List Nat} {w0 w : World} {K : List Chunk} {x : Nat} {l : List ByteArray}
theorem openI (h : St S w0 w (idxC x l :: K)) : ∃ y : Nat × Option Addr × Nat × Nat, St S w0 w (xB x y :: mpC y.1 l :: txC (.slice y.2.1 y.2.2.1 y.2.2.2) l :: K) := by
  obtain ⟨y, h1⟩ := h.unex 0 rfl
  have h2 := St.split h1
  have h3 := St.split (h2.perm (List.Perm.swap _ _ _))
  exact ⟨y, h3.perm (((List.Perm.swap _ _ _).cons _).trans (List.Perm.swap _ _ _))⟩
theorem closeI (y : Nat × Option Addr × Nat × Nat) (h : St S w0 w (xB x y :: mpC y.1 l :: txC (.slice y.2.1 y.2.2.1 y.2.2.2) l :: K)) : St S w0 w (idxC x l :: K) := by
  have h2 := St.join (h.perm ((List.Perm.swap _ _ _).trans ((List.Perm.swap _ _ _).cons _)))
  have h3 := St.join (h2.perm (List.Perm.swap _ _ _))
  exact h3.as 0 rfl (idxC x l) (fun F hF => ⟨y, hF⟩)
theorem new (h : St S w0 w K) : Calls Tryd.prog 6 #[] w fun e w' => ∃ x, e = .returned (.pointer (some ⟨x, 0, none⟩)) ∧ St S w0 w' (idxC x [] :: K) := by
  refine Calls.mono (f6.calls (R := fun v w' => ∃ x, v = .pointer (some ⟨x, 0, none⟩) ∧ St S w0 w' (idxC x [] :: K)) ?_) ?_
  · dsimp only [f6.VC]
    have h1 := (h.nil 9 1).mapNew (encK := encS) (encV := encN)
    have h2 := h1.alloc #[.map (some w.heap.size), .slice none 0 0] 53
    exact ⟨_, rfl, closeI (w.heap.size, none, 0, 0) h2⟩
  · rintro e w' ⟨v, rfl, x, rfl, h⟩; exact ⟨x, rfl, h⟩
end
theorem under120 : Tryd.prog.underlying 51 = some (.map 9 3) := by kernel_rfl
theorem under9 : Tryd.prog.underlying 9 = some .string := by kernel_rfl
theorem info3 : ∃ i, Tryd.prog.info? 3 = some i ∧ i.zero = some (.int .i64 0) ∧ i.size = 1 ∧ i.bytes = 8 := ⟨Tryd.prog.types[3]!, by kernel_rfl, by kernel_rfl, by kernel_rfl, by kernel_rfl⟩
theorem info9 : ∃ i, Tryd.prog.info? 9 = some i ∧ i.zero = some (.string ⟨#[]⟩) ∧ i.size = 1 ∧ i.bytes = 16 := ⟨Tryd.prog.types[9]!, by kernel_rfl, by kernel_rfl, by kernel_rfl, by kernel_rfl⟩
theorem under25 : Tryd.prog.underlying 27 = some (.slice 9) := by kernel_rfl
theorem keyS : GM.KeyLaw Tryd.prog 9 encS := GM.KeyLaw.text under9
/-- A lookup in an index's map. -/
theorem lookI {w : World} {mp : Nat} {l : List ByteArray} (h : GM.MapIs encS encN w mp (IX.pairs l)) (s : ByteArray) :
    (Instr.lookup 51 (.map (some mp)) (.string s) true).run Tryd.prog w = .ok (.tuple #[.int .i64 (IX.num l s : Int), .bool (decide (IX.num l s ≠ 0))]) w := by
  obtain ⟨ti, i1, i2, i3, i4⟩ := info3
  have h1 := GM.look (d := (0 : Int)) under120 keyS i1 i2 h s true
  rw [(IX.get_pairs l s).1, (IX.get_pairs l s).2] at h1
  exact h1
section
variable {S : List Nat} {w0 w : World} {K : List Chunk} {x : Nat} {l : List ByteArray}
end
section
variable {S : List Nat} {w0 w : World} {K : List Chunk} {x : Nat} {l : List ByteArray}
theorem of_ {F : List Nat} (hI : St F w w [idxC x l]) (hl : l.length ≤ 1048576) (s : ByteArray) : Calls Tryd.prog 7 #[.pointer (some ⟨x, 0, none⟩), .string s] w fun e w' => e = .returned (.int .i64 (IX.ofN l s : Int)) ∧ St F w w' [idxC x (IX.of l s)] := by
  refine Calls.mono (f7.calls (R := fun v w' => v = .int .i64 (IX.ofN l s : Int) ∧ St F w w' [idxC x (IX.of l s)]) ?_) ?_
  · dsimp only [f7.VC]
    obtain ⟨y, hS⟩ := openI hI
    have hn := hS.slLen 2 rfl
    rw [List.length_map] at hn
    refine ⟨_, (hS.blk 0 rfl).cell rfl, _, _, _, lookI (hS.mapIs 1 rfl) s, sel_of (fun h0 => ?_) (fun h0 => ?_)⟩
    · have h0 : IX.num l s ≠ 0 := of_decide_eq_true h0
      have e1 : IX.ofN l s = IX.num l s := by unfold IX.ofN; rw [if_neg h0]
      have e2 : IX.of l s = l := by unfold IX.of; rw [if_neg h0]
      rw [e1, e2]
      exact ⟨rfl, hI⟩
    · have h0 : IX.num l s = 0 := by simpa using h0
      refine ⟨_, _, _, (hS.blk 0 rfl).cell rfl, sel_of (fun hb => ?_) (fun hb => ?_)⟩
      · have hb : 1048576 ≤ l.length := by have := of_decide_eq_true hb; omega
        have e1 : IX.ofN l s = 0 := by unfold IX.ofN; rw [if_pos h0, if_pos hb]
        have e2 : IX.of l s = l := by unfold IX.of; rw [if_pos h0, if_pos hb]
        rw [e1, e2]
        exact ⟨rfl, hI⟩
      · have hb : ¬ l.length ≥ 1048576 := by have := of_decide_eq_false hb; omega
        have e1 : IX.ofN l s = l.length + 1 := by unfold IX.ofN; rw [if_pos h0, if_neg hb]
        have e2 : IX.of l s = l ++ [s] := by unfold IX.of; rw [if_pos h0, if_neg hb]
        rw [e1, e2]
        have hS2 := hS.alloc #[.string s] 9
        obtain ⟨ti, i1, i2, i3, i4⟩ := info9
        obtain ⟨g', cap', w3, hrun, hS3⟩ := hS2.append (P := Tryd.prog) (ty := 27) (r := [.string s]) 3 under25 i1 i2 i3 rfl (by decide) rfl (hS2.blk 0 rfl) rfl rfl (by intro u hu; simp at hu; subst hu; rfl) (by rw [i4]; simp; omega) (by simp [maxLen]; omega)
        have el : (l.map fun s => [Value.string s]).length = l.length := by simp
        rw [el] at hrun
        have hS3 : St F w w3 [xB x y, mpC y.1 l, txC (.slice (some ⟨g', 0, none⟩) (l.length + 1) cap') (l ++ [s])] := by
          have := hS3.tail
          rw [el, show (l.map fun s => [Value.string s]) ++ [[Value.string s]] = (l ++ [s]).map (fun s => [Value.string s]) by simp] at this
          exact this
        refine ⟨_, _, _, (hS.blk 0 rfl).cell rfl, _, _, _, _, hrun, (hS3.blk 0 rfl).can (by simp), ?_⟩
        have hS4 := hS3.set 0 rfl 1 [.slice (some ⟨g', 0, none⟩) (l.length + 1) cap']
        generalize setCs w3 x 1 [.slice (some ⟨g', 0, none⟩) (l.length + 1) cap'] = w4 at *
        have hS4 : St F w w4 [xB x (y.1, some ⟨g', 0, none⟩, l.length + 1, cap'), mpC y.1 l, txC (.slice (some ⟨g', 0, none⟩) (l.length + 1) cap') (l ++ [s])] := hS4
        obtain ⟨w5, hup, hS5⟩ := hS4.drew.mapUpd 1 rfl under120 keyS s (((l.length + 1 : Nat) : Int))
        rw [IX.put_pairs l s h0] at hS5
        exact ⟨_, (hS4.blk 0 rfl).cell rfl, _, _, _, (hS4.blk 0 rfl).cell rfl, _, hup, _, _, _, (hS5.blk 0 rfl).cell rfl, rfl, closeI (y.1, some ⟨g', 0, none⟩, l.length + 1, cap') hS5⟩
  · rintro e w' ⟨v, rfl, rfl, h⟩; exact ⟨rfl, h⟩
theorem of (h : St S w0 w K) (i : Nat) (hi : K[i]? = some (idxC x l)) (hl : l.length ≤ 1048576) (s : ByteArray) : Calls Tryd.prog 7 #[.pointer (some ⟨x, 0, none⟩), .string s] w fun e w' => e = .returned (.int .i64 (IX.ofN l s : Int)) ∧ St S w0 w' (K.set i (idxC x (IX.of l s))) :=
  h.use i hi (fun F hF => of_ hF hl s)
end
section
variable {S : List Nat} {w0 w : World} {K : List Chunk} {x : Nat} {l : List ByteArray}
/-- The thing that has a number. -/
def thing (l : List ByteArray) (n : Int) : ByteArray × Bool := if n < 1 ∨ (l.length : Int) < n then (⟨#[]⟩, false) else (l.getD (n - 1).toNat ⟨#[]⟩, true)
end
end NI
end Go.Proofs.YtjmlfknogjaemaaDoor
/- Page: the document's index of texts: its contracts. -/
set_option linter.unusedVariables false
set_option linter.unusedSimpArgs false
set_option maxRecDepth 10000
namespace Go.Proofs.YtjmlfknogjaemaaDoor
open Go Go.Proofs.YtjmlfknogjaemaaDoor.Vc
namespace NI
abbrev rB (T : TypeId) (x : Nat) (y : Option Addr × Nat × Nat) : Chunk := Chunk.blk x #[.slice y.1 y.2.1 y.2.2] T
/-- The document's index at x that knows the things l. -/
def refI (T : TypeId) (x : Nat) (l : List ByteArray) : Chunk :=
  Chunk.ex fun y : Option Addr × Nat × Nat => Chunk.star (rB T x y) (txC (.slice y.1 y.2.1 y.2.2) l)
section
variable {S : List Nat} {w0 w : World} {K : List Chunk} {x : Nat} {l : List ByteArray} {T : TypeId}
theorem openX (h : St S w0 w (refI T x l :: K)) : ∃ y : Option Addr × Nat × Nat, St S w0 w (rB T x y :: txC (.slice y.1 y.2.1 y.2.2) l :: K) := by
  obtain ⟨y, h1⟩ := h.unex 0 rfl
  exact ⟨y, St.split h1⟩
theorem textAt {A : Option Addr} {n c : Nat} (h : St S w0 w K) (i : Nat) (hi : K[i]? = some (txC (.slice A n c) l)) {q : Nat} (hq : q < l.length) : n = l.length ∧ ∃ g, A = some ⟨g, 0, none⟩ ∧ w.cell? ⟨g, 0 + q * 1, none⟩ = some (.string (l.getD q ⟨#[]⟩)) := by
  have hn := h.slLen i hi
  rw [List.length_map] at hn
  obtain ⟨g, hg, hc⟩ := h.slGet i hi (by simp; omega)
  have := hc q 0 (.string (l.getD q ⟨#[]⟩)) (by simpa using hq) (by decide) (by simp [List.getD_eq_getElem?_getD, hq])
  exact ⟨hn, g, hg, by rw [show 0 + q * 1 = q * 1 + 0 by omega]; exact this⟩
end
section
variable {S : List Nat} {w0 w : World} {K : List Chunk} {x : Nat} {l : List ByteArray} {T : TypeId}
end
end NI
end Go.Proofs.YtjmlfknogjaemaaDoor

/- Page: the law's 'index': an index that was asked for some names, and the document's. -/
set_option linter.unusedVariables false
set_option linter.unusedSimpArgs false
set_option maxRecDepth 10000
namespace Go.Proofs.YtjmlfknogjaemaaDoor
open Go Go.Proofs.YtjmlfknogjaemaaDoor.Vc
namespace NI
def InX (w : World) (A : Option Addr) (n : Nat) (l : List ByteArray) : Prop := n = l.length ∧ (0 < n → ∃ b o, A = some ⟨b, o, none⟩ ∧ ∀ i, i < n → w.cell? ⟨b, o + i, none⟩ = some (.string (l.getD i ByteArray.empty)))
theorem InX.fr {w w' : World} {A : Option Addr} {n : Nat} {l : List ByteArray} (h : InX w A n l) (hf : Fr [] w w') : InX w' A n l := by
  refine ⟨h.1, fun hn => ?_⟩
  obtain ⟨b, o, rfl, h2⟩ := h.2 hn
  exact ⟨b, o, rfl, fun i hi => hf.cell (h2 i hi)⟩
theorem of_le {l : List ByteArray} (h : l.length ≤ 1048576) (s : ByteArray) : (IX.of l s).length ≤ 1048576 := by
  unfold IX.of
  split
  · split
    · exact h
    · simp; omega
  · exact h
/-- Asked for all of a list. -/
def all (l known : List ByteArray) : List ByteArray := known.foldl IX.of l
theorem all_le : ∀ (known l : List ByteArray), l.length ≤ 1048576 → (all l known).length ≤ 1048576
  | [], l, h => h
  | s :: known, l, h => all_le known (IX.of l s) (of_le h s)
end NI
end Go.Proofs.YtjmlfknogjaemaaDoor
/- Page: graphs as plain lists; when they are valid. -/
set_option linter.unusedVariables false
set_option linter.unusedSimpArgs false
set_option maxRecDepth 10000
namespace Go.Proofs.YtjmlfknogjaemaaDoor.Vc
open Go
namespace PG
abbrev Gd := List ByteArray × List ByteArray × List ByteArray × List Int × List Int × List (List Int) × Unit
def gA (g : Gd) : List ByteArray := g.1
def gS (g : Gd) : List ByteArray := g.2.1
def gO (g : Gd) : List ByteArray := g.2.2.1
def gF (g : Gd) : List Int := g.2.2.2.1
def gN (g : Gd) : List Int := g.2.2.2.2.1
def gM (g : Gd) : List (List Int) := g.2.2.2.2.2.1
/-- The greatest number of a list of classes that are numbered as they come. -/
def great : List Int → Nat → Option Nat
  | [], n => some n
  | x :: l, n => if x < 1 ∨ (n : Int) + 1 < x then none else great l (max n x.toNat)
theorem great_le : ∀ (l : List Int) (n m : Nat), great l n = some m → m ≤ n + l.length
  | [], n, m, h => by simp [great] at h; omega
  | x :: l, n, m, h => by
    rw [great] at h
    split at h
    · cases h
    · rename_i hx
      have := great_le l _ m h
      simp only [List.length_cons]
      omega
theorem great_ge : ∀ (l : List Int) (n m : Nat), great l n = some m → n ≤ m ∧ ∀ x ∈ l, 1 ≤ x ∧ x ≤ m
  | [], n, m, h => by simp [great] at h; simp [h]
  | x :: l, n, m, h => by
    rw [great] at h
    split at h
    · cases h
    · rename_i hx
      have := great_ge l _ m h
      refine ⟨by omega, fun y hy => ?_⟩
      rcases List.mem_cons.1 hy with rfl | hy
      · omega
      · exact this.2 y hy
def col (M : List (List Int)) (y : Nat) : List Int := M.map fun r => r.getD y 0
def shapedB (M : List (List Int)) (n m b : Nat) : Bool := decide (M.length = n) && M.all fun r => decide (r.length = m) && r.all fun x => decide (x < 2 ^ b)
def validP (g : Gd) : Bool :=
  decide ((gA g).length ≤ 16 ∧ (gS g).length ≤ 64 ∧ (gO g).length ≤ 64 ∧ (gF g).length = (gS g).length ∧ (gN g).length = (gO g).length) &&
  decide ((gA g).Nodup ∧ (gS g).Nodup ∧ (gO g).Nodup) &&
  match great (gF g) 0, great (gN g) 0 with
  | some n, some m => shapedB (gM g) n m (gA g).length && decide ((gM g).Nodup) && decide (((List.range m).map (col (gM g))).Nodup)
  | _, _ => false
theorem nodup_getD {α : Type} (d : α) (l : List α) : l.Nodup ↔ ∀ a b, a < b → b < l.length → l.getD a d ≠ l.getD b d := by
  rw [List.Nodup, List.pairwise_iff_getElem]
  constructor
  · intro h a b hab hb
    have := h a b (by omega) hb hab
    simpa [List.getD_eq_getElem?_getD, hb, show a < l.length by omega] using this
  · intro h i j hi hj hij
    have := h i j hij hj
    simpa [List.getD_eq_getElem?_getD, hi, hj] using this
theorem drop_cons {α : Type} (d : α) (l : List α) (i : Nat) (hi : i < l.length) : l.drop i = l.getD i d :: l.drop (i + 1) := by
  rw [List.drop_eq_getElem_cons hi]; simp [List.getD_eq_getElem?_getD, hi]
theorem mem_getD {α : Type} (d : α) (l : List α) (x : α) : x ∈ l ↔ ∃ i, i < l.length ∧ l.getD i d = x := by
  rw [List.mem_iff_getElem]
  constructor
  · rintro ⟨i, hi, rfl⟩; exact ⟨i, hi, by simp [List.getD_eq_getElem?_getD, hi]⟩
  · rintro ⟨i, hi, h⟩; exact ⟨i, hi, by simpa [List.getD_eq_getElem?_getD, hi] using h⟩
theorem ext_getD {α : Type} (d : α) (a b : List α) : a = b ↔ a.length = b.length ∧ ∀ i, i < a.length → a.getD i d = b.getD i d := by
  constructor
  · rintro rfl; exact ⟨rfl, fun _ _ => rfl⟩
  · rintro ⟨h1, h2⟩
    refine List.ext_getElem h1 fun i hi hj => ?_
    have := h2 i hi
    simpa [List.getD_eq_getElem?_getD, hi, hj] using this
/-- The first place of a thing; -1: it has none. -/
def idxI {α : Type} [DecidableEq α] (l : List α) (s : α) : Int := match l.findIdx? (fun x => decide (x = s)) with | some j => (j : Int) | none => -1
theorem idxI_some {α : Type} [DecidableEq α] (d : α) {l : List α} {s : α} {j : Nat} (hj : j < l.length) (hno : ∀ q, q < j → l.getD q d ≠ s) (h : l.getD j d = s) : idxI l s = (j : Int) := by
  have : l.findIdx? (fun x => decide (x = s)) = some j := by
    rw [List.findIdx?_eq_some_iff_getElem]
    refine ⟨hj, ?_, fun q hq => ?_⟩
    · rw [List.getD_eq_getElem?_getD, List.getElem?_eq_getElem hj] at h
      simpa using h
    · have := hno q hq
      rw [List.getD_eq_getElem?_getD, List.getElem?_eq_getElem (by omega)] at this
      simpa using this
  unfold idxI
  rw [this]
theorem idxI_none {α : Type} [DecidableEq α] (d : α) {l : List α} {s : α} (hno : ∀ q, q < l.length → l.getD q d ≠ s) : idxI l s = -1 := by
  have : l.findIdx? (fun x => decide (x = s)) = none := by
    rw [List.findIdx?_eq_none_iff]
    intro x hx
    obtain ⟨q, hq, rfl⟩ := List.mem_iff_getElem.1 hx
    have := hno q hq
    rw [List.getD_eq_getElem?_getD, List.getElem?_eq_getElem hq] at this
    simpa using this
  unfold idxI
  rw [this]
/-- Does a list have a thing? -/
def memB {α : Type} [DecidableEq α] (l : List α) (s : α) : Bool := l.any fun x => decide (x = s)
theorem memB_iff {α : Type} [DecidableEq α] (l : List α) (s : α) : memB l s = true ↔ s ∈ l := by
  unfold memB
  rw [List.any_eq_true]
  constructor
  · rintro ⟨x, hx, he⟩
    have : x = s := by simpa using he
    rw [← this]; exact hx
  · intro h; exact ⟨s, h, by simp⟩
theorem idxI_mem {α : Type} [DecidableEq α] (l : List α) (s : α) : decide (0 ≤ idxI l s) = memB l s := by
  rw [Bool.eq_iff_iff, memB_iff, decide_eq_true_iff]
  unfold idxI
  cases h : l.findIdx? (fun x => decide (x = s)) with
  | none =>
    rw [List.findIdx?_eq_none_iff] at h
    have : s ∉ l := fun hs => by have := h s hs; simp at this
    simp [this]
  | some j =>
    obtain ⟨hj, he, _⟩ := List.findIdx?_eq_some_iff_getElem.mp h
    have hs : s ∈ l := by
      have : l[j] = s := by simpa using he
      rw [← this]; exact List.getElem_mem hj
    simp [hs]
end PG
end Go.Proofs.YtjmlfknogjaemaaDoor.Vc
