/- JudgeWrong: the plain law. -/
import Derived.Test.YtddbebhklmaeoaaM23
import Derived.Test.YtddbebhklmaeoaaM5
import Derived.Test.YtddbebhklmaeoaaProg
import Derived.KernelRfl
set_option linter.unusedVariables false
set_option linter.unusedSimpArgs false
set_option maxRecDepth 10000
namespace Go.Proofs.Ytddbebhklmaeoaa
open Go Go.Proofs.Ytddbebhklmaeoaa.Vc
namespace JG
open Vc.PG JD
abbrev noP : PolD := ([], [], [], [], [], [], [], [], [], [], [], ())
abbrev wr1 (t : TriD) (yes : Bool) : CalD := (1000000000, 1000000001, false, false, yes, noP, t, ())
abbrev wr2 (t : TriD) (yes : Bool) : CalD := (1000000002, 1000000003, false, false, !yes, noP, t, ())
def Tame (c : CalD) : Prop := 0 ≤ cBegan c ∧ cBegan c ≤ cEnded c ∧ cEnded c < 1000000000
section
variable {p : PolD} {base : List CalD} {t : TriD} {yes : Bool}
theorem wr_get1 : (base ++ [wr1 t yes, wr2 t yes]).getD base.length cd = wr1 t yes := by
  rw [List.getD_eq_getElem?_getD, List.getElem?_append_right (Nat.le_refl _), Nat.sub_self]; rfl
theorem wr_get2 : (base ++ [wr1 t yes, wr2 t yes]).getD (base.length + 1) cd = wr2 t yes := by
  rw [List.getD_eq_getElem?_getD, List.getElem?_append_right (by omega), show base.length + 1 - base.length = 1 by omega]; rfl
theorem wr_get0 (h : ∀ c ∈ base, Tame c) {a : Nat} (ha : a < base.length) : Tame ((base ++ [wr1 t yes, wr2 t yes]).getD a cd) := by
  rw [List.getD_eq_getElem?_getD, List.getElem?_append_left ha, ← List.getD_eq_getElem?_getD]
  exact h _ ((mem_getD cd _ _).2 ⟨a, ha, rfl⟩)
theorem wr_hist (h : ∀ c ∈ base, Tame c) : histB (base ++ [wr1 t yes, wr2 t yes]) = true := by
  rw [histB, List.all_eq_true]
  intro c hc
  rcases List.mem_append.1 hc with hc | hc
  · obtain ⟨h1, h2, _⟩ := h c hc
    exact ok3 (by omega) (by omega)
  · rcases List.mem_cons.1 hc with rfl | hc
    · exact ok3 (show ¬ (1000000000 : Int) < 0 by decide) (show ¬ (1000000001 : Int) < 1000000000 by decide)
    · rw [List.mem_singleton.1 hc]; exact ok3 (show ¬ (1000000002 : Int) < 0 by decide) (show ¬ (1000000003 : Int) < 1000000002 by decide)
theorem wrong_none (h : ∀ c ∈ base, Tame c) : JL.path (histOf p (base ++ [wr1 t yes, wr2 t yes])) (0, -1) = none := by
  cases hr : JL.path (histOf p (base ++ [wr1 t yes, wr2 t yes])) (0, -1) with
  | none => rfl
  | some r =>
    exfalso
    obtain ⟨⟨hR, hT, hF⟩, _⟩ := JL.found_right (hist_ok (wr_hist h)) hr
    have g1 := wr_get1 (base := base) (t := t) (yes := yes)
    have g2 := wr_get2 (base := base) (t := t) (yes := yes)
    have g0 := fun a (ha : a < base.length) => wr_get0 (t := t) (yes := yes) h ha
    have hlen : (base ++ [wr1 t yes, wr2 t yes]).length = base.length + 2 := by simp
    generalize base ++ [wr1 t yes, wr2 t yes] = l at *
    generalize JL.ints r = o at *
    generalize base.length = N at *
    have hT' : ∀ i, i < o.length → ∀ j, j ≤ i → ¬ (0 ≤ cEnded (l.getD (o.getD i 0).toNat cd) ∧ cEnded (l.getD (o.getD i 0).toNat cd) < cBegan (l.getD (o.getD j 0).toNat cd)) := hT
    have hF' : ∀ k : Nat, k < l.length → 0 ≤ cEnded (l.getD k cd) → (k : Int) ∈ o := hF
    obtain ⟨i, hi, hi2⟩ := JL.mem_all.1 (hF' N (by omega) (by rw [g1]; exact (show (0 : Int) ≤ 1000000001 by decide)))
    obtain ⟨j, hj, hj2⟩ := JL.mem_all.1 (hF' (N + 1) (by omega) (by rw [g2]; exact (show (0 : Int) ≤ 1000000003 by decide)))
    have hij : i < j := by
      refine Classical.byContradiction fun hn => ?_
      refine hT' i hi j (by omega) ?_
      rw [hi2, hj2, Int.toNat_natCast, Int.toNat_natCast, g1, g2]
      exact (show (0 : Int) ≤ 1000000001 ∧ (1000000001 : Int) < 1000000002 by decide)
    have hji : j = i + 1 := by
      refine Classical.byContradiction fun hn => ?_
      have hq : i + 1 < o.length := by omega
      obtain ⟨q1, q2, q3, _⟩ := hR (i + 1) hq
      have q2 : o.getD (i + 1) 0 < (l.length : Int) := q2
      have hne1 : o.getD (i + 1) 0 ≠ (N : Int) := fun he => q3 (JL.mem_take.2 ⟨i, by omega, hi, by rw [he]; exact hi2⟩)
      have hne2 : o.getD (i + 1) 0 ≠ ((N + 1 : Nat) : Int) := fun he => by
        obtain ⟨_, _, q4, _⟩ := hR j hj
        exact q4 (JL.mem_take.2 ⟨i + 1, by omega, hq, by rw [he]; exact hj2.symm⟩)
      obtain ⟨b1, b2, b3⟩ := g0 (o.getD (i + 1) 0).toNat (by omega)
      refine hT' (i + 1) hq i (by omega) ⟨by omega, ?_⟩
      rw [hi2, Int.toNat_natCast, g1]
      exact b3
    subst hji
    obtain ⟨_, _, _, f1⟩ := hR i hi
    obtain ⟨_, _, _, f2⟩ := hR (i + 1) hj
    have hts := take_snoc hi
    have hl : JL.lastOf (histOf p l) (o.take (i + 1)) = JL.lastOf (histOf p l) (o.take i) := by
      rw [hts, JL.lastOf_snoc, hi2, Int.toNat_natCast]
      have : (histOf p l).counts N = (cWrite (l.getD N cd) && !cFailed (l.getD N cd)) := rfl
      rw [this, g1]; rfl
    rw [hl] at f2
    generalize JL.lastOf (histOf p l) (o.take i) = last at *
    rw [hi2, Int.toNat_natCast] at f1
    rw [hj2, Int.toNat_natCast] at f2
    have e1 : (histOf p l).fits last N = (allowsB geF ltF (polAt p l last) (cTri (l.getD N cd)) == cAllowed (l.getD N cd)) := rfl
    have e2 : (histOf p l).fits last (N + 1) = (allowsB geF ltF (polAt p l last) (cTri (l.getD (N + 1) cd)) == cAllowed (l.getD (N + 1) cd)) := rfl
    have e3 : (histOf p l).write N = cWrite (l.getD N cd) := rfl
    have e4 : (histOf p l).write (N + 1) = cWrite (l.getD (N + 1) cd) := rfl
    rw [e1, e3, g1] at f1
    rw [e2, e4, g2] at f2
    have f1 : (allowsB geF ltF (polAt p l last) t == yes) = true := f1.elim (fun h => by cases h) id
    have f2 : (allowsB geF ltF (polAt p l last) t == !yes) = true := f2.elim (fun h => by cases h) id
    cases yes <;> cases hh : allowsB geF ltF (polAt p l last) t <;> rw [hh] at f1 f2 <;> simp_all
theorem wrong_ans (h : ∀ c ∈ base, Tame c) (hn : base.length ≤ 10) : fitE (base ++ [wr1 t yes, wr2 t yes]) = 0 ∧ ansP p (base ++ [wr1 t yes, wr2 t yes]) = none := by
  have hf : fitE (base ++ [wr1 t yes, wr2 t yes]) = 0 := by
    unfold fitE
    rw [if_neg (by simp; omega), if_pos (wr_hist h)]
  exact ⟨hf, by unfold ansP; rw [if_pos hf, wrong_none h]⟩
end
end JG
end Go.Proofs.Ytddbebhklmaeoaa
/- The plain statements of some functions, printed by vcgen.py. -/
set_option maxRecDepth 100000
set_option maxHeartbeats 4000000
set_option linter.unusedVariables false
namespace Go.Proofs.Ytddbebhklmaeoaa
open Go Go.Proofs.Ytddbebhklmaeoaa.Vc
end Go.Proofs.Ytddbebhklmaeoaa
/- JudgeFollows: the walk. -/
set_option linter.unusedVariables false
set_option linter.unusedSimpArgs false
set_option maxRecDepth 10000
namespace Go.Proofs.Ytddbebhklmaeoaa
open Go Go.Proofs.Ytddbebhklmaeoaa.Vc
namespace JG
open Vc.PG JD
/-- What awake comes to. -/
def Awakes : Prop := ∀ w : World, Calls Try.prog 7 #[] w fun e w' => e = .returned (.bool true) ∧ Fr [] w w'
end JG
end Go.Proofs.Ytddbebhklmaeoaa
/- The plain statements of some functions, printed by vcgen.py. -/
set_option maxRecDepth 100000
set_option maxHeartbeats 4000000
set_option linter.unusedVariables false
namespace Go.Proofs.Ytddbebhklmaeoaa
open Go Go.Proofs.Ytddbebhklmaeoaa.Vc
theorem W9.mixed : Try.prog.follows .mixedOrders = true := by kernel_rfl
/-- gatehouse/gatehouselaw27.JudgeWrong -/
def f6.AL : Nat → Option Ann := fun r => match r with | 4 => some ⟨[(10, .slice), (11, .int .i64)], [1, 3, 4, 6, 9]⟩ | _ => none
def f6.AC : Nat → Option Ann := fun r => match r with | 8 => some ⟨[(45, .bool)], [1, 3, 4, 6, 9, 10, 11, 12]⟩ | 10 => some ⟨[], [1, 3, 4, 6, 9, 10, 11, 12]⟩ | _ => none
def f6.VC (Aa0_0 : Option Addr) (na0_0 ca0_0 : Nat) (Aa0_1 : Option Addr) (na0_1 ca0_1 : Nat) (Aa0_2 : Option Addr) (na0_2 ca0_2 : Nat) (Aa0_3 : Option Addr) (na0_3 ca0_3 : Nat) (Aa0_4 : Option Addr) (na0_4 ca0_4 : Nat) (Aa0_5 : Option Addr) (na0_5 ca0_5 : Nat) (Aa0_6 : Option Addr) (na0_6 ca0_6 : Nat) (Aa0_7 : Option Addr) (na0_7 ca0_7 : Nat) (Aa0_8 : Option Addr) (na0_8 ca0_8 : Nat) (Aa0_9 : Option Addr) (na0_9 ca0_9 : Nat) (Aa0_10 : Option Addr) (na0_10 ca0_10 : Nat) (Aa1 : Option Addr) (na1 ca1 : Nat) (sa2_0 : ByteArray) (sa2_1 : ByteArray) (sa2_2 : ByteArray) (ba3 : Bool) (w : World) (R : Value → World → Prop) : Prop :=
  let b0 := World.alloc w (.cells #[.slice Aa0_0 na0_0 ca0_0, .slice Aa0_1 na0_1 ca0_1, .slice Aa0_2 na0_2 ca0_2, .slice Aa0_3 na0_3 ca0_3, .slice Aa0_4 na0_4 ca0_4, .slice Aa0_5 na0_5 ca0_5, .slice Aa0_6 na0_6 ca0_6, .slice Aa0_7 na0_7 ca0_7, .slice Aa0_8 na0_8 ca0_8, .slice Aa0_9 na0_9 ca0_9, .slice Aa0_10 na0_10 ca0_10] 28);
  let d0 := World.alloc b0 (.cells #[.string sa2_0, .string sa2_1, .string sa2_2] 37);
  Calls Try.prog 7 #[] d0 fun g0 h0 =>
  ∃ i0,
  g0 = .returned (.bool i0) ∧
  ∃ j0 : Option Addr → Nat → Nat → Int → World → Nat → Prop,
  (∃ n, j0 none 0 0 0 h0 n) ∧
  ∀ k0 : Env, ∀ p0 q0 t0 u0 v0 x0, j0 p0 q0 t0 u0 v0 x0 →
  sel (decide ((u0 : Int) < ((na1 : Int) : Int))) (
  sel (decide ((u0 : Int) < (10 : Int))) (
  (0 : Int) ≤ u0 ∧ u0 < (na1 : Int) ∧
  needPtr Aa1 fun y0 z0 =>
  ∃ b1,
  v0.cell? ⟨y0, z0 + u0.toNat * 19, none⟩ = some (.int .i64 b1) ∧
  ∃ d1,
  v0.cell? ⟨y0, z0 + u0.toNat * 19 + 1, none⟩ = some (.int .i64 d1) ∧
  ∃ g1,
  v0.cell? ⟨y0, z0 + u0.toNat * 19 + 1 + 1, none⟩ = some (.bool g1) ∧
  ∃ h1,
  v0.cell? ⟨y0, z0 + u0.toNat * 19 + 1 + 1 + 1, none⟩ = some (.bool h1) ∧
  ∃ i1,
  v0.cell? ⟨y0, z0 + u0.toNat * 19 + 1 + 1 + 1 + 1, none⟩ = some (.bool i1) ∧
  ∃ j1 k1 p1,
  v0.cell? ⟨y0, z0 + u0.toNat * 19 + 1 + 1 + 1 + 1 + 1, none⟩ = some (.slice j1 k1 p1) ∧
  ∃ q1 t1 u1,
  v0.cell? ⟨y0, z0 + u0.toNat * 19 + 1 + 1 + 1 + 1 + 1 + 1, none⟩ = some (.slice q1 t1 u1) ∧
  ∃ v1 x1 y1,
  v0.cell? ⟨y0, z0 + u0.toNat * 19 + 1 + 1 + 1 + 1 + 1 + 1 + 1, none⟩ = some (.slice v1 x1 y1) ∧
  ∃ z1 b2 d2,
  v0.cell? ⟨y0, z0 + u0.toNat * 19 + 1 + 1 + 1 + 1 + 1 + 1 + 1 + 1, none⟩ = some (.slice z1 b2 d2) ∧
  ∃ g2 h2 i2,
  v0.cell? ⟨y0, z0 + u0.toNat * 19 + 1 + 1 + 1 + 1 + 1 + 1 + 1 + 1 + 1, none⟩ = some (.slice g2 h2 i2) ∧
  ∃ j2 k2 p2,
  v0.cell? ⟨y0, z0 + u0.toNat * 19 + 1 + 1 + 1 + 1 + 1 + 1 + 1 + 1 + 1 + 1, none⟩ = some (.slice j2 k2 p2) ∧
  ∃ q2 t2 u2,
  v0.cell? ⟨y0, z0 + u0.toNat * 19 + 1 + 1 + 1 + 1 + 1 + 1 + 1 + 1 + 1 + 1 + 1, none⟩ = some (.slice q2 t2 u2) ∧
  ∃ v2 x2 y2,
  v0.cell? ⟨y0, z0 + u0.toNat * 19 + 1 + 1 + 1 + 1 + 1 + 1 + 1 + 1 + 1 + 1 + 1 + 1, none⟩ = some (.slice v2 x2 y2) ∧
  ∃ z2 b3 d3,
  v0.cell? ⟨y0, z0 + u0.toNat * 19 + 1 + 1 + 1 + 1 + 1 + 1 + 1 + 1 + 1 + 1 + 1 + 1 + 1, none⟩ = some (.slice z2 b3 d3) ∧
  ∃ g3 h3 i3,
  v0.cell? ⟨y0, z0 + u0.toNat * 19 + 1 + 1 + 1 + 1 + 1 + 1 + 1 + 1 + 1 + 1 + 1 + 1 + 1 + 1, none⟩ = some (.slice g3 h3 i3) ∧
  ∃ j3 k3 p3,
  v0.cell? ⟨y0, z0 + u0.toNat * 19 + 1 + 1 + 1 + 1 + 1 + 1 + 1 + 1 + 1 + 1 + 1 + 1 + 1 + 1 + 1, none⟩ = some (.slice j3 k3 p3) ∧
  ∃ q3,
  v0.cell? ⟨y0, z0 + u0.toNat * 19 + 1 + 1 + 1 + 1 + 1 + 1 + 1 + 1 + 1 + 1 + 1 + 1 + 1 + 1 + 1 + 1, none⟩ = some (.string q3) ∧
  ∃ t3,
  v0.cell? ⟨y0, z0 + u0.toNat * 19 + 1 + 1 + 1 + 1 + 1 + 1 + 1 + 1 + 1 + 1 + 1 + 1 + 1 + 1 + 1 + 1 + 1, none⟩ = some (.string t3) ∧
  ∃ u3,
  v0.cell? ⟨y0, z0 + u0.toNat * 19 + 1 + 1 + 1 + 1 + 1 + 1 + 1 + 1 + 1 + 1 + 1 + 1 + 1 + 1 + 1 + 1 + 1 + 1, none⟩ = some (.string u3) ∧
  let v3 := World.alloc v0 (.cells #[.int .i64 0, .int .i64 0, .bool false, .bool false, .bool false, .slice none 0 0, .slice none 0 0, .slice none 0 0, .slice none 0 0, .slice none 0 0, .slice none 0 0, .slice none 0 0, .slice none 0 0, .slice none 0 0, .slice none 0 0, .slice none 0 0, .string ⟨#[]⟩, .string ⟨#[]⟩, .string ⟨#[]⟩] 39);
  canStore v3 v0.heap.size 0 19 ∧
  let x3 := setCs v3 v0.heap.size 0 [.int .i64 b1, .int .i64 d1, .bool g1, .bool h1, .bool i1, .slice j1 k1 p1, .slice q1 t1 u1, .slice v1 x1 y1, .slice z1 b2 d2, .slice g2 h2 i2, .slice j2 k2 p2, .slice q2 t2 u2, .slice v2 x2 y2, .slice z2 b3 d3, .slice g3 h3 i3, .slice j3 k3 p3, .string q3, .string t3, .string u3];
  ∃ y3 : World → Prop,
  (∃ z3 : Bool → World → Prop,
  (∃ b4,
  x3.cell? ⟨v0.heap.size, 0, none⟩ = some (.int .i64 b4) ∧
  sel (decide ((b4 : Int) < (0 : Int))) (
  ([.slice Aa1 na1 ca1, .bool ba3, .pointer (some ⟨w.heap.size, 0, none⟩), .pointer (some ⟨b0.heap.size, 0, none⟩), .bool i0, .slice p0 q0 t0, .int .i64 u0, .pointer (some ⟨v0.heap.size, 0, none⟩)] : List Value) = ([.slice Aa1 na1 ca1, .bool ba3, .pointer (some ⟨w.heap.size, 0, none⟩), .pointer (some ⟨b0.heap.size, 0, none⟩), .bool i0, .slice p0 q0 t0, .int .i64 u0, .pointer (some ⟨v0.heap.size, 0, none⟩)] : List Value) ∧ z3 true x3) (
  ∃ d4,
  x3.cell? ⟨v0.heap.size, 1, none⟩ = some (.int .i64 d4) ∧
  ∃ g4,
  x3.cell? ⟨v0.heap.size, 0, none⟩ = some (.int .i64 g4) ∧
  sel (decide ((d4 : Int) < (g4 : Int))) (
  ([.slice Aa1 na1 ca1, .bool ba3, .pointer (some ⟨w.heap.size, 0, none⟩), .pointer (some ⟨b0.heap.size, 0, none⟩), .bool i0, .slice p0 q0 t0, .int .i64 u0, .pointer (some ⟨v0.heap.size, 0, none⟩)] : List Value) = ([.slice Aa1 na1 ca1, .bool ba3, .pointer (some ⟨w.heap.size, 0, none⟩), .pointer (some ⟨b0.heap.size, 0, none⟩), .bool i0, .slice p0 q0 t0, .int .i64 u0, .pointer (some ⟨v0.heap.size, 0, none⟩)] : List Value) ∧ z3 true x3) (
  ∃ h4,
  x3.cell? ⟨v0.heap.size, 1, none⟩ = some (.int .i64 h4) ∧
  ([.slice Aa1 na1 ca1, .bool ba3, .pointer (some ⟨w.heap.size, 0, none⟩), .pointer (some ⟨b0.heap.size, 0, none⟩), .bool i0, .slice p0 q0 t0, .int .i64 u0, .pointer (some ⟨v0.heap.size, 0, none⟩)] : List Value) = ([.slice Aa1 na1 ca1, .bool ba3, .pointer (some ⟨w.heap.size, 0, none⟩), .pointer (some ⟨b0.heap.size, 0, none⟩), .bool i0, .slice p0 q0 t0, .int .i64 u0, .pointer (some ⟨v0.heap.size, 0, none⟩)] : List Value) ∧ z3 (decide ((1000000000 : Int) ≤ (h4 : Int))) x3))) ∧
  ∀ i4 : Env, ∀ j4 k4, z3 j4 k4 →
  sel j4 (
  canStore k4 v0.heap.size 0 1 ∧
  let p4 := setCs k4 v0.heap.size 0 [.int .i64 0];
  canStore p4 v0.heap.size 1 1 ∧
  let q4 := setCs p4 v0.heap.size 1 [.int .i64 5];
  ([.slice Aa1 na1 ca1, .bool ba3, .pointer (some ⟨w.heap.size, 0, none⟩), .pointer (some ⟨b0.heap.size, 0, none⟩), .bool i0, .slice p0 q0 t0, .int .i64 u0, .pointer (some ⟨v0.heap.size, 0, none⟩)] : List Value) = ([.slice Aa1 na1 ca1, .bool ba3, .pointer (some ⟨w.heap.size, 0, none⟩), .pointer (some ⟨b0.heap.size, 0, none⟩), .bool i0, .slice p0 q0 t0, .int .i64 u0, .pointer (some ⟨v0.heap.size, 0, none⟩)] : List Value) ∧ y3 q4) (
  ([.slice Aa1 na1 ca1, .bool ba3, .pointer (some ⟨w.heap.size, 0, none⟩), .pointer (some ⟨b0.heap.size, 0, none⟩), .bool i0, .slice p0 q0 t0, .int .i64 u0, .pointer (some ⟨v0.heap.size, 0, none⟩)] : List Value) = ([.slice Aa1 na1 ca1, .bool ba3, .pointer (some ⟨w.heap.size, 0, none⟩), .pointer (some ⟨b0.heap.size, 0, none⟩), .bool i0, .slice p0 q0 t0, .int .i64 u0, .pointer (some ⟨v0.heap.size, 0, none⟩)] : List Value) ∧ y3 k4)) ∧
  ∀ t4 : Env, ∀ u4, y3 u4 →
  ∃ v4,
  u4.cell? ⟨v0.heap.size, 0, none⟩ = some (.int .i64 v4) ∧
  ∃ x4,
  u4.cell? ⟨v0.heap.size, 1, none⟩ = some (.int .i64 x4) ∧
  ∃ y4,
  u4.cell? ⟨v0.heap.size, 2, none⟩ = some (.bool y4) ∧
  ∃ z4,
  u4.cell? ⟨v0.heap.size, 3, none⟩ = some (.bool z4) ∧
  ∃ b5,
  u4.cell? ⟨v0.heap.size, 4, none⟩ = some (.bool b5) ∧
  ∃ d5 g5 h5,
  u4.cell? ⟨v0.heap.size, 5, none⟩ = some (.slice d5 g5 h5) ∧
  ∃ i5 j5 k5,
  u4.cell? ⟨v0.heap.size, 6, none⟩ = some (.slice i5 j5 k5) ∧
  ∃ p5 q5 t5,
  u4.cell? ⟨v0.heap.size, 7, none⟩ = some (.slice p5 q5 t5) ∧
  ∃ u5 v5 x5,
  u4.cell? ⟨v0.heap.size, 8, none⟩ = some (.slice u5 v5 x5) ∧
  ∃ y5 z5 b6,
  u4.cell? ⟨v0.heap.size, 9, none⟩ = some (.slice y5 z5 b6) ∧
  ∃ d6 g6 h6,
  u4.cell? ⟨v0.heap.size, 10, none⟩ = some (.slice d6 g6 h6) ∧
  ∃ i6 j6 k6,
  u4.cell? ⟨v0.heap.size, 11, none⟩ = some (.slice i6 j6 k6) ∧
  ∃ p6 q6 t6,
  u4.cell? ⟨v0.heap.size, 12, none⟩ = some (.slice p6 q6 t6) ∧
  ∃ u6 v6 x6,
  u4.cell? ⟨v0.heap.size, 13, none⟩ = some (.slice u6 v6 x6) ∧
  ∃ y6 z6 b7,
  u4.cell? ⟨v0.heap.size, 14, none⟩ = some (.slice y6 z6 b7) ∧
  ∃ d7 g7 h7,
  u4.cell? ⟨v0.heap.size, 15, none⟩ = some (.slice d7 g7 h7) ∧
  ∃ i7,
  u4.cell? ⟨v0.heap.size, 16, none⟩ = some (.string i7) ∧
  ∃ j7,
  u4.cell? ⟨v0.heap.size, 17, none⟩ = some (.string j7) ∧
  ∃ k7,
  u4.cell? ⟨v0.heap.size, 18, none⟩ = some (.string k7) ∧
  let p7 := World.alloc u4 (.cells #[.int .i64 v4, .int .i64 x4, .bool y4, .bool z4, .bool b5, .slice d5 g5 h5, .slice i5 j5 k5, .slice p5 q5 t5, .slice u5 v5 x5, .slice y5 z5 b6, .slice d6 g6 h6, .slice i6 j6 k6, .slice p6 q6 t6, .slice u6 v6 x6, .slice y6 z6 b7, .slice d7 g7 h7, .string i7, .string j7, .string k7] 39);
  ∃ q7 t7 u7,
  ∃ v7, (Builtin.append_ #[29, 29] 29 #[.slice p0 q0 t0, .slice (some ⟨u4.heap.size, 0, none⟩) 1 1]).run Try.prog p7 = .ok (.slice q7 t7 u7) v7 ∧
  let x7 : Int := IntKind.i64.wrap (u0 + 1);
  ([.slice Aa1 na1 ca1, .bool ba3, .pointer (some ⟨w.heap.size, 0, none⟩), .pointer (some ⟨b0.heap.size, 0, none⟩), .bool i0] : List Value) = ([.slice Aa1 na1 ca1, .bool ba3, .pointer (some ⟨w.heap.size, 0, none⟩), .pointer (some ⟨b0.heap.size, 0, none⟩), .bool i0] : List Value) ∧ ∃ m, m < x0 ∧ j0 q7 t7 u7 x7 v7 m) (
  ∃ y7,
  v0.cell? ⟨b0.heap.size, 0, none⟩ = some (.string y7) ∧
  ∃ z7,
  v0.cell? ⟨b0.heap.size, 1, none⟩ = some (.string z7) ∧
  ∃ b8,
  v0.cell? ⟨b0.heap.size, 2, none⟩ = some (.string b8) ∧
  let d8 := World.alloc v0 (.cells #[.int .i64 1000000000, .int .i64 1000000001, .bool false, .bool false, .bool ba3, .slice none 0 0, .slice none 0 0, .slice none 0 0, .slice none 0 0, .slice none 0 0, .slice none 0 0, .slice none 0 0, .slice none 0 0, .slice none 0 0, .slice none 0 0, .slice none 0 0, .string y7, .string z7, .string b8] 39);
  ∃ g8 h8 i8,
  ∃ j8, (Builtin.append_ #[29, 29] 29 #[.slice p0 q0 t0, .slice (some ⟨v0.heap.size, 0, none⟩) 1 1]).run Try.prog d8 = .ok (.slice g8 h8 i8) j8 ∧
  ∃ k8,
  j8.cell? ⟨b0.heap.size, 0, none⟩ = some (.string k8) ∧
  ∃ p8,
  j8.cell? ⟨b0.heap.size, 1, none⟩ = some (.string p8) ∧
  ∃ q8,
  j8.cell? ⟨b0.heap.size, 2, none⟩ = some (.string q8) ∧
  let t8 := World.alloc j8 (.cells #[.int .i64 1000000002, .int .i64 1000000003, .bool false, .bool false, .bool (!ba3), .slice none 0 0, .slice none 0 0, .slice none 0 0, .slice none 0 0, .slice none 0 0, .slice none 0 0, .slice none 0 0, .slice none 0 0, .slice none 0 0, .slice none 0 0, .slice none 0 0, .string k8, .string p8, .string q8] 39);
  ∃ u8 v8 x8,
  ∃ y8, (Builtin.append_ #[29, 29] 29 #[.slice g8 h8 i8, .slice (some ⟨j8.heap.size, 0, none⟩) 1 1]).run Try.prog t8 = .ok (.slice u8 v8 x8) y8 ∧
  ∃ z8 b9 d9,
  y8.cell? ⟨w.heap.size, 0, none⟩ = some (.slice z8 b9 d9) ∧
  ∃ g9 h9 i9,
  y8.cell? ⟨w.heap.size, 1, none⟩ = some (.slice g9 h9 i9) ∧
  ∃ j9 k9 p9,
  y8.cell? ⟨w.heap.size, 2, none⟩ = some (.slice j9 k9 p9) ∧
  ∃ q9 t9 u9,
  y8.cell? ⟨w.heap.size, 3, none⟩ = some (.slice q9 t9 u9) ∧
  ∃ v9 x9 y9,
  y8.cell? ⟨w.heap.size, 4, none⟩ = some (.slice v9 x9 y9) ∧
  ∃ z9 bA dA,
  y8.cell? ⟨w.heap.size, 5, none⟩ = some (.slice z9 bA dA) ∧
  ∃ gA hA iA,
  y8.cell? ⟨w.heap.size, 6, none⟩ = some (.slice gA hA iA) ∧
  ∃ jA kA pA,
  y8.cell? ⟨w.heap.size, 7, none⟩ = some (.slice jA kA pA) ∧
  ∃ qA tA uA,
  y8.cell? ⟨w.heap.size, 8, none⟩ = some (.slice qA tA uA) ∧
  ∃ vA xA yA,
  y8.cell? ⟨w.heap.size, 9, none⟩ = some (.slice vA xA yA) ∧
  ∃ zA bB dB,
  y8.cell? ⟨w.heap.size, 10, none⟩ = some (.slice zA bB dB) ∧
  Calls Try.prog 10 #[.agg #[.slice z8 b9 d9, .slice g9 h9 i9, .slice j9 k9 p9, .slice q9 t9 u9, .slice v9 x9 y9, .slice z9 bA dA, .slice gA hA iA, .slice jA kA pA, .slice qA tA uA, .slice vA xA yA, .slice zA bB dB]] y8 fun gB hB =>
  ∃ iB jB kB pB qB tB uB vB xB yB zB bC dC gC hC iC jC kC pC qC tC uC vC xC yC zC bD dD gD hD iD jD kD,
  gB = .returned (.agg #[.slice iB jB kB, .slice pB qB tB, .slice uB vB xB, .slice yB zB bC, .slice dC gC hC, .slice iC jC kC, .slice pC qC tC, .slice uC vC xC, .slice yC zC bD, .slice dD gD hD, .slice iD jD kD]) ∧
  Calls Try.prog 9 #[.slice u8 v8 x8] hB fun pD qD =>
  ∃ tD uD vD,
  pD = .returned (.slice tD uD vD) ∧
  Calls Try.prog 11 #[.agg #[.slice iB jB kB, .slice pB qB tB, .slice uB vB xB, .slice yB zB bC, .slice dC gC hC, .slice iC jC kC, .slice pC qC tC, .slice uC vC xC, .slice yC zC bD, .slice dD gD hD, .slice iD jD kD], .slice tD uD vD] qD fun xD yD =>
  ∃ zD bE dE gE hE,
  xD = .returned (.tuple #[.slice zD bE dE, .bool gE, .int .i64 hE]) ∧
  sel i0 (
  sel (!gE) (
  sel ((hE : Int) == (0 : Int)) (
  R (.bool (((bE : Int) : Int) == (0 : Int))) yD) (
  R (.bool false) yD)) (
  R (.bool false) yD)) (
  R (.bool false) yD))) (
  ∃ iE,
  v0.cell? ⟨b0.heap.size, 0, none⟩ = some (.string iE) ∧
  ∃ jE,
  v0.cell? ⟨b0.heap.size, 1, none⟩ = some (.string jE) ∧
  ∃ kE,
  v0.cell? ⟨b0.heap.size, 2, none⟩ = some (.string kE) ∧
  let pE := World.alloc v0 (.cells #[.int .i64 1000000000, .int .i64 1000000001, .bool false, .bool false, .bool ba3, .slice none 0 0, .slice none 0 0, .slice none 0 0, .slice none 0 0, .slice none 0 0, .slice none 0 0, .slice none 0 0, .slice none 0 0, .slice none 0 0, .slice none 0 0, .slice none 0 0, .string iE, .string jE, .string kE] 39);
  ∃ qE tE uE,
  ∃ vE, (Builtin.append_ #[29, 29] 29 #[.slice p0 q0 t0, .slice (some ⟨v0.heap.size, 0, none⟩) 1 1]).run Try.prog pE = .ok (.slice qE tE uE) vE ∧
  ∃ xE,
  vE.cell? ⟨b0.heap.size, 0, none⟩ = some (.string xE) ∧
  ∃ yE,
  vE.cell? ⟨b0.heap.size, 1, none⟩ = some (.string yE) ∧
  ∃ zE,
  vE.cell? ⟨b0.heap.size, 2, none⟩ = some (.string zE) ∧
  let bF := World.alloc vE (.cells #[.int .i64 1000000002, .int .i64 1000000003, .bool false, .bool false, .bool (!ba3), .slice none 0 0, .slice none 0 0, .slice none 0 0, .slice none 0 0, .slice none 0 0, .slice none 0 0, .slice none 0 0, .slice none 0 0, .slice none 0 0, .slice none 0 0, .slice none 0 0, .string xE, .string yE, .string zE] 39);
  ∃ dF gF hF,
  ∃ iF, (Builtin.append_ #[29, 29] 29 #[.slice qE tE uE, .slice (some ⟨vE.heap.size, 0, none⟩) 1 1]).run Try.prog bF = .ok (.slice dF gF hF) iF ∧
  ∃ jF kF pF,
  iF.cell? ⟨w.heap.size, 0, none⟩ = some (.slice jF kF pF) ∧
  ∃ qF tF uF,
  iF.cell? ⟨w.heap.size, 1, none⟩ = some (.slice qF tF uF) ∧
  ∃ vF xF yF,
  iF.cell? ⟨w.heap.size, 2, none⟩ = some (.slice vF xF yF) ∧
  ∃ zF bG dG,
  iF.cell? ⟨w.heap.size, 3, none⟩ = some (.slice zF bG dG) ∧
  ∃ gG hG iG,
  iF.cell? ⟨w.heap.size, 4, none⟩ = some (.slice gG hG iG) ∧
  ∃ jG kG pG,
  iF.cell? ⟨w.heap.size, 5, none⟩ = some (.slice jG kG pG) ∧
  ∃ qG tG uG,
  iF.cell? ⟨w.heap.size, 6, none⟩ = some (.slice qG tG uG) ∧
  ∃ vG xG yG,
  iF.cell? ⟨w.heap.size, 7, none⟩ = some (.slice vG xG yG) ∧
  ∃ zG bH dH,
  iF.cell? ⟨w.heap.size, 8, none⟩ = some (.slice zG bH dH) ∧
  ∃ gH hH iH,
  iF.cell? ⟨w.heap.size, 9, none⟩ = some (.slice gH hH iH) ∧
  ∃ jH kH pH,
  iF.cell? ⟨w.heap.size, 10, none⟩ = some (.slice jH kH pH) ∧
  Calls Try.prog 10 #[.agg #[.slice jF kF pF, .slice qF tF uF, .slice vF xF yF, .slice zF bG dG, .slice gG hG iG, .slice jG kG pG, .slice qG tG uG, .slice vG xG yG, .slice zG bH dH, .slice gH hH iH, .slice jH kH pH]] iF fun qH tH =>
  ∃ uH vH xH yH zH bI dI gI hI iI jI kI pI qI tI uI vI xI yI zI bJ dJ gJ hJ iJ jJ kJ pJ qJ tJ uJ vJ xJ,
  qH = .returned (.agg #[.slice uH vH xH, .slice yH zH bI, .slice dI gI hI, .slice iI jI kI, .slice pI qI tI, .slice uI vI xI, .slice yI zI bJ, .slice dJ gJ hJ, .slice iJ jJ kJ, .slice pJ qJ tJ, .slice uJ vJ xJ]) ∧
  Calls Try.prog 9 #[.slice dF gF hF] tH fun yJ zJ =>
  ∃ bK dK gK,
  yJ = .returned (.slice bK dK gK) ∧
  Calls Try.prog 11 #[.agg #[.slice uH vH xH, .slice yH zH bI, .slice dI gI hI, .slice iI jI kI, .slice pI qI tI, .slice uI vI xI, .slice yI zI bJ, .slice dJ gJ hJ, .slice iJ jJ kJ, .slice pJ qJ tJ, .slice uJ vJ xJ], .slice bK dK gK] zJ fun hK iK =>
  ∃ jK kK pK qK tK,
  hK = .returned (.tuple #[.slice jK kK pK, .bool qK, .int .i64 tK]) ∧
  sel i0 (
  sel (!qK) (
  sel ((tK : Int) == (0 : Int)) (
  R (.bool (((kK : Int) : Int) == (0 : Int))) iK) (
  R (.bool false) iK)) (
  R (.bool false) iK)) (
  R (.bool false) iK))
theorem f6.eq (Aa0_0 : Option Addr) (na0_0 ca0_0 : Nat) (Aa0_1 : Option Addr) (na0_1 ca0_1 : Nat) (Aa0_2 : Option Addr) (na0_2 ca0_2 : Nat) (Aa0_3 : Option Addr) (na0_3 ca0_3 : Nat) (Aa0_4 : Option Addr) (na0_4 ca0_4 : Nat) (Aa0_5 : Option Addr) (na0_5 ca0_5 : Nat) (Aa0_6 : Option Addr) (na0_6 ca0_6 : Nat) (Aa0_7 : Option Addr) (na0_7 ca0_7 : Nat) (Aa0_8 : Option Addr) (na0_8 ca0_8 : Nat) (Aa0_9 : Option Addr) (na0_9 ca0_9 : Nat) (Aa0_10 : Option Addr) (na0_10 ca0_10 : Nat) (Aa1 : Option Addr) (na1 ca1 : Nat) (sa2_0 : ByteArray) (sa2_1 : ByteArray) (sa2_2 : ByteArray) (ba3 : Bool) (w : World) (R : Value → World → Prop) : f6.VC Aa0_0 na0_0 ca0_0 Aa0_1 na0_1 ca0_1 Aa0_2 na0_2 ca0_2 Aa0_3 na0_3 ca0_3 Aa0_4 na0_4 ca0_4 Aa0_5 na0_5 ca0_5 Aa0_6 na0_6 ca0_6 Aa0_7 na0_7 ca0_7 Aa0_8 na0_8 ca0_8 Aa0_9 na0_9 ca0_9 Aa0_10 na0_10 ca0_10 Aa1 na1 ca1 sa2_0 sa2_1 sa2_2 ba3 w R = funV Try.prog Try.f6 f6.AL f6.AC #[.agg #[.slice Aa0_0 na0_0 ca0_0, .slice Aa0_1 na0_1 ca0_1, .slice Aa0_2 na0_2 ca0_2, .slice Aa0_3 na0_3 ca0_3, .slice Aa0_4 na0_4 ca0_4, .slice Aa0_5 na0_5 ca0_5, .slice Aa0_6 na0_6 ca0_6, .slice Aa0_7 na0_7 ca0_7, .slice Aa0_8 na0_8 ca0_8, .slice Aa0_9 na0_9 ca0_9, .slice Aa0_10 na0_10 ca0_10], .slice Aa1 na1 ca1, .agg #[.string sa2_0, .string sa2_1, .string sa2_2], .bool ba3] w R := by kernel_rfl
theorem f6.calls {Aa0_0 : Option Addr} {na0_0 ca0_0 : Nat} {Aa0_1 : Option Addr} {na0_1 ca0_1 : Nat} {Aa0_2 : Option Addr} {na0_2 ca0_2 : Nat} {Aa0_3 : Option Addr} {na0_3 ca0_3 : Nat} {Aa0_4 : Option Addr} {na0_4 ca0_4 : Nat} {Aa0_5 : Option Addr} {na0_5 ca0_5 : Nat} {Aa0_6 : Option Addr} {na0_6 ca0_6 : Nat} {Aa0_7 : Option Addr} {na0_7 ca0_7 : Nat} {Aa0_8 : Option Addr} {na0_8 ca0_8 : Nat} {Aa0_9 : Option Addr} {na0_9 ca0_9 : Nat} {Aa0_10 : Option Addr} {na0_10 ca0_10 : Nat} {Aa1 : Option Addr} {na1 ca1 : Nat} {sa2_0 : ByteArray} {sa2_1 : ByteArray} {sa2_2 : ByteArray} {ba3 : Bool} {w : World} {R : Value → World → Prop} (h : f6.VC Aa0_0 na0_0 ca0_0 Aa0_1 na0_1 ca0_1 Aa0_2 na0_2 ca0_2 Aa0_3 na0_3 ca0_3 Aa0_4 na0_4 ca0_4 Aa0_5 na0_5 ca0_5 Aa0_6 na0_6 ca0_6 Aa0_7 na0_7 ca0_7 Aa0_8 na0_8 ca0_8 Aa0_9 na0_9 ca0_9 Aa0_10 na0_10 ca0_10 Aa1 na1 ca1 sa2_0 sa2_1 sa2_2 ba3 w R) : Calls Try.prog 6 #[.agg #[.slice Aa0_0 na0_0 ca0_0, .slice Aa0_1 na0_1 ca0_1, .slice Aa0_2 na0_2 ca0_2, .slice Aa0_3 na0_3 ca0_3, .slice Aa0_4 na0_4 ca0_4, .slice Aa0_5 na0_5 ca0_5, .slice Aa0_6 na0_6 ca0_6, .slice Aa0_7 na0_7 ca0_7, .slice Aa0_8 na0_8 ca0_8, .slice Aa0_9 na0_9 ca0_9, .slice Aa0_10 na0_10 ca0_10], .slice Aa1 na1 ca1, .agg #[.string sa2_0, .string sa2_1, .string sa2_2], .bool ba3] w fun e w' => ∃ v, e = .returned v ∧ R v w' :=
  funV_sound (fn := Try.f6) (AL := f6.AL) (AC := f6.AC) W9.mixed (by kernel_rfl) (by rw [← f6.eq Aa0_0 na0_0 ca0_0 Aa0_1 na0_1 ca0_1 Aa0_2 na0_2 ca0_2 Aa0_3 na0_3 ca0_3 Aa0_4 na0_4 ca0_4 Aa0_5 na0_5 ca0_5 Aa0_6 na0_6 ca0_6 Aa0_7 na0_7 ca0_7 Aa0_8 na0_8 ca0_8 Aa0_9 na0_9 ca0_9 Aa0_10 na0_10 ca0_10 Aa1 na1 ca1 sa2_0 sa2_1 sa2_2 ba3]; exact h)

end Go.Proofs.Ytddbebhklmaeoaa
