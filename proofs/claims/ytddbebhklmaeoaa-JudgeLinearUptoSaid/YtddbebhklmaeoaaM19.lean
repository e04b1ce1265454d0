/- Two readings of one thing: they are the same (but for numbers that are not themselves). -/
import Derived.Test.YtddbebhklmaeoaaM18
set_option linter.unusedVariables false
set_option linter.unusedSimpArgs false
set_option maxRecDepth 10000
namespace Go.Proofs.Ytddbebhklmaeoaa
open Go Go.Proofs.Ytddbebhklmaeoaa.Vc
namespace JG
open Vc.PG JD
theorem bne_self {x y : Nat} (h : x = y) : ((x : Int) != (y : Int)) = false := by subst h; simp
theorem namesSame {w : World} {x y : Sl} {l : List ByteArray} (hx : RdL .str w x l) (hy : RdL .str w y l) (hn : l.length ≤ 1000000000) : Calls Try.prog 61 #[x.v, y.v] w fun e w' => e = .returned (.bool true) ∧ Fr [] w w' := by
  refine Calls.mono (f61.calls (R := fun v w' => v = .bool true ∧ Fr [] w w') ?_) ?_
  · dsimp only [f61.VC]
    have h1 : x.2.1 = l.length := hx.1
    have h2 : y.2.1 = l.length := hy.1
    refine sel_false (bne_self (by omega)) ⟨fun i w' r => Fr [] w w' ∧ ∃ k : Nat, i = (k : Int) ∧ k + r = x.2.1, ⟨x.2.1, Fr.refl _ _, 0, rfl, by omega⟩, ?_⟩
    rintro d i w1 r ⟨hf, k, rfl, hk⟩
    refine sel_of (fun hd => ?_) (fun hd => ⟨rfl, hf⟩)
    have hi : k < x.2.1 := by have := of_decide_eq_true hd; omega
    obtain ⟨b1, o1, hA, hc⟩ := RdL.str (hx.fr hf) (by omega)
    obtain ⟨b2, o2, hB, hd⟩ := RdL.str (hy.fr hf) (by omega)
    rw [inc k x.2.1 (by omega) (by omega)]
    exact ⟨by omega, by omega, needPtr_of hA ⟨by omega, by omega, needPtr_of hB ⟨_, hc k hi, _, hd k (by omega), sel_false (by simp) ⟨rfl, r - 1, by omega, hf.drew, k + 1, rfl, by omega⟩⟩⟩⟩
  · rintro e w' ⟨v, rfl, rfl, h⟩; exact ⟨rfl, h⟩
theorem RdL.int {w : World} {x : Sl} {l : List Int} (h : RdL (.int .i64) w x l) (hp : 0 < x.2.1) : ∃ b o, x.1 = some ⟨b, o, none⟩ ∧ ∀ q, q < x.2.1 → w.cell? ⟨b, o + q * 1, none⟩ = some (.int .i64 (l.getD q 0)) := by
  obtain ⟨b, o, h1, h2⟩ := RdL.flat (e := .int .i64) rfl h hp
  exact ⟨b, o, h1, fun q hq => h2 q hq 0 _ rfl⟩
theorem ext_getD {α : Type} (d : α) {l k : List α} (h1 : l.length = k.length) (h2 : ∀ i, i < l.length → l.getD i d = k.getD i d) : l = k := by
  apply List.ext_getElem h1
  intro i hi hi'
  have := h2 i hi
  rwa [List.getD_eq_getElem?_getD, List.getElem?_eq_getElem hi, List.getD_eq_getElem?_getD, List.getElem?_eq_getElem hi'] at this
theorem intsSame {w : World} {x y : Sl} {l k : List Int} (hx : RdL (.int .i64) w x l) (hy : RdL (.int .i64) w y k) (hn : l.length ≤ 1000000000) : Calls Try.prog 12 #[x.v, y.v] w fun e w' => e = .returned (.bool (decide (l = k))) ∧ Fr [] w w' := by
  refine Calls.mono (f12.calls (R := fun v w' => v = .bool (decide (l = k)) ∧ Fr [] w w') ?_) ?_
  · dsimp only [f12.VC]
    have h1 : x.2.1 = l.length := hx.1
    have h2 : y.2.1 = k.length := hy.1
    refine sel_of (fun hd => ?_) (fun hd => ?_)
    · have hd : x.2.1 ≠ y.2.1 := fun e => by rw [bne_self e] at hd; cases hd
      refine ⟨?_, Fr.refl _ _⟩
      rw [decide_eq_false]
      rintro rfl; omega
    have hd : x.2.1 = y.2.1 := by
      have : ((x.2.1 : Int) != (y.2.1 : Int)) = false := hd
      rw [bne_eq_false_iff_eq] at this
      omega
    refine ⟨fun i w' r => Fr [] w w' ∧ ∃ q : Nat, i = (q : Int) ∧ q + r = x.2.1 ∧ ∀ a, a < q → l.getD a 0 = k.getD a 0, ⟨x.2.1, Fr.refl _ _, 0, rfl, by omega, fun a ha => by omega⟩, ?_⟩
    rintro d i w1 r ⟨hf, q, rfl, hq, hno⟩
    refine sel_of (fun hd => ?_) (fun hd => ?_)
    · have hi : q < x.2.1 := by have := of_decide_eq_true hd; omega
      obtain ⟨b1, o1, hA, hc⟩ := RdL.int (hx.fr hf) (by omega)
      obtain ⟨b2, o2, hB, hd⟩ := RdL.int (hy.fr hf) (by omega)
      rw [inc q x.2.1 (by omega) (by omega)]
      refine ⟨by omega, by omega, needPtr_of hA ⟨by omega, by omega, needPtr_of hB ⟨_, hc q hi, _, hd q (by omega), sel_of (fun hs => ?_) (fun hs => ?_)⟩⟩⟩
      · have hs : l.getD q 0 ≠ k.getD q 0 := bne_iff_ne.1 hs
        refine ⟨?_, hf.drew⟩
        rw [decide_eq_false]
        rintro rfl; exact hs rfl
      · have hs : l.getD q 0 = k.getD q 0 := bne_eq_false_iff_eq.1 hs
        refine ⟨rfl, r - 1, by omega, hf.drew, q + 1, rfl, by omega, fun a ha => ?_⟩
        rcases Nat.lt_or_ge a q with h1 | h1
        · exact hno a h1
        · have : a = q := by omega
          subst this; exact hs
    · have hi : q = x.2.1 := by have := of_decide_eq_false hd; omega
      refine ⟨?_, hf⟩
      rw [decide_eq_true]
      exact ext_getD 0 (by omega) fun i hi => hno i (by omega)
  · rintro e w' ⟨v, rfl, rfl, h⟩; exact ⟨rfl, h⟩
theorem pairsSame {w : World} {x y : Sl} {l : List PairD} (hx : RdL pairT w x l) (hy : RdL pairT w y l) (hn : l.length ≤ 1000000000) : Calls Try.prog 62 #[x.v, y.v] w fun e w' => e = .returned (.bool true) ∧ Fr [] w w' := by
  refine Calls.mono (f62.calls (R := fun v w' => v = .bool true ∧ Fr [] w w') ?_) ?_
  · dsimp only [f62.VC]
    have h1 : x.2.1 = l.length := hx.1
    have h2 : y.2.1 = l.length := hy.1
    refine sel_false (bne_self (by omega)) ⟨fun i w' r => Fr [] w w' ∧ ∃ k : Nat, i = (k : Int) ∧ k + r = x.2.1, ⟨x.2.1, Fr.refl _ _, 0, rfl, by omega⟩, ?_⟩
    rintro d i w1 r ⟨hf, k, rfl, hk⟩
    refine sel_of (fun hd => ?_) (fun hd => ⟨rfl, hf⟩)
    have hi : k < x.2.1 := by have := of_decide_eq_true hd; omega
    obtain ⟨b1, o1, hA, hc⟩ := RdL.pair (hx.fr hf) (by omega)
    obtain ⟨b2, o2, hB, hd⟩ := RdL.pair (hy.fr hf) (by omega)
    rw [inc k x.2.1 (by omega) (by omega)]
    exact ⟨by omega, by omega, needPtr_of hA ⟨by omega, by omega, needPtr_of hB ⟨_, (hc k hi).1, _, (hc k hi).2, _, (hd k (by omega)).1, _, (hd k (by omega)).2, _, fun w' => nePr _ _ _ _ w', sel_false (by simp) ⟨rfl, r - 1, by omega, hf.drew, k + 1, rfl, by omega⟩⟩⟩⟩
  · rintro e w' ⟨v, rfl, rfl, h⟩; exact ⟨rfl, h⟩
theorem triplesSame {w : World} {x y : Sl} {l : List TriD} (hx : RdL triT w x l) (hy : RdL triT w y l) (hn : l.length ≤ 1000000000) : Calls Try.prog 63 #[x.v, y.v] w fun e w' => e = .returned (.bool true) ∧ Fr [] w w' := by
  refine Calls.mono (f63.calls (R := fun v w' => v = .bool true ∧ Fr [] w w') ?_) ?_
  · dsimp only [f63.VC]
    have h1 : x.2.1 = l.length := hx.1
    have h2 : y.2.1 = l.length := hy.1
    refine sel_false (bne_self (by omega)) ⟨fun i w' r => Fr [] w w' ∧ ∃ k : Nat, i = (k : Int) ∧ k + r = x.2.1, ⟨x.2.1, Fr.refl _ _, 0, rfl, by omega⟩, ?_⟩
    rintro d i w1 r ⟨hf, k, rfl, hk⟩
    refine sel_of (fun hd => ?_) (fun hd => ⟨rfl, hf⟩)
    have hi : k < x.2.1 := by have := of_decide_eq_true hd; omega
    obtain ⟨b1, o1, hA, hc⟩ := RdL.tri (hx.fr hf) (by omega)
    obtain ⟨b2, o2, hB, hd⟩ := RdL.tri (hy.fr hf) (by omega)
    obtain ⟨c1, c2, c3⟩ := hc k hi
    obtain ⟨d1, d2, d3⟩ := hd k (by omega)
    rw [inc k x.2.1 (by omega) (by omega)]
    exact ⟨by omega, by omega, needPtr_of hA ⟨by omega, by omega, needPtr_of hB ⟨_, c1, _, c2, _, c3, _, d1, _, d2, _, d3, _, fun w' => neTri _ _ _ _ _ _ w', sel_false (by simp) ⟨rfl, r - 1, by omega, hf.drew, k + 1, rfl, by omega⟩⟩⟩⟩
  · rintro e w' ⟨v, rfl, rfl, h⟩; exact ⟨rfl, h⟩
theorem ruleSame {w : World} (r : RuleD) {u v : Sl} (hu : RdL .str w u (rActs r)) (hv : RdL .str w v (rActs r)) (hn : (rActs r).length ≤ 1000000000) : Calls Try.prog 60 #[.agg (ruleV r u).toArray, .agg (ruleV r v).toArray] w fun e w' => e = .returned (.bool (eqF (rLev r) (rLev r))) ∧ Fr [] w w' := by
  refine Calls.mono (f60.calls (R := fun e w' => e = .bool (eqF (rLev r) (rLev r)) ∧ Fr [] w w') ?_) ?_
  · dsimp only [f60.VC]
    have hS := ((St.start w).alloc (ruleV r u).toArray 88).alloc (ruleV r v).toArray 88
    change St [] w (World.alloc (World.alloc w (.cells #[.bool r.1, .string r.2.1, .string r.2.2.1, .slice u.1 u.2.1 u.2.2, .int .i8 r.2.2.2.2.1, .float .f64 r.2.2.2.2.2.1] 88)) (.cells #[.bool r.1, .string r.2.1, .string r.2.2.1, .slice v.1 v.2.1 v.2.2, .int .i8 r.2.2.2.2.1, .float .f64 r.2.2.2.2.2.1] 88)) _ at hS
    generalize World.alloc w (.cells #[.bool r.1, .string r.2.1, .string r.2.2.1, .slice u.1 u.2.1 u.2.2, .int .i8 r.2.2.2.2.1, .float .f64 r.2.2.2.2.2.1] 88) = w1 at *
    generalize w.heap.size = b1 at *
    generalize World.alloc w1 (.cells #[.bool r.1, .string r.2.1, .string r.2.2.1, .slice v.1 v.2.1 v.2.2, .int .i8 r.2.2.2.2.1, .float .f64 r.2.2.2.2.2.1] 88) = w2 at *
    generalize w1.heap.size = b2 at *
    have h1 := hS.blk 1 rfl
    have h2 := hS.blk 0 rfl
    refine ⟨_, h1.cell rfl, _, h2.cell rfl, sel_true (by simp) ⟨_, h1.cell rfl, _, h2.cell rfl, sel_true (by simp) ⟨_, h1.cell rfl, _, h2.cell rfl, sel_true (by simp) ⟨_, _, _, h1.cell rfl, _, _, _, h2.cell rfl, Calls.mono (hS.step0 (namesSame (hu.fr hS.frame) (hv.fr hS.frame) hn)) ?_⟩⟩⟩⟩
    rintro _ w3 ⟨rfl, hS⟩
    have h1 := hS.blk 1 rfl
    have h2 := hS.blk 0 rfl
    exact ⟨_, rfl, sel_true rfl ⟨_, h1.cell rfl, _, h2.cell rfl, sel_true (by simp) ⟨_, h1.cell rfl, _, h2.cell rfl, _, fun w' => run_eq _ _ w', rfl, hS.frame⟩⟩⟩
  · rintro e w' ⟨v, rfl, rfl, h⟩; exact ⟨rfl, h⟩
/-- A policy whose numbers are themselves. -/
def SaneP (p : PolD) : Prop := (∀ s ∈ pSub p, eqF s.2.1 s.2.1 = true) ∧ ∀ r ∈ pRul p, eqF (rLev r) (rLev r) = true
theorem polSame {w : World} {u v : PV} {p : PolD} (h1 : InP w u p) (h2 : InP w v p) (hb : SmallP p) : Calls Try.prog 34 #[u.v, v.v] w fun e w' => ∃ m : Bool, e = .returned (.bool m) ∧ (m = true ↔ SaneP p) ∧ Fr [] w w' := by
  refine Calls.mono (f34.calls (R := fun e w' => ∃ m : Bool, e = .bool m ∧ (m = true ↔ SaneP p) ∧ Fr [] w w') ?_) ?_
  · dsimp only [f34.VC]
    have hS := ((St.start w).alloc u.cells 28).alloc v.cells 28
    generalize World.alloc w (.cells u.cells 28) = w1 at *
    generalize w.heap.size = b1 at *
    generalize World.alloc w1 (.cells v.cells 28) = w2 at *
    generalize w1.heap.size = b2 at *
    have hs1 : u.s.2.1 = (pSub p).length := h1.s.1
    have hs2 : v.s.2.1 = (pSub p).length := h2.s.1
    have hu1 : u.u.2.1 = (pRul p).length := h1.u.1
    have hu2 : v.u.2.1 = (pRul p).length := h2.u.1
    have q1 : (pSub p).length ≤ 1100000 := hb.s
    have q2 : (pRul p).length ≤ 1100000 := hb.u
    refine ⟨_, _, _, (hS.blk 1 rfl).cell rfl, _, _, _, (hS.blk 0 rfl).cell rfl, sel_false (bne_self (by omega)) ⟨_, _, _, (hS.blk 1 rfl).cell rfl, _, _, _, (hS.blk 0 rfl).cell rfl, sel_false (bne_self (by omega))
      ⟨fun i w' r => St [] w w' [Chunk.blk b2 v.cells 28, Chunk.blk b1 u.cells 28] ∧ ∃ k : Nat, i = (k : Int) ∧ k + r = u.s.2.1 ∧ ∀ a, a < k → eqF ((pSub p).getD a sd).2.1 ((pSub p).getD a sd).2.1 = true, ⟨u.s.2.1, hS, 0, rfl, by omega, fun a ha => by omega⟩, ?_⟩⟩⟩
    rintro d i w3 r ⟨hS, k, rfl, hk, hok⟩
    refine ⟨_, _, _, (hS.blk 1 rfl).cell rfl, sel_of (fun hd => ?_) (fun hd => ?_)⟩
    · have hi : k < u.s.2.1 := by have := of_decide_eq_true hd; omega
      obtain ⟨c1, o1, hA, hc⟩ := RdL.subj ((h1.fr hS.frame).s) (by omega)
      obtain ⟨c2, o2, hB, hd⟩ := RdL.subj ((h2.fr hS.frame).s) (by omega)
      refine ⟨_, _, _, (hS.blk 1 rfl).cell rfl, by omega, by omega, needPtr_of hA ⟨_, (hc k hi).1, _, (hc k hi).2, _, _, _, (hS.blk 0 rfl).cell rfl, by omega, by omega, needPtr_of hB ⟨_, (hd k (by omega)).1, _, (hd k (by omega)).2, _, fun w' => neSu _ _ _ _ w', sel_of (fun hs => ?_) (fun hs => ?_)⟩⟩⟩
      · refine ⟨false, rfl, ⟨(fun h => by cases h), fun hh => ?_⟩, hS.frame.drew⟩
        rw [hh.1 _ ((mem_getD sd _ _).2 ⟨k, by omega, rfl⟩)] at hs
        simp at hs
      · rw [inc k u.s.2.1 (by omega) (by omega)]
        refine ⟨rfl, r - 1, by omega, hS.drew, k + 1, rfl, by omega, fun a ha => ?_⟩
        rcases Nat.lt_or_ge a k with h1 | h1
        · exact hok a h1
        · have : a = k := by omega
          subst this
          simpa using hs
    · have hi : k = u.s.2.1 := by have := of_decide_eq_false hd; omega
      have hsub : ∀ s ∈ pSub p, eqF s.2.1 s.2.1 = true := by
        intro s hs
        obtain ⟨q, hq, rfl⟩ := (mem_getD sd _ _).1 hs
        exact hok q (by omega)
      refine ⟨fun i w' r => St [] w w' [Chunk.blk b2 v.cells 28, Chunk.blk b1 u.cells 28] ∧ ∃ k : Nat, i = (k : Int) ∧ k + r = u.u.2.1 ∧ ∀ a, a < k → eqF (rLev ((pRul p).getD a rd0)) (rLev ((pRul p).getD a rd0)) = true, ⟨u.u.2.1, hS, 0, rfl, by omega, fun a ha => by omega⟩, ?_⟩
      rintro d2 i2 w4 r2 ⟨hS, k2, rfl, hk2, hok2⟩
      refine ⟨_, _, _, (hS.blk 1 rfl).cell rfl, sel_of (fun hd => ?_) (fun hd => ?_)⟩
      · have hi2 : k2 < u.u.2.1 := by have := of_decide_eq_true hd; omega
        obtain ⟨c1, o1, hA, hc⟩ := RdL.rule ((h1.fr hS.frame).u) (by omega)
        obtain ⟨c2, o2, hB, hd⟩ := RdL.rule ((h2.fr hS.frame).u) (by omega)
        obtain ⟨u1, hu1', hc⟩ := hc k2 hi2
        obtain ⟨u2, hu2', hd⟩ := hd k2 (by omega)
        have hmem : (pRul p).getD k2 rd0 ∈ pRul p := (mem_getD rd0 _ _).2 ⟨k2, by omega, rfl⟩
        refine ⟨_, _, _, (hS.blk 1 rfl).cell rfl, by omega, by omega, needPtr_of hA ⟨_, hc 0 _ rfl, _, hc 1 _ rfl, _, hc 2 _ rfl, _, _, _, hc 3 _ rfl, _, hc 4 _ rfl, _, hc 5 _ rfl, _, _, _, (hS.blk 0 rfl).cell rfl, by omega, by omega,
          needPtr_of hB ⟨_, hd 0 _ rfl, _, hd 1 _ rfl, _, hd 2 _ rfl, _, _, _, hd 3 _ rfl, _, hd 4 _ rfl, _, hd 5 _ rfl, Calls.mono (hS.drew.step0 (ruleSame ((pRul p).getD k2 rd0) (hu1'.fr (Fr.refl [] w4).drew) (hu2'.fr (Fr.refl [] w4).drew) (Nat.le_trans (hb.x _ hmem) (by decide)))) ?_⟩⟩⟩
        rintro _ w5 ⟨rfl, hS⟩
        refine ⟨_, rfl, sel_of (fun hs => ?_) (fun hs => ?_)⟩
        · refine ⟨false, rfl, ⟨(fun h => by cases h), fun hh => ?_⟩, hS.frame⟩
          rw [hh.2 _ hmem] at hs; cases hs
        · rw [inc k2 u.u.2.1 (by omega) (by omega)]
          refine ⟨rfl, r2 - 1, by omega, hS, k2 + 1, rfl, by omega, fun a ha => ?_⟩
          rcases Nat.lt_or_ge a k2 with h1 | h1
          · exact hok2 a h1
          · have : a = k2 := by omega
            subst this
            simpa using hs
      · have hi2 : k2 = u.u.2.1 := by have := of_decide_eq_false hd; omega
        have hsane : SaneP p := ⟨hsub, fun r hr => by
          obtain ⟨q, hq, rfl⟩ := (mem_getD rd0 _ _).1 hr
          exact hok2 q (by omega)⟩
        have P := fun {w'} (hS : St [] w w' [Chunk.blk b2 v.cells 28, Chunk.blk b1 u.cells 28]) => h1.fr hS.frame
        have Q := fun {w'} (hS : St [] w w' [Chunk.blk b2 v.cells 28, Chunk.blk b1 u.cells 28]) => h2.fr hS.frame
        refine ⟨_, _, _, (hS.blk 1 rfl).cell rfl, _, _, _, (hS.blk 0 rfl).cell rfl, Calls.mono (hS.step0 (namesSame (P hS).a (Q hS).a (Nat.le_trans hb.a (by decide)))) ?_⟩
        rintro _ w6 ⟨rfl, hS⟩
        refine ⟨_, rfl, sel_true rfl ⟨_, _, _, (hS.blk 1 rfl).cell rfl, _, _, _, (hS.blk 0 rfl).cell rfl, Calls.mono (hS.step0 (namesSame (P hS).r (Q hS).r (Nat.le_trans hb.r (by decide)))) ?_⟩⟩
        rintro _ w7 ⟨rfl, hS⟩
        refine ⟨_, rfl, sel_true rfl ⟨_, _, _, (hS.blk 1 rfl).cell rfl, _, _, _, (hS.blk 0 rfl).cell rfl, Calls.mono (hS.step0 (namesSame (P hS).o (Q hS).o (Nat.le_trans hb.o (by decide)))) ?_⟩⟩
        rintro _ w8 ⟨rfl, hS⟩
        refine ⟨_, rfl, sel_true rfl ⟨_, _, _, (hS.blk 1 rfl).cell rfl, _, _, _, (hS.blk 0 rfl).cell rfl, Calls.mono (hS.step0 (namesSame (P hS).g (Q hS).g (Nat.le_trans hb.g (by decide)))) ?_⟩⟩
        rintro _ w9 ⟨rfl, hS⟩
        refine ⟨_, rfl, _, _, _, (hS.blk 1 rfl).cell rfl, _, _, _, (hS.blk 0 rfl).cell rfl, Calls.mono (hS.step0 (pairsSame (P hS).m (Q hS).m (Nat.le_trans hb.m (by decide)))) ?_⟩
        rintro _ w10 ⟨rfl, hS⟩
        refine ⟨_, rfl, sel_true rfl ⟨_, _, _, (hS.blk 1 rfl).cell rfl, _, _, _, (hS.blk 0 rfl).cell rfl, Calls.mono (hS.step0 (pairsSame (P hS).i (Q hS).i (Nat.le_trans hb.i (by decide)))) ?_⟩⟩
        rintro _ w11 ⟨rfl, hS⟩
        refine ⟨_, rfl, sel_true rfl ⟨_, _, _, (hS.blk 1 rfl).cell rfl, _, _, _, (hS.blk 0 rfl).cell rfl, Calls.mono (hS.step0 (pairsSame (P hS).q (Q hS).q (Nat.le_trans hb.q (by decide)))) ?_⟩⟩
        rintro _ w12 ⟨rfl, hS⟩
        refine ⟨_, rfl, sel_true rfl ⟨_, _, _, (hS.blk 1 rfl).cell rfl, _, _, _, (hS.blk 0 rfl).cell rfl, Calls.mono (hS.step0 (pairsSame (P hS).t (Q hS).t (Nat.le_trans hb.t (by decide)))) ?_⟩⟩
        rintro _ w13 ⟨rfl, hS⟩
        refine ⟨_, rfl, sel_true rfl (sel_true rfl ⟨_, _, _, (hS.blk 1 rfl).cell rfl, _, _, _, (hS.blk 0 rfl).cell rfl, Calls.mono (hS.step0 (triplesSame (P hS).e (Q hS).e (Nat.le_trans hb.e (by decide)))) ?_⟩)⟩
        rintro _ w14 ⟨rfl, hS⟩
        exact ⟨_, rfl, true, rfl, ⟨fun _ => hsane, fun _ => rfl⟩, hS.frame⟩
  · rintro e w' ⟨v, rfl, m, rfl, h⟩; exact ⟨m, rfl, h⟩
end JG
end Go.Proofs.Ytddbebhklmaeoaa
