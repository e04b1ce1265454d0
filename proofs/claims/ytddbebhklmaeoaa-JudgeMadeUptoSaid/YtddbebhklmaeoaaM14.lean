/- What a policy allows, as the program goes about it: the whole. -/
import Derived.Test.YtddbebhklmaeoaaM13
set_option linter.unusedVariables false
set_option linter.unusedSimpArgs false
set_option maxRecDepth 10000
namespace Go.Proofs.Ytddbebhklmaeoaa
open Go Go.Proofs.Ytddbebhklmaeoaa.Vc
namespace JG
open Vc.PG JD
abbrev noSide : Value := .agg #[.string ⟨#[]⟩, .float .f64 0, .map none]
abbrev mS (p : PolD) : List PairD := pMem p ++ pInh p
abbrev mO (p : PolD) : List PairD := pPar p ++ pWit p
theorem subjectC {w : World} {v : PV} {p : PolD} (h : InP w v p) (hb : SmallP p) (s : ByteArray) : Calls Try.prog 39 #[v.v, .string s] w fun e w' => Fr [] w w' ∧
    match trustOf (pSub p) s with
    | some t => ∃ r, e = .returned (.tuple #[Side s t r, .bool true]) ∧ SetAt w' r (Rch (mS p) s)
    | none => e = .returned (.tuple #[noSide, .bool false]) := by
  refine Calls.mono (f39.calls (R := fun x w' => Fr [] w w' ∧ match trustOf (pSub p) s with
    | some t => ∃ r, x = .tuple #[Side s t r, .bool true] ∧ SetAt w' r (Rch (mS p) s)
    | none => x = .tuple #[noSide, .bool false]) ?_) ?_
  · dsimp only [f39.VC]
    have hS := ((St.start w).alloc v.cells 28).alloc #[.string ⟨#[]⟩, .float .f64 0, .map none] 103
    generalize World.alloc w (.cells v.cells 28) = w1 at *
    generalize w.heap.size = b1 at *
    generalize World.alloc w1 (.cells #[.string ⟨#[]⟩, .float .f64 0, .map none] 103) = w2 at *
    generalize w1.heap.size = b2 at *
    have hl : v.s.2.1 = (pSub p).length := h.s.1
    have hbs : (pSub p).length ≤ 1100000 := hb.s
    refine ⟨_, _, _, (hS.blk 1 rfl).cell rfl, fun i w' r => St [] w w' [Chunk.blk b2 #[.string ⟨#[]⟩, .float .f64 0, .map none] 103, Chunk.blk b1 v.cells 28] ∧ ∃ k : Nat, i = (k : Int) ∧ k + r = v.s.2.1 ∧ ∀ a, a < k → ((pSub p).getD a sd).1 ≠ s,
      ⟨v.s.2.1, hS, 0, rfl, by omega, fun a ha => by omega⟩, ?_⟩
    rintro d i w3 r ⟨hS, k, rfl, hk, hno⟩
    refine sel_of (fun hd => ?_) (fun hd => ?_)
    · have hi : k < v.s.2.1 := by have := of_decide_eq_true hd; omega
      have hP := h.fr hS.frame
      obtain ⟨b', o, hA, hc⟩ := RdL.subj hP.s (by omega)
      have hS4 := hS.alloc #[.string ⟨#[]⟩, .float .f64 0] 110
      have hS5 := hS4.over 0 rfl [.string ((pSub p).getD k sd).1, .float .f64 ((pSub p).getD k sd).2.1] rfl
      refine ⟨by omega, by omega, needPtr_of hA ⟨_, (hc k hi).1, _, (hc k hi).2, (hS4.blk 0 rfl).can (by decide), ?_⟩⟩
      generalize World.alloc w3 (.cells #[.string ⟨#[]⟩, .float .f64 0] 110) = w4 at *
      generalize w3.heap.size = b4 at *
      generalize setCs w4 b4 0 [.string ((pSub p).getD k sd).1, .float .f64 ((pSub p).getD k sd).2.1] = w5 at *
      refine ⟨_, (hS5.blk 0 rfl).cell rfl, sel_of (fun hs => ?_) (fun hs => ?_)⟩
      · have hs : ((pSub p).getD k sd).1 = s := of_decide_eq_true hs
        have ht : trustOf (pSub p) s = some ((pSub p).getD k sd).2.1 := by
          rw [← trustOf_drop (pSub p) s k (by omega) hno, drop_cons sd (pSub p) k (by omega), trustOf, if_pos hs]
        rw [ht]
        have hP5 := h.fr hS5.frame
        refine ⟨_, _, _, (hS5.blk 2 rfl).cell rfl, _, _, _, (hS5.blk 2 rfl).cell rfl, Calls.mono (standC hP5.m hP5.i hb.m hb.i s) ?_⟩
        rintro _ w6 ⟨r6, rfl, hf6⟩
        have hS6 := hS5.gone hf6
        have hS7 := hS6.alloc #[.string ⟨#[]⟩, .float .f64 0, .map none] 103
        have hS8 := hS7.over 0 rfl [.string s, .float .f64 0, .map (some r6)] rfl
        have hS9 := hS8.set 0 rfl 1 [.float .f64 ((pSub p).getD k sd).2.1]
        have hS10 := hS9.over 3 rfl [.string s, .float .f64 ((pSub p).getD k sd).2.1, .map (some r6)] rfl
        have hB := hS10.blk 3 rfl
        exact ⟨_, _, _, rfl, (hS7.blk 0 rfl).can (by decide), _, (hS8.blk 2 rfl).cell rfl, (hS8.blk 0 rfl).can (by simp), _, (hS9.blk 0 rfl).cell rfl, _, (hS9.blk 0 rfl).cell rfl, _, (hS9.blk 0 rfl).cell rfl, (hS9.blk 3 rfl).can (by decide),
          _, hB.cell rfl, _, hB.cell rfl, _, hB.cell rfl, hS10.frame, r6, rfl, hS10.says 1 rfl⟩
      · have hs : ((pSub p).getD k sd).1 ≠ s := of_decide_eq_false hs
        rw [inc k v.s.2.1 (by omega) (by omega)]
        refine ⟨rfl, r - 1, by omega, hS5.tail, k + 1, rfl, by omega, fun a ha => ?_⟩
        rcases Nat.lt_or_ge a k with h1 | h1
        · exact hno a h1
        · have : a = k := by omega
          subst this; exact hs
    · have hi : k = v.s.2.1 := by have := of_decide_eq_false hd; omega
      have ht : trustOf (pSub p) s = none := by
        rw [← trustOf_drop (pSub p) s k (by omega) hno, List.drop_of_length_le (by omega)]; rfl
      rw [ht]
      have hS4 := hS.over 0 rfl [.string ⟨#[]⟩, .float .f64 0, .map none] rfl
      have hB := hS4.blk 0 rfl
      exact ⟨(hS.blk 0 rfl).can (by decide), _, hB.cell rfl, _, hB.cell rfl, _, hB.cell rfl, hS4.frame, rfl⟩
  · rintro e w' ⟨v, rfl, h, k⟩
    refine ⟨h, ?_⟩
    cases ht : trustOf (pSub p) s with
    | none => rw [ht] at k; rw [k]
    | some t => rw [ht] at k; obtain ⟨r, rfl, k⟩ := k; exact ⟨r, rfl, k⟩
theorem objectC {w : World} {v : PV} {p : PolD} (h : InP w v p) (hb : SmallP p) (s : ByteArray) : Calls Try.prog 40 #[v.v, .string s] w fun e w' => Fr [] w w' ∧
    ((s ∈ pObj p ∧ ∃ r, e = .returned (.tuple #[Side s 0 r, .bool true]) ∧ SetAt w' r (Rch (mO p) s)) ∨ (¬ s ∈ pObj p ∧ e = .returned (.tuple #[noSide, .bool false]))) := by
  refine Calls.mono (f40.calls (R := fun x w' => Fr [] w w' ∧
    ((s ∈ pObj p ∧ ∃ r, x = .tuple #[Side s 0 r, .bool true] ∧ SetAt w' r (Rch (mO p) s)) ∨ (¬ s ∈ pObj p ∧ x = .tuple #[noSide, .bool false]))) ?_) ?_
  · dsimp only [f40.VC]
    have hS := ((St.start w).alloc v.cells 28).alloc #[.string ⟨#[]⟩, .float .f64 0, .map none] 103
    generalize World.alloc w (.cells v.cells 28) = w1 at *
    generalize w.heap.size = b1 at *
    generalize World.alloc w1 (.cells #[.string ⟨#[]⟩, .float .f64 0, .map none] 103) = w2 at *
    generalize w1.heap.size = b2 at *
    refine ⟨_, _, _, (hS.blk 1 rfl).cell rfl, Calls.mono (containsC ((h.fr hS.frame).o) (Nat.le_trans hb.o (by decide)) s) ?_⟩
    rintro _ w3 ⟨rfl, rfl⟩
    refine ⟨_, rfl, sel_of (fun hm => ?_) (fun hm => ?_)⟩
    · have hm : ¬ s ∈ pObj p := fun hh => by rw [(memB_iff _ _).2 hh] at hm; cases hm
      have hS4 := hS.over 0 rfl [.string ⟨#[]⟩, .float .f64 0, .map none] rfl
      have hB := hS4.blk 0 rfl
      exact ⟨(hS.blk 0 rfl).can (by decide), _, hB.cell rfl, _, hB.cell rfl, _, hB.cell rfl, hS4.frame, .inr ⟨hm, rfl⟩⟩
    · have hm : s ∈ pObj p := (memB_iff _ _).1 (by simpa using hm)
      have hP := h.fr hS.frame
      refine ⟨_, _, _, (hS.blk 1 rfl).cell rfl, _, _, _, (hS.blk 1 rfl).cell rfl, Calls.mono (standC hP.q hP.t hb.q hb.t s) ?_⟩
      rintro _ w6 ⟨r6, rfl, hf6⟩
      have hS6 := hS.gone hf6
      have hS7 := hS6.over 1 rfl [.string s, .float .f64 0, .map (some r6)] rfl
      have hB := hS7.blk 1 rfl
      exact ⟨_, _, _, rfl, (hS6.blk 1 rfl).can (by decide), _, hB.cell rfl, _, hB.cell rfl, _, hB.cell rfl, hS7.frame, .inl ⟨hm, r6, rfl, hS7.says 0 rfl⟩⟩
  · rintro e w' ⟨v, rfl, h, k⟩
    refine ⟨h, ?_⟩
    rcases k with ⟨k1, r, rfl, k2⟩ | ⟨k1, rfl⟩
    · exact .inl ⟨k1, r, rfl, k2⟩
    · exact .inr ⟨k1, rfl⟩
theorem info88 : ∃ i z, Try.prog.info? 88 = some i ∧ i.zero = some z ∧ z.cells.size = 6 ∧ i.size = 6 ∧ i.bytes = 80 := ⟨Try.prog.types[88]!, ((Try.prog.types[88]!).zero).get!, by kernel_rfl, by kernel_rfl, by kernel_rfl, by kernel_rfl, by kernel_rfl⟩
theorem under25 : Try.prog.underlying 25 = some (.slice 88) := by kernel_rfl
/-- Rules that are gathered. -/
def Rows (w : World) (rows : List (List Value)) (l : List RuleD) : Prop := rows.length = l.length ∧ ∀ q, q < l.length → Rd w ruleT (rows.getD q []) (l.getD q rd0)
theorem aboutC {w : World} {v : PV} {p : PolD} (h : InP w v p) (hb : SmallP p) {s o : ByteArray} {t t' rs ro : Nat} {P Q : ByteArray → Prop} (hs : SetAt w rs P) (ho : SetAt w ro Q) :
    Calls Try.prog 43 #[v.v, Side s t rs, Side o t' ro] w fun e w' => ∃ (z : Sl) (l : List RuleD), e = .returned z.v ∧ Fr [] w w' ∧ RdL ruleT w' z l ∧ l.length ≤ 1100000 ∧ ∀ r, r ∈ l ↔ r ∈ pRul p ∧ P (rWho r) ∧ Q (rWhat r) ∧ passP geF ltF r t = true := by
  refine Calls.mono (f43.calls (R := fun x w' => ∃ (z : Sl) (l : List RuleD), x = z.v ∧ Fr [] w w' ∧ RdL ruleT w' z l ∧ l.length ≤ 1100000 ∧ ∀ r, r ∈ l ↔ r ∈ pRul p ∧ P (rWho r) ∧ Q (rWhat r) ∧ passP geF ltF r t = true) ?_) ?_
  · dsimp only [f43.VC]
    have hS := (((St.start w).alloc v.cells 28).alloc #[.string s, .float .f64 t, .map (some rs)] 103).alloc #[.string o, .float .f64 t', .map (some ro)] 103
    generalize World.alloc w (.cells v.cells 28) = w1 at *
    generalize w.heap.size = b1 at *
    generalize World.alloc w1 (.cells #[.string s, .float .f64 t, .map (some rs)] 103) = w2 at *
    generalize w1.heap.size = b2 at *
    generalize World.alloc w2 (.cells #[.string o, .float .f64 t', .map (some ro)] 103) = w3 at *
    generalize w2.heap.size = b3 at *
    have hl : v.u.2.1 = (pRul p).length := h.u.1
    have hbs : (pRul p).length ≤ 1100000 := hb.u
    refine ⟨_, _, _, (hS.blk 2 rfl).cell rfl, fun A n c i w' m => ∃ (k : Nat) (rows : List (List Value)) (l : List RuleD), i = (k : Int) ∧ k + m = v.u.2.1 ∧
      St [] w w' [Chunk.sl 88 6 (.slice A n c) rows, Chunk.blk b3 #[.string o, .float .f64 t', .map (some ro)] 103, Chunk.blk b2 #[.string s, .float .f64 t, .map (some rs)] 103, Chunk.blk b1 v.cells 28] ∧ Rows w rows l ∧ l.length ≤ k ∧
      ∀ r, r ∈ l ↔ r ∈ (pRul p).take k ∧ P (rWho r) ∧ Q (rWhat r) ∧ passP geF ltF r t = true,
      ⟨v.u.2.1, 0, [], [], rfl, by omega, hS.nil 88 6, ⟨rfl, fun q hq => by simp at hq⟩, by simp, fun r => by simp⟩, ?_⟩
    rintro d A n c i w4 m ⟨k, rows, l, rfl, hk, hS, hR, hlk, hin⟩
    refine sel_of (fun hd => ?_) (fun hd => ?_)
    · have hi : k < v.u.2.1 := by have := of_decide_eq_true hd; omega
      obtain ⟨bb, oo, hA, hc⟩ := RdL.rule h.u (by omega)
      obtain ⟨u, hu, hc⟩ := hc k hi
      have hc := fun j x hj => hS.frame.cell (hc j x hj)
      have htk : (pRul p).take (k + 1) = (pRul p).take k ++ [(pRul p).getD k rd0] := by
        rw [List.take_add_one, List.getD_eq_getElem?_getD, List.getElem?_eq_getElem (show k < (pRul p).length by omega)]; rfl
      have hrd : Rd w ruleT (ruleV ((pRul p).getD k rd0) u) ((pRul p).getD k rd0) := by
        obtain ⟨b5, o5, _, h5⟩ := h.u.2.2 (by omega)
        obtain ⟨es, h6, _⟩ := h5 k hi
        obtain ⟨_, _, _, h7⟩ := rd_rule.1 h6
        exact rd_rule.2 ⟨u, rfl, hu, h7⟩
      generalize (pRul p).getD k rd0 = r at *
      have hS5 := hS.alloc #[.bool false, .string ⟨#[]⟩, .string ⟨#[]⟩, .slice none 0 0, .int .i8 0, .float .f64 0] 88
      have hS6 := hS5.over 0 rfl (ruleV r u) rfl
      refine ⟨by omega, by omega, needPtr_of hA ⟨_, hc 0 _ rfl, _, hc 1 _ rfl, _, hc 2 _ rfl, _, _, _, hc 3 _ rfl, _, hc 4 _ rfl, _, hc 5 _ rfl, (hS5.blk 0 rfl).can (by decide), ?_⟩⟩
      generalize World.alloc w4 (.cells #[.bool false, .string ⟨#[]⟩, .string ⟨#[]⟩, .slice none 0 0, .int .i8 0, .float .f64 0] 88) = w5 at *
      generalize w4.heap.size = b5 at *
      change St [] w (setCs w5 b5 0 [.bool r.1, .string r.2.1, .string r.2.2.1, .slice u.1 u.2.1 u.2.2, .int .i8 r.2.2.2.2.1, .float .f64 r.2.2.2.2.2.1]) _ at hS6
      generalize setCs w5 b5 0 [.bool r.1, .string r.2.1, .string r.2.2.1, .slice u.1 u.2.1 u.2.2, .int .i8 r.2.2.2.2.1, .float .f64 r.2.2.2.2.2.1] = w6 at *
      have hB5 := hS6.blk 0 rfl
      have hB2 := hS6.blk 3 rfl
      have hB3 := hS6.blk 2 rfl
      rw [inc k v.u.2.1 (by omega) (by omega)]
      refine ⟨_, hB5.cell rfl, _, hB5.cell rfl, _, hB5.cell rfl, _, _, _, hB5.cell rfl, _, hB5.cell rfl, _, hB5.cell rfl, _, hB2.cell rfl, _, hB2.cell rfl, _, hB2.cell rfl, _, hB3.cell rfl, _, hB3.cell rfl, _, hB3.cell rfl,
        Calls.mono (step0' hS6 (speaksC r u (s := s) (o := o) (t := t) (t' := t') (hs.fr hS6.frame) (ho.fr hS6.frame))) ?_⟩
      rintro _ w7 ⟨mm, rfl, hm, hS7⟩
      refine ⟨_, rfl, sel_of (fun m1 => ?_) (fun m1 => ?_)⟩
      · have hB := hS7.blk 0 rfl
        have hS8 := hS7.alloc (ruleV r u).toArray 88
        obtain ⟨ti, z, i1, i2, i3, i4, i5⟩ := info88
        have hrl : rows.length = l.length := hR.1
        obtain ⟨g', cap', w9, hrun, hS9⟩ := hS8.append 2 under25 i1 i2 i4 i3 (by decide) rfl (r := ruleV r u) (ty := 25) (hS8.blk 0 rfl) rfl rfl (by intro x hx; simp at hx; rcases hx with rfl | rfl | rfl | rfl | rfl | rfl <;> rfl)
          (by rw [i5, hrl]; omega) (by rw [hrl]; simp [maxLen]; omega)
        refine ⟨_, hB.cell rfl, _, hB.cell rfl, _, hB.cell rfl, _, _, _, hB.cell rfl, _, hB.cell rfl, _, hB.cell rfl, _, _, _, w9, hrun, rfl, m - 1, by omega, k + 1, rows ++ [ruleV r u], l ++ [r], rfl, by omega, hS9.sel [2, 3, 4, 5] (by decide) _ rfl, ⟨by simp [hrl], fun q hq => ?_⟩, by simp; omega, fun r' => ?_⟩
        · rw [List.length_append, List.length_singleton] at hq
          rcases Nat.lt_or_ge q l.length with hq2 | hq2
          · rw [List.getD_eq_getElem?_getD, List.getElem?_append_left (by omega), List.getD_eq_getElem?_getD, List.getElem?_append_left hq2, ← List.getD_eq_getElem?_getD, ← List.getD_eq_getElem?_getD]
            exact hR.2 q hq2
          · have : q = l.length := by omega
            subst this
            rw [List.getD_eq_getElem?_getD, List.getElem?_append_right (by omega), List.getD_eq_getElem?_getD, List.getElem?_append_right (Nat.le_refl _), hrl, Nat.sub_self]
            exact hrd
        · rw [htk, List.mem_append, List.mem_append, List.mem_singleton, hin r']
          constructor
          · rintro (⟨h1, h2⟩ | rfl)
            · exact ⟨.inl h1, h2⟩
            · exact ⟨.inr rfl, hm.1 m1⟩
          · rintro ⟨h1 | rfl, h2⟩
            · exact .inl ⟨h1, h2⟩
            · exact .inr rfl
      · refine ⟨rfl, m - 1, by omega, k + 1, rows, l, rfl, by omega, hS7.tail, hR, by omega, fun r' => ?_⟩
        rw [htk, List.mem_append, List.mem_singleton, hin r']
        constructor
        · rintro ⟨h1, h2⟩; exact ⟨.inl h1, h2⟩
        · rintro ⟨h1 | rfl, h2⟩
          · exact ⟨h1, h2⟩
          · rw [hm.2 h2] at m1; cases m1
    · have hi : k = v.u.2.1 := by have := of_decide_eq_false hd; omega
      rw [List.take_of_length_le (by omega)] at hin
      obtain ⟨F, h1, _⟩ := hS.at 0 rfl
      exact ⟨(A, n, c), l, rfl, hS.frame, sl_reads (e := ruleT) 88 h1 hR.1 (fun q hq => (hR.2 q hq).fr hS.frame), by omega, hin⟩
  · rintro e w' ⟨v, rfl, z, l, rfl, h⟩; exact ⟨z, l, rfl, h⟩
end JG
end Go.Proofs.Ytddbebhklmaeoaa
/- Allows. -/
set_option linter.unusedVariables false
set_option linter.unusedSimpArgs false
set_option maxRecDepth 10000
namespace Go.Proofs.Ytddbebhklmaeoaa
open Go Go.Proofs.Ytddbebhklmaeoaa.Vc
namespace JG
open Vc.PG JD
def MayL (p : PolD) (l : List RuleD) (a b c : ByteArray) : Prop := (∃ r ∈ l, Named r c) ∧ (∀ r ∈ l, Named r c → rDeny r = false) ∧ ¬ ((a, b, c, ()) : TriD) ∈ pExc p
theorem mayC {w : World} {v : PV} {p : PolD} (h : InP w v p) (hb : SmallP p) {z : Sl} {l : List RuleD} (hz : RdL ruleT w z l) (hn : l.length ≤ 1100000) (hx : ∀ r ∈ l, r ∈ pRul p) (a b c : ByteArray) :
    Calls Try.prog 42 #[v.v, z.v, Tri a b c] w fun e w' => ∃ m : Bool, e = .returned (.bool m) ∧ (m = true ↔ MayL p l a b c) ∧ Fr [] w w' := by
  refine Calls.mono (f42.calls (R := fun e w' => ∃ m : Bool, e = .bool m ∧ (m = true ↔ MayL p l a b c) ∧ Fr [] w w') ?_) ?_
  · dsimp only [f42.VC]
    have hS := ((St.start w).alloc v.cells 28).alloc #[.string a, .string b, .string c] 37
    generalize World.alloc w (.cells v.cells 28) = w1 at *
    generalize w.heap.size = b1 at *
    generalize World.alloc w1 (.cells #[.string a, .string b, .string c] 37) = w2 at *
    generalize w1.heap.size = b2 at *
    have hl : z.2.1 = l.length := hz.1
    refine ⟨fun y i w' m => St [] w w' [Chunk.blk b2 #[.string a, .string b, .string c] 37, Chunk.blk b1 v.cells 28] ∧ ∃ k : Nat, i = (k : Int) ∧ k + m = z.2.1 ∧
      (y = true ↔ ∃ q, q < k ∧ Named (l.getD q rd0) c) ∧ ∀ q, q < k → Named (l.getD q rd0) c → rDeny (l.getD q rd0) = false,
      ⟨z.2.1, hS, 0, rfl, by omega, by simp, fun q hq => by omega⟩, ?_⟩
    rintro d y i w3 m ⟨hS, k, rfl, hk, hy, hno⟩
    refine sel_of (fun hd => ?_) (fun hd => ?_)
    · have hi : k < z.2.1 := by have := of_decide_eq_true hd; omega
      obtain ⟨bb, oo, hA, hc⟩ := RdL.rule (hz.fr hS.frame) (by omega)
      obtain ⟨u, hu, hc⟩ := hc k hi
      have hmem : l.getD k rd0 ∈ l := (mem_getD rd0 _ _).2 ⟨k, by omega, rfl⟩
      have hxl := hb.x _ (hx _ hmem)
      have key : ∀ Q : Nat → Prop, (∃ q, q < k + 1 ∧ Q q) ↔ (∃ q, q < k ∧ Q q) ∨ Q k := by
        intro Q
        constructor
        · rintro ⟨q, hq, h⟩
          rcases Nat.lt_or_ge q k with h' | h'
          · exact .inl ⟨q, h', h⟩
          · have : q = k := by omega
            subst this; exact .inr h
        · rintro (⟨q, hq, h⟩ | h)
          · exact ⟨q, by omega, h⟩
          · exact ⟨k, by omega, h⟩
      have hup : ∀ q, q < k + 1 → q < k ∨ q = k := fun q hq => by omega
      have hk' := key fun q => Named (l.getD q rd0) c
      generalize hrr : l.getD k rd0 = r at *
      have hS5 := hS.alloc #[.bool false, .string ⟨#[]⟩, .string ⟨#[]⟩, .slice none 0 0, .int .i8 0, .float .f64 0] 88
      have hS6 := hS5.over 0 rfl (ruleV r u) rfl
      have hu6 := hu.fr ((Fr.refl [] w3).alloc (cs := #[.bool false, .string ⟨#[]⟩, .string ⟨#[]⟩, .slice none 0 0, .int .i8 0, .float .f64 0]) (T := 88) |>.set (g := w3.heap.size) (o := 0) (vs := ruleV r u) (.inr (Nat.le_refl _)))
      refine ⟨by omega, by omega, needPtr_of hA ⟨_, hc 0 _ rfl, _, hc 1 _ rfl, _, hc 2 _ rfl, _, _, _, hc 3 _ rfl, _, hc 4 _ rfl, _, hc 5 _ rfl, (hS5.blk 0 rfl).can (by decide), ?_⟩⟩
      generalize World.alloc w3 (.cells #[.bool false, .string ⟨#[]⟩, .string ⟨#[]⟩, .slice none 0 0, .int .i8 0, .float .f64 0] 88) = w5 at *
      generalize w3.heap.size = b5 at *
      change St [] w (setCs w5 b5 0 [.bool r.1, .string r.2.1, .string r.2.2.1, .slice u.1 u.2.1 u.2.2, .int .i8 r.2.2.2.2.1, .float .f64 r.2.2.2.2.2.1]) _ at hS6
      change RdL .str (setCs w5 b5 0 [.bool r.1, .string r.2.1, .string r.2.2.1, .slice u.1 u.2.1 u.2.2, .int .i8 r.2.2.2.2.1, .float .f64 r.2.2.2.2.2.1]) u (rActs r) at hu6
      generalize setCs w5 b5 0 [.bool r.1, .string r.2.1, .string r.2.2.1, .slice u.1 u.2.1 u.2.2, .int .i8 r.2.2.2.2.1, .float .f64 r.2.2.2.2.2.1] = w6 at *
      have hB5 := hS6.blk 0 rfl
      rw [inc k z.2.1 (by omega) (by omega)]
      refine ⟨_, hB5.cell rfl, _, hB5.cell rfl, _, hB5.cell rfl, _, _, _, hB5.cell rfl, _, hB5.cell rfl, _, hB5.cell rfl, _, (hS6.blk 1 rfl).cell rfl, Calls.mono (step0' hS6 (namesC r hu6 (Nat.le_trans hxl (by decide)) c)) ?_⟩
      rintro _ w7 ⟨mm, rfl, hm, hS7⟩
      refine ⟨_, rfl, sel_of (fun m1 => ?_) (fun m1 => ?_)⟩
      · have hmf : ¬ Named r c := fun hh => by rw [hm.2 hh] at m1; cases m1
        refine ⟨rfl, m - 1, by omega, hS7.tail, k + 1, rfl, by omega, ?_, fun q hq hnm => ?_⟩
        · rw [hk', hy]
          exact ⟨.inl, fun h => h.elim id fun h => absurd h hmf⟩
        · rcases hup q hq with h1 | h1
          · exact hno q h1 hnm
          · subst h1; rw [hrr] at hnm; exact absurd hnm hmf
      · have hmt : Named r c := hm.1 (by simpa using m1)
        refine ⟨_, (hS7.blk 0 rfl).cell rfl, sel_of (fun hdn => ?_) (fun hdn => ?_)⟩
        · refine ⟨false, rfl, ⟨(fun h => by cases h), fun hh => ?_⟩, hS7.frame⟩
          have := hh.2.1 r hmem hmt
          rw [show rDeny r = true from hdn] at this; cases this
        · refine ⟨rfl, m - 1, by omega, hS7.tail, k + 1, rfl, by omega, ?_, fun q hq hnm => ?_⟩
          · rw [hk']; exact ⟨fun _ => .inr hmt, fun _ => rfl⟩
          · rcases hup q hq with h1 | h1
            · exact hno q h1 hnm
            · subst h1; rw [hrr]; exact hdn
    · have hi : k = z.2.1 := by have := of_decide_eq_false hd; omega
      have hex : y = true ↔ ∃ r ∈ l, Named r c := by
        rw [hy]
        constructor
        · rintro ⟨q, hq, h⟩; exact ⟨_, (mem_getD rd0 _ _).2 ⟨q, by omega, rfl⟩, h⟩
        · rintro ⟨r, hr, h⟩
          obtain ⟨q, hq, rfl⟩ := (mem_getD rd0 _ _).1 hr
          exact ⟨q, by omega, h⟩
      have hall : ∀ r ∈ l, Named r c → rDeny r = false := by
        intro r hr
        obtain ⟨q, hq, rfl⟩ := (mem_getD rd0 _ _).1 hr
        exact hno q (by omega)
      refine sel_of (fun m1 => ?_) (fun m1 => ⟨false, rfl, ⟨(fun h => by cases h), fun hh => by rw [hex.2 hh.1] at m1; cases m1⟩, hS.frame⟩)
      have hB2 := hS.blk 0 rfl
      refine ⟨_, _, _, (hS.blk 1 rfl).cell rfl, _, hB2.cell rfl, _, hB2.cell rfl, _, hB2.cell rfl, Calls.mono (hS.step0 (containsT ((h.fr hS.frame).e) (Nat.le_trans hb.e (by decide)) a b c)) ?_⟩
      rintro _ w4 ⟨rfl, hS4⟩
      refine ⟨_, rfl, _, rfl, ?_, hS4.frame⟩
      constructor
      · intro hm
        refine ⟨hex.1 m1, hall, fun hh => ?_⟩
        rw [(memB_iff _ _).2 hh] at hm; cases hm
      · rintro ⟨_, _, hm⟩
        cases hh : memB (p.2.2.2.2.2.2.2.2.2.2.1) (a, b, c, ()) with
        | false => rfl
        | true => exact absurd ((memB_iff _ _).1 hh) hm
  · rintro e w' ⟨v, rfl, m, rfl, h⟩; exact ⟨m, rfl, h⟩
theorem allowsC {w : World} {v : PV} {p : PolD} (h : InP w v p) (hb : SmallP p) (a b c : ByteArray) :
    Calls Try.prog 19 #[v.v, Tri a b c] w fun e w' => e = .returned (.bool (allowsB geF ltF p (a, b, c, ()))) ∧ Fr [] w w' := by
  refine Calls.mono (f19.calls (R := fun e w' => e = .bool (allowsB geF ltF p (a, b, c, ())) ∧ Fr [] w w') ?_) ?_
  · dsimp only [f19.VC]
    have hS := ((St.start w).alloc v.cells 28).alloc #[.string a, .string b, .string c] 37
    generalize World.alloc w (.cells v.cells 28) = w1 at *
    generalize w.heap.size = b1 at *
    generalize World.alloc w1 (.cells #[.string a, .string b, .string c] 37) = w2 at *
    generalize w1.heap.size = b2 at *
    have fin : ∀ q : Bool, (q = true ↔ AllowsP geF ltF p (a, b, c, ())) → Value.bool q = Value.bool (allowsB geF ltF p (a, b, c, ())) := fun q hq => congrArg _ (Bool.eq_iff_iff.2 (hq.trans (allowsB_iff geF ltF p _).symm))
    iterate 11 refine ⟨_, _, _, (hS.blk 1 rfl).cell rfl, ?_⟩
    refine ⟨_, (hS.blk 0 rfl).cell rfl, Calls.mono (subjectC (h.fr hS.frame) hb a) ?_⟩
    intro e3 w3 ⟨hf3, hsub⟩
    obtain ⟨s1, f1, m1, b1', rfl, hsub2⟩ : ∃ (s1 : ByteArray) (f1 : Nat) (m1 : Option Nat) (b1 : Bool), e3 = .returned (.tuple #[.agg #[.string s1, .float .f64 f1, .map m1], .bool b1]) ∧
        ((b1 = true ∧ s1 = a ∧ trustOf (pSub p) a = some f1 ∧ ∃ r, m1 = some r ∧ SetAt w3 r (Rch (mS p) a)) ∨ (b1 = false ∧ trustOf (pSub p) a = none)) := by
      cases ht : trustOf (pSub p) a with
      | none => rw [ht] at hsub; exact ⟨_, _, _, _, hsub, .inr ⟨rfl, rfl⟩⟩
      | some t => rw [ht] at hsub; obtain ⟨r, h1, h2⟩ := hsub; exact ⟨_, _, _, _, h1, .inl ⟨rfl, rfl, rfl, r, rfl, h2⟩⟩
    have hS4 := (hS.go hf3).alloc #[.string ⟨#[]⟩, .float .f64 0, .map none] 103
    have hS5 := hS4.over 0 rfl [.string s1, .float .f64 f1, .map m1] rfl
    have hf35 := (Fr.refl [] w3).alloc (cs := #[.string ⟨#[]⟩, .float .f64 0, .map none]) (T := 103) |>.set (g := w3.heap.size) (o := 0) (vs := [.string s1, .float .f64 f1, .map m1]) (.inr (Nat.le_refl _))
    refine ⟨_, _, _, _, rfl, (hS4.blk 0 rfl).can (by decide), ?_⟩
    generalize World.alloc w3 (.cells #[.string ⟨#[]⟩, .float .f64 0, .map none] 103) = w4 at *
    generalize w3.heap.size = b3 at *
    generalize setCs w4 b3 0 [.string s1, .float .f64 f1, .map m1] = w5 at *
    iterate 11 refine ⟨_, _, _, (hS5.blk 2 rfl).cell rfl, ?_⟩
    refine ⟨_, (hS5.blk 1 rfl).cell rfl, Calls.mono (objectC (h.fr hS5.frame) hb b) ?_⟩
    intro e6 w6 ⟨hf6, hobj⟩
    obtain ⟨s2, f2, m2, b2', rfl, hobj2⟩ : ∃ (s2 : ByteArray) (f2 : Nat) (m2 : Option Nat) (b2 : Bool), e6 = .returned (.tuple #[.agg #[.string s2, .float .f64 f2, .map m2], .bool b2]) ∧
        ((b2 = true ∧ b ∈ pObj p ∧ s2 = b ∧ f2 = 0 ∧ ∃ r, m2 = some r ∧ SetAt w6 r (Rch (mO p) b)) ∨ (b2 = false ∧ ¬ b ∈ pObj p)) := by
      rcases hobj with ⟨h1, r, h2, h3⟩ | ⟨h1, h2⟩
      · exact ⟨_, _, _, _, h2, .inl ⟨rfl, h1, rfl, rfl, r, rfl, h3⟩⟩
      · exact ⟨_, _, _, _, h2, .inr ⟨rfl, h1⟩⟩
    have hS7 := (hS5.go hf6).alloc #[.string ⟨#[]⟩, .float .f64 0, .map none] 103
    have hS8 := hS7.over 0 rfl [.string s2, .float .f64 f2, .map m2] rfl
    have hf68 := (Fr.refl [] w6).alloc (cs := #[.string ⟨#[]⟩, .float .f64 0, .map none]) (T := 103) |>.set (g := w6.heap.size) (o := 0) (vs := [.string s2, .float .f64 f2, .map m2]) (.inr (Nat.le_refl _))
    refine ⟨_, _, _, _, rfl, (hS7.blk 0 rfl).can (by decide), ?_⟩
    generalize World.alloc w6 (.cells #[.string ⟨#[]⟩, .float .f64 0, .map none] 103) = w7 at *
    generalize w6.heap.size = b6 at *
    generalize setCs w7 b6 0 [.string s2, .float .f64 f2, .map m2] = w8 at *
    have hf38 := (hf35.trans hf6).trans hf68
    refine sel_of (fun k1 => ?_) (fun k1 => ⟨fin false ⟨(fun h => by cases h), fun hh => ?_⟩, hS8.drew.frame⟩)
    rotate_left
    · rcases hsub2 with ⟨h1, _⟩ | ⟨_, h1⟩
      · rw [h1] at k1; cases k1
      · obtain ⟨t, h2, _⟩ := hh
        have h2 : trustOf (pSub p) a = some t := h2
        rw [h1] at h2; cases h2
    obtain ⟨rfl, htr, rs, rfl, hset⟩ : s1 = a ∧ trustOf (pSub p) a = some f1 ∧ ∃ r, m1 = some r ∧ SetAt w3 r (Rch (mS p) a) := by
      rcases hsub2 with ⟨_, h1⟩ | ⟨h1, _⟩
      · exact h1
      · rw [h1] at k1; cases k1
    refine sel_of (fun k2 => ?_) (fun k2 => ⟨fin false ⟨(fun h => by cases h), fun hh => ?_⟩, hS8.drew.frame⟩)
    rotate_left
    · rcases hobj2 with ⟨h1, _⟩ | ⟨_, h1⟩
      · rw [h1] at k2; cases k2
      · obtain ⟨t, _, h2, _⟩ := hh
        exact absurd h2 h1
    obtain ⟨hbo, rfl, rfl, ro, rfl, hset2⟩ : b ∈ pObj p ∧ s2 = b ∧ f2 = 0 ∧ ∃ r, m2 = some r ∧ SetAt w6 r (Rch (mO p) b) := by
      rcases hobj2 with ⟨_, h1⟩ | ⟨h1, _⟩
      · exact h1
      · rw [h1] at k2; cases k2
    have hS9 := hS8.drew
    refine ⟨_, _, _, (hS8.blk 3 rfl).cell rfl, _, (hS8.blk 2 rfl).cell rfl, Calls.mono (containsC ((h.fr hS9.frame).a) (Nat.le_trans hb.a (by decide)) c) ?_⟩
    rintro _ w9 ⟨rfl, rfl⟩
    refine ⟨_, rfl, ⟨(hS9.blk 2 rfl).cell rfl, (hS9.blk 3 rfl).cell rfl, trivial⟩, sel_of (fun k3 => ?_) (fun k3 => ⟨fin false ⟨(fun h => by cases h), fun hh => ?_⟩, hS9.frame⟩)⟩
    rotate_left
    · obtain ⟨t, _, _, h2, _⟩ := hh
      rw [(memB_iff _ _).2 h2] at k3; cases k3
    have hac : c ∈ pAct p := (memB_iff _ _).1 k3
    have hP9 := h.fr hS9.frame
    iterate 22 refine ⟨_, _, _, (hS9.blk 3 rfl).cell rfl, ?_⟩
    refine ⟨_, (hS9.blk 1 rfl).cell rfl, _, (hS9.blk 1 rfl).cell rfl, _, (hS9.blk 1 rfl).cell rfl, _, (hS9.blk 0 rfl).cell rfl, _, (hS9.blk 0 rfl).cell rfl, _, (hS9.blk 0 rfl).cell rfl, _, (hS9.blk 2 rfl).cell rfl, _, (hS9.blk 2 rfl).cell rfl, _, (hS9.blk 2 rfl).cell rfl,
      Calls.mono (aboutC hP9 hb (hset.fr hf38.drew) (hset2.fr hf68.drew)) ?_⟩
    rintro _ w10 ⟨z, l, rfl, hf10, hz, hzl, hin⟩
    have hS10 := hS9.go hf10
    refine ⟨_, _, _, rfl, ?_, Calls.mono (step0' hS10 (mayC (hP9.fr hf10) hb hz hzl (fun r hr => ((hin r).1 hr).1) s1 s2 c)) ?_⟩
    · repeat' (first | exact trivial | refine And.intro ?_ ?_ | exact (hS10.blk 2 rfl).cell rfl | exact (hS10.blk 0 rfl).cell rfl | exact (hS10.blk 1 rfl).cell rfl | exact (hS10.blk 3 rfl).cell rfl)
    rintro _ w11 ⟨mm, rfl, hm, hS11⟩
    refine ⟨_, rfl, ?_, fin mm ?_, hS11.frame⟩
    · repeat' (first | exact trivial | refine And.intro ?_ ?_ | exact (hS11.blk 2 rfl).cell rfl | exact (hS11.blk 0 rfl).cell rfl | exact (hS11.blk 1 rfl).cell rfl | exact (hS11.blk 3 rfl).cell rfl)
    rw [hm]
    constructor
    · rintro ⟨⟨r, hr, hn⟩, hall, hex⟩
      obtain ⟨h1, h2, h3, h4⟩ := (hin r).1 hr
      exact ⟨f1, htr, hbo, hac, ⟨r, h1, ⟨h2, h3, h4⟩, hn⟩, fun r' hr' hsp hn' => hall r' ((hin r').2 ⟨hr', hsp⟩) hn', hex⟩
    · rintro ⟨t, h1, _, _, ⟨r, hr, hsp, hn⟩, hall, hex⟩
      have h1 : trustOf (pSub p) s1 = some t := h1
      rw [htr] at h1; injection h1 with h1; subst h1
      exact ⟨⟨r, (hin r).2 ⟨hr, hsp⟩, hn⟩, fun r' hr' hn' => hall r' ((hin r').1 hr').1 ((hin r').1 hr').2 hn', hex⟩
  · rintro e w' ⟨v, rfl, rfl, h⟩; exact ⟨rfl, h⟩
end JG
end Go.Proofs.Ytddbebhklmaeoaa
