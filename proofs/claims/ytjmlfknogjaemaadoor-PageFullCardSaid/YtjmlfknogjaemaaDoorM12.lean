/- Page: graphs that are read; the document's column, shaped, Valid. -/
import Derived.Test.YtjmlfknogjaemaaDoorM11
import Derived.Test.YtjmlfknogjaemaaDoorM7
import Derived.WideKeyEntry
import Derived.ChangeKeysEq
set_option linter.unusedVariables false
set_option linter.unusedSimpArgs false
set_option maxRecDepth 10000
namespace Go.Proofs.YtjmlfknogjaemaaDoor
open Go Go.Proofs.YtjmlfknogjaemaaDoor.Vc
namespace PG
open Vc.PG NI
/-- Masks that are read. -/
def InM (w : World) (A : Option Addr) (n : Nat) (M : List (List Int)) : Prop := n = M.length ∧ (0 < n → ∃ b o, A = some ⟨b, o, none⟩ ∧ ∀ i, i < n → ∃ B k c, w.cell? ⟨b, o + i, none⟩ = some (.slice B k c) ∧ InU w B k (M.getD i []))
abbrev Sl := Option Addr × Nat × Nat
structure GV where
  a : Sl
  s : Sl
  o : Sl
  f : Sl
  n : Sl
  m : Sl
abbrev Sl.v (x : Sl) : Value := .slice x.1 x.2.1 x.2.2
abbrev GV.cells (v : GV) : Array Value := #[v.a.v, v.s.v, v.o.v, v.f.v, v.n.v, v.m.v]
abbrev GV.v (v : GV) : Value := .agg v.cells
/-- A graph that is read. -/
structure InG (w : World) (v : GV) (g : Gd) : Prop where
  a : InX w v.a.1 v.a.2.1 (gA g) ∧ v.a.2.1 ≤ v.a.2.2
  s : InX w v.s.1 v.s.2.1 (gS g) ∧ v.s.2.1 ≤ v.s.2.2
  o : InX w v.o.1 v.o.2.1 (gO g) ∧ v.o.2.1 ≤ v.o.2.2
  f : InW w v.f.1 v.f.2.1 (gF g) ∧ v.f.2.1 ≤ v.f.2.2
  n : InW w v.n.1 v.n.2.1 (gN g) ∧ v.n.2.1 ≤ v.n.2.2
  m : InM w v.m.1 v.m.2.1 (gM g) ∧ v.m.2.1 ≤ v.m.2.2
  u : ∀ r ∈ gM g, ∀ x ∈ r, 0 ≤ x ∧ x < 65536
theorem InU.fr {w w' : World} {A : Option Addr} {n : Nat} {W : List Int} (h : InU w A n W) (hf : Fr [] w w') : InU w' A n W := by
  refine ⟨h.1, fun hn => ?_⟩
  obtain ⟨b, o, rfl, h2⟩ := h.2 hn
  exact ⟨b, o, rfl, fun i hi => hf.cell (h2 i hi)⟩
theorem InM.fr {w w' : World} {A : Option Addr} {n : Nat} {W : List (List Int)} (h : InM w A n W) (hf : Fr [] w w') : InM w' A n W := by
  refine ⟨h.1, fun hn => ?_⟩
  obtain ⟨b, o, rfl, h2⟩ := h.2 hn
  refine ⟨b, o, rfl, fun i hi => ?_⟩
  obtain ⟨B, k, c, h3, h4⟩ := h2 i hi
  exact ⟨B, k, c, hf.cell h3, h4.fr hf⟩
theorem InG.fr {w w' : World} {v : GV} {g : Gd} (h : InG w v g) (hf : Fr [] w w') : InG w' v g :=
  ⟨⟨h.a.1.fr hf, h.a.2⟩, ⟨h.s.1.fr hf, h.s.2⟩, ⟨h.o.1.fr hf, h.o.2⟩, ⟨h.f.1.fr hf, h.f.2⟩, ⟨h.n.1.fr hf, h.n.2⟩, ⟨h.m.1.fr hf, h.m.2⟩, h.u⟩
theorem InM.need {w : World} {A : Option Addr} {n : Nat} {M : List (List Int)} (h : InM w A n M) {i : Int} {q : Nat} (h0 : i = (q : Int)) (h1 : q < n) {K : Option Addr → Nat → Nat → Prop} (hk : ∀ B k c, InU w B k (M.getD q []) → K B k c) :
    needPtr A fun b o => ∃ B k c, w.cell? ⟨b, o + i.toNat * 1, none⟩ = some (.slice B k c) ∧ K B k c := by
  obtain ⟨b, o, rfl, h2⟩ := h.2 (by omega)
  obtain ⟨B, k, c, h3, h4⟩ := h2 q h1
  refine needPtr_of rfl ⟨B, k, c, ?_, hk B k c h4⟩
  rw [Nat.mul_one, h0, Int.toNat_natCast]
  exact h3
abbrev encU (x : Int) : Value := .int .u16 x
abbrev slU (v : Value) (l : List Int) : Chunk := Chunk.ls encU 59 v l
theorem under82 : Tryd.prog.underlying 29 = some (.slice 59) := by kernel_rfl
theorem info79 : ∃ i, Tryd.prog.info? 59 = some i ∧ i.zero = some (.int .u16 0) ∧ i.size = 1 ∧ i.bytes = 2 := ⟨Tryd.prog.types[59]!, by kernel_rfl, by kernel_rfl, by kernel_rfl, by kernel_rfl⟩
theorem St.inU {S : List Nat} {w0 w : World} {L : List Chunk} (h : St S w0 w L) (i : Nat) {A : Option Addr} {n c : Nat} {l : List Int} (hi : L[i]? = some (slU (.slice A n c) l)) : InU w A n l := by
  refine ⟨h.lsLen i hi, fun hn => ?_⟩
  obtain ⟨g, hg, hc⟩ := h.lsGet 0 i hi hn
  exact ⟨g, 0, hg, fun q hq => by rw [Nat.zero_add]; exact hc q hq⟩
theorem columnR {w : World} {A : Option Addr} {n c : Nat} {M : List (List Int)} (h : InM w A n M) (hn : n ≤ 1000000) {y : Nat} (hy : ∀ r ∈ M, y < r.length) :
    Calls Tryd.prog 36 #[.slice A n c, .int .i64 (y : Int)] w fun e w' => ∃ B m d, e = .returned (.slice B m d) ∧ St [] w w' [slU (.slice B m d) (col M y)] := by
  refine Calls.mono (f36.calls (R := fun v w' => ∃ B m d, v = .slice B m d ∧ St [] w w' [slU (.slice B m d) (col M y)]) ?_) ?_
  · dsimp only [f36.VC]
    have hl := h.1
    refine ⟨fun B m d x w' r => ∃ i : Nat, x = (i : Int) ∧ i + r = n ∧ St [] w w' [slU (.slice B m d) (col (M.take i) y)], ⟨n, 0, rfl, by omega, by rw [List.take_zero]; exact (St.start w).nil 59 1⟩, ?_⟩
    rintro d B m k x w1 r ⟨i, rfl, hir, hS⟩
    refine sel_of (fun hd => ?_) (fun hd => ?_)
    · have hi : i < n := by have := of_decide_eq_true hd; omega
      refine ⟨by omega, by omega, InM.need (h.fr hS.frame) rfl hi fun B' k' c' hU => ?_⟩
      have hyl : y < (M.getD i []).length := by
        have : i < M.length := by omega
        rw [List.getD_eq_getElem?_getD, List.getElem?_eq_getElem this]
        exact hy _ (List.getElem_mem this)
      refine ⟨by omega, by have := hU.1; omega, hU.need rfl (by have := hU.1; omega) ?_⟩
      obtain ⟨ti, i1, i2, i3, i4⟩ := info79
      obtain ⟨g', cap', w3, hrun, hS3⟩ := hS.app (enc := encU) (P := Tryd.prog) (t := 29) (ty := 29) (fun _ => rfl) under82 i1 i2 i3 rfl (by omega) 0 rfl ((M.getD i []).getD y 0) (by simp [col]; omega)
      rw [inc i n (by omega) (by omega)]
      refine ⟨_, _, _, _, hrun, rfl, r - 1, by omega, i + 1, rfl, by omega, ?_⟩
      have e : col (M.take (i + 1)) y = col (M.take i) y ++ [(M.getD i []).getD y 0] := by
        have : i < M.length := by omega
        unfold col
        rw [List.take_succ_eq_append_getElem this, List.map_append]
        simp [List.getD_eq_getElem?_getD, this]
      rw [e]
      exact hS3
    · have hi : i = n := by have := of_decide_eq_false hd; omega
      refine ⟨_, _, _, rfl, ?_⟩
      rw [List.take_of_length_le (by omega)] at hS
      exact hS
  · rintro e w' ⟨v, rfl, B, m, d, rfl, h⟩; exact ⟨_, _, _, rfl, h⟩
theorem pow_le {b : Nat} (h : b ≤ 16) : (2 : Int) ^ b ≤ 65536 := by
  have : (2 : Nat) ^ b ≤ 2 ^ 16 := Nat.pow_le_pow_right (by omega) h
  have h2 : ((2 ^ b : Nat) : Int) ≤ ((2 ^ 16 : Nat) : Int) := by omega
  simpa using h2
theorem shapedR {w : World} {v : GV} {g : Gd} (h : InG w v g) (hb : (gA g).length ≤ 16) (n m : Nat) (hn : n ≤ 100000) (hm : m ≤ 100000) :
    Calls Tryd.prog 34 #[v.v, .int .i64 (n : Int), .int .i64 (m : Int)] w fun e w' => e = .returned (.bool (shapedB (gM g) n m (gA g).length)) ∧ Fr [] w w' := by
  refine Calls.mono (f34.calls (R := fun v w' => v = .bool (shapedB (gM g) n m (gA g).length) ∧ Fr [] w w') ?_) ?_
  · dsimp only [f34.VC]
    have hS := (St.start w).alloc v.cells 32
    have h1 := h.fr hS.frame
    generalize hbb : w.heap.size = b at *
    generalize World.alloc w (.cells v.cells 32) = w1 at *
    refine ⟨_, _, _, (hS.blk 0 rfl).cell rfl, sel_of (fun hd => ?_) (fun hd => ?_)⟩
    · have hd : (v.m.2.1 : Int) ≠ (n : Int) := bne_iff_ne.1 hd
      have := h.m.1.1
      refine ⟨?_, hS.frame⟩
      unfold shapedB
      rw [decide_eq_false (by omega), Bool.false_and]
    · have hd : (v.m.2.1 : Int) = (n : Int) := bne_eq_false_iff_eq.1 hd
      have hml := h.m.1.1
      have hal := h.a.1.1
      have e0 : shapedB (gM g) n m (gA g).length = (gM g).all fun r => decide (r.length = m) && r.all fun x => decide (x < 2 ^ (gA g).length) := by
        unfold shapedB
        rw [decide_eq_true (by omega), Bool.true_and]
      rw [e0]
      refine ⟨fun x y w' r => w' = w1 ∧ ∃ i : Nat, y = (i : Int) ∧ x = 2 ^ i ∧ i + r = (gA g).length, ⟨(gA g).length, rfl, 0, rfl, by simp, by omega⟩, ?_⟩
      rintro d x y w2 r ⟨rfl, i, rfl, rfl, hir⟩
      refine ⟨_, _, _, (hS.blk 0 rfl).cell rfl, sel_of (fun hd => ?_) (fun hd => ?_)⟩
      · have hi : i < (gA g).length := by have := of_decide_eq_true hd; omega
        have hp := pow_le (b := i) (by omega)
        have hp2 : (0 : Int) ≤ 2 ^ i := Int.le_of_lt (Int.pow_pos (by omega))
        rw [inc i 16 (by omega) (by omega), i64_id (by omega) (by omega)]
        exact ⟨rfl, r - 1, by omega, rfl, i + 1, rfl, by rw [Int.pow_succ]; omega, by omega⟩
      · have hi : i = (gA g).length := by have := of_decide_eq_false hd; omega
        subst hi
        generalize (2 : Int) ^ (gA g).length = P at *
        refine ⟨fun x w' r => w' = w2 ∧ ∃ i : Nat, x = (i : Int) ∧ i + r = n ∧ ((gM g).drop i).all (fun r => decide (r.length = m) && r.all fun x => decide (x < P)) = (gM g).all (fun r => decide (r.length = m) && r.all fun x => decide (x < P)), ⟨n, rfl, 0, rfl, by omega, by simp⟩, ?_⟩
        rintro d x w3 r ⟨rfl, i, rfl, hir, hgo⟩
        refine sel_of (fun hd => ?_) (fun hd => ?_)
        · have hi : i < n := by have := of_decide_eq_true hd; omega
          rw [drop_cons [] (gM g) i (by omega), List.all_cons] at hgo
          refine ⟨_, _, _, (hS.blk 0 rfl).cell rfl, by omega, by omega, InM.need h1.m.1 rfl (by omega) fun B k c hU => sel_of (fun h2 => ?_) (fun h2 => ?_)⟩
          · have h2 : (k : Int) ≠ (m : Int) := bne_iff_ne.1 h2
            have := hU.1
            rw [decide_eq_false (by omega), Bool.false_and, Bool.false_and] at hgo
            rw [← hgo]; exact ⟨rfl, hS.frame⟩
          · have h2 : (k : Int) = (m : Int) := bne_eq_false_iff_eq.1 h2
            have hk := hU.1
            rw [decide_eq_true (by omega), Bool.true_and] at hgo
            refine ⟨fun x w' q => w' = w3 ∧ ∃ j : Nat, x = (j : Int) ∧ j + q = m ∧ (((gM g).getD i []).drop j).all (fun x => decide (x < P)) = ((gM g).getD i []).all (fun x => decide (x < P)), ⟨m, rfl, 0, rfl, by omega, by simp⟩, ?_⟩
            rintro d x w4 q ⟨rfl, j, rfl, hjq, hgo2⟩
            refine sel_of (fun hd => ?_) (fun hd => ?_)
            · have hj : j < m := by have := of_decide_eq_true hd; omega
              rw [drop_cons 0 ((gM g).getD i []) j (by omega), List.all_cons] at hgo2
              refine ⟨_, _, _, (hS.blk 0 rfl).cell rfl, by omega, by omega, InM.need h1.m.1 rfl (by omega) fun B k c hU => ⟨by omega, by have := hU.1; omega, hU.need rfl (by have := hU.1; omega) ?_⟩⟩
              have hu : 0 ≤ ((gM g).getD i []).getD j 0 ∧ ((gM g).getD i []).getD j 0 < 65536 := by
                refine h.u ((gM g).getD i []) ?_ _ ?_
                · exact (mem_getD [] _ _).2 ⟨i, by omega, rfl⟩
                · exact (mem_getD 0 _ _).2 ⟨j, by omega, rfl⟩
              rw [i64_id (x := ((gM g).getD i []).getD j 0) (by omega) (by omega)]
              refine sel_of (fun h3 => ?_) (fun h3 => ?_)
              · have h3 := of_decide_eq_true h3
                rw [decide_eq_false (by omega), Bool.false_and] at hgo2
                rw [← hgo2, Bool.false_and] at hgo
                rw [← hgo]; exact ⟨rfl, hS.frame⟩
              · have h3 := of_decide_eq_false h3
                rw [decide_eq_true (by omega), Bool.true_and] at hgo2
                rw [inc j 100000 (by omega) (by omega)]
                exact ⟨rfl, q - 1, by omega, rfl, j + 1, rfl, by omega, hgo2⟩
            · have hj : j = m := by have := of_decide_eq_false hd; omega
              rw [List.drop_of_length_le (by omega), List.all_nil] at hgo2
              rw [← hgo2, Bool.true_and] at hgo
              rw [inc i 100000 (by omega) (by omega)]
              exact ⟨rfl, r - 1, by omega, rfl, i + 1, rfl, by omega, hgo⟩
        · have hi : i = n := by have := of_decide_eq_false hd; omega
          rw [List.drop_of_length_le (by omega), List.all_nil] at hgo
          rw [← hgo]; exact ⟨rfl, hS.frame⟩
  · rintro e w' ⟨v, rfl, rfl, h⟩; exact ⟨rfl, h⟩
end PG
end Go.Proofs.YtjmlfknogjaemaaDoor
/- Page: which graphs the document calls valid. -/
set_option linter.unusedVariables false
set_option linter.unusedSimpArgs false
set_option maxRecDepth 10000
namespace Go.Proofs.YtjmlfknogjaemaaDoor
open Go Go.Proofs.YtjmlfknogjaemaaDoor.Vc
namespace PG
open Vc.PG NI
theorem valid_lens {g : Gd} (h : ¬ ((gA g).length ≤ 16 ∧ (gS g).length ≤ 64 ∧ (gO g).length ≤ 64 ∧ (gF g).length = (gS g).length ∧ (gN g).length = (gO g).length)) : validP g = false := by
  unfold validP; rw [decide_eq_false h]; rfl
theorem valid_twice {g : Gd} (h : ¬ ((gA g).Nodup ∧ (gS g).Nodup ∧ (gO g).Nodup)) : validP g = false := by
  unfold validP; rw [decide_eq_false h, Bool.and_false]; rfl
theorem valid_none {g : Gd} (h : great (gF g) 0 = none ∨ great (gN g) 0 = none) : validP g = false := by
  unfold validP
  rcases h with h | h
  · rw [h, Bool.and_false]
  · rw [h]; cases great (gF g) 0 <;> exact Bool.and_false _
theorem valid_eq {g : Gd} {n m : Nat} (h1 : (gA g).length ≤ 16 ∧ (gS g).length ≤ 64 ∧ (gO g).length ≤ 64 ∧ (gF g).length = (gS g).length ∧ (gN g).length = (gO g).length) (h2 : (gA g).Nodup ∧ (gS g).Nodup ∧ (gO g).Nodup) (h3 : great (gF g) 0 = some n) (h4 : great (gN g) 0 = some m) :
    validP g = (shapedB (gM g) n m (gA g).length && decide ((gM g).Nodup) && decide (((List.range m).map (col (gM g))).Nodup)) := by
  unfold validP; rw [decide_eq_true h1, decide_eq_true h2, h3, h4]; rfl
theorem shaped_len {M : List (List Int)} {n m b : Nat} (h : shapedB M n m b = true) : M.length = n ∧ ∀ r ∈ M, r.length = m := by
  unfold shapedB at h
  rw [Bool.and_eq_true, decide_eq_true_iff, List.all_eq_true] at h
  refine ⟨h.1, fun r hr => ?_⟩
  have := h.2 r hr
  rw [Bool.and_eq_true, decide_eq_true_iff] at this
  exact this.1
theorem cols_getD (M : List (List Int)) (m : Nat) {i : Nat} (hi : i < m) : ((List.range m).map (col M)).getD i [] = col M i := by
  simp [List.getD_eq_getElem?_getD, hi]
theorem validR {w : World} {v : GV} {g : Gd} (h : InG w v g) (hbig : v.a.2.1 ≤ 1100000 ∧ v.s.2.1 ≤ 1100000 ∧ v.o.2.1 ≤ 1100000) :
    Calls Tryd.prog 12 #[v.v] w fun e w' => e = .returned (.bool (validP g)) ∧ Fr [] w w' := by
  refine Calls.mono (f12.calls (R := fun v w' => v = .bool (validP g) ∧ Fr [] w w') ?_) ?_
  · dsimp only [f12.VC]
    have hS := (St.start w).alloc v.cells 32
    have hg := h.fr hS.frame
    generalize hbb : w.heap.size = b at *
    generalize World.alloc w (.cells v.cells 32) = w1 at *
    have la := h.a.1.1
    have ls := h.s.1.1
    have lo := h.o.1.1
    have lf := h.f.1.1
    have ln := h.n.1.1
    have lm := h.m.1.1
    refine ⟨_, _, _, (hS.blk 0 rfl).cell rfl, sel_of (fun h1 => ⟨?_, hS.frame⟩) (fun h1 => ⟨_, _, _, (hS.blk 0 rfl).cell rfl, sel_of (fun h2 => ⟨?_, hS.frame⟩) (fun h2 => ⟨_, _, _, (hS.blk 0 rfl).cell rfl, sel_of (fun h3 => ⟨?_, hS.frame⟩) (fun h3 => ⟨_, _, _, (hS.blk 0 rfl).cell rfl, _, _, _, (hS.blk 0 rfl).cell rfl, sel_of (fun h4 => ⟨?_, hS.frame⟩) (fun h4 => ⟨_, _, _, (hS.blk 0 rfl).cell rfl, _, _, _, (hS.blk 0 rfl).cell rfl, sel_of (fun h5 => ⟨?_, hS.frame⟩) (fun h5 => ?_)⟩)⟩)⟩)⟩)⟩
    · have h1 := of_decide_eq_true h1
      rw [valid_lens (by omega)]
    · have h2 := of_decide_eq_true h2
      rw [valid_lens (by omega)]
    · have h3 := of_decide_eq_true h3
      rw [valid_lens (by omega)]
    · have h4 : (v.f.2.1 : Int) ≠ (v.s.2.1 : Int) := bne_iff_ne.1 h4
      rw [valid_lens (by omega)]
    · have h5 : (v.n.2.1 : Int) ≠ (v.o.2.1 : Int) := bne_iff_ne.1 h5
      rw [valid_lens (by omega)]
    have h1 := of_decide_eq_false h1
    have h2 := of_decide_eq_false h2
    have h3 := of_decide_eq_false h3
    have h4 : (v.f.2.1 : Int) = (v.s.2.1 : Int) := bne_eq_false_iff_eq.1 h4
    have h5 : (v.n.2.1 : Int) = (v.o.2.1 : Int) := bne_eq_false_iff_eq.1 h5
    have hlens : (gA g).length ≤ 16 ∧ (gS g).length ≤ 64 ∧ (gO g).length ≤ 64 ∧ (gF g).length = (gS g).length ∧ (gN g).length = (gO g).length := by omega
    refine ⟨_, _, _, (hS.blk 0 rfl).cell rfl, ?_⟩
    refine Calls.mono (hS.step0 (twiceR hg.a.1 (by omega))) ?_
    rintro _ w2 ⟨rfl, hS⟩
    refine ⟨_, rfl, _, _, _, (hS.blk 0 rfl).cell rfl, ?_⟩
    refine Calls.mono (hS.step0 (twiceR (h.fr hS.frame).s.1 (by omega))) ?_
    rintro _ w3 ⟨rfl, hS⟩
    refine ⟨_, rfl, _, _, _, (hS.blk 0 rfl).cell rfl, ?_⟩
    refine Calls.mono (hS.step0 (twiceR (h.fr hS.frame).o.1 (by omega))) ?_
    rintro _ w4 ⟨rfl, hS⟩
    refine ⟨_, rfl, _, _, _, (hS.blk 0 rfl).cell rfl, ?_⟩
    refine Calls.mono (greatR (h.fr hS.frame).f.1 (by omega)) ?_
    rintro _ w5 ⟨rfl, e5⟩
    rw [e5]
    refine ⟨_, _, rfl, _, _, _, (hS.blk 0 rfl).cell rfl, ?_⟩
    refine Calls.mono (greatR (h.fr hS.frame).n.1 (by omega)) ?_
    rintro _ w6 ⟨rfl, e6⟩
    rw [e6]
    clear e5 e6 w5 w6
    refine ⟨_, _, rfl, sel_of (fun t1 => ⟨?_, hS.frame⟩) (fun t1 => sel_of (fun t2 => ⟨?_, hS.frame⟩) (fun t2 => sel_of (fun t3 => ⟨?_, hS.frame⟩) (fun t3 => sel_of (fun t4 => ⟨?_, hS.frame⟩) (fun t4 => sel_of (fun t5 => ⟨?_, hS.frame⟩) (fun t5 => ?_)))))⟩
    · have t1 := of_decide_eq_true t1
      rw [valid_twice (fun hh => t1 hh.1)]
    · have t2 := of_decide_eq_true t2
      rw [valid_twice (fun hh => t2 hh.2.1)]
    · have t3 := of_decide_eq_true t3
      rw [valid_twice (fun hh => t3 hh.2.2)]
    · rw [valid_none (.inl (by simpa using t4))]
    · rw [valid_none (.inr (by simpa using t5))]
    have t1 : (gA g).Nodup := by simpa using of_decide_eq_false t1
    have t2 : (gS g).Nodup := by simpa using of_decide_eq_false t2
    have t3 : (gO g).Nodup := by simpa using of_decide_eq_false t3
    obtain ⟨n, hn⟩ : ∃ n, great (gF g) 0 = some n := Option.isSome_iff_exists.1 (by simpa using t4)
    obtain ⟨m, hm⟩ : ∃ m, great (gN g) 0 = some m := Option.isSome_iff_exists.1 (by simpa using t5)
    have hnl := great_le _ _ _ hn
    have hml := great_le _ _ _ hm
    rw [valid_eq hlens ⟨t1, t2, t3⟩ hn hm, hn, hm]
    clear t4 t5
    dsimp only [Option.getD_some]
    refine ⟨_, _, _, (hS.blk 0 rfl).cell rfl, _, _, _, (hS.blk 0 rfl).cell rfl, _, _, _, (hS.blk 0 rfl).cell rfl, _, _, _, (hS.blk 0 rfl).cell rfl, _, _, _, (hS.blk 0 rfl).cell rfl, _, _, _, (hS.blk 0 rfl).cell rfl, ?_⟩
    refine Calls.mono (hS.step0 (shapedR (h.fr hS.frame) (by omega) n m (by omega) (by omega))) ?_
    rintro _ w7 ⟨rfl, hS⟩
    refine ⟨_, rfl, sel_of (fun t6 => ⟨?_, hS.frame⟩) (fun t6 => ?_)⟩
    · have t6 : shapedB (gM g) n m (gA g).length = false := by simpa using t6
      rw [t6]; rfl
    have t6 : shapedB (gM g) n m (gA g).length = true := by simpa using t6
    obtain ⟨q1, q2⟩ := shaped_len t6
    rw [t6, Bool.true_and]
    refine ⟨fun x w' r => ∃ i : Nat, x = (i : Int) ∧ i + r = n ∧ St [] w w' [Chunk.blk b v.cells 32] ∧ ∀ a c, a < c → c < i → (gM g).getD a [] ≠ (gM g).getD c [], ⟨n, 0, rfl, by omega, hS, fun a c _ hc => by omega⟩, ?_⟩
    rintro d x w8 r ⟨i, rfl, hir, hS, hno⟩
    refine sel_of (fun hd => ?_) (fun hd => ?_)
    · have hi : i < n := by have := of_decide_eq_true hd; omega
      refine ⟨fun x w' q => ∃ j : Nat, x = (j : Int) ∧ j + q = i ∧ St [] w w' [Chunk.blk b v.cells 32] ∧ ∀ a, a < j → (gM g).getD a [] ≠ (gM g).getD i [], ⟨i, 0, rfl, by omega, hS, fun a ha => by omega⟩, ?_⟩
      rintro d x w9 q ⟨j, rfl, hjq, hS, hno2⟩
      refine sel_of (fun hd => ?_) (fun hd => ?_)
      · have hj : j < i := by have := of_decide_eq_true hd; omega
        refine ⟨_, _, _, (hS.blk 0 rfl).cell rfl, by omega, by omega, InM.need (h.fr hS.frame).m.1 rfl (by omega) fun B k c hU => ⟨_, _, _, (hS.blk 0 rfl).cell rfl, by omega, by omega, InM.need (h.fr hS.frame).m.1 rfl (by omega) fun B' k' c' hU' => ?_⟩⟩
        have hk : k ≤ 1000000 := by
          have := hU.1
          have := q2 _ ((mem_getD [] _ _).2 ⟨i, by omega, rfl⟩)
          omega
        refine Calls.mono (hS.drew.step0 (equalR (hU.fr (Fr.refl [] w9).drew) (hU'.fr (Fr.refl [] w9).drew) (by omega))) ?_
        rintro _ w10 ⟨rfl, hS⟩
        refine ⟨_, rfl, sel_of (fun hs => ⟨?_, hS.frame⟩) (fun hs => ?_)⟩
        · have hs := of_decide_eq_true hs
          rw [decide_eq_false (fun hnd => (nodup_getD [] (gM g)).1 hnd j i hj (by omega) hs.symm), Bool.false_and]
        · have hs := of_decide_eq_false hs
          rw [inc j 100000 (by omega) (by omega)]
          refine ⟨rfl, q - 1, by omega, j + 1, rfl, by omega, hS, fun a ha => ?_⟩
          rcases Nat.lt_or_ge a j with h1 | h1
          · exact hno2 a h1
          · have : a = j := by omega
            subst this; exact fun he => hs he.symm
      · have hj : j = i := by have := of_decide_eq_false hd; omega
        rw [inc i 100000 (by omega) (by omega)]
        refine ⟨rfl, r - 1, by omega, i + 1, rfl, by omega, hS, fun a c hac hc => ?_⟩
        rcases Nat.lt_or_ge c i with h1 | h1
        · exact hno a c hac h1
        · have : c = i := by omega
          subst this; exact hno2 a (by omega)
    · have hi : i = n := by have := of_decide_eq_false hd; omega
      rw [decide_eq_true ((nodup_getD [] (gM g)).2 fun a c hac hc => hno a c hac (by omega)), Bool.true_and]
      clear hno hir hi hd
      refine ⟨fun x w' r => ∃ i : Nat, x = (i : Int) ∧ i + r = m ∧ St [] w w' [Chunk.blk b v.cells 32] ∧ ∀ a c, a < c → c < i → col (gM g) a ≠ col (gM g) c, ⟨m, 0, rfl, by omega, hS, fun a c _ hc => by omega⟩, ?_⟩
      rintro d x w8 r ⟨i, rfl, hir, hS, hno⟩
      refine sel_of (fun hd => ?_) (fun hd => ?_)
      · have hi : i < m := by have := of_decide_eq_true hd; omega
        refine ⟨fun x w' q => ∃ j : Nat, x = (j : Int) ∧ j + q = i ∧ St [] w w' [Chunk.blk b v.cells 32] ∧ ∀ a, a < j → col (gM g) a ≠ col (gM g) i, ⟨i, 0, rfl, by omega, hS, fun a ha => by omega⟩, ?_⟩
        rintro d x w9 q ⟨j, rfl, hjq, hS, hno2⟩
        refine sel_of (fun hd => ?_) (fun hd => ?_)
        · have hj : j < i := by have := of_decide_eq_true hd; omega
          have hcl : (col (gM g) i).length ≤ 1000000 := by unfold col; rw [List.length_map]; omega
          have fin : ∀ w10, St [] w w10 [Chunk.blk b v.cells 32] → ∀ bb, bb = decide (col (gM g) i = col (gM g) j) → sel bb (Value.bool false = .bool (decide (((List.range m).map (col (gM g))).Nodup)) ∧ Fr [] w w10) (([.pointer (some ⟨b, 0, none⟩), .int .i64 (m : Int), .int .i64 (i : Int)] : List Value) = ([.pointer (some ⟨b, 0, none⟩), .int .i64 (m : Int), .int .i64 (i : Int)] : List Value) ∧ ∃ q', q' < q ∧ ∃ j' : Nat, IntKind.i64.wrap ((j : Int) + 1) = (j' : Int) ∧ j' + q' = i ∧ St [] w w10 [Chunk.blk b v.cells 32] ∧ ∀ a, a < j' → col (gM g) a ≠ col (gM g) i) := by
            rintro w10 hS bb rfl
            refine sel_of (fun hs => ⟨?_, hS.frame⟩) (fun hs => ?_)
            · have hs := of_decide_eq_true hs
              rw [decide_eq_false fun hnd => ?_]
              have := (nodup_getD [] _).1 hnd j i hj (by simp; omega)
              rw [cols_getD _ _ (by omega), cols_getD _ _ (by omega)] at this
              exact this hs.symm
            · have hs := of_decide_eq_false hs
              rw [inc j 100000 (by omega) (by omega)]
              refine ⟨rfl, q - 1, by omega, j + 1, rfl, by omega, hS, fun a ha => ?_⟩
              rcases Nat.lt_or_ge a j with h1 | h1
              · exact hno2 a h1
              · have : a = j := by omega
                subst this; exact fun he => hs he.symm
          have two : Calls Tryd.prog 36 #[v.m.v, .int .i64 (i : Int)] w9.drew fun e w13 => ∃ B1 n1 c1, e = .returned (.slice B1 n1 c1) ∧ St [] w w13 [slU (.slice B1 n1 c1) (col (gM g) i), Chunk.blk b v.cells 32] := by
            refine Calls.mono (columnR (h.fr hS.drew.frame).m.1 (by omega) (y := i) (fun r hr => by rw [q2 r hr]; omega)) ?_
            rintro _ w13 ⟨B1, n1, c1, rfl, hC⟩
            exact ⟨_, _, _, rfl, hS.drew.gone hC⟩
          have three : ∀ w13 B1 n1 c1, St [] w w13 [slU (.slice B1 n1 c1) (col (gM g) i), Chunk.blk b v.cells 32] → Calls Tryd.prog 36 #[v.m.v, .int .i64 (j : Int)] w13 fun e w14 => ∃ B2 n2 c2, e = .returned (.slice B2 n2 c2) ∧ Calls Tryd.prog 35 #[.slice B1 n1 c1, .slice B2 n2 c2] w14 fun e w15 => ∃ bb, e = .returned (.bool bb) ∧ bb = decide (col (gM g) i = col (gM g) j) ∧ St [] w w15 [Chunk.blk b v.cells 32] := by
            intro w13 B1 n1 c1 hS
            refine Calls.mono (columnR (h.fr hS.frame).m.1 (by omega) (y := j) (fun r hr => by rw [q2 r hr]; omega)) ?_
            rintro _ w14 ⟨B2, n2, c2, rfl, hC⟩
            have hS := hS.gone hC
            refine ⟨_, _, _, rfl, ?_⟩
            refine Calls.mono (hS.step0 (equalR (St.inU hS 1 rfl) (St.inU hS 0 rfl) (by have := (St.inU hS 1 rfl).1; omega))) ?_
            rintro _ w15 ⟨rfl, hS⟩
            exact ⟨_, rfl, rfl, hS.tail.tail⟩
          refine ⟨_, _, _, (hS.blk 0 rfl).cell rfl, ?_, ?_, trivial⟩
          · refine Calls.mono two ?_
            rintro _ w13 ⟨B1, n1, c1, rfl, hS⟩
            refine ⟨_, _, _, rfl, _, _, _, (hS.blk 1 rfl).cell rfl, ?_⟩
            refine Calls.mono (three _ _ _ _ hS) ?_
            rintro _ w14 ⟨B2, n2, c2, rfl, h56⟩
            refine ⟨_, _, _, rfl, Calls.mono h56 ?_⟩
            rintro _ w15 ⟨bb, rfl, hbb, hS⟩
            exact ⟨_, rfl, fin _ hS _ hbb⟩
          · refine ⟨_, _, _, (hS.blk 0 rfl).cell rfl, ?_⟩
            refine Calls.mono two ?_
            rintro _ w13 ⟨B1, n1, c1, rfl, hS⟩
            refine ⟨_, _, _, rfl, ?_⟩
            refine Calls.mono (three _ _ _ _ hS) ?_
            rintro _ w14 ⟨B2, n2, c2, rfl, h56⟩
            refine ⟨_, _, _, rfl, Calls.mono h56 ?_⟩
            rintro _ w15 ⟨bb, rfl, hbb, hS⟩
            exact ⟨_, rfl, fin _ hS _ hbb⟩
        · have hj : j = i := by have := of_decide_eq_false hd; omega
          rw [inc i 100000 (by omega) (by omega)]
          refine ⟨rfl, r - 1, by omega, i + 1, rfl, by omega, hS, fun a c hac hc => ?_⟩
          rcases Nat.lt_or_ge c i with h1 | h1
          · exact hno a c hac h1
          · have : c = i := by omega
            subst this; exact hno2 a (by omega)
      · have hi : i = m := by have := of_decide_eq_false hd; omega
        refine ⟨?_, hS.frame⟩
        rw [decide_eq_true ((nodup_getD [] _).2 fun a c hac hc => ?_)]
        simp only [List.length_map, List.length_range] at hc
        rw [cols_getD _ _ (by omega), cols_getD _ _ (by omega)]
        exact hno a c hac (by omega)
  · rintro e w' ⟨v, rfl, rfl, h⟩; exact ⟨rfl, h⟩
end PG
end Go.Proofs.YtjmlfknogjaemaaDoor
/- Maps: an entry that is added to; arrays of numbers as keys. -/
set_option linter.unusedVariables false
set_option linter.unusedSimpArgs false
set_option linter.unusedSectionVars false
namespace Go.Proofs.YtjmlfknogjaemaaDoor.Vc
namespace GM
open Go Go.MapKept
section
variable {K V : Type} [DecidableEq K] {encK : K → Value} {encV : V → Value}
def ent (d : V) (l : List (K × V)) (k : K) : List (K × V) := match idx l k with | some _ => l | none => l ++ [(k, d)]
theorem idx_snoc {l : List (K × V)} {k : K} {v : V} (h : idx l k = none) : idx (l ++ [(k, v)]) k = some l.length := by
  unfold idx at *
  rw [List.map_append, List.findIdx?_append, h]
  simp
theorem get_ent (d : V) (l : List (K × V)) (k : K) : get d (ent d l k) k = get d l k := by
  unfold ent
  cases h : idx l k with
  | some j => rfl
  | none =>
    dsimp only
    unfold get
    rw [idx_snoc h, h]
    simp [List.getD_eq_getElem?_getD]
theorem store_at {w : World} {r : Nat} {l : List (K × V)} {es : Array MapEntry} {c : Nat} {P : Program} {t : TypeId} (h : w.heap[r]? = some (.map es c)) (h2 : es.toList.map (fun e => (e.key, e.val)) = l.map (fun p => (encK p.1, encV p.2))) (hs : Stamped es c)
    {j : Nat} (hj : j < l.length) {k : K} (hk : (l[j]).1 = k) {e0 : MapEntry} (he : es.toList[j]? = some e0) (v : V) :
    ∃ w', (Instr.entryStore t (.map (some r)) (.int .i64 (e0.born : Int)) (encV v)).run P w = .ok () w' ∧ MapIs encK encV w' r (l.set j (k, v)) ∧ Fr [r] w w' := by
  obtain ⟨s1, s2, s3⟩ := hs
  have hidx : es.findIdx? (fun e => ((e.born : Nat) : Int) == ((e0.born : Nat) : Int)) = some j := by
    rw [Go.WideElems.findIdx_arr]
    exact Go.WideElems.findIdx_born s2 he
  have hjs : j < es.size := by
    have := congrArg List.length h2
    simp at this; omega
  have hrun : (Instr.entryStore t (.map (some r)) (.int .i64 (e0.born : Int)) (encV v)).run P w = .ok () { w with heap := w.heap.setIfInBounds r (.map (es.modify j fun e => { e with val := encV v }) c) } := by
    simp only [Instr.entryStore, Sem.run_bind, Go.MapKept.run_getObj_map h, Result.andThen_ok, asInt, asIntOf, Sem.run_pure, hidx, Go.MapKept.run_setObj_map _ h]
  refine ⟨_, hrun, ⟨_, _, (heap_set h).1, ?_, stamped_modify ⟨s1, s2, s3⟩ j (fun e => { e with val := encV v }) (fun _ _ => rfl) (fun _ _ _ => rfl)⟩, fr_map h _ _⟩
  apply List.ext_getElem?
  intro q
  have hq := congrArg (fun x => x[q]?) h2
  simp only [List.getElem?_map, Array.getElem?_toList] at hq
  simp only [List.getElem?_map, Array.getElem?_toList, Array.getElem?_modify, List.getElem?_set]
  by_cases hqj : j = q
  · subst hqj
    rw [← hk]
    simp only [List.getElem?_eq_getElem hj, Option.map_some] at hq
    cases hx : es[j]? with
    | none => rw [hx] at hq; simp at hq
    | some e => rw [hx] at hq; simp at hq; simp [hx, hj, hq.1]
  · simp [hqj, hq]
theorem entry {P : Program} {w : World} {r : Nat} {l : List (K × V)} {t kt et : TypeId} {i : TypeInfo} (ht : P.underlying t = some (.map kt et)) (hk : KeyLaw P kt encK) {d : V} (hi : P.info? et = some i) (hz : i.zero = some (encV d)) (h : MapIs encK encV w r l) (k : K) :
    ∃ (st : Int) (w1 : World), (Instr.mapEntry t (.map (some r)) (encK k)).run P w = .ok (.tuple #[encV (get d l k), .int .i64 st]) w1 ∧ MapIs encK encV w1 r (ent d l k) ∧ Fr [r] w w1 ∧
      ∀ (w2 : World) (v : V), w2.heap[r]? = w1.heap[r]? → ∃ w3, (Instr.entryStore t (.map (some r)) (.int .i64 st) (encV v)).run P w2 = .ok () w3 ∧ MapIs encK encV w3 r (put l k v) ∧ Fr [r] w2 w3 := by
  obtain ⟨es, c, h, h2, hs⟩ := h
  have hf := hk.find k es.toList (l.map (·.1)) w (keys_of h2)
  have hlen : es.size = l.length := by simpa using congrArg List.length h2
  simp only [Instr.mapEntry, Sem.run_bind, run_underlying ht, Result.andThen_ok, Go.MapKept.run_getObj_map h, hk.check, hf]
  cases hx : idx l k with
  | none =>
    have hx' := hx
    unfold idx at hx
    have hno : ∀ x ∈ es.toList, x.key ≠ encK k := by
      intro x hxm he
      have h3 : (x.key, x.val) ∈ es.toList.map (fun e => (e.key, e.val)) := List.mem_map.2 ⟨x, hxm, rfl⟩
      rw [h2] at h3
      obtain ⟨p, hp, he2⟩ := List.mem_map.1 h3
      simp only [Prod.mk.injEq] at he2
      rw [he] at he2
      have h4 := hk.inj _ _ he2.1
      have h5 := List.findIdx?_eq_none_iff.1 hx p.1 (List.mem_map.2 ⟨p, hp, rfl⟩)
      simp [h4] at h5
    have hg : get d l k = d := by unfold get; rw [hx']
    have hs1 := stamped_push hs (val := encV d) hno
    have h21 : (es.push ⟨encK k, encV d, c⟩).toList.map (fun e => (e.key, e.val)) = (l ++ [(k, d)]).map (fun p => (encK p.1, encV p.2)) := by simp [h2]
    have hent : ent d l k = l ++ [(k, d)] := by unfold ent; rw [hx']
    have hzr : (zeroValue et).run P w = .ok (encV d) w := by simp [zeroValue, typeInfo, hi, hz]
    simp only [hx, Sem.run_bind, hzr, Result.andThen_ok, Go.MapKept.run_setObj_map _ h, Sem.run_pure]
    refine ⟨(c : Int), _, by rw [hg]; rfl, ⟨_, _, (heap_set h).1, by rw [hent]; exact h21, hs1⟩, fr_map h _ _, fun w2 v hw2 => ?_⟩
    rw [(heap_set h).1] at hw2
    have hj : l.length < (l ++ [(k, d)]).length := by simp
    obtain ⟨w3, q1, q2, q3⟩ := store_at (t := t) (P := P) hw2 h21 hs1 hj (k := k) (by simp) (e0 := ⟨encK k, encV d, c⟩) (by rw [Array.toList_push, ← hlen, ← Array.length_toList]; simp) v
    refine ⟨w3, q1, ?_, q3⟩
    unfold put
    rw [hx']
    have e : (l ++ [(k, d)]).set l.length (k, v) = l ++ [(k, v)] := by simp
    rw [e] at q2
    exact q2
  | some j =>
    have hx' := hx
    unfold idx at hx
    obtain ⟨hjl, hjk, _⟩ := List.findIdx?_eq_some_iff_getElem.mp hx
    have hj : j < l.length := by simpa using hjl
    have hkj : (l[j]).1 = k := by simpa using hjk
    obtain ⟨e, e1, e2, e3⟩ := val_of (d := d) h2 hj
    have hjs : j < es.size := by omega
    have e1' : es[j]? = some e := by simpa using e1
    have hst : (Instr.keyThatStays (((es[j]?).map (·.key)).getD (encK k)) (encK k)).run P w = .ok (encK k) w := by
      rw [e1']
      simp only [Option.map_some, Option.getD_some, e2, hkj]
      exact hk.stays k w
    have hsame : es.modify j (fun x => { x with key := encK k }) = es := by
      apply Array.ext'
      rw [Array.toList_modify, Go.ChangeMaps.modify_eq_set _ _ _ _ e1]
      have : ({ e with key := encK k } : MapEntry) = e := by rw [← hkj, ← e2]
      rw [this]
      exact Go.WideElems.set_self _ _ _ e1
    have hg : encV (get d l k) = e.val := by unfold get; rw [hx']; exact e3.symm
    have hent : ent d l k = l := by unfold ent; rw [hx']
    simp only [hx, e1, Option.map_some, Sem.run_bind, hst, Result.andThen_ok, Go.MapKept.run_setObj_map _ h, hsame, Sem.run_pure]
    refine ⟨(e.born : Int), _, by rw [hg, e1']; rfl, ⟨_, _, (heap_set h).1, by rw [hent]; exact h2, hs⟩, fr_map h _ _, fun w2 v hw2 => ?_⟩
    rw [(heap_set h).1] at hw2
    obtain ⟨w3, q1, q2, q3⟩ := store_at (t := t) (P := P) hw2 h2 hs hj hkj e1 v
    refine ⟨w3, q1, ?_, q3⟩
    unfold put
    rw [hx']
    exact q2
end
/-- Rows of n whole numbers. -/
abbrev Arr (n : Nat) := {l : List Int // l.length = n}
abbrev encArr (q : IntKind) (n : Nat) (a : Arr n) : Value := .agg (a.1.map (Value.int q)).toArray
section
variable {P : Program} {kt et : TypeId} {n : Nat} {q : IntKind} {i : TypeInfo}
theorem part_int (he : P.underlying et = some (.int q)) {l : List Int} {j : Nat} (hj : j < l.length) (w : World) : (part et (l.map (Value.int q)).toArray j).run P w = .ok (.int q (l.getD j 0)) w := by
  simp [part, isAgg, run_underlying he, List.getD_eq_getElem?_getD, hj]
theorem eqItems_ints (he : P.underlying et = some (.int q)) (hc : P.cellsOf et = 1) (d : Nat) {a b : List Int} (w : World) : ∀ is : List Nat, (∀ j ∈ is, j < a.length ∧ j < b.length) → (Op.eqItems (d + 1) et (P.cellsOf et) (a.map (Value.int q)).toArray (b.map (Value.int q)).toArray is).run P w = .ok (is.all fun j => a.getD j 0 == b.getD j 0) w
  | [], _ => by simp [Op.eqItems]
  | j :: is, h => by
    obtain ⟨ha, hb⟩ := h j (by simp)
    have ih := eqItems_ints he hc d (a := a) (b := b) w is (fun k hk => h k (by simp [hk]))
    rw [hc] at ih ⊢
    simp only [Op.eqItems, Nat.mul_one, Sem.run_bind, part_int he ha, part_int he hb, Result.andThen_ok, Op.equalIn, run_underlying he, if_true, Sem.run_pure]
    rw [List.all_cons]
    generalize (a.getD j 0 == b.getD j 0) = c
    cases c
    · simp
    · simpa using ih
theorem check_int (he : P.underlying et = some (.int q)) (e : Bool) (m : Nat) (x : Int) (w : World) : (Instr.checkKey e (m + 1) et (.int q x)).run P w = .ok () w := by
  rw [Instr.checkKey]
  simp [run_underlying he]
theorem KeyLaw.arr (hu : P.underlying kt = some (.array n et)) (he : P.underlying et = some (.int q)) (hi : P.info? et = some i) (hs : i.size = 1) : KeyLaw P kt (encArr q n) := by
  have hc : P.cellsOf et = 1 := by simp [Program.cellsOf, hi, hs]
  refine KeyLaw.asked hu (fun e k w => ?_) (fun a b h => ?_) (fun a b => rfl) (fun a b w => ?_) (fun k w => ?_)
  · show (Instr.checkKey e (9999 + 1) kt (encArr q n k)).run P w = .ok () w
    rw [Instr.checkKey]
    simp only [Sem.run_bind, run_underlying hu, Result.andThen_ok, encArr]
    simp only [Std.Legacy.Range.forIn_eq_forIn_range', Std.Legacy.Range.size, Nat.sub_zero, Nat.add_one_sub_one, Nat.div_one]
    have hall : ∀ j ∈ List.range' 0 n, j < k.1.length := fun j hj => by rw [k.2]; simpa using hj
    generalize List.range' 0 n = is at hall
    induction is with
    | nil => simp
    | cons j is ih =>
      have hj := hall j (by simp)
      have hck := check_int he e 9998 (k.1.getD j 0) w
      have hp : (part et (k.1.map (Value.int q)).toArray (j * P.cellsOf et)).run P w = .ok (.int q (k.1.getD j 0)) w := by
        rw [hc, Nat.mul_one]; exact part_int he hj w
      simp only [List.forIn_cons, Sem.run_bind, run_sizeOf w hi, Result.andThen_ok, hp, hck, Sem.run_pure]
      exact ih (fun x hx => hall x (by simp [hx]))
  · simp only [encArr, Value.agg.injEq] at h
    have h2 : a.1.map (Value.int q) = b.1.map (Value.int q) := by simpa using h
    apply Subtype.ext
    have inj : ∀ (x y : List Int), x.map (Value.int q) = y.map (Value.int q) → x = y := by
      intro x
      induction x with
      | nil => intro y h; cases y with | nil => rfl | cons => simp at h
      | cons p x ih => intro y h; cases y with | nil => simp at h | cons u y => simp at h; rw [h.1, ih y (by simpa using h.2)]
    exact inj _ _ h2
  · show (Op.equalIn (9999 + 1) kt (encArr q n a) (encArr q n b)).run P w = .ok (decide (a = b)) w
    rw [encArr, encArr, run_equalIn_array w 9999 _ _ hu hi, eqItems_ints he hc 9998 w _ (fun j hj => by rw [a.2, b.2]; simpa using hj)]
    congr 1
    rw [Bool.eq_iff_iff, List.all_eq_true, decide_eq_true_iff]
    constructor
    · intro h
      apply Subtype.ext
      refine List.ext_getElem (by rw [a.2, b.2]) fun j hj hj2 => ?_
      have := h j (by rw [a.2] at hj; simpa using hj)
      simpa [List.getD_eq_getElem?_getD, hj, hj2] using this
    · rintro rfl j _
      simp
  · have : Instr.sameBits 10000 (encArr q n k) (encArr q n k) = true := by
      simp only [encArr, Instr.sameBits]
      have : ∀ l : List Int, ((l.map (Value.int q)).zip (l.map (Value.int q))).all (fun (x, y) => Instr.sameBits 9999 x y) = true := by
        intro l
        induction l with
        | nil => rfl
        | cons x l ih => simp only [List.map_cons, List.zip_cons_cons, List.all_cons, ih, Instr.sameBits]; simp
      simpa using this k.1
    simp [Instr.keyThatStays, this]
end
end GM
end Go.Proofs.YtjmlfknogjaemaaDoor.Vc
