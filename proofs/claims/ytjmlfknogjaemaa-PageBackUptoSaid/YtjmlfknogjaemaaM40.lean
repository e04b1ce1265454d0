/- Page: the law PageLay, the walk. -/
import Derived.Test.YtjmlfknogjaemaaM37
import Derived.Test.YtjmlfknogjaemaaM38
import Derived.Test.YtjmlfknogjaemaaM39
import Derived.Test.YtjmlfknogjaemaaM7
set_option linter.unusedVariables false
set_option linter.unusedSimpArgs false
set_option maxRecDepth 10000
namespace Go.Proofs.Ytjmlfknogjaemaa
open Go Go.Proofs.Ytjmlfknogjaemaa.Vc
namespace PG
open Vc.PG NI
/-- How large a graph is that is handed in. -/
def SmallG (v : GV) (g : Gd) : Prop := (v.a.2.1 ≤ 1100000 ∧ v.s.2.1 ≤ 1100000 ∧ v.o.2.1 ≤ 1100000 ∧ v.f.2.1 ≤ 1100000 ∧ v.n.2.1 ≤ 1100000 ∧ v.m.2.1 ≤ 1100000) ∧ ∀ r ∈ gM g, r.length ≤ 1100000
theorem SmallG.lens {w : World} {v : GV} {g : Gd} (h : SmallG v g) (hG : InG w v g) : ((gA g).length ≤ 1100000 ∧ (gS g).length ≤ 1100000 ∧ (gO g).length ≤ 1100000 ∧ (gF g).length ≤ 1100000 ∧ (gN g).length ≤ 1100000 ∧ (gM g).length ≤ 1100000) ∧ ∀ r ∈ gM g, r.length ≤ 1100000 := by
  obtain ⟨⟨q1, q2, q3, q4, q5, q6⟩, q7⟩ := h
  have e1 := hG.a.1.1
  have e2 := hG.s.1.1
  have e3 := hG.o.1.1
  have e4 := hG.f.1.1
  have e5 := hG.n.1.1
  have e6 := hG.m.1.1
  exact ⟨⟨by omega, by omega, by omega, by omega, by omega, by omega⟩, q7⟩
theorem SmallG.of {w w' : World} {v u : GV} {g : Gd} (h : SmallG v g) (hG : InG w v g) (hu : InG w' u g) : SmallG u g := by
  obtain ⟨⟨q1, q2, q3, q4, q5, q6⟩, q7⟩ := h.lens hG
  have e1 := hu.a.1.1
  have e2 := hu.s.1.1
  have e3 := hu.o.1.1
  have e4 := hu.f.1.1
  have e5 := hu.n.1.1
  have e6 := hu.m.1.1
  exact ⟨⟨by omega, by omega, by omega, by omega, by omega, by omega⟩, q7⟩
/-- Two readings of one graph are alike. -/
theorem sameOne {w : World} {u v : GV} {g : Gd} (hu : InG w u g) (hv : InG w v g) (hb : SmallG u g) : Calls Try.prog 22 #[u.v, v.v] w fun e w' => e = .returned (.bool true) ∧ Fr [] w w' := by
  obtain ⟨⟨q1, q2, q3, q4, q5, q6⟩, q7⟩ := hb
  have h := sameGR hu hv ⟨⟨by omega, by omega, by omega, by omega, by omega, by omega⟩, fun r hr => by have := q7 r hr; omega⟩
  rw [sameG_refl] at h
  exact h
/-- A laid page and the document's are alike. -/
theorem sameInts {S : List Nat} {w0 w : World} {K : List Chunk} (h : St S w0 w K) (i j : Nat) {x y : Sl} {l : List Int} (hi : K[i]? = some (ints x.v l)) (hj : K[j]? = some (ints y.v l)) (hl : l.length ≤ 1000000) :
    Calls Try.prog 18 #[x.v, y.v] w fun e w' => e = .returned (.bool true) ∧ St S w0 w' K := by
  have hI := St.inI h i hi
  have := h.step0 (sameC (c := x.2.2) (d := y.2.2) hI (St.inI h j hj) (by rw [hI.1]; omega))
  rw [decide_eq_true rfl] at this
  exact this
theorem lawLay {w : World} {v h : GV} {g k : Gd} {B : Option Addr} {m d : Nat} {known : List ByteArray} (hv : InG w v g) (hh : InG w h k) (hK : InX w B m known) (bv : SmallG v g) (bh : SmallG h k) (hm : m ≤ 1100000) (ver : Int) :
    Calls Try.prog 4 #[.int .i64 ver, v.v, h.v, .slice B m d] w fun e w' => e = .returned (.bool true) ∧ Fr [] w w' := by
  refine Calls.mono (f4.calls (R := fun v w' => v = .bool true ∧ Fr [] w w') ?_) ?_
  · dsimp only [f4.VC]
    have bv3 : v.a.2.1 ≤ 1100000 ∧ v.s.2.1 ≤ 1100000 ∧ v.o.2.1 ≤ 1100000 := ⟨bv.1.1, bv.1.2.1, bv.1.2.2.1⟩
    have bh3 : h.a.2.1 ≤ 1100000 ∧ h.s.2.1 ≤ 1100000 ∧ h.o.2.1 ≤ 1100000 := ⟨bh.1.1, bh.1.2.1, bh.1.2.2.1⟩
    have hS0 := ((St.start w).alloc v.cells 29).alloc h.cells 29
    generalize World.alloc (World.alloc w (.cells v.cells 29)) (.cells h.cells 29) = w2 at *
    generalize (World.alloc w (.cells v.cells 29)).heap.size = b2 at *
    generalize w.heap.size = b1 at *
    refine Calls.mono (awake w2) ?_
    rintro _ w3 ⟨rfl, f1⟩
    have hS3 := hS0.go f1
    clear hS0 f1
    refine ⟨_, rfl, Calls.mono (NI.index (hK.fr hS3.frame) (by omega)) ?_⟩
    rintro _ w4 ⟨x, y, rfl, hS4⟩
    have hS4 := hS3.gone hS4
    clear hS3
    have hl : (all [] known).length ≤ 1048576 := all_le _ _ (by simp)
    generalize all [] known = l at *
    have hS4 : St [] w w4 [refI 81 y l, idxC x l, Chunk.blk b2 h.cells 29, Chunk.blk b1 v.cells 29] := hS4
    refine ⟨_, _, rfl, sel_of (fun h => by cases h) (fun _ => ?_)⟩
    refine ⟨_, _, _, (hS4.blk 3 rfl).cell rfl, _, _, _, (hS4.blk 3 rfl).cell rfl, _, _, _, (hS4.blk 3 rfl).cell rfl, _, _, _, (hS4.blk 3 rfl).cell rfl, _, _, _, (hS4.blk 3 rfl).cell rfl, _, _, _, (hS4.blk 3 rfl).cell rfl, ?_⟩
    refine Calls.mono (lentC hS4 (hv.fr hS4.frame) bv) ?_
    clear hS4
    rintro _ w5 ⟨u, bs, bn, ms, rfl, hS5⟩
    refine ⟨_, _, _, _, _, _, _, _, _, _, _, _, _, _, _, _, _, _, _, _, _, _, _, _, _, _, _, rfl, ?_⟩
    have hS6 := hS5.alloc #[.slice none 0 0, .slice none 0 0, .slice none 0 0, .slice none 0 0, .slice none 0 0, .slice none 0 0] 29
    have hS7 := hS6.over 0 rfl [u.a.v, u.s.v, u.o.v, u.f.v, u.n.v, u.m.v] rfl
    refine ⟨(hS6.blk 0 rfl).can (by decide), ?_⟩
    clear hS6 hS5
    generalize setCs (World.alloc w5 (.cells #[.slice none 0 0, .slice none 0 0, .slice none 0 0, .slice none 0 0, .slice none 0 0, .slice none 0 0] 29)) w5.heap.size 0 [u.a.v, u.s.v, u.o.v, u.f.v, u.n.v, u.m.v] = w7 at *
    generalize w5.heap.size = b5 at *
    have hS7 : St [] w w7 [Chunk.blk b5 u.cells 29, Chunk.keep (fun w => InG w u g ∧ Stands bs bn ms g w), refI 81 y l, idxC x l, Chunk.blk b2 h.cells 29, Chunk.blk b1 v.cells 29] := hS7
    have bu : SmallG u g := bv.of hv (hS7.says 1 rfl).1
    have bu3 : u.a.2.1 ≤ 1100000 ∧ u.s.2.1 ≤ 1100000 ∧ u.o.2.1 ≤ 1100000 := ⟨bu.1.1, bu.1.2.1, bu.1.2.2.1⟩
    refine ⟨_, _, _, (hS7.blk 4 rfl).cell rfl, _, _, _, (hS7.blk 4 rfl).cell rfl, _, _, _, (hS7.blk 4 rfl).cell rfl, _, _, _, (hS7.blk 4 rfl).cell rfl, _, _, _, (hS7.blk 4 rfl).cell rfl, _, _, _, (hS7.blk 4 rfl).cell rfl, ?_⟩
    refine Calls.mono (twinC hS7 (hh.fr hS7.frame) bh) ?_
    clear hS7
    rintro _ w8 ⟨t, rfl, hS8⟩
    refine ⟨_, _, _, _, _, _, _, _, _, _, _, _, _, _, _, _, _, _, rfl, ?_⟩
    have hS9 := hS8.alloc #[.slice none 0 0, .slice none 0 0, .slice none 0 0, .slice none 0 0, .slice none 0 0, .slice none 0 0] 29
    have hS10 := hS9.over 0 rfl [t.a.v, t.s.v, t.o.v, t.f.v, t.n.v, t.m.v] rfl
    refine ⟨(hS9.blk 0 rfl).can (by decide), ?_⟩
    clear hS9 hS8
    generalize setCs (World.alloc w8 (.cells #[.slice none 0 0, .slice none 0 0, .slice none 0 0, .slice none 0 0, .slice none 0 0, .slice none 0 0] 29)) w8.heap.size 0 [t.a.v, t.s.v, t.o.v, t.f.v, t.n.v, t.m.v] = w10 at *
    generalize w8.heap.size = b8 at *
    have hS10 : St [] w w10 [Chunk.blk b8 t.cells 29, gC t k, Chunk.blk b5 u.cells 29, Chunk.keep (fun w => InG w u g ∧ Stands bs bn ms g w), refI 81 y l, idxC x l, Chunk.blk b2 h.cells 29, Chunk.blk b1 v.cells 29] := hS10
    have bt : SmallG t k := bh.of hh (hS10.says 1 rfl)
    have bt3 : t.a.2.1 ≤ 1100000 ∧ t.s.2.1 ≤ 1100000 ∧ t.o.2.1 ≤ 1100000 := ⟨bt.1.1, bt.1.2.1, bt.1.2.2.1⟩
    refine ⟨_, _, _, (hS10.blk 7 rfl).cell rfl, _, _, _, (hS10.blk 7 rfl).cell rfl, _, _, _, (hS10.blk 7 rfl).cell rfl, _, _, _, (hS10.blk 7 rfl).cell rfl, _, _, _, (hS10.blk 7 rfl).cell rfl, _, _, _, (hS10.blk 7 rfl).cell rfl, ?_⟩
    refine Calls.mono (layRs hS10 4 rfl hv hl bv3 ver) ?_
    clear hS10
    rintro _ w11 ⟨A1, n1, c1, rfl, hS11⟩
    refine ⟨_, _, _, _, rfl, ?_⟩
    have hl1 := lay_le ver g hl
    have hp1 := lay_small ver g l
    obtain ⟨r1, hr1⟩ := lay_names ver k (layP ver g l).2.2
    have hl2 := lay_le ver k hl1
    have hp2 := lay_small ver k (layP ver g l).2.2
    have hagain := lay_again ver g (l := l) ⟨r1, hr1⟩ hl2
    generalize hP1 : layP ver g l = P1 at *
    obtain ⟨W1, e1, l1⟩ := P1
    dsimp only at *
    have hS11 : St [] w w11 [ints (.slice A1 n1 c1) W1, Chunk.blk b8 t.cells 29, gC t k, Chunk.blk b5 u.cells 29, Chunk.keep (fun w => InG w u g ∧ Stands bs bn ms g w), refI 81 y l1, idxC x l, Chunk.blk b2 h.cells 29, Chunk.blk b1 v.cells 29] := hS11
    refine ⟨_, _, _, (hS11.blk 3 rfl).cell rfl, _, _, _, (hS11.blk 3 rfl).cell rfl, _, _, _, (hS11.blk 3 rfl).cell rfl, _, _, _, (hS11.blk 3 rfl).cell rfl, _, _, _, (hS11.blk 3 rfl).cell rfl, _, _, _, (hS11.blk 3 rfl).cell rfl, ?_⟩
    have hlay := layCs hS11 6 4 (by decide) rfl rfl (v := u) (g := g) (fun w h => h.1) hl bu3 ver
    rw [hP1] at hlay
    refine Calls.mono hlay ?_
    clear hS11 hlay
    rintro _ w12 ⟨A2, n2, c2, rfl, hS12⟩
    refine ⟨_, _, _, _, rfl, ?_⟩
    have hS12 : St [] w w12 [ints (.slice A2 n2 c2) W1, ints (.slice A1 n1 c1) W1, Chunk.blk b8 t.cells 29, gC t k, Chunk.blk b5 u.cells 29, Chunk.keep (fun w => InG w u g ∧ Stands bs bn ms g w), refI 81 y l1, idxC x l1, Chunk.blk b2 h.cells 29, Chunk.blk b1 v.cells 29] := hS12
    refine ⟨fun b w' => b = true ∧ St [] w w' [ints (.slice A2 n2 c2) W1, ints (.slice A1 n1 c1) W1, Chunk.blk b8 t.cells 29, gC t k, Chunk.blk b5 u.cells 29, Chunk.keep (fun w => InG w u g ∧ Stands bs bn ms g w), refI 81 y l1, idxC x l1, Chunk.blk b2 h.cells 29, Chunk.blk b1 v.cells 29], ?_, ?_⟩
    · refine sel_of (fun _ => ?_) (fun h => by simp at h)
      have hS := hS12.drew
      clear hS12
      refine Calls.mono (sameInts hS 0 1 (x := (A2, n2, c2)) (y := (A1, n1, c1)) rfl rfl (by omega)) ?_
      clear hS
      rintro _ w13 ⟨rfl, hS⟩
      refine ⟨_, rfl, sel_of (fun _ => ?_) (fun h => by cases h)⟩
      refine Calls.mono (hS.step0 (sameIdx (idxAt hS 7 rfl) (refAt hS 6 rfl) hl1)) ?_
      clear hS
      rintro _ w14 ⟨rfl, hS⟩
      rw [decide_eq_true rfl]
      refine ⟨_, rfl, sel_of (fun _ => ?_) (fun h => by cases h)⟩
      refine ⟨_, _, _, (hS.blk 4 rfl).cell rfl, _, _, _, (hS.blk 4 rfl).cell rfl, _, _, _, (hS.blk 4 rfl).cell rfl, _, _, _, (hS.blk 4 rfl).cell rfl, _, _, _, (hS.blk 4 rfl).cell rfl, _, _, _, (hS.blk 4 rfl).cell rfl, ?_⟩
      refine ⟨?_, ?_, trivial⟩
      · refine Calls.mono (hS.step0 (sizeC (hS.says 5 rfl).1 bu3)) ?_
        clear hS
        rintro _ w15 ⟨rfl, hS⟩
        refine ⟨_, rfl, ?_⟩
        refine ⟨_, _, _, (hS.blk 9 rfl).cell rfl, _, _, _, (hS.blk 9 rfl).cell rfl, _, _, _, (hS.blk 9 rfl).cell rfl, _, _, _, (hS.blk 9 rfl).cell rfl, _, _, _, (hS.blk 9 rfl).cell rfl, _, _, _, (hS.blk 9 rfl).cell rfl, ?_⟩
        refine Calls.mono (hS.step0 (sizeR (hv.fr hS.frame) bv3)) ?_
        clear hS
        rintro _ w16 ⟨rfl, hS⟩
        exact ⟨_, rfl, rfl, by simp, hS⟩
      · skip
        refine ⟨_, _, _, (hS.blk 9 rfl).cell rfl, _, _, _, (hS.blk 9 rfl).cell rfl, _, _, _, (hS.blk 9 rfl).cell rfl, _, _, _, (hS.blk 9 rfl).cell rfl, _, _, _, (hS.blk 9 rfl).cell rfl, _, _, _, (hS.blk 9 rfl).cell rfl, ?_⟩
        refine Calls.mono (hS.step0 (sizeC (hS.says 5 rfl).1 bu3)) ?_
        clear hS
        rintro _ w15 ⟨rfl, hS⟩
        refine ⟨_, rfl, ?_⟩
        refine Calls.mono (hS.step0 (sizeR (hv.fr hS.frame) bv3)) ?_
        clear hS
        rintro _ w16 ⟨rfl, hS⟩
        exact ⟨_, rfl, rfl, by simp, hS⟩
    · clear hS12
      rintro _ b21 w19 ⟨rfl, hS⟩
      refine ⟨_, _, _, (hS.blk 8 rfl).cell rfl, _, _, _, (hS.blk 8 rfl).cell rfl, _, _, _, (hS.blk 8 rfl).cell rfl, _, _, _, (hS.blk 8 rfl).cell rfl, _, _, _, (hS.blk 8 rfl).cell rfl, _, _, _, (hS.blk 8 rfl).cell rfl, ?_⟩
      have hlayR := layRs hS 6 rfl hh hl1 bh3 ver
      generalize hP2 : layP ver k l1 = P2 at *
      obtain ⟨W2, e2, l2⟩ := P2
      dsimp only at *
      refine Calls.mono hlayR ?_
      clear hS hlayR
      rintro _ w20 ⟨A3, n3, c3, rfl, hS⟩
      refine ⟨_, _, _, _, rfl, ?_⟩
      have hS20 : St [] w w20 [ints (.slice A3 n3 c3) W2, ints (.slice A2 n2 c2) W1, ints (.slice A1 n1 c1) W1, Chunk.blk b8 t.cells 29, gC t k, Chunk.blk b5 u.cells 29, Chunk.keep (fun w => InG w u g ∧ Stands bs bn ms g w), refI 81 y l2, idxC x l1, Chunk.blk b2 h.cells 29, Chunk.blk b1 v.cells 29] := hS
      clear hS
      refine ⟨_, _, _, (hS20.blk 3 rfl).cell rfl, _, _, _, (hS20.blk 3 rfl).cell rfl, _, _, _, (hS20.blk 3 rfl).cell rfl, _, _, _, (hS20.blk 3 rfl).cell rfl, _, _, _, (hS20.blk 3 rfl).cell rfl, _, _, _, (hS20.blk 3 rfl).cell rfl, ?_⟩
      have hlay := layCs hS20 8 4 (by decide) rfl rfl (v := t) (g := k) (fun w h => h) hl1 bt3 ver
      rw [hP2] at hlay
      refine Calls.mono hlay ?_
      clear hS20 hlay
      rintro _ w21 ⟨A4, n4, c4, rfl, hS⟩
      refine ⟨_, _, _, _, rfl, ?_⟩
      have hS21 : St [] w w21 [ints (.slice A4 n4 c4) W2, ints (.slice A3 n3 c3) W2, ints (.slice A2 n2 c2) W1, ints (.slice A1 n1 c1) W1, Chunk.blk b8 t.cells 29, gC t k, Chunk.blk b5 u.cells 29, Chunk.keep (fun w => InG w u g ∧ Stands bs bn ms g w), refI 81 y l2, idxC x l2, Chunk.blk b2 h.cells 29, Chunk.blk b1 v.cells 29] := hS
      clear hS
      refine ⟨fun b w' => b = true ∧ St [] w w' [ints (.slice A4 n4 c4) W2, ints (.slice A3 n3 c3) W2, ints (.slice A2 n2 c2) W1, ints (.slice A1 n1 c1) W1, Chunk.blk b8 t.cells 29, gC t k, Chunk.blk b5 u.cells 29, Chunk.keep (fun w => InG w u g ∧ Stands bs bn ms g w), refI 81 y l2, idxC x l2, Chunk.blk b2 h.cells 29, Chunk.blk b1 v.cells 29], ?_, ?_⟩
      · refine sel_of (fun _ => ?_) (fun h => by simp at h)
        have hS := hS21.drew
        clear hS21
        refine Calls.mono (sameInts hS 0 1 (x := (A4, n4, c4)) (y := (A3, n3, c3)) rfl rfl (by omega)) ?_
        clear hS
        rintro _ w22 ⟨rfl, hS⟩
        refine ⟨_, rfl, sel_of (fun _ => ?_) (fun h => by cases h)⟩
        refine Calls.mono (hS.step0 (sameIdx (idxAt hS 9 rfl) (refAt hS 8 rfl) hl2)) ?_
        clear hS
        rintro _ w23 ⟨rfl, hS⟩
        rw [decide_eq_true rfl]
        refine ⟨_, rfl, sel_of (fun _ => ?_) (fun h => by cases h)⟩
        refine ⟨_, _, _, (hS.blk 4 rfl).cell rfl, _, _, _, (hS.blk 4 rfl).cell rfl, _, _, _, (hS.blk 4 rfl).cell rfl, _, _, _, (hS.blk 4 rfl).cell rfl, _, _, _, (hS.blk 4 rfl).cell rfl, _, _, _, (hS.blk 4 rfl).cell rfl, ?_⟩
        refine ⟨?_, ?_, trivial⟩
        · refine Calls.mono (hS.step0 (sizeC (hS.says 5 rfl) bt3)) ?_
          clear hS
          rintro _ w24 ⟨rfl, hS⟩
          refine ⟨_, rfl, ?_⟩
          refine ⟨_, _, _, (hS.blk 10 rfl).cell rfl, _, _, _, (hS.blk 10 rfl).cell rfl, _, _, _, (hS.blk 10 rfl).cell rfl, _, _, _, (hS.blk 10 rfl).cell rfl, _, _, _, (hS.blk 10 rfl).cell rfl, _, _, _, (hS.blk 10 rfl).cell rfl, ?_⟩
          refine Calls.mono (hS.step0 (sizeR (hh.fr hS.frame) bh3)) ?_
          clear hS
          rintro _ w25 ⟨rfl, hS⟩
          exact ⟨_, rfl, rfl, by simp, hS⟩
        · skip
          refine ⟨_, _, _, (hS.blk 10 rfl).cell rfl, _, _, _, (hS.blk 10 rfl).cell rfl, _, _, _, (hS.blk 10 rfl).cell rfl, _, _, _, (hS.blk 10 rfl).cell rfl, _, _, _, (hS.blk 10 rfl).cell rfl, _, _, _, (hS.blk 10 rfl).cell rfl, ?_⟩
          refine Calls.mono (hS.step0 (sizeC (hS.says 5 rfl) bt3)) ?_
          clear hS
          rintro _ w24 ⟨rfl, hS⟩
          refine ⟨_, rfl, ?_⟩
          refine Calls.mono (hS.step0 (sizeR (hh.fr hS.frame) bh3)) ?_
          clear hS
          rintro _ w25 ⟨rfl, hS⟩
          exact ⟨_, rfl, rfl, by simp, hS⟩
      · clear hS21
        rintro _ b26 w28 ⟨rfl, hS⟩
        refine ⟨_, _, _, (hS.blk 6 rfl).cell rfl, _, _, _, (hS.blk 6 rfl).cell rfl, _, _, _, (hS.blk 6 rfl).cell rfl, _, _, _, (hS.blk 6 rfl).cell rfl, _, _, _, (hS.blk 6 rfl).cell rfl, _, _, _, (hS.blk 6 rfl).cell rfl, ?_⟩
        have hlay := layCs hS 9 7 (by decide) rfl rfl (v := u) (g := g) (fun w h => h.1) hl2 bu3 ver
        rw [hagain] at hlay
        refine Calls.mono hlay ?_
        clear hS hlay
        rintro _ w29 ⟨A5, n5, c5, rfl, hS⟩
        refine ⟨_, _, _, _, rfl, ?_⟩
        have hS29 : St [] w w29 [ints (.slice A5 n5 c5) W1, ints (.slice A4 n4 c4) W2, ints (.slice A3 n3 c3) W2, ints (.slice A2 n2 c2) W1, ints (.slice A1 n1 c1) W1, Chunk.blk b8 t.cells 29, gC t k, Chunk.blk b5 u.cells 29, Chunk.keep (fun w => InG w u g ∧ Stands bs bn ms g w), refI 81 y l2, idxC x l2, Chunk.blk b2 h.cells 29, Chunk.blk b1 v.cells 29] := hS
        clear hS
        refine ⟨fun b w' => b = true ∧ St [] w w' [ints (.slice A5 n5 c5) W1, ints (.slice A4 n4 c4) W2, ints (.slice A3 n3 c3) W2, ints (.slice A2 n2 c2) W1, ints (.slice A1 n1 c1) W1, Chunk.blk b8 t.cells 29, gC t k, Chunk.blk b5 u.cells 29, Chunk.keep (fun w => InG w u g ∧ Stands bs bn ms g w), refI 81 y l2, idxC x l2, Chunk.blk b2 h.cells 29, Chunk.blk b1 v.cells 29], ?_, ?_⟩
        · refine sel_of (fun _ => ?_) (fun h => by simp at h)
          refine Calls.mono (sameInts hS29 0 4 (x := (A5, n5, c5)) (y := (A1, n1, c1)) rfl rfl (by omega)) ?_
          clear hS29
          rintro _ w30 ⟨rfl, hS⟩
          refine ⟨_, rfl, sel_of (fun _ => ?_) (fun h => by cases h)⟩
          refine Calls.mono (sameInts hS 3 4 (x := (A2, n2, c2)) (y := (A1, n1, c1)) rfl rfl (by omega)) ?_
          clear hS
          rintro _ w31 ⟨rfl, hS⟩
          exact ⟨_, rfl, rfl, rfl, hS⟩
        · clear hS29
          rintro _ b28 w32 ⟨rfl, hS⟩
          refine ⟨_, _, _, (hS.blk 7 rfl).cell rfl, _, _, _, (hS.blk 7 rfl).cell rfl, _, _, _, (hS.blk 7 rfl).cell rfl, _, _, _, (hS.blk 7 rfl).cell rfl, _, _, _, (hS.blk 7 rfl).cell rfl, _, _, _, (hS.blk 7 rfl).cell rfl, ?_⟩
          refine Calls.mono (hS.step0 (layNil (v := u) ver)) ?_
          clear hS
          rintro _ w33 ⟨rfl, hS⟩
          refine ⟨_, _, _, _, rfl, sel_of (fun _ => sel_of (fun _ => sel_of (fun _ => sel_of (fun _ => sel_of (fun _ => sel_of (fun _ => ?_) (fun h => by simp at h)) (fun h => by simp at h)) (fun h => by cases h)) (fun h => by cases h)) (fun h => by cases h)) (fun h => by cases h)⟩
          refine ⟨_, _, _, (hS.blk 7 rfl).cell rfl, _, _, _, (hS.blk 7 rfl).cell rfl, _, _, _, (hS.blk 7 rfl).cell rfl, _, _, _, (hS.blk 7 rfl).cell rfl, _, _, _, (hS.blk 7 rfl).cell rfl, _, _, _, (hS.blk 7 rfl).cell rfl, ?_⟩
          refine ⟨_, _, _, (hS.blk 12 rfl).cell rfl, _, _, _, (hS.blk 12 rfl).cell rfl, _, _, _, (hS.blk 12 rfl).cell rfl, _, _, _, (hS.blk 12 rfl).cell rfl, _, _, _, (hS.blk 12 rfl).cell rfl, _, _, _, (hS.blk 12 rfl).cell rfl, ?_⟩
          refine Calls.mono (hS.step0 (sameOne (hS.says 8 rfl).1 (hv.fr hS.frame) bu)) ?_
          clear hS
          rintro _ w34 ⟨rfl, hS⟩
          refine ⟨_, rfl, sel_of (fun _ => ?_) (fun h => by cases h)⟩
          refine ⟨_, _, _, (hS.blk 5 rfl).cell rfl, _, _, _, (hS.blk 5 rfl).cell rfl, _, _, _, (hS.blk 5 rfl).cell rfl, _, _, _, (hS.blk 5 rfl).cell rfl, _, _, _, (hS.blk 5 rfl).cell rfl, _, _, _, (hS.blk 5 rfl).cell rfl, ?_⟩
          refine ⟨_, _, _, (hS.blk 11 rfl).cell rfl, _, _, _, (hS.blk 11 rfl).cell rfl, _, _, _, (hS.blk 11 rfl).cell rfl, _, _, _, (hS.blk 11 rfl).cell rfl, _, _, _, (hS.blk 11 rfl).cell rfl, _, _, _, (hS.blk 11 rfl).cell rfl, ?_⟩
          refine Calls.mono (hS.step0 (sameOne (hS.says 6 rfl) (hh.fr hS.frame) bt)) ?_
          clear hS
          rintro _ w35 ⟨rfl, hS⟩
          refine ⟨_, rfl, sel_of (fun _ => ?_) (fun h => by cases h)⟩
          refine Calls.mono (hS.step0 (standsC (hS.says 8 rfl).2 (bv.lens hv))) ?_
          clear hS
          rintro _ w36 ⟨rfl, hS⟩
          exact ⟨_, rfl, rfl, hS.frame⟩
  · rintro e w' ⟨v, rfl, rfl, h⟩; exact ⟨rfl, h⟩
end PG
end Go.Proofs.Ytjmlfknogjaemaa
/- Graphs that are handed in. -/
set_option linter.unusedVariables false
namespace Go.Proofs.Ytjmlfknogjaemaa.Vc
open Go Go.Deep Go.ChangeShapes Go.WideShapes Go.Proofs.Ytjmlfknogjaemaa.PG Vc.PG
abbrev graphTy : Ty := .pair (.sl .str) (.pair (.sl .str) (.pair (.sl .str) (.pair (.sl (.int .i64)) (.pair (.sl (.int .i64)) (.pair (.sl (.sl (.int .u16))) .unit)))))
theorem In.one {w : World} {e : Ty} {cs : List Value} {l : List (Den e)} {F : List Nat} (h : In w (.sl e) cs l F) : ∃ x : Sl, cs = [x.v] ∧ In w (.sl e) [x.v] l F := by
  obtain ⟨A, n, c, rfl, h2⟩ := h
  exact ⟨(A, n, c), rfl, A, n, c, rfl, h2⟩
theorem wf_u16 {z : Int} (h : (Lit.int .u16 z).wf = true) : 0 ≤ z ∧ z < 65536 := by
  have h2 : (decide (IntKind.min .u16 ≤ z) && decide (z ≤ IntKind.max .u16)) = true := h
  simp [IntKind.min, IntKind.max, IntKind.signed, IntKind.bits] at h2
  omega
theorem In.u16s {w : World} {A : Option Addr} {n c : Nat} {l : List Int} {F : List Nat} (h : In w (.sl (.int .u16)) [.slice A n c] l F) : InU w A n l ∧ ∀ x ∈ l, 0 ≤ x ∧ x < 65536 := by
  obtain ⟨h1, _, h2⟩ := h.elems
  have each : ∀ (b o : Nat), (∀ i (h : i < l.length), ∃ es G, es.length = (Ty.int .u16).w ∧ (∀ j, j < (Ty.int .u16).w → w.cell? ⟨b, o + i * (Ty.int .u16).w + j, none⟩ = es[j]?) ∧ In w (.int .u16) es l[i] G ∧ ∀ x ∈ G, x ∈ F) → ∀ i (h : i < l.length), w.cell? ⟨b, o + i, none⟩ = some (.int .u16 (l.getD i 0)) ∧ 0 ≤ l.getD i 0 ∧ l.getD i 0 < 65536 := by
    intro b o h3 i hi
    obtain ⟨es, G, e1, e2, ⟨e3, e4, _⟩, _⟩ := h3 i hi
    have h4 := e2 0 (by decide)
    rw [e3] at h4
    have e5 : l.getD i 0 = l[i] := by simp [List.getD_eq_getElem?_getD, hi]
    rw [e5]
    refine ⟨?_, wf_u16 e4⟩
    simpa [Ty.w] using h4
  refine ⟨⟨h1, fun hn => ?_⟩, fun x hx => ?_⟩
  · obtain ⟨b, o, rfl, h3⟩ := h2 hn
    exact ⟨b, o, rfl, fun i hi => (each b o h3 i (by omega)).1⟩
  · obtain ⟨i, hi, rfl⟩ := (mem_getD 0 _ _).1 hx
    obtain ⟨b, o, _, h3⟩ := h2 (by omega)
    exact (each b o h3 i hi).2
theorem In.rows {w : World} {A : Option Addr} {n c : Nat} {M : List (List Int)} {F : List Nat} (h : In w (.sl (.sl (.int .u16))) [.slice A n c] M F) : InM w A n M ∧ ∀ r ∈ M, ∀ x ∈ r, 0 ≤ x ∧ x < 65536 := by
  obtain ⟨h1, _, h2⟩ := h.elems
  have each : ∀ (b o : Nat), (∀ i (h : i < M.length), ∃ es G, es.length = (Ty.sl (.int .u16)).w ∧ (∀ j, j < (Ty.sl (.int .u16)).w → w.cell? ⟨b, o + i * (Ty.sl (.int .u16)).w + j, none⟩ = es[j]?) ∧ In w (.sl (.int .u16)) es M[i] G ∧ ∀ x ∈ G, x ∈ F) → ∀ i (h : i < M.length), (∃ B k c, w.cell? ⟨b, o + i, none⟩ = some (.slice B k c) ∧ InU w B k (M.getD i [])) ∧ ∀ x ∈ M.getD i [], 0 ≤ x ∧ x < 65536 := by
    intro b o h3 i hi
    obtain ⟨es, G, e1, e2, e3, _⟩ := h3 i hi
    have h4 := e2 0 (by decide)
    obtain ⟨x, rfl, e6⟩ := In.one e3
    have e5 : M.getD i [] = M[i] := by simp [List.getD_eq_getElem?_getD, hi]
    rw [e5]
    obtain ⟨e7, e8⟩ := In.u16s e6
    exact ⟨⟨x.1, x.2.1, x.2.2, by simpa [Ty.w] using h4, e7⟩, e8⟩
  refine ⟨⟨h1, fun hn => ?_⟩, fun r hr => ?_⟩
  · obtain ⟨b, o, rfl, h3⟩ := h2 hn
    exact ⟨b, o, rfl, fun i hi => (each b o h3 i (by have : n = M.length := h1; omega)).1⟩
  · obtain ⟨i, hi, rfl⟩ := (mem_getD [] _ _).1 hr
    have hi' : i < M.length := hi
    have h1' : n = M.length := h1
    obtain ⟨b, o, _, h3⟩ := h2 (by omega)
    exact (each b o h3 i hi).2
theorem In.cap {w : World} {e : Ty} {x : Sl} {l : List (Den e)} {F : List Nat} (h : In w (.sl e) [x.v] l F) : x.2.1 ≤ x.2.2 := h.elems.2.1
theorem inGraph {w : World} {cs : List Value} {g : Gd} {F : List Nat} (h : In w graphTy cs g F) : ∃ v : GV, cs = v.cells.toList ∧ InG w v g := by
  obtain ⟨c1, k1, _, _, rfl, _, _, h1, h⟩ := h
  obtain ⟨c2, k2, _, _, rfl, _, _, h2, h⟩ := h
  obtain ⟨c3, k3, _, _, rfl, _, _, h3, h⟩ := h
  obtain ⟨c4, k4, _, _, rfl, _, _, h4, h⟩ := h
  obtain ⟨c5, k5, _, _, rfl, _, _, h5, h⟩ := h
  obtain ⟨c6, k6, _, _, rfl, _, _, h6, h⟩ := h
  obtain ⟨rfl, _⟩ := h
  obtain ⟨x1, rfl, h1⟩ := In.one h1
  obtain ⟨x2, rfl, h2⟩ := In.one h2
  obtain ⟨x3, rfl, h3⟩ := In.one h3
  obtain ⟨x4, rfl, h4⟩ := In.one h4
  obtain ⟨x5, rfl, h5⟩ := In.one h5
  obtain ⟨x6, rfl, h6⟩ := In.one h6
  obtain ⟨r1, r2⟩ := In.rows h6
  exact ⟨⟨x1, x2, x3, x4, x5, x6⟩, rfl, ⟨In.strs h1, In.cap h1⟩, ⟨In.strs h2, In.cap h2⟩, ⟨In.strs h3, In.cap h3⟩, ⟨In.ints h4, In.cap h4⟩, ⟨In.ints h5, In.cap h5⟩, ⟨r1, In.cap h6⟩, r2⟩
theorem wt_row : ∀ {M : List (List Int)} {r : List Int}, r ∈ M → (wt (.sl (.int .u16)) r) ≤ (M.map fun x => max 1 (wt (.sl (.int .u16)) x)).sum
  | m :: M, r, h => by
    rw [List.map_cons, List.sum_cons]
    rcases List.mem_cons.1 h with rfl | h
    · omega
    · have := wt_row h; omega
theorem smallGraph {w : World} {v : GV} {g : Gd} (h : InG w v g) (hk : wt graphTy g ≤ 1048576) : SmallG v g := by
  obtain ⟨l1, l2, l3, l4, l5, l6, _⟩ := g
  have hk : wt (.sl .str) l1 + (wt (.sl .str) l2 + (wt (.sl .str) l3 + (wt (.sl (.int .i64)) l4 + (wt (.sl (.int .i64)) l5 + (wt (.sl (.sl (.int .u16))) l6 + 0))))) ≤ 1048576 := hk
  have a1 := wt_len (e := .str) l1
  have a2 := wt_len (e := .str) l2
  have a3 := wt_len (e := .str) l3
  have a4 := wt_len (e := .int .i64) l4
  have a5 := wt_len (e := .int .i64) l5
  have a6 := wt_len (e := .sl (.int .u16)) l6
  have e1 : v.a.2.1 = l1.length := h.a.1.1
  have e2 : v.s.2.1 = l2.length := h.s.1.1
  have e3 : v.o.2.1 = l3.length := h.o.1.1
  have e4 : v.f.2.1 = l4.length := h.f.1.1
  have e5 : v.n.2.1 = l5.length := h.n.1.1
  have e6 : v.m.2.1 = l6.length := h.m.1.1
  refine ⟨⟨by omega, by omega, by omega, by omega, by omega, by omega⟩, fun r hr => ?_⟩
  have hr : r ∈ l6 := hr
  have h1 := wt_row hr
  have h2 := wt_len (e := .int .u16) r
  have h3 : wt (.sl (.sl (.int .u16))) l6 = 1 + (l6.map fun x => max 1 (wt (.sl (.int .u16)) x)).sum := rfl
  omega
end Go.Proofs.Ytjmlfknogjaemaa.Vc
