/- Page: the law PageBack, the walk. -/
import Derived.Test.YtjmlfknogjaemaaM49
import Derived.Test.YtjmlfknogjaemaaM31
set_option linter.unusedVariables false
set_option linter.unusedSimpArgs false
set_option linter.unusedSectionVars false
set_option maxRecDepth 10000
namespace Go.Proofs.Ytjmlfknogjaemaa
open Go Go.Proofs.Ytjmlfknogjaemaa.Vc
namespace PG
open Vc.PG NI
/-- A laid page's words are small. -/
theorem LaidW.small {W : List Int} {L : List ByteArray} {v : Int} {g : Gd} {Z : List Pz} (h : LaidW W L v g Z) (hv : validP g = true) (hL : L.length ≤ 1048576) (hver : v ≤ 2147483647) (hu : ∀ r ∈ gM g, ∀ x ∈ r, 0 ≤ x ∧ x < 65536) (i : Nat) : W.getD i 0 ≤ 9223372036854775807 := by
  obtain ⟨⟨p1, p2, p3, p4, p5⟩, _, q1, q2, q3, q4, q5, q6, q7⟩ := valid_parts hv
  have ht := tOf_le hv
  have hzl := h.zl
  rcases Nat.lt_or_ge i 4 with h4 | h4
  · rcases (show i = 0 ∨ i = 1 ∨ i = 2 ∨ i = 3 by omega) with rfl | rfl | rfl | rfl
    · rw [h.h0]; omega
    · rw [h.h1]; omega
    · rw [h.h2]; omega
    · rw [h.h3]; omega
  rcases Nat.lt_or_ge i (4 + 2 * tOf g) with ht4 | ht4
  · have key : ∀ j, j < Z.length → (Z.getD j pz0).1 ≤ 9000000 ∧ (Z.getD j pz0).2 ≤ 9000000 := by
      intro j hj
      by_cases h0 : (Z.getD j pz0).1 = 0
      · rw [h.tab.zero j hj h0]; decide
      · have hm := h.tab.mem j hj h0
        have each : ∀ {k : Int} {l : List ByteArray} {n : List Int} (hk : (k = 3 ∧ l = gA g ∧ n = upTo (gA g).length) ∨ (k = 1 ∧ l = gS g ∧ n = gF g) ∨ (k = 2 ∧ l = gO g ∧ n = gN g)), (∀ i, i < l.length → n.getD i 0 ≤ 64) → Z.getD j pz0 ∈ entP L (ensOf l k n) → (Z.getD j pz0).1 ≤ 9000000 ∧ (Z.getD j pz0).2 ≤ 9000000 := by
          intro k l n hk hn hp
          obtain ⟨e1, e2, e3, e4, e5, e6, e7⟩ := h.ent hv hk
          obtain ⟨q, hq, he⟩ := (ent_mem e1).1 hp
          have h1 := hn q hq
          have h2 := num_le L (l.getD q ByteArray.empty)
          rw [he]
          exact ⟨by dsimp only; omega, by dsimp only; omega⟩
        unfold ens at hm
        rw [ent_app, ent_app] at hm
        rcases List.mem_append.1 hm with hm | hm
        · rcases List.mem_append.1 hm with hm | hm
          · exact each (.inl ⟨rfl, rfl, rfl⟩) (fun i hi => by rw [upTo_get hi]; omega) hm
          · exact each (.inr (.inl ⟨rfl, rfl, rfl⟩)) (fun i hi => by
              have := (great_ge _ _ _ q1).2 _ ((mem_getD 0 _ _).2 ⟨i, by omega, rfl⟩); omega) hm
        · exact each (.inr (.inr ⟨rfl, rfl, rfl⟩)) (fun i hi => by
              have := (great_ge _ _ _ q2).2 _ ((mem_getD 0 _ _).2 ⟨i, by omega, rfl⟩); omega) hm
    rcases (show (∃ j, j < tOf g ∧ i = 4 + 2 * j) ∨ ∃ j, j < tOf g ∧ i = 4 + 2 * j + 1 by
      rcases Nat.mod_two_eq_zero_or_one i with hm | hm
      · exact .inl ⟨(i - 4) / 2, by omega, by omega⟩
      · exact .inr ⟨(i - 4) / 2, by omega, by omega⟩) with ⟨j, hj, rfl⟩ | ⟨j, hj, rfl⟩
    · rw [(h.reads j (by omega)).1]
      have := (key j (by omega)).1; omega
    · rw [(h.reads j (by omega)).2]
      have := (key j (by omega)).2; omega
  · rcases Nat.lt_or_ge i W.length with hi | hi
    · have hlen := h.len
      have hpos : 0 < topOf (gN g) := by
        rcases Nat.eq_zero_or_pos (topOf (gN g)) with h0 | h0
        · rw [h0, Nat.mul_zero] at hlen; omega
        · exact h0
      have hdm := Nat.div_add_mod (i - (4 + 2 * tOf g)) (topOf (gN g))
      have hy := Nat.mod_lt (i - (4 + 2 * tOf g)) hpos
      have hx : (i - (4 + 2 * tOf g)) / topOf (gN g) < topOf (gF g) := Nat.div_lt_of_lt_mul (by rw [Nat.mul_comm (topOf (gN g)) (topOf (gF g))]; omega)
      have hm := h.mask _ hx _ hy
      rw [Nat.mul_comm] at hdm
      rw [show 4 + 2 * tOf g + (i - (4 + 2 * tOf g)) / topOf (gN g) * topOf (gN g) + (i - (4 + 2 * tOf g)) % topOf (gN g) = i by omega] at hm
      rw [hm]
      obtain ⟨r1, r2⟩ := valid_rows hv
      have hr : (gM g).getD ((i - (4 + 2 * tOf g)) / topOf (gN g)) [] ∈ gM g := (mem_getD _ _ _).2 ⟨_, by omega, rfl⟩
      have hl := r2 _ hr
      have := hu _ hr _ ((mem_getD 0 _ _).2 ⟨_, by rw [hl]; exact hy, rfl⟩)
      omega
    · rw [List.getD_eq_getElem?_getD, List.getElem?_eq_none hi]; decide
theorem lay_L {v : Int} {g : Gd} {l : List ByteArray} (h : (layP v g l).2.1 = 0) : (layP v g l).2.2 = all l (names g) := by
  unfold layP at h ⊢
  split at h
  · cases h
  split at h
  · cases h
  split at h
  · cases h
  rename_i hver hv0 hr
  rw [if_neg hver, if_neg hv0, if_neg hr]
  have hv : validP g = true := by cases h : validP g with | true => rfl | false => exact absurd h hv0
  rw [layZ_eq hv (by omega) []]
theorem lawBack {w : World} {v : GV} {g : Gd} (hv : InG w v g) (bv : SmallG v g) (ver nxt : Int) :
    Calls Try.prog 7 #[.int .i64 ver, .int .i64 nxt, v.v] w fun e w' => e = .returned (.bool true) ∧ Fr [] w w' := by
  refine Calls.mono (f7.calls (R := fun v w' => v = .bool true ∧ Fr [] w w') ?_) ?_
  · dsimp only [f7.VC]
    have bv3 : v.a.2.1 ≤ 1100000 ∧ v.s.2.1 ≤ 1100000 ∧ v.o.2.1 ≤ 1100000 := ⟨bv.1.1, bv.1.2.1, bv.1.2.2.1⟩
    have hS0 := (St.start w).alloc v.cells 29
    generalize World.alloc w (.cells v.cells 29) = w1 at *
    generalize w.heap.size = b1 at *
    refine Calls.mono (awake w1) ?_
    rintro _ w2 ⟨rfl, f1⟩
    have hS2 := hS0.go f1
    clear hS0 f1
    refine ⟨_, rfl, ?_⟩
    refine ⟨_, _, _, (hS2.blk 0 rfl).cell rfl, _, _, _, (hS2.blk 0 rfl).cell rfl, _, _, _, (hS2.blk 0 rfl).cell rfl, _, _, _, (hS2.blk 0 rfl).cell rfl, _, _, _, (hS2.blk 0 rfl).cell rfl, _, _, _, (hS2.blk 0 rfl).cell rfl, ?_⟩
    refine Calls.mono (hS2.step0 (validR (hv.fr hS2.frame) bv3)) ?_
    clear hS2
    rintro _ w3 ⟨rfl, hS3⟩
    refine ⟨_, rfl, sel_of (fun _ => ⟨rfl, hS3.frame⟩) (fun hval => ?_)⟩
    have hval : validP g = true := by simpa using hval
    refine sel_of (fun _ => ⟨rfl, hS3.frame⟩) (fun c1 => sel_of (fun _ => ⟨rfl, hS3.frame⟩) (fun c2 => sel_of (fun _ => ⟨rfl, hS3.frame⟩) (fun c3 => sel_of (fun _ => ⟨rfl, hS3.frame⟩) (fun c4 => ?_))))
    have c1 := of_decide_eq_false c1
    have c2 := of_decide_eq_false c2
    have c3 := of_decide_eq_false c3
    have c4 := of_decide_eq_false c4
    refine Calls.mono (NI.new hS3) ?_
    clear hS3
    rintro _ w4 ⟨x, rfl, hS⟩
    refine ⟨_, rfl, sel_of (fun h => by cases h) (fun _ => ?_)⟩
    refine ⟨_, _, _, (hS.blk 1 rfl).cell rfl, _, _, _, (hS.blk 1 rfl).cell rfl, _, _, _, (hS.blk 1 rfl).cell rfl, _, _, _, (hS.blk 1 rfl).cell rfl, _, _, _, (hS.blk 1 rfl).cell rfl, _, _, _, (hS.blk 1 rfl).cell rfl, ?_⟩
    refine Calls.mono (twinC hS (hv.fr hS.frame) bv) ?_
    clear hS
    rintro _ w5 ⟨t, rfl, hS⟩
    refine ⟨_, _, _, _, _, _, _, _, _, _, _, _, _, _, _, _, _, _, rfl, ?_⟩
    have bt : SmallG t g := bv.of hv (hS.says 0 rfl)
    have hlay := layCs hS 1 0 (by decide) rfl rfl (v := t) (g := g) (fun w h => h) (by decide) ⟨bt.1.1, bt.1.2.1, bt.1.2.2.1⟩ ver
    have hok := lay_ok (v := ver) (l := []) hval (by omega) (by omega) (by decide)
    have hL := lay_le ver g (l := []) (by decide)
    have hp := lay_small ver g []
    obtain ⟨_, _, _, Z, hZ⟩ := laidW_of hok
    have hag := lay_again ver g (l := []) (l2 := (layP ver g []).2.2) ⟨[], by simp⟩ hL
    have hall := lay_L hok
    have hokA := hok
    generalize layP ver g [] = P at *
    obtain ⟨W, e, L⟩ := P
    dsimp only at *
    subst hokA
    have hvr := lay_ver (v := ver) (u := nxt) (g := g) (l := L) (by rw [hag]) ⟨by omega, by omega⟩
    rw [hag] at hvr
    dsimp only at hvr
    refine Calls.mono hlay ?_
    clear hS hlay
    rintro _ w6 ⟨A1, n1, c1', rfl, hS⟩
    refine ⟨_, _, _, _, rfl, ?_⟩
    have hS : St [] w w6 [ints (.slice A1 n1 c1') W, gC t g, idxC x L, Chunk.blk b1 v.cells 29] := hS
    refine ⟨_, _, _, (hS.blk 3 rfl).cell rfl, _, _, _, (hS.blk 3 rfl).cell rfl, _, _, _, (hS.blk 3 rfl).cell rfl, _, _, _, (hS.blk 3 rfl).cell rfl, _, _, _, (hS.blk 3 rfl).cell rfl, _, _, _, (hS.blk 3 rfl).cell rfl, ?_⟩
    refine Calls.mono (twinC hS (hv.fr hS.frame) bv) ?_
    clear hS
    rintro _ w7 ⟨t2, rfl, hS⟩
    refine ⟨_, _, _, _, _, _, _, _, _, _, _, _, _, _, _, _, _, _, rfl, ?_⟩
    have bt : SmallG t2 g := bv.of hv (hS.says 0 rfl)
    have hlay := layCs hS 3 0 (by decide) rfl rfl (v := t2) (g := g) (fun w h => h) hL ⟨bt.1.1, bt.1.2.1, bt.1.2.2.1⟩ ver
    rw [hag] at hlay
    refine Calls.mono hlay ?_
    clear hS hlay
    rintro _ w8 ⟨A2, n2, c2', rfl, hS⟩
    refine ⟨_, _, _, _, rfl, ?_⟩
    have hS : St [] w w8 [ints (.slice A2 n2 c2') W, gC t2 g, ints (.slice A1 n1 c1') W, gC t g, idxC x L, Chunk.blk b1 v.cells 29] := hS
    refine ⟨_, _, _, (hS.blk 5 rfl).cell rfl, _, _, _, (hS.blk 5 rfl).cell rfl, _, _, _, (hS.blk 5 rfl).cell rfl, _, _, _, (hS.blk 5 rfl).cell rfl, _, _, _, (hS.blk 5 rfl).cell rfl, _, _, _, (hS.blk 5 rfl).cell rfl, ?_⟩
    refine Calls.mono (twinC hS (hv.fr hS.frame) bv) ?_
    clear hS
    rintro _ w9 ⟨t3, rfl, hS⟩
    refine ⟨_, _, _, _, _, _, _, _, _, _, _, _, _, _, _, _, _, _, rfl, ?_⟩
    have bt : SmallG t3 g := bv.of hv (hS.says 0 rfl)
    have hlay := layCs hS 5 0 (by decide) rfl rfl (v := t3) (g := g) (fun w h => h) hL ⟨bt.1.1, bt.1.2.1, bt.1.2.2.1⟩ nxt
    rw [hvr] at hlay
    refine Calls.mono hlay ?_
    clear hS hlay
    rintro _ w10 ⟨A3, n3, c3', rfl, hS⟩
    refine ⟨_, _, _, _, rfl, ?_⟩
    have hS : St [] w w10 [ints (.slice A3 n3 c3') (W.set 0 nxt), gC t3 g, ints (.slice A2 n2 c2') W, gC t2 g, ints (.slice A1 n1 c1') W, gC t g, idxC x L, Chunk.blk b1 v.cells 29] := hS
    refine sel_of (fun h => by simp at h) (fun _ => sel_of (fun h => by simp at h) (fun _ => sel_of (fun h => by simp at h) (fun _ => ?_)))
    have hlen := hZ.len
    have hn1 : n1 = W.length := hS.lsLen 4 rfl
    have hn3 : n3 = W.length := by have := hS.lsLen 0 rfl; rw [List.length_set] at this; exact this
    have hW4 : 4 ≤ W.length := by rw [hlen]; omega
    refine Calls.mono (sameInts hS 4 2 (x := (A1, n1, c1')) (y := (A2, n2, c2')) rfl rfl (by omega)) ?_
    clear hS
    rintro _ w11 ⟨rfl, hS⟩
    refine ⟨_, rfl, sel_of (fun h => by cases h) (fun _ => sel_of (fun h => by simp at h; omega) (fun _ => sel_of (fun h => by have := of_decide_eq_true h; omega) (fun _ => ?_)))⟩
    obtain ⟨b, q, hA1, hc1⟩ := (St.inI hS 4 rfl).2 (by omega)
    refine ⟨by decide, by omega, needPtr_of hA1 ⟨_, hc1 0 (by omega), sel_of (fun h => by rw [hZ.h0] at h; simp at h) (fun _ => ?_)⟩⟩
    obtain ⟨b3, q3, hA3, hc3⟩ := (St.inI hS 0 rfl).2 (by omega)
    have hg0 : (W.set 0 nxt).getD 0 0 = nxt := by
      cases W with
      | nil => simp at hW4
      | cons a W => rfl
    refine ⟨by decide, by omega, needPtr_of hA3 ⟨_, hc3 0 (by omega), sel_of (fun h => by rw [hg0] at h; simp at h) (fun _ => ?_)⟩⟩
    obtain ⟨b4, hA4, hcan, hS⟩ := hS.lsSet 0 rfl (k := 0) (by rw [List.length_set]; omega) ver
    have hback : (W.set 0 nxt).set 0 ver = W := by
      have := hZ.h0
      cases W with
      | nil => rfl
      | cons a W =>
        have ha : a = ver := this
        rw [ha]; rfl
    rw [hback] at hS
    have hS : St [] w _ [ints (.slice A3 n3 c3') W, gC t3 g, ints (.slice A2 n2 c2') W, gC t2 g, ints (.slice A1 n1 c1') W, gC t g, idxC x L, Chunk.blk b1 v.cells 29] := hS
    refine ⟨by decide, by omega, needPtr_of hA4 ⟨hcan, ?_⟩⟩
    have hS := hS
    generalize setCs w11 b4 _ [encN ver] = w12 at *
    refine ⟨_, _, _, (hS.blk 7 rfl).cell rfl, _, _, _, (hS.blk 7 rfl).cell rfl, _, _, _, (hS.blk 7 rfl).cell rfl, ?_⟩
    have hnl := names_len g
    have ha := hv.a.1.1
    have hs := hv.s.1.1
    have ho := hv.o.1.1
    have hvp := valid_parts hval
    have ek : IntKind.i64.wrap (IntKind.i64.wrap ((v.a.2.1 : Int) + (v.s.2.1 : Int)) + (v.o.2.1 : Int)) = ((names g).length : Int) := by
      rw [i64_id (x := (v.a.2.1 : Int) + (v.s.2.1 : Int)) (by omega) (by omega), i64_id (by omega) (by omega)]; omega
    rw [ek]
    have hS := hS.drew
    refine Calls.mono (lenE (idxAt hS 6 rfl)) ?_
    rintro _ w13 ⟨rfl, rfl⟩
    refine ⟨_, rfl, ?_⟩
    refine ⟨⟨(hS.blk 7 rfl).cell rfl, (hS.blk 7 rfl).cell rfl, (hS.blk 7 rfl).cell rfl, trivial⟩, sel_of (fun _ => sel_of (fun _ => ?_) (fun h => by cases h)) (fun hlen2 => ?_)⟩
    · refine Calls.mono (sameInts hS 4 0 (x := (A1, n1, c1')) (y := (A3, n3, c3')) rfl rfl (by omega)) ?_
      clear hS
      rintro _ w14 ⟨rfl, hS⟩
      exact ⟨_, rfl, rfl, hS.frame⟩
    have hlen2 := of_decide_eq_false hlen2
    obtain ⟨hnd, hown⟩ := all_own (names g) [] (by simp) (by rw [← hall, List.length_nil]; omega)
    rw [List.nil_append] at hnd hown
    have hLn : L = names g := hall.trans hown
    have hrd := (hZ.read hval hL (by rw [hLn]; exact hnd) hv.u ⟨by omega, by omega⟩).1
    have hgr : graphP W (tOf g) L = g := by
      have hZ' := hZ
      rw [hLn] at hZ' ⊢
      exact hZ'.own hval hnd
    rw [hgr] at hrd
    have hr := readC (c := c1') (St.inI hS 4 rfl) (idxAt hS 6 rfl) hL (by omega) (fun i => hZ.small hval hL (by omega) hv.u i)
    rw [hrd] at hr
    refine Calls.mono hr ?_
    rintro _ w15 ⟨_, rfl, u, rfl, hG⟩
    have hS := hS.gone hG
    have hS : St [] w w15 [gC u g, ints (.slice A3 n3 c3') W, gC t3 g, ints (.slice A2 n2 c2') W, gC t2 g, ints (.slice A1 n1 c1') W, gC t g, idxC x L, Chunk.blk b1 v.cells 29] := hS
    have hSa := hS.alloc #[.slice none 0 0, .slice none 0 0, .slice none 0 0, .slice none 0 0, .slice none 0 0, .slice none 0 0] 29
    have hSb := hSa.over 0 rfl [u.a.v, u.s.v, u.o.v, u.f.v, u.n.v, u.m.v] rfl
    refine ⟨_, _, _, _, _, _, _, _, _, _, _, _, _, _, _, _, _, _, _, _, rfl, (hSa.blk 0 rfl).can (by decide), sel_of (fun _ => ?_) (fun h => by cases h)⟩
    clear hSa hG
    generalize setCs (World.alloc w15 (.cells #[.slice none 0 0, .slice none 0 0, .slice none 0 0, .slice none 0 0, .slice none 0 0, .slice none 0 0] 29)) w15.heap.size 0 [u.a.v, u.s.v, u.o.v, u.f.v, u.n.v, u.m.v] = w17 at *
    generalize w15.heap.size = b17 at *
    have hS : St [] w w17 [Chunk.blk b17 u.cells 29, gC u g, ints (.slice A3 n3 c3') W, gC t3 g, ints (.slice A2 n2 c2') W, gC t2 g, ints (.slice A1 n1 c1') W, gC t g, idxC x L, Chunk.blk b1 v.cells 29] := hSb
    clear hSb
    refine Calls.mono (sameInts hS 6 2 (x := (A1, n1, c1')) (y := (A3, n3, c3')) rfl rfl (by omega)) ?_
    clear hS
    rintro _ w18 ⟨rfl, hS⟩
    refine ⟨_, rfl, sel_of (fun _ => sel_of (fun _ => sel_of (fun _ => ?_) (fun h => by simp at h)) (fun h => by simp at h)) (fun h => by cases h)⟩

    refine ⟨_, _, _, (hS.blk 9 rfl).cell rfl, _, _, _, (hS.blk 9 rfl).cell rfl, _, _, _, (hS.blk 9 rfl).cell rfl, _, _, _, (hS.blk 9 rfl).cell rfl, _, _, _, (hS.blk 9 rfl).cell rfl, _, _, _, (hS.blk 9 rfl).cell rfl, ?_⟩
    refine ⟨_, _, _, (hS.blk 0 rfl).cell rfl, _, _, _, (hS.blk 0 rfl).cell rfl, _, _, _, (hS.blk 0 rfl).cell rfl, _, _, _, (hS.blk 0 rfl).cell rfl, _, _, _, (hS.blk 0 rfl).cell rfl, _, _, _, (hS.blk 0 rfl).cell rfl, ?_⟩
    refine Calls.mono (hS.step0 (sameOne (hv.fr hS.frame) (hS.says 1 rfl) bv)) ?_
    clear hS
    rintro _ w19 ⟨rfl, hS⟩
    exact ⟨_, rfl, rfl, hS.frame⟩
  · rintro e w' ⟨v, rfl, rfl, h⟩; exact ⟨rfl, h⟩
end PG
end Go.Proofs.Ytjmlfknogjaemaa
