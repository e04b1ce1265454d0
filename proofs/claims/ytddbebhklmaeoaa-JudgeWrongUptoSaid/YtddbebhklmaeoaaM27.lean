/- JudgeWrong: the walk. -/
import Derived.Test.YtddbebhklmaeoaaM26
import Derived.Test.YtddbebhklmaeoaaM25
import Derived.Test.YtddbebhklmaeoaaM22
set_option linter.unusedVariables false
set_option linter.unusedSimpArgs false
set_option maxRecDepth 10000
namespace Go.Proofs.Ytddbebhklmaeoaa
open Go Go.Proofs.Ytddbebhklmaeoaa.Vc
namespace JG
open Vc.PG JD
abbrev nilPV : PV := ⟨nilS, nilS, nilS, nilS, nilS, nilS, nilS, nilS, nilS, nilS, nilS⟩
theorem nil_pol {w : World} : InP w nilPV noP := ⟨RdL.nil _ _, RdL.nil _ _, RdL.nil _ _, RdL.nil _ _, RdL.nil _ _, RdL.nil _ _, RdL.nil _ _, RdL.nil _ _, RdL.nil _ _, RdL.nil _ _, RdL.nil _ _⟩
theorem nil_small : SmallP noP := ⟨by decide, by decide, by decide, by decide, by decide, by decide, by decide, by decide, by decide, by decide, by decide, fun r hr => by cases hr⟩
/-- Times that are none are made some. -/
def badT (c : CalD) : Bool := decide (cBegan c < 0) || decide (cEnded c < cBegan c) || decide (1000000000 ≤ cEnded c)
def tame (c : CalD) : CalD := if badT c = true then (0, 5, c.2.2) else c
theorem tame_ok (c : CalD) : Tame (tame c) := by
  unfold tame
  by_cases h : badT c = true
  · rw [if_pos h]; exact ⟨show (0 : Int) ≤ 0 by decide, show (0 : Int) ≤ 5 by decide, show (5 : Int) < 1000000000 by decide⟩
  · rw [if_neg h]
    have h : badT c = false := by simpa using h
    unfold badT at h
    rw [Bool.or_eq_false_iff, Bool.or_eq_false_iff, decide_eq_false_iff_not, decide_eq_false_iff_not, decide_eq_false_iff_not] at h
    exact ⟨by omega, by omega, by omega⟩
theorem tame_all (l : List CalD) (k : Nat) : ∀ c ∈ (l.take k).map tame, Tame c := by
  intro c hc
  obtain ⟨d, _, rfl⟩ := List.mem_map.1 hc
  exact tame_ok d
theorem tame_pol (c : CalD) : cPol (tame c) = cPol c := by unfold tame; split <;> rfl
theorem small_wr {l : List CalD} {t : TriD} {yes : Bool} {k : Nat} (sc : SmallC l) (hk : k ≤ 10) : SmallC ((l.take k).map tame ++ [wr1 t yes, wr2 t yes]) := by
  refine ⟨by simp; omega, fun c hc => ?_⟩
  rcases List.mem_append.1 hc with hc | hc
  · obtain ⟨d, hd, rfl⟩ := List.mem_map.1 hc
    rw [tame_pol]
    exact sc.p d (List.mem_of_mem_take hd)
  · rcases List.mem_cons.1 hc with rfl | hc
    · exact nil_small
    · rw [List.mem_singleton.1 hc]; exact nil_small
theorem CRows.fr {w w' : World} {rows : List (List Value)} {l : List CalD} (h : CRows w rows l) (hf : Fr [] w w') : CRows w' rows l := ⟨h.1, fun q hq => (h.2 q hq).fr hf⟩
theorem take_cal {l : List CalD} {k : Nat} (h : k < l.length) : l.take (k + 1) = l.take k ++ [l.getD k cd] := by
  rw [List.take_add_one, List.getD_eq_getElem?_getD, List.getElem?_eq_getElem h]; rfl
theorem put_time (c : CalD) (v : PV) : Vc.putA (Vc.putA (calV c v).toArray 0 [.int .i64 0]) 1 [.int .i64 5] = (calV ((0, 5, c.2.2) : CalD) v).toArray := by kernel_rfl
set_option maxHeartbeats 400000 in
theorem lawWrong (haw : Awakes) {w : World} {v : PV} {x : Sl} {p : PolD} {l : List CalD} (a b c : ByteArray) (yes : Bool) (hp : InP w v p) (hc0 : RdL calT w x l) (sp : SmallP p) (sc : SmallC l) :
    Calls Try.prog 6 #[v.v, x.v, Tri a b c, .bool yes] w fun e w' => e = .returned (.bool true) ∧ Fr [] w w' := by
  refine Calls.mono (f6.calls (R := fun e w' => e = .bool true ∧ Fr [] w w') ?_) ?_
  · dsimp only [f6.VC]
    have hl : x.2.1 = l.length := hc0.1
    have hln := sc.n
    have hS := ((St.start w).alloc v.cells 28).alloc #[.string a, .string b, .string c] 37
    generalize World.alloc w (.cells v.cells 28) = w1 at *
    generalize w.heap.size = b1 at *
    generalize World.alloc w1 (.cells #[.string a, .string b, .string c] 37) = w2 at *
    generalize w1.heap.size = b2 at *
    refine Calls.mono (hS.step0 (haw w2)) ?_
    rintro _ w3 ⟨rfl, hS⟩
    have hS := hS.nil 39 19
    refine ⟨_, rfl, fun A n cc i w' r => ∃ (k : Nat) (rows : List (List Value)), i = (k : Int) ∧ k + r = x.2.1 ∧ k ≤ 10 ∧ CRows w rows ((l.take k).map tame) ∧ St [] w w' (Chunk.sl 39 19 (.slice A n cc) rows :: Chunk.blk b2 #[.string a, .string b, .string c] 37 :: Chunk.blk b1 v.cells 28 :: []), ⟨x.2.1, 0, [], rfl, by omega, by omega, ⟨rfl, fun q hq => by simp at hq⟩, hS⟩, ?_⟩
    clear hS
    rintro d A n cc i w4 r ⟨k, rows, rfl, hk, hk10, hrows, hS⟩
    refine sel_of (fun hd => sel_of (fun hd2 => ?_) (fun hd2 => ?_)) (fun hd => ?_)
    · have hi : k < x.2.1 := by have := of_decide_eq_true hd; omega
      have hi10 : k < 10 := by have := of_decide_eq_true hd2; omega
      have hlen : rows.length = k := by rw [hrows.1, List.length_map, List.length_take]; omega
      have htk : (l.take (k + 1)).map tame = (l.take k).map tame ++ [tame (l.getD k cd)] := by rw [take_cal (by omega), List.map_append]; rfl
      have hwf : (Lit.int .i64 (cBegan (tame (l.getD k cd)))).wf = true ∧ (Lit.int .i64 (cEnded (tame (l.getD k cd)))).wf = true := by
        obtain ⟨_, _, _, hc⟩ := RdL.call hc0 (by omega)
        obtain ⟨_, _, g1, g2, _⟩ := hc k hi
        unfold tame
        split
        · exact ⟨by kernel_rfl, by kernel_rfl⟩
        · exact ⟨g1, g2⟩
      obtain ⟨bb, oo, hA, hc⟩ := RdL.call hc0 (by omega)
      obtain ⟨vc, hv, _, _, hc1⟩ := hc k hi
      have hmem : l.getD k cd ∈ l := (mem_getD cd _ _).2 ⟨k, by omega, rfl⟩
      have hc := fun j y h => hS.frame.cell (hc1 j y h)
      generalize hcl : l.getD k cd = cl at *
      have hT := hS.alloc #[.int .i64 0, .int .i64 0, .bool false, .bool false, .bool false, .slice none 0 0, .slice none 0 0, .slice none 0 0, .slice none 0 0, .slice none 0 0, .slice none 0 0, .slice none 0 0, .slice none 0 0, .slice none 0 0, .slice none 0 0, .slice none 0 0, .string ⟨#[]⟩, .string ⟨#[]⟩, .string ⟨#[]⟩] 39
      have hS6 := hT.over 0 rfl (calV cl vc) rfl
      refine ⟨by omega, by omega, needPtr_of hA ⟨_, hc 0 _ rfl, _, hc 1 _ rfl, _, hc 2 _ rfl, _, hc 3 _ rfl, _, hc 4 _ rfl, _, _, _, hc 5 _ rfl, _, _, _, hc 6 _ rfl, _, _, _, hc 7 _ rfl, _, _, _, hc 8 _ rfl, _, _, _, hc 9 _ rfl, _, _, _, hc 10 _ rfl, _, _, _, hc 11 _ rfl, _, _, _, hc 12 _ rfl, _, _, _, hc 13 _ rfl, _, _, _, hc 14 _ rfl, _, _, _, hc 15 _ rfl, _, hc 16 _ rfl, _, hc 17 _ rfl, _, hc 18 _ rfl, (hT.blk 0 rfl).can (by decide), ?_⟩⟩
      generalize World.alloc w4 (.cells #[.int .i64 0, .int .i64 0, .bool false, .bool false, .bool false, .slice none 0 0, .slice none 0 0, .slice none 0 0, .slice none 0 0, .slice none 0 0, .slice none 0 0, .slice none 0 0, .slice none 0 0, .slice none 0 0, .slice none 0 0, .slice none 0 0, .string ⟨#[]⟩, .string ⟨#[]⟩, .string ⟨#[]⟩] 39) = w5 at *
      generalize w4.heap.size = b3 at *
      change St [] w (setCs w5 b3 0 [.int .i64 cl.1, .int .i64 cl.2.1, .bool cl.2.2.1, .bool cl.2.2.2.1, .bool cl.2.2.2.2.1, .slice vc.a.1 vc.a.2.1 vc.a.2.2, .slice vc.s.1 vc.s.2.1 vc.s.2.2, .slice vc.r.1 vc.r.2.1 vc.r.2.2, .slice vc.o.1 vc.o.2.1 vc.o.2.2, .slice vc.g.1 vc.g.2.1 vc.g.2.2, .slice vc.m.1 vc.m.2.1 vc.m.2.2, .slice vc.i.1 vc.i.2.1 vc.i.2.2, .slice vc.q.1 vc.q.2.1 vc.q.2.2, .slice vc.t.1 vc.t.2.1 vc.t.2.2, .slice vc.u.1 vc.u.2.1 vc.u.2.2, .slice vc.e.1 vc.e.2.1 vc.e.2.2, .string cl.2.2.2.2.2.2.1.1, .string cl.2.2.2.2.2.2.1.2.1, .string cl.2.2.2.2.2.2.1.2.2.1]) _ at hS6
      generalize setCs w5 b3 0 [.int .i64 cl.1, .int .i64 cl.2.1, .bool cl.2.2.1, .bool cl.2.2.2.1, .bool cl.2.2.2.2.1, .slice vc.a.1 vc.a.2.1 vc.a.2.2, .slice vc.s.1 vc.s.2.1 vc.s.2.2, .slice vc.r.1 vc.r.2.1 vc.r.2.2, .slice vc.o.1 vc.o.2.1 vc.o.2.2, .slice vc.g.1 vc.g.2.1 vc.g.2.2, .slice vc.m.1 vc.m.2.1 vc.m.2.2, .slice vc.i.1 vc.i.2.1 vc.i.2.2, .slice vc.q.1 vc.q.2.1 vc.q.2.2, .slice vc.t.1 vc.t.2.1 vc.t.2.2, .slice vc.u.1 vc.u.2.1 vc.u.2.2, .slice vc.e.1 vc.e.2.1 vc.e.2.2, .string cl.2.2.2.2.2.2.1.1, .string cl.2.2.2.2.2.2.1.2.1, .string cl.2.2.2.2.2.2.1.2.2.1] = w6 at *
      replace hS6 : St [] w w6 (Chunk.blk b3 (calV cl vc).toArray 39 :: Chunk.sl 39 19 (.slice A n cc) rows :: Chunk.blk b2 #[.string a, .string b, .string c] 37 :: Chunk.blk b1 v.cells 28 :: []) := hS6
      have hBc := hS6.blk 0 rfl
      rw [inc k x.2.1 (by omega) (by omega)]
      refine ⟨fun w' => St [] w w' (Chunk.blk b3 (calV (tame cl) vc).toArray 39 :: Chunk.sl 39 19 (.slice A n cc) rows :: Chunk.blk b2 #[.string a, .string b, .string c] 37 :: Chunk.blk b1 v.cells 28 :: []), ⟨fun bb w' => bb = badT cl ∧ St [] w w' (Chunk.blk b3 (calV cl vc).toArray 39 :: Chunk.sl 39 19 (.slice A n cc) rows :: Chunk.blk b2 #[.string a, .string b, .string c] 37 :: Chunk.blk b1 v.cells 28 :: []), ⟨_, hBc.cell rfl, sel_of (fun h1 => ⟨rfl, ?_, hS6⟩) (fun h1 => ⟨_, hBc.cell rfl, _, hBc.cell rfl, sel_of (fun h2 => ⟨rfl, ?_, hS6⟩) (fun h2 => ⟨_, hBc.cell rfl, rfl, ?_, hS6⟩)⟩)⟩, ?_⟩, ?_⟩
      · unfold badT; rw [show decide (cBegan cl < 0) = true from h1]; rfl
      · unfold badT; rw [show decide (cEnded cl < cBegan cl) = true from h2, Bool.or_true]; rfl
      · unfold badT; rw [show decide (cBegan cl < 0) = false from h1, show decide (cEnded cl < cBegan cl) = false from h2]; rfl
      · rintro _ b45 w7 ⟨rfl, hS7⟩
        refine sel_of (fun h => ?_) (fun h => ⟨rfl, ?_⟩)
        · have hS8 := hS7.set 0 rfl 0 [.int .i64 0]
          have hS9 := hS8.set 0 rfl 1 [.int .i64 5]
          rw [put_time] at hS9
          refine ⟨(hS7.blk 0 rfl).can (by simp), (hS8.blk 0 rfl).can (by rw [Vc.putA_size]; simp), rfl, ?_⟩
          rw [show tame cl = (0, 5, cl.2.2) from if_pos h]
          exact hS9
        · rw [show tame cl = cl from if_neg (by rw [h]; decide)]
          exact hS7
      · rintro _ w10 hS10
        have hBt := hS10.blk 0 rfl
        have hpt := tame_pol cl
        generalize tame cl = ct at *
        obtain ⟨A', n', c', w12, hrun, hS12⟩ := appCal hS10 1 rfl ct vc (by omega)
        refine ⟨_, hBt.cell rfl, _, hBt.cell rfl, _, hBt.cell rfl, _, hBt.cell rfl, _, hBt.cell rfl, _, _, _, hBt.cell rfl, _, _, _, hBt.cell rfl, _, _, _, hBt.cell rfl, _, _, _, hBt.cell rfl, _, _, _, hBt.cell rfl, _, _, _, hBt.cell rfl, _, _, _, hBt.cell rfl, _, _, _, hBt.cell rfl, _, _, _, hBt.cell rfl, _, _, _, hBt.cell rfl, _, _, _, hBt.cell rfl, _, hBt.cell rfl, _, hBt.cell rfl, _, hBt.cell rfl, _, _, _, w12, hrun, rfl, r - 1, by omega, k + 1, rows ++ [calV ct vc], rfl, by omega, by omega, ?_, hS12.tail⟩
        rw [htk]
        exact hrows.snoc (rd_call.2 ⟨vc, rfl, by rw [show ct.2.2.2.2.2.1 = cl.2.2.2.2.2.1 from hpt]; exact hv, hwf.1, hwf.2⟩)
    · skip
      have hlen : rows.length = k := by rw [hrows.1, List.length_map, List.length_take]; omega
      have hrows1 : CRows w (rows ++ [calV (wr1 (a, b, c, ()) yes) nilPV]) ((l.take k).map tame ++ [wr1 (a, b, c, ()) yes]) := hrows.snoc (rd_call.2 ⟨nilPV, rfl, nil_pol, by kernel_rfl, by kernel_rfl⟩)
      have hrows2 : CRows w (rows ++ [calV (wr1 (a, b, c, ()) yes) nilPV] ++ [calV (wr2 (a, b, c, ()) yes) nilPV]) ((l.take k).map tame ++ [wr1 (a, b, c, ()) yes] ++ [wr2 (a, b, c, ()) yes]) := hrows1.snoc (rd_call.2 ⟨nilPV, rfl, nil_pol, by kernel_rfl, by kernel_rfl⟩)
      rw [List.append_assoc ((l.take k).map tame), List.singleton_append] at hrows2
      have hB2 := hS.blk 1 rfl
      obtain ⟨A1, n1, c1, w14, hrun1, hS1⟩ := appCal hS 0 rfl (wr1 (a, b, c, ()) yes) nilPV (by omega)
      have hB3 := hS1.blk 1 rfl
      obtain ⟨A2, n2, c2, w16, hrun2, hS2⟩ := appCal hS1 0 rfl (wr2 (a, b, c, ()) yes) nilPV (by simp; omega)
      have hB4 := hS2.blk 2 rfl
      refine ⟨_, hB2.cell rfl, _, hB2.cell rfl, _, hB2.cell rfl, _, _, _, w14, hrun1, _, hB3.cell rfl, _, hB3.cell rfl, _, hB3.cell rfl, _, _, _, w16, hrun2, _, _, _, hB4.cell rfl, _, _, _, hB4.cell rfl, _, _, _, hB4.cell rfl, _, _, _, hB4.cell rfl, _, _, _, hB4.cell rfl, _, _, _, hB4.cell rfl, _, _, _, hB4.cell rfl, _, _, _, hB4.cell rfl, _, _, _, hB4.cell rfl, _, _, _, hB4.cell rfl, _, _, _, hB4.cell rfl, Calls.mono (copyR (hp.fr hS2.frame) sp) ?_⟩
      rintro _ w17 ⟨u, rfl, hf17⟩
      have hS3 := hS2.gone hf17
      obtain ⟨F, hF, _⟩ := hS3.at 1 rfl
      have hrd := crows_read (z := (A2, n2, c2)) hF (hrows2.fr hS3.frame)
      have hsc : SmallC ((l.take k).map tame ++ [wr1 (a, b, c, ()) yes, wr2 (a, b, c, ()) yes]) := small_wr sc (by omega)
      obtain ⟨B, hBdef⟩ : ∃ B, B = (l.take k).map tame ++ [wr1 (a, b, c, ()) yes, wr2 (a, b, c, ()) yes] := ⟨_, rfl⟩
      obtain ⟨q1, q2⟩ := wrong_ans (p := p) (t := (a, b, c, ())) (yes := yes) (tame_all l k) (by rw [List.length_map, List.length_take]; omega)
      rw [← hBdef] at hrd hsc q1 q2
      clear hrows2 hrows1 hBdef
      refine ⟨_, _, _, _, _, _, _, _, _, _, _, _, _, _, _, _, _, _, _, _, _, _, _, _, _, _, _, _, _, _, _, _, _, rfl, ?_⟩
      have hcall := twinR hrd hsc
      refine Calls.mono hcall ?_
      clear hcall
      rintro _ w18 ⟨zc, rows', rfl, hf18⟩
      have hS4 := hS3.gone hf18
      have hu : InP w18 u p := hS4.says 2 rfl
      obtain ⟨F, hF, _⟩ := hS4.at 0 rfl
      have hzc := crows_read hF (hS4.says 1 rfl)
      refine ⟨_, _, _, rfl, Calls.mono (linearC hu hzc sp hsc) ?_⟩
      rintro _ w19 ⟨o, rfl, hf19⟩
      rw [q1, q2]
      rw [q2] at hf19
      have hS5 := hS4.gone hf19
      have ho := hS5.slLen 0 rfl
      exact ⟨_, _, _, _, _, rfl, sel_true rfl (sel_true rfl (sel_true rfl ⟨by rw [ho]; rfl, hS5.frame⟩))⟩
    · have hi : k = x.2.1 := by have := of_decide_eq_false hd; omega
      have hlen : rows.length = k := by rw [hrows.1, List.length_map, List.length_take]; omega
      have hrows1 : CRows w (rows ++ [calV (wr1 (a, b, c, ()) yes) nilPV]) ((l.take k).map tame ++ [wr1 (a, b, c, ()) yes]) := hrows.snoc (rd_call.2 ⟨nilPV, rfl, nil_pol, by kernel_rfl, by kernel_rfl⟩)
      have hrows2 : CRows w (rows ++ [calV (wr1 (a, b, c, ()) yes) nilPV] ++ [calV (wr2 (a, b, c, ()) yes) nilPV]) ((l.take k).map tame ++ [wr1 (a, b, c, ()) yes] ++ [wr2 (a, b, c, ()) yes]) := hrows1.snoc (rd_call.2 ⟨nilPV, rfl, nil_pol, by kernel_rfl, by kernel_rfl⟩)
      rw [List.append_assoc ((l.take k).map tame), List.singleton_append] at hrows2
      have hB2 := hS.blk 1 rfl
      obtain ⟨A1, n1, c1, w14, hrun1, hS1⟩ := appCal hS 0 rfl (wr1 (a, b, c, ()) yes) nilPV (by omega)
      have hB3 := hS1.blk 1 rfl
      obtain ⟨A2, n2, c2, w16, hrun2, hS2⟩ := appCal hS1 0 rfl (wr2 (a, b, c, ()) yes) nilPV (by simp; omega)
      have hB4 := hS2.blk 2 rfl
      refine ⟨_, hB2.cell rfl, _, hB2.cell rfl, _, hB2.cell rfl, _, _, _, w14, hrun1, _, hB3.cell rfl, _, hB3.cell rfl, _, hB3.cell rfl, _, _, _, w16, hrun2, _, _, _, hB4.cell rfl, _, _, _, hB4.cell rfl, _, _, _, hB4.cell rfl, _, _, _, hB4.cell rfl, _, _, _, hB4.cell rfl, _, _, _, hB4.cell rfl, _, _, _, hB4.cell rfl, _, _, _, hB4.cell rfl, _, _, _, hB4.cell rfl, _, _, _, hB4.cell rfl, _, _, _, hB4.cell rfl, Calls.mono (copyR (hp.fr hS2.frame) sp) ?_⟩
      rintro _ w17 ⟨u, rfl, hf17⟩
      have hS3 := hS2.gone hf17
      obtain ⟨F, hF, _⟩ := hS3.at 1 rfl
      have hrd := crows_read (z := (A2, n2, c2)) hF (hrows2.fr hS3.frame)
      have hsc : SmallC ((l.take k).map tame ++ [wr1 (a, b, c, ()) yes, wr2 (a, b, c, ()) yes]) := small_wr sc (by omega)
      obtain ⟨B, hBdef⟩ : ∃ B, B = (l.take k).map tame ++ [wr1 (a, b, c, ()) yes, wr2 (a, b, c, ()) yes] := ⟨_, rfl⟩
      obtain ⟨q1, q2⟩ := wrong_ans (p := p) (t := (a, b, c, ())) (yes := yes) (tame_all l k) (by rw [List.length_map, List.length_take]; omega)
      rw [← hBdef] at hrd hsc q1 q2
      clear hrows2 hrows1 hBdef
      refine ⟨_, _, _, _, _, _, _, _, _, _, _, _, _, _, _, _, _, _, _, _, _, _, _, _, _, _, _, _, _, _, _, _, _, rfl, ?_⟩
      have hcall := twinR hrd hsc
      refine Calls.mono hcall ?_
      clear hcall
      rintro _ w18 ⟨zc, rows', rfl, hf18⟩
      have hS4 := hS3.gone hf18
      have hu : InP w18 u p := hS4.says 2 rfl
      obtain ⟨F, hF, _⟩ := hS4.at 0 rfl
      have hzc := crows_read hF (hS4.says 1 rfl)
      refine ⟨_, _, _, rfl, Calls.mono (linearC hu hzc sp hsc) ?_⟩
      rintro _ w19 ⟨o, rfl, hf19⟩
      rw [q1, q2]
      rw [q2] at hf19
      have hS5 := hS4.gone hf19
      have ho := hS5.slLen 0 rfl
      exact ⟨_, _, _, _, _, rfl, sel_true rfl (sel_true rfl (sel_true rfl ⟨by rw [ho]; rfl, hS5.frame⟩))⟩
  · rintro e w' ⟨v, rfl, rfl, h⟩; exact ⟨rfl, h⟩
end JG
end Go.Proofs.Ytddbebhklmaeoaa
/- What the statements begin with: the small histories, by the plain law. -/
set_option linter.unusedVariables false
set_option linter.unusedSimpArgs false
set_option maxRecDepth 10000
namespace Go.Proofs.Ytddbebhklmaeoaa
open Go Go.Proofs.Ytddbebhklmaeoaa.Vc
namespace JG
open Vc.PG JD
abbrev noT : TriD := (⟨#[]⟩, ⟨#[]⟩, ⟨#[]⟩, ())
abbrev cW : CalD := (0, 3, true, false, false, openP, noT, ())
abbrev cY : CalD := (1, 2, false, false, true, noP, entT, ())
abbrev cN : CalD := (4, 5, false, false, false, noP, entT, ())
theorem smallY : SmallC [cW, cY] := ⟨by simp, fun c hc => by
  rcases List.mem_cons.1 hc with rfl | hc
  · exact open_small
  · rw [List.mem_singleton.1 hc]; exact ⟨by decide, by decide, by decide, by decide, by decide, by decide, by decide, by decide, by decide, by decide, by decide, fun r hr => by cases hr⟩⟩
theorem smallN : SmallC [cW, cN] := ⟨by simp, fun c hc => by
  rcases List.mem_cons.1 hc with rfl | hc
  · exact open_small
  · rw [List.mem_singleton.1 hc]; exact ⟨by decide, by decide, by decide, by decide, by decide, by decide, by decide, by decide, by decide, by decide, by decide, fun r hr => by cases hr⟩⟩
theorem fitsY1 : (histOf shutP [cW, cY]).fits 0 1 = true := by
  show (allowsB geF ltF openP entT == true) = true
  rw [open_allows]; rfl
theorem fitsY2 : (histOf shutP [cW, cY]).fits (-1) 1 = false := by
  show (allowsB geF ltF shutP entT == true) = false
  rw [shut_allows]; rfl
theorem fitsN1 : (histOf shutP [cW, cN]).fits 0 1 = false := by
  show (allowsB geF ltF openP entT == false) = false
  rw [open_allows]; rfl
theorem two {k n : Nat} (hn : n = 2) (h : k < n) : k = 0 ∨ k = 1 := by omega
theorem ansY : ansP shutP [cW, cY] = some [0, 1] := by
  unfold ansP
  rw [if_pos (show fitE [cW, cY] = 0 from rfl)]
  have h1 : JL.step (histOf shutP [cW, cY]) (0, -1) 0 = some (1, 0) := rfl
  have h2 : JL.step (histOf shutP [cW, cY]) (1, 0) 1 = some (3, 0) := by
    unfold JL.step
    rw [if_neg (show ¬ (Nat.testBit 1 1 = true) by decide), if_neg (show ¬ (JL.late (histOf shutP [cW, cY]) (1, 0) 1 = true) by decide)]
    rw [if_neg (by rw [fitsY1]; simp)]
    rfl
  refine JL.path_first (k := 0) rfl (by show 0 < 2; decide) (fun i hi => absurd hi (Nat.not_lt_zero i)) h1 ?_
  refine JL.path_first (k := 1) rfl (by show 1 < 2; decide) (fun i hi z hz => ?_) h2 (JL.path_whole rfl)
  have : i = 0 := by omega
  subst this
  cases hz
theorem ansN : ansP shutP [cW, cN] = none := by
  unfold ansP
  rw [if_pos (show fitE [cW, cN] = 0 from rfl)]
  refine JL.path_none rfl fun k hk z hz => ?_
  rcases two rfl hk with rfl | rfl
  · have : z = (1, 0) := by
      have h1 : JL.step (histOf shutP [cW, cN]) (0, -1) 0 = some (1, 0) := rfl
      rw [h1] at hz; injection hz with hz; exact hz.symm
    subst this
    refine JL.path_none rfl fun k hk z hz => ?_
    rcases two rfl hk with rfl | rfl
    · cases hz
    · exfalso
      obtain ⟨_, _, h, _⟩ := JL.step_some hz
      rcases h with h | h
      · cases h
      · rw [show ((1, 0) : JL.State).2 = 0 from rfl, fitsN1] at h; cases h
  · cases hz
theorem folY {m : Bool} (h : Fol shutP [cW, cY] [0, 1] m) : m = true := by
  refine h.2 ⟨rfl, ?_, ?_, ?_⟩
  · intro i hi
    rcases two rfl hi with rfl | rfl
    · exact ⟨by decide, by decide, by decide, .inl rfl⟩
    · exact ⟨by decide, by decide, by decide, .inr fitsY1⟩
  · intro i hi j hj
    rcases two rfl hi with rfl | rfl
    · have : j = 0 := by omega
      subst this; decide
    · rcases two rfl (show j < 2 by omega) with rfl | rfl <;> decide
  · intro k hk _
    rcases two rfl hk with rfl | rfl <;> decide
theorem folN {m : Bool} (h : Fol shutP [cW, cY] [1, 0] m) : m = false := by
  cases m with
  | false => rfl
  | true =>
    obtain ⟨_, hr, _⟩ := h.1 rfl
    obtain ⟨_, _, _, h4⟩ := hr 0 (by decide)
    rcases h4 with h4 | h4
    · cases h4
    · have h4 : (histOf shutP [cW, cY]).fits (-1) 1 = true := h4
      rw [fitsY2] at h4; cases h4
theorem still_blk {w : World} {b : Nat} {T : TypeId} {vs : List Value} (h : Blk w b vs.toArray T) : stillC w b vs 0 := stillC_of fun i hi => by
  rw [List.getElem?_eq_getElem hi]
  exact h.cell (by simp [hi])
theorem calls_rd {w : World} {b : Nat} {u : PV} {c : CalD} {d : CalD} (hB : Blk w b (calV c u ++ calV d nilPV).toArray 39) (hu : InP w u (cPol c)) (hd : cPol d = noP) (w1 : (Lit.int .i64 c.1).wf = true) (w2 : (Lit.int .i64 c.2.1).wf = true) (w3 : (Lit.int .i64 d.1).wf = true) (w4 : (Lit.int .i64 d.2.1).wf = true) :
    RdL calT w (some ⟨b, 0, none⟩, 2, 2) [c, d] :=
  rdl_blk (e := calT) [calV c u, calV d nilPV] [c, d] (by simpa using hB) (fun r hr => by
    rcases List.mem_cons.1 hr with rfl | hr
    · rfl
    · rw [List.mem_singleton.1 hr]; rfl) rfl (by simp [maxLen]) (fun q hq => by
    rcases two rfl hq with rfl | rfl
    · exact rd_call.2 ⟨u, rfl, hu, w1, w2⟩
    · exact rd_call.2 ⟨nilPV, rfl, (show InP w nilPV (cPol d) by rw [hd]; exact nil_pol), w3, w4⟩)
theorem ints_rd {w : World} {b : Nat} {x y : Int} (hB : Blk w b #[.int .i64 x, .int .i64 y] 3) (w1 : (Lit.int .i64 x).wf = true) (w2 : (Lit.int .i64 y).wf = true) : RdL (.int .i64) w (some ⟨b, 0, none⟩, 2, 2) [x, y] :=
  rdl_blk (e := .int .i64) [[.int .i64 x], [.int .i64 y]] [x, y] (by simpa using hB) (fun r hr => by
    rcases List.mem_cons.1 hr with rfl | hr
    · rfl
    · rw [List.mem_singleton.1 hr]; rfl) rfl (by simp [maxLen]) (fun q hq => by
    rcases two rfl hq with rfl | rfl
    · exact ⟨rfl, w1⟩
    · exact ⟨rfl, w2⟩)
theorem putEv1 : Vc.putA (evC 0 false) 8 [.bool true] = evC 0 true := by kernel_rfl
theorem putEv2 : Vc.putA (evC 0 true) 6 [.int .i64 11] = evC 11 true := by kernel_rfl
end JG
end Go.Proofs.Ytddbebhklmaeoaa
