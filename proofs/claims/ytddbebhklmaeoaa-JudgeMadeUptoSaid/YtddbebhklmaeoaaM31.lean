/- JudgeMade: the walk. -/
import Derived.Test.YtddbebhklmaeoaaM29
import Derived.Test.YtddbebhklmaeoaaM26
import Derived.Test.YtddbebhklmaeoaaM25
import Derived.Test.YtddbebhklmaeoaaM30
set_option linter.unusedVariables false
set_option linter.unusedSimpArgs false
set_option maxRecDepth 10000
namespace Go.Proofs.Ytddbebhklmaeoaa
open Go Go.Proofs.Ytddbebhklmaeoaa.Vc
namespace JG
open Vc.PG JD
open JL (ints)
theorem put_t (c : CalD) (v : PV) (x y : Int) : Vc.putA (Vc.putA (calV c v).toArray 0 [.int .i64 x]) 1 [.int .i64 y] = (calV ((x, y, c.2.2) : CalD) v).toArray := by kernel_rfl
theorem put_t1 (c : CalD) (v : PV) (y : Int) : Vc.putA (calV c v).toArray 1 [.int .i64 y] = (calV ((c.1, y, c.2.2) : CalD) v).toArray := by kernel_rfl
theorem put_al (c : CalD) (v : PV) (a : Bool) : Vc.putA (calV c v).toArray 4 [.bool a] = (calV ((c.1, c.2.1, c.2.2.1, c.2.2.2.1, a, c.2.2.2.2.2) : CalD) v).toArray := by kernel_rfl
theorem blk_still {w : World} {b : Nat} {T : TypeId} {cs : Array Value} (h : Blk w b cs T) (o : Nat) (vs : List Value) (hv : ∀ i, i < vs.length → cs[o + i]? = vs[i]?) : stillC w b vs o := stillC_of fun i hi => by
  have h1 := hv i hi
  rw [List.getElem?_eq_getElem hi] at h1 ⊢
  exact h.cell h1
theorem nodup_bound : ∀ (k : Nat) (q : List Nat), q.Nodup → (∀ x ∈ q, x < k) → q.length ≤ k
  | 0, [], _, _ => Nat.le_refl _
  | 0, x :: _, _, h => absurd (h x (by simp)) (Nat.not_lt_zero x)
  | k + 1, q, hn, h => by
    have h1 := nodup_bound k (q.erase k) (hn.erase k) (fun x hx => by
      have h2 := (hn.mem_erase_iff).1 hx
      have := h x h2.2
      have := h2.1
      omega)
    by_cases hk : k ∈ q
    · rw [List.length_erase_of_mem hk] at h1; omega
    · rw [List.erase_of_not_mem hk] at h1; omega
theorem three' {i : Nat} (h : i < 3) : i = 0 ∨ i = 1 ∨ i = 2 := by omega
theorem rowsI_get {q : List Nat} {j : Nat} (h : j < q.length) : ((rowsI q).getD j [])[0]? = some (.int .i64 ((q.getD j 0 : Nat) : Int)) := by
  simp [rowsI, List.getD_eq_getElem?_getD, h]
set_option maxHeartbeats 12000000 in
theorem lawMade (haw : Awakes) {w : World} {v : PV} {x z : Sl} {p : PolD} {l : List CalD} {sp : List (Den spT)} (hp : InP w v p) (hc0 : RdL calT w x l) (hz : RdL spT w z sp) (smp : SmallP p) (sc : SmallC l) (hsn : sp.length ≤ 1100000) :
    Calls Try.prog 5 #[v.v, x.v, z.v] w fun e w' => e = .returned (.bool true) ∧ Fr [] w w' := by
  refine Calls.mono (f5.calls (R := fun e w' => e = .bool true ∧ Fr [] w w') ?_) ?_
  · dsimp only [f5.VC]
    have hl : x.2.1 = l.length := hc0.1
    have hln := sc.n
    have hzl : z.2.1 = sp.length := hz.1
    have hS1 := (St.start w).alloc v.cells 28
    generalize World.alloc w (.cells v.cells 28) = w1 at *
    generalize w.heap.size = b1 at *
    refine Calls.mono (hS1.step0 (haw w1)) ?_
    rintro _ w2 ⟨rfl, hS1⟩
    have hB1 := hS1.blk 0 rfl
    have hS2 := hS1.alloc #[.slice none 0 0, .slice none 0 0, .slice none 0 0, .slice none 0 0, .slice none 0 0, .slice none 0 0, .slice none 0 0, .slice none 0 0, .slice none 0 0, .slice none 0 0, .slice none 0 0] 28
    have hS3 := hS2.over 0 rfl v.l rfl
    refine ⟨_, rfl, _, _, _, hB1.cell rfl, _, _, _, hB1.cell rfl, _, _, _, hB1.cell rfl, _, _, _, hB1.cell rfl, _, _, _, hB1.cell rfl, _, _, _, hB1.cell rfl, _, _, _, hB1.cell rfl, _, _, _, hB1.cell rfl, _, _, _, hB1.cell rfl, _, _, _, hB1.cell rfl, _, _, _, hB1.cell rfl, (hS2.blk 0 rfl).can (by simp), ?_⟩
    generalize World.alloc w2 (.cells #[.slice none 0 0, .slice none 0 0, .slice none 0 0, .slice none 0 0, .slice none 0 0, .slice none 0 0, .slice none 0 0, .slice none 0 0, .slice none 0 0, .slice none 0 0, .slice none 0 0] 28) = w3 at *
    generalize w2.heap.size = b2 at *
    change St [] w (setCs w3 b2 0 [.slice v.a.1 v.a.2.1 v.a.2.2, .slice v.s.1 v.s.2.1 v.s.2.2, .slice v.r.1 v.r.2.1 v.r.2.2, .slice v.o.1 v.o.2.1 v.o.2.2, .slice v.g.1 v.g.2.1 v.g.2.2, .slice v.m.1 v.m.2.1 v.m.2.2, .slice v.i.1 v.i.2.1 v.i.2.2, .slice v.q.1 v.q.2.1 v.q.2.2, .slice v.t.1 v.t.2.1 v.t.2.2, .slice v.u.1 v.u.2.1 v.u.2.2, .slice v.e.1 v.e.2.1 v.e.2.2]) _ at hS3
    generalize setCs w3 b2 0 [.slice v.a.1 v.a.2.1 v.a.2.2, .slice v.s.1 v.s.2.1 v.s.2.2, .slice v.r.1 v.r.2.1 v.r.2.2, .slice v.o.1 v.o.2.1 v.o.2.2, .slice v.g.1 v.g.2.1 v.g.2.2, .slice v.m.1 v.m.2.1 v.m.2.2, .slice v.i.1 v.i.2.1 v.i.2.2, .slice v.q.1 v.q.2.1 v.q.2.2, .slice v.t.1 v.t.2.1 v.t.2.2, .slice v.u.1 v.u.2.1 v.u.2.2, .slice v.e.1 v.e.2.1 v.e.2.2] = w4 at *
    replace hS3 : St [] w w4 [Chunk.blk b2 v.cells 28, Chunk.blk b1 v.cells 28] := hS3
    have hS := (hS3.nil 3 1).nil 39 19
    refine ⟨fun A n c B m d w' => ∃ (k : Nat) (rows : List (List Value)) (mk : List CalD) (u : PV), k ≤ 12 ∧ k ≤ l.length ∧ Made p l k mk ∧ CRows w rows mk ∧ St [] w w' (Chunk.sl 39 19 (.slice A n c) rows :: Chunk.sl 3 1 (.slice B m d) (rowsI (List.range k)) :: Chunk.blk b2 u.cells 28 :: Chunk.blk b1 v.cells 28 :: []),
      ⟨fun A n c B m d i w' r => ∃ (k : Nat) (rows : List (List Value)) (mk : List CalD) (u : PV), i = (k : Int) ∧ k + r = x.2.1 ∧ k ≤ 12 ∧ Made p l k mk ∧ CRows w rows mk ∧ InP w u (curP p l k) ∧ St [] w w' (Chunk.sl 39 19 (.slice A n c) rows :: Chunk.sl 3 1 (.slice B m d) (rowsI (List.range k)) :: Chunk.blk b2 u.cells 28 :: Chunk.blk b1 v.cells 28 :: []),
      ⟨x.2.1, 0, [], [], v, rfl, by omega, by omega, Made.nil p l, ⟨rfl, fun q hq => by simp at hq⟩, hp, hS⟩, ?_⟩, ?_⟩
    · clear hS hS1 hS2 hS3 hB1
      rintro dd A n c B m d i w5 r ⟨k, rows, mk, u, rfl, hk, hk12, hM, hrows, hu, hS⟩
      refine sel_of (fun hd => sel_of (fun hd2 => ?_) (fun hd2 => ⟨rfl, k, rows, mk, u, hk12, by omega, hM, hrows, hS⟩)) (fun hd => ⟨rfl, k, rows, mk, u, hk12, by omega, hM, hrows, hS⟩)
      have hi : k < x.2.1 := by have := of_decide_eq_true hd; omega
      have hk1 : k < 12 := by have := of_decide_eq_true hd2; omega
      have hrl : rows.length = k := by rw [hrows.1, hM.1]
      have hcs : SmallP (curP p l (k + 1)) := cur_small smp sc (k + 1) (by omega)
      obtain ⟨bb, oo, hA, hc⟩ := RdL.call hc0 (by omega)
      obtain ⟨vc, hv, _, _, hc1⟩ := hc k hi
      have hmem : l.getD k cd ∈ l := (mem_getD cd _ _).2 ⟨k, by omega, rfl⟩
      have hc := fun j y h => hS.frame.cell (hc1 j y h)
      generalize hcl : l.getD k cd = cl at *
      have hT := hS.alloc #[.int .i64 0, .int .i64 0, .bool false, .bool false, .bool false, .slice none 0 0, .slice none 0 0, .slice none 0 0, .slice none 0 0, .slice none 0 0, .slice none 0 0, .slice none 0 0, .slice none 0 0, .slice none 0 0, .slice none 0 0, .slice none 0 0, .string ⟨#[]⟩, .string ⟨#[]⟩, .string ⟨#[]⟩] 39
      have hS6 := hT.over 0 rfl (calV cl vc) rfl
      refine ⟨by omega, by omega, needPtr_of hA ⟨_, hc 0 _ rfl, _, hc 1 _ rfl, _, hc 2 _ rfl, _, hc 3 _ rfl, _, hc 4 _ rfl, _, _, _, hc 5 _ rfl, _, _, _, hc 6 _ rfl, _, _, _, hc 7 _ rfl, _, _, _, hc 8 _ rfl, _, _, _, hc 9 _ rfl, _, _, _, hc 10 _ rfl, _, _, _, hc 11 _ rfl, _, _, _, hc 12 _ rfl, _, _, _, hc 13 _ rfl, _, _, _, hc 14 _ rfl, _, _, _, hc 15 _ rfl, _, hc 16 _ rfl, _, hc 17 _ rfl, _, hc 18 _ rfl, (hT.blk 0 rfl).can (by decide), ?_⟩⟩
      generalize World.alloc w5 (.cells #[.int .i64 0, .int .i64 0, .bool false, .bool false, .bool false, .slice none 0 0, .slice none 0 0, .slice none 0 0, .slice none 0 0, .slice none 0 0, .slice none 0 0, .slice none 0 0, .slice none 0 0, .slice none 0 0, .slice none 0 0, .slice none 0 0, .string ⟨#[]⟩, .string ⟨#[]⟩, .string ⟨#[]⟩] 39) = w6 at *
      generalize w5.heap.size = b3 at *
      change St [] w (setCs w6 b3 0 [.int .i64 cl.1, .int .i64 cl.2.1, .bool cl.2.2.1, .bool cl.2.2.2.1, .bool cl.2.2.2.2.1, .slice vc.a.1 vc.a.2.1 vc.a.2.2, .slice vc.s.1 vc.s.2.1 vc.s.2.2, .slice vc.r.1 vc.r.2.1 vc.r.2.2, .slice vc.o.1 vc.o.2.1 vc.o.2.2, .slice vc.g.1 vc.g.2.1 vc.g.2.2, .slice vc.m.1 vc.m.2.1 vc.m.2.2, .slice vc.i.1 vc.i.2.1 vc.i.2.2, .slice vc.q.1 vc.q.2.1 vc.q.2.2, .slice vc.t.1 vc.t.2.1 vc.t.2.2, .slice vc.u.1 vc.u.2.1 vc.u.2.2, .slice vc.e.1 vc.e.2.1 vc.e.2.2, .string cl.2.2.2.2.2.2.1.1, .string cl.2.2.2.2.2.2.1.2.1, .string cl.2.2.2.2.2.2.1.2.2.1]) _ at hS6
      generalize setCs w6 b3 0 [.int .i64 cl.1, .int .i64 cl.2.1, .bool cl.2.2.1, .bool cl.2.2.2.1, .bool cl.2.2.2.2.1, .slice vc.a.1 vc.a.2.1 vc.a.2.2, .slice vc.s.1 vc.s.2.1 vc.s.2.2, .slice vc.r.1 vc.r.2.1 vc.r.2.2, .slice vc.o.1 vc.o.2.1 vc.o.2.2, .slice vc.g.1 vc.g.2.1 vc.g.2.2, .slice vc.m.1 vc.m.2.1 vc.m.2.2, .slice vc.i.1 vc.i.2.1 vc.i.2.2, .slice vc.q.1 vc.q.2.1 vc.q.2.2, .slice vc.t.1 vc.t.2.1 vc.t.2.2, .slice vc.u.1 vc.u.2.1 vc.u.2.2, .slice vc.e.1 vc.e.2.1 vc.e.2.2, .string cl.2.2.2.2.2.2.1.1, .string cl.2.2.2.2.2.2.1.2.1, .string cl.2.2.2.2.2.2.1.2.2.1] = w7 at *
      replace hS6 : St [] w w7 (Chunk.blk b3 (calV cl vc).toArray 39 :: Chunk.sl 39 19 (.slice A n c) rows :: Chunk.sl 3 1 (.slice B m d) (rowsI (List.range k)) :: Chunk.blk b2 u.cells 28 :: Chunk.blk b1 v.cells 28 :: []) := hS6
      have hBc := hS6.blk 0 rfl
      rw [inc k x.2.1 (by omega) (by omega)]
      have ecur : curP p l (k + 1) = if (cWrite cl && !cFailed cl) = true then cPol cl else curP p l k := by
        rw [← hcl]; rfl
      refine ⟨fun a b w' => (0 ≤ a ∧ a < 40 ∧ 0 ≤ b ∧ b < 40) ∧ St [] w w' (Chunk.blk b3 (calV cl vc).toArray 39 :: Chunk.sl 39 19 (.slice A n c) rows :: Chunk.sl 3 1 (.slice B m d) (rowsI (List.range k)) :: Chunk.blk b2 u.cells 28 :: Chunk.blk b1 v.cells 28 :: []), sel_of (fun h => ?_) (fun h => ⟨rfl, ⟨by decide, by decide, by decide, by decide⟩, hS6⟩), ?_⟩
      · have hk2 : k < z.2.1 := by have := of_decide_eq_true h; omega
        obtain ⟨bz, oz, hAz, X, Y, hX, hY, x1, x2, y1, y2⟩ := span_at hz hk2
        refine ⟨by omega, by omega, needPtr_of hAz ⟨by decide, by decide, X, hS6.frame.cell hX, Calls.mono (atR X 40 (by decide) (by decide) x1 x2) ?_⟩⟩
        rintro _ _ ⟨ka, rfl, ha, rfl⟩
        refine ⟨_, rfl, by omega, by omega, needPtr_of hAz ⟨by decide, by decide, Y, hS6.frame.cell hY, Calls.mono (atR Y 40 (by decide) (by decide) y1 y2) ?_⟩⟩
        rintro _ _ ⟨kb, rfl, hb, rfl⟩
        exact ⟨_, rfl, rfl, ⟨by omega, ha, by omega, hb⟩, hS6⟩
      · rintro d2 a b w8 ⟨⟨ha0, ha, hb0, hb⟩, hS7⟩
        have e1 : IntKind.i64.wrap (IntKind.i64.wrap (100 + IntKind.i64.wrap (10 * (k : Int))) - a) = 100 + 10 * (k : Int) - a := by
          rw [i64_id (x := 10 * (k : Int)) (by omega) (by omega), i64_id (x := 100 + 10 * (k : Int)) (by omega) (by omega), i64_id (by omega) (by omega)]
        have e2 : IntKind.i64.wrap (IntKind.i64.wrap (100 + IntKind.i64.wrap (10 * (k : Int))) + b) = 100 + 10 * (k : Int) + b := by
          rw [i64_id (x := 10 * (k : Int)) (by omega) (by omega), i64_id (x := 100 + 10 * (k : Int)) (by omega) (by omega), i64_id (by omega) (by omega)]
        rw [e1, e2]
        have hS8 := hS7.set 0 rfl 0 [.int .i64 (100 + 10 * (k : Int) - a)]
        have hS9 := hS8.set 0 rfl 1 [.int .i64 (100 + 10 * (k : Int) + b)]
        rw [put_t] at hS9
        obtain ⟨te, hte⟩ : ∃ te : Int, te = if b = 39 then (-1) else (100 + 10 * (k : Int) + b) := ⟨_, rfl⟩
        refine ⟨(hS7.blk 0 rfl).can (by simp), fun w' => St [] w w' (Chunk.blk b3 (calV (((100 + 10 * (k : Int) - a), (100 + 10 * (k : Int) + b), cl.2.2) : CalD) vc).toArray 39 :: Chunk.sl 39 19 (.slice A n c) rows :: Chunk.sl 3 1 (.slice B m d) (rowsI (List.range k)) :: Chunk.blk b2 u.cells 28 :: Chunk.blk b1 v.cells 28 :: []), ⟨(hS8.blk 0 rfl).can (by rw [Vc.putA_size]; simp), rfl, hS9⟩, ?_⟩
        clear hS7 hS8 hS9
        rintro d3 w9 hS9
        refine ⟨fun w' => St [] w w' (Chunk.blk b3 (calV (((100 + 10 * (k : Int) - a), te, cl.2.2) : CalD) vc).toArray 39 :: Chunk.sl 39 19 (.slice A n c) rows :: Chunk.sl 3 1 (.slice B m d) (rowsI (List.range k)) :: Chunk.blk b2 u.cells 28 :: Chunk.blk b1 v.cells 28 :: []), sel_of (fun h => ⟨(hS9.blk 0 rfl).can (by simp), rfl, ?_⟩) (fun h => ⟨rfl, ?_⟩), ?_⟩
        · have h2 := hS9.set 0 rfl 1 [.int .i64 (-1)]
          rw [put_t1] at h2
          rw [show te = -1 by rw [hte, if_pos (by simpa using h)]]
          exact h2
        · rw [show te = (100 + 10 * (k : Int) + b) by rw [hte, if_neg (by simpa using h)]]
          exact hS9
        clear hS9
        rintro d4 w10 hS10
        have hB := hS10.blk 0 rfl
        refine ⟨fun w' => ∃ u' : PV, InP w u' (curP p l (k + 1)) ∧ St [] w w' (Chunk.blk b3 (calV (((100 + 10 * (k : Int) - a), te, cl.2.2) : CalD) vc).toArray 39 :: Chunk.sl 39 19 (.slice A n c) rows :: Chunk.sl 3 1 (.slice B m d) (rowsI (List.range k)) :: Chunk.blk b2 u'.cells 28 :: Chunk.blk b1 v.cells 28 :: []), ⟨_, hB.cell rfl, sel_of (fun h => ⟨_, hB.cell rfl, sel_of (fun h2 => ?_) (fun h2 => ⟨rfl, u, ?_, hS10⟩)⟩) (fun h => ⟨rfl, u, ?_, hS10⟩)⟩, ?_⟩
        · have h3 := hS10.over 3 rfl vc.l rfl
          refine ⟨_, _, _, hB.cell rfl, _, _, _, hB.cell rfl, _, _, _, hB.cell rfl, _, _, _, hB.cell rfl, _, _, _, hB.cell rfl, _, _, _, hB.cell rfl, _, _, _, hB.cell rfl, _, _, _, hB.cell rfl, _, _, _, hB.cell rfl, _, _, _, hB.cell rfl, _, _, _, hB.cell rfl, (hS10.blk 3 rfl).can (by simp), rfl, vc, ?_, h3⟩
          rw [ecur, if_pos (by rw [show cWrite cl = true from h, show (!cFailed cl) = true from h2]; rfl)]
          exact hv
        · rw [ecur, if_neg (by rw [show (!cFailed cl) = false from h2]; simp)]
          exact hu
        · rw [ecur, if_neg (by rw [show cWrite cl = false from h]; simp)]
          exact hu
        clear hB hS10
        rintro d5 w11 ⟨u', hu', hS11⟩
        obtain ⟨al, hal⟩ : ∃ al : Bool, al = (!cWrite cl && allowsB geF ltF (curP p l (k + 1)) (cTri cl)) := ⟨_, rfl⟩
        refine ⟨fun w' => St [] w w' (Chunk.blk b3 (calV (((100 + 10 * (k : Int) - a), te, cl.2.2.1, cl.2.2.2.1, al, cl.2.2.2.2.2) : CalD) vc).toArray 39 :: Chunk.sl 39 19 (.slice A n c) rows :: Chunk.sl 3 1 (.slice B m d) (rowsI (List.range k)) :: Chunk.blk b2 u'.cells 28 :: Chunk.blk b1 v.cells 28 :: []), ⟨fun tb vv ww w' => tb = (!cWrite cl) ∧ (cWrite cl = false → ∃ u2 : PV, vv = u2.v ∧ ww = Tri (cTri cl).1 (cTri cl).2.1 (cTri cl).2.2.1 ∧ InP w' u2 (curP p l (k + 1))) ∧ St [] w w' (Chunk.blk b3 (calV (((100 + 10 * (k : Int) - a), te, cl.2.2) : CalD) vc).toArray 39 :: Chunk.sl 39 19 (.slice A n c) rows :: Chunk.sl 3 1 (.slice B m d) (rowsI (List.range k)) :: Chunk.blk b2 u'.cells 28 :: Chunk.blk b1 v.cells 28 :: []), ?_, ?_⟩, ?_⟩
        · have hB := hS11.blk 0 rfl
          have hU := hS11.blk 3 rfl
          refine ⟨_, hB.cell rfl, sel_of (fun h => ?_) (fun h => ⟨rfl, h.symm, fun h2 => ?_, hS11.drew⟩)⟩
          · refine ⟨_, _, _, hU.cell rfl, _, _, _, hU.cell rfl, _, _, _, hU.cell rfl, _, _, _, hU.cell rfl, _, _, _, hU.cell rfl, _, _, _, hU.cell rfl, _, _, _, hU.cell rfl, _, _, _, hU.cell rfl, _, _, _, hU.cell rfl, _, _, _, hU.cell rfl, _, _, _, hU.cell rfl, _, hB.cell rfl, _, hB.cell rfl, _, hB.cell rfl, Calls.mono (copyR (hu'.fr hS11.drew.frame) hcs) ?_⟩
            rintro _ w12 ⟨u2, rfl, hf⟩
            have h3 := hS11.drew.gone hf
            have hB2 := h3.blk 1 rfl
            have hU2 := h3.blk 4 rfl
            exact ⟨_, _, _, _, _, _, _, _, _, _, _, _, _, _, _, _, _, _, _, _, _, _, _, _, _, _, _, _, _, _, _, _, _, rfl, ⟨blk_still hB2 16 _ (by intro i hi; rcases three' hi with rfl | rfl | rfl <;> rfl), still_blk (vs := u'.l) hU2, hB2.cell rfl, trivial⟩, rfl, h.symm, fun _ => ⟨u2, rfl, rfl, h3.says 0 rfl⟩, h3.tail⟩
          · have h : (!cl.2.2.1) = false := h
            have h2 : cl.2.2.1 = false := h2
            rw [h2] at h
            cases h
        · clear hS11
          rintro d6 tb vv ww w12 ⟨rfl, hw, hS12⟩
          have h2 := hS12.set 0 rfl 4 [.bool al]
          rw [put_al] at h2
          refine sel_of (fun h => ?_) (fun h => ⟨(hS12.blk 0 rfl).can (by simp), trivial, rfl, ?_⟩)
          · have hwf : cWrite cl = false := by cases hq : cWrite cl <;> simp_all
            obtain ⟨u2, rfl, rfl, hu2⟩ := hw hwf
            refine Calls.mono (allowsC hu2 hcs _ _ _) ?_
            rintro _ w13 ⟨rfl, hf⟩
            have h3 := hS12.go hf
            have h4 := h3.set 0 rfl 4 [.bool al]
            rw [put_al] at h4
            rw [show allowsB geF ltF (curP p l (k + 1)) ((cTri cl).1, (cTri cl).2.1, (cTri cl).2.2.1, ()) = al by rw [hal, hwf]; rfl]
            exact ⟨_, rfl, trivial, (h3.blk 0 rfl).can (by simp), trivial, rfl, h4⟩
          · rw [show (false : Bool) = al by rw [hal, h]; rfl]
            exact h2
        · clear hS11
          rintro d7 w12 hS12
          have hBt := hS12.blk 0 rfl
          have hmc : MadeC p l k (((100 + 10 * (k : Int) - a), te, cl.2.2.1, cl.2.2.2.1, al, cl.2.2.2.2.2) : CalD) := by
            refine ⟨⟨a, b, ha0, ha, hb0, hb, rfl, hte⟩, ?_, ?_, ?_, ?_, ?_⟩ <;> rw [hcl]
            exact hal
          have hwf1 : (Lit.int .i64 (100 + 10 * (k : Int) - a)).wf = true ∧ (Lit.int .i64 te).wf = true := by
            have e : ∀ y : Int, -1000 ≤ y → y ≤ 1000 → (Lit.int .i64 y).wf = true := fun y h1 h2 => by
              show (decide (IntKind.min .i64 ≤ y) && decide (y ≤ IntKind.max .i64)) = true
              simp [IntKind.min, IntKind.max, IntKind.signed, IntKind.bits]
              omega
            refine ⟨e _ (by omega) (by omega), ?_⟩
            rw [hte]; split
            · exact e _ (by decide) (by decide)
            · exact e _ (by omega) (by omega)
          obtain ⟨c2, hc2⟩ : ∃ c2 : CalD, c2 = (((100 + 10 * (k : Int) - a), te, cl.2.2.1, cl.2.2.2.1, al, cl.2.2.2.2.2) : CalD) := ⟨_, rfl⟩
          have hrow : Rd w calT (calV c2 vc) c2 := rd_call.2 ⟨vc, rfl, by rw [hc2]; exact hv, by rw [hc2]; exact hwf1.1, by rw [hc2]; exact hwf1.2⟩
          rw [← hc2] at hmc
          replace hS12 : St [] w w12 (Chunk.blk b3 (calV c2 vc).toArray 39 :: Chunk.sl 39 19 (.slice A n c) rows :: Chunk.sl 3 1 (.slice B m d) (rowsI (List.range k)) :: Chunk.blk b2 u'.cells 28 :: Chunk.blk b1 v.cells 28 :: []) := by rw [hc2]; exact hS12
          replace hBt : Blk w12 b3 (calV c2 vc).toArray 39 := hS12.blk 0 rfl
          obtain ⟨A', n', c', w13, hrun, hS13⟩ := appCal hS12 1 rfl c2 vc (by omega)
          obtain ⟨o', w14, hrun2, hS14⟩ := appI hS13 2 (o := (B, m, d)) rfl k (by simp; omega)
          refine ⟨_, hBt.cell rfl, _, hBt.cell rfl, _, hBt.cell rfl, _, hBt.cell rfl, _, hBt.cell rfl, _, _, _, hBt.cell rfl, _, _, _, hBt.cell rfl, _, _, _, hBt.cell rfl, _, _, _, hBt.cell rfl, _, _, _, hBt.cell rfl, _, _, _, hBt.cell rfl, _, _, _, hBt.cell rfl, _, _, _, hBt.cell rfl, _, _, _, hBt.cell rfl, _, _, _, hBt.cell rfl, _, _, _, hBt.cell rfl, _, hBt.cell rfl, _, hBt.cell rfl, _, hBt.cell rfl, _, _, _, w13, hrun, o'.1, o'.2.1, o'.2.2, w14, hrun2, rfl, r - 1, by omega, k + 1, rows ++ [calV c2 vc], mk ++ [c2], u', rfl, by omega, by omega, hM.snoc hmc, hrows.snoc hrow, hu', ?_⟩
          rw [List.range_succ]
          exact hS14.tail
    · clear hS hS1 hS2 hS3 hB1
      rintro dd A n c B m d w5 ⟨k, rows, mk, u, hk12, hkl, hM, hrows, hS⟩
      replace hS := hS.sel [0, 1, 3] (by decide) [Chunk.sl 39 19 (.slice A n c) rows, Chunk.sl 3 1 (.slice B m d) (rowsI (List.range k)), Chunk.blk b1 v.cells 28] rfl
      have hms := made_small hM hk12 hkl sc
      obtain ⟨q, hq, hF, hqk, hless⟩ := made_found hM hk12
      have hfit := made_fit hM hk12
      have hok := made_ok hM hk12
      have hFd := made_follows hM
      have hrl : rows.length = k := by rw [hrows.1, hM.1]
      have hB := hS.blk 2 rfl
      refine ⟨_, _, _, hB.cell rfl, _, _, _, hB.cell rfl, _, _, _, hB.cell rfl, _, _, _, hB.cell rfl, _, _, _, hB.cell rfl, _, _, _, hB.cell rfl, _, _, _, hB.cell rfl, _, _, _, hB.cell rfl, _, _, _, hB.cell rfl, _, _, _, hB.cell rfl, _, _, _, hB.cell rfl, Calls.mono (copyR (hp.fr hS.frame) smp) ?_⟩
      rintro _ w6 ⟨u1, rfl, hf⟩
      have h1 := hS.gone hf
      obtain ⟨F, hF1, _⟩ := h1.at 1 rfl
      have hrd := crows_read (z := (A, n, c)) hF1 (hrows.fr h1.frame)
      refine ⟨_, _, _, _, _, _, _, _, _, _, _, _, _, _, _, _, _, _, _, _, _, _, _, _, _, _, _, _, _, _, _, _, _, rfl, ?_⟩
      have hcall := twinR hrd hms
      refine Calls.mono hcall ?_
      clear hcall
      rintro _ w7 ⟨zc, rows', rfl, hf⟩
      have h2 := h1.gone hf
      have hu : InP w7 u1 p := h2.says 2 rfl
      obtain ⟨F, hF1, _⟩ := h2.at 0 rfl
      have hzc := crows_read hF1 (h2.says 1 rfl)
      have hL := linearC hu hzc smp hms
      rw [hq, hfit] at hL
      refine ⟨_, _, _, rfl, Calls.mono hL ?_⟩
      rintro _ w8 ⟨o, rfl, hf⟩
      have h3 := h2.gone hf
      replace h3 := h3.sel [0, 4, 5, 6] (by decide) [Chunk.sl 3 1 o.v (rowsI q), Chunk.sl 39 19 (.slice A n c) rows, Chunk.sl 3 1 (.slice B m d) (rowsI (List.range k)), Chunk.blk b1 v.cells 28] rfl
      have hol : o.2.1 = q.length := by have := h3.slLen 0 rfl; simpa using this
      have hnl : n = k := by have := h3.slLen 1 rfl; omega
      have hq1000 : ∀ y ∈ q, y < 1000 := fun y hy => by have := hqk y hy; omega
      have hqlen : q.length ≤ 12 := by
        rcases Nat.lt_or_ge 12 q.length with h | h
        · exfalso
          obtain ⟨hR, _, _⟩ := hF
          have hnq : q.Nodup := List.pairwise_iff_getElem.2 fun i j hi hj hij he => by
            obtain ⟨_, _, h5, _⟩ := hR j (by simpa [ints] using hj)
            refine h5 (JL.mem_take.2 ⟨i, hij, by simpa [ints] using hi, ?_⟩)
            simp [ints, List.getD_eq_getElem?_getD, hi, hj, he]
          have := nodup_bound k q hnq hqk
          omega
        · exact h
      clear h1 h2 hf hS
      refine ⟨_, _, _, _, _, rfl, sel_false rfl (sel_false rfl (sel_false rfl ?_))⟩
      refine ⟨fun i w' r => ∃ j : Nat, i = (j : Int) ∧ j + r = q.length ∧ St [] w w' [Chunk.sl 3 1 o.v (rowsI q), Chunk.sl 39 19 (.slice A n c) rows, Chunk.sl 3 1 (.slice B m d) (rowsI (List.range k)), Chunk.blk b1 v.cells 28], ⟨q.length, 0, rfl, by omega, h3⟩, ?_⟩
      clear h3
      rintro d8 i w9 r ⟨j, rfl, hj, hS⟩
      refine sel_of (fun hd => ?_) (fun hd => ?_)
      · have hjl : j < q.length := by have := of_decide_eq_true hd; omega
        obtain ⟨g, hg, hc⟩ := hS.slGet 0 (A := o.1) (n := o.2.1) (c := o.2.2) rfl (by simp; omega)
        have cj := hc j 0 _ (by simpa using hjl) (by decide) (rowsI_get hjl)
        have cj' : w9.cell? ⟨g, 0 + (j : Int).toNat * 1, none⟩ = some (.int .i64 ((q.getD j 0 : Nat) : Int)) := by simpa using cj
        have hlt : q.getD j 0 < k := hqk _ ((mem_getD 0 _ _).2 ⟨j, hjl, rfl⟩)
        rw [inc j q.length (by omega) (by omega)]
        exact ⟨by omega, by omega, needPtr_of hg ⟨_, cj', sel_false (decide_eq_false (by omega)) ⟨by omega, by omega, needPtr_of hg ⟨_, cj', sel_false (decide_eq_false (by omega)) ⟨rfl, r - 1, by omega, j + 1, rfl, by omega, hS⟩⟩⟩⟩⟩
      · refine ⟨fun i w' r => ∃ j : Nat, i = (j : Int) ∧ j + r = k ∧ St [] w w' [Chunk.sl 3 1 o.v (rowsI q), Chunk.sl 39 19 (.slice A n c) rows, Chunk.sl 3 1 (.slice B m d) (rowsI (List.range k)), Chunk.blk b1 v.cells 28], ⟨k, 0, rfl, by omega, hS⟩, ?_⟩
        clear hS
        rintro d9 i w10 r ⟨j, rfl, hj, hS⟩
        refine sel_of (fun hd => ?_) (fun hd => ?_)
        · have hjk : j < k := by have := of_decide_eq_true hd; omega
          obtain ⟨g, hg, hc⟩ := hS.slGet 1 rfl (by omega)
          obtain ⟨vj, hvj, _⟩ := rd_call.1 (hrows.2 j (by rw [hM.1]; exact hjk))
          have cj := hc j 1 (.int .i64 (cEnded (mk.getD j cd))) (by omega) (by decide) (by rw [hvj]; rfl)
          have cj' : w10.cell? ⟨g, 0 + (j : Int).toNat * 19 + 1, none⟩ = some (.int .i64 (cEnded (mk.getD j cd))) := by simpa using cj
          refine ⟨by omega, by omega, needPtr_of hg ⟨_, cj', ?_⟩⟩
          refine ⟨fun b i w' r => ∃ t : Nat, i = (t : Int) ∧ t + r = q.length ∧ (b = true ↔ cEnded (mk.getD j cd) < 0 ∨ ∃ s, s < t ∧ q.getD s 0 = j) ∧ St [] w w' [Chunk.sl 3 1 o.v (rowsI q), Chunk.sl 39 19 (.slice A n c) rows, Chunk.sl 3 1 (.slice B m d) (rowsI (List.range k)), Chunk.blk b1 v.cells 28], ⟨q.length, 0, rfl, by omega, ?_, hS⟩, ?_⟩
          · rw [decide_eq_true_iff]
            exact ⟨fun h => .inl h, fun h => h.elim id fun ⟨s, hs, _⟩ => absurd hs (Nat.not_lt_zero s)⟩
          clear hS hc cj cj' hg
          rintro d10 bb i w11 r2 ⟨t, rfl, ht, hb, hS⟩
          refine sel_of (fun hd => ?_) (fun hd => ?_)
          · have htl : t < q.length := by have := of_decide_eq_true hd; omega
            rw [inc t q.length (by omega) (by omega)]
            refine sel_of (fun hbt => ⟨rfl, r2 - 1, by omega, t + 1, rfl, by omega, ?_, hS⟩) (fun hbf => ?_)
            · refine ⟨fun _ => (hb.1 hbt).imp id fun ⟨s, h1, h2⟩ => ⟨s, by omega, h2⟩, fun _ => rfl⟩
            · obtain ⟨g, hg, hc⟩ := hS.slGet 0 (A := o.1) (n := o.2.1) (c := o.2.2) rfl (by simp; omega)
              have cj := hc t 0 _ (by simpa using htl) (by decide) (rowsI_get htl)
              have cj' : w11.cell? ⟨g, 0 + (t : Int).toNat * 1, none⟩ = some (.int .i64 ((q.getD t 0 : Nat) : Int)) := by simpa using cj
              refine ⟨by omega, by omega, needPtr_of hg ⟨_, cj', rfl, r2 - 1, by omega, t + 1, rfl, by omega, ?_, hS⟩⟩
              constructor
              · intro he
                have he : ((q.getD t 0 : Nat) : Int) = (j : Int) := by simpa using he
                exact .inr ⟨t, by omega, by omega⟩
              · rintro (h | ⟨s, h1, h2⟩)
                · exact absurd (hb.2 (.inl h)) (by rw [hbf]; simp)
                · rcases Nat.lt_or_ge s t with h3 | h3
                  · exact absurd (hb.2 (.inr ⟨s, h3, h2⟩)) (by rw [hbf]; simp)
                  · have : s = t := by omega
                    subst this
                    rw [h2]; simp
          · have htl : t = q.length := by have := of_decide_eq_false hd; omega
            subst htl
            have hbt : bb = true := hb.2 (by
              rcases Int.lt_or_le (cEnded (mk.getD j cd)) 0 with h | h
              · exact .inl h
              · right
                have hm := hF.2.2 j (by show j < mk.length; rw [hM.1]; exact hjk) h
                obtain ⟨y, hy, he⟩ := List.mem_map.1 hm
                have he : y = j := by omega
                subst he
                obtain ⟨s, hs, he⟩ := (mem_getD 0 _ _).1 hy
                exact ⟨s, hs, he⟩)
            rw [inc j k (by omega) (by omega)]
            exact sel_false (by rw [hbt]; rfl) ⟨rfl, r - 1, by omega, j + 1, rfl, by omega, hS⟩
        · have hB := hS.blk 3 rfl
          have hI := fun (w' : World) (h : St [] w w' [Chunk.sl 3 1 o.v (rowsI q), Chunk.sl 39 19 (.slice A n c) rows, Chunk.sl 3 1 (.slice B m d) (rowsI (List.range k)), Chunk.blk b1 v.cells 28]) => (show RdL calT w' (A, n, c) mk ∧ RdL (.int .i64) w' o (ints q) ∧ RdL (.int .i64) w' (B, m, d) (ints (List.range k)) by
            obtain ⟨F0, g0, _⟩ := h.at 0 rfl
            obtain ⟨F1, g1, _⟩ := h.at 1 rfl
            obtain ⟨F2, g2, _⟩ := h.at 2 rfl
            exact ⟨crows_read (z := (A, n, c)) g1 (hrows.fr h.frame), rowsI_read g0 hq1000, rowsI_read (z := (B, m, d)) g2 (fun y hy => by have := List.mem_range.1 hy; omega)⟩)
          have hql : (ints q).length ≤ 1000000000 := by simp [ints]; omega
          have hkl2 : (ints (List.range k)).length ≤ 1000000000 := by rw [ints_range_len]; omega
          obtain ⟨i1, i2, i3⟩ := hI _ hS
          refine ⟨_, _, _, hB.cell rfl, _, _, _, hB.cell rfl, _, _, _, hB.cell rfl, _, _, _, hB.cell rfl, _, _, _, hB.cell rfl, _, _, _, hB.cell rfl, _, _, _, hB.cell rfl, _, _, _, hB.cell rfl, _, _, _, hB.cell rfl, _, _, _, hB.cell rfl, _, _, _, hB.cell rfl, ?_⟩
          have hcall := hS.step0 (answersA (hp.fr hS.frame) i1 i2 smp hms hql hF)
          refine Calls.mono hcall ?_
          clear hcall
          rintro _ w11 ⟨rfl, hS⟩
          have hB := hS.blk 3 rfl
          refine ⟨_, rfl, _, _, _, hB.cell rfl, _, _, _, hB.cell rfl, _, _, _, hB.cell rfl, _, _, _, hB.cell rfl, _, _, _, hB.cell rfl, _, _, _, hB.cell rfl, _, _, _, hB.cell rfl, _, _, _, hB.cell rfl, _, _, _, hB.cell rfl, _, _, _, hB.cell rfl, _, _, _, hB.cell rfl, Calls.mono (copyR (hp.fr hS.frame) smp) ?_⟩
          rintro _ w12 ⟨u1, rfl, hf⟩
          have h1 := hS.gone hf
          replace h1 := h1.sel [1, 2, 3, 4, 0] (by decide) [Chunk.sl 3 1 o.v (rowsI q), Chunk.sl 39 19 (.slice A n c) rows, Chunk.sl 3 1 (.slice B m d) (rowsI (List.range k)), Chunk.blk b1 v.cells 28, kP u1 p] rfl
          obtain ⟨i1, _, _⟩ := hI _ (h1.sel [0, 1, 2, 3] (by decide) _ rfl)
          refine ⟨_, _, _, _, _, _, _, _, _, _, _, _, _, _, _, _, _, _, _, _, _, _, _, _, _, _, _, _, _, _, _, _, _, rfl, ?_⟩
          have hcall := twinR i1 hms
          refine Calls.mono hcall ?_
          clear hcall
          rintro _ w13 ⟨zc, rows', rfl, hf⟩
          have h2 := h1.gone hf
          obtain ⟨F, g0, _⟩ := h2.at 0 rfl
          obtain ⟨_, i2, _⟩ := hI _ (h2.sel [2, 3, 4, 5] (by decide) _ rfl)
          have hcall := followsC (h2.says 6 rfl) (crows_read g0 (h2.says 1 rfl)) i2 smp hms hql
          refine ⟨_, _, _, rfl, ?_⟩
          refine Calls.mono hcall ?_
          clear hcall
          rintro _ w14 ⟨fb, rfl, hfb, hf⟩
          have hfb : fb = true := hfb.2 ⟨hok, hF⟩
          subst hfb
          have hS := (h2.go hf).sel [2, 3, 4, 5] (by decide) [Chunk.sl 3 1 o.v (rowsI q), Chunk.sl 39 19 (.slice A n c) rows, Chunk.sl 3 1 (.slice B m d) (rowsI (List.range k)), Chunk.blk b1 v.cells 28] rfl
          have hB := hS.blk 3 rfl
          refine ⟨_, rfl, sel_true rfl ⟨_, _, _, hB.cell rfl, _, _, _, hB.cell rfl, _, _, _, hB.cell rfl, _, _, _, hB.cell rfl, _, _, _, hB.cell rfl, _, _, _, hB.cell rfl, _, _, _, hB.cell rfl, _, _, _, hB.cell rfl, _, _, _, hB.cell rfl, _, _, _, hB.cell rfl, _, _, _, hB.cell rfl, Calls.mono (copyR (hp.fr hS.frame) smp) ?_⟩⟩
          rintro _ w15 ⟨u2, rfl, hf⟩
          have h1 := hS.gone hf
          replace h1 := h1.sel [1, 2, 3, 4, 0] (by decide) [Chunk.sl 3 1 o.v (rowsI q), Chunk.sl 39 19 (.slice A n c) rows, Chunk.sl 3 1 (.slice B m d) (rowsI (List.range k)), Chunk.blk b1 v.cells 28, kP u2 p] rfl
          obtain ⟨i1, _, _⟩ := hI _ (h1.sel [0, 1, 2, 3] (by decide) _ rfl)
          refine ⟨_, _, _, _, _, _, _, _, _, _, _, _, _, _, _, _, _, _, _, _, _, _, _, _, _, _, _, _, _, _, _, _, _, rfl, ?_⟩
          have hcall := twinR i1 hms
          refine Calls.mono hcall ?_
          clear hcall
          rintro _ w16 ⟨zc2, rows2, rfl, hf⟩
          have h2 := h1.gone hf
          obtain ⟨F, g0, _⟩ := h2.at 0 rfl
          obtain ⟨_, _, i3⟩ := hI _ (h2.sel [2, 3, 4, 5] (by decide) _ rfl)
          have hcall := followsC (y := (B, m, d)) (h2.says 6 rfl) (crows_read g0 (h2.says 1 rfl)) i3 smp hms hkl2
          refine ⟨_, _, _, rfl, ?_⟩
          refine Calls.mono hcall ?_
          clear hcall
          rintro _ w17 ⟨fb, rfl, hfb, hf⟩
          have hfb : fb = true := hfb.2 ⟨hok, hFd⟩
          subst hfb
          have hS := (h2.go hf).sel [2, 3, 4, 5] (by decide) [Chunk.sl 3 1 o.v (rowsI q), Chunk.sl 39 19 (.slice A n c) rows, Chunk.sl 3 1 (.slice B m d) (rowsI (List.range k)), Chunk.blk b1 v.cells 28] rfl
          obtain ⟨_, i2, i3⟩ := hI _ hS
          have hcall := hS.step0 (lessR (x := (B, m, d)) i3 i2 hkl2 hql)
          refine ⟨_, rfl, sel_true rfl (sel_true rfl ?_)⟩
          refine Calls.mono hcall ?_
          rintro _ w18 ⟨rfl, hS⟩
          rw [hless]
          exact ⟨_, rfl, rfl, hS.frame⟩
  · rintro e w' ⟨v, rfl, rfl, h⟩; exact ⟨rfl, h⟩
end JG
end Go.Proofs.Ytddbebhklmaeoaa
