/- Page: a graph lent (lent): lists with room and marks behind. -/
import Derived.Test.YtjmlfknogjaemaaM35
import Derived.Test.YtjmlfknogjaemaaM36
set_option linter.unusedVariables false
set_option linter.unusedSimpArgs false
set_option maxRecDepth 10000
namespace Go.Proofs.Ytjmlfknogjaemaa
open Go Go.Proofs.Ytjmlfknogjaemaa.Vc
namespace PG
open Vc.PG NI
theorem St.fold {S : List Nat} {w0 w : World} : ∀ (L : List Chunk) (c : Chunk), St S w0 w (c :: L) → St S w0 w [L.foldl Chunk.star c]
  | [], c, h => h
  | d :: L, c, h => St.fold L (Chunk.star c d) h.join
theorem fold_says {w : World} : ∀ (L : List Chunk) (c : Chunk) (F : List Nat), (L.foldl Chunk.star c).holds w F → (∃ G, c.holds w G) ∧ ∀ d ∈ L, ∃ G, d.holds w G
  | [], c, F, h => ⟨⟨F, h⟩, by simp⟩
  | e :: L, c, F, h => by
    obtain ⟨⟨G, F1, F2, rfl, h1, h2, _⟩, h3⟩ := fold_says L (Chunk.star c e) F h
    refine ⟨⟨F1, h1⟩, fun d hd => ?_⟩
    rcases List.mem_cons.1 hd with rfl | hd
    · exact ⟨F2, h2⟩
    · exact h3 d hd
/-- All pieces as one, of which only what it says is kept. -/
theorem St.keepAll {S : List Nat} {w0 w : World} {c : Chunk} {L : List Chunk} (h : St S w0 w (c :: L)) (p : World → Prop) (hp : ∀ w, (∃ G, c.holds w G) → (∀ d ∈ L, ∃ G, d.holds w G) → p w) : St S w0 w [Chunk.keep p] :=
  (St.fold L c h).keep 0 rfl p fun F w hF => by
    obtain ⟨h1, h2⟩ := fold_says L c F hF
    exact hp w h1 h2
theorem rowsL_get {vals : List Sl} {M : List (List Int)} {i : Nat} (h1 : i < vals.length) (h2 : i < M.length) : (rowsL vals M)[i]? = some (slU (vals.getD i nilS).v (M.getD i [])) := by
  unfold rowsL
  rw [List.getElem?_zipWith, List.getElem?_eq_getElem h1, List.getElem?_eq_getElem h2]
  simp [List.getD_eq_getElem?_getD, h1, h2]
theorem rowsL_set {vals : List Sl} {M : List (List Int)} {i : Nat} (hl : vals.length = M.length) (h2 : i < M.length) (V : Sl) (R : List Int) : (rowsL vals M).set i (slU V.v R) = rowsL (vals.set i V) (M.set i R) := by
  apply List.ext_getElem?
  intro j
  by_cases hj : j = i
  · subst hj
    rw [List.getElem?_set_self (by unfold rowsL; simp; omega), rowsL_get (by simp; omega) (by simp; omega)]
    simp [List.getD_eq_getElem?_getD, h2, show j < vals.length by omega]
  · rw [List.getElem?_set_ne (Ne.symm hj)]
    unfold rowsL
    rw [List.getElem?_zipWith, List.getElem?_zipWith, List.getElem?_set_ne (Ne.symm hj), List.getElem?_set_ne (Ne.symm hj)]
/-- The mark behind a list of names. -/
def mkS : ByteArray := ⟨#[10, 32, 98, 101, 104, 105, 110, 100]⟩
def behS (l : List ByteArray) (k : Nat) : List ByteArray := l ++ List.replicate k mkS
def behU (l : List Int) (k : Nat) : List Int := l ++ List.replicate k 60001
theorem behS_succ (l : List ByteArray) (k : Nat) : behS l (k + 1) = behS l k ++ [mkS] := by unfold behS; rw [List.replicate_succ', ← List.append_assoc]
theorem behU_succ (l : List Int) (k : Nat) : behU l (k + 1) = behU l k ++ [60001] := by unfold behU; rw [List.replicate_succ', ← List.append_assoc]
/-- The rows while marks are put behind them. -/
def mkM (M : List (List Int)) (f : Nat → Nat) : List (List Int) := (List.range M.length).map fun j => behU (M.getD j []) (f j)
theorem mkM_len (M : List (List Int)) (f : Nat → Nat) : (mkM M f).length = M.length := by simp [mkM]
theorem mkM_get {M : List (List Int)} {f : Nat → Nat} {j : Nat} (h : j < M.length) : (mkM M f).getD j [] = behU (M.getD j []) (f j) := by
  unfold mkM
  simp [List.getD_eq_getElem?_getD, h]
theorem mkM_zero (M : List (List Int)) : mkM M (fun _ => 0) = M := by
  apply List.ext_getElem (mkM_len _ _)
  intro i h1 h2
  simp [mkM, behU, List.getD_eq_getElem?_getD, h2]
theorem mkM_set {M : List (List Int)} {f f' : Nat → Nat} {i : Nat} (h : i < M.length) (hf : ∀ j, j ≠ i → f' j = f j) : (mkM M f).set i (behU (M.getD i []) (f' i)) = mkM M f' := by
  apply List.ext_getElem (by simp [mkM])
  intro j h1 h2
  by_cases hj : j = i
  · subst hj
    rw [List.getElem_set_self]
    simp [mkM]
  · rw [List.getElem_set_ne (Ne.symm hj)]
    simp [mkM, hf j hj]
/-- What stands behind the lists of a lent graph. -/
def Stands (bs bn : Nat) (m : Sl) (g : Gd) (w : World) : Prop :=
  ∃ (VA VS VO XF XN : Sl), (w.cell? ⟨bs, 0, none⟩ = some VA.v ∧ w.cell? ⟨bs, 1, none⟩ = some VS.v ∧ w.cell? ⟨bs, 2, none⟩ = some VO.v) ∧ (w.cell? ⟨bn, 0, none⟩ = some XF.v ∧ w.cell? ⟨bn, 1, none⟩ = some XN.v) ∧
    (InX w VA.1 VA.2.1 (behS (gA g) 12) ∧ InX w VS.1 VS.2.1 (behS (gS g) 12) ∧ InX w VO.1 VO.2.1 (behS (gO g) 12)) ∧ (InW w XF.1 XF.2.1 (gF g ++ marksL 12) ∧ InW w XN.1 XN.2.1 (gN g ++ marksL 12)) ∧ InM w m.1 m.2.1 (mkM (gM g) fun _ => 12)
abbrev leFix (bn bs bh br : Nat) (XF XN VA VS VO uf un um : Sl) (H : Array Value) (vals : List Sl) (g : Gd) (k : Nat) : List Chunk :=
  [Chunk.blk bn #[XF.v, XN.v] 26, ints XN.v (gN g ++ marksL 12), ints XF.v (gF g ++ marksL 12), Chunk.blk bs #[VA.v, VS.v, VO.v] 25, Chunk.blk bh H 29, txs VA.v (behS (gA g) k), txs VS.v (behS (gS g) k), txs VO.v (behS (gO g) k), ints uf.v (gF g), ints un.v (gN g), Chunk.ls encL 82 um.v vals, b0C br]
/-- The rows of a lent graph: each as long as it was. -/
def lePre (vals : List Sl) (M : List (List Int)) (i : Nat) : List Sl := (List.range i).map fun j => ((vals.getD j nilS).1, (M.getD j []).length, (vals.getD j nilS).2.2)
theorem lePre_succ (vals : List Sl) (M : List (List Int)) (i : Nat) : lePre vals M (i + 1) = lePre vals M i ++ [((vals.getD i nilS).1, (M.getD i []).length, (vals.getD i nilS).2.2)] := by
  unfold lePre
  rw [List.range_succ, List.map_append]; rfl
theorem lentC {S : List Nat} {w0 w : World} {K : List Chunk} (h : St S w0 w K) {v : GV} {g : Gd} (hG0 : InG w v g) (hb : (v.a.2.1 ≤ 1100000 ∧ v.s.2.1 ≤ 1100000 ∧ v.o.2.1 ≤ 1100000 ∧ v.f.2.1 ≤ 1100000 ∧ v.n.2.1 ≤ 1100000 ∧ v.m.2.1 ≤ 1100000) ∧ ∀ r ∈ gM g, r.length ≤ 1100000) :
    Calls Try.prog 14 #[v.v] w fun e w' => ∃ (u : GV) (bs bn : Nat) (m : Sl), e = .returned (.tuple #[u.v, .slice (some ⟨bs, 0, none⟩) 3 3, .slice (some ⟨bn, 0, none⟩) 2 2, m.v]) ∧ St S w0 w' (Chunk.keep (fun w => InG w u g ∧ Stands bs bn m g w) :: K) := by
  refine Calls.mono (f14.calls (R := fun r w' => ∃ (u : GV) (bs bn : Nat) (m : Sl), r = .tuple #[u.v, .slice (some ⟨bs, 0, none⟩) 3 3, .slice (some ⟨bn, 0, none⟩) 2 2, m.v] ∧ St S w0 w' (Chunk.keep (fun w => InG w u g ∧ Stands bs bn m g w) :: K)) ?_) ?_
  · dsimp only [f14.VC]
    have h1 := h.go ((Fr.refl [] w).alloc (cs := v.cells) (T := 29))
    have hG := hG0.fr ((Fr.refl [] w).alloc (cs := v.cells) (T := 29))
    have hB : Blk (World.alloc w (.cells v.cells 29)) w.heap.size v.cells 29 := Blk.new
    generalize w.heap.size = bg at *
    generalize World.alloc w (.cells v.cells 29) = w1 at *
    have hS := (St.start w1).alloc #[.slice none 0 0, .slice none 0 0, .slice none 0 0, .slice none 0 0, .slice none 0 0, .slice none 0 0] 29
    generalize w1.heap.size = br at *
    generalize World.alloc w1 (.cells #[.slice none 0 0, .slice none 0 0, .slice none 0 0, .slice none 0 0, .slice none 0 0, .slice none 0 0] 29) = w2 at *
    obtain ⟨⟨q1, q2, q3, q4, q5, q6⟩, q7⟩ := hb
    have e0 : w1.cell? ⟨bg, 0, none⟩ = some v.a.v := hB.cell rfl
    have e1 : w1.cell? ⟨bg, 1, none⟩ = some v.s.v := hB.cell rfl
    have e2 : w1.cell? ⟨bg, 2, none⟩ = some v.o.v := hB.cell rfl
    have e3 : w1.cell? ⟨bg, 3, none⟩ = some v.f.v := hB.cell rfl
    have e4 : w1.cell? ⟨bg, 4, none⟩ = some v.n.v := hB.cell rfl
    have e5 : w1.cell? ⟨bg, 5, none⟩ = some v.m.v := hB.cell rfl
    have la := hG.a.1.1
    have ls := hG.s.1.1
    have lo := hG.o.1.1
    have lf := hG.f.1.1
    have ln := hG.n.1.1
    have lm := hG.m.1.1
    have m12 := marksL_len 12
    refine ⟨_, _, _, hS.frame.cell e0, _, _, _, hS.frame.cell e1, _, _, _, hS.frame.cell e2, _, _, _, hS.frame.cell e3, _, _, _, hS.frame.cell e4, _, _, _, hS.frame.cell e5, ?_⟩
    refine Calls.mono (twinO hS (hG.fr hS.frame) ⟨⟨q1, q2, q3, q4, q5, q6⟩, q7⟩) ?_
    clear hS
    rintro _ w3 ⟨u, vals, rfl, hv, hS3⟩
    have hS3 : St [] w1 w3 ([txs u.a.v (gA g), txs u.s.v (gS g), txs u.o.v (gO g), ints u.f.v (gF g), ints u.n.v (gN g), Chunk.ls encL 82 u.m.v vals, b0C br] ++ rowsL vals (gM g)) := by
      refine St.perm hS3 ?_
      show (([txs u.a.v (gA g), txs u.s.v (gS g), txs u.o.v (gO g), ints u.f.v (gF g), ints u.n.v (gN g), Chunk.ls encL 82 u.m.v vals] ++ rowsL vals (gM g)) ++ [b0C br]).Perm ([txs u.a.v (gA g), txs u.s.v (gS g), txs u.o.v (gO g), ints u.f.v (gF g), ints u.n.v (gN g), Chunk.ls encL 82 u.m.v vals] ++ ([b0C br] ++ rowsL vals (gM g)))
      rw [List.append_assoc]
      exact List.Perm.append_left _ List.perm_append_comm
    have hS4 := hS3.alloc #[.slice none 0 0, .slice none 0 0, .slice none 0 0, .slice none 0 0, .slice none 0 0, .slice none 0 0] 29
    have hS5 := hS4.over 0 rfl [u.a.v, u.s.v, u.o.v, u.f.v, u.n.v, u.m.v] rfl
    refine ⟨_, _, _, _, _, _, _, _, _, _, _, _, _, _, _, _, _, _, rfl, (hS4.blk 0 rfl).can (by decide), _, _, _, (hS5.blk 0 rfl).cell rfl, _, _, _, (hS5.blk 0 rfl).cell rfl, _, _, _, (hS5.blk 0 rfl).cell rfl, ?_⟩
    generalize w3.heap.size = bh at *
    generalize setCs (World.alloc w3 (.cells #[.slice none 0 0, .slice none 0 0, .slice none 0 0, .slice none 0 0, .slice none 0 0, .slice none 0 0] 29)) bh 0 [u.a.v, u.s.v, u.o.v, u.f.v, u.n.v, u.m.v] = w5 at *
    have hS6 := hS5.alloc #[u.a.v, u.s.v, u.o.v] 25
    generalize w5.heap.size = bs at *
    generalize World.alloc w5 (.cells #[u.a.v, u.s.v, u.o.v] 25) = w6 at *
    refine ⟨_, _, _, hS6.frame.cell e3, _, _, _, hS6.frame.cell e4, ?_⟩
    have hS6 := hS6.drew
    refine Calls.mono (copiedC (k := 12) hS6 (hG.fr hS6.frame).f.1 (by omega) (by decide)) ?_
    rintro _ w7 ⟨XF, rfl, hS7⟩
    refine ⟨_, _, _, rfl, ⟨hS7.frame.cell e4, hS7.frame.cell e3, trivial⟩, ?_⟩
    refine Calls.mono (copiedC (k := 12) hS7 (hG.fr hS7.frame).n.1 (by omega) (by decide)) ?_
    rintro _ w8 ⟨XN, rfl, hS8⟩
    have hS9 := hS8.alloc #[XF.v, XN.v] 26
    refine ⟨_, _, _, rfl, ⟨hS8.frame.cell e4, hS8.frame.cell e3, trivial⟩, ⟨hS9.frame.cell e4, hS9.frame.cell e3, trivial⟩, ?_⟩
    generalize w8.heap.size = bn at *
    generalize World.alloc w8 (.cells #[XF.v, XN.v] 26) = w9 at *
    have hS9 : St [] w1 w9 (leFix bn bs bh br XF XN u.a u.s u.o u.f u.n u.m u.cells vals g 0 ++ rowsL vals (gM g)) := by
      have e0 : ∀ l : List ByteArray, behS l 0 = l := fun l => by simp [behS]
      rw [leFix, e0, e0, e0]
      exact hS9
    clear hS3 hS4 hS5 hS6 hS7 hS8
    refine ⟨_, _, _, (hS9.blk 4 rfl).cell rfl, ?_⟩
    refine ⟨fun x w' r => ∃ (k : Nat) (VA VS VO : Sl), x = (k : Int) ∧ k + r = 12 ∧ St [] w1 w' (leFix bn bs bh br XF XN VA VS VO u.f u.n u.m u.cells vals g k ++ rowsL vals (gM g)), ⟨12, 0, u.a, u.s, u.o, rfl, by omega, hS9⟩, ?_⟩
    clear hS9
    rintro d x w10 r ⟨k, VA, VS, VO, rfl, hkr, hS⟩
    refine sel_of (fun hd => ?_) (fun hd => ?_)
    · have hk : k < 12 := by have := of_decide_eq_true hd; omega
      have bl : ∀ l : List ByteArray, (behS l k).length = l.length + k := fun l => by simp [behS]
      obtain ⟨A1, n1, c1, w11, r1, hS1⟩ := appX hS 5 rfl mkS (by rw [bl]; omega)
      have hS2 := hS1.set 3 rfl 0 [.slice A1 n1 c1]
      obtain ⟨A2, n2, c2, w12, r2, hS3⟩ := appX hS2 6 rfl mkS (by rw [bl]; omega)
      have hS4 := hS3.set 3 rfl 1 [.slice A2 n2 c2]
      obtain ⟨A3, n3, c3, w13, r3, hS5⟩ := appX hS4 7 rfl mkS (by rw [bl]; omega)
      have hS6 := hS5.set 3 rfl 2 [.slice A3 n3 c3]
      rw [inc k 100 (by omega) (by omega)]
      refine ⟨by decide, by decide, _, _, _, (hS.blk 3 rfl).cell rfl, A1, n1, c1, w11, r1, by decide, by decide, (hS1.blk 3 rfl).can (by simp), by decide, by decide, _, _, _, (hS2.blk 3 rfl).cell rfl, A2, n2, c2, w12, r2, by decide, by decide, (hS3.blk 3 rfl).can (by simp [putA]), by decide, by decide, _, _, _, (hS4.blk 3 rfl).cell rfl, A3, n3, c3, w13, r3, by decide, by decide, (hS5.blk 3 rfl).can (by simp [putA]), rfl, r - 1, by omega, k + 1, (A1, n1, c1), (A2, n2, c2), (A3, n3, c3), rfl, by omega, ?_⟩
      rw [show leFix bn bs bh br XF XN (A1, n1, c1) (A2, n2, c2) (A3, n3, c3) u.f u.n u.m u.cells vals g (k + 1) = [Chunk.blk bn #[XF.v, XN.v] 26, ints XN.v (gN g ++ marksL 12), ints XF.v (gF g ++ marksL 12), Chunk.blk bs #[.slice A1 n1 c1, .slice A2 n2 c2, .slice A3 n3 c3] 25, Chunk.blk bh u.cells 29, txs (.slice A1 n1 c1) (behS (gA g) k ++ [mkS]), txs (.slice A2 n2 c2) (behS (gS g) k ++ [mkS]), txs (.slice A3 n3 c3) (behS (gO g) k ++ [mkS]), ints u.f.v (gF g), ints u.n.v (gN g), Chunk.ls encL 82 u.m.v vals, b0C br] by rw [leFix, behS_succ, behS_succ, behS_succ]]
      exact hS6
    have hk : k = 12 := by have := of_decide_eq_false hd; omega
    subst hk
    have gm : u.m.2.1 = vals.length := hS.lsLen 10 rfl
    have hM0 : St [] w1 w10 (leFix bn bs bh br XF XN VA VS VO u.f u.n u.m u.cells vals g 12 ++ rowsL vals (mkM (gM g) fun _ => 0)) := by rw [mkM_zero]; exact hS
    refine ⟨fun x w' r => ∃ (i : Nat) (vals : List Sl), x = (i : Int) ∧ i + r = u.m.2.1 ∧ vals.length = (gM g).length ∧ St [] w1 w' (leFix bn bs bh br XF XN VA VS VO u.f u.n u.m u.cells vals g 12 ++ rowsL vals (mkM (gM g) fun j => if j < i then 12 else 0)), ⟨u.m.2.1, 0, vals, rfl, by omega, hv, by simpa using hM0⟩, ?_⟩
    clear hM0 hS
    rintro d x w11 r ⟨i, vals2, rfl, hir, hv2, hS⟩
    refine sel_of (fun hd => ?_) (fun hd => ?_)
    · have hi : i < u.m.2.1 := by have := of_decide_eq_true hd; omega
      refine ⟨fun x w' q => ∃ (k : Nat) (vals : List Sl), x = (k : Int) ∧ k + q = 12 ∧ vals.length = (gM g).length ∧ St [] w1 w' (leFix bn bs bh br XF XN VA VS VO u.f u.n u.m u.cells vals g 12 ++ rowsL vals (mkM (gM g) fun j => if j < i then 12 else if j = i then k else 0)), ⟨12, 0, vals2, rfl, by omega, hv2, ?_⟩, ?_⟩
      · have e : (fun j => if j < i then 12 else if j = i then 0 else 0) = fun j => if j < i then 12 else 0 := by funext j; split <;> simp
        rw [e]; exact hS
      clear hS
      rintro d x w12 q ⟨k, vals3, rfl, hkq, hv3, hS⟩
      refine sel_of (fun hd => ?_) (fun hd => ?_)
      · have hk : k < 12 := by have := of_decide_eq_true hd; omega
        have hiM : i < (gM g).length := by omega
        obtain ⟨gb, hgb, hc⟩ := hS.lsGet nilS 10 rfl (by omega)
        have hml := mkM_len (gM g) fun j => if j < i then 12 else if j = i then k else 0
        have hrow := rowsL_get (vals := vals3) (M := mkM (gM g) fun j => if j < i then 12 else if j = i then k else 0) (i := i) (by omega) (by omega)
        rw [mkM_get hiM, if_neg (by omega), if_pos rfl] at hrow
        have hrl : ((gM g).getD i []).length ≤ 1100000 := q7 _ ((mem_getD [] _ _).2 ⟨i, by omega, rfl⟩)
        have hL : (leFix bn bs bh br XF XN VA VS VO u.f u.n u.m u.cells vals3 g 12 ++ rowsL vals3 (mkM (gM g) fun j => if j < i then 12 else if j = i then k else 0))[12 + i]? = some (slU (vals3.getD i nilS).v (behU ((gM g).getD i []) k)) := by
          rw [List.getElem?_append_right (by simp)]
          simpa using hrow
        obtain ⟨A', n', c', w13, r1, hS1⟩ := appU hS (12 + i) hL 60001 (by unfold behU; rw [List.length_append, List.length_replicate]; omega)
        have hS1 : St [] w1 w13 (leFix bn bs bh br XF XN VA VS VO u.f u.n u.m u.cells vals3 g 12 ++ (rowsL vals3 (mkM (gM g) fun j => if j < i then 12 else if j = i then k else 0)).set i (slU (.slice A' n' c') (behU ((gM g).getD i []) k ++ [60001]))) := by
          rw [List.set_append_right _ _ (by simp)] at hS1
          simpa using hS1
        obtain ⟨gb2, hgb2, hcan, hS2⟩ := hS1.lsSet 10 rfl (k := i) (by omega) (A', n', c')
        rw [hgb] at hgb2
        injection hgb2 with hgb2
        injection hgb2 with hgb2
        subst hgb2
        rw [inc k 100 (by omega) (by omega)]
        refine ⟨by omega, by omega, needPtr_of hgb ⟨_, _, _, by rw [Int.toNat_natCast, Nat.mul_one, Nat.zero_add]; exact hc i hi, A', n', c', w13, r1, by omega, by omega, needPtr_of hgb ?_⟩⟩
        rw [Int.toNat_natCast, Nat.mul_one, Nat.zero_add]
        refine ⟨hcan, rfl, q - 1, by omega, k + 1, vals3.set i (A', n', c'), rfl, by omega, by simpa using hv3, ?_⟩
        have hset := mkM_set (M := gM g) (f := fun j => if j < i then 12 else if j = i then k else 0) (f' := fun j => if j < i then 12 else if j = i then k + 1 else 0) hiM (fun j hj => by simp [hj])
        rw [if_neg (by omega), if_pos rfl] at hset
        rw [← hset, ← rowsL_set (by omega) (by omega), behU_succ]
        exact hS2
      · have hk : k = 12 := by have := of_decide_eq_false hd; omega
        subst hk
        rw [inc i 1100000 (by omega) (by omega)]
        refine ⟨rfl, r - 1, by omega, i + 1, vals3, rfl, by omega, hv3, ?_⟩
        have e : (fun j => if j < i + 1 then 12 else 0) = fun j => if j < i then 12 else if j = i then 12 else 0 := by
          funext j
          by_cases h1 : j < i
          · rw [if_pos (by omega), if_pos h1]
          · by_cases h2 : j = i
            · rw [if_pos (by omega), if_neg h1, if_pos h2]
            · rw [if_neg (by omega), if_neg h1, if_neg h2]
        rw [e]; exact hS
    have hi : i = u.m.2.1 := by have := of_decide_eq_false hd; omega
    have eM : mkM (gM g) (fun j => if j < i then 12 else 0) = mkM (gM g) fun _ => 12 := by
      unfold mkM
      refine List.map_inj_left.2 fun j hj => ?_
      rw [List.mem_range] at hj
      show behU _ (if j < i then 12 else 0) = behU _ 12
      rw [if_pos (by omega)]
    rw [eM] at hS
    have capA : VA.2.1 = (gA g).length + 12 ∧ VA.2.1 ≤ VA.2.2 := by
      obtain ⟨F, hF, _⟩ := hS.at 5 rfl
      obtain ⟨k1, k2, _⟩ := Chunk.ls_says ByteArray.empty hF
      exact ⟨by rw [k1]; simp [behS], k2⟩
    have capS : VS.2.1 = (gS g).length + 12 ∧ VS.2.1 ≤ VS.2.2 := by
      obtain ⟨F, hF, _⟩ := hS.at 6 rfl
      obtain ⟨k1, k2, _⟩ := Chunk.ls_says ByteArray.empty hF
      exact ⟨by rw [k1]; simp [behS], k2⟩
    have capO : VO.2.1 = (gO g).length + 12 ∧ VO.2.1 ≤ VO.2.2 := by
      obtain ⟨F, hF, _⟩ := hS.at 7 rfl
      obtain ⟨k1, k2, _⟩ := Chunk.ls_says ByteArray.empty hF
      exact ⟨by rw [k1]; simp [behS], k2⟩
    have capF : XF.2.1 = (gF g).length + 12 ∧ XF.2.1 ≤ XF.2.2 := by
      obtain ⟨F, hF, _⟩ := hS.at 2 rfl
      obtain ⟨k1, k2, _⟩ := Chunk.ls_says 0 hF
      exact ⟨by rw [k1]; simp [m12], k2⟩
    have capN : XN.2.1 = (gN g).length + 12 ∧ XN.2.1 ≤ XN.2.2 := by
      obtain ⟨F, hF, _⟩ := hS.at 1 rfl
      obtain ⟨k1, k2, _⟩ := Chunk.ls_says 0 hF
      exact ⟨by rw [k1]; simp [m12], k2⟩
    refine ⟨by decide, by decide, by decide, by decide, by decide, by decide, by decide, by decide, by decide, by decide, _, _, _, (hS.blk 3 rfl).cell rfl, _, _, _, hS.frame.cell e0, by omega, by omega, _, _, _, (hS.blk 3 rfl).cell rfl, _, _, _, hS.frame.cell e1, by omega, by omega, _, _, _, (hS.blk 3 rfl).cell rfl, _, _, _, hS.frame.cell e2, by omega, by omega, _, _, _, (hS.blk 0 rfl).cell rfl, _, _, _, hS.frame.cell e3, by omega, by omega, _, _, _, (hS.blk 0 rfl).cell rfl, _, _, _, hS.frame.cell e4, by omega, by omega, (hS.blk 4 rfl).can (by simp), ?_⟩
    simp only [Int.toNat_natCast]
    have hS1 := hS.drew.over 4 rfl [.slice VA.1 v.a.2.1 VA.2.2, .slice VS.1 v.s.2.1 VS.2.2, .slice VO.1 v.o.2.1 VO.2.2, .slice XF.1 v.f.2.1 XF.2.2, .slice XN.1 v.n.2.1 XN.2.2, .slice none 0 0] rfl
    have hS2 := hS1.nil 82 1
    clear hS1 hS
    have hS2 : St [] w1 _ (Chunk.ls encL 82 nilS.v (lePre vals2 (gM g) 0) :: (leFix bn bs bh br XF XN VA VS VO u.f u.n u.m #[.slice VA.1 v.a.2.1 VA.2.2, .slice VS.1 v.s.2.1 VS.2.2, .slice VO.1 v.o.2.1 VO.2.2, .slice XF.1 v.f.2.1 XF.2.2, .slice XN.1 v.n.2.1 XN.2.2, .slice none 0 0] vals2 g 12 ++ rowsL vals2 (mkM (gM g) fun _ => 12))) := hS2
    refine ⟨fun x w' r => ∃ (i : Nat) (VM : Sl), x = (i : Int) ∧ i + r = u.m.2.1 ∧ St [] w1 w' (Chunk.ls encL 82 VM.v (lePre vals2 (gM g) i) :: (leFix bn bs bh br XF XN VA VS VO u.f u.n u.m #[.slice VA.1 v.a.2.1 VA.2.2, .slice VS.1 v.s.2.1 VS.2.2, .slice VO.1 v.o.2.1 VO.2.2, .slice XF.1 v.f.2.1 XF.2.2, .slice XN.1 v.n.2.1 XN.2.2, VM.v] vals2 g 12 ++ rowsL vals2 (mkM (gM g) fun _ => 12))), ⟨u.m.2.1, 0, nilS, rfl, by omega, hS2⟩, ?_⟩
    clear hS2
    rintro d x w12 r ⟨j, VM, rfl, hjr, hS⟩
    refine sel_of (fun hd => ?_) (fun hd => ?_)
    · have hj : j < u.m.2.1 := by have := of_decide_eq_true hd; omega
      have hjM : j < (gM g).length := by omega
      obtain ⟨gb, hgb, hc⟩ := hS.lsGet nilS 11 rfl (by omega)
      have hrl : ((gM g).getD j []).length ≤ 1100000 := q7 _ ((mem_getD [] _ _).2 ⟨j, by omega, rfl⟩)
      have hml := mkM_len (gM g) fun _ => 12
      have hrow := rowsL_get (vals := vals2) (M := mkM (gM g) fun _ => 12) (i := j) (by omega) (by omega)
      rw [mkM_get hjM] at hrow
      have hcap : ((gM g).getD j []).length ≤ (vals2.getD j nilS).2.2 := by
        obtain ⟨F, hF, _⟩ := hS.at (13 + j) (c := slU (vals2.getD j nilS).v (behU ((gM g).getD j []) 12)) (by
          rw [show 13 + j = (12 + j) + 1 by omega, List.getElem?_cons_succ, List.getElem?_append_right (by simp)]
          simpa using hrow)
        obtain ⟨k1, k2, _⟩ := Chunk.ls_says 0 hF
        have : (behU ((gM g).getD j []) 12).length = ((gM g).getD j []).length + 12 := by unfold behU; rw [List.length_append, List.length_replicate]
        omega
      refine ⟨by omega, by omega, needPtr_of hgb ⟨_, _, _, (hS.blk 5 rfl).cell rfl, _, _, _, by rw [Int.toNat_natCast, Nat.mul_one, Nat.zero_add]; exact hc j hj, _, _, _, hS.frame.cell e5, by omega, by omega, (hG.fr hS.frame).m.1.need rfl (by omega) fun B k c hU => ?_⟩⟩
      have hk := hU.1
      refine ⟨by omega, by omega, ?_⟩
      rw [inc j 1100000 (by omega) (by omega)]
      have hpl : (lePre vals2 (gM g) j).length = j := by simp [lePre]
      obtain ⟨A', n', c', w13, r1, hS1⟩ := appL hS.drew 0 rfl ((vals2.getD j nilS).1, k, (vals2.getD j nilS).2.2) (by omega)
      have hS2 := hS1.set 5 rfl 5 [.slice A' n' c']
      refine ⟨A', n', c', w13, r1, (hS1.blk 5 rfl).can (by simp), trivial, r - 1, by omega, j + 1, (A', n', c'), rfl, by omega, ?_⟩
      rw [lePre_succ, ← hk]
      exact hS2
    · have hj : j = u.m.2.1 := by have := of_decide_eq_false hd; omega
      have hS9 := hS.over 12 rfl [.slice VA.1 v.a.2.1 VA.2.2, .slice VS.1 v.s.2.1 VS.2.2, .slice VO.1 v.o.2.1 VO.2.2, .slice XF.1 v.f.2.1 XF.2.2, .slice XN.1 v.n.2.1 XN.2.2, VM.v] rfl
      refine ⟨_, _, _, (hS.blk 5 rfl).cell rfl, _, _, _, (hS.blk 5 rfl).cell rfl, _, _, _, (hS.blk 5 rfl).cell rfl, _, _, _, (hS.blk 5 rfl).cell rfl, _, _, _, (hS.blk 5 rfl).cell rfl, _, _, _, (hS.blk 5 rfl).cell rfl, (hS.blk 12 rfl).can (by simp), ?_⟩
      refine ⟨_, _, _, (hS9.blk 12 rfl).cell rfl, _, _, _, (hS9.blk 12 rfl).cell rfl, _, _, _, (hS9.blk 12 rfl).cell rfl, _, _, _, (hS9.blk 12 rfl).cell rfl, _, _, _, (hS9.blk 12 rfl).cell rfl, _, _, _, (hS9.blk 12 rfl).cell rfl, ?_⟩
      refine ⟨⟨(VA.1, v.a.2.1, VA.2.2), (VS.1, v.s.2.1, VS.2.2), (VO.1, v.o.2.1, VO.2.2), (XF.1, v.f.2.1, XF.2.2), (XN.1, v.n.2.1, XN.2.2), VM⟩, bs, bn, u.m, rfl, h1.gone (St.keepAll hS9 _ ?_)⟩
      rintro w' ⟨G0, k0⟩ hall
      obtain ⟨GA, kA⟩ := hall (txs VA.v (behS (gA g) 12)) (by simp)
      obtain ⟨GS, kS⟩ := hall (txs VS.v (behS (gS g) 12)) (by simp)
      obtain ⟨GO, kO⟩ := hall (txs VO.v (behS (gO g) 12)) (by simp)
      obtain ⟨GF, kF⟩ := hall (ints XF.v (gF g ++ marksL 12)) (by simp)
      obtain ⟨GN, kN⟩ := hall (ints XN.v (gN g ++ marksL 12)) (by simp)
      obtain ⟨GM, kM⟩ := hall (Chunk.ls encL 82 u.m.v vals2) (by simp)
      obtain ⟨Gs, ks⟩ := hall (Chunk.blk bs #[VA.v, VS.v, VO.v] 25) (by simp)
      obtain ⟨Gn, kn⟩ := hall (Chunk.blk bn #[XF.v, XN.v] 26) (by simp)
      have sA := Chunk.ls_says ByteArray.empty kA
      have sS := Chunk.ls_says ByteArray.empty kS
      have sO := Chunk.ls_says ByteArray.empty kO
      have sF := Chunk.ls_says 0 kF
      have sN := Chunk.ls_says 0 kN
      have sM := Chunk.ls_says nilS kM
      have s0 := Chunk.ls_says nilS k0
      have hml := mkM_len (gM g) fun _ => 12
      have rowU : ∀ q, q < (gM g).length → InU w' (vals2.getD q nilS).1 (vals2.getD q nilS).2.1 (behU ((gM g).getD q []) 12) := by
        intro q hq
        have hrow := rowsL_get (vals := vals2) (M := mkM (gM g) fun _ => 12) (i := q) (by omega) (by omega)
        rw [mkM_get hq] at hrow
        obtain ⟨Gr, kr⟩ := hall (slU (vals2.getD q nilS).v (behU ((gM g).getD q []) 12)) (by
          have hm := List.mem_of_getElem? hrow
          iterate 12 refine List.Mem.tail _ ?_
          exact hm)
        exact slU_in kr
      have preX : ∀ {A : Option Addr} {n m : Nat} {l : List ByteArray}, InX w' A n (behS l 12) → m = l.length → InX w' A m l := by
        intro A n m l hX hm
        have h2 := InX.take (n := n) hX (q := m) (by have := hX.1; simp [behS] at this; omega)
        have e : (behS l 12).take m = l := by rw [hm]; unfold behS; exact List.take_left
        rwa [e] at h2
      have preW : ∀ {A : Option Addr} {n m : Nat} {l : List Int}, InW w' A n (l ++ marksL 12) → m = l.length → InW w' A m l := by
        intro A n m l hX hm
        have h2 := InW.take hX (q := m) (by have := hX.1; rw [List.length_append] at this; omega)
        have e : (l ++ marksL 12).take m = l := by rw [hm]; exact List.take_left
        rwa [e] at h2
      have preU : ∀ {A : Option Addr} {n : Nat} {l : List Int}, InU w' A n (behU l 12) → InU w' A l.length l := by
        intro A n l hX
        refine ⟨rfl, fun h0 => ?_⟩
        have hl : n = l.length + 12 := by rw [hX.1]; unfold behU; rw [List.length_append, List.length_replicate]
        obtain ⟨b, o, rfl, hc⟩ := hX.2 (by omega)
        refine ⟨b, o, rfl, fun q hq => ?_⟩
        rw [hc q (by omega)]
        simp [behU, List.getD_eq_getElem?_getD, List.getElem?_append_left hq]
      have iA : InX w' VA.1 VA.2.1 (behS (gA g) 12) := ⟨sA.1, sA.2.2⟩
      have iS : InX w' VS.1 VS.2.1 (behS (gS g) 12) := ⟨sS.1, sS.2.2⟩
      have iO : InX w' VO.1 VO.2.1 (behS (gO g) 12) := ⟨sO.1, sO.2.2⟩
      have iF : InW w' XF.1 XF.2.1 (gF g ++ marksL 12) := ⟨sF.1, sF.2.2⟩
      have iN : InW w' XN.1 XN.2.1 (gN g ++ marksL 12) := ⟨sN.1, sN.2.2⟩
      have hpl : (lePre vals2 (gM g) j).length = j := by simp [lePre]
      refine ⟨⟨⟨preX iA la, by show v.a.2.1 ≤ VA.2.2; omega⟩, ⟨preX iS ls, by show v.s.2.1 ≤ VS.2.2; omega⟩, ⟨preX iO lo, by show v.o.2.1 ≤ VO.2.2; omega⟩, ⟨preW iF lf, by show v.f.2.1 ≤ XF.2.2; omega⟩, ⟨preW iN ln, by show v.n.2.1 ≤ XN.2.2; omega⟩, ⟨⟨by rw [s0.1, hpl]; omega, fun h0 => ?_⟩, s0.2.1⟩, hG0.u⟩,
        VA, VS, VO, XF, XN, ⟨ks.2.cell rfl, ks.2.cell rfl, ks.2.cell rfl⟩, ⟨kn.2.cell rfl, kn.2.cell rfl⟩, ⟨iA, iS, iO⟩, ⟨iF, iN⟩, ⟨by rw [sM.1, hml]; omega, fun h0 => ?_⟩⟩
      · obtain ⟨b, o, hb0, hc⟩ := s0.2.2 h0
        refine ⟨b, o, hb0, fun q hq => ?_⟩
        have hq2 : q < j := by rw [s0.1, hpl] at hq; exact hq
        have := hc q hq
        have e : (lePre vals2 (gM g) j).getD q nilS = ((vals2.getD q nilS).1, ((gM g).getD q []).length, (vals2.getD q nilS).2.2) := by
          unfold lePre
          rw [List.getD_eq_getElem?_getD, List.getElem?_map, List.getElem?_range hq2]; rfl
        rw [e] at this
        exact ⟨_, _, _, this, preU (rowU q (by omega))⟩
      · obtain ⟨b, o, hb0, hc⟩ := sM.2.2 h0
        refine ⟨b, o, hb0, fun q hq => ⟨_, _, _, hc q hq, ?_⟩⟩
        rw [mkM_get (by omega)]
        exact rowU q (by omega)
  · rintro e w' ⟨r, rfl, u, bs, bn, m, rfl, h⟩; exact ⟨u, bs, bn, m, rfl, h⟩
end PG
end Go.Proofs.Ytjmlfknogjaemaa
/- Page: the marks behind a lent graph stand (stands). -/
set_option linter.unusedVariables false
set_option linter.unusedSimpArgs false
set_option maxRecDepth 10000
namespace Go.Proofs.Ytjmlfknogjaemaa
open Go Go.Proofs.Ytjmlfknogjaemaa.Vc
namespace PG
open Vc.PG NI
theorem behS_at (l : List ByteArray) {k : Nat} (hk : k < 12) : (behS l 12).getD (l.length + 11 - k) ByteArray.empty = mkS := by
  unfold behS
  rw [List.getD_eq_getElem?_getD, List.getElem?_append_right (by omega), List.getElem?_replicate, if_pos (by omega)]; rfl
theorem behU_at (l : List Int) {k : Nat} (hk : k < 12) : (behU l 12).getD (l.length + 11 - k) 0 = 60001 := by
  unfold behU
  rw [List.getD_eq_getElem?_getD, List.getElem?_append_right (by omega), List.getElem?_replicate, if_pos (by omega)]; rfl
theorem behI_at (l : List Int) {k : Nat} (hk : k < 12) : (l ++ marksL 12).getD (l.length + k) 0 = -7000 - (k : Int) := by
  rw [List.getD_eq_getElem?_getD, List.getElem?_append_right (by omega)]
  have : l.length + k - l.length = k := by omega
  rw [this]
  unfold marksL
  rw [List.getElem?_map, List.getElem?_range hk]; rfl
theorem nameStep {w : World} {A : Option Addr} {n : Nat} {l : List ByteArray} (h : InX w A n (behS l 12)) (hl : l.length ≤ 1100000) {k : Nat} (hk : k < 12) {K : ByteArray → Prop} (hK : K mkS) :
    (0 : Int) ≤ IntKind.i64.wrap (IntKind.i64.wrap ((n : Int) - 1) - (k : Int)) ∧ IntKind.i64.wrap (IntKind.i64.wrap ((n : Int) - 1) - (k : Int)) < (n : Int) ∧ needPtr A fun b o => ∃ s : ByteArray, w.cell? ⟨b, o + (IntKind.i64.wrap (IntKind.i64.wrap ((n : Int) - 1) - (k : Int))).toNat * 1, none⟩ = some (.string s) ∧ K s := by
  have hn : n = l.length + 12 := by rw [h.1]; simp [behS]
  have e : IntKind.i64.wrap (IntKind.i64.wrap ((n : Int) - 1) - (k : Int)) = ((l.length + 11 - k : Nat) : Int) := by rw [i64_id (x := (n : Int) - 1) (by omega) (by omega), i64_id (by omega) (by omega)]; omega
  rw [e]
  refine ⟨by omega, by omega, InX.need (n := n) h rfl (by omega) ?_⟩
  rw [behS_at l hk]; exact hK
theorem intStep {w : World} {A : Option Addr} {n : Nat} {l : List Int} (h : InW w A n (l ++ marksL 12)) (hl : l.length ≤ 1100000) {k : Nat} (hk : k < 12) {K : Int → Prop} (hK : K (-7000 - (k : Int))) :
    (0 : Int) ≤ IntKind.i64.wrap (IntKind.i64.wrap ((n : Int) - 12) + (k : Int)) ∧ IntKind.i64.wrap (IntKind.i64.wrap ((n : Int) - 12) + (k : Int)) < (n : Int) ∧ needPtr A fun b o => ∃ s : Int, w.cell? ⟨b, o + (IntKind.i64.wrap (IntKind.i64.wrap ((n : Int) - 12) + (k : Int))).toNat * 1, none⟩ = some (.int .i64 s) ∧ K s := by
  have m12 := marksL_len 12
  have hn : n = l.length + 12 := by rw [h.1, List.length_append, m12]
  have e : IntKind.i64.wrap (IntKind.i64.wrap ((n : Int) - 12) + (k : Int)) = ((l.length + k : Nat) : Int) := by rw [i64_id (x := (n : Int) - 12) (by omega) (by omega), i64_id (by omega) (by omega)]; omega
  rw [e]
  refine ⟨by omega, by omega, InW.need h (Fr.refl _ _) rfl (by omega) ?_⟩
  rw [behI_at l hk]; exact hK
theorem maskStep {w : World} {A : Option Addr} {n : Nat} {l : List Int} (h : InU w A n (behU l 12)) (hl : l.length ≤ 1100000) {k : Nat} (hk : k < 12) {K : Int → Prop} (hK : K 60001) :
    (0 : Int) ≤ IntKind.i64.wrap (IntKind.i64.wrap ((n : Int) - 1) - (k : Int)) ∧ IntKind.i64.wrap (IntKind.i64.wrap ((n : Int) - 1) - (k : Int)) < (n : Int) ∧ needPtr A fun b o => ∃ s : Int, w.cell? ⟨b, o + (IntKind.i64.wrap (IntKind.i64.wrap ((n : Int) - 1) - (k : Int))).toNat * 1, none⟩ = some (.int .u16 s) ∧ K s := by
  have hn : n = l.length + 12 := by rw [h.1]; unfold behU; rw [List.length_append, List.length_replicate]
  have e : IntKind.i64.wrap (IntKind.i64.wrap ((n : Int) - 1) - (k : Int)) = ((l.length + 11 - k : Nat) : Int) := by rw [i64_id (x := (n : Int) - 1) (by omega) (by omega), i64_id (by omega) (by omega)]; omega
  rw [e]
  refine ⟨by omega, by omega, InU.need h rfl (by omega) ?_⟩
  rw [behU_at l hk]; exact hK
theorem standsC {w : World} {bs bn : Nat} {m : Sl} {g : Gd} (h : Stands bs bn m g w) (hb : ((gA g).length ≤ 1100000 ∧ (gS g).length ≤ 1100000 ∧ (gO g).length ≤ 1100000 ∧ (gF g).length ≤ 1100000 ∧ (gN g).length ≤ 1100000 ∧ (gM g).length ≤ 1100000) ∧ ∀ r ∈ gM g, r.length ≤ 1100000) :
    Calls Try.prog 23 #[.slice (some ⟨bs, 0, none⟩) 3 3, .slice (some ⟨bn, 0, none⟩) 2 2, m.v] w fun e w' => e = .returned (.bool true) ∧ Fr [] w w' := by
  refine Calls.mono (f23.calls (R := fun v w' => v = .bool true ∧ Fr [] w w') ?_) ?_
  · obtain ⟨VA, VS, VO, XF, XN, ⟨s1, s2, s3⟩, ⟨t1, t2⟩, ⟨iA, iS, iO⟩, ⟨iF, iN⟩, iM⟩ := h
    obtain ⟨⟨q1, q2, q3, q4, q5, q6⟩, q7⟩ := hb
    have hml := mkM_len (gM g) fun _ => 12
    have lM := iM.1
    dsimp only [f23.VC]
    refine ⟨fun x w' r => Fr [] w w' ∧ ∃ k : Nat, x = (k : Int) ∧ k + r = 12, ⟨12, Fr.refl _ _, 0, rfl, by omega⟩, ?_⟩
    rintro d x w1 r ⟨hf, k, rfl, hkr⟩
    refine sel_of (fun hd => ?_) (fun hd => ⟨rfl, hf⟩)
    have hk : k < 12 := by have := of_decide_eq_true hd; omega
    refine ⟨fun x w' q => Fr [] w w' ∧ ∃ i : Nat, x = (i : Int) ∧ i + q = 3, ⟨3, hf, 0, rfl, by omega⟩, ?_⟩
    clear hf
    rintro d x w2 q ⟨hf, i, rfl, hiq⟩
    refine sel_of (fun hd => ?_) (fun hd => ?_)
    · have hi : i < 3 := by have := of_decide_eq_true hd; omega
      obtain ⟨V, l, hc, hX, hl⟩ : ∃ (V : Sl) (l : List ByteArray), w2.cell? ⟨bs, i, none⟩ = some V.v ∧ InX w2 V.1 V.2.1 (behS l 12) ∧ l.length ≤ 1100000 := by
        rcases (show i = 0 ∨ i = 1 ∨ i = 2 by omega) with rfl | rfl | rfl
        · exact ⟨VA, _, hf.cell s1, iA.fr hf, q1⟩
        · exact ⟨VS, _, hf.cell s2, iS.fr hf, q2⟩
        · exact ⟨VO, _, hf.cell s3, iO.fr hf, q3⟩
      have ec : w2.cell? ⟨bs, 0 + (i : Int).toNat * 1, none⟩ = some V.v := by rw [Int.toNat_natCast, Nat.mul_one, Nat.zero_add]; exact hc
      rw [inc i 3 (by omega) (by omega)]
      obtain ⟨a1, a2, a3⟩ := nameStep hX hl hk (K := fun s => sel (!(decide (s = ⟨#[10, 32, 98, 101, 104, 105, 110, 100]⟩))) ((Value.bool false) = .bool true ∧ Fr [] w w2.drew) (([.slice (some ⟨bs, 0, none⟩) 3 3, .slice (some ⟨bn, 0, none⟩) 2 2, m.v, .int .i64 (k : Int)] : List Value) = ([.slice (some ⟨bs, 0, none⟩) 3 3, .slice (some ⟨bn, 0, none⟩) 2 2, m.v, .int .i64 (k : Int)] : List Value) ∧ ∃ m, m < q ∧ (Fr [] w w2.drew ∧ ∃ i' : Nat, ((i + 1 : Nat) : Int) = (i' : Int) ∧ i' + m = 3)))
        (sel_of (fun h => by simp [mkS] at h) (fun _ => ⟨rfl, q - 1, by omega, hf.drew, i + 1, rfl, by omega⟩))
      exact ⟨by omega, by omega, needPtr_of rfl ⟨by omega, by omega, needPtr_of rfl ⟨_, _, _, ec, _, _, _, ec, a1, a2, a3⟩⟩⟩
    refine ⟨fun x w' q => Fr [] w w' ∧ ∃ i : Nat, x = (i : Int) ∧ i + q = 2, ⟨2, hf, 0, rfl, by omega⟩, ?_⟩
    clear hf
    rintro d x w3 q2' ⟨hf, i2, rfl, hiq2⟩
    refine sel_of (fun hd => ?_) (fun hd => ?_)
    · have hi : i2 < 2 := by have := of_decide_eq_true hd; omega
      obtain ⟨V, l, hc, hX, hl⟩ : ∃ (V : Sl) (l : List Int), w3.cell? ⟨bn, i2, none⟩ = some V.v ∧ InW w3 V.1 V.2.1 (l ++ marksL 12) ∧ l.length ≤ 1100000 := by
        rcases (show i2 = 0 ∨ i2 = 1 by omega) with rfl | rfl
        · exact ⟨XF, _, hf.cell t1, iF.fr hf, q4⟩
        · exact ⟨XN, _, hf.cell t2, iN.fr hf, q5⟩
      have ec : w3.cell? ⟨bn, 0 + (i2 : Int).toNat * 1, none⟩ = some V.v := by rw [Int.toNat_natCast, Nat.mul_one, Nat.zero_add]; exact hc
      rw [inc i2 3 (by omega) (by omega), i64_id (x := -7000 - (k : Int)) (by omega) (by omega)]
      obtain ⟨a1, a2, a3⟩ := intStep hX hl hk (K := fun s => sel ((s : Int) != (-7000 - (k : Int) : Int)) ((Value.bool false) = .bool true ∧ Fr [] w w3.drew) (([.slice (some ⟨bs, 0, none⟩) 3 3, .slice (some ⟨bn, 0, none⟩) 2 2, m.v, .int .i64 (k : Int)] : List Value) = ([.slice (some ⟨bs, 0, none⟩) 3 3, .slice (some ⟨bn, 0, none⟩) 2 2, m.v, .int .i64 (k : Int)] : List Value) ∧ ∃ m, m < q2' ∧ (Fr [] w w3.drew ∧ ∃ i' : Nat, ((i2 + 1 : Nat) : Int) = (i' : Int) ∧ i' + m = 2)))
        (sel_of (fun h => by simp at h) (fun _ => ⟨rfl, q2' - 1, by omega, hf.drew, i2 + 1, rfl, by omega⟩))
      exact ⟨by omega, by omega, needPtr_of rfl ⟨by omega, by omega, needPtr_of rfl ⟨_, _, _, ec, _, _, _, ec, a1, a2, a3⟩⟩⟩
    refine ⟨fun x w' q => Fr [] w w' ∧ ∃ i : Nat, x = (i : Int) ∧ i + q = m.2.1, ⟨m.2.1, hf, 0, rfl, by omega⟩, ?_⟩
    clear hf
    rintro d x w4 q3' ⟨hf, i3, rfl, hiq3⟩
    refine sel_of (fun hd => ?_) (fun hd => ?_)
    · have hi : i3 < m.2.1 := by have := of_decide_eq_true hd; omega
      obtain ⟨b, o, hb0, hcm⟩ := (iM.fr hf).2 (by omega)
      obtain ⟨B, kk, c, hcell, hU⟩ := hcm i3 hi
      rw [mkM_get (by omega)] at hU
      have hrl : ((gM g).getD i3 []).length ≤ 1100000 := q7 _ ((mem_getD [] _ _).2 ⟨i3, by omega, rfl⟩)
      have ec : w4.cell? ⟨b, o + (i3 : Int).toNat * 1, none⟩ = some (.slice B kk c) := by rw [Int.toNat_natCast, Nat.mul_one]; exact hcell
      rw [inc i3 1100000 (by omega) (by omega)]
      obtain ⟨a1, a2, a3⟩ := maskStep hU hrl hk (K := fun s => sel ((s : Int) != (60001 : Int)) ((Value.bool false) = .bool true ∧ Fr [] w w4.drew) (([.slice (some ⟨bs, 0, none⟩) 3 3, .slice (some ⟨bn, 0, none⟩) 2 2, m.v, .int .i64 (k : Int)] : List Value) = ([.slice (some ⟨bs, 0, none⟩) 3 3, .slice (some ⟨bn, 0, none⟩) 2 2, m.v, .int .i64 (k : Int)] : List Value) ∧ ∃ m', m' < q3' ∧ (Fr [] w w4.drew ∧ ∃ i' : Nat, ((i3 + 1 : Nat) : Int) = (i' : Int) ∧ i' + m' = m.2.1)))
        (sel_of (fun h => by simp at h) (fun _ => ⟨rfl, q3' - 1, by omega, hf.drew, i3 + 1, rfl, by omega⟩))
      exact ⟨by omega, by omega, needPtr_of hb0 ⟨by omega, by omega, needPtr_of hb0 ⟨_, _, _, ec, _, _, _, ec, a1, a2, a3⟩⟩⟩
    · rw [inc k 12 (by omega) (by omega)]
      exact ⟨rfl, r - 1, by omega, hf, k + 1, rfl, by omega⟩
  · rintro e w' ⟨v, rfl, rfl, h⟩; exact ⟨rfl, h⟩
end PG
end Go.Proofs.Ytjmlfknogjaemaa
