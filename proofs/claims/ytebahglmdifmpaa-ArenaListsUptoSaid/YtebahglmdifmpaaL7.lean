/- ArenaLists: the walk. -/
import Derived.Test.YtebahglmdifmpaaG1
import Derived.Test.YtebahglmdifmpaaV9b
import Derived.Test.YtebahglmdifmpaaL9
import Derived.Test.YtebahglmdifmpaaT2
set_option linter.unusedVariables false
set_option linter.unusedSimpArgs false
set_option maxRecDepth 10000
namespace Go.Proofs.Ytebahglmdifmpaa
open Go Go.Proofs.Ytebahglmdifmpaa.Vc
namespace GR
open PA RA
section
variable {S : List Nat} {w0 w : World} {a r : Chunk} {xs : List X}
theorem addL {A0 : Option Addr} {n0 c0 : Nat} {A : Option Addr} {n c : Nat} {L : List B} (h : St S w0 w (slC (.slice A n c) L :: a :: r :: KK on (.slice A0 n0 c0) xs [])) (hx : xs.length ≤ 100) :
    ∃ (A' : Option Addr) (n' c' : Nat) (w' : World), (Builtin.append_ #[78, 78] 78 #[.slice A0 n0 c0, .slice (some ⟨w.heap.size, 0, none⟩) 1 1]).run Try.prog (World.alloc w (.cells #[.slice A n c] 83)) = .ok (.slice A' n' c') w' ∧
      St S w0 w' (a :: r :: KK on (.slice A' n' c') (xs ++ [⟨A, n, c, L, none, 0, 0, []⟩]) []) := by
  have hS6 := h.alloc #[.slice A n c] 83
  obtain ⟨bi, b1, b2, b3, b4⟩ := info83
  obtain ⟨g', cap', w', hrun, hS7⟩ := hS6.append (P := Try.prog) (ty := 78) (r := [.slice A n c]) 4 under78 b1 b2 b3 rfl (by decide) rfl (hS6.blk 0 rfl) rfl rfl (by intro u hu; simp at hu; subst hu; rfl) (by rw [b4]; simp; omega) (by simp [maxLen]; omega)
  refine ⟨_, _, _, _, hrun, ?_⟩
  have e : (xs ++ [(⟨A, n, c, L, none, 0, 0, []⟩ : X)]).map hd = xs.map hd ++ [[.slice A n c]] := by simp [hd]
  have hS8 := hS7.tail
  refine hS8.perm ?_
  unfold KK
  rw [e, List.map_append, List.append_nil]
  refine (List.perm_append_singleton (slC (.slice A n c) L) _).symm.trans (List.Perm.of_eq ?_)
  simp [on]
theorem addL2 {A0 : Option Addr} {n0 c0 : Nat} {A B' : Option Addr} {n c m d : Nat} {L M : List B} (h : St S w0 w (slC (.slice B' m d) M :: slC (.slice A n c) L :: a :: r :: KK on (.slice A0 n0 c0) xs [])) (hx : xs.length ≤ 100) :
    ∃ (A' : Option Addr) (n' c' : Nat) (w' : World), (Builtin.append_ #[78, 78] 78 #[.slice A0 n0 c0, .slice (some ⟨w.heap.size, 0, none⟩) 2 2]).run Try.prog (World.alloc w (.cells #[.slice A n c, .slice B' m d] 83)) = .ok (.slice A' n' c') w' ∧
      St S w0 w' (a :: r :: KK on (.slice A' n' c') (xs ++ [⟨A, n, c, L, none, 0, 0, []⟩, ⟨B', m, d, M, none, 0, 0, []⟩]) []) := by
  have hS6 := h.alloc #[.slice A n c, .slice B' m d] 83
  obtain ⟨bi, b1, b2, b3, b4⟩ := info83
  obtain ⟨g', cap', w', hrun, hS7⟩ := hS6.append2 (P := Try.prog) (ty := 78) (r := [.slice A n c]) (r2 := [.slice B' m d]) 5 under78 b1 b2 b3 rfl (by decide) rfl (hS6.blk 0 rfl) rfl rfl rfl (by intro u hu; simp at hu; rcases hu with rfl | rfl <;> rfl) (by rw [b4]; simp; omega) (by simp [maxLen]; omega)
  refine ⟨_, _, _, _, hrun, ?_⟩
  have e : (xs ++ [(⟨A, n, c, L, none, 0, 0, []⟩ : X), ⟨B', m, d, M, none, 0, 0, []⟩]).map hd = xs.map hd ++ [[.slice A n c], [.slice B' m d]] := by simp [hd]
  have hS8 := hS7.tail
  refine hS8.perm ?_
  unfold KK
  rw [e, List.map_append, List.append_nil]
  refine (List.Perm.swap _ _ _).trans ((List.perm_append_comm (l₁ := [slC (.slice A n c) L, slC (.slice B' m d) M])).trans (List.Perm.of_eq ?_))
  simp [on]
end
theorem Sm.snoc {xs ys : List X} (h : Sm xs) (hy : ∀ y ∈ ys, y.M.length ≤ 4000) : Sm (xs ++ ys) := by
  intro j hj
  rw [List.getD_eq_getElem?_getD]
  rcases Nat.lt_or_ge j xs.length with h1 | h1
  · rw [List.getElem?_append_left h1, ← List.getD_eq_getElem?_getD]
    exact h j h1
  · rw [List.getElem?_append_right h1]
    rw [List.length_append] at hj
    have : j - xs.length < ys.length := by omega
    rw [List.getElem?_eq_getElem this]
    exact hy _ (List.getElem_mem _)
def J7 (w : World) (N a mb gb r len : Nat) (b : Bool) (A : Option Addr) (n c : Nat) (x : Int) (w' : World) (rr : Nat) : Prop :=
  b = true ∧ ∃ (i k : Nat) (ws : List Int) (L : List B) (xs : List X), x = (i : Int) ∧ i + rr = len ∧ i ≤ 30 ∧ k ≤ 1 + 2 * i ∧ ws.length = N ∧ xs.length = i ∧ Sm xs ∧ St [] w w' (arC a mb gb NIL 0 ((0 : Nat) : Int) ws L k :: refC r 0 ws L k :: KK on (.slice A n c) xs [])
theorem lists {w : World} {x0 : Int} {A1 : Option Addr} {n1 c1 : Nat} {l1 : List Int} (h1 : LW.InI w A1 n1 l1) (hw1 : ∀ z ∈ l1, z ≤ 9223372036854775807) (hn1 : n1 ≤ 1500000) :
    Calls Try.prog 7 #[.int .i64 x0, .slice A1 n1 c1] w fun e w' => e = .returned (.bool true) ∧ Fr [] w w' := by
  refine Calls.mono (f7.calls (R := fun v w' => v = .bool true ∧ Fr [] w w') ?_) ?_
  · dsimp only [f7.VC]
    have hl1 := h1.1
    refine Calls.mono ((St.start w).step0 (LV.lively _)) ?_
    rintro _ w1 ⟨rfl, hS1⟩
    refine ⟨_, rfl, ?_⟩
    refine Calls.mono (hS1.step0 (LW.at_ w1 x0 (n := 200) (by decide) (by decide))) ?_
    rintro _ w2 ⟨rfl, hS2⟩
    have har := LW.atI_range x0 (n := 200) (by decide)
    obtain ⟨q, hq⟩ : ∃ q : Nat, LW.atI x0 200 = (q : Int) := ⟨(LW.atI x0 200).toNat, by omega⟩
    rw [hq] at har ⊢
    have hN : IntKind.i64.wrap (1 + (q : Int)) = ((q + 1 : Nat) : Int) := by rw [i64_id (by omega) (by omega)]; omega
    obtain ⟨N, hNq⟩ : ∃ N : Nat, N = q + 1 := ⟨_, rfl⟩
    refine ⟨_, rfl, ?_⟩
    rw [hN, ← hNq]
    have hN1 : 1 ≤ N := by omega
    have hN2 : N ≤ 200 := by omega
    refine Calls.mono (newMem hS2 hN1 (by omega)) ?_
    rintro _ w3 ⟨mb, gb, rfl, hS3⟩
    refine ⟨_, _, rfl, ?_⟩
    refine Calls.mono (newArena hS3 (st := 0) (by simp; omega) (by simp; omega)) ?_
    rintro _ w4 ⟨a, rfl, hS4⟩
    refine ⟨_, _, rfl, ?_⟩
    refine Calls.mono (rNew hS4 (st := 0) (N := N) (by omega) (by omega)) ?_
    rintro _ w5 ⟨r, rfl, hS5⟩
    refine ⟨_, _, rfl, sel_false rfl (sel_false rfl (sel_false (by simp) ?_))⟩
    simp only [List.length_replicate] at hS5
    have hS6 := (hS5.nil 83 1).perm ((List.Perm.swap _ _ _).trans ((List.Perm.swap _ _ _).cons _))
    have hS6 : St [] w w5 (refC r 0 (List.replicate N 0) _ 0 :: arC a mb gb NIL 0 ((0 : Nat) : Int) (List.replicate N 0) _ 1 :: KK on (.slice none 0 0) [] []) := hS6
    have hS7 := hS6.perm (List.Perm.swap _ _ _)
    obtain ⟨y1, y2, y3, y4, hS8⟩ := openR (hS7.perm (List.Perm.swap _ _ _))
    have hS9 := (closeR (k := 1) y1 y2 y3 (by omega) hS8).perm (List.Perm.swap _ _ _)
    refine ⟨J7 w N a mb gb r n1, ⟨n1, rfl, 0, 1, _, _, [], rfl, by omega, by omega, by omega, by simp, rfl, fun j hj => by simp at hj, hS9⟩, ?_⟩
    clear hS1 hS2 hS3 hS4 hS5 hS6 hS7 hS8 hS9 y1 y2 y3 y4
    rintro d _ A13 n13 c13 x14 w6 rr ⟨rfl, i, k, ws, L, xs, rfl, hir, hi30, hk, hwl, hxl, hsm, hS⟩
    have hi1 : IntKind.i64.wrap ((i : Int) + 1) = ((i + 1 : Nat) : Int) := by rw [i64_id (by omega) (by omega)]; omega
    have hLl : ∀ {w'} {ws' : List Int} {L' : List B} {k' : Nat} {K}, ws'.length = N → St [] w w' (arC a mb gb NIL 0 ((0 : Nat) : Int) ws' L' k' :: K) → L'.length ≤ 4000 := by
      intro w' ws' L' k' K hw' h
      have := (okS h 0 rfl).1.len
      omega
    refine sel_of (fun hd => sel_of (fun hd30 => ?body) (fun _ => ?t1)) (fun _ => ?t2)
    case body =>
      have hi : i < n1 := by have := of_decide_eq_true hd; omega
      have hi3 : i < 30 := by have := of_decide_eq_true hd30; omega
      obtain ⟨bb, oo, rfl, hcs⟩ := h1.2 (by omega)
      have hck0 := hcs i hi
      rw [show oo + i = oo + (i : Int).toNat * 1 by simp] at hck0
      have hck := hS.frame.cell hck0
      have hz : l1.getD i 0 ≤ 9223372036854775807 := hw1 _ (by rw [List.getD_eq_getElem?_getD, List.getElem?_eq_getElem (by omega)]; exact List.getElem_mem _)
      generalize l1.getD i 0 = z at *
      rw [hi1]
      refine ⟨by omega, by omega, needPtr_of rfl ⟨_, hck, sel_of (fun hneg => ?_) (fun hneg => ?_)⟩⟩
      · refine ⟨by omega, by omega, needPtr_of rfl ⟨_, hck, ?_⟩⟩
        refine Calls.mono (rBack hS 1 rfl (by omega) _) ?_
        rintro _ w7 ⟨ad, rfl, hS7⟩
        refine ⟨_, rfl, ?_⟩
        refine Calls.mono (giveS hS7 0 rfl (by omega) (by omega) (by omega) ad) ?_
        rintro _ w8 ⟨rfl, hS8⟩
        refine ⟨_, rfl, ?_⟩
        refine Calls.mono (rGive hS8 1 rfl (by omega) ad) ?_
        rintro _ w9 ⟨rfl, hS9⟩
        refine ⟨_, rfl, ?_⟩
        have hS9 : St [] w w9 (arC a mb gb NIL 0 ((0 : Nat) : Int) (wordsG ad L ws) (nextG ad L) (k + 1) :: refC r 0 (wordsG ad L ws) (nextG ad L) k :: KK on (.slice A13 n13 c13) xs []) := hS9
        have hwl9 := wordsG_len ad L ws
        obtain ⟨y1, y2, y3, y4, hSo⟩ := openR (hS9.perm (List.Perm.swap _ _ _))
        have hS9 := (closeR (k := k + 2) y1 y2 y3 (by omega) hSo).perm (List.Perm.swap _ _ _)
        clear hSo y1 y2 y3 y4
        generalize wordsG ad L ws = ws9 at *
        generalize nextG ad L = L9 at *
        refine Calls.mono (blocksS hS9 0 rfl (by omega) (by omega) (by omega) (by omega)) ?_
        rintro _ w10 ⟨Ab, nb, cb, rfl, hS10⟩
        refine ⟨_, _, _, rfl, sel_true rfl ?_⟩
        have hS10 : St [] w w10 (slC (.slice Ab nb cb) L9 :: arC a mb gb NIL 0 ((0 : Nat) : Int) ws9 L9 (k + 1 + 1) :: refC r 0 ws9 L9 (k + 2) :: KK on (.slice A13 n13 c13) xs []) := hS10
        have hL4 := hLl (by omega) hS9
        refine Calls.mono (rBlocksS hS10 2 rfl (by omega)) ?_
        rintro _ w11 ⟨Ac, nc, cc, rfl, hS11⟩
        refine ⟨_, _, _, rfl, ?_⟩
        refine Calls.mono (hS11.step0 (sameC (rdB hS11 1 rfl) (rdB hS11 0 rfl) hL4)) ?_
        rintro _ w12 ⟨rfl, hS12⟩
        refine ⟨_, rfl, ?_⟩
        obtain ⟨Ad, nd, cd, w13, hrun, hS13⟩ := addL hS12.tail (by omega)
        exact ⟨_, _, _, _, hrun, rfl, rr - 1, by omega, rfl, i + 1, k + 2, ws9, L9, _, rfl, by omega, by omega, by omega, by omega, by simp [hxl], hsm.snoc (by intro y hy; simp at hy; subst hy; exact hL4), hS13⟩
      · refine ⟨by omega, by omega, needPtr_of rfl ⟨_, hck, ?_⟩⟩
        refine Calls.mono (takeS hS 0 rfl (by omega) (by omega) (by omega) z hz) ?_
        rintro _ w8 ⟨rfl, hS8⟩
        refine ⟨_, _, rfl, by omega, by omega, needPtr_of rfl ⟨_, hS8.frame.cell hck0, ?_⟩⟩
        refine Calls.mono (rTake hS8 1 rfl (by omega) (by omega) z) ?_
        rintro _ w9 ⟨rfl, hS9⟩
        refine ⟨_, _, rfl, ?_⟩
        have hS9 : St [] w w9 (arC a mb gb NIL 0 ((0 : Nat) : Int) (wordsT z L ws) (nextT z L) (k + 1) :: refC r 0 (wordsT z L ws) (nextT z L) (k + 1) :: KK on (.slice A13 n13 c13) xs []) := hS9
        have hwl9 := wordsT_len z L ws
        obtain ⟨y1, y2, y3, y4, hSo⟩ := openR (hS9.perm (List.Perm.swap _ _ _))
        have hS9 := (closeR (k := k + 2) y1 y2 y3 (by omega) hSo).perm (List.Perm.swap _ _ _)
        clear hSo y1 y2 y3 y4
        generalize wordsT z L ws = ws9 at *
        generalize nextT z L = L9 at *
        refine Calls.mono (blocksS hS9 0 rfl (by omega) (by omega) (by omega) (by omega)) ?_
        rintro _ w10 ⟨Ab, nb, cb, rfl, hS10⟩
        refine ⟨_, _, _, rfl, sel_true rfl ?_⟩
        have hS10 : St [] w w10 (slC (.slice Ab nb cb) L9 :: arC a mb gb NIL 0 ((0 : Nat) : Int) ws9 L9 (k + 1 + 1) :: refC r 0 ws9 L9 (k + 2) :: KK on (.slice A13 n13 c13) xs []) := hS10
        have hL4 := hLl (by omega) hS9
        refine Calls.mono (rBlocksS hS10 2 rfl (by omega)) ?_
        rintro _ w11 ⟨Ac, nc, cc, rfl, hS11⟩
        refine ⟨_, _, _, rfl, ?_⟩
        refine Calls.mono (hS11.step0 (sameC (rdB hS11 1 rfl) (rdB hS11 0 rfl) hL4)) ?_
        rintro _ w12 ⟨rfl, hS12⟩
        refine ⟨_, rfl, ?_⟩
        obtain ⟨Ad, nd, cd, w13, hrun, hS13⟩ := addL hS12.tail (by omega)
        exact ⟨_, _, _, _, hrun, rfl, rr - 1, by omega, rfl, i + 1, k + 2, ws9, L9, _, rfl, by omega, by omega, by omega, by omega, by simp [hxl], hsm.snoc (by intro y hy; simp at hy; subst hy; exact hL4), hS13⟩
    all_goals
      refine Calls.mono (blocksS hS 0 rfl (by omega) (by omega) (by omega) (by omega)) ?_
      rintro _ w10 ⟨Ab, nb, cb, rfl, hS10⟩
      refine ⟨_, _, _, rfl, ?_⟩
      have hS10 : St [] w w10 (slC (.slice Ab nb cb) L :: arC a mb gb NIL 0 ((0 : Nat) : Int) ws L (k + 1) :: refC r 0 ws L k :: KK on (.slice A13 n13 c13) xs []) := hS10
      refine Calls.mono (blocksS hS10 1 rfl (by omega) (by omega) (by omega) (by omega)) ?_
      rintro _ w11 ⟨Ac, nc, cc, rfl, hS11⟩
      refine ⟨_, _, _, rfl, sel_true rfl ?_⟩
      have hS11 : St [] w w11 (slC (.slice Ac nc cc) L :: slC (.slice Ab nb cb) L :: arC a mb gb NIL 0 ((0 : Nat) : Int) ws L (k + 1 + 1) :: refC r 0 ws L k :: KK on (.slice A13 n13 c13) xs []) := hS11
      have hL4 := hLl hwl hS
      refine Calls.mono (rBlocksS hS11 3 rfl (by omega)) ?_
      rintro _ w12 ⟨Ad, nd, cd, rfl, hS12⟩
      refine ⟨_, _, _, rfl, ?_⟩
      refine Calls.mono (hS12.step0 (sameC (rdB hS12 2 rfl) (rdB hS12 0 rfl) hL4)) ?_
      rintro _ w13 ⟨rfl, hS13⟩
      refine ⟨_, rfl, sel_true rfl ?_⟩
      refine Calls.mono (rBlocksS hS13.tail 3 rfl (by omega)) ?_
      rintro _ w14 ⟨Ae, ne, ce, rfl, hS14⟩
      refine ⟨_, _, _, rfl, ?_⟩
      refine Calls.mono (hS14.step0 (sameC (rdB hS14 1 rfl) (rdB hS14 0 rfl) hL4)) ?_
      rintro _ w15 ⟨rfl, hS15⟩
      refine ⟨_, rfl, ?_⟩
      obtain ⟨Af, nf, cf, w16, hrun, hS16⟩ := addL2 hS15.tail (by omega)
      refine ⟨_, _, _, _, hrun, ?_⟩
      have hS17 := hS16.perm (List.Perm.trans (List.perm_append_comm (l₁ := [_, _])) (List.Perm.of_eq (show _ = KK on (.slice Af nf cf) (xs ++ [⟨Ab, nb, cb, L, none, 0, 0, []⟩, ⟨Ac, nc, cc, L, none, 0, 0, []⟩]) [arC a mb gb NIL 0 ((0 : Nat) : Int) ws L (k + 1 + 1), refC r 0 ws L k] by simp [KK])))
      refine Calls.mono (grown_ hS17 (hsm.snoc (by intro y hy; simp at hy; rcases hy with rfl | rfl <;> exact hL4)) (by simp; omega)) ?_
      rintro _ w18 ⟨rfl, hS18⟩
      refine ⟨_, rfl, sel_true rfl (sel_true rfl ?_)⟩
      refine Calls.mono (blocksS hS18 0 rfl (by omega) (by omega) (by omega) (by omega)) ?_
      rintro _ w19 ⟨Ag, ng, cg, rfl, hS19⟩
      refine ⟨_, _, _, rfl, ?_⟩
      have hS19 : St [] w w19 [slC (.slice Ag ng cg) L, arC a mb gb NIL 0 ((0 : Nat) : Int) ws L (k + 1 + 1 + 1), refC r 0 ws L k] := hS19
      refine Calls.mono (rBlocksS hS19 2 rfl (by omega)) ?_
      rintro _ w20 ⟨Ah, nh, ch, rfl, hS20⟩
      refine ⟨_, _, _, rfl, ?_⟩
      refine Calls.mono (hS20.step0 (sameC (rdB hS20 1 rfl) (rdB hS20 0 rfl) hL4)) ?_
      rintro _ w21 ⟨rfl, hS21⟩
      refine ⟨_, rfl, sel_true rfl ?_⟩
      refine Calls.mono (liveS hS21 2 rfl) ?_
      rintro _ w22 ⟨rfl, hS22⟩
      refine ⟨_, rfl, ?_⟩
      refine Calls.mono (rLive hS22 3 rfl (by omega)) ?_
      rintro _ w23 ⟨rfl, hS23⟩
      exact ⟨_, rfl, by simp, hS23.frame⟩
  · rintro e w' ⟨v, rfl, rfl, h⟩; exact ⟨rfl, h⟩
end GR
end Go.Proofs.Ytebahglmdifmpaa
