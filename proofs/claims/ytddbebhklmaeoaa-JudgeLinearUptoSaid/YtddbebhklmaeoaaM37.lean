/- JudgeLinear: the walk. -/
import Derived.Test.YtddbebhklmaeoaaM32
import Derived.Test.YtddbebhklmaeoaaM36
set_option linter.unusedVariables false
set_option linter.unusedSimpArgs false
set_option maxRecDepth 10000
namespace Go.Proofs.Ytddbebhklmaeoaa
open Go Go.Proofs.Ytddbebhklmaeoaa.Vc
namespace JG
open Vc.PG JD
/-- A mark behind the calls. -/
abbrev mkD (i : Nat) : CalD := (-77, (i : Int), false, false, false, noP, (⟨#[]⟩, ⟨#[]⟩, ⟨#[]⟩, ()), ())
def mks (k : Nat) : List CalD := (List.range k).map mkD
theorem mks_snoc (k : Nat) : mks (k + 1) = mks k ++ [mkD k] := by unfold mks; rw [List.range_succ, List.map_append]; rfl
theorem rows_ints (r : List Nat) : rowsI r = (JL.ints r).map fun a => [encI a] := by simp [rowsI, JL.ints]
theorem fnd_small {p : PolD} {l : List CalD} : ∀ k ∈ fnd (ansP p l), k < 12 := by
  intro k hk
  unfold ansP at hk
  split at hk
  · rename_i he
    obtain ⟨h1, h2⟩ := fit_few he
    cases hp : JL.path (histOf p l) (0, -1) with
    | none => rw [hp] at hk; cases hk
    | some r =>
      rw [hp] at hk
      have := (JL.found_right (hist_ok h2) hp).2 k hk
      have : k < l.length := this
      omega
  · cases hk
theorem fnd_len {p : PolD} {l : List CalD} : (fnd (ansP p l)).length ≤ 12 := by
  unfold ansP
  split
  · rename_i he
    obtain ⟨h1, h2⟩ := fit_few he
    cases hp : JL.path (histOf p l) (0, -1) with
    | none => exact Nat.zero_le _
    | some r =>
      have h3 : r.length ≤ JL.left (histOf p l) 0 := path_len r hp
      have h4 : JL.left (histOf p l) 0 ≤ (List.range l.length).length := List.countP_le_length
      rw [List.length_range] at h4
      show r.length ≤ 12
      omega
  · exact Nat.zero_le _
theorem wf_small (k : Nat) (h : k ≤ 100) : (Lit.int .i64 (k : Int)).wf = true := by
  have : ∀ k : Fin 101, (Lit.int .i64 (k.1 : Int)).wf = true := by decide +kernel
  exact this ⟨k, by omega⟩
set_option maxHeartbeats 1000000 in
theorem lawLinear (haw : Awakes) {w : World} {v : PV} {x : Sl} {p : PolD} {l : List CalD} (hp : InP w v p) (hc0 : RdL calT w x l) (sp : SmallP p) (sc : SmallC l) :
    Calls Try.prog 3 #[v.v, x.v] w fun e w' => e = .returned (.bool true) ∧ Fr [] w w' := by
  refine Calls.mono (f3.calls (R := fun e w' => e = .bool true ∧ Fr [] w w') ?_) ?_
  · dsimp only [f3.VC]
    have hl : x.2.1 = l.length := hc0.1
    have hln := sc.n
    have hS := (St.start w).alloc v.cells 28
    generalize World.alloc w (.cells v.cells 28) = w1 at *
    generalize w.heap.size = b1 at *
    refine Calls.mono (hS.step0 (haw w1)) ?_
    rintro _ w2 ⟨rfl, hS⟩
    have hB := hS.blk 0 rfl
    refine ⟨_, rfl, _, _, _, hB.cell rfl, _, _, _, hB.cell rfl, _, _, _, hB.cell rfl, _, _, _, hB.cell rfl, _, _, _, hB.cell rfl, _, _, _, hB.cell rfl, _, _, _, hB.cell rfl, _, _, _, hB.cell rfl, _, _, _, hB.cell rfl, _, _, _, hB.cell rfl, _, _, _, hB.cell rfl, ?_⟩
    have hcall := linearR (hp.fr hS.frame) (hc0.fr hS.frame) sp sc
    refine Calls.mono hcall ?_
    clear hcall
    rintro _ w3 ⟨o1, rfl, hf3⟩
    have hS3 := hS.gone hf3
    refine ⟨_, _, _, _, _, rfl, ?_⟩
    have hcall := twinR (hc0.fr hS3.frame) sc
    refine Calls.mono hcall ?_
    clear hcall
    rintro _ w4 ⟨zc, rows, rfl, hf4⟩
    have hS4 := hS3.gone hf4
    generalize hRR : fnd (ansP p l) = RR at *
    replace hS4 : St [] w w4 [Chunk.sl 39 19 zc.v rows, Chunk.keep (fun w => CRows w rows l), Chunk.sl 3 1 o1.v (rowsI RR), Chunk.blk b1 v.cells 28] := hS4
    refine ⟨_, _, _, rfl, fun A n c i w' r => ∃ (k : Nat) (rk : List (List Value)), i = (k : Int) ∧ k + r = 12 ∧ St [] w w' [Chunk.sl 39 19 (.slice A n c) rk, Chunk.keep (fun w => CRows w rk (l ++ mks k)), Chunk.sl 3 1 o1.v (rowsI RR), Chunk.blk b1 v.cells 28],
      ⟨12, 0, rows, rfl, rfl, by rw [show l ++ mks 0 = l by simp [mks]]; exact hS4⟩, ?_⟩
    clear hS hB hS3 hS4 hf3 hf4
    rintro d A n c i w5 r ⟨k, rk, rfl, hk, hS⟩
    refine sel_of (fun hd => ?_) (fun hd => ?_)
    · have hi : k < 12 := by have := of_decide_eq_true hd; omega
      have hrl : rk.length = l.length + k := by rw [(hS.says 1 rfl).1]; simp [mks]
      obtain ⟨A', n', c', w7, hrun, hS7⟩ := appCal hS 0 rfl (mkD k) nilPV (by omega)
      rw [inc k 100 (by omega) (by omega)]
      refine ⟨_, _, _, w7, hrun, rfl, r - 1, by omega, k + 1, rk ++ [calV (mkD k) nilPV], rfl, by omega, ?_⟩
      have hS8 := hS7.keep 1 rfl (fun w => CRows w (rk ++ [calV (mkD k) nilPV]) (l ++ mks (k + 1))) (fun F w' hw => by
        have := (Chunk.keep_says hw).snoc (c := mkD k) (rd_call.2 ⟨nilPV, rfl, nil_pol, by kernel_rfl, wf_small k (by omega)⟩)
        rw [mks_snoc, ← List.append_assoc]
        exact this)
      exact hS8
    · have hi : k = 12 := by have := of_decide_eq_false hd; omega
      subst hi
      have hsmall : ∀ a ∈ JL.ints RR, (Lit.int .i64 a).wf = true := by
        intro a ha
        obtain ⟨q, hq, rfl⟩ := List.mem_map.1 ha
        rw [← hRR] at hq
        have := fnd_small q hq
        exact wf_small q (by omega)
      have hints : ∀ (w' : World) (L : List Chunk) (i : Nat) (o : Sl), St [] w w' L → L[i]? = some (Chunk.sl 3 1 o.v (rowsI RR)) → RdL (.int .i64) w' o (JL.ints RR) := fun w' L i o h hi => by
        obtain ⟨F, hF, _⟩ := h.at i hi
        rw [rows_ints] at hF
        exact ints_read hF hsmall
      have hmine : ∀ (w' : World) (L : List Chunk) (i : Nat), St [] w w' L → L[i]? = some (Chunk.sl 39 19 (.slice A n c) rk) → L[i + 1]? = some (Chunk.keep (fun w => CRows w rk (l ++ mks 12))) → RdL calT w' (A, n, c) (l ++ mks 12) ∧ RdL calT w' (A, x.2.1, c) l := fun w' L i h h1 h2 => by
        obtain ⟨F, hF, _⟩ := h.at i h1
        have hr := crows_read (z := (A, n, c)) hF (h.says (i + 1) h2)
        have hn : n = l.length + 12 := by have := hr.1; simp [mks] at this; exact this
        have ht := hr.take (q := x.2.1) (by show x.2.1 ≤ n; omega)
        rw [hl, List.take_left' rfl, ← hl] at ht
        exact ⟨hr, ht⟩
      have hcap := (hmine w5 _ 0 hS rfl rfl).2.2.1
      have hB := hS.blk 3 rfl
      refine ⟨by omega, by have : x.2.1 ≤ c := hcap; omega, _, _, _, hB.cell rfl, _, _, _, hB.cell rfl, _, _, _, hB.cell rfl, _, _, _, hB.cell rfl, _, _, _, hB.cell rfl, _, _, _, hB.cell rfl, _, _, _, hB.cell rfl, _, _, _, hB.cell rfl, _, _, _, hB.cell rfl, _, _, _, hB.cell rfl, _, _, _, hB.cell rfl, ?_⟩
      have hcall := copyR (hp.fr hS.frame) sp
      refine Calls.mono hcall ?_
      clear hcall
      rintro _ w8 ⟨u, rfl, hf8⟩
      have hS8 := hS.gone hf8
      have hu8 : InP w8 u p := hS8.says 0 rfl
      have hS9 := hS8.alloc #[.slice none 0 0, .slice none 0 0, .slice none 0 0, .slice none 0 0, .slice none 0 0, .slice none 0 0, .slice none 0 0, .slice none 0 0, .slice none 0 0, .slice none 0 0, .slice none 0 0] 28
      have hS10 := hS9.over 0 rfl u.l rfl
      have hu := hS10.says 1 rfl
      refine ⟨_, _, _, _, _, _, _, _, _, _, _, _, _, _, _, _, _, _, _, _, _, _, _, _, _, _, _, _, _, _, _, _, _, rfl, (hS9.blk 0 rfl).can (by simp), ?_⟩
      generalize World.alloc w8 (.cells #[.slice none 0 0, .slice none 0 0, .slice none 0 0, .slice none 0 0, .slice none 0 0, .slice none 0 0, .slice none 0 0, .slice none 0 0, .slice none 0 0, .slice none 0 0, .slice none 0 0] 28) = w9 at *
      generalize w8.heap.size = b5 at *
      change St [] w (setCs w9 b5 0 [.slice u.a.1 u.a.2.1 u.a.2.2, .slice u.s.1 u.s.2.1 u.s.2.2, .slice u.r.1 u.r.2.1 u.r.2.2, .slice u.o.1 u.o.2.1 u.o.2.2, .slice u.g.1 u.g.2.1 u.g.2.2, .slice u.m.1 u.m.2.1 u.m.2.2, .slice u.i.1 u.i.2.1 u.i.2.2, .slice u.q.1 u.q.2.1 u.q.2.2, .slice u.t.1 u.t.2.1 u.t.2.2, .slice u.u.1 u.u.2.1 u.u.2.2, .slice u.e.1 u.e.2.1 u.e.2.2]) _ at hS10
      change InP (setCs w9 b5 0 [.slice u.a.1 u.a.2.1 u.a.2.2, .slice u.s.1 u.s.2.1 u.s.2.2, .slice u.r.1 u.r.2.1 u.r.2.2, .slice u.o.1 u.o.2.1 u.o.2.2, .slice u.g.1 u.g.2.1 u.g.2.2, .slice u.m.1 u.m.2.1 u.m.2.2, .slice u.i.1 u.i.2.1 u.i.2.2, .slice u.q.1 u.q.2.1 u.q.2.2, .slice u.t.1 u.t.2.1 u.t.2.2, .slice u.u.1 u.u.2.1 u.u.2.2, .slice u.e.1 u.e.2.1 u.e.2.2]) u p at hu
      generalize setCs w9 b5 0 [.slice u.a.1 u.a.2.1 u.a.2.2, .slice u.s.1 u.s.2.1 u.s.2.2, .slice u.r.1 u.r.2.1 u.r.2.2, .slice u.o.1 u.o.2.1 u.o.2.2, .slice u.g.1 u.g.2.1 u.g.2.2, .slice u.m.1 u.m.2.1 u.m.2.2, .slice u.i.1 u.i.2.1 u.i.2.2, .slice u.q.1 u.q.2.1 u.q.2.2, .slice u.t.1 u.t.2.1 u.t.2.2, .slice u.u.1 u.u.2.1 u.u.2.2, .slice u.e.1 u.e.2.1 u.e.2.2] = w10 at *
      replace hS10 : St [] w w10 [Chunk.blk b5 u.cells 28, kP u p, Chunk.sl 39 19 (.slice A n c) rk, Chunk.keep (fun w => CRows w rk (l ++ mks 12)), Chunk.sl 3 1 o1.v (rowsI RR), Chunk.blk b1 v.cells 28] := hS10
      have hB := hS10.blk 0 rfl
      refine ⟨_, _, _, hB.cell rfl, _, _, _, hB.cell rfl, _, _, _, hB.cell rfl, _, _, _, hB.cell rfl, _, _, _, hB.cell rfl, _, _, _, hB.cell rfl, _, _, _, hB.cell rfl, _, _, _, hB.cell rfl, _, _, _, hB.cell rfl, _, _, _, hB.cell rfl, _, _, _, hB.cell rfl, ?_⟩
      have hcall := linearC hu (hmine w10 _ 2 hS10 rfl rfl).2 sp sc
      refine Calls.mono hcall ?_
      clear hcall
      rintro _ w11 ⟨o2, rfl, hf11⟩
      rw [hRR] at hf11
      have hS11 : St [] w w11 (Chunk.sl 3 1 o2.v (rowsI RR) :: Chunk.blk b5 u.cells 28 :: kP u p :: Chunk.sl 39 19 (.slice A n c) rk :: Chunk.keep (fun w => CRows w rk (l ++ mks 12)) :: Chunk.sl 3 1 o1.v (rowsI RR) :: Chunk.blk b1 v.cells 28 :: []) := hS10.gone hf11
      have hlenR : (JL.ints RR).length ≤ 1000000000 := by
        have := fnd_len (p := p) (l := l)
        rw [hRR] at this
        simp [JL.ints]; omega
      refine ⟨_, _, _, _, _, rfl, fun b w' => b = true ∧ St [] w w' (Chunk.sl 3 1 o2.v (rowsI RR) :: Chunk.blk b5 u.cells 28 :: kP u p :: Chunk.sl 39 19 (.slice A n c) rk :: Chunk.keep (fun w => CRows w rk (l ++ mks 12)) :: Chunk.sl 3 1 o1.v (rowsI RR) :: Chunk.blk b1 v.cells 28 :: []), sel_true (beq_self_eq_true _) (sel_true (beq_self_eq_true _) ?_), ?_⟩
      · have hcall := intsSame (l := JL.ints RR) (k := JL.ints RR) (hints w11 _ 0 o2 hS11 rfl) (hints w11 _ 5 o1 hS11 rfl) hlenR
        refine Calls.mono hcall ?_
        rintro _ w12 ⟨rfl, hf12⟩
        exact ⟨_, rfl, rfl, decide_eq_true rfl, hS11.go hf12⟩
      rintro _ b16 w13 ⟨rfl, hS13⟩
      have hB := hS13.blk 1 rfl
      refine ⟨_, _, _, hB.cell rfl, _, _, _, hB.cell rfl, _, _, _, hB.cell rfl, _, _, _, hB.cell rfl, _, _, _, hB.cell rfl, _, _, _, hB.cell rfl, _, _, _, hB.cell rfl, _, _, _, hB.cell rfl, _, _, _, hB.cell rfl, _, _, _, hB.cell rfl, _, _, _, hB.cell rfl, ?_⟩
      have hcall := linearC (hS13.says 2 rfl : InP w13 u p) (hmine w13 _ 3 hS13 rfl rfl).2 sp sc
      refine Calls.mono hcall ?_
      clear hcall
      rintro _ w14 ⟨o3, rfl, hf14⟩
      rw [hRR] at hf14
      have hS14 : St [] w w14 (Chunk.sl 3 1 o3.v (rowsI RR) :: Chunk.sl 3 1 o2.v (rowsI RR) :: Chunk.blk b5 u.cells 28 :: kP u p :: Chunk.sl 39 19 (.slice A n c) rk :: Chunk.keep (fun w => CRows w rk (l ++ mks 12)) :: Chunk.sl 3 1 o1.v (rowsI RR) :: Chunk.blk b1 v.cells 28 :: []) := hS13.gone hf14
      refine ⟨_, _, _, _, _, rfl, fun b w' => b = true ∧ St [] w w' (Chunk.sl 3 1 o3.v (rowsI RR) :: Chunk.sl 3 1 o2.v (rowsI RR) :: Chunk.blk b5 u.cells 28 :: kP u p :: Chunk.sl 39 19 (.slice A n c) rk :: Chunk.keep (fun w => CRows w rk (l ++ mks 12)) :: Chunk.sl 3 1 o1.v (rowsI RR) :: Chunk.blk b1 v.cells 28 :: []), sel_true (beq_self_eq_true _) (sel_true (beq_self_eq_true _) ?_), ?_⟩
      · have hcall := intsSame (l := JL.ints RR) (k := JL.ints RR) (hints w14 _ 0 o3 hS14 rfl) (hints w14 _ 6 o1 hS14 rfl) hlenR
        refine Calls.mono hcall ?_
        rintro _ w15 ⟨rfl, hf15⟩
        exact ⟨_, rfl, rfl, decide_eq_true rfl, hS14.go hf15⟩
      rintro _ b19 w16 ⟨rfl, hS16⟩
      have hS17 := (hS16.sel [1, 0, 4, 5, 6] (by decide) (Chunk.sl 3 1 o2.v (rowsI RR) :: Chunk.sl 3 1 o3.v (rowsI RR) :: Chunk.sl 39 19 (.slice A n c) rk :: Chunk.keep (fun w => CRows w rk (l ++ mks 12)) :: Chunk.sl 3 1 o1.v (rowsI RR) :: []) rfl).as 0 rfl (Chunk.ls encI 3 o2.v (JL.ints RR)) (fun F hF => by rw [rows_ints] at hF; exact hF)
      have ho2 := hS16.slLen 1 rfl
      have hRl : (rowsI RR).length = RR.length := by simp [rowsI]
      rw [hRl] at ho2
      refine ⟨fun i w' r => ∃ (k : Nat) (Q : List Int), i = (k : Int) ∧ k + r = o2.2.1 ∧ Q.length = RR.length ∧ St [] w w' (Chunk.ls encI 3 o2.v Q :: Chunk.sl 3 1 o3.v (rowsI RR) :: Chunk.sl 39 19 (.slice A n c) rk :: Chunk.keep (fun w => CRows w rk (l ++ mks 12)) :: Chunk.sl 3 1 o1.v (rowsI RR) :: []), ⟨o2.2.1, 0, JL.ints RR, rfl, by omega, by simp [JL.ints], hS17⟩, ?_⟩
      clear hS17 hS16 hS14 hS13 hS11
      have hRR12 : RR.length ≤ 12 := by
        have := fnd_len (p := p) (l := l)
        rwa [hRR] at this
      rintro d i w17 r ⟨k, Q, rfl, hk, hQ, hS⟩
      refine sel_of (fun hd => ?_) (fun hd => ?_)
      · have hi : k < o2.2.1 := by have := of_decide_eq_true hd; omega
        obtain ⟨g, e1, hcan, hS2⟩ := hS.lsSet 0 rfl (k := k) (by omega) (-9)
        have ez : 0 + (k : Int).toNat * 1 = k := by simp
        rw [inc k 100 (by omega) (by omega)]
        refine ⟨by omega, by omega, needPtr_of e1 ⟨by rw [ez]; exact hcan, ?_⟩⟩
        rw [ez]
        exact ⟨rfl, r - 1, by omega, k + 1, _, rfl, by omega, by rw [List.length_set]; exact hQ, hS2⟩
      refine ⟨fun A' n' c' i w' r => ∃ (k : Nat) (Q : List Int), i = (k : Int) ∧ k + r = 20 ∧ Q.length = RR.length + k ∧ St [] w w' (Chunk.ls encI 3 (.slice A' n' c') Q :: Chunk.sl 3 1 o3.v (rowsI RR) :: Chunk.sl 39 19 (.slice A n c) rk :: Chunk.keep (fun w => CRows w rk (l ++ mks 12)) :: Chunk.sl 3 1 o1.v (rowsI RR) :: []), ⟨20, 0, Q, rfl, rfl, hQ, hS⟩, ?_⟩
      clear hS hQ hk hd
      rintro d A7 n7 c7 i w19 r ⟨k, Q, rfl, hk, hQ, hS⟩
      refine sel_of (fun hd => ?_) (fun hd => ?_)
      · have hi : k < 20 := by have := of_decide_eq_true hd; omega
        obtain ⟨ti, i1, i2, i3, i4⟩ := info3'
        obtain ⟨g, cap, w21, hrun, hS2⟩ := St.app (ty := 31) (enc := encI) (fun _ => rfl) under31 i1 i2 i3 rfl (by rw [i4]; decide) hS 0 rfl (-8) (by omega)
        rw [inc k 100 (by omega) (by omega)]
        exact ⟨_, _, _, w21, hrun, rfl, r - 1, by omega, k + 1, _, rfl, by omega, by rw [List.length_append, hQ]; rfl, hS2⟩
      have hn7 := hS.lsLen 0 rfl
      have hk20 : k = 20 := by have := of_decide_eq_false hd; omega
      refine ⟨fun b w' => b = true ∧ St [] w w' (Chunk.sl 39 19 (.slice A n c) rk :: Chunk.keep (fun w => CRows w rk (l ++ mks 12)) :: []), ?_, ?_⟩
      · have hcall := intsSame (l := JL.ints RR) (k := JL.ints RR) (hints w19 _ 1 o3 hS rfl) (hints w19 _ 4 o1 hS rfl) hlenR
        refine Calls.mono hcall ?_
        rintro _ w22 ⟨rfl, hf22⟩
        have hS22 := (hS.go hf22).sel [2, 3] (by decide) (Chunk.sl 39 19 (.slice A n c) rk :: Chunk.keep (fun w => CRows w rk (l ++ mks 12)) :: []) rfl
        have ew : IntKind.i64.wrap ((o2.2.1 : Int) + 20) = ((RR.length + 20 : Nat) : Int) := by rw [i64_id (by omega) (by omega)]; omega
        refine ⟨_, rfl, sel_true (decide_eq_true rfl) ?_⟩
        rw [ew]
        exact ⟨rfl, by rw [beq_iff_eq]; omega, hS22⟩
      rintro _ b23 w23 ⟨rfl, hS23⟩
      have hmarks := (hmine w23 _ 0 hS23 rfl rfl).1
      have hn : n = l.length + 12 := by have := hmarks.1; simp [mks] at this; exact this
      refine ⟨fun b i w' r => b = true ∧ St [] w w' (Chunk.sl 39 19 (.slice A n c) rk :: Chunk.keep (fun w => CRows w rk (l ++ mks 12)) :: []) ∧ ∃ k : Nat, i = (k : Int) ∧ k + r = 12, ⟨12, rfl, hS23, 0, rfl, rfl⟩, ?_⟩
      clear hmarks hS23 hS hn7 hk20 hd
      rintro d b i w24 r ⟨rfl, hS, k, rfl, hk⟩
      refine sel_of (fun hd => sel_true rfl ?_) (fun hd => ?_)
      · have hi : k < 12 := by have := of_decide_eq_true hd; omega
        obtain ⟨bb, oo, hA, hc⟩ := RdL.call (hmine w24 _ 0 hS rfl rfl).1 (by show 0 < n; omega)
        obtain ⟨vq, _, _, _, hc⟩ := hc (l.length + k) (by show l.length + k < n; omega)
        have hget : (l ++ mks 12).getD (l.length + k) cd = mkD k := by
          rw [List.getD_eq_getElem?_getD, List.getElem?_append_right (by omega), Nat.add_sub_cancel_left]
          unfold mks
          rw [List.getElem?_map, List.getElem?_range hi]; rfl
        rw [hget] at hc
        have ew : IntKind.i64.wrap ((x.2.1 : Int) + (k : Int)) = ((l.length + k : Nat) : Int) := by rw [i64_id (by omega) (by omega)]; omega
        rw [ew, inc k 100 (by omega) (by omega)]
        exact ⟨by omega, by omega, needPtr_of hA ⟨_, hc 0 _ rfl, sel_true rfl ⟨by omega, by omega, needPtr_of hA ⟨_, hc 1 _ rfl, rfl, r - 1, by omega, beq_self_eq_true _, hS, k + 1, rfl, by omega⟩⟩⟩⟩
      refine ⟨fun b i w' r => ∃ k : Nat, i = (k : Int) ∧ k + r = x.2.1 ∧ (b = true ↔ ∀ a, a < k → SaneP (cPol (l.getD a cd))) ∧ St [] w w' (Chunk.sl 39 19 (.slice A n c) rk :: Chunk.keep (fun w => CRows w rk (l ++ mks 12)) :: []), ⟨x.2.1, 0, rfl, by omega, ⟨fun _ a ha => by omega, fun _ => rfl⟩, hS⟩, ?_⟩
      clear hS hk hd
      rintro d b i w25 r ⟨k, rfl, hk, hb, hS⟩
      have hup : ∀ q, q < k + 1 → q < k ∨ q = k := fun q hq => by omega
      refine sel_of (fun hd => ?_) (fun hd => ?_)
      · have hi : k < x.2.1 := by have := of_decide_eq_true hd; omega
        rw [inc k x.2.1 (by omega) (by omega)]
        refine sel_of (fun h1 => ?_) (fun h1 => ⟨rfl, r - 1, by omega, k + 1, rfl, by omega, ⟨(fun h => by cases h), fun h => ?_⟩, hS⟩)
        · obtain ⟨bb, oo, hA, hc⟩ := RdL.call hc0 (by omega)
          obtain ⟨vk, hvk, _, _, hc1⟩ := hc k hi
          have hc := fun j y h => hS.frame.cell (hc1 j y h)
          have hcall := step0' hS (saneR (hvk.fr hS.frame) (sc.p _ ((mem_getD cd _ _).2 ⟨k, by omega, rfl⟩)))
          refine ⟨by omega, by omega, needPtr_of hA ⟨_, _, _, hc 5 _ rfl, _, _, _, hc 6 _ rfl, _, _, _, hc 7 _ rfl, _, _, _, hc 8 _ rfl, _, _, _, hc 9 _ rfl, _, _, _, hc 10 _ rfl, _, _, _, hc 11 _ rfl, _, _, _, hc 12 _ rfl, _, _, _, hc 13 _ rfl, _, _, _, hc 14 _ rfl, _, _, _, hc 15 _ rfl, ?_⟩⟩
          refine Calls.mono hcall ?_
          rintro _ w26 ⟨m, rfl, hm, hS26⟩
          exact ⟨_, rfl, rfl, r - 1, by omega, k + 1, rfl, by omega, ⟨fun h a ha => (hup a ha).elim (hb.1 h1 a) (fun e => by rw [e]; exact hm.1 h), fun h => hm.2 (h k (by omega))⟩, hS26⟩
        · rw [hb.2 fun a ha => h a (by omega)] at h1; cases h1
      have hkl : k = l.length := by have := of_decide_eq_false hd; omega
      refine ⟨fun b w' => b = true ∧ Fr [] w w', sel_of (fun h1 => ⟨rfl, rfl, hS.frame⟩) (fun h1 => ?_), ?_⟩
      · have h1 : b = true := by simpa using h1
        have hcall := step0' hS (callsSame (hmine w25 _ 0 hS rfl rfl).2 (hc0.fr hS.frame) sc)
        refine Calls.mono hcall ?_
        rintro _ w27 ⟨m, rfl, hm, hS27⟩
        refine ⟨_, rfl, rfl, hm.2 fun c hc => ?_, hS27.frame⟩
        obtain ⟨q, hq, rfl⟩ := (mem_getD cd _ _).1 hc
        exact hb.1 h1 q (by omega)
      · rintro _ b25 w28 ⟨rfl, hf⟩
        exact sel_true rfl (sel_true rfl (sel_true rfl (sel_true rfl ⟨rfl, hf⟩)))
  · rintro e w' ⟨v, rfl, rfl, h⟩; exact ⟨rfl, h⟩
end JG
end Go.Proofs.Ytddbebhklmaeoaa
