/-
  CREW: the walk of (*sync.WaitGroup).Done, deferred: the last one, where goroutine 0 waits; the whole.
-/
import Derived.Test.YtplndihadjfliaaM5
import Derived.Conc.WgGenAddNeg
set_option linter.unusedSimpArgs false
set_option linter.unusedVariables false
set_option maxHeartbeats 8000000
namespace Go.Proofs.Ytplndihadjfliaa.Mix
open Go Go.Conc Go.ConcN Go.Proofs
open Go.ConcR (KK wgBlock WgAt stA smA rd wr)

section
variable (T : List Nat) (Wg : Nat) {c : Frame} {cs : List Frame}

set_option maxRecDepth 100000 in
/-- THE LAST ONE's WAY. -/
theorem last_way (hcm : c.mode = .returning) (hT : QE Try.prog 0 (G c cs)) (w : World) : FollowW Try.prog zi (47, true) Wg T 1 [.ldl, .clr, .rls] (dec33 Wg c cs 1) w := by
  refine followW_of (n := 150) ?_
  have hD : DWp T .ldl = D0 := by simp [DWp, Pr.quiet]
  rw [hD]
  clear hD
  simp only [dec33, ops39, ops23, ops33, tail23, body39, body23, body33, Try.f39, Try.f23, Try.f33, Option.getD_some]
  (refine goes_vn (termsD0 _ _ _) (.int .u64 1) rfl rfl (by decide) (fun _ => by go_simp; try (first | omega | (w_num; omega) | w_num | decide)) (fun _ => by simp [go_sem, *]) (fun _ h₁ => ?_); clear h₁; (try walk_nrm))
  (repeat (first | ((with_reducible first | refine goes_rend ?_ ?_ | refine goes_sq ?_ ?_ | refine goes_sk ?_ ?_ | refine goes_bl ?_ ?_ | refine goes_lo ?_ ?_ | refine goes_ib ?_ ?_ | refine goes_il ?_ ?_ | refine goes_rt ?_ ?_ | refine goes_en ?_ ?_); exact termsD0 _ _ _; intro _ h₁; clear h₁) | (with_reducible refine goes_rg ?_ ?_; exact termsD0 _ _ _; intro _ h₁; clear h₁; simp only [List.size_toArray, List.length_cons, List.length_nil, Nat.reduceAdd, Nat.zero_add, List.range, List.range.loop])))
  (refine goes_l1 (termsD0 _ _ _) rfl rfl Try.func33 (by simp only [Try.f33]; rfl) (fun _ h₁ => ?_); clear h₁; (try walk_nrm))
  (repeat (first | ((with_reducible first | refine goes_rend ?_ ?_ | refine goes_sq ?_ ?_ | refine goes_sk ?_ ?_ | refine goes_bl ?_ ?_ | refine goes_lo ?_ ?_ | refine goes_ib ?_ ?_ | refine goes_il ?_ ?_ | refine goes_rt ?_ ?_ | refine goes_en ?_ ?_); exact termsD0 _ _ _; intro _ h₁; clear h₁) | (with_reducible refine goes_rg ?_ ?_; exact termsD0 _ _ _; intro _ h₁; clear h₁; simp only [List.size_toArray, List.length_cons, List.length_nil, Nat.reduceAdd, Nat.zero_add, List.range, List.range.loop])))
  (refine goes_vn (termsD0 _ _ _) (.int .u64 1) rfl rfl (by decide) (fun _ => by go_simp; try (first | omega | (w_num; omega) | w_num | decide)) (fun _ => by simp [go_sem, *]) (fun _ h₁ => ?_); clear h₁; (try walk_nrm))
  (repeat (first | ((with_reducible first | refine goes_rend ?_ ?_ | refine goes_sq ?_ ?_ | refine goes_sk ?_ ?_ | refine goes_bl ?_ ?_ | refine goes_lo ?_ ?_ | refine goes_ib ?_ ?_ | refine goes_il ?_ ?_ | refine goes_rt ?_ ?_ | refine goes_en ?_ ?_); exact termsD0 _ _ _; intro _ h₁; clear h₁) | (with_reducible refine goes_rg ?_ ?_; exact termsD0 _ _ _; intro _ h₁; clear h₁; simp only [List.size_toArray, List.length_cons, List.length_nil, Nat.reduceAdd, Nat.zero_add, List.range, List.range.loop])))
  (refine goes_vn (termsD0 _ _ _) (.int .u64 1) rfl rfl (by decide) (fun _ => by go_simp; try (first | omega | (w_num; omega) | w_num | decide)) (fun _ => by simp [go_sem, *]) (fun _ h₁ => ?_); clear h₁; (try walk_nrm))
  (refine goes_vn (termsD0 _ _ _) (.int .u64 0) rfl rfl (by decide) (fun _ => by go_simp; try (first | omega | (w_num; omega) | w_num | decide)) (fun _ => by simp [go_sem, *]) (fun _ h₁ => ?_); clear h₁; (try walk_nrm))
  (refine goes_vn (termsD0 _ _ _) (.bool false) rfl rfl (by decide) (fun _ => by go_simp; try (first | omega | (w_num; omega) | w_num | decide)) (fun _ => by simp [go_sem, *]) (fun _ h₁ => ?_); clear h₁; (try walk_nrm))
  (refine goes_vn (termsD0 _ _ _) (.bool false) rfl rfl (by decide) (fun _ => by go_simp; try (first | omega | (w_num; omega) | w_num | decide)) (fun _ => by simp [go_sem, *]) (fun _ h₁ => ?_); clear h₁; (try walk_nrm))
  (refine goes_un (termsD0 _ _ _) rfl rfl (fun _ h₁ => ?_); clear h₁; (try walk_nrm))
  (refine goes_un (termsD0 _ _ _) rfl rfl (fun _ h₁ => ?_); clear h₁; (try walk_nrm))
  (refine goes_vn (termsD0 _ _ _) (.bool false) rfl rfl (by decide) (fun _ => by go_simp; try (first | omega | (w_num; omega) | w_num | decide)) (fun _ => by simp [go_sem, *]) (fun _ h₁ => ?_); clear h₁; (try walk_nrm))
  (repeat (first | ((with_reducible first | refine goes_rend ?_ ?_ | refine goes_sq ?_ ?_ | refine goes_sk ?_ ?_ | refine goes_bl ?_ ?_ | refine goes_lo ?_ ?_ | refine goes_ib ?_ ?_ | refine goes_il ?_ ?_ | refine goes_rt ?_ ?_ | refine goes_en ?_ ?_); exact termsD0 _ _ _; intro _ h₁; clear h₁) | (with_reducible refine goes_rg ?_ ?_; exact termsD0 _ _ _; intro _ h₁; clear h₁; simp only [List.size_toArray, List.length_cons, List.length_nil, Nat.reduceAdd, Nat.zero_add, List.range, List.range.loop])))
  (refine goes_cd (termsD0 _ _ _) false rfl (fun _ h₁ => ?_); clear h₁; simp only [if_true, if_false, Bool.false_eq_true, ↓reduceIte])
  (repeat (first | ((with_reducible first | refine goes_rend ?_ ?_ | refine goes_sq ?_ ?_ | refine goes_sk ?_ ?_ | refine goes_bl ?_ ?_ | refine goes_lo ?_ ?_ | refine goes_ib ?_ ?_ | refine goes_il ?_ ?_ | refine goes_rt ?_ ?_ | refine goes_en ?_ ?_); exact termsD0 _ _ _; intro _ h₁; clear h₁) | (with_reducible refine goes_rg ?_ ?_; exact termsD0 _ _ _; intro _ h₁; clear h₁; simp only [List.size_toArray, List.length_cons, List.length_nil, Nat.reduceAdd, Nat.zero_add, List.range, List.range.loop])))
  (refine goes_vn (termsD0 _ _ _) (.int .u64 1) rfl rfl (by decide) (fun _ => by go_simp; try (first | omega | (w_num; omega) | w_num | decide)) (fun _ => by simp [go_sem, *]) (fun _ h₁ => ?_); clear h₁; (try walk_nrm))
  (refine goes_vn (termsD0 _ _ _) (.int .u64 0) rfl rfl (by decide) (fun _ => by go_simp; try (first | omega | (w_num; omega) | w_num | decide)) (fun _ => by simp [go_sem, *]) (fun _ h₁ => ?_); clear h₁; (try walk_nrm))
  (refine goes_vn (termsD0 _ _ _) (.int .i32 0) rfl rfl (by decide) (fun _ => by go_simp; try (first | omega | (w_num; omega) | w_num | decide)) (fun _ => by simp [go_sem, *]) (fun _ h₁ => ?_); clear h₁; (try walk_nrm))
  (refine goes_vn (termsD0 _ _ _) (.int .i32 0) rfl rfl (by decide) (fun _ => by go_simp; try (first | omega | (w_num; omega) | w_num | decide)) (fun _ => by simp [go_sem, *]) (fun _ h₁ => ?_); clear h₁; (try walk_nrm))
  (repeat (first | ((with_reducible first | refine goes_rend ?_ ?_ | refine goes_sq ?_ ?_ | refine goes_sk ?_ ?_ | refine goes_bl ?_ ?_ | refine goes_lo ?_ ?_ | refine goes_ib ?_ ?_ | refine goes_il ?_ ?_ | refine goes_rt ?_ ?_ | refine goes_en ?_ ?_); exact termsD0 _ _ _; intro _ h₁; clear h₁) | (with_reducible refine goes_rg ?_ ?_; exact termsD0 _ _ _; intro _ h₁; clear h₁; simp only [List.size_toArray, List.length_cons, List.length_nil, Nat.reduceAdd, Nat.zero_add, List.range, List.range.loop])))
  (refine goes_vn (termsD0 _ _ _) (.int .u64 1) rfl rfl (by decide) (fun _ => by go_simp; try (first | omega | (w_num; omega) | w_num | decide)) (fun _ => by simp [go_sem, *]) (fun _ h₁ => ?_); clear h₁; (try walk_nrm))
  (refine goes_vn (termsD0 _ _ _) (.int .u64 1) rfl rfl (by decide) (fun _ => by go_simp; try (first | omega | (w_num; omega) | w_num | decide)) (fun _ => by simp [go_sem, *]) (fun _ h₁ => ?_); clear h₁; (try walk_nrm))
  (refine goes_vn (termsD0 _ _ _) (.int .u32 1) rfl rfl (by decide) (fun _ => by go_simp; try (first | omega | (w_num; omega) | w_num | decide)) (fun _ => by simp [go_sem, *]) (fun _ h₁ => ?_); clear h₁; (try walk_nrm))
  (refine goes_vn (termsD0 _ _ _) (.int .u32 1) rfl rfl (by decide) (fun _ => by go_simp; try (first | omega | (w_num; omega) | w_num | decide)) (fun _ => by simp [go_sem, *]) (fun _ h₁ => ?_); clear h₁; (try walk_nrm))
  (repeat (first | ((with_reducible first | refine goes_rend ?_ ?_ | refine goes_sq ?_ ?_ | refine goes_sk ?_ ?_ | refine goes_bl ?_ ?_ | refine goes_lo ?_ ?_ | refine goes_ib ?_ ?_ | refine goes_il ?_ ?_ | refine goes_rt ?_ ?_ | refine goes_en ?_ ?_); exact termsD0 _ _ _; intro _ h₁; clear h₁) | (with_reducible refine goes_rg ?_ ?_; exact termsD0 _ _ _; intro _ h₁; clear h₁; simp only [List.size_toArray, List.length_cons, List.length_nil, Nat.reduceAdd, Nat.zero_add, List.range, List.range.loop])))
  (refine goes_vn (termsD0 _ _ _) (.bool true) rfl rfl (by decide) (fun _ => by go_simp; try (first | omega | (w_num; omega) | w_num | decide)) (fun _ => by simp [go_sem, *]) (fun _ h₁ => ?_); clear h₁; (try walk_nrm))
  (refine goes_vn (termsD0 _ _ _) (.int .i64 (-1)) rfl rfl (by decide) (fun _ => by go_simp; try (first | omega | (w_num; omega) | w_num | decide)) (fun _ => by simp [go_sem, *]) (fun _ h₁ => ?_); clear h₁; (try walk_nrm))
  (refine goes_vn (termsD0 _ _ _) (.bool false) rfl rfl (by decide) (fun _ => by go_simp; try (first | omega | (w_num; omega) | w_num | decide)) (fun _ => by simp [go_sem, *]) (fun _ h₁ => ?_); clear h₁; (try walk_nrm))
  (refine goes_vn (termsD0 _ _ _) (.bool false) rfl rfl (by decide) (fun _ => by go_simp; try (first | omega | (w_num; omega) | w_num | decide)) (fun _ => by simp [go_sem, *]) (fun _ h₁ => ?_); clear h₁; (try walk_nrm))
  (refine goes_vn (termsD0 _ _ _) (.bool false) rfl rfl (by decide) (fun _ => by go_simp; try (first | omega | (w_num; omega) | w_num | decide)) (fun _ => by simp [go_sem, *]) (fun _ h₁ => ?_); clear h₁; (try walk_nrm))
  (refine goes_un (termsD0 _ _ _) rfl rfl (fun _ h₁ => ?_); clear h₁; (try walk_nrm))
  (refine goes_un (termsD0 _ _ _) rfl rfl (fun _ h₁ => ?_); clear h₁; (try walk_nrm))
  (refine goes_un (termsD0 _ _ _) rfl rfl (fun _ h₁ => ?_); clear h₁; (try walk_nrm))
  (refine goes_un (termsD0 _ _ _) rfl rfl (fun _ h₁ => ?_); clear h₁; (try walk_nrm))
  (refine goes_vn (termsD0 _ _ _) (.bool false) rfl rfl (by decide) (fun _ => by go_simp; try (first | omega | (w_num; omega) | w_num | decide)) (fun _ => by simp [go_sem, *]) (fun _ h₁ => ?_); clear h₁; (try walk_nrm))
  (repeat (first | ((with_reducible first | refine goes_rend ?_ ?_ | refine goes_sq ?_ ?_ | refine goes_sk ?_ ?_ | refine goes_bl ?_ ?_ | refine goes_lo ?_ ?_ | refine goes_ib ?_ ?_ | refine goes_il ?_ ?_ | refine goes_rt ?_ ?_ | refine goes_en ?_ ?_); exact termsD0 _ _ _; intro _ h₁; clear h₁) | (with_reducible refine goes_rg ?_ ?_; exact termsD0 _ _ _; intro _ h₁; clear h₁; simp only [List.size_toArray, List.length_cons, List.length_nil, Nat.reduceAdd, Nat.zero_add, List.range, List.range.loop])))
  (refine goes_cd (termsD0 _ _ _) false rfl (fun _ h₁ => ?_); clear h₁; simp only [if_true, if_false, Bool.false_eq_true, ↓reduceIte])
  (repeat (first | ((with_reducible first | refine goes_rend ?_ ?_ | refine goes_sq ?_ ?_ | refine goes_sk ?_ ?_ | refine goes_bl ?_ ?_ | refine goes_lo ?_ ?_ | refine goes_ib ?_ ?_ | refine goes_il ?_ ?_ | refine goes_rt ?_ ?_ | refine goes_en ?_ ?_); exact termsD0 _ _ _; intro _ h₁; clear h₁) | (with_reducible refine goes_rg ?_ ?_; exact termsD0 _ _ _; intro _ h₁; clear h₁; simp only [List.size_toArray, List.length_cons, List.length_nil, Nat.reduceAdd, Nat.zero_add, List.range, List.range.loop])))
  (refine goes_vn (termsD0 _ _ _) (.int .i32 0) rfl rfl (by decide) (fun _ => by go_simp; try (first | omega | (w_num; omega) | w_num | decide)) (fun _ => by simp [go_sem, *]) (fun _ h₁ => ?_); clear h₁; (try walk_nrm))
  (refine goes_vn (termsD0 _ _ _) (.bool false) rfl rfl (by decide) (fun _ => by go_simp; try (first | omega | (w_num; omega) | w_num | decide)) (fun _ => by simp [go_sem, *]) (fun _ h₁ => ?_); clear h₁; (try walk_nrm))
  (repeat (first | ((with_reducible first | refine goes_rend ?_ ?_ | refine goes_sq ?_ ?_ | refine goes_sk ?_ ?_ | refine goes_bl ?_ ?_ | refine goes_lo ?_ ?_ | refine goes_ib ?_ ?_ | refine goes_il ?_ ?_ | refine goes_rt ?_ ?_ | refine goes_en ?_ ?_); exact termsD0 _ _ _; intro _ h₁; clear h₁) | (with_reducible refine goes_rg ?_ ?_; exact termsD0 _ _ _; intro _ h₁; clear h₁; simp only [List.size_toArray, List.length_cons, List.length_nil, Nat.reduceAdd, Nat.zero_add, List.range, List.range.loop])))
  (refine goes_cd (termsD0 _ _ _) false rfl (fun _ h₁ => ?_); clear h₁; simp only [if_true, if_false, Bool.false_eq_true, ↓reduceIte])
  (repeat (first | ((with_reducible first | refine goes_rend ?_ ?_ | refine goes_sq ?_ ?_ | refine goes_sk ?_ ?_ | refine goes_bl ?_ ?_ | refine goes_lo ?_ ?_ | refine goes_ib ?_ ?_ | refine goes_il ?_ ?_ | refine goes_rt ?_ ?_ | refine goes_en ?_ ?_); exact termsD0 _ _ _; intro _ h₁; clear h₁) | (with_reducible refine goes_rg ?_ ?_; exact termsD0 _ _ _; intro _ h₁; clear h₁; simp only [List.size_toArray, List.length_cons, List.length_nil, Nat.reduceAdd, Nat.zero_add, List.range, List.range.loop])))
  (refine goes_vn (termsD0 _ _ _) (.int .u32 1) rfl rfl (by decide) (fun _ => by go_simp; try (first | omega | (w_num; omega) | w_num | decide)) (fun _ => by simp [go_sem, *]) (fun _ h₁ => ?_); clear h₁; (try walk_nrm))
  (refine goes_vn (termsD0 _ _ _) (.bool true) rfl rfl (by decide) (fun _ => by go_simp; try (first | omega | (w_num; omega) | w_num | decide)) (fun _ => by simp [go_sem, *]) (fun _ h₁ => ?_); clear h₁; (try walk_nrm))
  (refine goes_vn (termsD0 _ _ _) (.bool true) rfl rfl (by decide) (fun _ => by go_simp; try (first | omega | (w_num; omega) | w_num | decide)) (fun _ => by simp [go_sem, *]) (fun _ h₁ => ?_); clear h₁; (try walk_nrm))
  (refine goes_vn (termsD0 _ _ _) (.int .i64 (-1)) rfl rfl (by decide) (fun _ => by go_simp; try (first | omega | (w_num; omega) | w_num | decide)) (fun _ => by simp [go_sem, *]) (fun _ h₁ => ?_); clear h₁; (try walk_nrm))
  (refine goes_vn (termsD0 _ _ _) (.bool false) rfl rfl (by decide) (fun _ => by go_simp; try (first | omega | (w_num; omega) | w_num | decide)) (fun _ => by simp [go_sem, *]) (fun _ h₁ => ?_); clear h₁; (try walk_nrm))
  (refine goes_vn (termsD0 _ _ _) (.bool false) rfl rfl (by decide) (fun _ => by go_simp; try (first | omega | (w_num; omega) | w_num | decide)) (fun _ => by simp [go_sem, *]) (fun _ h₁ => ?_); clear h₁; (try walk_nrm))
  (refine goes_vn (termsD0 _ _ _) (.bool false) rfl rfl (by decide) (fun _ => by go_simp; try (first | omega | (w_num; omega) | w_num | decide)) (fun _ => by simp [go_sem, *]) (fun _ h₁ => ?_); clear h₁; (try walk_nrm))
  (refine goes_un (termsD0 _ _ _) rfl rfl (fun _ h₁ => ?_); clear h₁; (try walk_nrm))
  (refine goes_un (termsD0 _ _ _) rfl rfl (fun _ h₁ => ?_); clear h₁; (try walk_nrm))
  (refine goes_un (termsD0 _ _ _) rfl rfl (fun _ h₁ => ?_); clear h₁; (try walk_nrm))
  (refine goes_un (termsD0 _ _ _) rfl rfl (fun _ h₁ => ?_); clear h₁; (try walk_nrm))
  (refine goes_vn (termsD0 _ _ _) (.bool false) rfl rfl (by decide) (fun _ => by go_simp; try (first | omega | (w_num; omega) | w_num | decide)) (fun _ => by simp [go_sem, *]) (fun _ h₁ => ?_); clear h₁; (try walk_nrm))
  (repeat (first | ((with_reducible first | refine goes_rend ?_ ?_ | refine goes_sq ?_ ?_ | refine goes_sk ?_ ?_ | refine goes_bl ?_ ?_ | refine goes_lo ?_ ?_ | refine goes_ib ?_ ?_ | refine goes_il ?_ ?_ | refine goes_rt ?_ ?_ | refine goes_en ?_ ?_); exact termsD0 _ _ _; intro _ h₁; clear h₁) | (with_reducible refine goes_rg ?_ ?_; exact termsD0 _ _ _; intro _ h₁; clear h₁; simp only [List.size_toArray, List.length_cons, List.length_nil, Nat.reduceAdd, Nat.zero_add, List.range, List.range.loop])))
  (refine goes_cd (termsD0 _ _ _) false rfl (fun _ h₁ => ?_); clear h₁; simp only [if_true, if_false, Bool.false_eq_true, ↓reduceIte])
  (repeat (first | ((with_reducible first | refine goes_rend ?_ ?_ | refine goes_sq ?_ ?_ | refine goes_sk ?_ ?_ | refine goes_bl ?_ ?_ | refine goes_lo ?_ ?_ | refine goes_ib ?_ ?_ | refine goes_il ?_ ?_ | refine goes_rt ?_ ?_ | refine goes_en ?_ ?_); exact termsD0 _ _ _; intro _ h₁; clear h₁) | (with_reducible refine goes_rg ?_ ?_; exact termsD0 _ _ _; intro _ h₁; clear h₁; simp only [List.size_toArray, List.length_cons, List.length_nil, Nat.reduceAdd, Nat.zero_add, List.range, List.range.loop])))
  (refine goes_vn (termsD0 _ _ _) (.int .i32 0) rfl rfl (by decide) (fun _ => by go_simp; try (first | omega | (w_num; omega) | w_num | decide)) (fun _ => by simp [go_sem, *]) (fun _ h₁ => ?_); clear h₁; (try walk_nrm))
  (refine goes_vn (termsD0 _ _ _) (.bool false) rfl rfl (by decide) (fun _ => by go_simp; try (first | omega | (w_num; omega) | w_num | decide)) (fun _ => by simp [go_sem, *]) (fun _ h₁ => ?_); clear h₁; (try walk_nrm))
  (refine goes_vn (termsD0 _ _ _) (.bool false) rfl rfl (by decide) (fun _ => by go_simp; try (first | omega | (w_num; omega) | w_num | decide)) (fun _ => by simp [go_sem, *]) (fun _ h₁ => ?_); clear h₁; (try walk_nrm))
  (refine goes_vn (termsD0 _ _ _) (.int .u32 1) rfl rfl (by decide) (fun _ => by go_simp; try (first | omega | (w_num; omega) | w_num | decide)) (fun _ => by simp [go_sem, *]) (fun _ h₁ => ?_); clear h₁; (try walk_nrm))
  (refine goes_vn (termsD0 _ _ _) (.bool false) rfl rfl (by decide) (fun _ => by go_simp; try (first | omega | (w_num; omega) | w_num | decide)) (fun _ => by simp [go_sem, *]) (fun _ h₁ => ?_); clear h₁; (try walk_nrm))
  (refine goes_vn (termsD0 _ _ _) (.bool false) rfl rfl (by decide) (fun _ => by go_simp; try (first | omega | (w_num; omega) | w_num | decide)) (fun _ => by simp [go_sem, *]) (fun _ h₁ => ?_); clear h₁; (try walk_nrm))
  (repeat (first | ((with_reducible first | refine goes_rend ?_ ?_ | refine goes_sq ?_ ?_ | refine goes_sk ?_ ?_ | refine goes_bl ?_ ?_ | refine goes_lo ?_ ?_ | refine goes_ib ?_ ?_ | refine goes_il ?_ ?_ | refine goes_rt ?_ ?_ | refine goes_en ?_ ?_); exact termsD0 _ _ _; intro _ h₁; clear h₁) | (with_reducible refine goes_rg ?_ ?_; exact termsD0 _ _ _; intro _ h₁; clear h₁; simp only [List.size_toArray, List.length_cons, List.length_nil, Nat.reduceAdd, Nat.zero_add, List.range, List.range.loop])))
  (refine goes_cd (termsD0 _ _ _) false rfl (fun _ h₁ => ?_); clear h₁; simp only [if_true, if_false, Bool.false_eq_true, ↓reduceIte])
  (repeat (first | ((with_reducible first | refine goes_rend ?_ ?_ | refine goes_sq ?_ ?_ | refine goes_sk ?_ ?_ | refine goes_bl ?_ ?_ | refine goes_lo ?_ ?_ | refine goes_ib ?_ ?_ | refine goes_il ?_ ?_ | refine goes_rt ?_ ?_ | refine goes_en ?_ ?_); exact termsD0 _ _ _; intro _ h₁; clear h₁) | (with_reducible refine goes_rg ?_ ?_; exact termsD0 _ _ _; intro _ h₁; clear h₁; simp only [List.size_toArray, List.length_cons, List.length_nil, Nat.reduceAdd, Nat.zero_add, List.range, List.range.loop])))
  (refine goes_vn (termsD0 _ _ _) (.pointer (some ⟨Wg, 0, none⟩)) rfl rfl (by decide) (fun _ => by go_simp; try (first | omega | (w_num; omega) | w_num | decide)) (fun _ => by simp [go_sem, *]) (fun _ h₁ => ?_); clear h₁; (try walk_nrm))
  (refine goes_vn (termsD0 _ _ _) (.pointer (some ⟨Wg, 0, none⟩)) rfl rfl (by decide) (fun _ => by go_simp; try (first | omega | (w_num; omega) | w_num | decide)) (fun _ => by simp [go_sem, *]) (fun _ h₁ => ?_); clear h₁; (try walk_nrm))
  (refine goes_vn (termsD0 _ _ _) (.pointer (some ⟨Wg, 0, none⟩)) rfl rfl (by decide) (fun _ => by go_simp; try (first | omega | (w_num; omega) | w_num | decide)) (fun _ => by simp [go_sem, *]) (fun _ h₁ => ?_); clear h₁; (try walk_nrm))
  (refine goes_in (termsD0 _ _ _) rfl rfl (by decide) rfl Try.func35 (by simp [Try.f35]) rfl (fun _ h₁ => ?_); clear h₁; walk_nrmf Try.f35)
  (repeat (first | ((with_reducible first | refine goes_rend ?_ ?_ | refine goes_sq ?_ ?_ | refine goes_sk ?_ ?_ | refine goes_bl ?_ ?_ | refine goes_lo ?_ ?_ | refine goes_ib ?_ ?_ | refine goes_il ?_ ?_ | refine goes_rt ?_ ?_ | refine goes_en ?_ ?_); exact termsD0 _ _ _; intro _ h₁; clear h₁) | (with_reducible refine goes_rg ?_ ?_; exact termsD0 _ _ _; intro _ h₁; clear h₁; simp only [List.size_toArray, List.length_cons, List.length_nil, Nat.reduceAdd, Nat.zero_add, List.range, List.range.loop])))
  (refine goes_vn (termsD0 _ _ _) (.int .u64 0) rfl rfl (by decide) (fun _ => by go_simp; try (first | omega | (w_num; omega) | w_num | decide)) (fun _ => by simp [go_sem, *]) (fun _ h₁ => ?_); clear h₁; (try walk_nrm))
  (repeat (first | ((with_reducible first | refine goes_rend ?_ ?_ | refine goes_sq ?_ ?_ | refine goes_sk ?_ ?_ | refine goes_bl ?_ ?_ | refine goes_lo ?_ ?_ | refine goes_ib ?_ ?_ | refine goes_il ?_ ?_ | refine goes_rt ?_ ?_ | refine goes_en ?_ ?_); exact termsD0 _ _ _; intro _ h₁; clear h₁) | (with_reducible refine goes_rg ?_ ?_; exact termsD0 _ _ _; intro _ h₁; clear h₁; simp only [List.size_toArray, List.length_cons, List.length_nil, Nat.reduceAdd, Nat.zero_add, List.range, List.range.loop])))
  (refine goes_vn (termsD0 _ _ _) (.pointer (some ⟨Wg, 0, none⟩)) rfl rfl (by decide) (fun _ => by go_simp; try (first | omega | (w_num; omega) | w_num | decide)) (fun _ => by simp [go_sem, *]) (fun _ h₁ => ?_); clear h₁; (try walk_nrm))
  (refine goes_vn (termsD0 _ _ _) (.pointer (some ⟨Wg, 0, none⟩)) rfl rfl (by decide) (fun _ => by go_simp; try (first | omega | (w_num; omega) | w_num | decide)) (fun _ => by simp [go_sem, *]) (fun _ h₁ => ?_); clear h₁; (try walk_nrm))
  (refine goes_vn (termsD0 _ _ _) (.pointer (some ⟨Wg, 0, none⟩)) rfl rfl (by decide) (fun _ => by go_simp; try (first | omega | (w_num; omega) | w_num | decide)) (fun _ => by simp [go_sem, *]) (fun _ h₁ => ?_); clear h₁; (try walk_nrm))
  refine Goes.stop fun w₂ _ => ⟨rfl, fun hw => ⟨_, stepG_load_atomic rfl rfl (by decide) rfl Try.func47 (by simp [Try.f47]) (by simp [Try.f47]) n47 .u64 x47 rfl (Go.ConcR.WgAt.cellSt hw), ?_⟩⟩
  clear hw
  refine followW_of (p := .clr) (ps := [.rls]) (n := 60) ?_
  have hD : DWp T .clr = D0 := by simp [DWp, Pr.quiet]
  rw [hD]
  clear hD
  try walk_nrm
  (refine goes_vn (termsD0 _ _ _) (.int .u64 1) rfl rfl (by decide) (fun _ => by go_simp; try (first | omega | (w_num; omega) | w_num | decide)) (fun _ => by simp [go_sem, *]) (fun _ h₁ => ?_); clear h₁; (try walk_nrm))
  (repeat (first | ((with_reducible first | refine goes_rend ?_ ?_ | refine goes_sq ?_ ?_ | refine goes_sk ?_ ?_ | refine goes_bl ?_ ?_ | refine goes_lo ?_ ?_ | refine goes_ib ?_ ?_ | refine goes_il ?_ ?_ | refine goes_rt ?_ ?_ | refine goes_en ?_ ?_); exact termsD0 _ _ _; intro _ h₁; clear h₁) | (with_reducible refine goes_rg ?_ ?_; exact termsD0 _ _ _; intro _ h₁; clear h₁; simp only [List.size_toArray, List.length_cons, List.length_nil, Nat.reduceAdd, Nat.zero_add, List.range, List.range.loop])))
  (refine goes_l1 (termsD0 _ _ _) rfl rfl Try.func35 (by simp only [Try.f35]; rfl) (fun _ h₁ => ?_); clear h₁; (try walk_nrm))
  (repeat (first | ((with_reducible first | refine goes_rend ?_ ?_ | refine goes_sq ?_ ?_ | refine goes_sk ?_ ?_ | refine goes_bl ?_ ?_ | refine goes_lo ?_ ?_ | refine goes_ib ?_ ?_ | refine goes_il ?_ ?_ | refine goes_rt ?_ ?_ | refine goes_en ?_ ?_); exact termsD0 _ _ _; intro _ h₁; clear h₁) | (with_reducible refine goes_rg ?_ ?_; exact termsD0 _ _ _; intro _ h₁; clear h₁; simp only [List.size_toArray, List.length_cons, List.length_nil, Nat.reduceAdd, Nat.zero_add, List.range, List.range.loop])))
  (refine goes_vn (termsD0 _ _ _) (.int .u64 1) rfl rfl (by decide) (fun _ => by go_simp; try (first | omega | (w_num; omega) | w_num | decide)) (fun _ => by simp [go_sem, *]) (fun _ h₁ => ?_); clear h₁; (try walk_nrm))
  (refine goes_vn (termsD0 _ _ _) (.bool false) rfl rfl (by decide) (fun _ => by go_simp; try (first | omega | (w_num; omega) | w_num | decide)) (fun _ => by simp [go_sem, *]) (fun _ h₁ => ?_); clear h₁; (try walk_nrm))
  (repeat (first | ((with_reducible first | refine goes_rend ?_ ?_ | refine goes_sq ?_ ?_ | refine goes_sk ?_ ?_ | refine goes_bl ?_ ?_ | refine goes_lo ?_ ?_ | refine goes_ib ?_ ?_ | refine goes_il ?_ ?_ | refine goes_rt ?_ ?_ | refine goes_en ?_ ?_); exact termsD0 _ _ _; intro _ h₁; clear h₁) | (with_reducible refine goes_rg ?_ ?_; exact termsD0 _ _ _; intro _ h₁; clear h₁; simp only [List.size_toArray, List.length_cons, List.length_nil, Nat.reduceAdd, Nat.zero_add, List.range, List.range.loop])))
  (refine goes_cd (termsD0 _ _ _) false rfl (fun _ h₁ => ?_); clear h₁; simp only [if_true, if_false, Bool.false_eq_true, ↓reduceIte])
  (repeat (first | ((with_reducible first | refine goes_rend ?_ ?_ | refine goes_sq ?_ ?_ | refine goes_sk ?_ ?_ | refine goes_bl ?_ ?_ | refine goes_lo ?_ ?_ | refine goes_ib ?_ ?_ | refine goes_il ?_ ?_ | refine goes_rt ?_ ?_ | refine goes_en ?_ ?_); exact termsD0 _ _ _; intro _ h₁; clear h₁) | (with_reducible refine goes_rg ?_ ?_; exact termsD0 _ _ _; intro _ h₁; clear h₁; simp only [List.size_toArray, List.length_cons, List.length_nil, Nat.reduceAdd, Nat.zero_add, List.range, List.range.loop])))
  (refine goes_vn (termsD0 _ _ _) (.pointer (some ⟨Wg, 0, none⟩)) rfl rfl (by decide) (fun _ => by go_simp; try (first | omega | (w_num; omega) | w_num | decide)) (fun _ => by simp [go_sem, *]) (fun _ h₁ => ?_); clear h₁; (try walk_nrm))
  (refine goes_vn (termsD0 _ _ _) (.pointer (some ⟨Wg, 0, none⟩)) rfl rfl (by decide) (fun _ => by go_simp; try (first | omega | (w_num; omega) | w_num | decide)) (fun _ => by simp [go_sem, *]) (fun _ h₁ => ?_); clear h₁; (try walk_nrm))
  (refine goes_vn (termsD0 _ _ _) (.pointer (some ⟨Wg, 0, none⟩)) rfl rfl (by decide) (fun _ => by go_simp; try (first | omega | (w_num; omega) | w_num | decide)) (fun _ => by simp [go_sem, *]) (fun _ h₁ => ?_); clear h₁; (try walk_nrm))
  (refine goes_in (termsD0 _ _ _) rfl rfl (by decide) rfl Try.func36 (by simp [Try.f36]) rfl (fun _ h₁ => ?_); clear h₁; walk_nrmf Try.f36)
  (repeat (first | ((with_reducible first | refine goes_rend ?_ ?_ | refine goes_sq ?_ ?_ | refine goes_sk ?_ ?_ | refine goes_bl ?_ ?_ | refine goes_lo ?_ ?_ | refine goes_ib ?_ ?_ | refine goes_il ?_ ?_ | refine goes_rt ?_ ?_ | refine goes_en ?_ ?_); exact termsD0 _ _ _; intro _ h₁; clear h₁) | (with_reducible refine goes_rg ?_ ?_; exact termsD0 _ _ _; intro _ h₁; clear h₁; simp only [List.size_toArray, List.length_cons, List.length_nil, Nat.reduceAdd, Nat.zero_add, List.range, List.range.loop])))
  (refine goes_vn (termsD0 _ _ _) (.pointer (some ⟨Wg, 0, none⟩)) rfl rfl (by decide) (fun _ => by go_simp; try (first | omega | (w_num; omega) | w_num | decide)) (fun _ => by simp [go_sem, *]) (fun _ h₁ => ?_); clear h₁; (try walk_nrm))
  (refine goes_vn (termsD0 _ _ _) (.pointer (some ⟨Wg, 0, none⟩)) rfl rfl (by decide) (fun _ => by go_simp; try (first | omega | (w_num; omega) | w_num | decide)) (fun _ => by simp [go_sem, *]) (fun _ h₁ => ?_); clear h₁; (try walk_nrm))
  (refine goes_vn (termsD0 _ _ _) (.pointer (some ⟨Wg, 0, none⟩)) rfl rfl (by decide) (fun _ => by go_simp; try (first | omega | (w_num; omega) | w_num | decide)) (fun _ => by simp [go_sem, *]) (fun _ h₁ => ?_); clear h₁; (try walk_nrm))
  (refine goes_vn (termsD0 _ _ _) (.int .u64 0) rfl rfl (by decide) (fun _ => by go_simp; try (first | omega | (w_num; omega) | w_num | decide)) (fun _ => by simp [go_sem, *]) (fun _ h₁ => ?_); clear h₁; (try walk_nrm))
  refine Goes.stop fun w₃ _ => ⟨rfl, fun hw => ⟨_, stepG_store_atomic rfl rfl (by decide) rfl Try.func48 (by simp [Try.f48]) (by simp [Try.f48]) n48 x48 rfl rfl (Go.ConcR.WgAt.cellSt hw) (Go.ConcR.WgAt.thaw hw 0), ?_⟩⟩
  clear hw
  refine followW_of (p := .rls) (ps := []) (n := 60) ?_
  have hD : DWp T .rls = D0 := by simp [DWp, Pr.quiet]
  rw [hD]
  clear hD
  try walk_nrm
  (repeat (first | ((with_reducible first | refine goes_rend ?_ ?_ | refine goes_sq ?_ ?_ | refine goes_sk ?_ ?_ | refine goes_bl ?_ ?_ | refine goes_lo ?_ ?_ | refine goes_ib ?_ ?_ | refine goes_il ?_ ?_ | refine goes_rt ?_ ?_ | refine goes_en ?_ ?_); exact termsD0 _ _ _; intro _ h₁; clear h₁) | (with_reducible refine goes_rg ?_ ?_; exact termsD0 _ _ _; intro _ h₁; clear h₁; simp only [List.size_toArray, List.length_cons, List.length_nil, Nat.reduceAdd, Nat.zero_add, List.range, List.range.loop])))
  (refine goes_l0 (termsD0 _ _ _) rfl rfl Try.func36 (by simp only [Try.f36]) (fun _ h₁ => ?_); clear h₁; (try walk_nrm))
  (repeat (first | ((with_reducible first | refine goes_rend ?_ ?_ | refine goes_sq ?_ ?_ | refine goes_sk ?_ ?_ | refine goes_bl ?_ ?_ | refine goes_lo ?_ ?_ | refine goes_ib ?_ ?_ | refine goes_il ?_ ?_ | refine goes_rt ?_ ?_ | refine goes_en ?_ ?_); exact termsD0 _ _ _; intro _ h₁; clear h₁) | (with_reducible refine goes_rg ?_ ?_; exact termsD0 _ _ _; intro _ h₁; clear h₁; simp only [List.size_toArray, List.length_cons, List.length_nil, Nat.reduceAdd, Nat.zero_add, List.range, List.range.loop])))
  (refine goes_vn (termsD0 _ _ _) (.bool false) rfl rfl (by decide) (fun _ => by go_simp; try (first | omega | (w_num; omega) | w_num | decide)) (fun _ => by simp [go_sem, *]) (fun _ h₁ => ?_); clear h₁; (try walk_nrm))
  (repeat (first | ((with_reducible first | refine goes_rend ?_ ?_ | refine goes_sq ?_ ?_ | refine goes_sk ?_ ?_ | refine goes_bl ?_ ?_ | refine goes_lo ?_ ?_ | refine goes_ib ?_ ?_ | refine goes_il ?_ ?_ | refine goes_rt ?_ ?_ | refine goes_en ?_ ?_); exact termsD0 _ _ _; intro _ h₁; clear h₁) | (with_reducible refine goes_rg ?_ ?_; exact termsD0 _ _ _; intro _ h₁; clear h₁; simp only [List.size_toArray, List.length_cons, List.length_nil, Nat.reduceAdd, Nat.zero_add, List.range, List.range.loop])))
  (refine goes_cd (termsD0 _ _ _) false rfl (fun _ h₁ => ?_); clear h₁; simp only [if_true, if_false, Bool.false_eq_true, ↓reduceIte])
  (repeat (first | ((with_reducible first | refine goes_rend ?_ ?_ | refine goes_sq ?_ ?_ | refine goes_sk ?_ ?_ | refine goes_bl ?_ ?_ | refine goes_lo ?_ ?_ | refine goes_ib ?_ ?_ | refine goes_il ?_ ?_ | refine goes_rt ?_ ?_ | refine goes_en ?_ ?_); exact termsD0 _ _ _; intro _ h₁; clear h₁) | (with_reducible refine goes_rg ?_ ?_; exact termsD0 _ _ _; intro _ h₁; clear h₁; simp only [List.size_toArray, List.length_cons, List.length_nil, Nat.reduceAdd, Nat.zero_add, List.range, List.range.loop])))
  (refine goes_vn (termsD0 _ _ _) (.int .u32 1) rfl rfl (by decide) (fun _ => by go_simp; try (first | omega | (w_num; omega) | w_num | decide)) (fun _ => by simp [go_sem, *]) (fun _ h₁ => ?_); clear h₁; (try walk_nrm))
  (refine goes_vn (termsD0 _ _ _) (.bool true) rfl rfl (by decide) (fun _ => by go_simp; try (first | omega | (w_num; omega) | w_num | decide)) (fun _ => by simp [go_sem, *]) (fun _ h₁ => ?_); clear h₁; (try walk_nrm))
  (repeat (first | ((with_reducible first | refine goes_rend ?_ ?_ | refine goes_sq ?_ ?_ | refine goes_sk ?_ ?_ | refine goes_bl ?_ ?_ | refine goes_lo ?_ ?_ | refine goes_ib ?_ ?_ | refine goes_il ?_ ?_ | refine goes_rt ?_ ?_ | refine goes_en ?_ ?_); exact termsD0 _ _ _; intro _ h₁; clear h₁) | (with_reducible refine goes_rg ?_ ?_; exact termsD0 _ _ _; intro _ h₁; clear h₁; simp only [List.size_toArray, List.length_cons, List.length_nil, Nat.reduceAdd, Nat.zero_add, List.range, List.range.loop])))
  (refine goes_cd (termsD0 _ _ _) true rfl (fun _ h₁ => ?_); clear h₁; simp only [if_true, if_false, Bool.false_eq_true, ↓reduceIte])
  (repeat (first | ((with_reducible first | refine goes_rend ?_ ?_ | refine goes_sq ?_ ?_ | refine goes_sk ?_ ?_ | refine goes_bl ?_ ?_ | refine goes_lo ?_ ?_ | refine goes_ib ?_ ?_ | refine goes_il ?_ ?_ | refine goes_rt ?_ ?_ | refine goes_en ?_ ?_); exact termsD0 _ _ _; intro _ h₁; clear h₁) | (with_reducible refine goes_rg ?_ ?_; exact termsD0 _ _ _; intro _ h₁; clear h₁; simp only [List.size_toArray, List.length_cons, List.length_nil, Nat.reduceAdd, Nat.zero_add, List.range, List.range.loop])))
  (refine goes_vn (termsD0 _ _ _) (.pointer (some ⟨Wg, 0, none⟩)) rfl rfl (by decide) (fun _ => by go_simp; try (first | omega | (w_num; omega) | w_num | decide)) (fun _ => by simp [go_sem, *]) (fun _ h₁ => ?_); clear h₁; (try walk_nrm))
  (refine goes_vn (termsD0 _ _ _) (.pointer (some ⟨Wg, 0, none⟩)) rfl rfl (by decide) (fun _ => by go_simp; try (first | omega | (w_num; omega) | w_num | decide)) (fun _ => by simp [go_sem, *]) (fun _ h₁ => ?_); clear h₁; (try walk_nrm))
  (refine goes_vn (termsD0 _ _ _) (.pointer (some ⟨Wg, 1, none⟩)) rfl rfl (by decide) (fun _ => by go_simp; try (first | omega | (w_num; omega) | w_num | decide)) (fun _ => by simp [go_sem, *]) (fun _ h₁ => ?_); clear h₁; (try walk_nrm))
  refine Goes.stop fun w₄ _ => ⟨rfl, Go.ConcR.Gen.mayWake_entry rfl rfl Try.func38 (by simp [Try.f38]), fun hw => ⟨_, (stepG_semrelease rfl rfl (by decide) rfl Try.func38 (by simp [Try.f38]) (by simp [Try.f38]) n38 x38 (by simp [Act.eval, smA]) (Go.ConcR.WgAt.cellSm hw) (Go.ConcR.WgAt.thaw hw 1)).trans (by rfl), .inl rfl, followW_q ?_⟩⟩
  clear hw
  try walk_nrm
  (repeat (first | (with_reducible first | refine QE.rend ?_ | refine QE.sq ?_ | refine QE.sk ?_ | refine QE.bl ?_ | refine QE.lo ?_ | refine QE.ib ?_ | refine QE.il ?_ | refine QE.rt ?_ | refine QE.en ?_) | (with_reducible refine QE.rg ?_; simp only [List.size_toArray, List.length_cons, List.length_nil, Nat.reduceAdd, Nat.zero_add, List.range, List.range.loop])))
  (refine QE.value (.int .u32 1) rfl rfl (by decide) (fun _ => by go_simp; try (first | omega | (w_num; omega) | w_num | decide)) (fun _ => by simp [go_sem, *]) ?_; (try walk_nrm))
  (refine QE.value (.int .u32 0) rfl rfl (by decide) (fun _ => by go_simp; try (first | omega | (w_num; omega) | w_num | decide)) (fun _ => by simp [go_sem, *]) ?_; (try walk_nrm))
  (refine QE.value (.int .u32 0) rfl rfl (by decide) (fun _ => by go_simp; try (first | omega | (w_num; omega) | w_num | decide)) (fun _ => by simp [go_sem, *]) ?_; (try walk_nrm))
  (repeat (first | (with_reducible first | refine QE.rend ?_ | refine QE.sq ?_ | refine QE.sk ?_ | refine QE.bl ?_ | refine QE.lo ?_ | refine QE.ib ?_ | refine QE.il ?_ | refine QE.rt ?_ | refine QE.en ?_) | (with_reducible refine QE.rg ?_; simp only [List.size_toArray, List.length_cons, List.length_nil, Nat.reduceAdd, Nat.zero_add, List.range, List.range.loop])))
  (refine QE.value (.int .u32 0) rfl rfl (by decide) (fun _ => by go_simp; try (first | omega | (w_num; omega) | w_num | decide)) (fun _ => by simp [go_sem, *]) ?_; (try walk_nrm))
  (refine QE.value (.bool false) rfl rfl (by decide) (fun _ => by go_simp; try (first | omega | (w_num; omega) | w_num | decide)) (fun _ => by simp [go_sem, *]) ?_; (try walk_nrm))
  (repeat (first | (with_reducible first | refine QE.rend ?_ | refine QE.sq ?_ | refine QE.sk ?_ | refine QE.bl ?_ | refine QE.lo ?_ | refine QE.ib ?_ | refine QE.il ?_ | refine QE.rt ?_ | refine QE.en ?_) | (with_reducible refine QE.rg ?_; simp only [List.size_toArray, List.length_cons, List.length_nil, Nat.reduceAdd, Nat.zero_add, List.range, List.range.loop])))
  (refine QE.cd false rfl ?_; simp only [if_true, if_false, Bool.false_eq_true, ↓reduceIte])
  refine QE.ctl rfl (fun _ => stepG_exit rfl) ?_
  (repeat (first | (with_reducible first | refine QE.rend ?_ | refine QE.sq ?_ | refine QE.sk ?_ | refine QE.bl ?_ | refine QE.lo ?_ | refine QE.ib ?_ | refine QE.il ?_ | refine QE.rt ?_ | refine QE.en ?_) | (with_reducible refine QE.rg ?_; simp only [List.size_toArray, List.length_cons, List.length_nil, Nat.reduceAdd, Nat.zero_add, List.range, List.range.loop])))
  (refine QE.unwind_mark .enable rfl (by simp) rfl Try.func28 (by simp [Try.f28]) (by simp [Try.f28]) n28 x28 ?_; simp only [deafBehind_en])
  (refine QE.leave0 rfl rfl Try.func23 (by simp only [Try.f23]) ?_; (try walk_nrm))
  (repeat (first | (with_reducible first | refine QE.rend ?_ | refine QE.sq ?_ | refine QE.sk ?_ | refine QE.bl ?_ | refine QE.lo ?_ | refine QE.ib ?_ | refine QE.il ?_ | refine QE.rt ?_ | refine QE.en ?_) | (with_reducible refine QE.rg ?_; simp only [List.size_toArray, List.length_cons, List.length_nil, Nat.reduceAdd, Nat.zero_add, List.range, List.range.loop])))
  exact QE.leaveD rfl rfl Try.func39 (by simp only [Try.f39]) hcm hT

/-- AT THE COUNT's FALL. -/
theorem dec_at (hcm : c.mode = .returning) (hT : QE Try.prog 0 (G c cs)) (w : World) : stopW Try.prog zi (47, true) Wg T 1 [.dec 3, .ldl, .clr, .rls] (dec46 Wg c cs) w := by
  have eD : IntKind.u64.wrap (IntKind.u64.wrap (-1) * 4294967296) = 18446744069414584320 := by decide
  have eD2 : IntKind.u64.wrap (-1) = 18446744073709551615 := by decide
  have step : ∀ (S0 S : Int), IntKind.u64.wrap (S0 + 18446744069414584320) = S → WgAt 47 Wg w S0 0 → stepG Try.prog false (dec46 Wg c cs) w = .go (dec33 Wg c cs S) (w.setCell (stA Wg) (.int .u64 S)) #[rd (stA Wg), wr (stA Wg)] := by
    intro S0 S hS hw
    have hst := stepG_add_atomic (P := Try.prog) (main := false) (w := w) (b := base 33) (a := ⟨#[.pointer (some ⟨Wg, 0, none⟩), .int .u64 18446744069414584320, undef, undef, .int .u64 0, .pointer (some ⟨Wg, 0, none⟩), .pointer (some ⟨Wg, 0, none⟩), .pointer (some ⟨Wg, 0, none⟩), .int .u64 18446744069414584320, undef], []⟩) (ops := ops33) (i := 4) (rest := [5]) (kk := [.code .ret]) (ats := #[73, 42]) (x := .tmp 7) (y := .tmp 8)
      (o := { dst := some 9, op := .call { callee := .value (.func 46), args := #[.tmp 7, .tmp 8], argTypes := #[73, 42] }, type := 42, pos := "type.go:195", after := #[{ on := 2, ground := .data }, { on := 3, ground := .data }], guard := none })
      (cs := ((dec46 Wg c cs).callers)) rfl rfl (by decide) rfl Try.func46 (by simp [Try.f46]) (by simp [Try.f46]) n46 .u64 x46 rfl rfl (Go.ConcR.WgAt.cellSt hw) (Go.ConcR.WgAt.thaw hw 0)
    rw [hS] at hst
    have e1 : dec46 Wg c cs = G ((base 33).at ⟨#[.pointer (some ⟨Wg, 0, none⟩), .int .u64 18446744069414584320, undef, undef, .int .u64 0, .pointer (some ⟨Wg, 0, none⟩), .pointer (some ⟨Wg, 0, none⟩), .pointer (some ⟨Wg, 0, none⟩), .int .u64 18446744069414584320, undef], []⟩ [.inRegion ops33 [4, 5], .code .ret]) ((dec46 Wg c cs).callers) := by
      simp only [dec46, G, eD]
    have e2 : dec33 Wg c cs S = G ((base 33).at (Act.put ⟨#[.pointer (some ⟨Wg, 0, none⟩), .int .u64 18446744069414584320, undef, undef, .int .u64 0, .pointer (some ⟨Wg, 0, none⟩), .pointer (some ⟨Wg, 0, none⟩), .pointer (some ⟨Wg, 0, none⟩), .int .u64 18446744069414584320, undef], []⟩ (some 9) (.int .u64 S)) [.inRegion ops33 [5], .code .ret]) ((dec46 Wg c cs).callers) := by
      simp only [dec33, dec46, G, eD, eD2]; rfl
    rw [e1, hst, e2]
    rfl
  refine ⟨rfl, fun v wt hwt hv hw => ?_⟩
  rcases Nat.eq_zero_or_pos v with rfl | hvp <;> (obtain rfl | rfl : wt = 0 ∨ wt = 1 := by omega)
  · have z : ((0 : Nat) : Int) * KK + ((0 : Nat) : Int) = 0 := by simp
    rw [z]
    exact ⟨_, step _ 0 (by decide) hw, fun hl => absurd hl.2 (by decide), fun _ => followW_q (dec_q00 Wg hcm hT)⟩
  · have z : ((0 : Nat) : Int) * KK + ((1 : Nat) : Int) = 1 := by simp
    rw [z]
    exact ⟨_, step _ 1 (by decide) hw, fun _ => last_way T Wg hcm hT _, fun hl => absurd ⟨rfl, rfl⟩ hl⟩
  · have eS : IntKind.u64.wrap (((v : Nat) + 1) * KK + ((0 : Nat) : Int) + 18446744069414584320) = (v : Int) * KK + ((0 : Nat) : Int) := by rw [IntKind.wrap_u64]; simp only [KK]; omega
    refine ⟨_, step _ _ eS hw, fun hl => absurd hl.1 (by omega), fun _ => followW_q (dec_qv0 Wg hcm hT v hvp hv _ ?_ ?_ ?_ ?_)⟩
    · simp only [KK]; omega
    · simp only [KK]; omega
    · have := Go.ConcN.st_flag v 0 (by omega) (by omega); simpa [KK] using this
    · have := Go.ConcN.st_waiters v 0 (by omega) (by omega); simpa [KK] using this
  · have eS : IntKind.u64.wrap (((v : Nat) + 1) * KK + ((1 : Nat) : Int) + 18446744069414584320) = (v : Int) * KK + ((1 : Nat) : Int) := by rw [IntKind.wrap_u64]; simp only [KK]; omega
    refine ⟨_, step _ _ eS hw, fun hl => absurd hl.1 (by omega), fun _ => followW_q (dec_qv1 Wg hcm hT v hvp hv _ ?_ ?_ ?_ ?_)⟩
    · simp only [KK]; omega
    · simp only [KK]; omega
    · have := Go.ConcN.st_flag v 1 (by omega) (by omega); simpa [KK] using this
    · have := Go.ConcN.st_waiters v 1 (by omega) (by omega); simpa [KK] using this

/-- THE DEFERRED Done, from its entry. -/
theorem done_follows (hcm : c.mode = .returning) (hT : QE Try.prog 0 (G c cs)) (w : World) (hF : WgLive 47 Wg w) :
    Goes Try.prog false (RW (47, true) Wg T) (DWp T (.say (.releaseMerge (stA Wg)))) (stopW Try.prog zi (47, true) Wg T 0 [.say (.releaseMerge (stA Wg)), .say .disable, .dec 3, .ldl, .clr, .rls]) 40 (G ((baseD 39).at ⟨#[.pointer (some ⟨Wg, 0, none⟩), undef, undef, undef], []⟩ [.code body39]) (c :: cs)) w :=
  done_a T Wg c cs w hF fun w => dec_at T Wg hcm hT w
end
end Go.Proofs.Ytplndihadjfliaa.Mix
