/-
  CREW: the walk of (*sync.WaitGroup).Done, deferred: a worker's end. First part: to the count's fall.
-/
import Derived.Test.YtplndihadjfliaaM4
import Derived.Test.YtplndihadjfliaaProg
import Derived.Conc.WgGenW
import Derived.Conc.WgArith
import Derived.KernelRfl
set_option linter.unusedSimpArgs false
set_option linter.unusedVariables false
set_option maxHeartbeats 8000000
namespace Go.Proofs.Ytplndihadjfliaa.Mix
open Go Go.Conc Go.ConcN Go.Proofs
open Go.ConcR (KK wgBlock WgAt stA smA rd wr)

abbrev iv (x : Int) : Value := .int .i64 x
def zi : Nat → Value := fun _ => iv 0

/-- It only leaves. -/
def QE (P : Program) (d : Nat) (g : Goroutine) : Prop := ∃ n, QuitsD P n d g
section
variable {P : Program} {b : Frame} {a : Act} {k : List Item} {cs : List Frame} {d : Nat}
theorem QE.ctl {g g' : Goroutine} (hs : g.status = .running) (h : ∀ w, stepG P false g w = .go g' w) (hq : QE P d g') : QE P d g := let ⟨n, hq⟩ := hq; ⟨n + 1, .ctl hs h hq⟩
theorem QE.value {ops : Array Oper} {i : Nat} {rest : List Nat} {o : Oper} (v : Value) (ho : ops[i]? = some o) (hw : Region.wanted o (yielded ops a.tmps) = true) (hk : b.kind ≠ .early)
    (hr : ∀ w, (execOp a.eval o).run P w = .ok (.value v) w) (he : ∀ w, (execOp a.eval o).events P w #[] = #[]) (hq : QE P d (G (b.at (a.put o.dst v) (.inRegion ops rest :: k)) cs)) : QE P d (G (b.at a (.inRegion ops (i :: rest) :: k)) cs) :=
  let ⟨n, hq⟩ := hq; ⟨n + 1, .value v ho hw hk hr he hq⟩
theorem QE.unwanted {ops : Array Oper} {i : Nat} {rest : List Nat} {o : Oper} (ho : ops[i]? = some o) (hw : Region.wanted o (yielded ops a.tmps) = false) (hq : QE P d (G (b.at (a.put o.dst undef) (.inRegion ops rest :: k)) cs)) : QE P d (G (b.at a (.inRegion ops (i :: rest) :: k)) cs) :=
  let ⟨n, hq⟩ := hq; ⟨n + 1, .unwanted ho hw hq⟩
theorem QE.rend {ops : Array Oper} (hq : QE P d (G (b.at a (k)) cs)) : QE P d (G (b.at a (.inRegion ops [] :: k)) cs) := QE.ctl rfl (fun _ => stepG_region_end) hq
theorem QE.sq {x y : Code} (hq : QE P d (G (b.at a (.code x :: .code y :: k)) cs)) : QE P d (G (b.at a (.code (.seq x y) :: k)) cs) := QE.ctl rfl (fun _ => stepG_seq) hq
theorem QE.sk (hq : QE P d (G (b.at a (k)) cs)) : QE P d (G (b.at a (.code .skip :: k)) cs) := QE.ctl rfl (fun _ => stepG_skip) hq
theorem QE.bl {id : Nat} {c : Code} (hq : QE P d (G (b.at a (.code c :: .inBlock id :: k)) cs)) : QE P d (G (b.at a (.code (.block id c) :: k)) cs) := QE.ctl rfl (fun _ => stepG_block) hq
theorem QE.lo {c : Code} (hq : QE P d (G (b.at a (.code c :: .inLoop c :: k)) cs)) : QE P d (G (b.at a (.code (.loop c) :: k)) cs) := QE.ctl rfl (fun _ => stepG_loop) hq
theorem QE.ib {id : Nat} (hq : QE P d (G (b.at a (k)) cs)) : QE P d (G (b.at a (.inBlock id :: k)) cs) := QE.ctl rfl (fun _ => stepG_inBlock) hq
theorem QE.il {c : Code} (hq : QE P d (G (b.at a (.code c :: .inLoop c :: k)) cs)) : QE P d (G (b.at a (.inLoop c :: k)) cs) := QE.ctl rfl (fun _ => stepG_inLoop) hq
theorem QE.rg {id : Nat} {ops : Array Oper} (hq : QE P d (G (b.at a (.inRegion ops (List.range ops.size) :: k)) cs)) : QE P d (G (b.at a (.code (.region id ops false) :: k)) cs) := QE.ctl rfl (fun _ => stepG_region) hq
theorem QE.rt (hq : QE P d (G { b.at a (.code .ret :: k) with mode := .returning } cs)) : QE P d (G (b.at a (.code .ret :: k)) cs) := QE.ctl rfl (fun _ => stepG_ret') hq
theorem QE.en (hq : QE P d (G { b.at a [] with mode := .returning } cs)) : QE P d (G (b.at a []) cs) := QE.ctl rfl (fun _ => stepG_end) hq
theorem QE.cd {c : Operand} {x y : Code} (t : Bool) (h : a.eval c = .bool t) (hq : QE P d (G (b.at a (.code (if t then x else y) :: k)) cs)) : QE P d (G (b.at a (.code (.cond c x y) :: k)) cs) := QE.ctl rfl (fun _ => stepG_cond h) hq
section
variable {fn : Func} {todo : List Item} {ds : List Deferred} {f : FuncId}
theorem QE.unwind_mark (m : Mark) (hm : Event.mute ⟨.mark m, false, true⟩ = true) (hx : ∀ g, m ≠ .extern g) (hd : a.defers = dcall f #[] :: ds)
    (hf : P.funcs[f]? = some fn) (hname : (fn.name == "runtime.NumGoroutine") = false) (hb : fn.body.isNone = true) (hn : Extern.findNext fn = none)
    (he : Extern.find fn = some (fun _ => do mark m; pure Extern.Race.none_))
    (hq : QE P (deafBehind d #[⟨.mark m, false, true⟩]) (G { b.at ⟨a.tmps, ds⟩ todo with mode := .returning } cs)) : QE P d (G { b.at a todo with mode := .returning } cs) :=
  let ⟨n, hq⟩ := hq; ⟨n + 1, .unwind_mark m hm hx hd hf hname hb hn he hq⟩
variable {b₀ : Frame} {a₀ : Act} {ops : Array Oper} {i : Nat} {rest : List Nat}
theorem QE.leave0 (hn : b.kind = .normal) (hd : a.defers = []) (hf : P.funcs[b.fn]? = some fn) (hr : fn.results = #[])
    (hq : QE P d (G (b₀.at (a₀.put ((ops[i]?).bind (·.dst)) (.tuple #[])) (.inRegion ops rest :: k)) cs)) : QE P d (G { b.at a todo with mode := .returning } (b₀.at a₀ (.inRegion ops (i :: rest) :: k) :: cs)) :=
  let ⟨n, hq⟩ := hq; ⟨n + 1, .leave0 hn hd hf hr hq⟩
theorem QE.leave1 {t : Tmp} (hn : b.kind = .normal) (hd : a.defers = []) (hf : P.funcs[b.fn]? = some fn) (hr : fn.results = #[.tmp t])
    (hq : QE P d (G (b₀.at (a₀.put ((ops[i]?).bind (·.dst)) (a.tmps.getD t undef)) (.inRegion ops rest :: k)) cs)) : QE P d (G { b.at a todo with mode := .returning } (b₀.at a₀ (.inRegion ops (i :: rest) :: k) :: cs)) :=
  let ⟨n, hq⟩ := hq; ⟨n + 1, .leave1 hn hd hf hr hq⟩
theorem QE.leaveD {c : Frame} (hn : b.kind = .deferred) (hd : a.defers = []) (hf : P.funcs[b.fn]? = some fn) (hr : fn.results = #[]) (hc : c.mode = .returning) (hq : QE P d (G c cs)) : QE P d (G { b.at a todo with mode := .returning } (c :: cs)) :=
  let ⟨n, hq⟩ := hq; ⟨n + 1, .leaveD hn hd hf hr hc hq⟩
end
end
theorem deafBehind_en : deafBehind 1 #[(⟨.mark .enable, false, true⟩ : Event)] = 0 := rfl
theorem followW_q {P : Program} {z : Nat → Value} {ty : TypeId × Bool} {Wg : Nat} {T : List Nat} {d : Nat} {g : Goroutine} {w : World} (h : QE P d g) : FollowW P z ty Wg T d [] g w := let ⟨_, h⟩ := h; followW_nil h

noncomputable def body39 : Code := Try.f39.body.getD .skip
noncomputable def body23 : Code := Try.f23.body.getD .skip
noncomputable def body33 : Code := Try.f33.body.getD .skip
noncomputable def ops39 : Array Oper := match body39 with | .region _ ops _ => ops | _ => #[]
noncomputable def tail23 : Code := match body23 with | .seq _ (.seq _ (.seq _ (.seq _ r))) => r | _ => .skip
noncomputable def ops23 : Array Oper := match body23 with | .seq _ (.seq _ (.seq _ (.seq (.region _ ops _) _))) => ops | _ => #[]
noncomputable def ops33 : Array Oper := match body33 with | .seq _ (.seq (.region _ ops _) _) => ops | _ => #[]

theorem x26 : Extern.find Try.f26 = some (Extern.Race.marked .releaseMerge) := by kernel_rfl
theorem x27 : Extern.find Try.f27 = some (fun _ => do mark .disable; pure Extern.Race.none_) := by kernel_rfl
theorem x28 : Extern.find Try.f28 = some (fun _ => do mark .enable; pure Extern.Race.none_) := by kernel_rfl
theorem x29 : Extern.find Try.f29 = some (fun _ => pure (.bool false)) := by kernel_rfl
theorem x34 : Extern.find Try.f34 = some (Extern.Race.marked .read) := by kernel_rfl
theorem x38 : Extern.find Try.f38 = some Extern.Sync.semrelease := by kernel_rfl
theorem x40 : Extern.find Try.f40 = some (Extern.Race.marked .acquire) := by kernel_rfl
theorem x43 : Extern.find Try.f43 = some (Extern.Race.marked .write) := by kernel_rfl
theorem x44 : Extern.find Try.f44 = some Extern.Sync.semacquire := by kernel_rfl
theorem x46 : Extern.find Try.f46 = some (Extern.Atomic.update (Op.intArith .add) .u64 true) := by kernel_rfl
theorem x47 : Extern.find Try.f47 = some (Extern.Atomic.loadT (.int .u64)) := by kernel_rfl
theorem x48 : Extern.find Try.f48 = some Extern.Atomic.storeT := by kernel_rfl
theorem x49 : Extern.find Try.f49 = some (Extern.Atomic.casT (.int .u64)) := by kernel_rfl
theorem n26 : Extern.findNext Try.f26 = none := by kernel_rfl
theorem n27 : Extern.findNext Try.f27 = none := by kernel_rfl
theorem n28 : Extern.findNext Try.f28 = none := by kernel_rfl
theorem n29 : Extern.findNext Try.f29 = none := by kernel_rfl
theorem n34 : Extern.findNext Try.f34 = none := by kernel_rfl
theorem n38 : Extern.findNext Try.f38 = none := by kernel_rfl
theorem n40 : Extern.findNext Try.f40 = none := by kernel_rfl
theorem n43 : Extern.findNext Try.f43 = none := by kernel_rfl
theorem n44 : Extern.findNext Try.f44 = none := by kernel_rfl
theorem n46 : Extern.findNext Try.f46 = none := by kernel_rfl
theorem n47 : Extern.findNext Try.f47 = none := by kernel_rfl
theorem n48 : Extern.findNext Try.f48 = none := by kernel_rfl
theorem n49 : Extern.findNext Try.f49 = none := by kernel_rfl

theorem zs47 : (Try.prog.info? 47).map (fun i => decide (i.size = 0)) = some false := by kernel_rfl
theorem WgLive.cell0 {ty : TypeId} {Wg : Nat} {w : World} (h : WgLive ty Wg w) : ∃ v, w.cell? ⟨Wg, 0, none⟩ = some v := let ⟨_, _, x⟩ := h; ⟨_, Go.ConcR.WgAt.cellSt x⟩
theorem WgLive.cell1 {ty : TypeId} {Wg : Nat} {w : World} (h : WgLive ty Wg w) : ∃ v, w.cell? ⟨Wg, 1, none⟩ = some v := let ⟨_, _, x⟩ := h; ⟨_, Go.ConcR.WgAt.cellSm x⟩

section
variable (T : List Nat) (Wg : Nat) (c : Frame) (cs : List Frame)

/-- At the count's fall. -/
noncomputable def dec46 : Goroutine :=
  G ((base 33).at ⟨#[.pointer (some ⟨Wg, 0, none⟩), .int .u64 (IntKind.u64.wrap (IntKind.u64.wrap (-1) * 4294967296)), undef, undef, .int .u64 0, .pointer (some ⟨Wg, 0, none⟩), .pointer (some ⟨Wg, 0, none⟩), .pointer (some ⟨Wg, 0, none⟩), .int .u64 (IntKind.u64.wrap (IntKind.u64.wrap (-1) * 4294967296)), undef], []⟩ [.inRegion ops33 [4, 5], .code .ret])
    ((base 23).at ⟨#[.pointer (some ⟨Wg, 0, none⟩), .int .i64 (-1), undef, undef, .bool false, undef, undef, undef, undef, .int .i64 (-1), .bool true, .pointer (some ⟨Wg, 0, none⟩), .pointer (some ⟨Wg, 0, none⟩), .tuple #[], .tuple #[], .bool false, undef, undef, undef, undef, undef, undef, undef, undef, undef, undef, undef, undef, undef, undef, undef, undef, undef, undef, undef, undef, undef, .pointer (some ⟨Wg, 0, none⟩), .pointer (some ⟨Wg, 0, none⟩), .pointer (some ⟨Wg, 0, none⟩), .int .i64 (-1), .int .u64 (IntKind.u64.wrap (-1)), .int .u64 (IntKind.u64.wrap (IntKind.u64.wrap (-1) * 4294967296)), undef, undef, undef, undef, undef, undef, undef, undef, undef, undef, undef, undef, undef, undef, undef, undef, undef, undef, undef, undef, undef, undef, undef, undef, undef, undef, undef, undef, undef, undef, undef, undef, undef, undef, undef, undef, undef, undef, undef, undef, undef, undef, undef, undef, undef, undef, undef, undef, undef, undef, undef, undef, undef, undef, undef, undef, undef, undef, undef, undef, undef, undef, undef, undef, undef, undef, undef, undef, undef, undef, undef, undef, undef, undef], [dcall 28 #[]]⟩ [.inRegion ops23 [6, 7], .code tail23] :: (baseD 39).at ⟨#[.pointer (some ⟨Wg, 0, none⟩), undef, .pointer (some ⟨Wg, 0, none⟩), undef], []⟩ [.inRegion ops39 [1]] :: c :: cs)

set_option maxRecDepth 100000 in
theorem done_a (w : World) (hF : WgLive 47 Wg w) (next : ∀ w, stopW Try.prog zi (47, true) Wg T 1 [.dec 3, .ldl, .clr, .rls] (dec46 Wg c cs) w) :
    Goes Try.prog false (RW (47, true) Wg T) (DWp T (.say (.releaseMerge (stA Wg)))) (stopW Try.prog zi (47, true) Wg T 0 [.say (.releaseMerge (stA Wg)), .say .disable, .dec 3, .ldl, .clr, .rls]) 40 (G ((baseD 39).at ⟨#[.pointer (some ⟨Wg, 0, none⟩), undef, undef, undef], []⟩ [.code body39]) (c :: cs)) w := by
  have hD : DWp T (.say (.releaseMerge (stA Wg))) = DW T := by simp [DWp, Pr.quiet]
  rw [hD]
  clear hD
  simp only [dec46, ops39, ops23, ops33, tail23, body39, body23, body33, Try.f39, Try.f23, Try.f33, Option.getD_some] at next ⊢
  repeat (first | (first | ((with_reducible first | refine goes_rend ?_ ?_ | refine goes_sq ?_ ?_ | refine goes_sk ?_ ?_ | refine goes_bl ?_ ?_ | refine goes_lo ?_ ?_ | refine goes_ib ?_ ?_ | refine goes_il ?_ ?_ | refine goes_rt ?_ ?_ | refine goes_en ?_ ?_); exact termsW _ _ _; intro _ h₁; replace hF := h₁.live rfl hF; clear h₁) | (with_reducible refine goes_rg ?_ ?_; exact termsW _ _ _; intro _ h₁; replace hF := h₁.live rfl hF; clear h₁; simp only [List.size_toArray, List.length_cons, List.length_nil, Nat.reduceAdd, Nat.zero_add, List.range, List.range.loop])) | (refine Goes.step rfl (fun w₁ h₁ => ?_); replace hF := h₁.live rfl hF; clear h₁; refine goes_oper_k rfl rfl (by decide) (fun K hK => ?_); go_simp; refine hK _ _ ⟨⟨rfl, fun e he => ?_⟩, ?_⟩; (focus (have hm := mem_listed he; (simp [go_sem, *] at hm); done)); (clear hK K); (try walk_nrm)))
  refine Goes.step rfl (fun _ h₁ => ?_)
  replace hF := h₁.live rfl hF
  clear h₁
  refine goes_call rfl rfl (by decide) rfl Try.func23 (by simp [Try.f23]) rfl ⟨⟨rfl, by simp⟩, ?_⟩
  walk_nrmf Try.f23
  repeat (first | (first | ((with_reducible first | refine goes_rend ?_ ?_ | refine goes_sq ?_ ?_ | refine goes_sk ?_ ?_ | refine goes_bl ?_ ?_ | refine goes_lo ?_ ?_ | refine goes_ib ?_ ?_ | refine goes_il ?_ ?_ | refine goes_rt ?_ ?_ | refine goes_en ?_ ?_); exact termsW _ _ _; intro _ h₁; replace hF := h₁.live rfl hF; clear h₁) | (with_reducible refine goes_rg ?_ ?_; exact termsW _ _ _; intro _ h₁; replace hF := h₁.live rfl hF; clear h₁; simp only [List.size_toArray, List.length_cons, List.length_nil, Nat.reduceAdd, Nat.zero_add, List.range, List.range.loop])) | (refine Goes.step rfl (fun w₁ h₁ => ?_); replace hF := h₁.live rfl hF; clear h₁; refine goes_oper_k rfl rfl (by decide) (fun K hK => ?_); go_simp; refine hK _ _ ⟨⟨rfl, fun e he => ?_⟩, ?_⟩; (focus (have hm := mem_listed he; (simp [go_sem, *] at hm); done)); (clear hK K); (try walk_nrm)))
  (refine goes_cd (termsW _ _ _) true rfl (fun _ h₁ => ?_); replace hF := h₁.live rfl hF; clear h₁; simp only [if_true, if_false, Bool.false_eq_true, ↓reduceIte])
  repeat (first | (first | ((with_reducible first | refine goes_rend ?_ ?_ | refine goes_sq ?_ ?_ | refine goes_sk ?_ ?_ | refine goes_bl ?_ ?_ | refine goes_lo ?_ ?_ | refine goes_ib ?_ ?_ | refine goes_il ?_ ?_ | refine goes_rt ?_ ?_ | refine goes_en ?_ ?_); exact termsW _ _ _; intro _ h₁; replace hF := h₁.live rfl hF; clear h₁) | (with_reducible refine goes_rg ?_ ?_; exact termsW _ _ _; intro _ h₁; replace hF := h₁.live rfl hF; clear h₁; simp only [List.size_toArray, List.length_cons, List.length_nil, Nat.reduceAdd, Nat.zero_add, List.range, List.range.loop])) | (refine Goes.step rfl (fun w₁ h₁ => ?_); replace hF := h₁.live rfl hF; clear h₁; refine goes_oper_k rfl rfl (by decide) (fun K hK => ?_); go_simp; refine hK _ _ ⟨⟨rfl, fun e he => ?_⟩, ?_⟩; (focus (have hm := mem_listed he; (simp [go_sem, *] at hm); done)); (clear hK K); (try walk_nrm)))
  (refine goes_cd (termsW _ _ _) true rfl (fun _ h₁ => ?_); replace hF := h₁.live rfl hF; clear h₁; simp only [if_true, if_false, Bool.false_eq_true, ↓reduceIte])
  repeat (first | (first | ((with_reducible first | refine goes_rend ?_ ?_ | refine goes_sq ?_ ?_ | refine goes_sk ?_ ?_ | refine goes_bl ?_ ?_ | refine goes_lo ?_ ?_ | refine goes_ib ?_ ?_ | refine goes_il ?_ ?_ | refine goes_rt ?_ ?_ | refine goes_en ?_ ?_); exact termsW _ _ _; intro _ h₁; replace hF := h₁.live rfl hF; clear h₁) | (with_reducible refine goes_rg ?_ ?_; exact termsW _ _ _; intro _ h₁; replace hF := h₁.live rfl hF; clear h₁; simp only [List.size_toArray, List.length_cons, List.length_nil, Nat.reduceAdd, Nat.zero_add, List.range, List.range.loop])) | (refine Goes.step rfl (fun w₁ h₁ => ?_); replace hF := h₁.live rfl hF; clear h₁; refine goes_oper_k rfl rfl (by decide) (fun K hK => ?_); go_simp; refine hK _ _ ⟨⟨rfl, fun e he => ?_⟩, ?_⟩; (focus (have hm := mem_listed he; (simp [go_sem, *] at hm); done)); (clear hK K); (try walk_nrm)))
  (refine Goes.step rfl (fun _ h₁ => ?_); replace hF := h₁.live rfl hF; clear h₁; refine goes_oper_k rfl rfl (by decide) (fun Kx hKx => ?_); have hcv := run_convert_to_unsafe (P := Try.prog) Try.underlying52 Try.underlying56 zs47 (WgLive.cell0 hF).choose_spec; have hce := fun es => events_convert_to_unsafe (P := Try.prog) Try.underlying52 Try.underlying56 zs47 (WgLive.cell0 hF).choose_spec es; go_simp; refine hKx _ _ ⟨⟨rfl, fun e he => ?_⟩, ?_⟩; (focus (have hm := mem_listed he; (simp [go_sem, hce] at hm))); (clear hKx Kx hcv hce); (try walk_nrm))
  refine Goes.stop fun w₁ h₁ => ⟨rfl, _, stepG_markAt .releaseMerge (by simp) rfl rfl (by decide) rfl Try.func26 (by simp [Try.f26]) (by simp [Try.f26]) n26 x26 (by simp [Act.eval, stA]), ?_⟩
  clear h₁ hF
  refine followW_of (p := .say .disable) (ps := [.dec 3, .ldl, .clr, .rls]) (n := 40) ?_
  have hD : DWp T (.say .disable) = D0 := by simp [DWp, Pr.quiet]
  rw [hD]
  clear hD
  try walk_nrm
  (repeat (first | (first | ((with_reducible first | refine goes_rend ?_ ?_ | refine goes_sq ?_ ?_ | refine goes_sk ?_ ?_ | refine goes_bl ?_ ?_ | refine goes_lo ?_ ?_ | refine goes_ib ?_ ?_ | refine goes_il ?_ ?_ | refine goes_rt ?_ ?_ | refine goes_en ?_ ?_); exact termsD0 _ _ _; intro _ h₁; clear h₁) | (with_reducible refine goes_rg ?_ ?_; exact termsD0 _ _ _; intro _ h₁; clear h₁; simp only [List.size_toArray, List.length_cons, List.length_nil, Nat.reduceAdd, Nat.zero_add, List.range, List.range.loop])) | (refine Goes.step rfl (fun w₁ h₁ => ?_); refine goes_oper_k rfl rfl (by decide) (fun K hK => ?_); go_simp; refine hK _ _ ⟨⟨rfl, Array.eq_empty_iff_forall_not_mem.2 (fun e he => ?_)⟩, ?_⟩; (focus (have hm := mem_listed he; (simp [go_sem, *] at hm); done)); (clear hK K h₁); (try walk_nrm)) | (refine goes_un (termsD0 _ _ _) rfl rfl (fun _ h₁ => ?_); clear h₁; (try walk_nrm))))
  refine Goes.stop fun w₂ h₂ => ⟨rfl, _, stepG_mark0 .disable (by simp) rfl rfl (by decide) rfl Try.func27 (by simp [Try.f27]) (by simp [Try.f27]) n27 x27, ?_⟩
  clear h₂
  refine followW_of (p := .dec 3) (ps := [.ldl, .clr, .rls]) (n := 80) ?_
  have hD : DWp T (.dec 3) = D0 := by simp [DWp, Pr.quiet]
  rw [hD]
  clear hD
  try walk_nrm
  (repeat (first | (first | ((with_reducible first | refine goes_rend ?_ ?_ | refine goes_sq ?_ ?_ | refine goes_sk ?_ ?_ | refine goes_bl ?_ ?_ | refine goes_lo ?_ ?_ | refine goes_ib ?_ ?_ | refine goes_il ?_ ?_ | refine goes_rt ?_ ?_ | refine goes_en ?_ ?_); exact termsD0 _ _ _; intro _ h₁; clear h₁) | (with_reducible refine goes_rg ?_ ?_; exact termsD0 _ _ _; intro _ h₁; clear h₁; simp only [List.size_toArray, List.length_cons, List.length_nil, Nat.reduceAdd, Nat.zero_add, List.range, List.range.loop])) | (refine Goes.step rfl (fun w₁ h₁ => ?_); refine goes_oper_k rfl rfl (by decide) (fun K hK => ?_); go_simp; refine hK _ _ ⟨⟨rfl, Array.eq_empty_iff_forall_not_mem.2 (fun e he => ?_)⟩, ?_⟩; (focus (have hm := mem_listed he; (simp [go_sem, *] at hm); done)); (clear hK K h₁); (try walk_nrm)) | (refine goes_un (termsD0 _ _ _) rfl rfl (fun _ h₁ => ?_); clear h₁; (try walk_nrm))))
  (refine Goes.step rfl (fun _ h₁ => ?_); rw [stepG_defer rfl rfl (by decide) rfl]; simp only [goes_go]; refine ⟨⟨rfl, rfl⟩, ?_⟩; clear h₁; (try walk_nrm))
  (repeat (first | (first | ((with_reducible first | refine goes_rend ?_ ?_ | refine goes_sq ?_ ?_ | refine goes_sk ?_ ?_ | refine goes_bl ?_ ?_ | refine goes_lo ?_ ?_ | refine goes_ib ?_ ?_ | refine goes_il ?_ ?_ | refine goes_rt ?_ ?_ | refine goes_en ?_ ?_); exact termsD0 _ _ _; intro _ h₁; clear h₁) | (with_reducible refine goes_rg ?_ ?_; exact termsD0 _ _ _; intro _ h₁; clear h₁; simp only [List.size_toArray, List.length_cons, List.length_nil, Nat.reduceAdd, Nat.zero_add, List.range, List.range.loop])) | (refine Goes.step rfl (fun w₁ h₁ => ?_); refine goes_oper_k rfl rfl (by decide) (fun K hK => ?_); go_simp; refine hK _ _ ⟨⟨rfl, Array.eq_empty_iff_forall_not_mem.2 (fun e he => ?_)⟩, ?_⟩; (focus (have hm := mem_listed he; (simp [go_sem, *] at hm); done)); (clear hK K h₁); (try walk_nrm)) | (refine goes_un (termsD0 _ _ _) rfl rfl (fun _ h₁ => ?_); clear h₁; (try walk_nrm))))
  (refine Goes.step rfl (fun _ h₁ => ?_); rw [stepG_entry_pure (.bool false) rfl rfl (by decide) rfl Try.func29 (by simp [Try.f29]) (by simp [Try.f29]) n29 x29]; simp only [goes_go]; refine ⟨⟨rfl, rfl⟩, ?_⟩; clear h₁; (try walk_nrm))
  (repeat (first | (first | ((with_reducible first | refine goes_rend ?_ ?_ | refine goes_sq ?_ ?_ | refine goes_sk ?_ ?_ | refine goes_bl ?_ ?_ | refine goes_lo ?_ ?_ | refine goes_ib ?_ ?_ | refine goes_il ?_ ?_ | refine goes_rt ?_ ?_ | refine goes_en ?_ ?_); exact termsD0 _ _ _; intro _ h₁; clear h₁) | (with_reducible refine goes_rg ?_ ?_; exact termsD0 _ _ _; intro _ h₁; clear h₁; simp only [List.size_toArray, List.length_cons, List.length_nil, Nat.reduceAdd, Nat.zero_add, List.range, List.range.loop])) | (refine Goes.step rfl (fun w₁ h₁ => ?_); refine goes_oper_k rfl rfl (by decide) (fun K hK => ?_); go_simp; refine hK _ _ ⟨⟨rfl, Array.eq_empty_iff_forall_not_mem.2 (fun e he => ?_)⟩, ?_⟩; (focus (have hm := mem_listed he; (simp [go_sem, *] at hm); done)); (clear hK K h₁); (try walk_nrm)) | (refine goes_un (termsD0 _ _ _) rfl rfl (fun _ h₁ => ?_); clear h₁; (try walk_nrm))))
  (refine goes_cd (termsD0 _ _ _) false rfl (fun _ h₁ => ?_); clear h₁; simp only [if_true, if_false, Bool.false_eq_true, ↓reduceIte])
  (repeat (first | (first | ((with_reducible first | refine goes_rend ?_ ?_ | refine goes_sq ?_ ?_ | refine goes_sk ?_ ?_ | refine goes_bl ?_ ?_ | refine goes_lo ?_ ?_ | refine goes_ib ?_ ?_ | refine goes_il ?_ ?_ | refine goes_rt ?_ ?_ | refine goes_en ?_ ?_); exact termsD0 _ _ _; intro _ h₁; clear h₁) | (with_reducible refine goes_rg ?_ ?_; exact termsD0 _ _ _; intro _ h₁; clear h₁; simp only [List.size_toArray, List.length_cons, List.length_nil, Nat.reduceAdd, Nat.zero_add, List.range, List.range.loop])) | (refine Goes.step rfl (fun w₁ h₁ => ?_); refine goes_oper_k rfl rfl (by decide) (fun K hK => ?_); go_simp; refine hK _ _ ⟨⟨rfl, Array.eq_empty_iff_forall_not_mem.2 (fun e he => ?_)⟩, ?_⟩; (focus (have hm := mem_listed he; (simp [go_sem, *] at hm); done)); (clear hK K h₁); (try walk_nrm)) | (refine goes_un (termsD0 _ _ _) rfl rfl (fun _ h₁ => ?_); clear h₁; (try walk_nrm))))
  (refine Goes.step rfl (fun _ h₁ => ?_); refine goes_call rfl rfl (by decide) rfl Try.func33 (by simp [Try.f33]) rfl ⟨⟨rfl, rfl⟩, ?_⟩; clear h₁; walk_nrmf Try.f33)
  (repeat (first | (first | ((with_reducible first | refine goes_rend ?_ ?_ | refine goes_sq ?_ ?_ | refine goes_sk ?_ ?_ | refine goes_bl ?_ ?_ | refine goes_lo ?_ ?_ | refine goes_ib ?_ ?_ | refine goes_il ?_ ?_ | refine goes_rt ?_ ?_ | refine goes_en ?_ ?_); exact termsD0 _ _ _; intro _ h₁; clear h₁) | (with_reducible refine goes_rg ?_ ?_; exact termsD0 _ _ _; intro _ h₁; clear h₁; simp only [List.size_toArray, List.length_cons, List.length_nil, Nat.reduceAdd, Nat.zero_add, List.range, List.range.loop])) | (refine Goes.step rfl (fun w₁ h₁ => ?_); refine goes_oper_k rfl rfl (by decide) (fun K hK => ?_); go_simp; refine hK _ _ ⟨⟨rfl, Array.eq_empty_iff_forall_not_mem.2 (fun e he => ?_)⟩, ?_⟩; (focus (have hm := mem_listed he; (simp [go_sem, *] at hm); done)); (clear hK K h₁); (try walk_nrm)) | (refine goes_un (termsD0 _ _ _) rfl rfl (fun _ h₁ => ?_); clear h₁; (try walk_nrm))))
  exact Goes.stop fun w₃ _ => next w₃
end
end Go.Proofs.Ytplndihadjfliaa.Mix
/-
  CREW: the walk of (*sync.WaitGroup).Done, deferred: from the count's fall, where it is not the last one.
-/
set_option linter.unusedSimpArgs false
set_option linter.unusedVariables false
set_option maxHeartbeats 8000000
namespace Go.Proofs.Ytplndihadjfliaa.Mix
open Go Go.Conc Go.ConcN Go.Proofs
open Go.ConcR (KK wgBlock WgAt stA smA rd wr)

section
variable (T : List Nat) (Wg : Nat) {c : Frame} {cs : List Frame}

/-- .. as it stands behind the count's fall. -/
noncomputable def dec33 (c : Frame) (cs : List Frame) (S : Int) : Goroutine :=
  G ((base 33).at ⟨#[.pointer (some ⟨Wg, 0, none⟩), .int .u64 18446744069414584320, undef, undef, .int .u64 0, .pointer (some ⟨Wg, 0, none⟩), .pointer (some ⟨Wg, 0, none⟩), .pointer (some ⟨Wg, 0, none⟩), .int .u64 18446744069414584320, .int .u64 S], []⟩ [.inRegion ops33 [5], .code .ret])
    ((base 23).at ⟨#[.pointer (some ⟨Wg, 0, none⟩), .int .i64 (-1), undef, undef, .bool false, undef, undef, undef, undef, .int .i64 (-1), .bool true, .pointer (some ⟨Wg, 0, none⟩), .pointer (some ⟨Wg, 0, none⟩), .tuple #[], .tuple #[], .bool false, undef, undef, undef, undef, undef, undef, undef, undef, undef, undef, undef, undef, undef, undef, undef, undef, undef, undef, undef, undef, undef, .pointer (some ⟨Wg, 0, none⟩), .pointer (some ⟨Wg, 0, none⟩), .pointer (some ⟨Wg, 0, none⟩), .int .i64 (-1), .int .u64 18446744073709551615, .int .u64 18446744069414584320, undef, undef, undef, undef, undef, undef, undef, undef, undef, undef, undef, undef, undef, undef, undef, undef, undef, undef, undef, undef, undef, undef, undef, undef, undef, undef, undef, undef, undef, undef, undef, undef, undef, undef, undef, undef, undef, undef, undef, undef, undef, undef, undef, undef, undef, undef, undef, undef, undef, undef, undef, undef, undef, undef, undef, undef, undef, undef, undef, undef, undef, undef, undef, undef, undef, undef, undef, undef, undef, undef, undef, undef, undef, undef], [dcall 28 #[]]⟩ [.inRegion ops23 [6, 7], .code tail23] :: (baseD 39).at ⟨#[.pointer (some ⟨Wg, 0, none⟩), undef, .pointer (some ⟨Wg, 0, none⟩), undef], []⟩ [.inRegion ops39 [1]] :: c :: cs)

set_option maxRecDepth 100000 in
theorem dec_q00 (hcm : c.mode = .returning) (hT : QE Try.prog 0 (G c cs)) : QE Try.prog 1 (dec33 Wg c cs 0) := by
    simp only [dec33, ops39, ops23, ops33, tail23, body39, body23, body33, Try.f39, Try.f23, Try.f33, Option.getD_some]
    (refine QE.value (.int .u64 0) rfl rfl (by decide) (fun _ => by go_simp; try (first | omega | (w_num; omega) | w_num | decide)) (fun _ => by simp [go_sem, *]) ?_; (try walk_nrm))
    (repeat (first | (with_reducible first | refine QE.rend ?_ | refine QE.sq ?_ | refine QE.sk ?_ | refine QE.bl ?_ | refine QE.lo ?_ | refine QE.ib ?_ | refine QE.il ?_ | refine QE.rt ?_ | refine QE.en ?_) | (with_reducible refine QE.rg ?_; simp only [List.size_toArray, List.length_cons, List.length_nil, Nat.reduceAdd, Nat.zero_add, List.range, List.range.loop])))
    (refine QE.leave1 rfl rfl Try.func33 (by simp only [Try.f33]; rfl) ?_; (try walk_nrm))
    (refine QE.value (.int .u64 0) rfl rfl (by decide) (fun _ => by go_simp; try (first | omega | (w_num; omega) | w_num | decide)) (fun _ => by simp [go_sem, *]) ?_; (try walk_nrm))
    (repeat (first | (with_reducible first | refine QE.rend ?_ | refine QE.sq ?_ | refine QE.sk ?_ | refine QE.bl ?_ | refine QE.lo ?_ | refine QE.ib ?_ | refine QE.il ?_ | refine QE.rt ?_ | refine QE.en ?_) | (with_reducible refine QE.rg ?_; simp only [List.size_toArray, List.length_cons, List.length_nil, Nat.reduceAdd, Nat.zero_add, List.range, List.range.loop])))
    (refine QE.value (.int .u64 0) rfl rfl (by decide) (fun _ => by go_simp; try (first | omega | (w_num; omega) | w_num | decide)) (fun _ => by simp [go_sem, *]) ?_; (try walk_nrm))
    (refine QE.value (.int .u64 0) rfl rfl (by decide) (fun _ => by go_simp; try (first | omega | (w_num; omega) | w_num | decide)) (fun _ => by simp [go_sem, *]) ?_; (try walk_nrm))
    (refine QE.value (.bool false) rfl rfl (by decide) (fun _ => by go_simp; try (first | omega | (w_num; omega) | w_num | decide)) (fun _ => by simp [go_sem, *]) ?_; (try walk_nrm))
    (refine QE.value (.bool false) rfl rfl (by decide) (fun _ => by go_simp; try (first | omega | (w_num; omega) | w_num | decide)) (fun _ => by simp [go_sem, *]) ?_; (try walk_nrm))
    (refine QE.unwanted rfl rfl ?_; (try walk_nrm))
    (refine QE.unwanted rfl rfl ?_; (try walk_nrm))
    (refine QE.value (.bool false) rfl rfl (by decide) (fun _ => by go_simp; try (first | omega | (w_num; omega) | w_num | decide)) (fun _ => by simp [go_sem, *]) ?_; (try walk_nrm))
    (repeat (first | (with_reducible first | refine QE.rend ?_ | refine QE.sq ?_ | refine QE.sk ?_ | refine QE.bl ?_ | refine QE.lo ?_ | refine QE.ib ?_ | refine QE.il ?_ | refine QE.rt ?_ | refine QE.en ?_) | (with_reducible refine QE.rg ?_; simp only [List.size_toArray, List.length_cons, List.length_nil, Nat.reduceAdd, Nat.zero_add, List.range, List.range.loop])))
    (refine QE.cd false rfl ?_; simp only [if_true, if_false, Bool.false_eq_true, ↓reduceIte])
    (repeat (first | (with_reducible first | refine QE.rend ?_ | refine QE.sq ?_ | refine QE.sk ?_ | refine QE.bl ?_ | refine QE.lo ?_ | refine QE.ib ?_ | refine QE.il ?_ | refine QE.rt ?_ | refine QE.en ?_) | (with_reducible refine QE.rg ?_; simp only [List.size_toArray, List.length_cons, List.length_nil, Nat.reduceAdd, Nat.zero_add, List.range, List.range.loop])))
    (refine QE.value (.int .u64 0) rfl rfl (by decide) (fun _ => by go_simp; try (first | omega | (w_num; omega) | w_num | decide)) (fun _ => by simp [go_sem, *]) ?_; (try walk_nrm))
    (refine QE.value (.int .u64 0) rfl rfl (by decide) (fun _ => by go_simp; try (first | omega | (w_num; omega) | w_num | decide)) (fun _ => by simp [go_sem, *]) ?_; (try walk_nrm))
    (refine QE.value (.int .i32 0) rfl rfl (by decide) (fun _ => by go_simp; try (first | omega | (w_num; omega) | w_num | decide)) (fun _ => by simp [go_sem, *]) ?_; (try walk_nrm))
    (refine QE.value (.int .i32 0) rfl rfl (by decide) (fun _ => by go_simp; try (first | omega | (w_num; omega) | w_num | decide)) (fun _ => by simp [go_sem, *]) ?_; (try walk_nrm))
    (repeat (first | (with_reducible first | refine QE.rend ?_ | refine QE.sq ?_ | refine QE.sk ?_ | refine QE.bl ?_ | refine QE.lo ?_ | refine QE.ib ?_ | refine QE.il ?_ | refine QE.rt ?_ | refine QE.en ?_) | (with_reducible refine QE.rg ?_; simp only [List.size_toArray, List.length_cons, List.length_nil, Nat.reduceAdd, Nat.zero_add, List.range, List.range.loop])))
    (refine QE.value (.int .u64 0) rfl rfl (by decide) (fun _ => by go_simp; try (first | omega | (w_num; omega) | w_num | decide)) (fun _ => by simp [go_sem, *]) ?_; (try walk_nrm))
    (refine QE.value (.int .u64 0) rfl rfl (by decide) (fun _ => by go_simp; try (first | omega | (w_num; omega) | w_num | decide)) (fun _ => by simp [go_sem, *]) ?_; (try walk_nrm))
    (refine QE.value (.int .u32 0) rfl rfl (by decide) (fun _ => by go_simp; try (first | omega | (w_num; omega) | w_num | decide)) (fun _ => by simp [go_sem, *]) ?_; (try walk_nrm))
    (refine QE.value (.int .u32 0) rfl rfl (by decide) (fun _ => by go_simp; try (first | omega | (w_num; omega) | w_num | decide)) (fun _ => by simp [go_sem, *]) ?_; (try walk_nrm))
    (repeat (first | (with_reducible first | refine QE.rend ?_ | refine QE.sq ?_ | refine QE.sk ?_ | refine QE.bl ?_ | refine QE.lo ?_ | refine QE.ib ?_ | refine QE.il ?_ | refine QE.rt ?_ | refine QE.en ?_) | (with_reducible refine QE.rg ?_; simp only [List.size_toArray, List.length_cons, List.length_nil, Nat.reduceAdd, Nat.zero_add, List.range, List.range.loop])))
    (refine QE.value (.bool true) rfl rfl (by decide) (fun _ => by go_simp; try (first | omega | (w_num; omega) | w_num | decide)) (fun _ => by simp [go_sem, *]) ?_; (try walk_nrm))
    (refine QE.value (.int .i64 (-1)) rfl rfl (by decide) (fun _ => by go_simp; try (first | omega | (w_num; omega) | w_num | decide)) (fun _ => by simp [go_sem, *]) ?_; (try walk_nrm))
    (refine QE.value (.bool false) rfl rfl (by decide) (fun _ => by go_simp; try (first | omega | (w_num; omega) | w_num | decide)) (fun _ => by simp [go_sem, *]) ?_; (try walk_nrm))
    (refine QE.value (.bool false) rfl rfl (by decide) (fun _ => by go_simp; try (first | omega | (w_num; omega) | w_num | decide)) (fun _ => by simp [go_sem, *]) ?_; (try walk_nrm))
    (refine QE.value (.bool false) rfl rfl (by decide) (fun _ => by go_simp; try (first | omega | (w_num; omega) | w_num | decide)) (fun _ => by simp [go_sem, *]) ?_; (try walk_nrm))
    (refine QE.unwanted rfl rfl ?_; (try walk_nrm))
    (refine QE.unwanted rfl rfl ?_; (try walk_nrm))
    (refine QE.unwanted rfl rfl ?_; (try walk_nrm))
    (refine QE.unwanted rfl rfl ?_; (try walk_nrm))
    (refine QE.value (.bool false) rfl rfl (by decide) (fun _ => by go_simp; try (first | omega | (w_num; omega) | w_num | decide)) (fun _ => by simp [go_sem, *]) ?_; (try walk_nrm))
    (repeat (first | (with_reducible first | refine QE.rend ?_ | refine QE.sq ?_ | refine QE.sk ?_ | refine QE.bl ?_ | refine QE.lo ?_ | refine QE.ib ?_ | refine QE.il ?_ | refine QE.rt ?_ | refine QE.en ?_) | (with_reducible refine QE.rg ?_; simp only [List.size_toArray, List.length_cons, List.length_nil, Nat.reduceAdd, Nat.zero_add, List.range, List.range.loop])))
    (refine QE.cd false rfl ?_; simp only [if_true, if_false, Bool.false_eq_true, ↓reduceIte])
    (repeat (first | (with_reducible first | refine QE.rend ?_ | refine QE.sq ?_ | refine QE.sk ?_ | refine QE.bl ?_ | refine QE.lo ?_ | refine QE.ib ?_ | refine QE.il ?_ | refine QE.rt ?_ | refine QE.en ?_) | (with_reducible refine QE.rg ?_; simp only [List.size_toArray, List.length_cons, List.length_nil, Nat.reduceAdd, Nat.zero_add, List.range, List.range.loop])))
    (refine QE.value (.int .i32 0) rfl rfl (by decide) (fun _ => by go_simp; try (first | omega | (w_num; omega) | w_num | decide)) (fun _ => by simp [go_sem, *]) ?_; (try walk_nrm))
    (refine QE.value (.bool false) rfl rfl (by decide) (fun _ => by go_simp; try (first | omega | (w_num; omega) | w_num | decide)) (fun _ => by simp [go_sem, *]) ?_; (try walk_nrm))
    (repeat (first | (with_reducible first | refine QE.rend ?_ | refine QE.sq ?_ | refine QE.sk ?_ | refine QE.bl ?_ | refine QE.lo ?_ | refine QE.ib ?_ | refine QE.il ?_ | refine QE.rt ?_ | refine QE.en ?_) | (with_reducible refine QE.rg ?_; simp only [List.size_toArray, List.length_cons, List.length_nil, Nat.reduceAdd, Nat.zero_add, List.range, List.range.loop])))
    (refine QE.cd false rfl ?_; simp only [if_true, if_false, Bool.false_eq_true, ↓reduceIte])
    (repeat (first | (with_reducible first | refine QE.rend ?_ | refine QE.sq ?_ | refine QE.sk ?_ | refine QE.bl ?_ | refine QE.lo ?_ | refine QE.ib ?_ | refine QE.il ?_ | refine QE.rt ?_ | refine QE.en ?_) | (with_reducible refine QE.rg ?_; simp only [List.size_toArray, List.length_cons, List.length_nil, Nat.reduceAdd, Nat.zero_add, List.range, List.range.loop])))
    (refine QE.value (.int .u32 0) rfl rfl (by decide) (fun _ => by go_simp; try (first | omega | (w_num; omega) | w_num | decide)) (fun _ => by simp [go_sem, *]) ?_; (try walk_nrm))
    (refine QE.value (.bool false) rfl rfl (by decide) (fun _ => by go_simp; try (first | omega | (w_num; omega) | w_num | decide)) (fun _ => by simp [go_sem, *]) ?_; (try walk_nrm))
    (refine QE.value (.bool false) rfl rfl (by decide) (fun _ => by go_simp; try (first | omega | (w_num; omega) | w_num | decide)) (fun _ => by simp [go_sem, *]) ?_; (try walk_nrm))
    (refine QE.unwanted rfl rfl ?_; (try walk_nrm))
    (refine QE.unwanted rfl rfl ?_; (try walk_nrm))
    (refine QE.value (.bool false) rfl rfl (by decide) (fun _ => by go_simp; try (first | omega | (w_num; omega) | w_num | decide)) (fun _ => by simp [go_sem, *]) ?_; (try walk_nrm))
    (refine QE.value (.bool false) rfl rfl (by decide) (fun _ => by go_simp; try (first | omega | (w_num; omega) | w_num | decide)) (fun _ => by simp [go_sem, *]) ?_; (try walk_nrm))
    (refine QE.unwanted rfl rfl ?_; (try walk_nrm))
    (refine QE.unwanted rfl rfl ?_; (try walk_nrm))
    (refine QE.unwanted rfl rfl ?_; (try walk_nrm))
    (refine QE.unwanted rfl rfl ?_; (try walk_nrm))
    (refine QE.value (.bool false) rfl rfl (by decide) (fun _ => by go_simp; try (first | omega | (w_num; omega) | w_num | decide)) (fun _ => by simp [go_sem, *]) ?_; (try walk_nrm))
    (repeat (first | (with_reducible first | refine QE.rend ?_ | refine QE.sq ?_ | refine QE.sk ?_ | refine QE.bl ?_ | refine QE.lo ?_ | refine QE.ib ?_ | refine QE.il ?_ | refine QE.rt ?_ | refine QE.en ?_) | (with_reducible refine QE.rg ?_; simp only [List.size_toArray, List.length_cons, List.length_nil, Nat.reduceAdd, Nat.zero_add, List.range, List.range.loop])))
    (refine QE.cd false rfl ?_; simp only [if_true, if_false, Bool.false_eq_true, ↓reduceIte])
    (repeat (first | (with_reducible first | refine QE.rend ?_ | refine QE.sq ?_ | refine QE.sk ?_ | refine QE.bl ?_ | refine QE.lo ?_ | refine QE.ib ?_ | refine QE.il ?_ | refine QE.rt ?_ | refine QE.en ?_) | (with_reducible refine QE.rg ?_; simp only [List.size_toArray, List.length_cons, List.length_nil, Nat.reduceAdd, Nat.zero_add, List.range, List.range.loop])))
    (refine QE.value (.int .i32 0) rfl rfl (by decide) (fun _ => by go_simp; try (first | omega | (w_num; omega) | w_num | decide)) (fun _ => by simp [go_sem, *]) ?_; (try walk_nrm))
    (refine QE.value (.bool false) rfl rfl (by decide) (fun _ => by go_simp; try (first | omega | (w_num; omega) | w_num | decide)) (fun _ => by simp [go_sem, *]) ?_; (try walk_nrm))
    (refine QE.value (.bool false) rfl rfl (by decide) (fun _ => by go_simp; try (first | omega | (w_num; omega) | w_num | decide)) (fun _ => by simp [go_sem, *]) ?_; (try walk_nrm))
    (refine QE.value (.int .u32 0) rfl rfl (by decide) (fun _ => by go_simp; try (first | omega | (w_num; omega) | w_num | decide)) (fun _ => by simp [go_sem, *]) ?_; (try walk_nrm))
    (refine QE.value (.bool true) rfl rfl (by decide) (fun _ => by go_simp; try (first | omega | (w_num; omega) | w_num | decide)) (fun _ => by simp [go_sem, *]) ?_; (try walk_nrm))
    (refine QE.value (.bool true) rfl rfl (by decide) (fun _ => by go_simp; try (first | omega | (w_num; omega) | w_num | decide)) (fun _ => by simp [go_sem, *]) ?_; (try walk_nrm))
    (repeat (first | (with_reducible first | refine QE.rend ?_ | refine QE.sq ?_ | refine QE.sk ?_ | refine QE.bl ?_ | refine QE.lo ?_ | refine QE.ib ?_ | refine QE.il ?_ | refine QE.rt ?_ | refine QE.en ?_) | (with_reducible refine QE.rg ?_; simp only [List.size_toArray, List.length_cons, List.length_nil, Nat.reduceAdd, Nat.zero_add, List.range, List.range.loop])))
    (refine QE.cd true rfl ?_; simp only [if_true, if_false, Bool.false_eq_true, ↓reduceIte])
    (repeat (first | (with_reducible first | refine QE.rend ?_ | refine QE.sq ?_ | refine QE.sk ?_ | refine QE.bl ?_ | refine QE.lo ?_ | refine QE.ib ?_ | refine QE.il ?_ | refine QE.rt ?_ | refine QE.en ?_) | (with_reducible refine QE.rg ?_; simp only [List.size_toArray, List.length_cons, List.length_nil, Nat.reduceAdd, Nat.zero_add, List.range, List.range.loop])))
    (refine QE.unwind_mark .enable rfl (by simp) rfl Try.func28 (by simp [Try.f28]) (by simp [Try.f28]) n28 x28 ?_; simp only [deafBehind_en])
    (refine QE.leave0 rfl rfl Try.func23 (by simp only [Try.f23]) ?_; (try walk_nrm))
    (repeat (first | (with_reducible first | refine QE.rend ?_ | refine QE.sq ?_ | refine QE.sk ?_ | refine QE.bl ?_ | refine QE.lo ?_ | refine QE.ib ?_ | refine QE.il ?_ | refine QE.rt ?_ | refine QE.en ?_) | (with_reducible refine QE.rg ?_; simp only [List.size_toArray, List.length_cons, List.length_nil, Nat.reduceAdd, Nat.zero_add, List.range, List.range.loop])))
    exact QE.leaveD rfl rfl Try.func39 (by simp only [Try.f39]) hcm hT

set_option maxRecDepth 100000 in
theorem dec_qv0 (hcm : c.mode = .returning) (hT : QE Try.prog 0 (G c cs)) (v : Nat) (hv0 : 0 < v) (hv : v < 2147483647) (S : Int) (a1 : S / 4294967296 = (v : Int)) (a2 : 0 ≤ S ∧ S < 9223372036854775808) (b1 : bits .and .u64 S 2147483648 = 0) (b2 : bits .and .u64 S 2147483647 = 0) : QE Try.prog 1 (dec33 Wg c cs S) := by
    simp only [dec33, ops39, ops23, ops33, tail23, body39, body23, body33, Try.f39, Try.f23, Try.f33, Option.getD_some]
    (refine QE.value (.int .u64 S) rfl rfl (by decide) (fun _ => by go_simp; try (first | omega | (w_num; omega) | w_num | decide)) (fun _ => by simp [go_sem, *]) ?_; (try walk_nrm))
    (repeat (first | (with_reducible first | refine QE.rend ?_ | refine QE.sq ?_ | refine QE.sk ?_ | refine QE.bl ?_ | refine QE.lo ?_ | refine QE.ib ?_ | refine QE.il ?_ | refine QE.rt ?_ | refine QE.en ?_) | (with_reducible refine QE.rg ?_; simp only [List.size_toArray, List.length_cons, List.length_nil, Nat.reduceAdd, Nat.zero_add, List.range, List.range.loop])))
    (refine QE.leave1 rfl rfl Try.func33 (by simp only [Try.f33]; rfl) ?_; (try walk_nrm))
    (refine QE.value (.int .u64 S) rfl rfl (by decide) (fun _ => by go_simp; try (first | omega | (w_num; omega) | w_num | decide)) (fun _ => by simp [go_sem, *]) ?_; (try walk_nrm))
    (repeat (first | (with_reducible first | refine QE.rend ?_ | refine QE.sq ?_ | refine QE.sk ?_ | refine QE.bl ?_ | refine QE.lo ?_ | refine QE.ib ?_ | refine QE.il ?_ | refine QE.rt ?_ | refine QE.en ?_) | (with_reducible refine QE.rg ?_; simp only [List.size_toArray, List.length_cons, List.length_nil, Nat.reduceAdd, Nat.zero_add, List.range, List.range.loop])))
    (refine QE.value (.int .u64 S) rfl rfl (by decide) (fun _ => by go_simp; try (first | omega | (w_num; omega) | w_num | decide)) (fun _ => by simp [go_sem, *]) ?_; (try walk_nrm))
    (refine QE.value (.int .u64 0) rfl rfl (by decide) (fun _ => by go_simp; try (first | omega | (w_num; omega) | w_num | decide)) (fun _ => by simp [go_sem, *]) ?_; (try walk_nrm))
    (refine QE.value (.bool false) rfl rfl (by decide) (fun _ => by go_simp; try (first | omega | (w_num; omega) | w_num | decide)) (fun _ => by simp [go_sem, *]) ?_; (try walk_nrm))
    (refine QE.value (.bool false) rfl rfl (by decide) (fun _ => by go_simp; try (first | omega | (w_num; omega) | w_num | decide)) (fun _ => by simp [go_sem, *]) ?_; (try walk_nrm))
    (refine QE.unwanted rfl rfl ?_; (try walk_nrm))
    (refine QE.unwanted rfl rfl ?_; (try walk_nrm))
    (refine QE.value (.bool false) rfl rfl (by decide) (fun _ => by go_simp; try (first | omega | (w_num; omega) | w_num | decide)) (fun _ => by simp [go_sem, *]) ?_; (try walk_nrm))
    (repeat (first | (with_reducible first | refine QE.rend ?_ | refine QE.sq ?_ | refine QE.sk ?_ | refine QE.bl ?_ | refine QE.lo ?_ | refine QE.ib ?_ | refine QE.il ?_ | refine QE.rt ?_ | refine QE.en ?_) | (with_reducible refine QE.rg ?_; simp only [List.size_toArray, List.length_cons, List.length_nil, Nat.reduceAdd, Nat.zero_add, List.range, List.range.loop])))
    (refine QE.cd false rfl ?_; simp only [if_true, if_false, Bool.false_eq_true, ↓reduceIte])
    (repeat (first | (with_reducible first | refine QE.rend ?_ | refine QE.sq ?_ | refine QE.sk ?_ | refine QE.bl ?_ | refine QE.lo ?_ | refine QE.ib ?_ | refine QE.il ?_ | refine QE.rt ?_ | refine QE.en ?_) | (with_reducible refine QE.rg ?_; simp only [List.size_toArray, List.length_cons, List.length_nil, Nat.reduceAdd, Nat.zero_add, List.range, List.range.loop])))
    (refine QE.value (.int .u64 S) rfl rfl (by decide) (fun _ => by go_simp; try (first | omega | (w_num; omega) | w_num | decide)) (fun _ => by simp [go_sem, *]) ?_; (try walk_nrm))
    (refine QE.value (.int .u64 v) rfl rfl (by decide) (fun _ => by go_simp; try (first | omega | (w_num; omega) | w_num | decide)) (fun _ => by simp [go_sem, *]) ?_; (try walk_nrm))
    (refine QE.value (.int .i32 v) rfl rfl (by decide) (fun _ => by go_simp; try (first | omega | (w_num; omega) | w_num | decide)) (fun _ => by simp [go_sem, *]) ?_; (try walk_nrm))
    (refine QE.value (.int .i32 v) rfl rfl (by decide) (fun _ => by go_simp; try (first | omega | (w_num; omega) | w_num | decide)) (fun _ => by simp [go_sem, *]) ?_; (try walk_nrm))
    (repeat (first | (with_reducible first | refine QE.rend ?_ | refine QE.sq ?_ | refine QE.sk ?_ | refine QE.bl ?_ | refine QE.lo ?_ | refine QE.ib ?_ | refine QE.il ?_ | refine QE.rt ?_ | refine QE.en ?_) | (with_reducible refine QE.rg ?_; simp only [List.size_toArray, List.length_cons, List.length_nil, Nat.reduceAdd, Nat.zero_add, List.range, List.range.loop])))
    (refine QE.value (.int .u64 S) rfl rfl (by decide) (fun _ => by go_simp; try (first | omega | (w_num; omega) | w_num | decide)) (fun _ => by simp [go_sem, *]) ?_; (try walk_nrm))
    (refine QE.value (.int .u64 0) rfl rfl (by decide) (fun _ => by go_simp; try (first | omega | (w_num; omega) | w_num | decide)) (fun _ => by simp [go_sem, *]) ?_; (try walk_nrm))
    (refine QE.value (.int .u32 0) rfl rfl (by decide) (fun _ => by go_simp; try (first | omega | (w_num; omega) | w_num | decide)) (fun _ => by simp [go_sem, *]) ?_; (try walk_nrm))
    (refine QE.value (.int .u32 0) rfl rfl (by decide) (fun _ => by go_simp; try (first | omega | (w_num; omega) | w_num | decide)) (fun _ => by simp [go_sem, *]) ?_; (try walk_nrm))
    (repeat (first | (with_reducible first | refine QE.rend ?_ | refine QE.sq ?_ | refine QE.sk ?_ | refine QE.bl ?_ | refine QE.lo ?_ | refine QE.ib ?_ | refine QE.il ?_ | refine QE.rt ?_ | refine QE.en ?_) | (with_reducible refine QE.rg ?_; simp only [List.size_toArray, List.length_cons, List.length_nil, Nat.reduceAdd, Nat.zero_add, List.range, List.range.loop])))
    (refine QE.value (.bool true) rfl rfl (by decide) (fun _ => by go_simp; try (first | omega | (w_num; omega) | w_num | decide)) (fun _ => by simp [go_sem, *]) ?_; (try walk_nrm))
    (refine QE.value (.int .i64 (-1)) rfl rfl (by decide) (fun _ => by go_simp; try (first | omega | (w_num; omega) | w_num | decide)) (fun _ => by simp [go_sem, *]) ?_; (try walk_nrm))
    (refine QE.value (.bool false) rfl rfl (by decide) (fun _ => by go_simp; try (first | omega | (w_num; omega) | w_num | decide)) (fun _ => by simp [go_sem, *]) ?_; (try walk_nrm))
    (refine QE.value (.bool false) rfl rfl (by decide) (fun _ => by go_simp; try (first | omega | (w_num; omega) | w_num | decide)) (fun _ => by simp [go_sem, *]) ?_; (try walk_nrm))
    (refine QE.value (.bool false) rfl rfl (by decide) (fun _ => by go_simp; try (first | omega | (w_num; omega) | w_num | decide)) (fun _ => by simp [go_sem, *]) ?_; (try walk_nrm))
    (refine QE.unwanted rfl rfl ?_; (try walk_nrm))
    (refine QE.unwanted rfl rfl ?_; (try walk_nrm))
    (refine QE.unwanted rfl rfl ?_; (try walk_nrm))
    (refine QE.unwanted rfl rfl ?_; (try walk_nrm))
    (refine QE.value (.bool false) rfl rfl (by decide) (fun _ => by go_simp; try (first | omega | (w_num; omega) | w_num | decide)) (fun _ => by simp [go_sem, *]) ?_; (try walk_nrm))
    (repeat (first | (with_reducible first | refine QE.rend ?_ | refine QE.sq ?_ | refine QE.sk ?_ | refine QE.bl ?_ | refine QE.lo ?_ | refine QE.ib ?_ | refine QE.il ?_ | refine QE.rt ?_ | refine QE.en ?_) | (with_reducible refine QE.rg ?_; simp only [List.size_toArray, List.length_cons, List.length_nil, Nat.reduceAdd, Nat.zero_add, List.range, List.range.loop])))
    (refine QE.cd false rfl ?_; simp only [if_true, if_false, Bool.false_eq_true, ↓reduceIte])
    (repeat (first | (with_reducible first | refine QE.rend ?_ | refine QE.sq ?_ | refine QE.sk ?_ | refine QE.bl ?_ | refine QE.lo ?_ | refine QE.ib ?_ | refine QE.il ?_ | refine QE.rt ?_ | refine QE.en ?_) | (with_reducible refine QE.rg ?_; simp only [List.size_toArray, List.length_cons, List.length_nil, Nat.reduceAdd, Nat.zero_add, List.range, List.range.loop])))
    (refine QE.value (.int .i32 v) rfl rfl (by decide) (fun _ => by go_simp; try (first | omega | (w_num; omega) | w_num | decide)) (fun _ => by simp [go_sem, *]) ?_; (try walk_nrm))
    (refine QE.value (.bool false) rfl rfl (by decide) (fun _ => by go_simp; try (first | omega | (w_num; omega) | w_num | decide)) (fun _ => by simp [go_sem, *]) ?_; (try walk_nrm))
    (repeat (first | (with_reducible first | refine QE.rend ?_ | refine QE.sq ?_ | refine QE.sk ?_ | refine QE.bl ?_ | refine QE.lo ?_ | refine QE.ib ?_ | refine QE.il ?_ | refine QE.rt ?_ | refine QE.en ?_) | (with_reducible refine QE.rg ?_; simp only [List.size_toArray, List.length_cons, List.length_nil, Nat.reduceAdd, Nat.zero_add, List.range, List.range.loop])))
    (refine QE.cd false rfl ?_; simp only [if_true, if_false, Bool.false_eq_true, ↓reduceIte])
    (repeat (first | (with_reducible first | refine QE.rend ?_ | refine QE.sq ?_ | refine QE.sk ?_ | refine QE.bl ?_ | refine QE.lo ?_ | refine QE.ib ?_ | refine QE.il ?_ | refine QE.rt ?_ | refine QE.en ?_) | (with_reducible refine QE.rg ?_; simp only [List.size_toArray, List.length_cons, List.length_nil, Nat.reduceAdd, Nat.zero_add, List.range, List.range.loop])))
    (refine QE.value (.int .u32 0) rfl rfl (by decide) (fun _ => by go_simp; try (first | omega | (w_num; omega) | w_num | decide)) (fun _ => by simp [go_sem, *]) ?_; (try walk_nrm))
    (refine QE.value (.bool false) rfl rfl (by decide) (fun _ => by go_simp; try (first | omega | (w_num; omega) | w_num | decide)) (fun _ => by simp [go_sem, *]) ?_; (try walk_nrm))
    (refine QE.value (.bool false) rfl rfl (by decide) (fun _ => by go_simp; try (first | omega | (w_num; omega) | w_num | decide)) (fun _ => by simp [go_sem, *]) ?_; (try walk_nrm))
    (refine QE.unwanted rfl rfl ?_; (try walk_nrm))
    (refine QE.unwanted rfl rfl ?_; (try walk_nrm))
    (refine QE.value (.bool false) rfl rfl (by decide) (fun _ => by go_simp; try (first | omega | (w_num; omega) | w_num | decide)) (fun _ => by simp [go_sem, *]) ?_; (try walk_nrm))
    (refine QE.value (.bool false) rfl rfl (by decide) (fun _ => by go_simp; try (first | omega | (w_num; omega) | w_num | decide)) (fun _ => by simp [go_sem, *]) ?_; (try walk_nrm))
    (refine QE.unwanted rfl rfl ?_; (try walk_nrm))
    (refine QE.unwanted rfl rfl ?_; (try walk_nrm))
    (refine QE.unwanted rfl rfl ?_; (try walk_nrm))
    (refine QE.unwanted rfl rfl ?_; (try walk_nrm))
    (refine QE.value (.bool false) rfl rfl (by decide) (fun _ => by go_simp; try (first | omega | (w_num; omega) | w_num | decide)) (fun _ => by simp [go_sem, *]) ?_; (try walk_nrm))
    (repeat (first | (with_reducible first | refine QE.rend ?_ | refine QE.sq ?_ | refine QE.sk ?_ | refine QE.bl ?_ | refine QE.lo ?_ | refine QE.ib ?_ | refine QE.il ?_ | refine QE.rt ?_ | refine QE.en ?_) | (with_reducible refine QE.rg ?_; simp only [List.size_toArray, List.length_cons, List.length_nil, Nat.reduceAdd, Nat.zero_add, List.range, List.range.loop])))
    (refine QE.cd false rfl ?_; simp only [if_true, if_false, Bool.false_eq_true, ↓reduceIte])
    (repeat (first | (with_reducible first | refine QE.rend ?_ | refine QE.sq ?_ | refine QE.sk ?_ | refine QE.bl ?_ | refine QE.lo ?_ | refine QE.ib ?_ | refine QE.il ?_ | refine QE.rt ?_ | refine QE.en ?_) | (with_reducible refine QE.rg ?_; simp only [List.size_toArray, List.length_cons, List.length_nil, Nat.reduceAdd, Nat.zero_add, List.range, List.range.loop])))
    (refine QE.value (.int .i32 v) rfl rfl (by decide) (fun _ => by go_simp; try (first | omega | (w_num; omega) | w_num | decide)) (fun _ => by simp [go_sem, *]) ?_; (try walk_nrm))
    (refine QE.value (.bool true) rfl rfl (by decide) (fun _ => by go_simp; try (first | omega | (w_num; omega) | w_num | decide)) (fun _ => by simp [go_sem, *]) ?_; (try walk_nrm))
    (refine QE.value (.bool true) rfl rfl (by decide) (fun _ => by go_simp; try (first | omega | (w_num; omega) | w_num | decide)) (fun _ => by simp [go_sem, *]) ?_; (try walk_nrm))
    (refine QE.unwanted rfl rfl ?_; (try walk_nrm))
    (refine QE.unwanted rfl rfl ?_; (try walk_nrm))
    (refine QE.value (.bool true) rfl rfl (by decide) (fun _ => by go_simp; try (first | omega | (w_num; omega) | w_num | decide)) (fun _ => by simp [go_sem, *]) ?_; (try walk_nrm))
    (repeat (first | (with_reducible first | refine QE.rend ?_ | refine QE.sq ?_ | refine QE.sk ?_ | refine QE.bl ?_ | refine QE.lo ?_ | refine QE.ib ?_ | refine QE.il ?_ | refine QE.rt ?_ | refine QE.en ?_) | (with_reducible refine QE.rg ?_; simp only [List.size_toArray, List.length_cons, List.length_nil, Nat.reduceAdd, Nat.zero_add, List.range, List.range.loop])))
    (refine QE.cd true rfl ?_; simp only [if_true, if_false, Bool.false_eq_true, ↓reduceIte])
    (repeat (first | (with_reducible first | refine QE.rend ?_ | refine QE.sq ?_ | refine QE.sk ?_ | refine QE.bl ?_ | refine QE.lo ?_ | refine QE.ib ?_ | refine QE.il ?_ | refine QE.rt ?_ | refine QE.en ?_) | (with_reducible refine QE.rg ?_; simp only [List.size_toArray, List.length_cons, List.length_nil, Nat.reduceAdd, Nat.zero_add, List.range, List.range.loop])))
    (refine QE.unwind_mark .enable rfl (by simp) rfl Try.func28 (by simp [Try.f28]) (by simp [Try.f28]) n28 x28 ?_; simp only [deafBehind_en])
    (refine QE.leave0 rfl rfl Try.func23 (by simp only [Try.f23]) ?_; (try walk_nrm))
    (repeat (first | (with_reducible first | refine QE.rend ?_ | refine QE.sq ?_ | refine QE.sk ?_ | refine QE.bl ?_ | refine QE.lo ?_ | refine QE.ib ?_ | refine QE.il ?_ | refine QE.rt ?_ | refine QE.en ?_) | (with_reducible refine QE.rg ?_; simp only [List.size_toArray, List.length_cons, List.length_nil, Nat.reduceAdd, Nat.zero_add, List.range, List.range.loop])))
    exact QE.leaveD rfl rfl Try.func39 (by simp only [Try.f39]) hcm hT

set_option maxRecDepth 100000 in
theorem dec_qv1 (hcm : c.mode = .returning) (hT : QE Try.prog 0 (G c cs)) (v : Nat) (hv0 : 0 < v) (hv : v < 2147483647) (S : Int) (a1 : S / 4294967296 = (v : Int)) (a2 : 0 ≤ S ∧ S < 9223372036854775808) (b1 : bits .and .u64 S 2147483648 = 0) (b2 : bits .and .u64 S 2147483647 = 1) : QE Try.prog 1 (dec33 Wg c cs S) := by
    simp only [dec33, ops39, ops23, ops33, tail23, body39, body23, body33, Try.f39, Try.f23, Try.f33, Option.getD_some]
    (refine QE.value (.int .u64 S) rfl rfl (by decide) (fun _ => by go_simp; try (first | omega | (w_num; omega) | w_num | decide)) (fun _ => by simp [go_sem, *]) ?_; (try walk_nrm))
    (repeat (first | (with_reducible first | refine QE.rend ?_ | refine QE.sq ?_ | refine QE.sk ?_ | refine QE.bl ?_ | refine QE.lo ?_ | refine QE.ib ?_ | refine QE.il ?_ | refine QE.rt ?_ | refine QE.en ?_) | (with_reducible refine QE.rg ?_; simp only [List.size_toArray, List.length_cons, List.length_nil, Nat.reduceAdd, Nat.zero_add, List.range, List.range.loop])))
    (refine QE.leave1 rfl rfl Try.func33 (by simp only [Try.f33]; rfl) ?_; (try walk_nrm))
    (refine QE.value (.int .u64 S) rfl rfl (by decide) (fun _ => by go_simp; try (first | omega | (w_num; omega) | w_num | decide)) (fun _ => by simp [go_sem, *]) ?_; (try walk_nrm))
    (repeat (first | (with_reducible first | refine QE.rend ?_ | refine QE.sq ?_ | refine QE.sk ?_ | refine QE.bl ?_ | refine QE.lo ?_ | refine QE.ib ?_ | refine QE.il ?_ | refine QE.rt ?_ | refine QE.en ?_) | (with_reducible refine QE.rg ?_; simp only [List.size_toArray, List.length_cons, List.length_nil, Nat.reduceAdd, Nat.zero_add, List.range, List.range.loop])))
    (refine QE.value (.int .u64 S) rfl rfl (by decide) (fun _ => by go_simp; try (first | omega | (w_num; omega) | w_num | decide)) (fun _ => by simp [go_sem, *]) ?_; (try walk_nrm))
    (refine QE.value (.int .u64 0) rfl rfl (by decide) (fun _ => by go_simp; try (first | omega | (w_num; omega) | w_num | decide)) (fun _ => by simp [go_sem, *]) ?_; (try walk_nrm))
    (refine QE.value (.bool false) rfl rfl (by decide) (fun _ => by go_simp; try (first | omega | (w_num; omega) | w_num | decide)) (fun _ => by simp [go_sem, *]) ?_; (try walk_nrm))
    (refine QE.value (.bool false) rfl rfl (by decide) (fun _ => by go_simp; try (first | omega | (w_num; omega) | w_num | decide)) (fun _ => by simp [go_sem, *]) ?_; (try walk_nrm))
    (refine QE.unwanted rfl rfl ?_; (try walk_nrm))
    (refine QE.unwanted rfl rfl ?_; (try walk_nrm))
    (refine QE.value (.bool false) rfl rfl (by decide) (fun _ => by go_simp; try (first | omega | (w_num; omega) | w_num | decide)) (fun _ => by simp [go_sem, *]) ?_; (try walk_nrm))
    (repeat (first | (with_reducible first | refine QE.rend ?_ | refine QE.sq ?_ | refine QE.sk ?_ | refine QE.bl ?_ | refine QE.lo ?_ | refine QE.ib ?_ | refine QE.il ?_ | refine QE.rt ?_ | refine QE.en ?_) | (with_reducible refine QE.rg ?_; simp only [List.size_toArray, List.length_cons, List.length_nil, Nat.reduceAdd, Nat.zero_add, List.range, List.range.loop])))
    (refine QE.cd false rfl ?_; simp only [if_true, if_false, Bool.false_eq_true, ↓reduceIte])
    (repeat (first | (with_reducible first | refine QE.rend ?_ | refine QE.sq ?_ | refine QE.sk ?_ | refine QE.bl ?_ | refine QE.lo ?_ | refine QE.ib ?_ | refine QE.il ?_ | refine QE.rt ?_ | refine QE.en ?_) | (with_reducible refine QE.rg ?_; simp only [List.size_toArray, List.length_cons, List.length_nil, Nat.reduceAdd, Nat.zero_add, List.range, List.range.loop])))
    (refine QE.value (.int .u64 S) rfl rfl (by decide) (fun _ => by go_simp; try (first | omega | (w_num; omega) | w_num | decide)) (fun _ => by simp [go_sem, *]) ?_; (try walk_nrm))
    (refine QE.value (.int .u64 v) rfl rfl (by decide) (fun _ => by go_simp; try (first | omega | (w_num; omega) | w_num | decide)) (fun _ => by simp [go_sem, *]) ?_; (try walk_nrm))
    (refine QE.value (.int .i32 v) rfl rfl (by decide) (fun _ => by go_simp; try (first | omega | (w_num; omega) | w_num | decide)) (fun _ => by simp [go_sem, *]) ?_; (try walk_nrm))
    (refine QE.value (.int .i32 v) rfl rfl (by decide) (fun _ => by go_simp; try (first | omega | (w_num; omega) | w_num | decide)) (fun _ => by simp [go_sem, *]) ?_; (try walk_nrm))
    (repeat (first | (with_reducible first | refine QE.rend ?_ | refine QE.sq ?_ | refine QE.sk ?_ | refine QE.bl ?_ | refine QE.lo ?_ | refine QE.ib ?_ | refine QE.il ?_ | refine QE.rt ?_ | refine QE.en ?_) | (with_reducible refine QE.rg ?_; simp only [List.size_toArray, List.length_cons, List.length_nil, Nat.reduceAdd, Nat.zero_add, List.range, List.range.loop])))
    (refine QE.value (.int .u64 S) rfl rfl (by decide) (fun _ => by go_simp; try (first | omega | (w_num; omega) | w_num | decide)) (fun _ => by simp [go_sem, *]) ?_; (try walk_nrm))
    (refine QE.value (.int .u64 1) rfl rfl (by decide) (fun _ => by go_simp; try (first | omega | (w_num; omega) | w_num | decide)) (fun _ => by simp [go_sem, *]) ?_; (try walk_nrm))
    (refine QE.value (.int .u32 1) rfl rfl (by decide) (fun _ => by go_simp; try (first | omega | (w_num; omega) | w_num | decide)) (fun _ => by simp [go_sem, *]) ?_; (try walk_nrm))
    (refine QE.value (.int .u32 1) rfl rfl (by decide) (fun _ => by go_simp; try (first | omega | (w_num; omega) | w_num | decide)) (fun _ => by simp [go_sem, *]) ?_; (try walk_nrm))
    (repeat (first | (with_reducible first | refine QE.rend ?_ | refine QE.sq ?_ | refine QE.sk ?_ | refine QE.bl ?_ | refine QE.lo ?_ | refine QE.ib ?_ | refine QE.il ?_ | refine QE.rt ?_ | refine QE.en ?_) | (with_reducible refine QE.rg ?_; simp only [List.size_toArray, List.length_cons, List.length_nil, Nat.reduceAdd, Nat.zero_add, List.range, List.range.loop])))
    (refine QE.value (.bool true) rfl rfl (by decide) (fun _ => by go_simp; try (first | omega | (w_num; omega) | w_num | decide)) (fun _ => by simp [go_sem, *]) ?_; (try walk_nrm))
    (refine QE.value (.int .i64 (-1)) rfl rfl (by decide) (fun _ => by go_simp; try (first | omega | (w_num; omega) | w_num | decide)) (fun _ => by simp [go_sem, *]) ?_; (try walk_nrm))
    (refine QE.value (.bool false) rfl rfl (by decide) (fun _ => by go_simp; try (first | omega | (w_num; omega) | w_num | decide)) (fun _ => by simp [go_sem, *]) ?_; (try walk_nrm))
    (refine QE.value (.bool false) rfl rfl (by decide) (fun _ => by go_simp; try (first | omega | (w_num; omega) | w_num | decide)) (fun _ => by simp [go_sem, *]) ?_; (try walk_nrm))
    (refine QE.value (.bool false) rfl rfl (by decide) (fun _ => by go_simp; try (first | omega | (w_num; omega) | w_num | decide)) (fun _ => by simp [go_sem, *]) ?_; (try walk_nrm))
    (refine QE.unwanted rfl rfl ?_; (try walk_nrm))
    (refine QE.unwanted rfl rfl ?_; (try walk_nrm))
    (refine QE.unwanted rfl rfl ?_; (try walk_nrm))
    (refine QE.unwanted rfl rfl ?_; (try walk_nrm))
    (refine QE.value (.bool false) rfl rfl (by decide) (fun _ => by go_simp; try (first | omega | (w_num; omega) | w_num | decide)) (fun _ => by simp [go_sem, *]) ?_; (try walk_nrm))
    (repeat (first | (with_reducible first | refine QE.rend ?_ | refine QE.sq ?_ | refine QE.sk ?_ | refine QE.bl ?_ | refine QE.lo ?_ | refine QE.ib ?_ | refine QE.il ?_ | refine QE.rt ?_ | refine QE.en ?_) | (with_reducible refine QE.rg ?_; simp only [List.size_toArray, List.length_cons, List.length_nil, Nat.reduceAdd, Nat.zero_add, List.range, List.range.loop])))
    (refine QE.cd false rfl ?_; simp only [if_true, if_false, Bool.false_eq_true, ↓reduceIte])
    (repeat (first | (with_reducible first | refine QE.rend ?_ | refine QE.sq ?_ | refine QE.sk ?_ | refine QE.bl ?_ | refine QE.lo ?_ | refine QE.ib ?_ | refine QE.il ?_ | refine QE.rt ?_ | refine QE.en ?_) | (with_reducible refine QE.rg ?_; simp only [List.size_toArray, List.length_cons, List.length_nil, Nat.reduceAdd, Nat.zero_add, List.range, List.range.loop])))
    (refine QE.value (.int .i32 v) rfl rfl (by decide) (fun _ => by go_simp; try (first | omega | (w_num; omega) | w_num | decide)) (fun _ => by simp [go_sem, *]) ?_; (try walk_nrm))
    (refine QE.value (.bool false) rfl rfl (by decide) (fun _ => by go_simp; try (first | omega | (w_num; omega) | w_num | decide)) (fun _ => by simp [go_sem, *]) ?_; (try walk_nrm))
    (repeat (first | (with_reducible first | refine QE.rend ?_ | refine QE.sq ?_ | refine QE.sk ?_ | refine QE.bl ?_ | refine QE.lo ?_ | refine QE.ib ?_ | refine QE.il ?_ | refine QE.rt ?_ | refine QE.en ?_) | (with_reducible refine QE.rg ?_; simp only [List.size_toArray, List.length_cons, List.length_nil, Nat.reduceAdd, Nat.zero_add, List.range, List.range.loop])))
    (refine QE.cd false rfl ?_; simp only [if_true, if_false, Bool.false_eq_true, ↓reduceIte])
    (repeat (first | (with_reducible first | refine QE.rend ?_ | refine QE.sq ?_ | refine QE.sk ?_ | refine QE.bl ?_ | refine QE.lo ?_ | refine QE.ib ?_ | refine QE.il ?_ | refine QE.rt ?_ | refine QE.en ?_) | (with_reducible refine QE.rg ?_; simp only [List.size_toArray, List.length_cons, List.length_nil, Nat.reduceAdd, Nat.zero_add, List.range, List.range.loop])))
    (refine QE.value (.int .u32 1) rfl rfl (by decide) (fun _ => by go_simp; try (first | omega | (w_num; omega) | w_num | decide)) (fun _ => by simp [go_sem, *]) ?_; (try walk_nrm))
    (refine QE.value (.bool true) rfl rfl (by decide) (fun _ => by go_simp; try (first | omega | (w_num; omega) | w_num | decide)) (fun _ => by simp [go_sem, *]) ?_; (try walk_nrm))
    (refine QE.value (.bool true) rfl rfl (by decide) (fun _ => by go_simp; try (first | omega | (w_num; omega) | w_num | decide)) (fun _ => by simp [go_sem, *]) ?_; (try walk_nrm))
    (refine QE.value (.int .i64 (-1)) rfl rfl (by decide) (fun _ => by go_simp; try (first | omega | (w_num; omega) | w_num | decide)) (fun _ => by simp [go_sem, *]) ?_; (try walk_nrm))
    (refine QE.value (.bool false) rfl rfl (by decide) (fun _ => by go_simp; try (first | omega | (w_num; omega) | w_num | decide)) (fun _ => by simp [go_sem, *]) ?_; (try walk_nrm))
    (refine QE.value (.bool false) rfl rfl (by decide) (fun _ => by go_simp; try (first | omega | (w_num; omega) | w_num | decide)) (fun _ => by simp [go_sem, *]) ?_; (try walk_nrm))
    (refine QE.value (.bool false) rfl rfl (by decide) (fun _ => by go_simp; try (first | omega | (w_num; omega) | w_num | decide)) (fun _ => by simp [go_sem, *]) ?_; (try walk_nrm))
    (refine QE.unwanted rfl rfl ?_; (try walk_nrm))
    (refine QE.unwanted rfl rfl ?_; (try walk_nrm))
    (refine QE.unwanted rfl rfl ?_; (try walk_nrm))
    (refine QE.unwanted rfl rfl ?_; (try walk_nrm))
    (refine QE.value (.bool false) rfl rfl (by decide) (fun _ => by go_simp; try (first | omega | (w_num; omega) | w_num | decide)) (fun _ => by simp [go_sem, *]) ?_; (try walk_nrm))
    (repeat (first | (with_reducible first | refine QE.rend ?_ | refine QE.sq ?_ | refine QE.sk ?_ | refine QE.bl ?_ | refine QE.lo ?_ | refine QE.ib ?_ | refine QE.il ?_ | refine QE.rt ?_ | refine QE.en ?_) | (with_reducible refine QE.rg ?_; simp only [List.size_toArray, List.length_cons, List.length_nil, Nat.reduceAdd, Nat.zero_add, List.range, List.range.loop])))
    (refine QE.cd false rfl ?_; simp only [if_true, if_false, Bool.false_eq_true, ↓reduceIte])
    (repeat (first | (with_reducible first | refine QE.rend ?_ | refine QE.sq ?_ | refine QE.sk ?_ | refine QE.bl ?_ | refine QE.lo ?_ | refine QE.ib ?_ | refine QE.il ?_ | refine QE.rt ?_ | refine QE.en ?_) | (with_reducible refine QE.rg ?_; simp only [List.size_toArray, List.length_cons, List.length_nil, Nat.reduceAdd, Nat.zero_add, List.range, List.range.loop])))
    (refine QE.value (.int .i32 v) rfl rfl (by decide) (fun _ => by go_simp; try (first | omega | (w_num; omega) | w_num | decide)) (fun _ => by simp [go_sem, *]) ?_; (try walk_nrm))
    (refine QE.value (.bool true) rfl rfl (by decide) (fun _ => by go_simp; try (first | omega | (w_num; omega) | w_num | decide)) (fun _ => by simp [go_sem, *]) ?_; (try walk_nrm))
    (refine QE.value (.bool true) rfl rfl (by decide) (fun _ => by go_simp; try (first | omega | (w_num; omega) | w_num | decide)) (fun _ => by simp [go_sem, *]) ?_; (try walk_nrm))
    (refine QE.unwanted rfl rfl ?_; (try walk_nrm))
    (refine QE.unwanted rfl rfl ?_; (try walk_nrm))
    (refine QE.value (.bool true) rfl rfl (by decide) (fun _ => by go_simp; try (first | omega | (w_num; omega) | w_num | decide)) (fun _ => by simp [go_sem, *]) ?_; (try walk_nrm))
    (repeat (first | (with_reducible first | refine QE.rend ?_ | refine QE.sq ?_ | refine QE.sk ?_ | refine QE.bl ?_ | refine QE.lo ?_ | refine QE.ib ?_ | refine QE.il ?_ | refine QE.rt ?_ | refine QE.en ?_) | (with_reducible refine QE.rg ?_; simp only [List.size_toArray, List.length_cons, List.length_nil, Nat.reduceAdd, Nat.zero_add, List.range, List.range.loop])))
    (refine QE.cd true rfl ?_; simp only [if_true, if_false, Bool.false_eq_true, ↓reduceIte])
    (repeat (first | (with_reducible first | refine QE.rend ?_ | refine QE.sq ?_ | refine QE.sk ?_ | refine QE.bl ?_ | refine QE.lo ?_ | refine QE.ib ?_ | refine QE.il ?_ | refine QE.rt ?_ | refine QE.en ?_) | (with_reducible refine QE.rg ?_; simp only [List.size_toArray, List.length_cons, List.length_nil, Nat.reduceAdd, Nat.zero_add, List.range, List.range.loop])))
    (refine QE.unwind_mark .enable rfl (by simp) rfl Try.func28 (by simp [Try.f28]) (by simp [Try.f28]) n28 x28 ?_; simp only [deafBehind_en])
    (refine QE.leave0 rfl rfl Try.func23 (by simp only [Try.f23]) ?_; (try walk_nrm))
    (repeat (first | (with_reducible first | refine QE.rend ?_ | refine QE.sq ?_ | refine QE.sk ?_ | refine QE.bl ?_ | refine QE.lo ?_ | refine QE.ib ?_ | refine QE.il ?_ | refine QE.rt ?_ | refine QE.en ?_) | (with_reducible refine QE.rg ?_; simp only [List.size_toArray, List.length_cons, List.length_nil, Nat.reduceAdd, Nat.zero_add, List.range, List.range.loop])))
    exact QE.leaveD rfl rfl Try.func39 (by simp only [Try.f39]) hcm hT

end
end Go.Proofs.Ytplndihadjfliaa.Mix
