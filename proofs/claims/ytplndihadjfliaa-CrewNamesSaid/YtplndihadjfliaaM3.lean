/-
  CREW: the walk of crew.hand: it takes from one channel and hands on to the next.
-/
import Derived.Test.YtplndihadjfliaaM2
import Derived.Test.YtplndihadjfliaaProg
import Derived.KernelRfl
import Derived.Conc.AppendEvents3
set_option linter.unusedSimpArgs false
set_option linter.unusedVariables false
set_option maxHeartbeats 1000000
namespace Go.Proofs.Ytplndihadjfliaa.Net
open Go Go.Conc Go.ConcN Go.Proofs

attribute [go_sem] Instr.makeChan
@[go_sem] theorem run_makeFunc' (P : Program) (fn : Fn) (first cap : Array Value) (w : World) : (Instr.makeFunc fn first cap).run P w = .ok (.func fn first cap) w := rfl
@[go_sem] theorem events_makeFunc' (P : Program) (fn : Fn) (first cap : Array Value) (w : World) (es : Array Event) : (Instr.makeFunc fn first cap).events P w es = es := rfl

/-- Where a worker stands that has this script to follow. -/
def stopW (P : Program) (z : Nat → Value) (T : List Nat) : List Pr → Goroutine → World → Prop
  | [] => fun _ _ => False
  | p :: ps => StopW P z T (FollowW P z T ps) p
theorem followW_of {P : Program} {z : Nat → Value} {T : List Nat} {ps : List Pr} {n : Nat} {g : Goroutine} {w : World} (hp : ps ≠ []) (h : Goes P false (RW T) (DW T) (stopW P z T ps) n g w) : FollowW P z T ps g w := by
  cases ps with
  | nil => exact absurd rfl hp
  | cons p ps => exact ⟨n, h⟩

/-- Numbers as values. -/
abbrev iv (x : Int) : Value := .int .i64 x
def zi : Nat → Value := fun _ => iv 0
/-- What a hand makes of a number. -/
def addV (d : Int) : Value → Value
  | .int .i64 x => iv (IntKind.i64.wrap (x + d))
  | v => v

noncomputable def body20 : Code := Try.f20.body.getD .skip
noncomputable def L20 : Code := match body20 with | .seq _ (.block _ (.loop c)) => c | _ => .skip
noncomputable def ops20a : Array Oper := match L20 with | .block _ (.seq (.region _ ops _) _) => ops | _ => #[]
noncomputable def ops20d : Array Oper := match body20 with | .seq (.region _ ops _) _ => ops | _ => #[]
noncomputable def rest20 : Code := match L20 with | .block _ (.seq _ r) => r | _ => .skip
noncomputable def ops20b : Array Oper := match rest20 with | .seq _ (.region _ ops _) => ops | _ => #[]

section
variable (d : Int) (ci co : Nat) (cc : Array Bool)

noncomputable def head20 (u3 u4 u5 u6 u7 u8 u9 u10 u11 u12 u13 u14 u15 u16 u17 u18 u19 : Value) : Goroutine :=
  G ((baseD 20).at ⟨#[iv d, .chan (some ci), .chan (some co), u3, u4, u5, u6, u7, u8, u9, u10, u11, u12, u13, u14, u15, u16, u17, u18, u19], [dclose 54 0 cc co]⟩ [.code L20, .inLoop L20, .inBlock 0]) [bot Try.prog]
noncomputable def rcv20 (u3 u4 u5 u6 u7 u8 u9 u10 u11 u12 u13 u14 u15 u16 u17 u18 u19 : Value) (rest : List Nat) : Goroutine :=
  G ((baseD 20).at ⟨#[iv d, .chan (some ci), .chan (some co), u3, u4, u5, u6, u7, u8, u9, u10, u11, u12, u13, u14, u15, u16, u17, u18, u19], [dclose 54 0 cc co]⟩ [.inRegion ops20a rest, .code rest20, .inBlock 1, .inLoop L20, .inBlock 0]) [bot Try.prog]
noncomputable def snd20 (u3 u4 u5 u6 u7 u8 u9 u10 u11 u12 u13 u14 u15 u16 u17 u18 u19 : Value) (rest : List Nat) : Goroutine :=
  G ((baseD 20).at ⟨#[iv d, .chan (some ci), .chan (some co), u3, u4, u5, u6, u7, u8, u9, u10, u11, u12, u13, u14, u15, u16, u17, u18, u19], [dclose 54 0 cc co]⟩ [.inRegion ops20b rest, .inBlock 1, .inLoop L20, .inBlock 0]) [bot Try.prog]

set_option maxRecDepth 100000 in
theorem seg20_entry (Stop : Goroutine → World → Prop) (n₀ : Nat) (w : World) (next : ∀ (cc : Array Bool) (u3 u4 u5 u6 u7 u8 u9 u10 u11 u12 u13 u14 u15 u16 u17 u18 u19 : Value) w', Goes Try.prog false (RW []) (DW []) Stop n₀ (head20 d ci co cc u3 u4 u5 u6 u7 u8 u9 u10 u11 u12 u13 u14 u15 u16 u17 u18 u19) w') :
    Goes Try.prog false (RW []) (DW []) Stop (n₀ + 20) (G ((baseD 20).at ⟨#[iv d, .chan (some ci), .chan (some co), undef, undef, undef, undef, undef, undef, undef, undef, undef, undef, undef, undef, undef, undef, undef, undef, undef], []⟩ [.code body20]) [bot Try.prog]) w := by
  simp only [head20, L20, body20, Try.f20, Option.getD_some] at next ⊢
  (refine Goes.step rfl (fun _ h₁ => ?_); walk_rw; refine ⟨⟨rfl, by simp⟩, ?_⟩; clear h₁)
  (refine Goes.step rfl (fun _ h₁ => ?_); walk_rw; refine ⟨⟨rfl, by simp⟩, ?_⟩; clear h₁)
  (refine Goes.step rfl (fun w₁ h₁ => ?_); refine goes_oper_k rfl rfl (by decide) (fun K hK => ?_); go_simp; refine hK _ _ ⟨⟨rfl, fun e he => ?_⟩, ?_⟩; (focus (have hm := mem_listed he; (simp [go_sem, *] at hm))); (clear hK K h₁); (try walk_nrm))
  refine Goes.step rfl (fun w₁ h₁ => ?_)
  obtain ⟨cc, e⟩ := stepG_defer_close (P := Try.prog) (main := false) (w := w₁) (cs := [bot Try.prog]) (b := baseD 20) (ops := ops20d) (i := 1) (rest := []) (x := .tmp 8) (t := 54) (c := co) (o := { dst := none, op := .defer { callee := .builtin .close, args := #[.tmp 8], argTypes := #[54] }, type := 0, pos := "crew.go:53", after := #[{ on := 0, ground := .data }], guard := none }) (k := [.code (.block 0 (.loop L20))]) (a := ⟨#[iv d, .chan (some ci), .chan (some co), undef, undef, undef, undef, undef, .chan (some co), undef, undef, undef, undef, undef, undef, undef, undef, undef, undef, undef], []⟩) rfl rfl (by decide) rfl rfl
  simp only [ops20d, L20, body20, Try.f20, Option.getD_some] at e
  rw [e]
  simp only [goes_go]
  refine ⟨⟨rfl, by simp⟩, ?_⟩
  clear e h₁
  try walk_nrm
  (refine Goes.step rfl (fun _ h₁ => ?_); walk_rw; refine ⟨⟨rfl, by simp⟩, ?_⟩; clear h₁)
  (refine Goes.step rfl (fun _ h₁ => ?_); walk_rw; refine ⟨⟨rfl, by simp⟩, ?_⟩; clear h₁)
  (refine Goes.step rfl (fun _ h₁ => ?_); walk_rw; refine ⟨⟨rfl, by simp⟩, ?_⟩; clear h₁)
  exact (next cc _ _ _ _ _ _ _ _ _ _ _ _ _ _ _ _ _ _).mono (by omega)

set_option maxRecDepth 100000 in
/-- From the head to the receive. -/
theorem seg20_rcv (Stop : Goroutine → World → Prop) (n₀ : Nat) (u3 u4 u5 u6 u7 u8 u9 u10 u11 u12 u13 u14 u15 u16 u17 u18 u19 : Value) (w : World) (next : ∀ (u3 u4 u5 u6 u7 u8 u9 u11 u12 u13 u14 u15 u16 u17 u18 u19 : Value) w', Goes Try.prog false (RW []) (DW []) Stop n₀ (rcv20 d ci co cc u3 u4 u5 u6 u7 u8 u9 (.chan (some ci)) u11 u12 u13 u14 u15 u16 u17 u18 u19 [1, 2, 3, 4, 5, 6]) w') : Goes Try.prog false (RW []) (DW []) Stop (n₀ + 10) (head20 d ci co cc u3 u4 u5 u6 u7 u8 u9 u10 u11 u12 u13 u14 u15 u16 u17 u18 u19) w := by
  simp only [head20, rcv20, ops20a, rest20, L20, body20, Try.f20, Option.getD_some] at next ⊢
  (refine Goes.step rfl (fun _ h₁ => ?_); walk_rw; refine ⟨⟨rfl, by simp⟩, ?_⟩; clear h₁)
  (refine Goes.step rfl (fun _ h₁ => ?_); walk_rw; refine ⟨⟨rfl, by simp⟩, ?_⟩; clear h₁)
  (refine Goes.step rfl (fun _ h₁ => ?_); walk_rw; refine ⟨⟨rfl, by simp⟩, ?_⟩; clear h₁)
  (refine Goes.step rfl (fun w₁ h₁ => ?_); refine goes_oper_k rfl rfl (by decide) (fun K hK => ?_); go_simp; refine hK _ _ ⟨⟨rfl, fun e he => ?_⟩, ?_⟩; (focus (have hm := mem_listed he; (simp [go_sem, *] at hm))); (clear hK K h₁); (try walk_nrm))
  exact (next _ _ _ _ _ _ _ _ _ _ _ _ _ _ _ _ _).mono (by omega)

set_option maxRecDepth 100000 in
/-- From behind a receive that was handed a number to the send. -/
theorem seg20_snd (Stop : Goroutine → World → Prop) (n₀ : Nat) (x : Int) (u3 u4 u5 u6 u7 u8 u9 u10 u12 u13 u14 u15 u16 u17 u18 u19 : Value) (w : World) (next : ∀ (u3 u4 u5 u6 u7 u8 u9 u10 u11 u12 u13 u14 u15 u17 u18 : Value) w', Goes Try.prog false (RW []) (DW []) Stop n₀ (snd20 d ci co cc u3 u4 u5 u6 u7 u8 u9 u10 u11 u12 u13 u14 u15 (.chan (some co)) u17 u18 (addV d (iv x)) [4]) w') :
    Goes Try.prog false (RW []) (DW []) Stop (n₀ + 40) (rcv20 d ci co cc u3 u4 u5 u6 u7 u8 u9 u10 (.tuple #[iv x, .bool true]) u12 u13 u14 u15 u16 u17 u18 u19 [2, 3, 4, 5, 6]) w := by
  simp only [snd20, rcv20, ops20a, ops20b, rest20, L20, body20, Try.f20, Option.getD_some, addV] at next ⊢
  repeat (first | (refine Goes.step rfl (fun _ h₁ => ?_); walk_rw; refine ⟨⟨rfl, by simp⟩, ?_⟩; clear h₁) | (refine Goes.step rfl (fun w₁ h₁ => ?_); refine goes_oper_k rfl rfl (by decide) (fun K hK => ?_); go_simp; refine hK _ _ ⟨⟨rfl, fun e he => ?_⟩, ?_⟩; (focus (have hm := mem_listed he; (simp [go_sem, *] at hm))); (clear hK K h₁); (try walk_nrm)))
  (refine Goes.step rfl (fun _ h₁ => ?_); rw [stepG_cond (t := false) rfl]; simp only [goes_go, if_true, if_false, Bool.false_eq_true, ↓reduceIte]; refine ⟨⟨rfl, by simp⟩, ?_⟩; clear h₁)
  (refine Goes.step rfl (fun _ h₁ => ?_); walk_rw; refine ⟨⟨rfl, by simp⟩, ?_⟩; clear h₁)
  (refine Goes.step rfl (fun _ h₁ => ?_); walk_rw; refine ⟨⟨rfl, by simp⟩, ?_⟩; clear h₁)
  (refine Goes.step rfl (fun w₁ h₁ => ?_); refine goes_oper_k rfl rfl (by decide) (fun K hK => ?_); go_simp; refine hK _ _ ⟨⟨rfl, fun e he => ?_⟩, ?_⟩; (focus (have hm := mem_listed he; (simp [go_sem, *] at hm))); (clear hK K h₁); (try walk_nrm))
  (refine Goes.step rfl (fun w₁ h₁ => ?_); refine goes_oper_k rfl rfl (by decide) (fun K hK => ?_); go_simp; refine hK _ _ ⟨⟨rfl, fun e he => ?_⟩, ?_⟩; (focus (have hm := mem_listed he; (simp [go_sem, *] at hm))); (clear hK K h₁); (try walk_nrm))
  (refine Goes.step rfl (fun w₁ h₁ => ?_); refine goes_oper_k rfl rfl (by decide) (fun K hK => ?_); go_simp; refine hK _ _ ⟨⟨rfl, fun e he => ?_⟩, ?_⟩; (focus (have hm := mem_listed he; (simp [go_sem, *] at hm))); (clear hK K h₁); (try walk_nrm))
  (refine Goes.step rfl (fun w₁ h₁ => ?_); refine goes_oper_k rfl rfl (by decide) (fun K hK => ?_); go_simp; refine hK _ _ ⟨⟨rfl, fun e he => ?_⟩, ?_⟩; (focus (have hm := mem_listed he; (simp [go_sem, *] at hm))); (clear hK K h₁); (try walk_nrm))
  exact (next _ _ _ _ _ _ _ _ _ _ _ _ _ _ _ _).mono (by omega)

set_option maxRecDepth 100000 in
/-- From behind the send to the head. -/
theorem seg20_next (Stop : Goroutine → World → Prop) (n₀ : Nat) (u3 u4 u5 u6 u7 u8 u9 u10 u11 u12 u13 u14 u15 u16 u17 u18 u19 : Value) (w : World) (next : ∀ (u3 u4 u5 u6 u7 u8 u9 u10 u11 u12 u13 u14 u15 u16 u17 u18 u19 : Value) w', Goes Try.prog false (RW []) (DW []) Stop n₀ (head20 d ci co cc u3 u4 u5 u6 u7 u8 u9 u10 u11 u12 u13 u14 u15 u16 u17 u18 u19) w') : Goes Try.prog false (RW []) (DW []) Stop (n₀ + 10) (snd20 d ci co cc u3 u4 u5 u6 u7 u8 u9 u10 u11 u12 u13 u14 u15 u16 u17 u18 u19 []) w := by
  simp only [head20, snd20, ops20b, rest20, L20, body20, Try.f20, Option.getD_some] at next ⊢
  (refine Goes.step rfl (fun _ h₁ => ?_); walk_rw; refine ⟨⟨rfl, by simp⟩, ?_⟩; clear h₁)
  (refine Goes.step rfl (fun _ h₁ => ?_); walk_rw; refine ⟨⟨rfl, by simp⟩, ?_⟩; clear h₁)
  (refine Goes.step rfl (fun _ h₁ => ?_); walk_rw; refine ⟨⟨rfl, by simp⟩, ?_⟩; clear h₁)
  exact (next _ _ _ _ _ _ _ _ _ _ _ _ _ _ _ _ _ _).mono (by omega)

set_option maxRecDepth 100000 in
/-- From behind a receive that found the channel closed to the way out. -/
theorem seg20_cls (Stop : Goroutine → World → Prop) (n₀ : Nat) (u3 u4 u5 u6 u7 u8 u9 u10 u12 u13 u14 u15 u16 u17 u18 u19 : Value) (w : World)
    (next : ∀ (t : Array Value) (todo : List Item) w', Goes Try.prog false (RW []) (DW []) Stop n₀ (G { (baseD 20).at ⟨t, [dclose 54 0 cc co]⟩ todo with mode := .returning } [bot Try.prog]) w') :
    Goes Try.prog false (RW []) (DW []) Stop (n₀ + 40) (rcv20 d ci co cc u3 u4 u5 u6 u7 u8 u9 u10 (.tuple #[iv 0, .bool false]) u12 u13 u14 u15 u16 u17 u18 u19 [2, 3, 4, 5, 6]) w := by
  simp only [rcv20, ops20a, ops20b, rest20, L20, body20, Try.f20, Option.getD_some]
  repeat (first | (refine Goes.step rfl (fun _ h₁ => ?_); walk_rw; refine ⟨⟨rfl, by simp⟩, ?_⟩; clear h₁) | (refine Goes.step rfl (fun w₁ h₁ => ?_); refine goes_oper_k rfl rfl (by decide) (fun K hK => ?_); go_simp; refine hK _ _ ⟨⟨rfl, fun e he => ?_⟩, ?_⟩; (focus (have hm := mem_listed he; (simp [go_sem, *] at hm))); (clear hK K h₁); (try walk_nrm)))
  (refine Goes.step rfl (fun _ h₁ => ?_); rw [stepG_cond (t := true) rfl]; simp only [goes_go, if_true, if_false, Bool.false_eq_true, ↓reduceIte]; refine ⟨⟨rfl, by simp⟩, ?_⟩; clear h₁)
  refine Goes.step rfl (fun _ h₁ => ?_)
  rw [stepG_ret']
  simp only [goes_go]
  refine ⟨⟨rfl, by simp⟩, ?_⟩
  exact (next _ _ _).mono (by omega)


set_option maxRecDepth 100000 in
theorem at20_rcv (xs : List Value) (x : Int) (u3 u4 u5 u6 u7 u8 u9 u11 u12 u13 u14 u15 u16 u17 u18 u19 : Value) (w : World)
    (next : ∀ w₂, FollowW Try.prog zi [] (.snd co (addV d (iv x)) :: hnd ci co (addV d) xs) (rcv20 d ci co cc u3 u4 u5 u6 u7 u8 u9 (.chan (some ci)) (.tuple #[iv x, .bool true]) u12 u13 u14 u15 u16 u17 u18 u19 [2, 3, 4, 5, 6]) w₂) :
    stopW Try.prog zi [] (hnd ci co (addV d) (iv x :: xs)) (rcv20 d ci co cc u3 u4 u5 u6 u7 u8 u9 (.chan (some ci)) u11 u12 u13 u14 u15 u16 u17 u18 u19 [1, 2, 3, 4, 5, 6]) w := by
  have e : ∀ v, rcv20 d ci co cc u3 u4 u5 u6 u7 u8 u9 (.chan (some ci)) v u12 u13 u14 u15 u16 u17 u18 u19 [2, 3, 4, 5, 6] = G ((baseD 20).at (Act.put ⟨#[iv d, .chan (some ci), .chan (some co), u3, u4, u5, u6, u7, u8, u9, .chan (some ci), u11, u12, u13, u14, u15, u16, u17, u18, u19], [dclose 54 0 cc co]⟩ (some 11) v) [.inRegion ops20a [2, 3, 4, 5, 6], .code rest20, .inBlock 1, .inLoop L20, .inBlock 0]) [bot Try.prog] := fun v => rfl
  rw [e] at next
  refine atRcv_of (z := zi) (ops := ops20a) (o := { dst := some 11, op := .recv 34 (.tmp 10) true, type := 53, pos := "crew.go:55", after := #[{ on := 0, ground := .data }], guard := none }) rfl rfl (by decide) ?_ ?_ fun w₂ _ => next w₂
  · simp [go_sem, rcase, zi]
  · simp [go_sem]

set_option maxRecDepth 100000 in
theorem at20_eof (u3 u4 u5 u6 u7 u8 u9 u11 u12 u13 u14 u15 u16 u17 u18 u19 : Value) (w : World)
    (next : ∀ w₂, FollowW Try.prog zi [] [.cls co] (rcv20 d ci co cc u3 u4 u5 u6 u7 u8 u9 (.chan (some ci)) (.tuple #[iv 0, .bool false]) u12 u13 u14 u15 u16 u17 u18 u19 [2, 3, 4, 5, 6]) w₂) :
    stopW Try.prog zi [] (hnd ci co (addV d) []) (rcv20 d ci co cc u3 u4 u5 u6 u7 u8 u9 (.chan (some ci)) u11 u12 u13 u14 u15 u16 u17 u18 u19 [1, 2, 3, 4, 5, 6]) w := by
  have e : ∀ v, rcv20 d ci co cc u3 u4 u5 u6 u7 u8 u9 (.chan (some ci)) v u12 u13 u14 u15 u16 u17 u18 u19 [2, 3, 4, 5, 6] = G ((baseD 20).at (Act.put ⟨#[iv d, .chan (some ci), .chan (some co), u3, u4, u5, u6, u7, u8, u9, .chan (some ci), u11, u12, u13, u14, u15, u16, u17, u18, u19], [dclose 54 0 cc co]⟩ (some 11) v) [.inRegion ops20a [2, 3, 4, 5, 6], .code rest20, .inBlock 1, .inLoop L20, .inBlock 0]) [bot Try.prog] := fun v => rfl
  rw [e] at next
  refine atEof_of (z := zi) (ops := ops20a) (o := { dst := some 11, op := .recv 34 (.tmp 10) true, type := 53, pos := "crew.go:55", after := #[{ on := 0, ground := .data }], guard := none }) rfl rfl (by decide) ?_ ?_ fun w₂ _ => next w₂
  · simp [go_sem, rcase, zi]
  · simp [go_sem]

set_option maxRecDepth 100000 in
theorem at20_snd (ps : List Pr) (v : Value) (u3 u4 u5 u6 u7 u8 u9 u10 u11 u12 u13 u14 u15 u17 u18 : Value) (w : World)
    (next : ∀ w₂, FollowW Try.prog zi [] ps (snd20 d ci co cc u3 u4 u5 u6 u7 u8 u9 u10 u11 u12 u13 u14 u15 (.chan (some co)) u17 u18 v []) w₂) :
    stopW Try.prog zi [] (.snd co v :: ps) (snd20 d ci co cc u3 u4 u5 u6 u7 u8 u9 u10 u11 u12 u13 u14 u15 (.chan (some co)) u17 u18 v [4]) w :=
  atSnd_of (z := zi) (ops := ops20b) (o := { dst := none, op := .send (.tmp 16) (.tmp 19), type := 0, pos := "crew.go:59", after := #[{ on := 0, ground := .data }, { on := 3, ground := .data }], guard := none }) rfl rfl (by decide) rfl rfl rfl fun w₂ _ => next w₂

theorem end20 (t : Array Value) (todo : List Item) (w : World) : stopW Try.prog zi [] [.cls co] (G { (baseD 20).at ⟨t, [dclose 54 0 cc co]⟩ todo with mode := .returning } [bot Try.prog]) w := by
  show AtP Try.prog zi false (RW []) (EvW []) (FollowW Try.prog zi [] []) _ w (.cls co)
  exact atCls_of (a := ⟨t, [dclose 54 0 cc co]⟩) (t := 54) (ty := 0) (cc := cc) (f := 20) (fn := Try.f20) Try.func20 (by simp only [Try.f20]) (by simp only []) (by simp only [Try.f20])

/-- THE HAND's SCRIPT, from the loop's head. -/
theorem hand_from : ∀ (xs : List Int), ∃ n, ∀ (cc : Array Bool) (u3 u4 u5 u6 u7 u8 u9 u10 u11 u12 u13 u14 u15 u16 u17 u18 u19 : Value) (w : World), Goes Try.prog false (RW []) (DW []) (stopW Try.prog zi [] (hnd ci co (addV d) (xs.map iv))) n (head20 d ci co cc u3 u4 u5 u6 u7 u8 u9 u10 u11 u12 u13 u14 u15 u16 u17 u18 u19) w := by
  intro xs
  induction xs with
  | nil =>
    refine ⟨0 + 10, fun cc u3 u4 u5 u6 u7 u8 u9 u10 u11 u12 u13 u14 u15 u16 u17 u18 u19 w => seg20_rcv d ci co cc _ 0 u3 u4 u5 u6 u7 u8 u9 u10 u11 u12 u13 u14 u15 u16 u17 u18 u19 w fun u3 u4 u5 u6 u7 u8 u9 u11 u12 u13 u14 u15 u16 u17 u18 u19 w' => Goes.stop fun w₁ _ => at20_eof d ci co cc u3 u4 u5 u6 u7 u8 u9 u11 u12 u13 u14 u15 u16 u17 u18 u19 w₁ fun w₂ => ?_⟩
    exact followW_of (by simp) (seg20_cls d ci co cc (stopW Try.prog zi [] [.cls co]) 0 u3 u4 u5 u6 u7 u8 u9 (.chan (some ci)) u12 u13 u14 u15 u16 u17 u18 u19 w₂ fun t todo w' => Goes.stop fun w₁ _ => end20 co cc t todo w₁)
  | cons x xs ih =>
    obtain ⟨n, ih⟩ := ih
    refine ⟨0 + 10, fun cc u3 u4 u5 u6 u7 u8 u9 u10 u11 u12 u13 u14 u15 u16 u17 u18 u19 w => seg20_rcv d ci co cc _ 0 u3 u4 u5 u6 u7 u8 u9 u10 u11 u12 u13 u14 u15 u16 u17 u18 u19 w fun u3 u4 u5 u6 u7 u8 u9 u11 u12 u13 u14 u15 u16 u17 u18 u19 w' => Goes.stop fun w₁ _ => at20_rcv d ci co cc (xs.map iv) x u3 u4 u5 u6 u7 u8 u9 u11 u12 u13 u14 u15 u16 u17 u18 u19 w₁ fun w₂ => ?_⟩
    refine followW_of (by simp) (seg20_snd d ci co cc (stopW Try.prog zi [] (.snd co (addV d (iv x)) :: hnd ci co (addV d) (xs.map iv))) 0 x u3 u4 u5 u6 u7 u8 u9 (.chan (some ci)) u12 u13 u14 u15 u16 u17 u18 u19 w₂ fun u3 u4 u5 u6 u7 u8 u9 u10 u11 u12 u13 u14 u15 u17 u18 w' => Goes.stop fun w₁ _ => at20_snd d ci co cc _ _ u3 u4 u5 u6 u7 u8 u9 u10 u11 u12 u13 u14 u15 u17 u18 w₁ fun w₃ => ?_)
    exact followW_of (hnd_ne _ _ _ _) (seg20_next d ci co cc _ n u3 u4 u5 u6 u7 u8 u9 u10 u11 u12 u13 u14 u15 (.chan (some co)) u17 u18 (addV d (iv x)) w₃ fun u3 u4 u5 u6 u7 u8 u9 u10 u11 u12 u13 u14 u15 u16 u17 u18 u19 w' => ih cc u3 u4 u5 u6 u7 u8 u9 u10 u11 u12 u13 u14 u15 u16 u17 u18 u19 w')
end

/-- THE HAND, from its birth. -/
theorem hand_follows (d : Int) (ci co : Nat) (xs : List Int) (w : World) :
    FollowW Try.prog zi [] (hnd ci co (addV d) (xs.map iv)) (born Try.prog { target := .fn (.func 20) #[], args := #[iv d, .chan (some ci), .chan (some co)] }) w := by
  obtain ⟨n, h⟩ := hand_from d ci co xs
  refine followW_of (hnd_ne _ _ _ _) (n := n + 20 + 1) (Goes.step rfl fun w₁ _ => ?_)
  rw [stepG_born (fn := Try.f20) (c := body20) Try.func20 (by simp [Try.f20]) (by simp [Try.f20, body20])]
  simp only [goes_go]
  have e : (#[iv d, .chan (some ci), .chan (some co)] ++ #[]) ++ Array.replicate (Try.f20.ntmps - (#[iv d, .chan (some ci), .chan (some co)] ++ #[] : Array Value).size) undef = #[iv d, .chan (some ci), .chan (some co), undef, undef, undef, undef, undef, undef, undef, undef, undef, undef, undef, undef, undef, undef, undef, undef, undef] := by simp only [Try.f20]; rfl
  rw [e]
  refine ⟨⟨rfl, by simp⟩, ?_⟩
  exact seg20_entry d ci co _ n w₁ fun cc u3 u4 u5 u6 u7 u8 u9 u10 u11 u12 u13 u14 u15 u16 u17 u18 u19 w' => h cc u3 u4 u5 u6 u7 u8 u9 u10 u11 u12 u13 u14 u15 u16 u17 u18 u19 w'
end Go.Proofs.Ytplndihadjfliaa.Net
/-
  CREW: the walk of crew.Relay's first goroutine: it sends all values, and closes.
-/
set_option linter.unusedSimpArgs false
set_option linter.unusedVariables false
set_option maxHeartbeats 1000000
namespace Go.Proofs.Ytplndihadjfliaa.Net
open Go Go.Conc Go.ConcN Go.Proofs

noncomputable def body19 : Code := Try.f19.body.getD .skip
noncomputable def ops19d : Array Oper := match body19 with | .seq (.region _ ops _) _ => ops | _ => #[]
noncomputable def tail19 : Code := match body19 with | .seq _ r => r | _ => .skip
noncomputable def L19 : Code := match tail19 with | .seq _ (.block _ (.loop c)) => c | _ => .skip
noncomputable def B19 : Code := match L19 with | .seq _ (.seq _ (.seq (.block _ c) _)) => c | _ => .skip
noncomputable def ops19s : Array Oper := match B19 with | .seq _ (.region _ ops _) => ops | _ => #[]
noncomputable def R19 : Code := match L19 with | .seq _ (.seq _ (.seq _ r)) => r | _ => .skip

theorem evW_cell {T : List Nat} (a : Addr) (s : Bool) (h : a.block ∈ T) : EvW T ⟨.cell a, false, s⟩ := ⟨fun m h => (by cases h), .inr ⟨rfl, .inl ⟨a.block, rfl, h⟩⟩⟩

/-- What the source reads. -/
structure SrcK (T : List Nat) (bx cl : Nat) (c : Nat) (a0 : Option Addr) (n cap : Nat) (zs : List Int) (w : World) : Prop where
  xs : w.cell? ⟨bx, 0, none⟩ = some (.slice a0 n cap)
  ch : w.cell? ⟨cl, 0, none⟩ = some (.chan (some c))
  el : ∀ j ad, j < n → a0 = some ad → w.cell? (ad.add j) = some (.int .i64 (zs[j]?.getD 0))
  bb : bx ∈ T
  cb : cl ∈ T
  eb : ∀ ad, a0 = some ad → 0 < n → ad.block ∈ T

theorem SrcK.rely {T : List Nat} {bx cl c : Nat} {a0 : Option Addr} {n cap : Nat} {zs : List Int} {w w₁ : World} (h : SrcK T bx cl c a0 n cap zs w) (r : RW T w w₁) : SrcK T bx cl c a0 n cap zs w₁ :=
  ⟨(World.cell?_of_block (r bx h.bb)).trans h.xs, (World.cell?_of_block (r cl h.cb)).trans h.ch, fun j ad hj ha => (World.cell?_of_block (by rw [addBlock]; exact r ad.block (h.eb ad ha (by omega)))).trans (h.el j ad hj ha), h.bb, h.cb, h.eb⟩

section
variable (T : List Nat) (bx cl c : Nat) (a0 : Option Addr) (n cap : Nat) (zs : List Int) (cc : Array Bool)

noncomputable def head19 (k : Nat) (u2 u3 u4 u8 u9 u10 u11 u12 u13 : Value) : Goroutine :=
  G ((baseD 19).at ⟨#[.pointer (some ⟨cl, 0, none⟩), .pointer (some ⟨bx, 0, none⟩), u2, u3, u4, .slice a0 n cap, .int .i64 n, .int .i64 k, u8, u9, u10, u11, u12, u13], [dclose 33 0 cc c]⟩ [.code L19, .inLoop L19, .inBlock 0]) [bot Try.prog]
noncomputable def snd19 (k : Nat) (u2 u3 u4 u8 u9 u10 u13 : Value) (rest : List Nat) : Goroutine :=
  G ((baseD 19).at ⟨#[.pointer (some ⟨cl, 0, none⟩), .pointer (some ⟨bx, 0, none⟩), u2, u3, u4, .slice a0 n cap, .int .i64 n, .int .i64 k, u8, u9, u10, .chan (some c), iv (zs[k]?.getD 0), u13], [dclose 33 0 cc c]⟩ [.inRegion ops19s rest, .inBlock 1, .code R19, .inLoop L19, .inBlock 0]) [bot Try.prog]

set_option maxRecDepth 100000 in
theorem seg19_entry (Stop : Goroutine → World → Prop) (n₀ : Nat) (w : World) (hF : SrcK T bx cl c a0 n cap zs w) (next : ∀ (cc : Array Bool) (u2 u3 u4 u8 u9 u10 u11 u12 u13 : Value) w', SrcK T bx cl c a0 n cap zs w' → Goes Try.prog false (RW T) (DW T) Stop n₀ (head19 bx cl c a0 n cap cc 0 u2 u3 u4 u8 u9 u10 u11 u12 u13) w') :
    Goes Try.prog false (RW T) (DW T) Stop (n₀ + 20) (G ((baseD 19).at ⟨#[.pointer (some ⟨cl, 0, none⟩), .pointer (some ⟨bx, 0, none⟩), undef, undef, undef, undef, undef, undef, undef, undef, undef, undef, undef, undef], []⟩ [.code body19]) [bot Try.prog]) w := by
  simp only [head19, L19, tail19, body19, Try.f19, Option.getD_some] at next ⊢
  (refine Goes.step rfl (fun _ h₁ => ?_); walk_rw; refine ⟨⟨rfl, by simp⟩, ?_⟩; replace hF := hF.rely h₁; clear h₁)
  (refine Goes.step rfl (fun _ h₁ => ?_); walk_rw; refine ⟨⟨rfl, by simp⟩, ?_⟩; replace hF := hF.rely h₁; clear h₁)
  (refine Goes.step rfl (fun w₁ h₁ => ?_); replace hF := hF.rely h₁; clear h₁; refine goes_oper_k rfl rfl (by decide) (fun K hK => ?_); have hx := hF.xs; have hch := hF.ch; have hel := hF.el; go_simp; refine hK _ _ ⟨⟨rfl, fun e he => ?_⟩, ?_⟩; (focus (have hm := mem_listed he; (simp [go_sem, *] at hm); (try (subst hm; exact evW_cell _ _ (by first | exact hF.bb | exact hF.cb | (rw [addBlock]; exact hF.eb _ rfl (by omega))))))); (clear hK K hx hch hel); (try walk_nrm))
  refine Goes.step rfl (fun w₁ h₁ => ?_)
  obtain ⟨cc, e⟩ := stepG_defer_close (P := Try.prog) (main := false) (w := w₁) (cs := [bot Try.prog]) (b := baseD 19) (ops := ops19d) (i := 1) (rest := []) (x := .tmp 4) (t := 33) (c := c) (o := { dst := none, op := .defer { callee := .builtin .close, args := #[.tmp 4], argTypes := #[33] }, type := 0, pos := "crew.go:70", after := #[{ on := 0, ground := .data }], guard := none }) (k := [.code tail19]) (a := ⟨#[.pointer (some ⟨cl, 0, none⟩), .pointer (some ⟨bx, 0, none⟩), undef, undef, .chan (some c), undef, undef, undef, undef, undef, undef, undef, undef, undef], []⟩) rfl rfl (by decide) rfl rfl
  simp only [ops19d, tail19, body19, Try.f19, Option.getD_some] at e
  rw [e]
  simp only [goes_go]
  refine ⟨⟨rfl, by simp⟩, ?_⟩
  replace hF := hF.rely h₁
  clear e h₁
  try walk_nrm
  (refine Goes.step rfl (fun _ h₁ => ?_); walk_rw; refine ⟨⟨rfl, by simp⟩, ?_⟩; replace hF := hF.rely h₁; clear h₁)
  (refine Goes.step rfl (fun _ h₁ => ?_); walk_rw; refine ⟨⟨rfl, by simp⟩, ?_⟩; replace hF := hF.rely h₁; clear h₁)
  (refine Goes.step rfl (fun _ h₁ => ?_); walk_rw; refine ⟨⟨rfl, by simp⟩, ?_⟩; replace hF := hF.rely h₁; clear h₁)
  (refine Goes.step rfl (fun w₁ h₁ => ?_); replace hF := hF.rely h₁; clear h₁; refine goes_oper_k rfl rfl (by decide) (fun K hK => ?_); have hx := hF.xs; have hch := hF.ch; have hel := hF.el; go_simp; refine hK _ _ ⟨⟨rfl, fun e he => ?_⟩, ?_⟩; (focus (have hm := mem_listed he; (simp [go_sem, *] at hm); (try (subst hm; exact evW_cell _ _ (by first | exact hF.bb | exact hF.cb | (rw [addBlock]; exact hF.eb _ rfl (by omega))))))); (clear hK K hx hch hel); (try walk_nrm))
  (refine Goes.step rfl (fun w₁ h₁ => ?_); replace hF := hF.rely h₁; clear h₁; refine goes_oper_k rfl rfl (by decide) (fun K hK => ?_); have hx := hF.xs; have hch := hF.ch; have hel := hF.el; go_simp; refine hK _ _ ⟨⟨rfl, fun e he => ?_⟩, ?_⟩; (focus (have hm := mem_listed he; (simp [go_sem, *] at hm); (try (subst hm; exact evW_cell _ _ (by first | exact hF.bb | exact hF.cb | (rw [addBlock]; exact hF.eb _ rfl (by omega))))))); (clear hK K hx hch hel); (try walk_nrm))
  (refine Goes.step rfl (fun w₁ h₁ => ?_); replace hF := hF.rely h₁; clear h₁; refine goes_oper_k rfl rfl (by decide) (fun K hK => ?_); have hx := hF.xs; have hch := hF.ch; have hel := hF.el; go_simp; refine hK _ _ ⟨⟨rfl, fun e he => ?_⟩, ?_⟩; (focus (have hm := mem_listed he; (simp [go_sem, *] at hm); (try (subst hm; exact evW_cell _ _ (by first | exact hF.bb | exact hF.cb | (rw [addBlock]; exact hF.eb _ rfl (by omega))))))); (clear hK K hx hch hel); (try walk_nrm))
  (refine Goes.step rfl (fun _ h₁ => ?_); walk_rw; refine ⟨⟨rfl, by simp⟩, ?_⟩; replace hF := hF.rely h₁; clear h₁)
  (refine Goes.step rfl (fun _ h₁ => ?_); walk_rw; refine ⟨⟨rfl, by simp⟩, ?_⟩; replace hF := hF.rely h₁; clear h₁)
  (refine Goes.step rfl (fun _ h₁ => ?_); walk_rw; refine ⟨⟨rfl, by simp⟩, ?_⟩; replace hF := hF.rely h₁; clear h₁)
  exact (next cc _ _ _ _ _ _ _ _ _ _ hF).mono (by omega)

set_option maxRecDepth 100000 in
/-- From the head to the send. -/
theorem seg19_snd (Stop : Goroutine → World → Prop) (n₀ k : Nat) (hk : k < n) (hnil : ∃ ad, a0 = some ad) (u2 u3 u4 u8 u9 u10 u11 u12 u13 : Value) (w : World) (hF : SrcK T bx cl c a0 n cap zs w)
    (next : ∀ (u2 u3 u4 u8 u9 u10 u13 : Value) w', SrcK T bx cl c a0 n cap zs w' → Goes Try.prog false (RW T) (DW T) Stop n₀ (snd19 bx cl c a0 n cap zs cc k u2 u3 u4 u8 u9 u10 u13 [2]) w') : Goes Try.prog false (RW T) (DW T) Stop (n₀ + 30) (head19 bx cl c a0 n cap cc k u2 u3 u4 u8 u9 u10 u11 u12 u13) w := by
  obtain ⟨ad, rfl⟩ := hnil
  simp only [head19, snd19, ops19s, B19, R19, L19, tail19, body19, Try.f19, Option.getD_some] at next ⊢
  repeat (first | (refine Goes.step rfl (fun _ h₁ => ?_); walk_rw; refine ⟨⟨rfl, by simp⟩, ?_⟩; replace hF := hF.rely h₁; clear h₁) | (refine Goes.step rfl (fun w₁ h₁ => ?_); replace hF := hF.rely h₁; clear h₁; refine goes_oper_k rfl rfl (by decide) (fun K hK => ?_); have hx := hF.xs; have hch := hF.ch; have hel := hF.el; go_simp; refine hK _ _ ⟨⟨rfl, fun e he => ?_⟩, ?_⟩; (focus (have hm := mem_listed he; (simp [go_sem, *] at hm); (try (subst hm; exact evW_cell _ _ (by first | exact hF.bb | exact hF.cb | (rw [addBlock]; exact hF.eb _ rfl (by omega))))))); (clear hK K hx hch hel); (try walk_nrm)))
  (refine Goes.step rfl (fun _ h₁ => ?_); rw [stepG_cond (t := true) rfl]; simp only [goes_go, if_true, if_false, Bool.false_eq_true, ↓reduceIte]; refine ⟨⟨rfl, by simp⟩, ?_⟩; replace hF := hF.rely h₁; clear h₁)
  repeat (first | (refine Goes.step rfl (fun _ h₁ => ?_); walk_rw; refine ⟨⟨rfl, by simp⟩, ?_⟩; replace hF := hF.rely h₁; clear h₁) | (refine Goes.step rfl (fun w₁ h₁ => ?_); replace hF := hF.rely h₁; clear h₁; refine goes_oper_k rfl rfl (by decide) (fun K hK => ?_); have hx := hF.xs; have hch := hF.ch; have hel := hF.el; go_simp; refine hK _ _ ⟨⟨rfl, fun e he => ?_⟩, ?_⟩; (focus (have hm := mem_listed he; (simp [go_sem, *] at hm); (try (subst hm; exact evW_cell _ _ (by first | exact hF.bb | exact hF.cb | (rw [addBlock]; exact hF.eb _ rfl (by omega))))))); (clear hK K hx hch hel); (try walk_nrm)))
  refine Goes.mono (n := n₀) ?_ (by omega)
  exact next _ _ _ _ _ _ _ _ hF

set_option maxRecDepth 100000 in
/-- From behind the send to the head. -/
theorem seg19_next (Stop : Goroutine → World → Prop) (n₀ k : Nat) (hk : k < n) (hn : n ≤ 9223372036854775807) (u2 u3 u4 u8 u9 u10 u13 : Value) (w : World) (hF : SrcK T bx cl c a0 n cap zs w)
    (next : ∀ (u2 u3 u4 u8 u9 u10 u11 u12 u13 : Value) w', SrcK T bx cl c a0 n cap zs w' → Goes Try.prog false (RW T) (DW T) Stop n₀ (head19 bx cl c a0 n cap cc (k + 1) u2 u3 u4 u8 u9 u10 u11 u12 u13) w') : Goes Try.prog false (RW T) (DW T) Stop (n₀ + 10) (snd19 bx cl c a0 n cap zs cc k u2 u3 u4 u8 u9 u10 u13 []) w := by
  have hwr : IntKind.i64.wrap ((k : Int) + 1) = ((k + 1 : Nat) : Int) := by rw [IntKind.wrap_i64]; omega
  simp only [head19, snd19, ops19s, B19, R19, L19, tail19, body19, Try.f19, Option.getD_some] at next ⊢
  (refine Goes.step rfl (fun _ h₁ => ?_); walk_rw; refine ⟨⟨rfl, by simp⟩, ?_⟩; replace hF := hF.rely h₁; clear h₁)
  (refine Goes.step rfl (fun _ h₁ => ?_); walk_rw; refine ⟨⟨rfl, by simp⟩, ?_⟩; replace hF := hF.rely h₁; clear h₁)
  (refine Goes.step rfl (fun _ h₁ => ?_); walk_rw; refine ⟨⟨rfl, by simp⟩, ?_⟩; replace hF := hF.rely h₁; clear h₁)
  (refine Goes.step rfl (fun w₁ h₁ => ?_); replace hF := hF.rely h₁; clear h₁; refine goes_oper_k rfl rfl (by decide) (fun K hK => ?_); have hx := hF.xs; have hch := hF.ch; have hel := hF.el; go_simp; refine hK _ _ ⟨⟨rfl, fun e he => ?_⟩, ?_⟩; (focus (have hm := mem_listed he; (simp [go_sem, *] at hm); (try (subst hm; exact evW_cell _ _ (by first | exact hF.bb | exact hF.cb | (rw [addBlock]; exact hF.eb _ rfl (by omega))))))); (clear hK K hx hch hel); (try walk_nrm))
  (refine Goes.step rfl (fun w₁ h₁ => ?_); replace hF := hF.rely h₁; clear h₁; refine goes_oper_k rfl rfl (by decide) (fun K hK => ?_); have hx := hF.xs; have hch := hF.ch; have hel := hF.el; go_simp; refine hK _ _ ⟨⟨rfl, fun e he => ?_⟩, ?_⟩; (focus (have hm := mem_listed he; (simp [go_sem, *] at hm); (try (subst hm; exact evW_cell _ _ (by first | exact hF.bb | exact hF.cb | (rw [addBlock]; exact hF.eb _ rfl (by omega))))))); (clear hK K hx hch hel); (try walk_nrm))
  (refine Goes.step rfl (fun _ h₁ => ?_); walk_rw; refine ⟨⟨rfl, by simp⟩, ?_⟩; replace hF := hF.rely h₁; clear h₁)
  (refine Goes.step rfl (fun _ h₁ => ?_); walk_rw; refine ⟨⟨rfl, by simp⟩, ?_⟩; replace hF := hF.rely h₁; clear h₁)
  exact (next _ _ _ _ _ _ _ _ _ _ hF).mono (by omega)

set_option maxRecDepth 100000 in
/-- From the head, all sent, to the way out. -/
theorem seg19_cls (Stop : Goroutine → World → Prop) (n₀ : Nat) (u2 u3 u4 u8 u9 u10 u11 u12 u13 : Value) (w : World) (hF : SrcK T bx cl c a0 n cap zs w)
    (next : ∀ (t : Array Value) (todo : List Item) w', Goes Try.prog false (RW T) (DW T) Stop n₀ (G { (baseD 19).at ⟨t, [dclose 33 0 cc c]⟩ todo with mode := .returning } [bot Try.prog]) w') : Goes Try.prog false (RW T) (DW T) Stop (n₀ + 12) (head19 bx cl c a0 n cap cc n u2 u3 u4 u8 u9 u10 u11 u12 u13) w := by
  simp only [head19, L19, tail19, body19, Try.f19, Option.getD_some]
  repeat (first | (refine Goes.step rfl (fun _ h₁ => ?_); walk_rw; refine ⟨⟨rfl, by simp⟩, ?_⟩; replace hF := hF.rely h₁; clear h₁) | (refine Goes.step rfl (fun w₁ h₁ => ?_); replace hF := hF.rely h₁; clear h₁; refine goes_oper_k rfl rfl (by decide) (fun K hK => ?_); have hx := hF.xs; have hch := hF.ch; have hel := hF.el; go_simp; refine hK _ _ ⟨⟨rfl, fun e he => ?_⟩, ?_⟩; (focus (have hm := mem_listed he; (simp [go_sem, *] at hm); (try (subst hm; exact evW_cell _ _ (by first | exact hF.bb | exact hF.cb | (rw [addBlock]; exact hF.eb _ rfl (by omega))))))); (clear hK K hx hch hel); (try walk_nrm)))
  (refine Goes.step rfl (fun _ h₁ => ?_); rw [stepG_cond (t := false) rfl]; simp only [goes_go, if_true, if_false, Bool.false_eq_true, ↓reduceIte]; refine ⟨⟨rfl, by simp⟩, ?_⟩; replace hF := hF.rely h₁; clear h₁)
  (refine Goes.step rfl (fun _ h₁ => ?_); apply goes_exit; (focus rfl); refine ⟨⟨rfl, by simp⟩, ?_⟩; replace hF := hF.rely h₁; clear h₁)
  refine Goes.step rfl (fun _ h₁ => ?_)
  rw [stepG_end]
  simp only [goes_go]
  refine ⟨⟨rfl, by simp⟩, ?_⟩
  exact (next _ _ _).mono (by omega)

set_option maxRecDepth 100000 in
theorem at19_snd (ps : List Pr) (k : Nat) (u2 u3 u4 u8 u9 u10 u13 : Value) (w : World)
    (next : ∀ w₂, RW T w w₂ → FollowW Try.prog zi T ps (snd19 bx cl c a0 n cap zs cc k u2 u3 u4 u8 u9 u10 u13 []) w₂) :
    stopW Try.prog zi T (.snd c (iv (zs[k]?.getD 0)) :: ps) (snd19 bx cl c a0 n cap zs cc k u2 u3 u4 u8 u9 u10 u13 [2]) w :=
  atSnd_of (z := zi) (ops := ops19s) (o := { dst := none, op := .send (.tmp 11) (.tmp 12), type := 0, pos := "crew.go:72", after := #[{ on := 0, ground := .data }, { on := 1, ground := .data }], guard := none }) rfl rfl (by decide) rfl rfl rfl fun w₂ h₂ => next w₂ h₂

theorem end19 (t : Array Value) (todo : List Item) (w : World) : stopW Try.prog zi T [.cls c] (G { (baseD 19).at ⟨t, [dclose 33 0 cc c]⟩ todo with mode := .returning } [bot Try.prog]) w := by
  show AtP Try.prog zi false (RW T) (EvW T) (FollowW Try.prog zi T []) _ w (.cls c)
  exact atCls_of (a := ⟨t, [dclose 33 0 cc c]⟩) (t := 33) (ty := 0) (cc := cc) (f := 19) (fn := Try.f19) Try.func19 (by simp only [Try.f19]) (by simp only []) (by simp only [Try.f19])

theorem src_ne' (c : Nat) (vs : List Value) : src c vs ≠ [] := by simp [src]

/-- THE SOURCE's SCRIPT, from the loop's head: k sent. -/
theorem src_from (hn : n ≤ 9223372036854775807) (hz : zs.length = n) (hnil : 0 < n → ∃ ad, a0 = some ad) : ∀ (m k : Nat), k + m = n → ∃ n', ∀ (cc : Array Bool) (u2 u3 u4 u8 u9 u10 u11 u12 u13 : Value) (w : World), SrcK T bx cl c a0 n cap zs w →
    Goes Try.prog false (RW T) (DW T) (stopW Try.prog zi T (src c ((zs.drop k).map iv))) n' (head19 bx cl c a0 n cap cc k u2 u3 u4 u8 u9 u10 u11 u12 u13) w := by
  intro m
  induction m with
  | zero =>
    intro k hk
    obtain rfl : k = n := by omega
    have e : src c ((zs.drop k).map iv) = [.cls c] := by simp [List.drop_eq_nil_of_le (show zs.length ≤ k by omega), src]
    rw [e]
    exact ⟨0 + 12, fun cc u2 u3 u4 u8 u9 u10 u11 u12 u13 w hF => seg19_cls T bx cl c a0 k cap zs cc _ 0 u2 u3 u4 u8 u9 u10 u11 u12 u13 w hF fun t todo w' => Goes.stop fun w₁ _ => end19 T c cc t todo w₁⟩
  | succ m ih =>
    intro k hk
    obtain ⟨n₁, h₁⟩ := ih (k + 1) (by omega)
    have e : src c ((zs.drop k).map iv) = .snd c (iv (zs[k]?.getD 0)) :: src c ((zs.drop (k + 1)).map iv) := by
      rw [List.drop_eq_getElem_cons (by omega), List.map_cons, List.getElem?_eq_getElem (by omega)]; simp [src]
    rw [e]
    refine ⟨0 + 30, fun cc u2 u3 u4 u8 u9 u10 u11 u12 u13 w hF => seg19_snd T bx cl c a0 n cap zs cc _ 0 k (by omega) (hnil (by omega)) u2 u3 u4 u8 u9 u10 u11 u12 u13 w hF fun u2 u3 u4 u8 u9 u10 u13 w' hF => Goes.stop fun w₁ r₁ => at19_snd T bx cl c a0 n cap zs cc _ k u2 u3 u4 u8 u9 u10 u13 w₁ fun w₂ r₂ => ?_⟩
    exact followW_of (src_ne' _ _) (seg19_next T bx cl c a0 n cap zs cc _ n₁ k (by omega) hn u2 u3 u4 u8 u9 u10 u13 w₂ ((hF.rely r₁).rely r₂) fun u2 u3 u4 u8 u9 u10 u11 u12 u13 w' hF => h₁ cc u2 u3 u4 u8 u9 u10 u11 u12 u13 w' hF)
end

/-- THE SOURCE, from its birth. -/
theorem src_follows (T : List Nat) (bx cl c : Nat) (a0 : Option Addr) (n cap : Nat) (zs : List Int) (hn : n ≤ 9223372036854775807) (hz : zs.length = n) (hnil : 0 < n → ∃ ad, a0 = some ad) (w : World) (hF : SrcK T bx cl c a0 n cap zs w) :
    FollowW Try.prog zi T (src c (zs.map iv)) (born Try.prog { target := .fn (.func 19) #[.pointer (some ⟨cl, 0, none⟩), .pointer (some ⟨bx, 0, none⟩)], args := #[] }) w := by
  obtain ⟨m, h⟩ := src_from T bx cl c a0 n cap zs hn hz hnil n 0 (by omega)
  refine followW_of (src_ne' _ _) (n := m + 20 + 1) (Goes.step rfl fun w₁ r₁ => ?_)
  rw [stepG_born (fn := Try.f19) (c := body19) Try.func19 (by simp [Try.f19]) (by simp [Try.f19, body19])]
  simp only [goes_go]
  have e : (#[] ++ #[.pointer (some ⟨cl, 0, none⟩), .pointer (some ⟨bx, 0, none⟩)]) ++ Array.replicate (Try.f19.ntmps - (#[] ++ #[.pointer (some ⟨cl, 0, none⟩), .pointer (some ⟨bx, 0, none⟩)] : Array Value).size) undef = #[.pointer (some ⟨cl, 0, none⟩), .pointer (some ⟨bx, 0, none⟩), undef, undef, undef, undef, undef, undef, undef, undef, undef, undef, undef, undef] := by simp only [Try.f19]; rfl
  rw [e]
  refine ⟨⟨rfl, by simp⟩, ?_⟩
  exact seg19_entry T bx cl c a0 n cap zs _ m w₁ (hF.rely r₁) fun cc u2 u3 u4 u8 u9 u10 u11 u12 u13 w' hF => h cc u2 u3 u4 u8 u9 u10 u11 u12 u13 w' hF
end Go.Proofs.Ytplndihadjfliaa.Net
