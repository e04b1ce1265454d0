/- PageHash: true, and what is handed in stays. -/
import Derived.Test.YtjmlfknogjaemaaM6
import Derived.Test.YtjmlfknogjaemaaM31
import Derived.SizedLaws
namespace Go.Proofs.Ytjmlfknogjaemaa.pageHash
open Go.Deep Go.ChangeShapes Go.WideShapes Go.ChangeAt Go.RowKit Go.Proofs.Ytjmlfknogjaemaa.Vc
set_option linter.unusedVariables false
set_option maxRecDepth 100000 in
theorem contract (H : Type) (enc : TypeId × Value → H) (W : World) (base : Nat) (args : Array Value) (ds gs : List (DataW H)) (before : List MemPlace)
    (hval : ∀ (j : Nat) t v, Try.f3.params[j]? = some t → args[j]? = some v → Value.okWide Try.prog W .any base t v)
    (hW : DataW.Whole enc Try.prog Try.f3.params.toList Rows.pageHashSpec.vars false W args.toList ds gs before) :
    Calls Try.prog 3 args W fun e W' => ∃ v, e = .returned v ∧ Rows.pageHashSpec.post enc Try.prog Try.f3 false true false false W args v W' := by
  have hW' := hW
  obtain ⟨p, q, hA0, hV, rfl, hfz, hnd⟩ := hW
  have hA : DataW.TrodAll enc Try.prog W 0 (fun _ => true) true Try.f3.params.toList args.toList ds p := hA0
  rw [Try.params3] at hA hval
  obtain ⟨v0, v1, d0, d1, p0, p1, rfl, rfl, rfl, h0, h1⟩ := trodAll_two hA
  obtain ⟨rfl, rfl⟩ := trodVars_none hV
  obtain ⟨x0, rfl⟩ := okWide_int (k := .i64) (by kernel_rfl) (hval 0 3 v0 rfl rfl)
  obtain ⟨x1, rfl⟩ := okWide_int (k := .i64) (by kernel_rfl) (hval 1 3 v1 rfl rfl)
  have l0 := hW'.lt
  obtain ⟨y1, F1, i1, k1⟩ := open_arg (fuel := 20) (ty := .int .i64) (by kernel_rfl) h1
  obtain ⟨e1, e2, _⟩ := i1
  have hb := wf_i64 e2
  have e1 : [Value.int .i64 x1] = [Value.int .i64 y1] := e1
  have e3 : x1 = y1 := by
    injection e1 with e1
    injection e1
  subst e3
  refine (PG.lawHash W x0 x1 hb.2).mono fun e W' ⟨he, hg⟩ => ?_
  subst he
  try simp only [List.append_nil] at hW' l0
  exact ⟨_, rfl, post_of_fr (pa := p0 ++ (p1 ++ [])) (pv := []) hW' (fun _ _ _ => trodAll_cons_mk (shut_bool (by kernel_rfl) _) trodAll_mk0)
    (fun sp hsp => (trodAll_cons_mk (stays (by kernel_rfl) (by decide +kernel) h0 hg (fun x hx => l0 x (by simp [hx])) (fun x hx => hsp x (by simp [hx]))) (trodAll_cons_mk (stays (by kernel_rfl) (by decide +kernel) h1 hg (fun x hx => l0 x (by simp [hx])) (fun x hx => hsp x (by simp [hx]))) trodAll_mk0))) (fun _ _ => rfl) (by simp) hg
    (ok_one (t := 4) (by kernel_rfl) rfl (okWide_bool_mk (by kernel_rfl) _))⟩
set_option maxRecDepth 100000 in
theorem lifted (os : Os) (started : os.Started) (H : Type) (enc : TypeId × Value → H) :
    ReturnsInHanded {} Try.checked os 3 .any (Rows.pageHashSpec.pre6 enc Try.prog Try.f3 Rows.pageHashRow.domain false) (Rows.pageHashSpec.post enc Try.prog Try.f3 false true false false) := by
  refine returnsInHanded_of_change_sized (C := Try.checked) own started (by kernel_rfl) Try.func3
    (ChangeSpec.witness6 (enc := enc) (C := Try.checked) false ⟨#[], #[.int .i64 0, .int .i64 0], []⟩ 8 (by kernel_rfl) (by kernel_rfl) (by kernel_rfl) (by kernel_rfl)) ?_
  intro W base args ds gs before hval hW _ _ _
  exact contract H enc W base args ds gs before hval hW
theorem proved : Rows.PageHashSaid :=
  OpenClaim.holds_of_wide 3 Try.f3 rfl rfl rfl rfl rfl rfl rfl ⟨rfl, rfl, rfl, rfl, rfl⟩ rfl rfl rfl rfl rfl (by kernel_rfl) Try.func3 (by kernel_rfl)
    (of_decide_eq_true (by kernel_rfl)) (by unfold Func.isWrapper; first | (rw [if_pos (by decide +kernel)]; kernel_rfl) | (rw [if_neg (by decide +kernel)]; exact ⟨rfl, rfl⟩))
    (fun os started H enc _ => lifted os started H enc)
end Go.Proofs.Ytjmlfknogjaemaa.pageHash
namespace Go.Proofs.Ytjmlfknogjaemaa
theorem pageHash_holds : Rows.PageHashSaid := pageHash.proved
#print axioms pageHash_holds
end Go.Proofs.Ytjmlfknogjaemaa
