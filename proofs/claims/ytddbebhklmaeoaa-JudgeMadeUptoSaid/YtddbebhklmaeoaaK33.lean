/- JudgeMade: true, and what is handed in stays, where what it reads is of bulk at most 2^20. -/
import Derived.Test.YtddbebhklmaeoaaM7
import Derived.Test.YtddbebhklmaeoaaM17
import Derived.Test.YtddbebhklmaeoaaM28
import Derived.Test.YtddbebhklmaeoaaM31
namespace Go.Proofs.Ytddbebhklmaeoaa.judgeMade
open Go.Deep Go.ChangeShapes Go.WideShapes Go.ChangeAt Go.RowKit Go.Proofs.Ytddbebhklmaeoaa.Vc Go.Proofs.Ytddbebhklmaeoaa.JG Vc.PG JD
set_option linter.unusedVariables false
set_option maxRecDepth 100000 in
theorem contract (H : Type) (enc : TypeId × Value → H) (W : World) (base : Nat) (args : Array Value) (ds gs : List (DataW H)) (before : List MemPlace)
    (hval : ∀ (j : Nat) t v, Try.f5.params[j]? = some t → args[j]? = some v → Value.okWide Try.prog W .any base t v)
    (hW : DataW.Whole enc Try.prog Try.f5.params.toList Rows.judgeMadeSpec.vars false W args.toList ds gs before) (hk : Rows.uptoSmall H (ds ++ gs) = true) :
    Calls Try.prog 5 args W fun e W' => ∃ v, e = .returned v ∧ Rows.judgeMadeSpec.post enc Try.prog Try.f5 false true false false W args v W' := by
  have hW' := hW
  obtain ⟨p, q, hA0, hV, rfl, hfz, hnd⟩ := hW
  have hA : DataW.TrodAll enc Try.prog W 0 (fun _ => true) true Try.f5.params.toList args.toList ds p := hA0
  rw [Try.params5] at hA hval
  obtain ⟨v0, v1, v2, d0, d1, d2, p0, p1, p2, rfl, rfl, rfl, h0, h1, h2⟩ := trodAll_three hA
  obtain ⟨rfl, rfl⟩ := trodVars_none hV
  obtain ⟨x0, rfl, _⟩ := okWide_struct Try.underlying28 (hval 0 28 v0 rfl rfl)
  obtain ⟨A1, n1, c1, rfl⟩ := okWide_slice (e := 39) (by kernel_rfl) (hval 1 29 v1 rfl rfl)
  obtain ⟨A2, n2, c2, rfl⟩ := okWide_slice (e := 51) (by kernel_rfl) (hval 2 49 v2 rfl rfl)
  have l0 := hW'.lt
  have hbulk : Rows.uptoBulkAll ([d0, d1, d2] ++ []) ≤ 1048576 := of_decide_eq_true hk
  simp only [List.cons_append, List.nil_append, Rows.uptoBulkAll] at hbulk
  obtain ⟨y0, F0, i0, k0⟩ := open_arg (fuel := 60) (ty := polT) (by kernel_rfl) h0
  replace k0 : wt (polT) y0 ≤ 1048576 := by omega
  obtain ⟨u0, e0, j0⟩ := inPol i0
  obtain rfl : x0 = u0.cells := Array.toList_inj.1 e0
  obtain ⟨y1, F1, i1, k1⟩ := open_arg (fuel := 60) (ty := .sl calT) (by kernel_rfl) h1
  replace k1 : wt (.sl calT) y1 ≤ 1048576 := by omega
  obtain ⟨y2, F2, i2, k2⟩ := open_arg (fuel := 60) (ty := .sl spT) (by kernel_rfl) h2
  replace k2 : wt (.sl spT) y2 ≤ 1048576 := by omega
  refine (JG.lawMade JG.awakeR (x := (A1, n1, c1)) (z := (A2, n2, c2)) j0 (inList i1) (inList i2) (smallPol k0 (by decide)) (smallCalls k1 (by decide)) (by have := wt_len y2; omega)).mono fun e W' ⟨he, hg⟩ => ?_
  subst he
  simp only [List.append_nil] at hW' l0
  exact ⟨_, rfl, post_of_fr (pa := p0 ++ (p1 ++ (p2 ++ []))) (pv := []) hW' (fun _ _ _ => trodAll_cons_mk (shut_bool (by kernel_rfl) _) trodAll_mk0)
    (fun sp hsp => (trodAll_cons_mk (stays (by kernel_rfl) (by decide +kernel) h0 hg (fun x hx => l0 x (by simp [hx])) (fun x hx => hsp x (by simp [hx]))) (trodAll_cons_mk (stays (by kernel_rfl) (by decide +kernel) h1 hg (fun x hx => l0 x (by simp [hx])) (fun x hx => hsp x (by simp [hx]))) (trodAll_cons_mk (stays (by kernel_rfl) (by decide +kernel) h2 hg (fun x hx => l0 x (by simp [hx])) (fun x hx => hsp x (by simp [hx]))) trodAll_mk0)))) (fun _ _ => rfl) (by simp) hg
    (ok_one (t := 4) (by kernel_rfl) rfl (okWide_bool_mk (by kernel_rfl) _))⟩
set_option maxRecDepth 100000 in
theorem lifted (os : Os) (started : os.Started) (H : Type) (enc : TypeId × Value → H) (F : Stop.Interp) :
    ReturnsInHanded {} Try.checked os 5 .any ((Rows.OpenSpec.upto Rows.judgeMadeSpec).pre6 enc Try.prog Try.f5 Rows.judgeMadeUptoRow.domain false) (((Rows.OpenSpec.upto Rows.judgeMadeSpec).at F).post enc Try.prog Try.f5 false true false false) := by
  refine returnsInHanded_of_cond (C := Try.checked) (s := Rows.OpenSpec.upto Rows.judgeMadeSpec) (k := Rows.uptoSmall) rfl own started (by kernel_rfl) Try.func5
    (OpenSpec.witness (enc := enc) (C := Try.checked) (s := Rows.OpenSpec.upto Rows.judgeMadeSpec) (k := Rows.uptoSmall) rfl false ⟨#[], #[.agg #[.slice none 0 0, .slice none 0 0, .slice none 0 0, .slice none 0 0, .slice none 0 0, .slice none 0 0, .slice none 0 0, .slice none 0 0, .slice none 0 0, .slice none 0 0, .slice none 0 0], .slice none 0 0, .slice none 0 0], []⟩ 8 (by kernel_rfl) (by kernel_rfl) (by kernel_rfl)
      (x := ([.agg [.nil, .nil, .nil, .nil, .nil, .nil, .nil, .nil, .nil, .nil, .nil], .nil, .nil], [], [])) (by kernel_rfl) rfl (by kernel_rfl)) ?_
  intro W base args ds gs before hval hW _ hk _
  exact contract H enc W base args ds gs before hval hW hk
theorem proved : Rows.JudgeMadeUptoSaid :=
  OpenClaim.holds_of_cond 5 Try.f5 rfl rfl rfl rfl rfl rfl rfl ⟨rfl, rfl, rfl, rfl, rfl⟩ rfl rfl rfl rfl rfl (by kernel_rfl) Try.func5 (by kernel_rfl)
    (of_decide_eq_true (by kernel_rfl)) (by unfold Func.isWrapper; first | (rw [if_pos (by decide +kernel)]; kernel_rfl) | (rw [if_neg (by decide +kernel)]; exact ⟨rfl, rfl⟩))
    (fun os started H enc _ F => lifted os started H enc F)
end Go.Proofs.Ytddbebhklmaeoaa.judgeMade
namespace Go.Proofs.Ytddbebhklmaeoaa
theorem judgeMade_holds : Rows.JudgeMadeUptoSaid := judgeMade.proved
#print axioms judgeMade_holds
end Go.Proofs.Ytddbebhklmaeoaa
