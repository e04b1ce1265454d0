/- JudgeWrong: true, and what is handed in stays, where what it reads is of bulk at most 2^20. -/
import Derived.Test.YtddbebhklmaeoaaM7
import Derived.Test.YtddbebhklmaeoaaM17
import Derived.Test.YtddbebhklmaeoaaM29
import Derived.Test.YtddbebhklmaeoaaM27
namespace Go.Proofs.Ytddbebhklmaeoaa.judgeWrong
open Go.Deep Go.ChangeShapes Go.WideShapes Go.ChangeAt Go.RowKit Go.Proofs.Ytddbebhklmaeoaa.Vc Go.Proofs.Ytddbebhklmaeoaa.JG Vc.PG JD
set_option linter.unusedVariables false
set_option maxRecDepth 100000 in
theorem contract (H : Type) (enc : TypeId × Value → H) (W : World) (base : Nat) (args : Array Value) (ds gs : List (DataW H)) (before : List MemPlace)
    (hval : ∀ (j : Nat) t v, Try.f6.params[j]? = some t → args[j]? = some v → Value.okWide Try.prog W .any base t v)
    (hW : DataW.Whole enc Try.prog Try.f6.params.toList Rows.judgeWrongSpec.vars false W args.toList ds gs before) (hk : Rows.uptoSmall H (ds ++ gs) = true) :
    Calls Try.prog 6 args W fun e W' => ∃ v, e = .returned v ∧ Rows.judgeWrongSpec.post enc Try.prog Try.f6 false true false false W args v W' := by
  have hW' := hW
  obtain ⟨p, q, hA0, hV, rfl, hfz, hnd⟩ := hW
  have hA : DataW.TrodAll enc Try.prog W 0 (fun _ => true) true Try.f6.params.toList args.toList ds p := hA0
  rw [Try.params6] at hA hval
  obtain ⟨v0, v1, v2, v3, d0, d1, d2, d3, p0, p1, p2, p3, rfl, rfl, rfl, h0, h1, h2, h3⟩ := trodAll_four hA
  obtain ⟨rfl, rfl⟩ := trodVars_none hV
  obtain ⟨x0, rfl, _⟩ := okWide_struct Try.underlying28 (hval 0 28 v0 rfl rfl)
  obtain ⟨A1, n1, c1, rfl⟩ := okWide_slice (e := 39) (by kernel_rfl) (hval 1 29 v1 rfl rfl)
  obtain ⟨x2, rfl, _⟩ := okWide_struct Try.underlying37 (hval 2 37 v2 rfl rfl)
  obtain ⟨x3, rfl⟩ := okWide_bool (by kernel_rfl) (hval 3 4 v3 rfl rfl)
  have l0 := hW'.lt
  have hbulk : Rows.uptoBulkAll ([d0, d1, d2, d3] ++ []) ≤ 1048576 := of_decide_eq_true hk
  simp only [List.cons_append, List.nil_append, Rows.uptoBulkAll] at hbulk
  obtain ⟨y0, F0, i0, k0⟩ := open_arg (fuel := 60) (ty := polT) (by kernel_rfl) h0
  replace k0 : wt (polT) y0 ≤ 1048576 := by omega
  obtain ⟨u0, e0, j0⟩ := inPol i0
  obtain rfl : x0 = u0.cells := Array.toList_inj.1 e0
  obtain ⟨y1, F1, i1, k1⟩ := open_arg (fuel := 60) (ty := .sl calT) (by kernel_rfl) h1
  replace k1 : wt (.sl calT) y1 ≤ 1048576 := by omega
  obtain ⟨y2, F2, i2, k2⟩ := open_arg (fuel := 60) (ty := triT) (by kernel_rfl) h2
  replace k2 : wt (triT) y2 ≤ 1048576 := by omega
  obtain rfl : x2 = #[.string y2.1, .string y2.2.1, .string y2.2.2.1] := Array.toList_inj.1 (inTri i2)
  obtain ⟨y3, F3, i3, k3⟩ := open_arg (fuel := 60) (ty := .bool) (by kernel_rfl) h3
  replace k3 : wt (.bool) y3 ≤ 1048576 := by omega
  obtain rfl : x3 = y3 := by have := i3.1; simpa [Value.cells] using this
  refine (JG.lawWrong JG.awakeR (x := (A1, n1, c1)) y2.1 y2.2.1 y2.2.2.1 x3 j0 (inList i1) (smallPol k0 (by decide)) (smallCalls k1 (by decide))).mono fun e W' ⟨he, hg⟩ => ?_
  subst he
  simp only [List.append_nil] at hW' l0
  exact ⟨_, rfl, post_of_fr (pa := p0 ++ (p1 ++ (p2 ++ (p3 ++ [])))) (pv := []) hW' (fun _ _ _ => trodAll_cons_mk (shut_bool (by kernel_rfl) _) trodAll_mk0)
    (fun sp hsp => (trodAll_cons_mk (stays (by kernel_rfl) (by decide +kernel) h0 hg (fun x hx => l0 x (by simp [hx])) (fun x hx => hsp x (by simp [hx]))) (trodAll_cons_mk (stays (by kernel_rfl) (by decide +kernel) h1 hg (fun x hx => l0 x (by simp [hx])) (fun x hx => hsp x (by simp [hx]))) (trodAll_cons_mk (stays (by kernel_rfl) (by decide +kernel) h2 hg (fun x hx => l0 x (by simp [hx])) (fun x hx => hsp x (by simp [hx]))) (trodAll_cons_mk (stays (by kernel_rfl) (by decide +kernel) h3 hg (fun x hx => l0 x (by simp [hx])) (fun x hx => hsp x (by simp [hx]))) trodAll_mk0))))) (fun _ _ => rfl) (by simp) hg
    (ok_one (t := 4) (by kernel_rfl) rfl (okWide_bool_mk (by kernel_rfl) _))⟩
set_option maxRecDepth 100000 in
theorem lifted (os : Os) (started : os.Started) (H : Type) (enc : TypeId × Value → H) (F : Stop.Interp) :
    ReturnsInHanded {} Try.checked os 6 .any ((Rows.OpenSpec.upto Rows.judgeWrongSpec).pre6 enc Try.prog Try.f6 Rows.judgeWrongUptoRow.domain false) (((Rows.OpenSpec.upto Rows.judgeWrongSpec).at F).post enc Try.prog Try.f6 false true false false) := by
  refine returnsInHanded_of_cond (C := Try.checked) (s := Rows.OpenSpec.upto Rows.judgeWrongSpec) (k := Rows.uptoSmall) rfl own started (by kernel_rfl) Try.func6
    (OpenSpec.witness (enc := enc) (C := Try.checked) (s := Rows.OpenSpec.upto Rows.judgeWrongSpec) (k := Rows.uptoSmall) rfl false ⟨#[], #[.agg #[.slice none 0 0, .slice none 0 0, .slice none 0 0, .slice none 0 0, .slice none 0 0, .slice none 0 0, .slice none 0 0, .slice none 0 0, .slice none 0 0, .slice none 0 0, .slice none 0 0], .slice none 0 0, .agg #[.string ⟨#[]⟩, .string ⟨#[]⟩, .string ⟨#[]⟩], .bool false], []⟩ 8 (by kernel_rfl) (by kernel_rfl) (by kernel_rfl)
      (x := ([.agg [.nil, .nil, .nil, .nil, .nil, .nil, .nil, .nil, .nil, .nil, .nil], .nil, .agg [.lit (.string []), .lit (.string []), .lit (.string [])], .lit (.bool false)], [], [])) (by kernel_rfl) rfl (by kernel_rfl)) ?_
  intro W base args ds gs before hval hW _ hk _
  exact contract H enc W base args ds gs before hval hW hk
theorem proved : Rows.JudgeWrongUptoSaid :=
  OpenClaim.holds_of_cond 6 Try.f6 rfl rfl rfl rfl rfl rfl rfl ⟨rfl, rfl, rfl, rfl, rfl⟩ rfl rfl rfl rfl rfl (by kernel_rfl) Try.func6 (by kernel_rfl)
    (of_decide_eq_true (by kernel_rfl)) (by unfold Func.isWrapper; first | (rw [if_pos (by decide +kernel)]; kernel_rfl) | (rw [if_neg (by decide +kernel)]; exact ⟨rfl, rfl⟩))
    (fun os started H enc _ F => lifted os started H enc F)
end Go.Proofs.Ytddbebhklmaeoaa.judgeWrong
namespace Go.Proofs.Ytddbebhklmaeoaa
theorem judgeWrong_holds : Rows.JudgeWrongUptoSaid := judgeWrong.proved
#print axioms judgeWrong_holds
end Go.Proofs.Ytddbebhklmaeoaa
