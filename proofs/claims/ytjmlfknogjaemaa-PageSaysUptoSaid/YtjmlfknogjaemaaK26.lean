/- PageSays: true, and what is handed in stays, where what it reads is of bulk at most 2^20. -/
import Derived.Test.YtjmlfknogjaemaaM6
import Derived.Test.YtjmlfknogjaemaaM30
import Derived.Test.YtjmlfknogjaemaaM35
namespace Go.Proofs.Ytjmlfknogjaemaa.pageSays
open Go.Deep Go.ChangeShapes Go.WideShapes Go.ChangeAt Go.RowKit Go.Proofs.Ytjmlfknogjaemaa.Vc
set_option linter.unusedVariables false
set_option maxRecDepth 100000 in
theorem contract (H : Type) (enc : TypeId × Value → H) (W : World) (base : Nat) (args : Array Value) (ds gs : List (DataW H)) (before : List MemPlace)
    (hval : ∀ (j : Nat) t v, Try.f9.params[j]? = some t → args[j]? = some v → Value.okWide Try.prog W .any base t v)
    (hW : DataW.Whole enc Try.prog Try.f9.params.toList Rows.pageSaysSpec.vars false W args.toList ds gs before) (hk : Rows.uptoSmall H (ds ++ gs) = true) :
    Calls Try.prog 9 args W fun e W' => ∃ v, e = .returned v ∧ Rows.pageSaysSpec.post enc Try.prog Try.f9 false true false false W args v W' := by
  have hW' := hW
  obtain ⟨p, q, hA0, hV, rfl, hfz, hnd⟩ := hW
  have hA : DataW.TrodAll enc Try.prog W 0 (fun _ => true) true Try.f9.params.toList args.toList ds p := hA0
  rw [Try.params9] at hA hval
  obtain ⟨v0, v1, v2, v3, v4, d0, d1, d2, d3, d4, p0, p1, p2, p3, p4, rfl, rfl, rfl, h0, h1, h2, h3, h4⟩ := trodAll_five hA
  obtain ⟨rfl, rfl⟩ := trodVars_none hV
  obtain ⟨x0, rfl⟩ := okWide_int (k := .i64) (by kernel_rfl) (hval 0 3 v0 rfl rfl)
  obtain ⟨x1, rfl, _⟩ := okWide_struct Try.underlying29 (hval 1 29 v1 rfl rfl)
  obtain ⟨A2, n2, c2, rfl⟩ := okWide_slice (e := 9) (by kernel_rfl) (hval 2 25 v2 rfl rfl)
  obtain ⟨A3, n3, c3, rfl⟩ := okWide_slice (e := 70) (by kernel_rfl) (hval 3 69 v3 rfl rfl)
  obtain ⟨x4, rfl⟩ := okWide_string (by kernel_rfl) (hval 4 9 v4 rfl rfl)
  have l0 := hW'.lt
  have hbulk : Rows.uptoBulkAll ([d0, d1, d2, d3, d4] ++ []) ≤ 1048576 := of_decide_eq_true hk
  simp only [List.cons_append, List.nil_append, Rows.uptoBulkAll] at hbulk
  obtain ⟨y0, F0, i0, k0⟩ := open_arg (fuel := 20) (ty := .int .i64) (by kernel_rfl) h0
  replace k0 : wt (.int .i64) y0 ≤ 1048576 := by omega
  obtain ⟨y1, F1, i1, k1⟩ := open_arg (fuel := 20) (ty := graphTy) (by kernel_rfl) h1
  replace k1 : wt (graphTy) y1 ≤ 1048576 := by omega
  obtain ⟨u1, e1, j1⟩ := inGraph i1
  obtain rfl : x1 = u1.cells := Array.toList_inj.1 e1
  obtain ⟨y2, F2, i2, k2⟩ := open_arg (fuel := 20) (ty := .sl .str) (by kernel_rfl) h2
  replace k2 : wt (.sl .str) y2 ≤ 1048576 := by omega
  obtain ⟨y3, F3, i3, k3⟩ := open_arg (fuel := 20) (ty := .sl PG.triTy) (by kernel_rfl) h3
  replace k3 : wt (.sl PG.triTy) y3 ≤ 1048576 := by omega
  obtain ⟨y4, F4, i4, k4⟩ := open_arg (fuel := 20) (ty := .str) (by kernel_rfl) h4
  replace k4 : wt (.str) y4 ≤ 1048576 := by omega
  refine (PG.lawSays (B := A2) (m := n2) (d := c2) (C := A3) (k := n3) (f := c3) j1 (In.strs i2) (PG.inT3 i3) (smallGraph j1 k1) (by have := wt_len y2; have := (In.strs i2).1; omega) (by have := wt_len y3; have := (PG.inT3 i3).1; rw [List.length_map, List.length_map] at this; omega) x0 x4).mono fun e W' ⟨he, hg⟩ => ?_
  subst he
  simp only [List.append_nil] at hW' l0
  exact ⟨_, rfl, post_of_fr (pa := p0 ++ (p1 ++ (p2 ++ (p3 ++ (p4 ++ []))))) (pv := []) hW' (fun _ _ _ => trodAll_cons_mk (shut_bool (by kernel_rfl) _) trodAll_mk0)
    (fun sp hsp => (trodAll_cons_mk (stays (by kernel_rfl) (by decide +kernel) h0 hg (fun x hx => l0 x (by simp [hx])) (fun x hx => hsp x (by simp [hx]))) (trodAll_cons_mk (stays (by kernel_rfl) (by decide +kernel) h1 hg (fun x hx => l0 x (by simp [hx])) (fun x hx => hsp x (by simp [hx]))) (trodAll_cons_mk (stays (by kernel_rfl) (by decide +kernel) h2 hg (fun x hx => l0 x (by simp [hx])) (fun x hx => hsp x (by simp [hx]))) (trodAll_cons_mk (stays (by kernel_rfl) (by decide +kernel) h3 hg (fun x hx => l0 x (by simp [hx])) (fun x hx => hsp x (by simp [hx]))) (trodAll_cons_mk (stays (by kernel_rfl) (by decide +kernel) h4 hg (fun x hx => l0 x (by simp [hx])) (fun x hx => hsp x (by simp [hx]))) trodAll_mk0)))))) (fun _ _ => rfl) (by simp) hg
    (ok_one (t := 4) (by kernel_rfl) rfl (okWide_bool_mk (by kernel_rfl) _))⟩
set_option maxRecDepth 100000 in
theorem lifted (os : Os) (started : os.Started) (H : Type) (enc : TypeId × Value → H) (F : Stop.Interp) :
    ReturnsInHanded {} Try.checked os 9 .any ((Rows.OpenSpec.upto Rows.pageSaysSpec).pre6 enc Try.prog Try.f9 Rows.pageSaysUptoRow.domain false) (((Rows.OpenSpec.upto Rows.pageSaysSpec).at F).post enc Try.prog Try.f9 false true false false) := by
  refine returnsInHanded_of_cond (C := Try.checked) (s := Rows.OpenSpec.upto Rows.pageSaysSpec) (k := Rows.uptoSmall) rfl own started (by kernel_rfl) Try.func9
    (OpenSpec.witness (enc := enc) (C := Try.checked) (s := Rows.OpenSpec.upto Rows.pageSaysSpec) (k := Rows.uptoSmall) rfl false ⟨#[], #[.int .i64 0, .agg #[.slice none 0 0, .slice none 0 0, .slice none 0 0, .slice none 0 0, .slice none 0 0, .slice none 0 0], .slice none 0 0, .slice none 0 0, .string ⟨#[]⟩], []⟩ 8 (by kernel_rfl) (by kernel_rfl) (by kernel_rfl)
      (x := ([.lit (.int .i64 0), .agg [.nil, .nil, .nil, .nil, .nil, .nil], .nil, .nil, .lit (.string [])], [], [])) (by kernel_rfl) rfl (by kernel_rfl)) ?_
  intro W base args ds gs before hval hW _ hk _
  exact contract H enc W base args ds gs before hval hW hk
theorem proved : Rows.PageSaysUptoSaid :=
  OpenClaim.holds_of_cond 9 Try.f9 rfl rfl rfl rfl rfl rfl rfl ⟨rfl, rfl, rfl, rfl, rfl⟩ rfl rfl rfl rfl rfl (by kernel_rfl) Try.func9 (by kernel_rfl)
    (of_decide_eq_true (by kernel_rfl)) (by unfold Func.isWrapper; first | (rw [if_pos (by decide +kernel)]; kernel_rfl) | (rw [if_neg (by decide +kernel)]; exact ⟨rfl, rfl⟩))
    (fun os started H enc _ F => lifted os started H enc F)
end Go.Proofs.Ytjmlfknogjaemaa.pageSays
namespace Go.Proofs.Ytjmlfknogjaemaa
theorem pageSays_holds : Rows.PageSaysUptoSaid := pageSays.proved
#print axioms pageSays_holds
end Go.Proofs.Ytjmlfknogjaemaa
