/- ArenaHeapAny, where what it reads is of bulk at most 2^20. -/
import Derived.Test.YtebahglmdifmpaaL6b
import Derived.Test.YtebahglmdifmpaaRows
import Derived.WalkKit
import Derived.ProofKit
import Derived.OpenShut
import Derived.JoinedCond
import Derived.Carry
import Derived.ChangeSlices
import Derived.Deep.Grids
namespace Go.Proofs.Ytebahglmdifmpaa.arenaHeapAny
open Go.Deep Go.ChangeShapes Go.WideShapes Go.ChangeAt Go.RowKit Go.Proofs.Ytebahglmdifmpaa.Vc
set_option linter.unusedVariables false
theorem own : ownKnob Try.prog.godebug = none := by kernel_rfl
theorem laid : laidOutB Try.prog = true := by kernel_rfl
theorem stays {H : Type} {enc : TypeId × Value → H} {t : TypeId} (hr : Try.prog.readableRec t = true) (hrow : t < Try.prog.types.size) {W W' : World} {sp : Nat → Bool} {v : Value} {d : DataW H} {ps : List MemPlace}
    (h : DataW.Trod enc Try.prog W 0 (fun _ => true) true t v d ps) (hf : Fr [] W W') (hlt : ∀ p ∈ ps, p.block < W.heap.size) (hs : ∀ p ∈ ps, sp p.block = true) : DataW.Trod enc Try.prog W' 0 sp true t v d ps := by
  refine WideElems.Trod_stays laid hr hrow h (fun p hp => ?_) hs
  have hb := hf.block p.block (hlt p hp) (by simp)
  cases p with
  | cell b o => exact World.cell?_of_block (w := W) hb
  | map b => exact hb
theorem bulk_pos {H : Type} (d : DataW H) : 1 ≤ Rows.uptoBulk d := by
  cases d with
  | lit l => cases l <;> simp [Rows.uptoBulk]
  | _ => simp [Rows.uptoBulk]
theorem bulk_len {H : Type} : ∀ l : List (DataW H), l.length ≤ Rows.uptoBulkAll l
  | [] => by simp
  | d :: l => by
    have := bulk_pos d
    have := bulk_len l
    simp only [Rows.uptoBulkAll, List.length_cons]; omega
set_option maxRecDepth 100000 in
theorem contract (H : Type) (enc : TypeId × Value → H) (W : World) (base : Nat) (args : Array Value) (ds gs : List (DataW H)) (before : List MemPlace)
    (hval : ∀ (j : Nat) t v, Try.f6.params[j]? = some t → args[j]? = some v → Value.okWide Try.prog W .any base t v)
    (hW : DataW.Whole enc Try.prog Try.f6.params.toList Rows.arenaHeapAnySpec.vars false W args.toList ds gs before) (hk : Rows.uptoSmall H (ds ++ gs) = true) :
    Calls Try.prog 6 args W fun e W' => ∃ v, e = .returned v ∧ Rows.arenaHeapAnySpec.post enc Try.prog Try.f6 false true false false W args v W' := by
  have hW' := hW
  obtain ⟨p, q, hA0, hV, rfl, hfz, hnd⟩ := hW
  have hA : DataW.TrodAll enc Try.prog W 0 (fun _ => true) true Try.f6.params.toList args.toList ds p := hA0
  rw [Try.params6] at hA hval
  obtain ⟨v0, v1, d0, d1, p0, p1, rfl, rfl, rfl, h0, h1⟩ := trodAll_two hA
  obtain ⟨rfl, rfl⟩ := trodVars_none hV
  obtain ⟨A0, n0, c0, rfl⟩ := okWide_slice (e := 4) (by kernel_rfl) (hval 0 61 v0 rfl rfl)
  obtain ⟨A1, n1, c1, rfl⟩ := okWide_slice (e := 3) (by kernel_rfl) (hval 1 23 v1 rfl rfl)
  have l0 := hW'.lt
  have hbulk : Rows.uptoBulkAll ([d0, d1] ++ []) ≤ 1048576 := of_decide_eq_true hk
  simp only [List.cons_append, List.nil_append, Rows.uptoBulkAll] at hbulk
  have T0 : n0 ≤ 2000000 ∧ (0 < n0 → ∀ a, A0 = some a → a.block < W.heap.size) ∧ ∃ tb, LW.InB W A0 n0 tb := by
    obtain ⟨fuel, hf⟩ := h0
    rcases open_bools (t := 61) (e := 4) (by kernel_rfl) (by kernel_rfl) (by kernel_rfl) hf with ⟨hc, hx⟩ | ⟨a, len, cap, Bf, hcs, _, hl, hm, hx, hcell⟩
    · simp [Value.cells] at hc
      obtain ⟨rfl, rfl, rfl⟩ := hc
      exact ⟨by omega, by omega, [], rfl, fun h => absurd h (by omega)⟩
    · simp [Value.cells] at hcs
      obtain ⟨rfl, rfl, rfl⟩ := hcs
      simp only [Prod.mk.injEq] at hx
      obtain ⟨rfl, rfl⟩ := hx
      simp only [boolRow, Rows.uptoBulk] at hbulk
      have hb := bulk_len ((List.range n0).map fun i => DataW.lit (H := H) (.bool (Bf i)))
      simp only [List.length_map, List.length_range] at hb
      refine ⟨by omega, fun hn a' ha => ?_, (List.range n0).map Bf, by simp, fun hn => ?_⟩
      · injection ha with ha
        subst ha
        exact World.block_lt_of_cell? W _ (hcell 0 (by omega))
      · obtain ⟨b, off, spot⟩ := a
        have hspot : spot = none := by simpa [Addr.add] using World.cell?_spot (hcell 0 (by omega))
        subst hspot
        refine ⟨b, off, rfl, fun i hi => ?_⟩
        have := hcell i (by omega)
        rw [add_plain] at this
        rw [this]
        simp [List.getD_eq_getElem?_getD, hi]
  have T1 : n1 ≤ 2000000 ∧ (0 < n1 → ∀ a, A1 = some a → a.block < W.heap.size) ∧ ∃ ls, LW.InI W A1 n1 ls := by
    obtain ⟨fuel, hf⟩ := h1
    rcases open_ints (t := 23) (e := 3) (k := .i64) (by kernel_rfl) (by kernel_rfl) (by kernel_rfl) hf with ⟨hc, hx⟩ | ⟨a, len, cap, zs, hcs, _, hl, hm, hz, hx, hcell, hwz⟩
    · simp [Value.cells] at hc
      obtain ⟨rfl, rfl, rfl⟩ := hc
      exact ⟨by omega, by omega, [], rfl, fun h => absurd h (by omega)⟩
    · simp [Value.cells] at hcs
      obtain ⟨rfl, rfl, rfl⟩ := hcs
      simp only [Prod.mk.injEq] at hx
      obtain ⟨rfl, rfl⟩ := hx
      simp only [if_true] at hz
      simp only [Rows.uptoBulk] at hbulk
      have hb := bulk_len (lits (H := H) .i64 (zs.take n1))
      have hll : (lits (H := H) .i64 (zs.take n1)).length = n1 := by simp [lits]; omega
      refine ⟨by omega, fun hn a' ha => ?_, zs.take n1, by simp; omega, fun hn => ?_⟩
      · injection ha with ha
        subst ha
        exact World.block_lt_of_cell? W _ (hcell 0 (by omega))
      · obtain ⟨b, off, spot⟩ := a
        have hspot : spot = none := by simpa [Addr.add] using World.cell?_spot (hcell 0 (by omega))
        subst hspot
        refine ⟨b, off, rfl, fun i hi => ?_⟩
        have := hcell i (by omega)
        rw [add_plain] at this
        rw [this]
        simp [List.getD_eq_getElem?_getD, hi]
  obtain ⟨k0, b0, tb, hB⟩ := T0
  obtain ⟨k1, b1, ls, hI⟩ := T1
  refine (LW.any (c0 := c0) (c1 := c1) hB hI b0 b1 k0 k1).mono fun e W' ⟨he, hg⟩ => ?_
  subst he
  simp only [List.append_nil] at hW' l0
  exact ⟨_, rfl, post_of_same (pa := p0 ++ (p1 ++ [])) (pv := []) hW' (fun _ _ _ => trodAll_cons_mk (shut_bool (by kernel_rfl) _) trodAll_mk0)
    (fun sp hsp => trodAll_cons_mk (stays (by kernel_rfl) (by decide +kernel) h0 hg (fun x hx => l0 x (by simp [hx])) (fun x hx => hsp x (by simp [hx]))) (trodAll_cons_mk (stays (by kernel_rfl) (by decide +kernel) h1 hg (fun x hx => l0 x (by simp [hx])) (fun x hx => hsp x (by simp [hx]))) trodAll_mk0)) (fun _ _ => rfl) (by simp)
    (hg.grownW.frame _) hg.grownW.2.1 (ok_one (t := 4) (by kernel_rfl) rfl (okWide_bool_mk (by kernel_rfl) _))⟩
set_option maxRecDepth 100000 in
theorem lifted (os : Os) (started : os.Started) (H : Type) (enc : TypeId × Value → H) (F : Stop.Interp) :
    ReturnsInHanded {} Try.checked os 6 .any ((Rows.OpenSpec.upto Rows.arenaHeapAnySpec).pre6 enc Try.prog Try.f6 Rows.arenaHeapAnyUptoRow.domain false) (((Rows.OpenSpec.upto Rows.arenaHeapAnySpec).at F).post enc Try.prog Try.f6 false true false false) := by
  refine returnsInHanded_of_cond (C := Try.checked) (s := Rows.OpenSpec.upto Rows.arenaHeapAnySpec) (k := Rows.uptoSmall) rfl own started (by kernel_rfl) Try.func6
    (OpenSpec.witness (enc := enc) (C := Try.checked) (s := Rows.OpenSpec.upto Rows.arenaHeapAnySpec) (k := Rows.uptoSmall) rfl false ⟨#[], #[.slice none 0 0, .slice none 0 0], []⟩ 8 (by kernel_rfl) (by kernel_rfl) (by kernel_rfl)
      (x := ([.nil, .nil], [], [])) (by kernel_rfl) rfl (by kernel_rfl)) ?_
  intro W base args ds gs before hval hW _ hk _
  exact contract H enc W base args ds gs before hval hW hk
theorem proved : Rows.ArenaHeapAnyUptoSaid :=
  OpenClaim.holds_of_cond 6 Try.f6 rfl rfl rfl rfl rfl rfl rfl ⟨rfl, rfl, rfl, rfl, rfl⟩ rfl rfl rfl rfl rfl (by kernel_rfl) Try.func6 (by kernel_rfl)
    (of_decide_eq_true (by kernel_rfl)) (by unfold Func.isWrapper; first | (rw [if_pos (by decide +kernel)]; kernel_rfl) | (rw [if_neg (by decide +kernel)]; exact ⟨rfl, rfl⟩))
    (fun os started H enc _ F => lifted os started H enc F)
#print axioms proved
end Go.Proofs.Ytebahglmdifmpaa.arenaHeapAny
namespace Go.Proofs.Ytebahglmdifmpaa
theorem arenaHeapAny_holds : Rows.ArenaHeapAnyUptoSaid := arenaHeapAny.proved
end Go.Proofs.Ytebahglmdifmpaa
