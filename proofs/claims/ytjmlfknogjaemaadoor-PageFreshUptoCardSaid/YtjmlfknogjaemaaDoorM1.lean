/- The rules of Vc are enough: what wpV says is what the machine does. -/
import Derived.Test.YtjmlfknogjaemaaDoorM0
import Derived.Laws.Strings
set_option linter.unusedSimpArgs false
set_option linter.unusedVariables false
namespace Go.Proofs.YtjmlfknogjaemaaDoor.Vc
open Go

theorem andThen_ok' {α β : Type} {r : Result α} {f : α → World → Result β} {b : β} {w' : World} (h : r.andThen f = .ok b w') : ∃ a w1, r = .ok a w1 ∧ f a w1 = .ok b w' := by
  cases r with
  | ok a w1 => exact ⟨a, w1, rfl, h⟩
  | halt x w1 => cases h

section
variable {P : Program} {a : Act} {w : World} {Q : Exit → Act → World → Prop} {K : Value → World → Prop}

def nextK (o : Oper) (a : Act) (K : Value → World → Prop) : Act → World → Prop := fun a' w' => ∃ v, a' = a.put o.dst v ∧ K v w'

theorem upon_runV {o : Oper} {r : Result Next} (h : runV r K) : o.upon P a (nextK o a K) Q r := by
  unfold runV at h
  split at h
  · exact ⟨_, rfl, h⟩
  · exact ⟨_, rfl, h⟩
  · exact h.elim
theorem upon_sem {o : Oper} {s : Sem Value} (h : semV P s w K) : o.upon P a (nextK o a K) Q ((do pure (.value (← s)) : Sem Next).run P w) := by
  obtain ⟨v, w', hr, hk⟩ := h
  simp only [Sem.run_bind, hr, Result.andThen_ok, Sem.run_pure]
  exact ⟨v, rfl, hk⟩
theorem upon_semU {o : Oper} {s : Sem Unit} (h : semU P s w K) : o.upon P a (nextK o a K) Q ((do s; pure .skip : Sem Next).run P w) := by
  obtain ⟨w', hr, hk⟩ := h
  simp only [Sem.run_bind, hr, Result.andThen_ok, Sem.run_pure]
  exact ⟨undef, rfl, hk⟩
theorem sem_of_pure {s : Sem Value} (h : pureV P s w K) : semV P s w K := by
  obtain ⟨v, hr, hk⟩ := h
  exact ⟨v, w, hr w, hk⟩
theorem sem_of_bool {s : Sem Value} (h : boolV P s w K) : semV P s w K := by
  obtain ⟨v, hr, hk⟩ := h
  exact ⟨_, w, hr w, hk⟩

theorem run_underlying' {t : TypeId} {d : TypeDesc} (h : P.underlying t = some d) : (underlying t).run P w = .ok d w := run_underlying h w
theorem run_sizeOf' {t : TypeId} {i : TypeInfo} (h : P.info? t = some i) : (sizeOf t).run P w = .ok i.size w := by
  simp [sizeOf, typeInfo, h]
theorem run_isAgg' {t : TypeId} {d : TypeDesc} (h : P.underlying t = some d) : (isAgg t).run P w = .ok (aggT P t) w := by
  simp only [isAgg, Sem.run_bind, run_underlying' h, Result.andThen_ok, aggT, h]
  cases d <;> rfl
theorem sizeT_eq {t : TypeId} {i : TypeInfo} (h : P.info? t = some i) : sizeT P t = i.size := by simp [sizeT, h]

theorem add_none (b o n : Nat) : (⟨b, o, none⟩ : Addr).add n = ⟨b, o + n, none⟩ := by
  unfold Addr.add
  split <;> simp_all

theorem run_loadCells' (b o : Nat) (vs : List Value) (h : ∀ i, i < vs.length → w.cell? ⟨b, o + i, none⟩ = vs[i]?) : (loadCells ⟨b, o, none⟩ vs.length).run P w = .ok vs.toArray w := by
  have := run_loadCells_list (P := P) (w := w) ⟨b, o, none⟩ vs (fun j v hj => by
    have hlt : j < vs.length := (List.getElem?_eq_some_iff.1 hj).1
    rw [add_none, h j hlt, hj])
  simpa using this

theorem setCs_heap (b : Nat) (T : TypeId) : ∀ (vs : List Value) (o : Nat) (w : World) (cs : Array Value), w.heap[b]? = some (.cells cs T (0, 0)) → o + vs.length ≤ cs.size → (∀ v ∈ vs, plainV v = true) →
    ∀ i0 p0, p0 + i0 = o → (storeCells ⟨b, p0, none⟩ vs i0).run P w = .ok () (setCs w b o vs) := by
  intro vs
  induction vs with
  | nil => intro o w cs hb ho hp i0 p0 e; rfl
  | cons v vs ih =>
    intro o w cs hb ho hp i0 p0 e
    have hlt : o < cs.size := by simp at ho; omega
    have hc : w.cell? ⟨b, o, none⟩ = some cs[o] := by simp [World.cell?, hb, hlt]
    have hf : w.frozen? ⟨b, o, none⟩ = false := by simp [World.frozen?, hb]
    have hpl := hp v (by simp)
    have hst : (store ⟨b, o, none⟩ v).run P w = .ok () (w.setCell ⟨b, o, none⟩ v) := by
      unfold store
      cases v <;> simp [plainV] at hpl <;> simp [Sem.run, hc, hf]
    have hb' : (w.setCell ⟨b, o, none⟩ v).heap[b]? = some (.cells (cs.setIfInBounds o v) T (0, 0)) := heap_setCell_same w b o cs T v hb
    unfold storeCells
    rw [add_none, e]
    simp only [Sem.run_bind, hst, Result.andThen_ok]
    exact ih (o + 1) _ _ hb' (by simp at ho ⊢; omega) (fun u hu => hp u (by simp [hu])) (i0 + 1) p0 (by omega)

theorem run_intV {op : BinOp} {k k' : IntKind} {x y : Int} {t : TypeId} (hk : sameKind op k k' = true) (h : intV op k x y w K) : semV P (binOp op t (.int k x) (.int k' y)) w K := by
  cases op <;> simp only [intV] at h
  case shl =>
    obtain ⟨h0, h⟩ := h
    refine ⟨_, _, ?_, h⟩
    simp [binOp, Op.shift, show ¬ y < 0 by omega, shlI]
  case shr =>
    obtain ⟨h0, h⟩ := h
    refine ⟨_, _, ?_, h⟩
    simp [binOp, Op.shift, show ¬ y < 0 by omega, shrI]
  all_goals (have hk' : k = k' := by simpa [sameKind] using hk)
  all_goals subst hk'
  case quo =>
    obtain ⟨h0, h⟩ := h
    refine ⟨_, _, ?_, h⟩
    simp [binOp, Op.intDiv, h0]
  case rem =>
    obtain ⟨h0, h⟩ := h
    refine ⟨_, _, ?_, h⟩
    simp [binOp, Op.intDiv, h0]
  all_goals refine ⟨_, _, ?_, h⟩
  all_goals simp [binOp, Op.intArith, Op.intCmp, Op.intBits, bitsI]

theorem eqGuard_none {op : BinOp} {t : TypeId} {ox oy : Operand} {x y : Value} (h1 : ¬ (x = .nilIface ∧ y = .nilIface)) (h2 : ∀ p q, ¬ (x = .agg p ∧ y = .agg q)) :
    (eqGuard op t ox oy x y).run P w = .ok () w := by
  unfold eqGuard
  split
  · rw [if_neg (by simp)]
    split
    · exact absurd ⟨rfl, rfl⟩ h1
    · exact absurd ⟨rfl, rfl⟩ (h2 _ _)
    · rfl
  · rw [if_neg (by simp)]
    split
    · exact absurd ⟨rfl, rfl⟩ h1
    · exact absurd ⟨rfl, rfl⟩ (h2 _ _)
    · rfl
  · rw [if_pos (by simp)]
    rfl

theorem toList_beq (x y : ByteArray) : (x.toList == y.toList) = decide (x = y) := by
  by_cases h : x = y
  · subst h; simp
  · have : ¬ x.toList = y.toList := fun he => h (by
      have h1 : x.data.toList = y.data.toList := by simpa [ByteArray.toList_eq] using he
      exact ByteArray.ext (Array.ext' h1))
    simp [h, this]

theorem sem_other {op : BinOp} {t : TypeId} {ox oy : Operand} {x y : Value} {rt : TypeId} (h : otherV P op rt t ox oy x y w K) : semV P (do eqGuard op t ox oy x y; binOp op t x y) w K := by
  cases op <;> simp only [otherV] at h
  case eql => exact sem_of_bool h
  case neq => exact sem_of_bool h
  all_goals first | (replace h := sem_of_bool h) | (replace h := sem_of_T h)
  all_goals obtain ⟨v, w', hr, hk⟩ := h
  all_goals exact ⟨v, w', by simp [eqGuard, hr], hk⟩

theorem eq_bool {d : Nat} {t : TypeId} {x y : Bool} (hu : P.underlying t = some .bool) : (Op.equalIn (d + 1) t (.bool x) (.bool y)).run P w = .ok (x == y) w := by
  simp [Op.equalIn, run_underlying' hu]
theorem eq_ptr {d : Nat} {t e : TypeId} {p : Option Addr} (hu : P.underlying t = some (.pointer e)) : (Op.equalIn (d + 1) t (.pointer p) (.pointer none)).run P w = .ok p.isNone w := by
  cases p <;> simp [Op.equalIn, run_underlying' hu]
theorem eq_slice {d : Nat} {t e : TypeId} {A B : Option Addr} {n c m k : Nat} (hu : P.underlying t = some (.slice e)) (hB : B = none) : (Op.equalIn (d + 1) t (.slice A n c) (.slice B m k)).run P w = .ok A.isNone w := by
  subst hB
  cases A <;> simp [Op.equalIn, run_underlying' hu]
theorem eq_map {d : Nat} {t e f : TypeId} {r : Option Nat} (hu : P.underlying t = some (.map e f)) : (Op.equalIn (d + 1) t (.map r) (.map none)).run P w = .ok r.isNone w := by
  cases r <;> simp [Op.equalIn, run_underlying' hu]
theorem run_eql_of {t : TypeId} {x y : Value} {b : Bool} (hb : binOp .eql t x y = (do pure (.bool (← Op.equal t x y)) : Sem Value)) (h : (Op.equalIn (9999 + 1) t x y).run P w = .ok b w) : (binOp .eql t x y).run P w = .ok (.bool b) w := by
  rw [hb]
  simp only [Op.equal, Op.maxDepth]
  rw [Sem.run_bind, h]
  rfl
theorem run_neq_of {t : TypeId} {x y : Value} {b : Bool} (hb : binOp .neq t x y = (do pure (.bool (!(← Op.equal t x y))) : Sem Value)) (h : (Op.equalIn (9999 + 1) t x y).run P w = .ok b w) : (binOp .neq t x y).run P w = .ok (.bool !b) w := by
  rw [hb]
  simp only [Op.equal, Op.maxDepth]
  rw [Sem.run_bind, h]
  rfl

theorem sem_binV {op : BinOp} {t : TypeId} {ox oy : Operand} {x y : Value} {rt : TypeId} (h : binV P op rt t ox oy x y w K) : semV P (do eqGuard op t ox oy x y; binOp op t x y) w K := by
  have key : ∀ {v w'}, (¬ (x = .nilIface ∧ y = .nilIface)) → (∀ p q, ¬ (x = .agg p ∧ y = .agg q)) → (binOp op t x y).run P w = .ok v w' → K v w' → semV P (do eqGuard op t ox oy x y; binOp op t x y) w K := by
    intro v w' h1 h2 hr hk
    exact ⟨v, w', by simp [eqGuard_none h1 h2, hr], hk⟩
  unfold binV at h
  split at h
  · split at h
    · rename_i hk
      obtain ⟨v, w', hr, hk2⟩ := run_intV (t := t) hk h
      exact key (by simp) (by simp) hr hk2
    · exact h.elim
  · split at h
    · exact key (by simp) (by simp) (by simp only [binOp, Op.stringOp, toList_beq]; rfl) h
    · exact key (by simp) (by simp) (by simp only [binOp, Op.stringOp, toList_beq]; rfl) h
    · obtain ⟨h0, h⟩ := h
      refine key (by simp) (by simp) ?_ h
      simp only [binOp, Op.stringOp]
      rw [if_neg (by simp [IntKind.max, IntKind.signed, IntKind.bits]; omega)]
      rfl
    · exact sem_other h
  · split at h
    · rename_i hu
      exact key (by simp) (by simp) (run_eql_of rfl (eq_bool hu)) h
    · rename_i hu
      exact key (by simp) (by simp) (run_neq_of rfl (eq_bool hu)) h
    · exact sem_other h
  · split at h
    · rename_i hu
      exact key (by simp) (by simp) (run_eql_of rfl (eq_ptr hu)) h
    · rename_i hu
      exact key (by simp) (by simp) (run_neq_of rfl (eq_ptr hu)) h
    · exact sem_other h
  · split at h
    · rename_i hu
      exact key (by simp) (by simp) (run_eql_of rfl (eq_slice hu rfl)) h
    · rename_i hu
      exact key (by simp) (by simp) (run_neq_of rfl (eq_slice hu rfl)) h
    · exact sem_other h
  · split at h
    · rename_i hu
      exact key (by simp) (by simp) (run_eql_of rfl (eq_map hu)) h
    · rename_i hu
      exact key (by simp) (by simp) (run_neq_of rfl (eq_map hu)) h
    · exact sem_other h
  · exact sem_other h

theorem fieldOff_spec {s : TypeId} {f off : Nat} (h : fieldOff P s f = some off) : ∃ fs fd i, P.underlying s = some (.struct fs) ∧ fs[f]? = some fd ∧ P.info? fd.type = some i ∧ i.size ≠ 0 ∧ fd.offset = off := by
  unfold fieldOff at h
  split at h
  · rename_i fs hu
    split at h
    · rename_i fd hf
      split at h
      · cases h
      · rename_i n hn
        injection h with h
        cases hi : P.info? fd.type with
        | none => simp [sizeT, hi] at hn
        | some i => exact ⟨fs, fd, i, hu, hf, hi, by simp [sizeT, hi] at hn; omega, h⟩
    · cases h
  · cases h
theorem run_fieldAt' {s : TypeId} {f off b o : Nat} (h : fieldOff P s f = some off) : (Instr.fieldAt s (.pointer (some ⟨b, o, none⟩)) f).run P w = .ok (.pointer (some ⟨b, o + off, none⟩)) w := by
  obtain ⟨fs, fd, i, hu, hf, hi, hs, rfl⟩ := fieldOff_spec h
  simp only [Instr.fieldAt, Sem.run_bind, run_underlying' hu, Result.andThen_ok, hf, Instr.sureAddr, Sem.run_pure, fieldPlace, run_sizeOf' hi, hs, if_false]
  rw [add_none]
theorem hasT_spec {t : TypeId} (h : hasT P t = true) : ∃ d i, P.underlying t = some d ∧ P.info? t = some i := by
  unfold hasT at h
  split at h
  · rename_i d i hd hi; exact ⟨d, i, hd, hi⟩
  · cases h
theorem aggT_spec {t : TypeId} (h : aggT P t = true) : ∃ d, P.underlying t = some d := by
  unfold aggT at h
  split at h
  · rename_i d; exact ⟨_, d⟩
  · rename_i d; exact ⟨_, d⟩
  · cases h

theorem sem_load {t : TypeId} {x : Value} (h : (match x with
    | .pointer (some ⟨b, s, none⟩) => match aggT P t with
      | true => match Nat.beq (leaves P 20 t).length (sizeT P t) with
        | true => exCells w b (leaves P 20 t) s fun vs => K (.agg vs.toArray) w
        | false => False
      | false => match hasT P t with
        | true => (shapeOf P t).ex fun v => w.cell? ⟨b, s, none⟩ = some v ∧ K v w
        | false => False
    | _ => False)) : ∃ v, (Instr.loadAt t x).run P w = .ok v w ∧ K v w := by
  split at h
  · rename_i b s
    split at h
    · rename_i ha
      split at h
      · rename_i hl
        obtain ⟨vs, h1, h2, h3⟩ := exCells_spec h
        obtain ⟨d, hd⟩ := aggT_spec ha
        have hlen : (leaves P 20 t).length = sizeT P t := Nat.eq_of_beq_eq_true hl
        have hi : ∃ i, P.info? t = some i ∧ i.size = vs.length := by
          cases hi : P.info? t with
          | none =>
            have : P.underlying t = none := by simp [Program.underlying, hi]
            rw [this] at hd; cases hd
          | some i => exact ⟨i, rfl, by rw [h1, hlen, sizeT_eq hi]⟩
        obtain ⟨i, hi, his⟩ := hi
        refine ⟨_, ?_, h3⟩
        simp only [Instr.loadAt, Instr.sureAddr, loadVar, Sem.run_bind, Sem.run_pure, Result.andThen_ok, run_isAgg' hd, ha, if_true, run_sizeOf' hi, his]
        rw [run_loadCells' b s vs (by rw [h1]; exact h2)]
        rfl
      · exact h.elim
    · rename_i ha
      split at h
      · rename_i hh
        obtain ⟨d, i, hd, hi⟩ := hasT_spec hh
        obtain ⟨v, hv, hk⟩ := Shape.ex_some h
        refine ⟨v, ?_, hk⟩
        simp only [Instr.loadAt, Instr.sureAddr, loadVar, Sem.run_bind, Sem.run_pure, Result.andThen_ok, run_isAgg' hd, ha]
        simp [load, Sem.run, hv]
      · exact h.elim
  · exact h.elim

theorem allPlain_spec : ∀ {l : List Value}, allPlain l = true → ∀ v ∈ l, plainV v = true
  | [], _, v, hv => by cases hv
  | u :: l, h, v, hv => by
    unfold allPlain at h
    split at h
    · rename_i hu
      rcases List.mem_cons.1 hv with rfl | hv
      · exact hu
      · exact allPlain_spec h v hv
    · cases h
theorem cellsV_eq (v : Value) : v.cells.toList = cellsV v := by cases v <;> rfl

theorem sem_store {t : TypeId} {x v : Value} (h : (match x with
    | .pointer (some ⟨b, s, none⟩) => match Nat.beq (cellsV v).length (sizeT P t), hasT P t, allPlain (cellsV v) with
      | true, true, true => canStore w b s (sizeT P t) ∧ K undef (setCs w b s (cellsV v))
      | _, _, _ => False
    | _ => False)) : semU P (Instr.storeAt t x v) w K := by
  split at h
  · rename_i b s
    split at h
    · rename_i h1 h2 h3
      obtain ⟨⟨cs, T, hb, ho⟩, hk⟩ := h
      obtain ⟨d, i, hd, hi⟩ := hasT_spec h2
      have hlen : (cellsV v).length = sizeT P t := Nat.eq_of_beq_eq_true h1
      refine ⟨_, ?_, hk⟩
      have hsz : v.cells.size = i.size := by rw [← Array.length_toList, cellsV_eq, hlen, sizeT_eq hi]
      simp only [Instr.storeAt, Instr.sureAddr, storeVar, Sem.run_bind, Sem.run_pure, Result.andThen_ok, run_sizeOf' hi, hsz, ne_eq, not_true_eq_false, if_false]
      rw [cellsV_eq]
      exact setCs_heap b T (cellsV v) s w cs hb (by rw [hlen]; exact ho) (allPlain_spec h3) 0 s rfl
    · exact h.elim
  · exact h.elim

theorem run_bound {k : IntKind} {i : Int} {y : Nat} {c : BoundsCode} (h0 : 0 ≤ i) (h1 : i ≤ y) : (Instr.sliceBound (.int k i) y c).run P w = .ok i.toNat w := by
  simp [Instr.sliceBound, asIntOf, h0, h1]
theorem cutA_zero (A : Option Addr) (c sz : Nat) : (if c = 0 then A else A.map (·.add (0 * sz))) = A := by
  split
  · rfl
  · cases A with
    | none => rfl
    | some a => simp [Addr.add]
theorem run_slice_of {t el : TypeId} {A : Option Addr} {n c l hh m : Nat} {lo hi : Option Value} (hel : hasT P el = true) (hu : P.underlying t = some (.slice el))
    (hb : (Instr.sliceBounds true n c lo hi none).run P w = .ok (l, hh, m) w) :
    (Instr.sliceAt t (.slice A n c) lo hi none).run P w = .ok (.slice (if m = l then A else A.map (·.add (l * sizeT P el))) (hh - l) (m - l)) w := by
  obtain ⟨d, i, hd, hinf⟩ := hasT_spec hel
  have h2 : (Instr.sliceAt t (.slice A n c) lo hi none).run P w = (Instr.slice t (.slice A n c) lo hi none).run P w := by
    simp only [Instr.sliceAt, Sem.run_bind, run_underlying' hu, Result.andThen_ok]
  rw [h2]
  simp only [Instr.slice, Sem.run_bind, run_underlying' hu, Result.andThen_ok, hb, run_sizeOf' hinf, Sem.run_pure, sizeT_eq hinf]

theorem sem_slice {t : TypeId} {x : Value} {lo hi mx : Option Value} {rt : TypeId} (h : sliceV P rt t x lo hi mx w K) : semV P (Instr.sliceAt t x lo hi mx) w K := by
  unfold sliceV at h
  split at h
  · rename_i el A n c hu
    split at h
    case h_5 => exact h.elim
    all_goals (split at h)
    all_goals first | exact h.elim | skip
    · rename_i hel
      obtain ⟨h1, h⟩ := h
      refine ⟨_, _, run_slice_of hel hu (l := 0) (hh := n) (m := c) ?_, ?_⟩
      · simp [Instr.sliceBounds]
      · rw [cutA_zero]; exact h
    · rename_i kh ih _ hel
      obtain ⟨h0, h1, h⟩ := h
      refine ⟨_, _, run_slice_of hel hu (l := 0) (hh := ih.toNat) (m := c) ?_, ?_⟩
      · simp only [Instr.sliceBounds, Sem.run_bind, Sem.run_pure, Result.andThen_ok, if_true, run_bound h0 h1]
      · rw [cutA_zero]; exact h
    · rename_i kl il _ hel
      obtain ⟨h0, h1, h2, h⟩ := h
      refine ⟨_, _, run_slice_of hel hu (l := il.toNat) (hh := n) (m := c) ?_, ?_⟩
      · simp only [Instr.sliceBounds, Sem.run_bind, Sem.run_pure, Result.andThen_ok, Option.isSome, run_bound h0 h1]
      · exact h
    · rename_i kh ih kl il _ hel
      obtain ⟨h0, h1, h2, h3, h⟩ := h
      refine ⟨_, _, run_slice_of hel hu (l := il.toNat) (hh := ih.toNat) (m := c) ?_, ?_⟩
      · simp only [Instr.sliceBounds, Sem.run_bind, Sem.run_pure, Result.andThen_ok, if_true, run_bound h0 h1]
        rw [run_bound h2 (by omega)]
        rfl
      · exact h
  · rename_i s hu
    have h2 : (Instr.sliceAt t (.string s) lo hi none).run P w = (Instr.slice t (.string s) lo hi none).run P w := by
      simp only [Instr.sliceAt, Sem.run_bind, run_underlying' hu, Result.andThen_ok]
    have fin : ∀ l hh : Int, 0 ≤ hh → hh ≤ s.size → 0 ≤ l → l ≤ hh → K (.string (s.extract l.toNat hh.toNat)) w →
        (Instr.sliceBounds false s.size s.size lo hi none).run P w = .ok (l.toNat, hh.toNat, s.size) w → semV P (Instr.sliceAt t (.string s) lo hi none) w K := by
      intro l hh a1 a2 a3 a4 hk hb
      refine ⟨_, _, ?_, hk⟩
      rw [h2]
      simp only [Instr.slice, Sem.run_bind, run_underlying' hu, Result.andThen_ok, Option.isSome]
      rw [if_neg (by simp)]
      simp only [Sem.run_bind, Sem.run_pure, Result.andThen_ok, hb]
    unfold boundV at h
    split at h
    · split at h
      · obtain ⟨a1, a2, a3, a4, h⟩ := h
        exact fin _ _ a1 a2 a3 a4 h (by simp [Instr.sliceBounds])
      · obtain ⟨a1, a2, a3, a4, h⟩ := h
        refine fin _ _ a1 a2 a3 a4 h ?_
        simp only [Instr.sliceBounds, Sem.run_bind, Sem.run_pure, Result.andThen_ok]
        rw [run_bound a3 (by omega)]
        rfl
      · exact h.elim
    · split at h
      · obtain ⟨a1, a2, a3, a4, h⟩ := h
        refine fin _ _ a1 a2 a3 a4 h ?_
        simp only [Instr.sliceBounds, Sem.run_bind, Sem.run_pure, Result.andThen_ok, Option.isSome]
        rw [run_bound a1 (by omega)]
        rfl
      · obtain ⟨a1, a2, a3, a4, h⟩ := h
        refine fin _ _ a1 a2 a3 a4 h ?_
        simp only [Instr.sliceBounds, Sem.run_bind, Sem.run_pure, Result.andThen_ok, Option.isSome]
        rw [run_bound a1 (by omega)]
        simp only [Result.andThen_ok]
        rw [run_bound a3 (by omega)]
        rfl
      · exact h.elim
    · exact h.elim
  · exact sem_of_pure (pure_of_T h)

theorem call_upon {o : Oper} {fv : Value} {args : Array Value} (h : callV P fv args o.type w K) : o.upon P a (nextK o a K) Q ((do let d ← Deferred.ofValue fv args; invoke d.target d.args : Sem Next).run P w) := by
  unfold callV callT at h
  split at h
  · rename_i f first cap
    split at h
    · rename_i he
      have hc : (callFunc f (first ++ args ++ cap)).run P w = .ok (.enter f (first ++ args ++ cap)) w := by
        unfold entersB at he
        split at he
        · rename_i fn hfn
          split at he
          · rename_i c hb
            have hn : fn.name ≠ "runtime.NumGoroutine" := by simpa using he
            simp [callFunc, hfn, hn, hb]
          · cases he
        · cases he
      simp only [Deferred.ofValue, Sem.run_bind, Sem.run_pure, Result.andThen_ok, invoke, hc]
      refine Calls.mono h fun e w' hr => ?_
      obtain ⟨v, rfl, hk⟩ := resV_some hr
      exact ⟨v, rfl, hk⟩
    · exact h.elim
  · exact h.elim

theorem run_index_slice {t el : TypeId} {b s n c : Nat} {k : IntKind} {j : Int} (hel : hasT P el = true) (ht : P.underlying t = some (.slice el)) (h0 : 0 ≤ j) (h1 : j < n) :
    (Instr.indexAt t (.slice (some ⟨b, s, none⟩) n c) (.int k j)).run P w = .ok (.pointer (some ⟨b, s + j.toNat * sizeT P el, none⟩)) w := by
  obtain ⟨d, i, hd, hinf⟩ := hasT_spec hel
  simp only [Instr.indexAt, asIntOf, Sem.run_bind, Sem.run_pure, Result.andThen_ok, run_underlying' ht]
  rw [if_pos ⟨h0, h1⟩]
  simp only [Sem.run_bind, run_sizeOf' hinf, Result.andThen_ok, Sem.run_pure, sizeT_eq hinf]
  rw [add_none]
theorem run_index_array {t el : TypeId} {b s len : Nat} {k : IntKind} {j : Int} (hel : hasT P el = true) (ht : P.underlying t = some (.array len el)) (h0 : 0 ≤ j) (h1 : j < len) :
    (Instr.indexAt t (.pointer (some ⟨b, s, none⟩)) (.int k j)).run P w = .ok (.pointer (some ⟨b, s + j.toNat * sizeT P el, none⟩)) w := by
  obtain ⟨d, i, hd, hinf⟩ := hasT_spec hel
  simp only [Instr.indexAt, asIntOf, Instr.sureAddr, Sem.run_bind, Sem.run_pure, Result.andThen_ok, run_underlying' ht]
  rw [if_pos ⟨h0, h1⟩]
  simp only [Sem.run_bind, run_sizeOf' hinf, Result.andThen_ok, Sem.run_pure, sizeT_eq hinf]
  rw [add_none]
theorem one_of_map {ats : Array TypeId} {d : TypeDesc} (h : ats.toList.map P.underlying = [some d]) : ∃ u, ats = #[u] ∧ P.underlying u = some d := by
  cases hl : ats.toList with
  | nil => simp [hl] at h
  | cons u l =>
    rw [hl] at h
    cases l with
    | nil =>
      refine ⟨u, ?_, by simpa using h⟩
      rw [← Array.toList_inj, hl]
    | cons v l => simp at h
theorem run_len_slice {t : TypeId} {el : TypeId} {ats : Array TypeId} {args : Array Value} {A : Option Addr} {n c : Nat} (ha : args.toList = [.slice A n c]) (hu : ats.toList.map P.underlying = [some (.slice el)]) :
    (Builtin.len_ ats t args).run P w = .ok (.int .i64 n) w := by
  obtain rfl : args = #[.slice A n c] := by rw [← Array.toList_inj]; exact ha
  obtain ⟨u, rfl, hu2⟩ := one_of_map hu
  simp [Builtin.len_, run_underlying' hu2, goInt]
theorem run_len_string {t : TypeId} {ats : Array TypeId} {args : Array Value} {s : ByteArray} (ha : args.toList = [.string s]) (hu : ats.toList.map P.underlying = [some .string]) :
    (Builtin.len_ ats t args).run P w = .ok (.int .i64 s.size) w := by
  obtain rfl : args = #[.string s] := by rw [← Array.toList_inj]; exact ha
  obtain ⟨u, rfl, hu2⟩ := one_of_map hu
  simp [Builtin.len_, run_underlying' hu2, goInt]

theorem pure_makeInterface {t : TypeId} {x : Value} (h : (match P.underlying t with
    | none => False
    | some (.interface _) => False
    | some _ => K (.iface t x) w)) : pureV P (Instr.makeInterface t x) w K := by
  split at h
  · exact h.elim
  · exact h.elim
  · rename_i d hd hu
    refine ⟨_, fun w' => ?_, h⟩
    simp only [Instr.makeInterface, Sem.run_bind, run_underlying' hu, Result.andThen_ok]
    rfl
theorem sem_entry {t : TypeId} {m k : Value} (h : entryV P t m k w K) : semV P (Instr.mapEntry t m k) w K := by
  unfold entryV at h
  split at h
  · obtain ⟨v, n, w', hr, hk⟩ := oneV_some h
    exact ⟨_, w', hr, hk⟩
  · exact h.elim
theorem pure_arr {t : TypeId} {x : Value} (h : arrV P t x w K) : pureV P (Instr.arrayAt t x) w K := by
  unfold arrV at h
  split at h
  · rename_i n el A len c hu
    obtain ⟨hl, h⟩ := h
    obtain ⟨b, s, rfl, h⟩ := needPtr_spec h
    refine ⟨_, fun w' => ?_, h⟩
    simp only [Instr.arrayAt, Sem.run_bind, run_underlying' hu, Result.andThen_ok]
    rw [if_neg (by omega)]
    rfl
  · exact h.elim
theorem pure_field {t : TypeId} {x : Value} {f : Nat} (h : fieldV P t x f w K) : pureV P (Instr.field t x f) w K := by
  unfold fieldV at h
  split at h
  · rename_i fs cs hu
    split at h
    · rename_i fd hf
      split at h
      · rename_i ha hh
        obtain ⟨d, i, hd, hi⟩ := hasT_spec hh
        refine ⟨_, fun w' => ?_, h⟩
        simp only [Instr.field, Sem.run_bind, run_underlying' hu, Result.andThen_ok, hf, asAgg, Sem.run_pure, part, run_isAgg' hd, ha, if_true, run_sizeOf' hi, sizeT_eq hi]
      · rename_i ha hh
        obtain ⟨d, i, hd, hi⟩ := hasT_spec hh
        split at h
        · rename_i v hv
          refine ⟨_, fun w' => ?_, h⟩
          simp only [Instr.field, Sem.run_bind, run_underlying' hu, Result.andThen_ok, hf, asAgg, Sem.run_pure, part, run_isAgg' hd, ha]
          simp [hv]
        · exact h.elim
      · exact h.elim
    · exact h.elim
  · exact h.elim

theorem opV_upon {o : Oper} {e : Env} (h : opV P o e w K) : o.upon P a (nextK o a K) Q ((execOp (ev e) o).run P w) := by
  obtain ⟨dst, op, type, pos, after, guard⟩ := o
  cases op <;> simp only [opV] at h
  case move x => exact ⟨_, rfl, h⟩
  case assign x => exact ⟨_, rfl, h⟩
  case pick c x y =>
    simp only [execOp]
    split at h
    · rename_i t u v hc hx hy
      simp only [hc, asBool, Sem.run_bind, Sem.run_pure, Result.andThen_ok]
      cases t
      · exact ⟨_, rfl, by simpa [hy, pickB] using h⟩
      · exact ⟨_, rfl, by simpa [hx, pickB] using h⟩
    · rename_i t hc _
      simp only [hc, asBool, Sem.run_bind, Sem.run_pure, Result.andThen_ok]
      cases t
      · exact ⟨_, rfl, by simpa [sel] using h⟩
      · exact ⟨_, rfl, by simpa [sel] using h⟩
    · exact h.elim
  case nilCheck x =>
    simp only [execOp]
    unfold nilV at h
    split at h
    · rename_i p hx
      obtain ⟨b, s, rfl, h⟩ := needPtr_spec h
      simp only [hx]
      exact ⟨_, rfl, h⟩
    · rename_i f u c hx
      simp only [hx]
      exact ⟨_, rfl, h⟩
    · rename_i t v hx
      simp only [hx]
      exact ⟨_, rfl, h⟩
    · exact h.elim
  case fieldAddr s x f =>
    simp only [execOp]
    split at h
    · rename_i b i off hx hf
      simp only [hx, Sem.run_bind, run_fieldAt' hf, Result.andThen_ok, Sem.run_pure]
      exact ⟨_, rfl, h⟩
    · exact h.elim
  case indexAddr t x i =>
    simp only [execOp]
    split at h
    · rename_i el A n c k j ht hx hi
      split at h
      case h_2 => exact h.elim
      rename_i hel
      obtain ⟨h0, h1, h⟩ := h
      obtain ⟨b, s, rfl, h⟩ := needPtr_spec h
      refine upon_sem ⟨_, w, ?_, h⟩
      rw [hx, hi]
      exact run_index_slice hel ht h0 h1
    · rename_i len el b s k j ht hx hi
      split at h
      case h_2 => exact h.elim
      rename_i hel
      obtain ⟨h0, h1, h⟩ := h
      refine upon_sem ⟨_, w, ?_, h⟩
      rw [hx, hi]
      exact run_index_array hel ht h0 h1
    · exact h.elim
  case load t x =>
    simp only [execOp]
    obtain ⟨v, hr, hk⟩ := sem_load h
    exact upon_sem ⟨v, w, hr, hk⟩
  case store t x v =>
    simp only [execOp]
    exact upon_semU (sem_store h)
  case alloc t =>
    simp only [execOp]
    split at h
    · rename_i z hz
      have hz' : ∃ i, P.info? t = some i ∧ i.zero = some z := by
        unfold zeroOf at hz
        split at hz
        · rename_i i hi; exact ⟨i, hi, hz⟩
        · cases hz
      obtain ⟨i, hi, hzz⟩ := hz'
      simp only [Instr.alloc, zeroValue, typeInfo, Sem.run_bind, run_program, Result.andThen_ok, hi, Sem.run_pure, hzz, newVar, newRow, newObj, Sem.run]
      exact ⟨_, rfl, h⟩
    · exact h.elim
  case box t v =>
    simp only [execOp, Instr.box, newVar, newRow, newObj, Sem.run_bind, Sem.run, Result.andThen_ok, Sem.run_pure]
    exact ⟨_, rfl, h⟩
  case binOp bop t x y yt =>
    simp only [execOp]
    exact upon_sem (sem_binV h)
  case slice t x lo hi mx =>
    simp only [execOp]
    exact upon_sem (sem_slice h)
  case convert s d x =>
    simp only [execOp]
    split at h
    · rename_i ud k kk n hs hd hx
      simp only [hx]
      refine upon_sem ⟨_, _, ?_, h⟩
      simp [convert, run_underlying' hs, run_underlying' hd, Conv.intToInt]
    · exact upon_sem (sem_of_T h)
  case lookup t x i ok => exact upon_sem (sem_of_T h)
  case mapUpdate t m k x => exact upon_semU h
  case insert t m k x => exact upon_semU h
  case mapEntry t m k => exact upon_sem (sem_entry h)
  case entryStore t m s x => exact upon_semU h
  case makeSlice t l c => exact upon_sem (sem_of_T h)
  case range t x => exact upon_sem (sem_of_T h)
  case next x s => exact upon_sem (sem_of_T h)
  case entry x => exact upon_sem (sem_of_T h)
  case index t x i => exact upon_sem (sem_of_pure (pure_of_T h))
  case sliceToArrayPointer t x => exact upon_sem (sem_of_pure (pure_arr h))
  case typeAssert x t u ok => exact upon_sem (sem_of_pure (pure_of_T h))
  case makeFunc fn x c => exact ⟨_, rfl, h⟩
  case call c =>
    obtain ⟨callee, args, ats⟩ := c
    cases callee with
    | value f => exact call_upon h
    | builtin b =>
      simp only [builtinV] at h
      cases b <;> simp only at h <;> first | exact h.elim | (exact upon_sem (sem_of_T h)) | skip
      split at h
      · rename_i ha hu
        refine upon_sem ⟨_, w, ?_, h⟩
        exact run_len_slice ha hu
      · rename_i ha hu
        refine upon_sem ⟨_, w, ?_, h⟩
        exact run_len_string ha hu
      · exact upon_sem (sem_of_T h)
    | invoke r n => exact h.elim
  case unOp op xt x =>
    split at h
    · rename_i b hx
      exact upon_sem ⟨_, w, by simp [Op.unary, hx], h⟩
    · rename_i k n hx
      exact upon_sem ⟨_, w, by simp [Op.unary, hx, Op.intArith], h⟩
    · exact upon_sem (sem_of_pure (pure_of_T h))
  case extract x i =>
    split at h
    · rename_i vs hx
      split at h
      · rename_i v hv
        exact upon_sem ⟨_, w, by simp [Instr.extract, hx, hv], h⟩
      · exact h.elim
    · exact h.elim
  case build t parts =>
    split at h
    · rename_i cells hb
      exact upon_sem ⟨_, w, run_build w t _ cells hb, h⟩
    · exact h.elim
  case field t x f => exact upon_sem (sem_of_pure (pure_field h))
  case makeInterface t x => exact upon_sem (sem_of_pure (pure_makeInterface h))
  all_goals first | exact h.elim | exact upon_runV h

end
end Go.Proofs.YtjmlfknogjaemaaDoor.Vc
