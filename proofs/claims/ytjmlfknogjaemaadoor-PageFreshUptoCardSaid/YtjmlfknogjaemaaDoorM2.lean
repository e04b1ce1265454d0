/- Regions that draw their order: a plan is enough. -/
import Derived.Test.YtjmlfknogjaemaaDoorM1
set_option linter.unusedSimpArgs false
set_option linter.unusedVariables false
namespace Go.Proofs.YtjmlfknogjaemaaDoor.Vc
open Go

section
variable {P : Program} {a : Act} {w : World} {Q : Exit → Act → World → Prop} {K : Value → World → Prop} {ops : Array Oper}

/-- In every world this value. -/
def PureAt (P : Program) (o : Oper) (ρ : Operand → Value) (v : Value) : Prop := ∀ w, (execOp ρ o).run P w = .ok (.value v) w
def SoftAt (P : Program) (o : Oper) (ρ : Operand → Value) : Prop := ∀ w n w', (execOp ρ o).run P w = .ok n w' → w' = w ∧ ∃ v, n = .value v
theorem PureAt.soft {o : Oper} {ρ : Operand → Value} {v : Value} (h : PureAt P o ρ v) : SoftAt P o ρ := by
  intro w n w' hr
  rw [h w] at hr
  injection hr with h1 h2
  exact ⟨h2.symm, v, h1.symm⟩

theorem pure_intV {op : BinOp} {k k' : IntKind} {x y : Int} {t : TypeId} (hk : sameKind op k k' = true) (h : intV op k x y w K) : pureV P (binOp op t (.int k x) (.int k' y)) w K := by
  cases op <;> simp only [intV] at h
  case shl =>
    obtain ⟨h0, h⟩ := h
    refine ⟨_, ?_, h⟩
    intro w'
    simp [binOp, Op.shift, show ¬ y < 0 by omega, shlI]
  case shr =>
    obtain ⟨h0, h⟩ := h
    refine ⟨_, ?_, h⟩
    intro w'
    simp [binOp, Op.shift, show ¬ y < 0 by omega, shrI]
  all_goals (have hk' : k = k' := by simpa [sameKind] using hk)
  all_goals subst hk'
  case quo =>
    obtain ⟨h0, h⟩ := h
    refine ⟨_, ?_, h⟩
    intro w'
    simp [binOp, Op.intDiv, h0]
  case rem =>
    obtain ⟨h0, h⟩ := h
    refine ⟨_, ?_, h⟩
    intro w'
    simp [binOp, Op.intDiv, h0]
  all_goals refine ⟨_, ?_, h⟩
  all_goals (intro w'; simp [binOp, Op.intArith, Op.intCmp, Op.intBits, bitsI])

theorem pure_of_bool {s : Sem Value} (h : boolV P s w K) : pureV P s w K := by
  obtain ⟨b, hr, hk⟩ := h
  exact ⟨_, hr, hk⟩
theorem pure_noGuard {op : BinOp} {t : TypeId} {ox oy : Operand} {x y : Value} (hop : op ≠ .eql) (hop2 : op ≠ .neq) (h : pureV P (binOp op t x y) w K) : pureV P (do eqGuard op t ox oy x y; binOp op t x y) w K := by
  obtain ⟨v, hr, hk⟩ := h
  refine ⟨v, fun w' => ?_, hk⟩
  have : (eqGuard op t ox oy x y).run P w' = .ok () w' := by
    cases op <;> first | exact absurd rfl hop | exact absurd rfl hop2 | simp [eqGuard]
  simp [this, hr]

theorem pureBin_cmp {op : BinOp} {x y : Value} (hp : pureBin op x y = true) (hi : ∀ k a k' b, ¬ (x = .int k a ∧ y = .int k' b)) (hs : ∀ a b, ¬ (x = .string a ∧ y = .string b ∧ op = .add)) :
    op = .eql ∨ op = .neq ∨ op = .lss ∨ op = .leq ∨ op = .gtr ∨ op = .geq := by
  unfold pureBin at hp
  split at hp
  · exact absurd ⟨rfl, rfl⟩ (hi _ _ _ _)
  · rename_i a b
    cases op <;> simp at hp <;> simp
    exact absurd ⟨rfl, rfl, rfl⟩ (hs _ _)
  · cases op <;> simp at hp <;> simp

theorem pure_binV {op : BinOp} {t : TypeId} {ox oy : Operand} {x y : Value} (hp : pureBin op x y = true) {rt : TypeId} (h : binV P op rt t ox oy x y w K) : pureV P (do eqGuard op t ox oy x y; binOp op t x y) w K := by
  have key : ∀ {v}, (¬ (x = .nilIface ∧ y = .nilIface)) → (∀ p q, ¬ (x = .agg p ∧ y = .agg q)) → (∀ w', (binOp op t x y).run P w' = .ok v w') → K v w → pureV P (do eqGuard op t ox oy x y; binOp op t x y) w K := by
    intro v h1 h2 hr hk
    exact ⟨v, fun w' => by simp [eqGuard_none h1 h2, hr], hk⟩
  have other : otherV P op rt t ox oy x y w K → (op = .eql ∨ op = .neq ∨ op = .lss ∨ op = .leq ∨ op = .gtr ∨ op = .geq) → pureV P (do eqGuard op t ox oy x y; binOp op t x y) w K := by
    intro h ho
    rcases ho with rfl | rfl | rfl | rfl | rfl | rfl <;> simp only [otherV] at h
    · exact pure_of_bool h
    · exact pure_of_bool h
    all_goals exact pure_noGuard (by simp) (by simp) (pure_of_bool h)
  unfold binV at h
  split at h
  · split at h
    · rename_i hk
      obtain ⟨v, hr, hk2⟩ := pure_intV (P := P) (t := t) hk h
      exact key (by simp) (by simp) hr hk2
    · exact h.elim
  · split at h
    · exact key (by simp) (by simp) (fun _ => by simp only [binOp, Op.stringOp, toList_beq]; rfl) h
    · exact key (by simp) (by simp) (fun _ => by simp only [binOp, Op.stringOp, toList_beq]; rfl) h
    · obtain ⟨h0, h⟩ := h
      refine key (by simp) (by simp) (fun _ => ?_) h
      simp only [binOp, Op.stringOp]
      rw [if_neg (by simp [IntKind.max, IntKind.signed, IntKind.bits]; omega)]
      rfl
    · rename_i hna
      exact other h (pureBin_cmp hp (by simp) (fun _ _ hh => hna hh.2.2))
  · split at h
    · rename_i hu
      exact key (by simp) (by simp) (fun _ => run_eql_of rfl (eq_bool hu)) h
    · rename_i hu
      exact key (by simp) (by simp) (fun _ => run_neq_of rfl (eq_bool hu)) h
    · exact other h (pureBin_cmp hp (by simp) (by simp))
  · split at h
    · rename_i hu
      exact key (by simp) (by simp) (fun _ => run_eql_of rfl (eq_ptr hu)) h
    · rename_i hu
      exact key (by simp) (by simp) (fun _ => run_neq_of rfl (eq_ptr hu)) h
    · exact other h (pureBin_cmp hp (by simp) (by simp))
  · split at h
    · rename_i hu
      exact key (by simp) (by simp) (fun _ => run_eql_of rfl (eq_slice hu rfl)) h
    · rename_i hu
      exact key (by simp) (by simp) (fun _ => run_neq_of rfl (eq_slice hu rfl)) h
    · exact other h (pureBin_cmp hp (by simp) (by simp))
  · split at h
    · rename_i hu
      exact key (by simp) (by simp) (fun _ => run_eql_of rfl (eq_map hu)) h
    · rename_i hu
      exact key (by simp) (by simp) (fun _ => run_neq_of rfl (eq_map hu)) h
    · exact other h (pureBin_cmp hp (by simp) (by simp))
  · rename_i n1 n2 _ _ _ _
    exact other h (pureBin_cmp hp (fun k a k' b hh => n1 k a k' b hh.1 hh.2) (fun a b hh => n2 a b hh.1 hh.2.1))

theorem pureAt_of {o : Oper} {ρ : Operand → Value} {s : Sem Value} (he : execOp ρ o = (do pure (.value (← s)) : Sem Next)) (h : pureV P s w K) : ∃ v, PureAt P o ρ v ∧ K v w := by
  obtain ⟨v, hr, hk⟩ := h
  refine ⟨v, fun w' => ?_, hk⟩
  rw [he]
  simp [hr]

theorem pure_slice {t : TypeId} {x : Value} {lo hi mx : Option Value} {rt : TypeId} (h : sliceV P rt t x lo hi mx w K) : pureV P (Instr.sliceAt t x lo hi mx) w K := by
  unfold sliceV at h
  split at h
  · rename_i el A n c hu
    split at h
    case h_5 => exact h.elim
    all_goals (split at h)
    all_goals first | exact h.elim | skip
    · rename_i hel
      obtain ⟨h1, h⟩ := h
      refine ⟨_, fun w' => run_slice_of hel hu (l := 0) (hh := n) (m := c) ?_, ?_⟩
      · simp [Instr.sliceBounds]
      · rw [cutA_zero]; exact h
    · rename_i kh ih _ hel
      obtain ⟨h0, h1, h⟩ := h
      refine ⟨_, fun w' => run_slice_of hel hu (l := 0) (hh := ih.toNat) (m := c) ?_, ?_⟩
      · simp only [Instr.sliceBounds, Sem.run_bind, Sem.run_pure, Result.andThen_ok, if_true, run_bound h0 h1]
      · rw [cutA_zero]; exact h
    · rename_i kl il _ hel
      obtain ⟨h0, h1, h2, h⟩ := h
      refine ⟨_, fun w' => run_slice_of hel hu (l := il.toNat) (hh := n) (m := c) ?_, ?_⟩
      · simp only [Instr.sliceBounds, Sem.run_bind, Sem.run_pure, Result.andThen_ok, Option.isSome, run_bound h0 h1]
      · exact h
    · rename_i kh ih kl il _ hel
      obtain ⟨h0, h1, h2, h3, h⟩ := h
      refine ⟨_, fun w' => run_slice_of hel hu (l := il.toNat) (hh := ih.toNat) (m := c) ?_, ?_⟩
      · simp only [Instr.sliceBounds, Sem.run_bind, Sem.run_pure, Result.andThen_ok, if_true, run_bound h0 h1]
        rw [run_bound h2 (by omega)]
        rfl
      · exact h
  · rename_i s hu
    have fin : ∀ l hh : Int, 0 ≤ hh → hh ≤ s.size → 0 ≤ l → l ≤ hh → K (.string (s.extract l.toNat hh.toNat)) w →
        (∀ w', (Instr.sliceBounds false s.size s.size lo hi none).run P w' = .ok (l.toNat, hh.toNat, s.size) w') → pureV P (Instr.sliceAt t (.string s) lo hi none) w K := by
      intro l hh a1 a2 a3 a4 hk hb
      refine ⟨_, fun w' => ?_, hk⟩
      have h2 : (Instr.sliceAt t (.string s) lo hi none).run P w' = (Instr.slice t (.string s) lo hi none).run P w' := by
        simp only [Instr.sliceAt, Sem.run_bind, run_underlying' hu, Result.andThen_ok]
      rw [h2]
      simp only [Instr.slice, Sem.run_bind, run_underlying' hu, Result.andThen_ok, Option.isSome]
      rw [if_neg (by simp)]
      simp only [Sem.run_bind, Sem.run_pure, Result.andThen_ok, hb]
    unfold boundV at h
    split at h
    · split at h
      · obtain ⟨a1, a2, a3, a4, h⟩ := h
        exact fin _ _ a1 a2 a3 a4 h (fun w' => by simp [Instr.sliceBounds])
      · obtain ⟨a1, a2, a3, a4, h⟩ := h
        refine fin _ _ a1 a2 a3 a4 h (fun w' => ?_)
        simp only [Instr.sliceBounds, Sem.run_bind, Sem.run_pure, Result.andThen_ok, Option.isSome]
        rw [run_bound a3 (by omega)]
        rfl
      · exact h.elim
    · split at h
      · obtain ⟨a1, a2, a3, a4, h⟩ := h
        refine fin _ _ a1 a2 a3 a4 h (fun w' => ?_)
        simp only [Instr.sliceBounds, Sem.run_bind, Sem.run_pure, Result.andThen_ok, Option.isSome]
        rw [run_bound a1 (by omega)]
        rfl
      · obtain ⟨a1, a2, a3, a4, h⟩ := h
        refine fin _ _ a1 a2 a3 a4 h (fun w' => ?_)
        simp only [Instr.sliceBounds, Sem.run_bind, Sem.run_pure, Result.andThen_ok, Option.isSome]
        rw [run_bound a1 (by omega)]
        simp only [Result.andThen_ok]
        rw [run_bound a3 (by omega)]
        rfl
      · exact h.elim
    · exact h.elim
  · exact pure_of_T h

theorem opV_pure {o : Oper} {e : Env} (hp : pureB P o e = true) (h : opV P o e w K) : ∃ v, PureAt P o (ev e) v ∧ K v w := by
  obtain ⟨dst, op, type, pos, after, guard⟩ := o
  cases op <;> simp only [pureB, Bool.false_eq_true] at hp <;> simp only [opV] at h
  case move x => exact ⟨_, fun _ => rfl, h⟩
  case assign x => exact ⟨_, fun _ => rfl, h⟩
  case pick c x y =>
    split at h
    · rename_i t u v hc hx hy
      refine ⟨_, fun w' => ?_, h⟩
      simp only [execOp, hc, asBool, Sem.run_bind, Sem.run_pure, Result.andThen_ok]
      cases t <;> simp [hx, hy, pickB]
    · rename_i t hc _
      cases t
      · exact ⟨ev e y, fun w' => by simp [execOp, hc, asBool], by simpa [sel] using h⟩
      · exact ⟨ev e x, fun w' => by simp [execOp, hc, asBool], by simpa [sel] using h⟩
    · exact h.elim
  case nilCheck x =>
    unfold nilV at h
    split at h
    · rename_i p hx
      obtain ⟨b, s, rfl, h⟩ := needPtr_spec h
      exact ⟨_, fun w' => by simp [execOp, hx], h⟩
    · rename_i f u c hx
      exact ⟨_, fun w' => by simp [execOp, hx], h⟩
    · rename_i t v hx
      exact ⟨_, fun w' => by simp [execOp, hx], h⟩
    · exact h.elim
  case fieldAddr s x f =>
    split at h
    · rename_i b i off hx hf
      exact ⟨_, fun w' => by simp only [execOp, hx, Sem.run_bind, run_fieldAt' hf, Result.andThen_ok, Sem.run_pure], h⟩
    · exact h.elim
  case indexAddr t x i =>
    split at h
    · rename_i el A n c k j ht hx hi
      split at h
      case h_2 => exact h.elim
      rename_i hel
      obtain ⟨h0, h1, h⟩ := h
      obtain ⟨b, s, rfl, h⟩ := needPtr_spec h
      refine pureAt_of rfl ⟨_, fun w' => ?_, h⟩
      rw [hx, hi]
      exact run_index_slice hel ht h0 h1
    · rename_i len el b s k j ht hx hi
      split at h
      case h_2 => exact h.elim
      rename_i hel
      obtain ⟨h0, h1, h⟩ := h
      refine pureAt_of rfl ⟨_, fun w' => ?_, h⟩
      rw [hx, hi]
      exact run_index_array hel ht h0 h1
    · exact h.elim
  case binOp bop t x y yt => exact pureAt_of rfl (pure_binV hp h)
  case slice t x lo hi mx => exact pureAt_of rfl (pure_slice h)
  case convert s d x =>
    split at hp
    · rename_i ud k kk n hs hd hx
      rw [hs, hd, hx] at h
      refine pureAt_of (s := convert s d (ev e x)) rfl ⟨_, fun w' => ?_, h⟩
      rw [hx]
      simp [convert, run_underlying' hs, run_underlying' hd, Conv.intToInt]
    · cases hp
  case unOp op xt x =>
    split at h
    · rename_i b hx
      exact pureAt_of (s := Op.unary _ (ev e x)) rfl ⟨_, fun w' => by simp [Op.unary, hx], h⟩
    · rename_i k n hx
      exact pureAt_of (s := Op.unary _ (ev e x)) rfl ⟨_, fun w' => by simp [Op.unary, hx, Op.intArith], h⟩
    · exact pureAt_of rfl (pure_of_T h)
  case extract x i =>
    split at h
    · rename_i vs hx
      split at h
      · rename_i v hv
        exact pureAt_of (s := Instr.extract (ev e x) i) rfl ⟨_, fun w' => by simp [Instr.extract, hx, hv], h⟩
      · exact h.elim
    · exact h.elim
  case build t parts =>
    split at h
    · rename_i cells hb
      exact pureAt_of rfl ⟨_, fun w' => run_build w' t _ cells hb, h⟩
    · exact h.elim
  case field t x f => exact pureAt_of rfl (pure_field h)
  case makeInterface t x => exact pureAt_of rfl (pure_makeInterface h)
  case makeFunc fn x c => exact ⟨_, fun _ => rfl, h⟩
  case index t x i => exact pureAt_of rfl (pure_of_T h)
  case sliceToArrayPointer t x => exact pureAt_of rfl (pure_arr h)
  case typeAssert x t u ok => exact pureAt_of rfl (pure_of_T h)
  case call c =>
    obtain ⟨callee, args, ats⟩ := c
    cases callee with
    | value f => simp at hp
    | invoke r n => simp at hp
    | builtin b =>
      cases b <;> simp at hp
      simp only [builtinV] at h
      split at h
      · rename_i ha hu
        exact pureAt_of (s := Builtin.len_ ats type (args.map (ev e))) rfl ⟨_, fun w' => run_len_slice ha hu, h⟩
      · rename_i ha hu
        exact pureAt_of (s := Builtin.len_ ats type (args.map (ev e))) rfl ⟨_, fun w' => run_len_string ha hu, h⟩
      · rename_i hn1 hn2
        split at hp
        · rename_i ha hu
          exact (hn1 _ _ _ _ (by simpa using ha) (by simpa using hu)).elim
        · rename_i ha hu
          exact (hn2 _ (by simpa using ha) (by simpa using hu)).elim
        · cases hp

theorem soft_load {o : Oper} {ρ : Operand → Value} (hl : isLoad o = true) : SoftAt P o ρ := by
  obtain ⟨dst, op, type, pos, after, guard⟩ := o
  cases op <;> simp [isLoad] at hl
  case load t x =>
    have cells : ∀ (n i : Nat) (acc : Array Value) (ad : Addr) (w : World) (v : Array Value) (w' : World), (loadCellsFrom ad i n acc).run P w = .ok v w' → w' = w := by
      intro n
      induction n with
      | zero =>
        intro i acc ad w v w' h
        simp [loadCellsFrom] at h
        exact h.2.symm
      | succ n ih =>
        intro i acc ad w v w' h
        simp only [loadCellsFrom, Sem.run_bind] at h
        obtain ⟨u, w1, h1, h2⟩ := andThen_ok' h
        have : w1 = w := by
          simp only [load, Sem.run] at h1
          split at h1
          · injection h1 with _ h; exact h.symm
          · split at h1
            · injection h1 with _ h; exact h.symm
            · cases h1
        subst this
        exact ih _ _ _ _ _ _ h2
    intro w n w' h
    simp only [execOp, Sem.run_bind] at h
    obtain ⟨v, w1, h1, h2⟩ := andThen_ok' h
    simp only [Sem.run_pure] at h2
    injection h2 with h3 h4
    refine ⟨?_, v, h3.symm⟩
    subst h4
    simp only [Instr.loadAt, Sem.run_bind] at h1
    obtain ⟨ad, w2, h5, h6⟩ := andThen_ok' h1
    have e2 : w2 = w := by
      unfold Instr.sureAddr at h5
      split at h5
      · simp at h5; exact h5.2.symm
      · simp [stuck, Sem.run] at h5
    subst e2
    simp only [loadVar, Sem.run_bind] at h6
    obtain ⟨b, w3, h7, h8⟩ := andThen_ok' h6
    have e3 : w3 = w2 := by
      simp only [isAgg, Sem.run_bind] at h7
      obtain ⟨d, w4, h9, h10⟩ := andThen_ok' h7
      have : w4 = w2 := by
        simp only [underlying, Sem.run_bind, run_program, Result.andThen_ok] at h9
        split at h9
        · simp at h9; exact h9.2.symm
        · simp [stuck, Sem.run] at h9
      subst this
      split at h10 <;> (simp at h10; exact h10.2.symm)
    subst e3
    split at h8
    · simp only [Sem.run_bind] at h8
      obtain ⟨sz, w5, h11, h12⟩ := andThen_ok' h8
      have e5 : w5 = w3 := by
        simp only [sizeOf, typeInfo, Sem.run_bind, run_program, Result.andThen_ok] at h11
        split at h11
        · simp at h11; exact h11.2.symm
        · simp [stuck, Sem.run] at h11
      subst e5
      obtain ⟨cs, w6, h13, h14⟩ := andThen_ok' h12
      simp at h14
      rw [← h14.2]
      exact cells _ _ _ _ _ _ _ h13
    · simp only [load, Sem.run] at h8
      split at h8
      · injection h8 with _ h; exact h.symm
      · split at h8
        · injection h8 with _ h; exact h.symm
        · cases h8

/-- All blocks of a world stand in another. -/
def Ext (w w2 : World) : Prop := w.heap.size ≤ w2.heap.size ∧ ∀ b, b < w.heap.size → w2.heap[b]? = w.heap[b]?
theorem Ext.refl (w : World) : Ext w w := ⟨Nat.le_refl _, fun _ _ => rfl⟩
theorem Ext.trans {a b c : World} (h : Ext a b) (k : Ext b c) : Ext a c := ⟨Nat.le_trans h.1 k.1, fun i hi => (k.2 i (Nat.lt_of_lt_of_le hi h.1)).trans (h.2 i hi)⟩
theorem Ext.cell {w w2 : World} (h : Ext w w2) {a : Addr} {v : Value} (hc : w.cell? a = some v) : w2.cell? a = some v := by
  rw [World.cell?_of_block (w := w) (h.2 a.block (World.block_lt_of_cell? w a hc))]
  exact hc
theorem ext_alloc (w : World) (o : Obj) : Ext w (w.alloc o) := ⟨by simp, fun b hb => by
  show (w.heap.push o)[b]? = _
  rw [Array.getElem?_push, if_neg (by omega)]⟩

theorem stable_load {t : TypeId} {x : Value} (h : (match x with
    | .pointer (some ⟨b, s, none⟩) => match aggT P t with
      | true => match Nat.beq (leaves P 20 t).length (sizeT P t) with
        | true => exCells w b (leaves P 20 t) s fun vs => K (.agg vs.toArray) w
        | false => False
      | false => match hasT P t with
        | true => (shapeOf P t).ex fun v => w.cell? ⟨b, s, none⟩ = some v ∧ K v w
        | false => False
    | _ => False)) : ∃ v, (∀ w2, Ext w w2 → (Instr.loadAt t x).run P w2 = .ok v w2) ∧ K v w := by
  split at h
  · rename_i b s
    split at h
    · rename_i ha
      split at h
      · rename_i hl
        obtain ⟨vs, h1, h2, h3⟩ := exCells_spec h
        obtain ⟨d, hd⟩ := aggT_spec ha
        have hlen : (leaves P 20 t).length = sizeT P t := Nat.eq_of_beq_eq_true hl
        have hi : ∃ i, P.info? t = some i ∧ i.size = vs.length := by
          cases hi : P.info? t with
          | none =>
            have : P.underlying t = none := by simp [Program.underlying, hi]
            rw [this] at hd; cases hd
          | some i => exact ⟨i, rfl, by rw [h1, hlen, sizeT_eq hi]⟩
        obtain ⟨i, hi, his⟩ := hi
        refine ⟨_, fun w2 hw => ?_, h3⟩
        simp only [Instr.loadAt, Instr.sureAddr, loadVar, Sem.run_bind, Sem.run_pure, Result.andThen_ok, run_isAgg' hd, ha, if_true, run_sizeOf' hi, his]
        rw [run_loadCells' b s vs (fun j hj => by
          have hj' : j < (leaves P 20 t).length := by rw [← h1]; exact hj
          have h4 := h2 j hj'
          rw [List.getElem?_eq_getElem hj] at h4 ⊢
          exact hw.cell h4)]
        rfl
      · exact h.elim
    · rename_i ha
      split at h
      · rename_i hh
        obtain ⟨d, i, hd, hi⟩ := hasT_spec hh
        obtain ⟨v, hv, hk⟩ := Shape.ex_some h
        refine ⟨v, fun w2 hw => ?_, hk⟩
        have hv2 := hw.cell hv
        simp only [Instr.loadAt, Instr.sureAddr, loadVar, Sem.run_bind, Sem.run_pure, Result.andThen_ok, run_isAgg' hd, ha]
        simp [load, Sem.run, hv2]
      · exact h.elim
  · exact h.elim

theorem grow_at {o : Oper} {ρ : Operand → Value} (hg : growK o = true) : ∀ w n w', (execOp ρ o).run P w = .ok n w' → Ext w w' ∧ ∃ v, n = .value v := by
  obtain ⟨dst, op, type, pos, after, guard⟩ := o
  have newv : ∀ (t : TypeId) (v : Value) (w : World) (a : Addr) (w' : World), (newVar t v).run P w = .ok a w' → Ext w w' := by
    intro t v w a w' h
    simp only [newVar, newRow, newObj, Sem.run_bind, Sem.run, Result.andThen_ok, Sem.run_pure] at h
    injection h with _ h
    subst h
    exact ext_alloc w _
  have zer : ∀ (t : TypeId) (w : World) (v : Value) (w' : World), (zeroValue t).run P w = .ok v w' → w' = w := by
    intro t w v w' h
    simp only [zeroValue, typeInfo, Sem.run_bind, run_program, Result.andThen_ok] at h
    split at h
    · simp only [Sem.run_pure, Result.andThen_ok] at h
      split at h
      · simp at h; exact h.2.symm
      · simp [unsupported, Sem.run] at h
    · simp [stuck, Sem.run, Result.andThen] at h
  cases op <;> simp [growK] at hg
  case alloc t =>
    intro w n w' h
    simp only [execOp, Instr.alloc, Sem.run_bind] at h
    obtain ⟨v, w1, h1, h2⟩ := andThen_ok' h
    obtain ⟨z, w2, h3, h4⟩ := andThen_ok' h1
    have := zer _ _ _ _ h3
    subst this
    obtain ⟨a, w3, h5, h6⟩ := andThen_ok' h4
    simp only [Sem.run_pure] at h6 h2
    injection h6 with _ h6
    injection h2 with h7 h8
    subst h6 h8
    exact ⟨newv _ _ _ _ _ h5, _, h7.symm⟩
  case box t x =>
    intro w n w' h
    simp only [execOp, Instr.box, Sem.run_bind] at h
    obtain ⟨v, w1, h1, h2⟩ := andThen_ok' h
    obtain ⟨a, w3, h5, h6⟩ := andThen_ok' h1
    simp only [Sem.run_pure] at h6 h2
    injection h6 with _ h6
    injection h2 with h7 h8
    subst h6 h8
    exact ⟨newv _ _ _ _ _ h5, _, h7.symm⟩
  case buildSlice t l ps =>
    intro w n w' h
    simp only [execOp, Instr.buildSlice, Sem.run_bind] at h
    obtain ⟨v, w1, h1, h2⟩ := andThen_ok' h
    simp only [Sem.run_pure] at h2
    injection h2 with h7 h8
    subst h8
    refine ⟨?_, _, h7.symm⟩
    obtain ⟨d, w2, h3, h4⟩ := andThen_ok' h1
    have e2 : w2 = w := by
      simp only [underlying, Sem.run_bind, run_program, Result.andThen_ok] at h3
      split at h3
      · simp at h3; exact h3.2.symm
      · simp [stuck, Sem.run] at h3
    subst e2
    split at h4
    · simp only [Sem.run_bind] at h4
      obtain ⟨sz, w5, h11, h12⟩ := andThen_ok' h4
      have e5 : w5 = w2 := by
        simp only [sizeOf, typeInfo, Sem.run_bind, run_program, Result.andThen_ok] at h11
        split at h11
        · simp at h11; exact h11.2.symm
        · simp [stuck, Sem.run] at h11
      subst e5
      split at h12
      · simp [unsupported, Sem.run, Result.andThen] at h12
      · have fin : ∀ (elem : TypeId) (z : Array Value) (w6 : World) (v : Value), Sem.run P (match Instr.fill (fun i => some (i * sz, sz)) (Array.map (fun x => z[x % z.size]!) (Array.range (l * sz))) (Array.map (fun x => (x.fst, ρ x.snd)) ps).toList with
            | some cells => do
              let __do_lift ← newRow elem cells
              pure (Value.slice (some __do_lift) l l)
            | x => stuck "buildSlice: a part of the wrong size") w6 = .ok v w1 → Ext w6 w1 := by
          intro elem z w6 v h14
          split at h14
          · simp only [newRow, newObj, Sem.run_bind, Sem.run, Result.andThen_ok, Sem.run_pure] at h14
            injection h14 with _ h14
            subst h14
            exact ext_alloc w6 _
          · simp [stuck, Sem.run] at h14
        split at h12
        · simp only [Sem.run_bind, Sem.run_pure, Result.andThen_ok] at h12
          exact fin _ _ _ _ h12
        · simp only [Sem.run_bind] at h12
          obtain ⟨z2, w7, h15, h16⟩ := andThen_ok' h12
          have := zer _ _ _ _ h15
          subst this
          simp only [Sem.run_pure, Result.andThen_ok] at h16
          exact fin _ _ _ _ h16
    · simp [stuck, Sem.run] at h4
  case makeMap t r =>
    cases r with
    | some r => simp [growK] at hg
    | none =>
      intro w n w' h
      simp only [execOp, Instr.makeMap, Sem.run_bind, Option.map_none] at h
      obtain ⟨v, w1, h1, h2⟩ := andThen_ok' h
      simp only [Sem.run_pure] at h2
      injection h2 with h7 h8
      subst h8
      refine ⟨?_, _, h7.symm⟩
      simp only [newObj, Sem.run_bind, Sem.run, Result.andThen_ok, Sem.run_pure, Sem.run_pure] at h1
      injection h1 with _ h1
      subst h1
      exact ext_alloc w _

end
end Go.Proofs.YtjmlfknogjaemaaDoor.Vc
