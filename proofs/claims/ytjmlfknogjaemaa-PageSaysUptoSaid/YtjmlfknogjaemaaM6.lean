/- What is handed in, of any type without maps, pointers and interfaces: read once as plain Lean values. -/
import Derived.Test.YtjmlfknogjaemaaM5
import Derived.Test.YtjmlfknogjaemaaRows
import Derived.OpenShut
import Derived.ChangeArms
import Derived.ChangeSlices
import Derived.Deep.Slices
import Derived.Laws.Cover2
import Derived.ChangeSame
import Derived.WalkKit
import Derived.ProofKit
import Derived.JoinedCond
import Derived.Carry
import Derived.Shelf.SlGeneric
import Derived.Shelf.SlLaysF0
import Derived.Test.YtjmlfknogjaemaaProg
set_option linter.unusedVariables false
set_option linter.unusedSimpArgs false
namespace Go.Proofs.Ytjmlfknogjaemaa.Vc
open Go Go.Deep Go.ChangeShapes Go.WideShapes

inductive Ty where
  | int (k : IntKind) | bool | str | flt (k : FloatKind) | unit | pair (a b : Ty) | sl (e : Ty)
/-- How many cells. -/
def Ty.w : Ty → Nat
  | .unit => 0
  | .pair a b => a.w + b.w
  | _ => 1
abbrev Den : Ty → Type
  | .int _ => Int
  | .bool => Bool
  | .str => ByteArray
  | .flt _ => Nat
  | .unit => Unit
  | .pair a b => Den a × Den b
  | .sl e => List (Den e)
/-- The values cs (and what they lead to, in the blocks F) are d. -/
def In (w : World) : (t : Ty) → List Value → Den t → List Nat → Prop
  | .int k, cs, n, F => cs = [.int k n] ∧ (Lit.int k n).wf = true ∧ F = []
  | .bool, cs, b, F => cs = [.bool b] ∧ F = []
  | .str, cs, s, F => cs = [.string s] ∧ F = []
  | .flt k, cs, n, F => cs = [.float k n] ∧ (Lit.float k n).wf = true ∧ F = []
  | .unit, cs, _, F => cs = [] ∧ F = []
  | .pair a b, cs, d, F => ∃ c1 c2 F1 F2, cs = c1 ++ c2 ∧ F = F1 ++ F2 ∧ c1.length = a.w ∧ In w a c1 d.1 F1 ∧ In w b c2 d.2 F2
  | .sl e, cs, l, F => ∃ A n c, cs = [.slice A n c] ∧ n = l.length ∧ n ≤ c ∧ (A = none → c = 0) ∧ ((n = 0 ∧ F = []) ∨ ∃ (b o : Nat) (Fs : List (List Nat)), A = some ⟨b, o, none⟩ ∧ F = b :: Fs.flatten ∧ Fs.length = n ∧
      ∀ i (h : i < l.length), ∃ es, es.length = e.w ∧ (∀ j, j < e.w → w.cell? ⟨b, o + i * e.w + j, none⟩ = es[j]?) ∧ In w e es l[i] (Fs.getD i []))
/-- How much it is. -/
def wt : (t : Ty) → Den t → Nat
  | .int _, _ => 1
  | .bool, _ => 1
  | .str, s => s.size + 1
  | .flt _, _ => 1
  | .unit, _ => 0
  | .pair a b, d => wt a d.1 + wt b d.2
  | .sl e, l => 1 + (l.map fun x => max 1 (wt e x)).sum
theorem In.len {w : World} : ∀ {t : Ty} {cs : List Value} {d : Den t} {F : List Nat}, In w t cs d F → cs.length = t.w
  | .int k, _, _, _, h => by rw [h.1]; rfl
  | .bool, _, _, _, h => by rw [h.1]; rfl
  | .str, _, _, _, h => by rw [h.1]; rfl
  | .flt k, _, _, _, h => by rw [h.1]; rfl
  | .unit, _, _, _, h => by rw [h.1]; rfl
  | .pair a b, _, _, _, h => by
    obtain ⟨c1, c2, F1, F2, rfl, rfl, h1, h2, h3⟩ := h
    rw [List.length_append, h1, h3.len]; rfl
  | .sl e, _, _, _, h => by
    obtain ⟨A, n, c, rfl, _⟩ := h
    rfl
theorem flat_mem {Fs : List (List Nat)} {i x : Nat} (h : x ∈ Fs.getD i []) : x ∈ Fs.flatten := by
  rw [List.getD_eq_getElem?_getD] at h
  cases hi : Fs[i]? with
  | none => rw [hi] at h; simp at h
  | some l =>
    rw [hi] at h
    exact List.mem_flatten.2 ⟨l, List.mem_of_getElem? hi, h⟩
theorem In.fr {S : List Nat} {w w' : World} (hf : Fr S w w') : ∀ {t : Ty} {cs : List Value} {d : Den t} {F : List Nat}, In w t cs d F → (∀ x ∈ F, x ∉ S) → In w' t cs d F
  | .int k, _, _, _, h, _ => h
  | .bool, _, _, _, h, _ => h
  | .str, _, _, _, h, _ => h
  | .flt k, _, _, _, h, _ => h
  | .unit, _, _, _, h, _ => h
  | .pair a b, _, _, _, h, hS => by
    obtain ⟨c1, c2, F1, F2, rfl, rfl, h1, h2, h3⟩ := h
    exact ⟨c1, c2, F1, F2, rfl, rfl, h1, h2.fr hf (fun x hx => hS x (by simp [hx])), h3.fr hf (fun x hx => hS x (by simp [hx]))⟩
  | .sl e, _, _, _, h, hS => by
    obtain ⟨A, n, c, rfl, hn, hc, hA, h⟩ := h
    refine ⟨A, n, c, rfl, hn, hc, hA, ?_⟩
    rcases h with h | ⟨b, o, Fs, rfl, rfl, hl, h⟩
    · exact .inl h
    · refine .inr ⟨b, o, Fs, rfl, rfl, hl, fun i hi => ?_⟩
      obtain ⟨es, e1, e2, e3⟩ := h i hi
      refine ⟨es, e1, fun j hj => ?_, e3.fr hf (fun x hx => hS x (List.mem_cons_of_mem _ (flat_mem hx)))⟩
      have hv : w.cell? ⟨b, o + i * e.w + j, none⟩ = some es[j] := by rw [e2 j hj]; exact List.getElem?_eq_getElem _
      have hb := World.block_lt_of_cell? w _ hv
      have hbl := hf.2 b hb (hS b (by simp))
      rw [← e2 j hj]
      simp only [World.cell?]
      rw [hbl]
theorem In.lt {w : World} : ∀ {t : Ty} {cs : List Value} {d : Den t} {F : List Nat}, (∀ e, t = .sl e → True) → (0 < 1) → In w t cs d F → True
  | _, _, _, _, _, _, _ => trivial
def Den.dflt : (t : Ty) → Den t
  | .int _ => (0 : Int)
  | .bool => false
  | .str => (ByteArray.empty : ByteArray)
  | .flt _ => (0 : Nat)
  | .unit => ()
  | .pair a b => (Den.dflt a, Den.dflt b)
  | .sl _ => []
instance {t : Ty} : Inhabited (Den t) := ⟨Den.dflt t⟩

/-! ### Opening -/
def arrTy (ty : Ty) : Nat → Ty
  | 0 => .unit
  | n + 1 => .pair ty (arrTy ty n)
mutual
def tyOf (P : Program) : Nat → TypeId → Option Ty
  | 0, _ => none
  | fuel + 1, t => match P.underlying t with
    | some (.int k) => some (.int k)
    | some .bool => some .bool
    | some .string => some .str
    | some (.float k) => some (.flt k)
    | some (.slice e) => match tyOf P fuel e with
      | some ty => match Nat.beq (P.cellsOf e) ty.w, Nat.blt 0 ty.w with
        | true, true => some (.sl ty)
        | _, _ => none
      | none => none
    | some (.struct fs) => match tyFields P fuel fs.toList 0 with
      | some ty => match Nat.beq (P.cellsOf t) ty.w with
        | true => some ty
        | false => none
      | none => none
    | some (.array n e) => match tyOf P fuel e with
      | some ty => match Nat.beq (P.cellsOf e) ty.w, Nat.beq (P.cellsOf t) (n * ty.w) with
        | true, true => some (arrTy ty n)
        | _, _ => none
      | none => none
    | _ => none
def tyFields (P : Program) : Nat → List Field → Nat → Option Ty
  | 0, _, _ => none
  | _ + 1, [], _ => some .unit
  | fuel + 1, f :: fs, off => match Nat.beq f.offset off, tyOf P fuel f.type with
    | true, some a => match Nat.beq (P.cellsOf f.type) a.w, tyFields P fuel fs (off + a.w) with
      | true, some b => some (.pair a b)
      | _, _ => none
    | _, _ => none
end
theorem bulk_pos {H : Type} (d : DataW H) : 1 ≤ Rows.uptoBulk d := by
  cases d with
  | lit l => cases l <;> simp [Rows.uptoBulk]
  | _ => simp [Rows.uptoBulk]
theorem bulk_sum {H : Type} {e : Ty} : ∀ (ds : List (DataW H)) (l : List (Den e)), ds.length = l.length → (∀ i (h : i < l.length) (h' : i < ds.length), wt e l[i] ≤ Rows.uptoBulk ds[i]) → (l.map fun x => max 1 (wt e x)).sum ≤ Rows.uptoBulkAll ds
  | [], [], _, _ => by simp [Rows.uptoBulkAll]
  | d :: ds, x :: l, hl, h => by
    have h0 := h 0 (by simp) (by simp)
    have h1 := bulk_sum ds l (by simpa using hl) (fun i hi hi' => h (i + 1) (by simpa using hi) (by simpa using hi'))
    have := bulk_pos d
    simp only [List.getElem_cons_zero] at h0
    simp only [List.map_cons, List.sum_cons, Rows.uptoBulkAll]
    omega
  | [], _ :: _, h, _ => by simp at h
  | _ :: _, [], h, _ => by simp at h
section
variable {H : Type} {enc : TypeId × Value → H} {P : Program} {w : World} {base : Nat} {spare : Nat → Bool} {held : Bool}
abbrev Opens (enc : TypeId × Value → H) (P : Program) (w : World) (base : Nat) (spare : Nat → Bool) (held : Bool) (t : TypeId) (ty : Ty) : Prop :=
  ∀ (n : Nat) (cs : List Value) (x : DataW H × List MemPlace), DataW.trod enc P w base spare held n t cs = some x → ∃ (d : Den ty) (F : List Nat), In w ty cs d F ∧ wt ty d ≤ Rows.uptoBulk x.1
theorem trod_flt {fuel : Nat} {t : TypeId} {cs : List Value} {x : DataW H × List MemPlace} {k : FloatKind} (ht : P.underlying t = some (.float k)) (h : DataW.trod enc P w base spare held fuel t cs = some x) : ∃ n, cs = [.float k n] ∧ x = (.lit (.float k n), []) ∧ (Lit.float k n).wf = true := by
  cases fuel with
  | zero => simp [DataW.trod] at h
  | succ n =>
    unfold DataW.trod at h
    rw [ht] at h
    split at h <;> simp_all
theorem opens_arr {e : TypeId} {ty : Ty} (ho : Opens enc P w base spare held e ty) {m : Nat} {cs : List Value} {xs : List (DataW H × List MemPlace)} : ∀ (n k : Nat), cs.length = (k + n) * ty.w → xs.length = k + n →
    (∀ i, k ≤ i → i < k + n → DataW.trod enc P w base spare held m e ((cs.drop (i * ty.w)).take ty.w) = xs[i]?) → ∃ (d : Den (arrTy ty n)) (F : List Nat), In w (arrTy ty n) (cs.drop (k * ty.w)) d F ∧ wt (arrTy ty n) d ≤ Rows.uptoBulkAll ((xs.drop k).map (·.1))
  | 0, k, hl, hx, h => ⟨(), [], ⟨List.drop_eq_nil_of_le (by simp at hl; omega), rfl⟩, by simp [arrTy, wt]⟩
  | n + 1, k, hl, hx, h => by
    have hk := h k (Nat.le_refl _) (by omega)
    rw [List.getElem?_eq_getElem (by omega)] at hk
    obtain ⟨d1, F1, h1, h2⟩ := ho _ _ _ hk
    obtain ⟨d2, F2, h3, h4⟩ := opens_arr ho n (k + 1) (by rw [hl]; congr 1; omega) (by omega) (fun i hi hi' => h i (by omega) (by omega))
    refine ⟨(d1, d2), F1 ++ F2, ⟨_, _, F1, F2, ?_, rfl, h1.len, h1, h3⟩, ?_⟩
    · rw [show (k + 1) * ty.w = k * ty.w + ty.w by rw [Nat.add_mul]; omega, ← List.drop_drop, List.take_append_drop]
    · simp only [arrTy, wt]
      rw [List.drop_eq_getElem_cons (show k < xs.length by omega), List.map_cons, Rows.uptoBulkAll]
      omega
theorem opens_fields {m : Nat} {cs : List Value} : ∀ (fuel : Nat) (fs : List Field) (off : Nat) (ty : Ty), (∀ fuel' t ty, fuel' < fuel → tyOf P fuel' t = some ty → Opens enc P w base spare held t ty) → tyFields P fuel fs off = some ty → cs.length = off + ty.w →
    ∀ xs : List (DataW H × List MemPlace), xs.length = fs.length → (∀ (i : Nat) (f : Field), fs[i]? = some f → DataW.trod enc P w base spare held m f.type ((cs.drop f.offset).take (P.cellsOf f.type)) = xs[i]?) →
    ∃ (d : Den ty) (F : List Nat), In w ty (cs.drop off) d F ∧ wt ty d ≤ Rows.uptoBulkAll (xs.map (·.1))
  | 0, _, _, _, _, h, _, _, _, _ => by simp [tyFields] at h
  | fuel + 1, [], off, ty, ih, h, hl, xs, hx, hf => by
    simp only [tyFields, Option.some.injEq] at h
    subst h
    exact ⟨(), [], ⟨List.drop_eq_nil_of_le (by simp [Ty.w] at hl; omega), rfl⟩, by simp [wt]⟩
  | fuel + 1, f :: fs, off, ty, ih, h, hl, xs, hx, hf => by
    rw [tyFields] at h
    split at h
    · rename_i a ho ha
      split at h
      · rename_i b hc hb
        injection h with h
        subst h
        have ho := Nat.eq_of_beq_eq_true ho
        have hc := Nat.eq_of_beq_eq_true hc
        subst ho
        obtain ⟨y, ys, rfl⟩ : ∃ y ys, xs = y :: ys := by
          cases xs with
          | nil => simp at hx
          | cons y ys => exact ⟨y, ys, rfl⟩
        have h0 := hf 0 f rfl
        rw [hc] at h0
        obtain ⟨d1, F1, k1, k2⟩ := ih fuel _ _ (by omega) ha _ _ _ h0
        simp only [Ty.w] at hl
        obtain ⟨d2, F2, k3, k4⟩ := opens_fields fuel fs (f.offset + a.w) b (fun fuel' t ty hlt => ih fuel' t ty (by omega)) hb (by omega) ys (by simpa using hx) (fun i g hg => hf (i + 1) g (by simpa using hg))
        refine ⟨(d1, d2), F1 ++ F2, ⟨_, _, F1, F2, ?_, rfl, k1.len, k1, k3⟩, ?_⟩
        · rw [← List.drop_drop, List.take_append_drop]
        · simp only [wt, List.map_cons, Rows.uptoBulkAll]
          omega
      · cases h
    · cases h
theorem opens : ∀ (fuel : Nat) (t : TypeId) (ty : Ty), tyOf P fuel t = some ty → Opens enc P w base spare held t ty := by
  intro fuel
  induction fuel using Nat.strongRecOn with
  | _ fuel ih =>
    intro t ty h n cs x hx
    cases fuel with
    | zero => simp [tyOf] at h
    | succ fuel =>
      rw [tyOf] at h
      split at h
      · rename_i k hu
        injection h with h; subst h
        obtain ⟨n, rfl, rfl, hw⟩ := DataW.trod_int hu hx
        exact ⟨n, [], ⟨rfl, hw, rfl⟩, by simp [wt, Rows.uptoBulk]⟩
      · rename_i hu
        injection h with h; subst h
        obtain ⟨b, rfl, rfl⟩ := DataW.trod_bool hu hx
        exact ⟨b, [], ⟨rfl, rfl⟩, by simp [wt, Rows.uptoBulk]⟩
      · rename_i hu
        injection h with h; subst h
        obtain ⟨s, rfl, rfl, hw⟩ := DataW.trod_string hu hx
        exact ⟨s, [], ⟨rfl, rfl⟩, by show s.size + 1 ≤ s.data.toList.length + 1; rw [Array.length_toList]; exact Nat.le_refl _⟩
      · rename_i k hu
        injection h with h; subst h
        obtain ⟨b, rfl, rfl, hw⟩ := trod_flt hu hx
        exact ⟨b, [], ⟨rfl, hw, rfl⟩, by simp [wt, Rows.uptoBulk]⟩
      · rename_i e hu
        split at h
        · rename_i ty' hty
          split at h
          · rename_i h1 h2
            injection h with h; subst h
            have h1 := Nat.eq_of_beq_eq_true h1
            rcases DataW.trod_slice hu hx with ⟨rfl, rfl⟩ | ⟨a, len, cap, elems, rest, n, rfl, rfl, rfl, hb, hl, hm, hlen, hel, hsp, hns⟩
            · exact ⟨[], [], ⟨none, 0, 0, rfl, rfl, Nat.le_refl _, fun _ => rfl, .inl ⟨rfl, rfl⟩⟩, by simp [wt, Rows.uptoBulk]⟩
            · have hz : ∀ i, i < len → ∃ q : Den ty' × List Nat, ∃ es, es.length = ty'.w ∧ (∀ j, j < ty'.w → w.cell? ((a.add (i * ty'.w)).add j) = es[j]?) ∧ In w ty' es q.1 q.2 ∧ ∀ hi : i < elems.length, wt ty' q.1 ≤ Rows.uptoBulk elems[i].1 := by
                intro i hi
                have he := hel i hi
                rw [List.getElem?_eq_getElem (by omega)] at he
                obtain ⟨es, c1, c2⟩ := Option.bind_eq_some_iff.1 he
                obtain ⟨_, l1, l2⟩ := World.cells?_some c1
                rw [h1] at l1 l2
                obtain ⟨d, F, k1, k2⟩ := ih fuel (by omega) e ty' hty _ _ _ c2
                exact ⟨(d, F), es, l1, l2, k1, fun _ => k2⟩
              obtain ⟨q, hq⟩ := choose_lt hz
              have hlq : ((List.range len).map fun i => (q i).1).length = len := by simp
              refine ⟨(List.range len).map fun i => (q i).1, if len = 0 then [] else a.block :: ((List.range len).map fun i => (q i).2).flatten, ⟨some a, len, cap, rfl, by simp, hl, by simp, ?_⟩, ?_⟩
              · by_cases h0 : len = 0
                · exact .inl ⟨h0, by rw [if_pos h0]⟩
                · have hspot : a.spot = none := by
                    obtain ⟨es, e1, e2, _⟩ := hq 0 (by omega)
                    have h3 := e2 0 (Nat.lt_of_not_le (by simp at h2; omega))
                    rw [List.getElem?_eq_getElem (by rw [e1]; simp at h2; omega)] at h3
                    have := World.cell?_spot h3
                    simpa [Addr.add] using this
                  obtain ⟨b, o, sp⟩ := a
                  simp only at hspot
                  subst hspot
                  refine .inr ⟨b, o, (List.range len).map fun i => (q i).2, rfl, by rw [if_neg h0], by simp, fun i hi => ?_⟩
                  rw [hlq] at hi
                  obtain ⟨es, e1, e2, e3, _⟩ := hq i hi
                  refine ⟨es, e1, fun j hj => ?_, ?_⟩
                  · have := e2 j hj
                    rw [add_plain, add_plain] at this
                    exact this
                  · simpa [List.getD_eq_getElem?_getD, hi] using e3
              · simp only [wt, Rows.uptoBulk]
                have := bulk_sum (elems.map (·.1)) ((List.range len).map fun i => (q i).1) (by simp [hlen]) (fun i hi hi' => by
                  simp only [List.length_map, List.length_range] at hi hi'
                  obtain ⟨_, _, _, _, h5⟩ := hq i hi
                  simpa using h5 hi')
                omega
          · cases h
        · cases h
      · rename_i fs hu
        split at h
        · rename_i ty' hty
          split at h
          · rename_i hc
            injection h with h; subst h
            have hc := Nat.eq_of_beq_eq_true hc
            obtain ⟨xs, m, rfl, rfl, hl, hxl, hf⟩ := DataW.trod_struct hu hx
            obtain ⟨d, F, k1, k2⟩ := opens_fields (enc := enc) (w := w) (base := base) (spare := spare) (held := held) (m := m) (cs := cs) fuel fs.toList 0 ty' (fun fuel' t ty hlt => ih fuel' (by omega) t ty) hty (by omega) xs (by simpa using hxl) (fun i f hi => hf i f (by simpa using hi))
            exact ⟨d, F, k1, by simp only [Rows.uptoBulk]; omega⟩
          · cases h
        · cases h
      · rename_i n' e hu
        split at h
        · rename_i ty' hty
          split at h
          · rename_i h1 h2
            injection h with h; subst h
            have h1 := Nat.eq_of_beq_eq_true h1
            have h2 := Nat.eq_of_beq_eq_true h2
            obtain ⟨xs, m, rfl, rfl, hl, hxl, hf⟩ := DataW.trod_array hu hx
            rw [h1] at hf
            obtain ⟨d, F, k1, k2⟩ := opens_arr (cs := cs) (xs := xs) (m := m) (ih fuel (by omega) e ty' hty) n' 0 (by rw [hl, h2, Nat.zero_add]) (by omega) (fun i _ hi => hf i (by omega))
            refine ⟨d, F, by simpa using k1, ?_⟩
            simp only [Rows.uptoBulk]
            simp at k2
            omega
          · cases h
        · cases h
      · cases h
end
end Go.Proofs.Ytjmlfknogjaemaa.Vc
/- From the frame to the statement's own. -/
namespace Go.Proofs.Ytjmlfknogjaemaa.Vc
open Go Go.ChangeShapes Go.WideShapes
theorem Fr.kept {w w' : World} (h : Fr [] w w') (may : MemPlace → Prop) : w.keptBut w' may := by
  refine ⟨h.os, h.output, fun i hi => ?_⟩
  rw [h.block i hi (by simp)]
  cases w.heap[i]? with
  | none => rfl
  | some o =>
    cases o with
    | cells c t f => exact ⟨rfl, rfl, rfl, fun _ _ => rfl⟩
    | map es c => exact .inr ⟨rfl, rfl⟩
    | _ => rfl
/-- The law's postcondition, where all that was handed in reads as it did. -/
theorem post_of_fr {H : Type} {enc : TypeId × Value → H} {P : Program} {f : Func} {s : ChangeSpec} {apart fresh handsOn again : Bool} {W W' : World} {args : Array Value} {v : Value} {ds gs : List (DataW H)} {before pa pv : List MemPlace}
    (hW : DataW.Whole enc P f.params.toList s.vars apart W args.toList ds gs before)
    (hres : ∀ (b : Nat) (sp : Nat → Bool) (hd : Bool), DataW.TrodAll enc P W' b sp hd f.resultTypes.toList (v.resultList f.resultTypes.size) (s.fn H (ds ++ gs)).results [])
    (hargs : ∀ sp : Nat → Bool, (∀ p ∈ before, sp p.block = true) → DataW.TrodAll enc P W' 0 sp true f.params.toList args.toList (s.fn H (ds ++ gs)).args pa)
    (hvars : ∀ sp : Nat → Bool, (∀ p ∈ before, sp p.block = true) → DataW.TrodVars enc P W' sp s.vars (s.fn H (ds ++ gs)).vars pv)
    (hps : before = pa ++ pv) (hf : Fr [] W W')
    (hok : ∀ (j : Nat) (t : TypeId) (r : Value), f.resultTypes[j]? = some t → (v.resultList f.resultTypes.size)[j]? = some r → Value.okWide P W' .any 0 t r) :
    s.post enc P f apart fresh handsOn again W args v W' := by
  have hlt := hW.lt
  have hold : ∀ p ∈ before, (fun b => decide (b < W.heap.size)) p.block = true := fun p hp => by simpa using hlt p hp
  refine ⟨ds, gs, before, [], pa, pv, hW, hres _ _ _, hargs _ hold, hvars _ hold, World.keptBut_mono (fun p hp => ⟨hp, ?_⟩) (hf.kept (· ∈ before)), fun _ => ?_⟩
  · rw [hps, List.mem_append] at hp
    exact .inr hp
  · obtain ⟨_, _, _, _, _, hz, hn⟩ := hW
    refine ⟨hok, _, _, ([] ++ pa) ++ pv, ⟨[] ++ pa, pv, trodAll_append (hargs _ (fun _ _ => rfl)) (hres _ _ _), hvars _ (fun _ _ => rfl), rfl, ?_, ?_⟩, ?_⟩
    · intro b off hp
      have hp2 : MemPlace.cell b off ∈ before := by rw [hps]; simpa using hp
      rw [hf.frozen _ (hlt _ hp2)]
      exact hz b off hp2
    · intro ha
      have := hn ha
      rw [hps] at this
      simpa using this
    · intro p hp _
      rw [hps]
      simpa using hp
end Go.Proofs.Ytjmlfknogjaemaa.Vc
/- Lists that are handed in, as the walks read them; what is common to the claims' last texts. -/
set_option linter.unusedVariables false
set_option linter.unusedSimpArgs false
namespace Go.Proofs.Ytjmlfknogjaemaa.Vc
open Go Go.Deep Go.ChangeShapes Go.WideShapes
theorem sum_len {α : Type} (f : α → Nat) : ∀ l : List α, l.length ≤ (l.map fun x => max 1 (f x)).sum
  | [] => by simp
  | x :: l => by
    have := sum_len f l
    simp only [List.map_cons, List.sum_cons, List.length_cons]; omega
theorem wt_len {e : Ty} (l : List (Den e)) : l.length + 1 ≤ wt (.sl e) l := by
  have := sum_len (wt e) l
  simp only [wt]; omega
/-- A list that was handed in, element by element. -/
theorem In.elems {w : World} {e : Ty} {A : Option Addr} {n c : Nat} {l : List (Den e)} {F : List Nat} (h : In w (.sl e) [.slice A n c] l F) :
    n = l.length ∧ n ≤ c ∧ (0 < n → ∃ b o, A = some ⟨b, o, none⟩ ∧ ∀ i (h : i < l.length), ∃ es G, es.length = e.w ∧ (∀ j, j < e.w → w.cell? ⟨b, o + i * e.w + j, none⟩ = es[j]?) ∧ In w e es l[i] G ∧ ∀ x ∈ G, x ∈ F) := by
  obtain ⟨A', n', c', he, h1, h2, _, h3⟩ := h
  simp only [List.cons.injEq, Value.slice.injEq, and_true] at he
  obtain ⟨rfl, rfl, rfl⟩ := he
  refine ⟨h1, h2, fun hn => ?_⟩
  rcases h3 with ⟨h3, _⟩ | ⟨b, o, Fs, rfl, rfl, h4, h5⟩
  · omega
  · refine ⟨b, o, rfl, fun i hi => ?_⟩
    obtain ⟨es, e1, e2, e3⟩ := h5 i hi
    exact ⟨es, _, e1, e2, e3, fun x hx => List.mem_cons_of_mem _ (flat_mem hx)⟩
/-- The cells of a record whose fields are plain. -/
def flatV : (t : Ty) → Den t → List Value
  | .int k, n => [.int k n]
  | .bool, b => [.bool b]
  | .str, s => [.string s]
  | .flt k, n => [.float k n]
  | .unit, _ => []
  | .pair a b, d => flatV a d.1 ++ flatV b d.2
  | .sl _, _ => [.nilIface]
def flatB : Ty → Bool
  | .pair a b => flatB a && flatB b
  | .sl _ => false
  | _ => true
theorem In.flat {w : World} : ∀ {t : Ty} {cs : List Value} {d : Den t} {F : List Nat}, flatB t = true → In w t cs d F → cs = flatV t d
  | .int k, _, _, _, _, h => h.1
  | .bool, _, _, _, _, h => h.1
  | .str, _, _, _, _, h => h.1
  | .flt k, _, _, _, _, h => h.1
  | .unit, _, _, _, _, h => h.1
  | .pair a b, _, _, _, hb, h => by
    simp only [flatB, Bool.and_eq_true] at hb
    obtain ⟨c1, c2, F1, F2, rfl, rfl, _, h1, h2⟩ := h
    rw [h1.flat hb.1, h2.flat hb.2]; rfl
/-- A list of plain records that was handed in. -/
def InR (w : World) (s : Nat) (A : Option Addr) (n : Nat) (rs : List (List Value)) : Prop :=
  n = rs.length ∧ (0 < n → ∃ b o, A = some ⟨b, o, none⟩ ∧ ∀ i, i < n → ∀ j, j < s → w.cell? ⟨b, o + i * s + j, none⟩ = (rs.getD i [])[j]?)
theorem In.recs {w : World} {e : Ty} {A : Option Addr} {n c : Nat} {l : List (Den e)} {F : List Nat} (hf : flatB e = true) (h : In w (.sl e) [.slice A n c] l F) : InR w e.w A n (l.map (flatV e)) := by
  obtain ⟨h1, _, h2⟩ := h.elems
  refine ⟨by simpa using h1, fun hn => ?_⟩
  obtain ⟨b, o, rfl, h3⟩ := h2 hn
  refine ⟨b, o, rfl, fun i hi j hj => ?_⟩
  obtain ⟨es, G, e1, e2, e3, _⟩ := h3 i (by omega)
  rw [e2 j hj, e3.flat hf]
  have : i < l.length := by omega
  simp [List.getD_eq_getElem?_getD, this]
theorem InR.fr {S : List Nat} {w w' : World} {s : Nat} {A : Option Addr} {n : Nat} {rs : List (List Value)} (h : InR w s A n rs) (hl : ∀ r ∈ rs, r.length = s) (hf : Fr [] w w') : InR w' s A n rs := by
  refine ⟨h.1, fun hn => ?_⟩
  obtain ⟨b, o, rfl, h2⟩ := h.2 hn
  refine ⟨b, o, rfl, fun i hi j hj => ?_⟩
  have hr : (rs.getD i []).length = s := by
    have : i < rs.length := by have := h.1; omega
    rw [List.getD_eq_getElem?_getD, List.getElem?_eq_getElem this]
    exact hl _ (List.getElem_mem this)
  have h3 := h2 i hi j hj
  rw [List.getElem?_eq_getElem (by omega)] at h3 ⊢
  exact hf.cell h3
theorem In.ints {w : World} {A : Option Addr} {n c : Nat} {l : List Int} {F : List Nat} (h : In w (.sl (.int .i64)) [.slice A n c] l F) :
    n = l.length ∧ (0 < n → ∃ b o, A = some ⟨b, o, none⟩ ∧ ∀ i, i < n → w.cell? ⟨b, o + i, none⟩ = some (.int .i64 (l.getD i 0))) := by
  obtain ⟨h1, _, h2⟩ := h.elems
  refine ⟨h1, fun hn => ?_⟩
  obtain ⟨b, o, rfl, h3⟩ := h2 hn
  refine ⟨b, o, rfl, fun i hi => ?_⟩
  have hi2 : i < l.length := by omega
  obtain ⟨es, G, e1, e2, ⟨rfl, _, _⟩, _⟩ := h3 i hi2
  have := e2 0 (by decide)
  simp only [Ty.w, Nat.mul_one, Nat.add_zero] at this
  rw [this]
  simp [List.getD_eq_getElem?_getD, hi2]
theorem In.strs {w : World} {A : Option Addr} {n c : Nat} {l : List ByteArray} {F : List Nat} (h : In w (.sl .str) [.slice A n c] l F) :
    n = l.length ∧ (0 < n → ∃ b o, A = some ⟨b, o, none⟩ ∧ ∀ i, i < n → w.cell? ⟨b, o + i, none⟩ = some (.string (l.getD i ByteArray.empty))) := by
  obtain ⟨h1, _, h2⟩ := h.elems
  refine ⟨h1, fun hn => ?_⟩
  obtain ⟨b, o, rfl, h3⟩ := h2 hn
  refine ⟨b, o, rfl, fun i hi => ?_⟩
  have hi2 : i < l.length := by omega
  obtain ⟨es, G, e1, e2, ⟨rfl, _⟩, _⟩ := h3 i hi2
  have := e2 0 (by decide)
  simp only [Ty.w, Nat.mul_one, Nat.add_zero] at this
  rw [this]
  simp [List.getD_eq_getElem?_getD, hi2]

/-! ### Claims -/
theorem own : ownKnob Try.prog.godebug = none := by kernel_rfl
theorem laid : laidOutB Try.prog = true := by kernel_rfl
theorem stays {H : Type} {enc : TypeId × Value → H} {t : TypeId} (hr : Try.prog.readableRec t = true) (hrow : t < Try.prog.types.size) {W W' : World} {sp : Nat → Bool} {v : Value} {d : DataW H} {ps : List MemPlace}
    (h : DataW.Trod enc Try.prog W 0 (fun _ => true) true t v d ps) (hf : Fr [] W W') (hlt : ∀ p ∈ ps, p.block < W.heap.size) (hs : ∀ p ∈ ps, sp p.block = true) : DataW.Trod enc Try.prog W' 0 sp true t v d ps := by
  refine WideElems.Trod_stays laid hr hrow h (fun p hp => ?_) hs
  have hb := hf.block p.block (hlt p hp) (by simp)
  cases p with
  | cell b o => exact World.cell?_of_block (w := W) hb
  | map b => exact hb
theorem open_arg {H : Type} {enc : TypeId × Value → H} {W : World} {t : TypeId} {fuel : Nat} {ty : Ty} {v : Value} {d : DataW H} {ps : List MemPlace} (hty : tyOf Try.prog fuel t = some ty)
    (h : DataW.Trod enc Try.prog W 0 (fun _ => true) true t v d ps) : ∃ (x : Den ty) (F : List Nat), In W ty v.cells.toList x F ∧ wt ty x ≤ Rows.uptoBulk d := by
  obtain ⟨n, h⟩ := h
  exact opens fuel t ty hty n _ _ h
end Go.Proofs.Ytjmlfknogjaemaa.Vc
/- Integers that are handed in are within their kind. -/
set_option linter.unusedVariables false
namespace Go.Proofs.Ytjmlfknogjaemaa.Vc
open Go Go.Deep Go.ChangeShapes Go.WideShapes
end Go.Proofs.Ytjmlfknogjaemaa.Vc
/- slices.SortFunc on seats, laid at this program: numbers side by side. -/
namespace Go.Proofs.Ytjmlfknogjaemaa
open Go Go.Shelf
set_option maxRecDepth 100000
def Lay.sortS_ren : Go.Shelf.Ren := ⟨fun | 6 => 89 | 15 => 97 | 14 => 96 | 28 => 107 | 29 => 108 | 20 => 99 | 21 => 100 | 22 => 101 | 23 => 102 | 24 => 103 | 25 => 104 | 26 => 105 | 27 => 106 | 46 => 109 | 47 => 110 | 48 => 111 | 49 => 112 | 50 => 113 | 57 => 114 | n => n, fun | 22 => 109 | 24 => 143 | 25 => 145 | 3 => 3 | 39 => 94 | 0 => 0 | 53 => 158 | 55 => 160 | 4 => 4 | 46 => 152 | 45 => 151 | 50 => 85 | 5 => 5 | 9 => 9 | 66 => 161 | 70 => 165 | 76 => 167 | 77 => 64 | n => n, fun | n => n⟩
theorem Lay.sortS : Go.Proofs.SlLaysF0.n6 Try.prog Lay.sortS_ren := {
  mixed := by kernel_rfl,
  f6 := ⟨Try.f89.name, by decide, Try.func89.trans (congrArg some (by kernel_rfl))⟩,
  f14 := ⟨Try.f96.name, by decide, Try.func96.trans (congrArg some (by kernel_rfl))⟩,
  f15 := Try.func97.trans (congrArg some (by kernel_rfl)),
  f20 := ⟨Try.f99.name, by decide, Try.func99.trans (congrArg some (by kernel_rfl))⟩,
  f21 := ⟨Try.f100.name, by decide, Try.func100.trans (congrArg some (by kernel_rfl))⟩,
  f22 := ⟨Try.f101.name, by decide, Try.func101.trans (congrArg some (by kernel_rfl))⟩,
  f23 := ⟨Try.f102.name, by decide, Try.func102.trans (congrArg some (by kernel_rfl))⟩,
  f24 := ⟨Try.f103.name, by decide, Try.func103.trans (congrArg some (by kernel_rfl))⟩,
  f25 := ⟨Try.f104.name, by decide, Try.func104.trans (congrArg some (by kernel_rfl))⟩,
  f26 := ⟨Try.f105.name, by decide, Try.func105.trans (congrArg some (by kernel_rfl))⟩,
  f27 := ⟨Try.f106.name, by decide, Try.func106.trans (congrArg some (by kernel_rfl))⟩,
  f28 := Try.func107.trans (congrArg some (by kernel_rfl)),
  f29 := Try.func108.trans (congrArg some (by kernel_rfl)),
  f46 := ⟨Try.f109.name, by decide, Try.func109.trans (congrArg some (by kernel_rfl))⟩,
  f47 := Try.func110.trans (congrArg some (by kernel_rfl)),
  f48 := Try.func111.trans (congrArg some (by kernel_rfl)),
  f49 := ⟨Try.f112.name, by decide, Try.func112.trans (congrArg some (by kernel_rfl))⟩,
  f50 := ⟨Try.f113.name, by decide, Try.func113.trans (congrArg some (by kernel_rfl))⟩,
  f57 := ⟨Try.f114.name, by decide, Try.func114.trans (congrArg some (by kernel_rfl))⟩,
  t0 := Try.underlying0,
  a0 := Try.isAgg0,
  z0 := Try.sizeOf0,
  v0 := Try.zeroValue0,
  t3 := Try.underlying3,
  a3 := Try.isAgg3,
  z3 := Try.sizeOf3,
  v3 := Try.zeroValue3,
  t4 := Try.underlying4,
  a4 := Try.isAgg4,
  z4 := Try.sizeOf4,
  v4 := Try.zeroValue4,
  t5 := Try.underlying5,
  a5 := Try.isAgg5,
  z5 := Try.sizeOf5,
  v5 := Try.zeroValue5,
  t9 := Try.underlying9,
  a9 := Try.isAgg9,
  z9 := Try.sizeOf9,
  v9 := Try.zeroValue9,
  t22 := Try.underlying109,
  a22 := Try.isAgg109,
  z22 := Try.sizeOf109,
  v22 := Try.zeroValue109,
  t25 := Try.underlying145,
  a25 := Try.isAgg145,
  z25 := Try.sizeOf145,
  v25 := Try.zeroValue145,
  t39 := Try.underlying94,
  a39 := Try.isAgg94,
  z39 := Try.sizeOf94,
  v39 := Try.zeroValue94,
  t45 := Try.underlying151,
  a45 := Try.isAgg151,
  z45 := Try.sizeOf151,
  v45 := Try.zeroValue151,
  t46 := Try.underlying152,
  a46 := Try.isAgg152,
  z46 := Try.sizeOf152,
  v46 := Try.zeroValue152,
  t50 := Try.underlying85,
  a50 := Try.isAgg85,
  z50 := Try.sizeOf85,
  v50 := Try.zeroValue85,
  t53 := Try.underlying158,
  a53 := Try.isAgg158,
  z53 := Try.sizeOf158,
  v53 := Try.zeroValue158,
  t55 := Try.underlying160,
  a55 := Try.isAgg160,
  z55 := Try.sizeOf160,
  v55 := Try.zeroValue160,
  t66 := Try.underlying161,
  a66 := Try.isAgg161,
  z66 := Try.sizeOf161,
  v66 := Try.zeroValue161,
  t70 := Try.underlying165,
  a70 := Try.isAgg165,
  z70 := Try.sizeOf165,
  v70 := Try.zeroValue165,
  t76 := Try.underlying167,
  a76 := Try.isAgg167,
  z76 := Try.sizeOf167,
  v76 := Try.zeroValue167,
  t77 := Try.underlying64,
  a77 := Try.isAgg64,
  z77 := Try.sizeOf64,
  v77 := Try.zeroValue64 }
end Go.Proofs.Ytjmlfknogjaemaa
/- Page: the hash, as the program and as the document write it: one number. -/
set_option linter.unusedVariables false
set_option linter.unusedSimpArgs false
namespace Go.Proofs.Ytjmlfknogjaemaa.Vc
open Go
namespace PG
theorem u16_wrap (x : Int) : IntKind.wrap .u16 x = x % 65536 := by
  simp [IntKind.wrap, IntKind.bits, IntKind.signed]
/-- Where the search for a key begins. -/
def pgHash (key size : Int) : Int := if size < 1 then 0 else (IntKind.wrap .i64 (key * 40503) % 65536) % size
theorem pgHash_range (key : Int) {size : Int} : 0 ≤ pgHash key size ∧ (pgHash key size < size ∨ size < 1 ∧ pgHash key size = 0) := by
  unfold pgHash
  by_cases h : size < 1
  · rw [if_pos h]; exact ⟨by omega, .inr ⟨h, rfl⟩⟩
  · rw [if_neg h]
    exact ⟨Int.emod_nonneg _ (by omega), .inl (Int.emod_lt_of_pos _ (by omega))⟩
theorem tmod_pos {a b : Int} (ha : 0 ≤ a) : Int.tmod a b = a % b := Int.tmod_eq_emod_of_nonneg ha
end PG
end Go.Proofs.Ytjmlfknogjaemaa.Vc
