/- What is handed in, of any type without maps, pointers and interfaces: read once as plain Lean values. -/
import Derived.Test.YtddbebhklmaeoaaM6
import Derived.Test.YtddbebhklmaeoaaRows
import Derived.OpenShut
import Derived.ChangeArms
import Derived.ChangeSlices
import Derived.Deep.Slices
import Derived.Laws.Cover2
import Derived.ChangeSame
import Derived.WalkKit
import Derived.ProofKit
import Derived.JoinedCond
import Derived.Carry
import Derived.Deep.Upon
set_option linter.unusedVariables false
set_option linter.unusedSimpArgs false
namespace Go.Proofs.Ytddbebhklmaeoaa.Vc
open Go Go.Deep Go.ChangeShapes Go.WideShapes

inductive Ty where
  | int (k : IntKind) | bool | str | flt (k : FloatKind) | unit | pair (a b : Ty) | sl (e : Ty)
/-- How many cells. -/
def Ty.w : Ty → Nat
  | .unit => 0
  | .pair a b => a.w + b.w
  | _ => 1
abbrev Den : Ty → Type
  | .int _ => Int
  | .bool => Bool
  | .str => ByteArray
  | .flt _ => Nat
  | .unit => Unit
  | .pair a b => Den a × Den b
  | .sl e => List (Den e)
/-- The values cs (and what they lead to, in the blocks F) are d. -/
def In (w : World) : (t : Ty) → List Value → Den t → List Nat → Prop
  | .int k, cs, n, F => cs = [.int k n] ∧ (Lit.int k n).wf = true ∧ F = []
  | .bool, cs, b, F => cs = [.bool b] ∧ F = []
  | .str, cs, s, F => cs = [.string s] ∧ F = []
  | .flt k, cs, n, F => cs = [.float k n] ∧ (Lit.float k n).wf = true ∧ F = []
  | .unit, cs, _, F => cs = [] ∧ F = []
  | .pair a b, cs, d, F => ∃ c1 c2 F1 F2, cs = c1 ++ c2 ∧ F = F1 ++ F2 ∧ c1.length = a.w ∧ In w a c1 d.1 F1 ∧ In w b c2 d.2 F2
  | .sl e, cs, l, F => ∃ A n c, cs = [.slice A n c] ∧ n = l.length ∧ n ≤ c ∧ (A = none → c = 0) ∧ ((n = 0 ∧ F = []) ∨ ∃ (b o : Nat) (Fs : List (List Nat)), A = some ⟨b, o, none⟩ ∧ F = b :: Fs.flatten ∧ Fs.length = n ∧
      ∀ i (h : i < l.length), ∃ es, es.length = e.w ∧ (∀ j, j < e.w → w.cell? ⟨b, o + i * e.w + j, none⟩ = es[j]?) ∧ In w e es l[i] (Fs.getD i []))
/-- How much it is. -/
def wt : (t : Ty) → Den t → Nat
  | .int _, _ => 1
  | .bool, _ => 1
  | .str, s => s.size + 1
  | .flt _, _ => 1
  | .unit, _ => 0
  | .pair a b, d => wt a d.1 + wt b d.2
  | .sl e, l => 1 + (l.map fun x => max 1 (wt e x)).sum
theorem In.len {w : World} : ∀ {t : Ty} {cs : List Value} {d : Den t} {F : List Nat}, In w t cs d F → cs.length = t.w
  | .int k, _, _, _, h => by rw [h.1]; rfl
  | .bool, _, _, _, h => by rw [h.1]; rfl
  | .str, _, _, _, h => by rw [h.1]; rfl
  | .flt k, _, _, _, h => by rw [h.1]; rfl
  | .unit, _, _, _, h => by rw [h.1]; rfl
  | .pair a b, _, _, _, h => by
    obtain ⟨c1, c2, F1, F2, rfl, rfl, h1, h2, h3⟩ := h
    rw [List.length_append, h1, h3.len]; rfl
  | .sl e, _, _, _, h => by
    obtain ⟨A, n, c, rfl, _⟩ := h
    rfl
theorem flat_mem {Fs : List (List Nat)} {i x : Nat} (h : x ∈ Fs.getD i []) : x ∈ Fs.flatten := by
  rw [List.getD_eq_getElem?_getD] at h
  cases hi : Fs[i]? with
  | none => rw [hi] at h; simp at h
  | some l =>
    rw [hi] at h
    exact List.mem_flatten.2 ⟨l, List.mem_of_getElem? hi, h⟩
theorem In.fr {S : List Nat} {w w' : World} (hf : Fr S w w') : ∀ {t : Ty} {cs : List Value} {d : Den t} {F : List Nat}, In w t cs d F → (∀ x ∈ F, x ∉ S) → In w' t cs d F
  | .int k, _, _, _, h, _ => h
  | .bool, _, _, _, h, _ => h
  | .str, _, _, _, h, _ => h
  | .flt k, _, _, _, h, _ => h
  | .unit, _, _, _, h, _ => h
  | .pair a b, _, _, _, h, hS => by
    obtain ⟨c1, c2, F1, F2, rfl, rfl, h1, h2, h3⟩ := h
    exact ⟨c1, c2, F1, F2, rfl, rfl, h1, h2.fr hf (fun x hx => hS x (by simp [hx])), h3.fr hf (fun x hx => hS x (by simp [hx]))⟩
  | .sl e, _, _, _, h, hS => by
    obtain ⟨A, n, c, rfl, hn, hc, hA, h⟩ := h
    refine ⟨A, n, c, rfl, hn, hc, hA, ?_⟩
    rcases h with h | ⟨b, o, Fs, rfl, rfl, hl, h⟩
    · exact .inl h
    · refine .inr ⟨b, o, Fs, rfl, rfl, hl, fun i hi => ?_⟩
      obtain ⟨es, e1, e2, e3⟩ := h i hi
      refine ⟨es, e1, fun j hj => ?_, e3.fr hf (fun x hx => hS x (List.mem_cons_of_mem _ (flat_mem hx)))⟩
      have hv : w.cell? ⟨b, o + i * e.w + j, none⟩ = some es[j] := by rw [e2 j hj]; exact List.getElem?_eq_getElem _
      have hb := World.block_lt_of_cell? w _ hv
      have hbl := hf.2 b hb (hS b (by simp))
      rw [← e2 j hj]
      simp only [World.cell?]
      rw [hbl]
theorem In.lt {w : World} : ∀ {t : Ty} {cs : List Value} {d : Den t} {F : List Nat}, (∀ e, t = .sl e → True) → (0 < 1) → In w t cs d F → True
  | _, _, _, _, _, _, _ => trivial
def Den.dflt : (t : Ty) → Den t
  | .int _ => (0 : Int)
  | .bool => false
  | .str => (ByteArray.empty : ByteArray)
  | .flt _ => (0 : Nat)
  | .unit => ()
  | .pair a b => (Den.dflt a, Den.dflt b)
  | .sl _ => []
instance {t : Ty} : Inhabited (Den t) := ⟨Den.dflt t⟩

/-! ### Opening -/
def arrTy (ty : Ty) : Nat → Ty
  | 0 => .unit
  | n + 1 => .pair ty (arrTy ty n)
mutual
def tyOf (P : Program) : Nat → TypeId → Option Ty
  | 0, _ => none
  | fuel + 1, t => match P.underlying t with
    | some (.int k) => some (.int k)
    | some .bool => some .bool
    | some .string => some .str
    | some (.float k) => some (.flt k)
    | some (.slice e) => match tyOf P fuel e with
      | some ty => match Nat.beq (P.cellsOf e) ty.w, Nat.blt 0 ty.w with
        | true, true => some (.sl ty)
        | _, _ => none
      | none => none
    | some (.struct fs) => match tyFields P fuel fs.toList 0 with
      | some ty => match Nat.beq (P.cellsOf t) ty.w with
        | true => some ty
        | false => none
      | none => none
    | some (.array n e) => match tyOf P fuel e with
      | some ty => match Nat.beq (P.cellsOf e) ty.w, Nat.beq (P.cellsOf t) (n * ty.w) with
        | true, true => some (arrTy ty n)
        | _, _ => none
      | none => none
    | _ => none
def tyFields (P : Program) : Nat → List Field → Nat → Option Ty
  | 0, _, _ => none
  | _ + 1, [], _ => some .unit
  | fuel + 1, f :: fs, off => match Nat.beq f.offset off, tyOf P fuel f.type with
    | true, some a => match Nat.beq (P.cellsOf f.type) a.w, tyFields P fuel fs (off + a.w) with
      | true, some b => some (.pair a b)
      | _, _ => none
    | _, _ => none
end
theorem bulk_pos {H : Type} (d : DataW H) : 1 ≤ Rows.uptoBulk d := by
  cases d with
  | lit l => cases l <;> simp [Rows.uptoBulk]
  | _ => simp [Rows.uptoBulk]
theorem bulk_sum {H : Type} {e : Ty} : ∀ (ds : List (DataW H)) (l : List (Den e)), ds.length = l.length → (∀ i (h : i < l.length) (h' : i < ds.length), wt e l[i] ≤ Rows.uptoBulk ds[i]) → (l.map fun x => max 1 (wt e x)).sum ≤ Rows.uptoBulkAll ds
  | [], [], _, _ => by simp [Rows.uptoBulkAll]
  | d :: ds, x :: l, hl, h => by
    have h0 := h 0 (by simp) (by simp)
    have h1 := bulk_sum ds l (by simpa using hl) (fun i hi hi' => h (i + 1) (by simpa using hi) (by simpa using hi'))
    have := bulk_pos d
    simp only [List.getElem_cons_zero] at h0
    simp only [List.map_cons, List.sum_cons, Rows.uptoBulkAll]
    omega
  | [], _ :: _, h, _ => by simp at h
  | _ :: _, [], h, _ => by simp at h
section
variable {H : Type} {enc : TypeId × Value → H} {P : Program} {w : World} {base : Nat} {spare : Nat → Bool} {held : Bool}
abbrev Opens (enc : TypeId × Value → H) (P : Program) (w : World) (base : Nat) (spare : Nat → Bool) (held : Bool) (t : TypeId) (ty : Ty) : Prop :=
  ∀ (n : Nat) (cs : List Value) (x : DataW H × List MemPlace), DataW.trod enc P w base spare held n t cs = some x → ∃ (d : Den ty) (F : List Nat), In w ty cs d F ∧ wt ty d ≤ Rows.uptoBulk x.1
theorem trod_flt {fuel : Nat} {t : TypeId} {cs : List Value} {x : DataW H × List MemPlace} {k : FloatKind} (ht : P.underlying t = some (.float k)) (h : DataW.trod enc P w base spare held fuel t cs = some x) : ∃ n, cs = [.float k n] ∧ x = (.lit (.float k n), []) ∧ (Lit.float k n).wf = true := by
  cases fuel with
  | zero => simp [DataW.trod] at h
  | succ n =>
    unfold DataW.trod at h
    rw [ht] at h
    split at h <;> simp_all
theorem opens_arr {e : TypeId} {ty : Ty} (ho : Opens enc P w base spare held e ty) {m : Nat} {cs : List Value} {xs : List (DataW H × List MemPlace)} : ∀ (n k : Nat), cs.length = (k + n) * ty.w → xs.length = k + n →
    (∀ i, k ≤ i → i < k + n → DataW.trod enc P w base spare held m e ((cs.drop (i * ty.w)).take ty.w) = xs[i]?) → ∃ (d : Den (arrTy ty n)) (F : List Nat), In w (arrTy ty n) (cs.drop (k * ty.w)) d F ∧ wt (arrTy ty n) d ≤ Rows.uptoBulkAll ((xs.drop k).map (·.1))
  | 0, k, hl, hx, h => ⟨(), [], ⟨List.drop_eq_nil_of_le (by simp at hl; omega), rfl⟩, by simp [arrTy, wt]⟩
  | n + 1, k, hl, hx, h => by
    have hk := h k (Nat.le_refl _) (by omega)
    rw [List.getElem?_eq_getElem (by omega)] at hk
    obtain ⟨d1, F1, h1, h2⟩ := ho _ _ _ hk
    obtain ⟨d2, F2, h3, h4⟩ := opens_arr ho n (k + 1) (by rw [hl]; congr 1; omega) (by omega) (fun i hi hi' => h i (by omega) (by omega))
    refine ⟨(d1, d2), F1 ++ F2, ⟨_, _, F1, F2, ?_, rfl, h1.len, h1, h3⟩, ?_⟩
    · rw [show (k + 1) * ty.w = k * ty.w + ty.w by rw [Nat.add_mul]; omega, ← List.drop_drop, List.take_append_drop]
    · simp only [arrTy, wt]
      rw [List.drop_eq_getElem_cons (show k < xs.length by omega), List.map_cons, Rows.uptoBulkAll]
      omega
theorem opens_fields {m : Nat} {cs : List Value} : ∀ (fuel : Nat) (fs : List Field) (off : Nat) (ty : Ty), (∀ fuel' t ty, fuel' < fuel → tyOf P fuel' t = some ty → Opens enc P w base spare held t ty) → tyFields P fuel fs off = some ty → cs.length = off + ty.w →
    ∀ xs : List (DataW H × List MemPlace), xs.length = fs.length → (∀ (i : Nat) (f : Field), fs[i]? = some f → DataW.trod enc P w base spare held m f.type ((cs.drop f.offset).take (P.cellsOf f.type)) = xs[i]?) →
    ∃ (d : Den ty) (F : List Nat), In w ty (cs.drop off) d F ∧ wt ty d ≤ Rows.uptoBulkAll (xs.map (·.1))
  | 0, _, _, _, _, h, _, _, _, _ => by simp [tyFields] at h
  | fuel + 1, [], off, ty, ih, h, hl, xs, hx, hf => by
    simp only [tyFields, Option.some.injEq] at h
    subst h
    exact ⟨(), [], ⟨List.drop_eq_nil_of_le (by simp [Ty.w] at hl; omega), rfl⟩, by simp [wt]⟩
  | fuel + 1, f :: fs, off, ty, ih, h, hl, xs, hx, hf => by
    rw [tyFields] at h
    split at h
    · rename_i a ho ha
      split at h
      · rename_i b hc hb
        injection h with h
        subst h
        have ho := Nat.eq_of_beq_eq_true ho
        have hc := Nat.eq_of_beq_eq_true hc
        subst ho
        obtain ⟨y, ys, rfl⟩ : ∃ y ys, xs = y :: ys := by
          cases xs with
          | nil => simp at hx
          | cons y ys => exact ⟨y, ys, rfl⟩
        have h0 := hf 0 f rfl
        rw [hc] at h0
        obtain ⟨d1, F1, k1, k2⟩ := ih fuel _ _ (by omega) ha _ _ _ h0
        simp only [Ty.w] at hl
        obtain ⟨d2, F2, k3, k4⟩ := opens_fields fuel fs (f.offset + a.w) b (fun fuel' t ty hlt => ih fuel' t ty (by omega)) hb (by omega) ys (by simpa using hx) (fun i g hg => hf (i + 1) g (by simpa using hg))
        refine ⟨(d1, d2), F1 ++ F2, ⟨_, _, F1, F2, ?_, rfl, k1.len, k1, k3⟩, ?_⟩
        · rw [← List.drop_drop, List.take_append_drop]
        · simp only [wt, List.map_cons, Rows.uptoBulkAll]
          omega
      · cases h
    · cases h
theorem opens : ∀ (fuel : Nat) (t : TypeId) (ty : Ty), tyOf P fuel t = some ty → Opens enc P w base spare held t ty := by
  intro fuel
  induction fuel using Nat.strongRecOn with
  | _ fuel ih =>
    intro t ty h n cs x hx
    cases fuel with
    | zero => simp [tyOf] at h
    | succ fuel =>
      rw [tyOf] at h
      split at h
      · rename_i k hu
        injection h with h; subst h
        obtain ⟨n, rfl, rfl, hw⟩ := DataW.trod_int hu hx
        exact ⟨n, [], ⟨rfl, hw, rfl⟩, by simp [wt, Rows.uptoBulk]⟩
      · rename_i hu
        injection h with h; subst h
        obtain ⟨b, rfl, rfl⟩ := DataW.trod_bool hu hx
        exact ⟨b, [], ⟨rfl, rfl⟩, by simp [wt, Rows.uptoBulk]⟩
      · rename_i hu
        injection h with h; subst h
        obtain ⟨s, rfl, rfl, hw⟩ := DataW.trod_string hu hx
        exact ⟨s, [], ⟨rfl, rfl⟩, by show s.size + 1 ≤ s.data.toList.length + 1; rw [Array.length_toList]; exact Nat.le_refl _⟩
      · rename_i k hu
        injection h with h; subst h
        obtain ⟨b, rfl, rfl, hw⟩ := trod_flt hu hx
        exact ⟨b, [], ⟨rfl, hw, rfl⟩, by simp [wt, Rows.uptoBulk]⟩
      · rename_i e hu
        split at h
        · rename_i ty' hty
          split at h
          · rename_i h1 h2
            injection h with h; subst h
            have h1 := Nat.eq_of_beq_eq_true h1
            rcases DataW.trod_slice hu hx with ⟨rfl, rfl⟩ | ⟨a, len, cap, elems, rest, n, rfl, rfl, rfl, hb, hl, hm, hlen, hel, hsp, hns⟩
            · exact ⟨[], [], ⟨none, 0, 0, rfl, rfl, Nat.le_refl _, fun _ => rfl, .inl ⟨rfl, rfl⟩⟩, by simp [wt, Rows.uptoBulk]⟩
            · have hz : ∀ i, i < len → ∃ q : Den ty' × List Nat, ∃ es, es.length = ty'.w ∧ (∀ j, j < ty'.w → w.cell? ((a.add (i * ty'.w)).add j) = es[j]?) ∧ In w ty' es q.1 q.2 ∧ ∀ hi : i < elems.length, wt ty' q.1 ≤ Rows.uptoBulk elems[i].1 := by
                intro i hi
                have he := hel i hi
                rw [List.getElem?_eq_getElem (by omega)] at he
                obtain ⟨es, c1, c2⟩ := Option.bind_eq_some_iff.1 he
                obtain ⟨_, l1, l2⟩ := World.cells?_some c1
                rw [h1] at l1 l2
                obtain ⟨d, F, k1, k2⟩ := ih fuel (by omega) e ty' hty _ _ _ c2
                exact ⟨(d, F), es, l1, l2, k1, fun _ => k2⟩
              obtain ⟨q, hq⟩ := choose_lt hz
              have hlq : ((List.range len).map fun i => (q i).1).length = len := by simp
              refine ⟨(List.range len).map fun i => (q i).1, if len = 0 then [] else a.block :: ((List.range len).map fun i => (q i).2).flatten, ⟨some a, len, cap, rfl, by simp, hl, by simp, ?_⟩, ?_⟩
              · by_cases h0 : len = 0
                · exact .inl ⟨h0, by rw [if_pos h0]⟩
                · have hspot : a.spot = none := by
                    obtain ⟨es, e1, e2, _⟩ := hq 0 (by omega)
                    have h3 := e2 0 (Nat.lt_of_not_le (by simp at h2; omega))
                    rw [List.getElem?_eq_getElem (by rw [e1]; simp at h2; omega)] at h3
                    have := World.cell?_spot h3
                    simpa [Addr.add] using this
                  obtain ⟨b, o, sp⟩ := a
                  simp only at hspot
                  subst hspot
                  refine .inr ⟨b, o, (List.range len).map fun i => (q i).2, rfl, by rw [if_neg h0], by simp, fun i hi => ?_⟩
                  rw [hlq] at hi
                  obtain ⟨es, e1, e2, e3, _⟩ := hq i hi
                  refine ⟨es, e1, fun j hj => ?_, ?_⟩
                  · have := e2 j hj
                    rw [add_plain, add_plain] at this
                    exact this
                  · simpa [List.getD_eq_getElem?_getD, hi] using e3
              · simp only [wt, Rows.uptoBulk]
                have := bulk_sum (elems.map (·.1)) ((List.range len).map fun i => (q i).1) (by simp [hlen]) (fun i hi hi' => by
                  simp only [List.length_map, List.length_range] at hi hi'
                  obtain ⟨_, _, _, _, h5⟩ := hq i hi
                  simpa using h5 hi')
                omega
          · cases h
        · cases h
      · rename_i fs hu
        split at h
        · rename_i ty' hty
          split at h
          · rename_i hc
            injection h with h; subst h
            have hc := Nat.eq_of_beq_eq_true hc
            obtain ⟨xs, m, rfl, rfl, hl, hxl, hf⟩ := DataW.trod_struct hu hx
            obtain ⟨d, F, k1, k2⟩ := opens_fields (enc := enc) (w := w) (base := base) (spare := spare) (held := held) (m := m) (cs := cs) fuel fs.toList 0 ty' (fun fuel' t ty hlt => ih fuel' (by omega) t ty) hty (by omega) xs (by simpa using hxl) (fun i f hi => hf i f (by simpa using hi))
            exact ⟨d, F, k1, by simp only [Rows.uptoBulk]; omega⟩
          · cases h
        · cases h
      · rename_i n' e hu
        split at h
        · rename_i ty' hty
          split at h
          · rename_i h1 h2
            injection h with h; subst h
            have h1 := Nat.eq_of_beq_eq_true h1
            have h2 := Nat.eq_of_beq_eq_true h2
            obtain ⟨xs, m, rfl, rfl, hl, hxl, hf⟩ := DataW.trod_array hu hx
            rw [h1] at hf
            obtain ⟨d, F, k1, k2⟩ := opens_arr (cs := cs) (xs := xs) (m := m) (ih fuel (by omega) e ty' hty) n' 0 (by rw [hl, h2, Nat.zero_add]) (by omega) (fun i _ hi => hf i (by omega))
            refine ⟨d, F, by simpa using k1, ?_⟩
            simp only [Rows.uptoBulk]
            simp at k2
            omega
          · cases h
        · cases h
      · cases h
end
end Go.Proofs.Ytddbebhklmaeoaa.Vc
/- From the frame to the statement's own. -/
namespace Go.Proofs.Ytddbebhklmaeoaa.Vc
open Go Go.ChangeShapes Go.WideShapes
theorem Fr.kept {w w' : World} (h : Fr [] w w') (may : MemPlace → Prop) : w.keptBut w' may := by
  refine ⟨h.os, h.output, fun i hi => ?_⟩
  rw [h.block i hi (by simp)]
  cases w.heap[i]? with
  | none => rfl
  | some o =>
    cases o with
    | cells c t f => exact ⟨rfl, rfl, rfl, fun _ _ => rfl⟩
    | map es c => exact .inr ⟨rfl, rfl⟩
    | _ => rfl
/-- The law's postcondition, where all that was handed in reads as it did. -/
theorem post_of_fr {H : Type} {enc : TypeId × Value → H} {P : Program} {f : Func} {s : ChangeSpec} {apart fresh handsOn again : Bool} {W W' : World} {args : Array Value} {v : Value} {ds gs : List (DataW H)} {before pa pv : List MemPlace}
    (hW : DataW.Whole enc P f.params.toList s.vars apart W args.toList ds gs before)
    (hres : ∀ (b : Nat) (sp : Nat → Bool) (hd : Bool), DataW.TrodAll enc P W' b sp hd f.resultTypes.toList (v.resultList f.resultTypes.size) (s.fn H (ds ++ gs)).results [])
    (hargs : ∀ sp : Nat → Bool, (∀ p ∈ before, sp p.block = true) → DataW.TrodAll enc P W' 0 sp true f.params.toList args.toList (s.fn H (ds ++ gs)).args pa)
    (hvars : ∀ sp : Nat → Bool, (∀ p ∈ before, sp p.block = true) → DataW.TrodVars enc P W' sp s.vars (s.fn H (ds ++ gs)).vars pv)
    (hps : before = pa ++ pv) (hf : Fr [] W W')
    (hok : ∀ (j : Nat) (t : TypeId) (r : Value), f.resultTypes[j]? = some t → (v.resultList f.resultTypes.size)[j]? = some r → Value.okWide P W' .any 0 t r) :
    s.post enc P f apart fresh handsOn again W args v W' := by
  have hlt := hW.lt
  have hold : ∀ p ∈ before, (fun b => decide (b < W.heap.size)) p.block = true := fun p hp => by simpa using hlt p hp
  refine ⟨ds, gs, before, [], pa, pv, hW, hres _ _ _, hargs _ hold, hvars _ hold, World.keptBut_mono (fun p hp => ⟨hp, ?_⟩) (hf.kept (· ∈ before)), fun _ => ?_⟩
  · rw [hps, List.mem_append] at hp
    exact .inr hp
  · obtain ⟨_, _, _, _, _, hz, hn⟩ := hW
    refine ⟨hok, _, _, ([] ++ pa) ++ pv, ⟨[] ++ pa, pv, trodAll_append (hargs _ (fun _ _ => rfl)) (hres _ _ _), hvars _ (fun _ _ => rfl), rfl, ?_, ?_⟩, ?_⟩
    · intro b off hp
      have hp2 : MemPlace.cell b off ∈ before := by rw [hps]; simpa using hp
      rw [hf.frozen _ (hlt _ hp2)]
      exact hz b off hp2
    · intro ha
      have := hn ha
      rw [hps] at this
      simpa using this
    · intro p hp _
      rw [hps]
      simpa using hp
end Go.Proofs.Ytddbebhklmaeoaa.Vc
/- Lists that are handed in, as the walks read them; what is common to the claims' last texts. -/
set_option linter.unusedVariables false
set_option linter.unusedSimpArgs false
namespace Go.Proofs.Ytddbebhklmaeoaa.Vc
open Go Go.Deep Go.ChangeShapes Go.WideShapes
theorem sum_len {α : Type} (f : α → Nat) : ∀ l : List α, l.length ≤ (l.map fun x => max 1 (f x)).sum
  | [] => by simp
  | x :: l => by
    have := sum_len f l
    simp only [List.map_cons, List.sum_cons, List.length_cons]; omega
theorem wt_len {e : Ty} (l : List (Den e)) : l.length + 1 ≤ wt (.sl e) l := by
  have := sum_len (wt e) l
  simp only [wt]; omega
theorem sum_mem {α : Type} (f : α → Nat) : ∀ (l : List α) (x : α), x ∈ l → f x ≤ (l.map fun x => max 1 (f x)).sum
  | y :: l, x, h => by
    simp only [List.map_cons, List.sum_cons]
    rcases List.mem_cons.1 h with rfl | h
    · omega
    · have := sum_mem f l x h; omega
theorem wt_mem {e : Ty} {l : List (Den e)} {x : Den e} (h : x ∈ l) : wt e x < wt (.sl e) l := by
  have := sum_mem (wt e) l x h
  simp only [wt]; omega
/-- The cells of a record whose fields are plain. -/
def flatV : (t : Ty) → Den t → List Value
  | .int k, n => [.int k n]
  | .bool, b => [.bool b]
  | .str, s => [.string s]
  | .flt k, n => [.float k n]
  | .unit, _ => []
  | .pair a b, d => flatV a d.1 ++ flatV b d.2
  | .sl _, _ => [.nilIface]
def flatB : Ty → Bool
  | .pair a b => flatB a && flatB b
  | .sl _ => false
  | _ => true
/-- A list of plain records that was handed in. -/
def InR (w : World) (s : Nat) (A : Option Addr) (n : Nat) (rs : List (List Value)) : Prop :=
  n = rs.length ∧ (0 < n → ∃ b o, A = some ⟨b, o, none⟩ ∧ ∀ i, i < n → ∀ j, j < s → w.cell? ⟨b, o + i * s + j, none⟩ = (rs.getD i [])[j]?)
theorem InR.fr {S : List Nat} {w w' : World} {s : Nat} {A : Option Addr} {n : Nat} {rs : List (List Value)} (h : InR w s A n rs) (hl : ∀ r ∈ rs, r.length = s) (hf : Fr [] w w') : InR w' s A n rs := by
  refine ⟨h.1, fun hn => ?_⟩
  obtain ⟨b, o, rfl, h2⟩ := h.2 hn
  refine ⟨b, o, rfl, fun i hi j hj => ?_⟩
  have hr : (rs.getD i []).length = s := by
    have : i < rs.length := by have := h.1; omega
    rw [List.getD_eq_getElem?_getD, List.getElem?_eq_getElem this]
    exact hl _ (List.getElem_mem this)
  have h3 := h2 i hi j hj
  rw [List.getElem?_eq_getElem (by omega)] at h3 ⊢
  exact hf.cell h3
/-! ### Claims -/
theorem own : ownKnob Try.prog.godebug = none := by kernel_rfl
theorem laid : laidOutB Try.prog = true := by kernel_rfl
theorem stays {H : Type} {enc : TypeId × Value → H} {t : TypeId} (hr : Try.prog.readableRec t = true) (hrow : t < Try.prog.types.size) {W W' : World} {sp : Nat → Bool} {v : Value} {d : DataW H} {ps : List MemPlace}
    (h : DataW.Trod enc Try.prog W 0 (fun _ => true) true t v d ps) (hf : Fr [] W W') (hlt : ∀ p ∈ ps, p.block < W.heap.size) (hs : ∀ p ∈ ps, sp p.block = true) : DataW.Trod enc Try.prog W' 0 sp true t v d ps := by
  refine WideElems.Trod_stays laid hr hrow h (fun p hp => ?_) hs
  have hb := hf.block p.block (hlt p hp) (by simp)
  cases p with
  | cell b o => exact World.cell?_of_block (w := W) hb
  | map b => exact hb
theorem open_arg {H : Type} {enc : TypeId × Value → H} {W : World} {t : TypeId} {fuel : Nat} {ty : Ty} {v : Value} {d : DataW H} {ps : List MemPlace} (hty : tyOf Try.prog fuel t = some ty)
    (h : DataW.Trod enc Try.prog W 0 (fun _ => true) true t v d ps) : ∃ (x : Den ty) (F : List Nat), In W ty v.cells.toList x F ∧ wt ty x ≤ Rows.uptoBulk d := by
  obtain ⟨n, h⟩ := h
  exact opens fuel t ty hty n _ _ h
end Go.Proofs.Ytddbebhklmaeoaa.Vc
/- Integers that are handed in are within their kind. -/
set_option linter.unusedVariables false
namespace Go.Proofs.Ytddbebhklmaeoaa.Vc
open Go Go.Deep Go.ChangeShapes Go.WideShapes
end Go.Proofs.Ytddbebhklmaeoaa.Vc
/- Pieces of memory, put together and taken apart. -/
set_option linter.unusedVariables false
set_option linter.unusedSimpArgs false
namespace Go.Proofs.Ytddbebhklmaeoaa.Vc
open Go

/-- Two pieces as one. -/
def Chunk.star (c d : Chunk) : Chunk where
  holds w F := ∃ F1 F2, F = F1 ++ F2 ∧ c.holds w F1 ∧ d.holds w F2 ∧ ∀ x ∈ F1, x ∉ F2
  fr h hf hS := by
    obtain ⟨F1, F2, rfl, h1, h2, h3⟩ := h
    exact ⟨F1, F2, rfl, c.fr h1 hf (fun x hx => hS x (by simp [hx])), d.fr h2 hf (fun x hx => hS x (by simp [hx])), h3⟩
  lt h x hx := by
    obtain ⟨F1, F2, rfl, h1, h2, h3⟩ := h
    rcases List.mem_append.1 hx with hx | hx
    · exact c.lt h1 x hx
    · exact d.lt h2 x hx
section
variable {S : List Nat} {w0 w w' : World} {L : List Chunk}
/-- The piece at i is seen in another way. -/
theorem St.as (h : St S w0 w L) (i : Nat) {c : Chunk} (hi : L[i]? = some c) (c' : Chunk) (hc : ∀ F, c.holds w F → c'.holds w F) : St S w0 w (L.set i c') := by
  obtain ⟨F, h1, _, h2⟩ := h.at i hi
  exact h2 (Fr.refl _ _) (hc F h1) (fun x hx => .inl hx)
theorem St.join {c d : Chunk} (h : St S w0 w (c :: d :: L)) : St S w0 w (Chunk.star c d :: L) := by
  obtain ⟨h1, Fs, h2, h3⟩ := h
  obtain ⟨k1, k2⟩ := h2 0 _ rfl
  obtain ⟨k3, k4⟩ := h2 1 _ rfl
  refine ⟨h1, fun i => match i with | 0 => Fs 0 ++ Fs 1 | i + 1 => Fs (i + 2), ?_, ?_⟩
  · intro i b hb
    match i with
    | 0 =>
      simp at hb; subst hb
      refine ⟨⟨Fs 0, Fs 1, rfl, k1, k3, fun x hx => h3 0 1 (by simp) (by simp) (by omega) x hx⟩, fun x hx => ?_⟩
      rcases List.mem_append.1 hx with hx | hx
      · exact k2 x hx
      · exact k4 x hx
    | i + 1 => exact h2 (i + 2) b (by simpa using hb)
  · have out : ∀ j, j + 1 < (Chunk.star c d :: L).length → ∀ x ∈ Fs 0 ++ Fs 1, x ∉ Fs (j + 2) := by
      intro j hj x hx hx2
      simp at hj
      rcases List.mem_append.1 hx with hx | hx
      · exact h3 0 (j + 2) (by simp) (by simp; omega) (by omega) x hx hx2
      · exact h3 1 (j + 2) (by simp) (by simp; omega) (by omega) x hx hx2
    intro i j hi hj hij x hx hx2
    match i, j with
    | 0, 0 => exact hij rfl
    | 0, j + 1 => exact out j hj x hx hx2
    | i + 1, 0 => exact out i hi x hx2 hx
    | i + 1, j + 1 => exact h3 (i + 2) (j + 2) (by simp at hi ⊢; omega) (by simp at hj ⊢; omega) (by omega) x hx hx2
theorem perm_map {α : Type} {l l' : List α} (p : l.Perm l') : ∃ σ : Nat → Nat, (∀ i c, l'[i]? = some c → l[σ i]? = some c) ∧ ∀ i j, i < l'.length → j < l'.length → σ i = σ j → i = j := by
  induction p with
  | nil => exact ⟨id, by simp, by simp⟩
  | cons x p ih =>
    obtain ⟨σ, h1, h2⟩ := ih
    refine ⟨fun i => match i with | 0 => 0 | i + 1 => σ i + 1, ?_, ?_⟩
    · intro i c hc
      cases i with
      | zero => simpa using hc
      | succ i => simpa using h1 i c (by simpa using hc)
    · intro i j hi hj h
      cases i with
      | zero =>
        cases j with
        | zero => rfl
        | succ j => simp at h
      | succ i =>
        cases j with
        | zero => simp at h
        | succ j => simp at h hi hj; rw [h2 i j hi hj h]
  | swap x y l =>
    refine ⟨fun i => match i with | 0 => 1 | 1 => 0 | i + 2 => i + 2, ?_, ?_⟩
    · intro i c hc
      match i, hc with
      | 0, hc => simpa using hc
      | 1, hc => simpa using hc
      | i + 2, hc => simpa using hc
    · intro i j hi hj h
      match i, j, h with
      | 0, 0, _ => rfl
      | 1, 1, _ => rfl
      | 0, 1, h => simp at h
      | 1, 0, h => simp at h
      | 0, j + 2, h => simp at h
      | 1, j + 2, h => simp at h
      | i + 2, 0, h => simp at h
      | i + 2, 1, h => simp at h
      | i + 2, j + 2, h => simpa using h
  | trans p q ih1 ih2 =>
    obtain ⟨σ, h1, h2⟩ := ih1
    obtain ⟨τ, h3, h4⟩ := ih2
    refine ⟨fun i => σ (τ i), fun i c hc => h1 _ _ (h3 i c hc), fun i j hi hj h => h4 i j hi hj (h2 _ _ ?_ ?_ h)⟩
    · exact (List.getElem?_eq_some_iff.1 (h3 i _ (List.getElem?_eq_getElem hi))).1
    · exact (List.getElem?_eq_some_iff.1 (h3 j _ (List.getElem?_eq_getElem hj))).1
theorem St.perm (h : St S w0 w L) {L' : List Chunk} (p : L.Perm L') : St S w0 w L' := by
  obtain ⟨σ, h1, h2⟩ := perm_map p
  exact h.pick L' σ h1 h2
/-- The pieces at some places. -/
theorem St.sel (h : St S w0 w L) (idx : List Nat) (hnd : idx.Nodup) (L' : List Chunk) (hL : L'.map some = idx.map fun i => L[i]?) : St S w0 w L' := by
  have hlen : L'.length = idx.length := by simpa using congrArg List.length hL
  refine h.pick L' (fun i => idx.getD i 0) ?_ ?_
  · intro i c hc
    have hi : i < L'.length := (List.getElem?_eq_some_iff.1 hc).1
    have e := congrArg (fun l => l[i]?) hL
    have hi2 : i < idx.length := by omega
    simp only [List.getElem?_map, hc, Option.map_some] at e
    rw [List.getElem?_eq_getElem hi2, Option.map_some] at e
    rw [List.getD_eq_getElem?_getD, List.getElem?_eq_getElem hi2]
    exact (Option.some.inj e).symm
  · intro i j hi hj h
    have hi2 : i < idx.length := by omega
    have hj2 : j < idx.length := by omega
    simp only [List.getD_eq_getElem?_getD, List.getElem?_eq_getElem hi2, List.getElem?_eq_getElem hj2, Option.getD_some] at h
    have hp := List.pairwise_iff_getElem.1 hnd
    rcases Nat.lt_trichotomy i j with h1 | h1 | h1
    · exact absurd h (hp i j hi2 hj2 h1)
    · exact h1
    · exact absurd h.symm (hp j i hj2 hi2 h1)
end

end Go.Proofs.Ytddbebhklmaeoaa.Vc
/- One thing more on a list of things of one cell. -/
set_option linter.unusedVariables false
set_option linter.unusedSimpArgs false
namespace Go.Proofs.Ytddbebhklmaeoaa.Vc
open Go
/-- A list of things of one cell. -/
abbrev Chunk.ls {α : Type} (enc : α → Value) (e : TypeId) (v : Value) (l : List α) : Chunk := Chunk.sl e 1 v (l.map fun a => [enc a])
theorem St.app {α : Type} {enc : α → Value} (henc : ∀ a, (enc a).oneCell' = true) {P : Program} {t ty e : TypeId} {ti : TypeInfo} {z : Value} (ht : P.underlying t = some (.slice e)) (hti : P.info? e = some ti) (hz : ti.zero = some z) (hsize : ti.size = 1) (hzs : z.cells.size = 1) (hb : ti.bytes ≤ 1000)
    {S : List Nat} {w0 w : World} {L : List Chunk} (h : St S w0 w L) (i : Nat) {A : Option Addr} {n c : Nat} {l : List α} (hi : L[i]? = some (Chunk.ls enc e (.slice A n c) l)) (a : α) (hl : l.length ≤ 40000000) :
    ∃ g' cap' w', (Builtin.append_ #[t, t] ty #[.slice A n c, .slice (some ⟨w.heap.size, 0, Option.none⟩) 1 1]).run P (World.alloc w (.cells #[enc a] e)) = .ok (.slice (some ⟨g', 0, Option.none⟩) (l.length + 1) cap') w' ∧
      St S w0 w' (L.set i (Chunk.ls enc e (.slice (some ⟨g', 0, Option.none⟩) (l.length + 1) cap') (l ++ [a]))) := by
  have h2 := h.alloc #[enc a] e
  have el : (l.map fun a => [enc a]).length = l.length := by simp
  obtain ⟨g', cap', w3, hrun, h3⟩ := h2.append (P := P) (t := t) (ty := ty) (r := [enc a]) (i + 1) ht hti hz hsize hzs (by decide) (by simpa using hi) (h2.blk 0 rfl) rfl rfl (by intro u hu; simp at hu; subst hu; exact henc a) (by rw [el]; have := Nat.mul_le_mul (show l.length + 1 ≤ 40000001 by omega) hb; omega) (by rw [el]; simp [maxLen]; omega)
  rw [el] at hrun h3
  refine ⟨g', cap', w3, hrun, ?_⟩
  have h4 := h3.tail
  rw [show (l.map fun a => [enc a]) ++ [[enc a]] = (l ++ [a]).map (fun a => [enc a]) by simp] at h4
  exact h4
theorem St.lsLen {α : Type} {enc : α → Value} {S : List Nat} {w0 w : World} {L : List Chunk} (h : St S w0 w L) (i : Nat) {e : TypeId} {A : Option Addr} {n c : Nat} {l : List α} (hi : L[i]? = some (Chunk.ls enc e (.slice A n c) l)) : n = l.length := by
  have := h.slLen i hi
  rwa [List.length_map] at this
theorem St.lsGet {α : Type} (d : α) {enc : α → Value} {S : List Nat} {w0 w : World} {L : List Chunk} (h : St S w0 w L) (i : Nat) {e : TypeId} {A : Option Addr} {n c : Nat} {l : List α} (hi : L[i]? = some (Chunk.ls enc e (.slice A n c) l)) (hp : 0 < n) :
    ∃ g, A = some ⟨g, 0, Option.none⟩ ∧ ∀ q, q < n → w.cell? ⟨g, q, Option.none⟩ = some (enc (l.getD q d)) := by
  have hn := h.lsLen i hi
  obtain ⟨g, hg, hc⟩ := h.slGet i hi (by simp; omega)
  refine ⟨g, hg, fun q hq => ?_⟩
  have := hc q 0 (enc (l.getD q d)) (by simp; omega) (by decide) (by simp [List.getD_eq_getElem?_getD, show q < l.length by omega])
  simpa using this
/-- A thing of the list is written. -/
theorem St.lsSet {α : Type} {enc : α → Value} {S : List Nat} {w0 w : World} {L : List Chunk} (h : St S w0 w L) (i : Nat) {e : TypeId} {A : Option Addr} {n c : Nat} {l : List α} (hi : L[i]? = some (Chunk.ls enc e (.slice A n c) l)) {k : Nat} (hk : k < l.length) (a : α) :
    ∃ g, A = some ⟨g, 0, Option.none⟩ ∧ canStore w g k 1 ∧ St S w0 (setCs w g k [enc a]) (L.set i (Chunk.ls enc e (.slice A n c) (l.set k a))) := by
  obtain ⟨g, hg, hs⟩ := h.slSet i hi (k := k) (by simpa using hk)
  obtain ⟨h1, h2⟩ := hs [enc a] rfl
  rw [Nat.mul_one] at h1 h2
  refine ⟨g, hg, h1, ?_⟩
  rw [show (l.map fun a => [enc a]).set k [enc a] = (l.set k a).map (fun a => [enc a]) by rw [List.map_set]] at h2
  exact h2
end Go.Proofs.Ytddbebhklmaeoaa.Vc
/- Things that lie anywhere are appended to a list. -/
set_option linter.unusedVariables false
set_option linter.unusedSimpArgs false
namespace Go.Proofs.Ytddbebhklmaeoaa.Vc
open Go
theorem append_rowsA {P : Program} {w : World} {t ty e : TypeId} {i : TypeInfo} {z : Value} {s : Nat} {rs : List (List Value)} {v : Value} {news : List (List Value)} {a0 : Addr} {c : Nat}
    (ht : P.underlying t = some (.slice e)) (hi : P.info? e = some i) (hz : i.zero = some z) (hsize : i.size = s) (hzs : z.cells.size = s) (hs : 0 < s)
    (hown : (v = .slice none 0 0 ∧ rs = []) ∨ ∃ g cap, v = .slice (some ⟨g, 0, none⟩) rs.length cap ∧ Row w e s g cap rs)
    (hnews : ∀ (j : Nat) (u : Value), news.flatten[j]? = some u → w.cell? (a0.add j) = some u) (hr : ∀ x ∈ news, x.length = s) (h1 : ∀ u ∈ news.flatten, u.oneCell' = true) (hrs : ∀ x ∈ rs, x.length = s) (hm0 : 0 < news.length)
    (hbytes : (rs.length + news.length) * i.bytes ≤ 140737488355328) (hmax : rs.length + news.length ≤ maxLen) :
    ∃ g' cap' w', (Builtin.append_ #[t, t] ty #[v, .slice (some a0) news.length c]).run P w = .ok (.slice (some ⟨g', 0, none⟩) (rs.length + news.length) cap') w' ∧
      Row w' e s g' cap' (rs ++ news) ∧ ((v = .slice (some ⟨g', 0, none⟩) rs.length cap' ∧ Fr [g'] w w') ∨ (w.heap.size ≤ g' ∧ Fr [] w w')) := by
  have hnl : news.flatten.length = news.length * s := flat_len hr
  have hl : news.flatten.length = news.length * i.size := by rw [hnl, hsize]
  have hrs' : ∀ x ∈ rs ++ news, x.length = s := by
    intro x hx
    rcases List.mem_append.mp hx with hx | hx
    · exact hrs x hx
    · exact hr x hx
  have hflat : (rs ++ news).flatten = rs.flatten ++ news.flatten := by simp
  have fin : ∀ (v' : Value) (w' : World) (base : Nat), w'.ownsRow base e s v' (rs.length + news.length) (rs.flatten ++ news.flatten) → ∃ g' cap', v' = .slice (some ⟨g', 0, none⟩) (rs.length + news.length) cap' ∧ Row w' e s g' cap' (rs ++ news) ∧ base ≤ g' := by
    intro v' w' base ho
    rcases ho.2 with ⟨_, h⟩ | ⟨g', cap', cur, rfl, hbg, hg, hnc, hcm, hcs, htake⟩
    · omega
    · refine ⟨g', cap', rfl, (Row.ofOwn hs (n := rs.length + news.length) ?_ hrs').1, hbg⟩
      rw [hflat]
      exact ⟨ho.1, .inr ⟨g', cap', cur, rfl, Nat.zero_le _, hg, hnc, hcm, hcs, htake⟩⟩
  rcases hown with ⟨rfl, rfl⟩ | ⟨g, cap, rfl, hR⟩
  · obtain ⟨v', w', hrun, ho, hg, _⟩ := run_append_own (P := P) w w.heap.size t ty e i z s i.bytes ht hi hz hsize rfl hzs hs (.slice none 0 0) 0 [] (World.ownsRow_nil w _ e s) a0 news.length c news.flatten (by rw [← hsize]; exact hl) hnews h1
      (by simpa using hmax) (by simpa using hbytes) (Nat.le_refl _)
    obtain ⟨g', cap', rfl, hR, hbg⟩ := fin v' w' _ (by simpa using ho)
    have hx := run_append_nil (P := P) w t ty e i z ht hi hz a0 news.length c news.flatten hl hnews (by omega) (by simp only [maxLen, List.length_nil] at hmax; omega) (by simp only [List.length_nil, Nat.zero_add] at hbytes ⊢; omega)
    have hw : w' = w.drew.alloc (.cells (news.flatten.toArray ++ Builtin.zeroCells z.cells (grownCap w news.length 0 e - news.length)) e) := by
      rw [hx] at hrun; injection hrun with _ h; exact h.symm
    exact ⟨g', cap', w', hrun, hR, .inr ⟨hbg, by rw [hw]; exact (Fr.refl _ w).drew.alloc⟩⟩
  · have hO := hR.toOwn hs
    by_cases hroom : rs.length + news.length ≤ cap
    · obtain ⟨w', hrun, ho, hg⟩ := run_append_fits (P := P) w 0 t ty e i s ht hi hsize g rs.length cap rs.flatten hO a0 news.length c news.flatten (by rw [← hsize]; exact hl) hnews h1 hroom
      obtain ⟨g', cap', he, hR', _⟩ := fin _ w' _ ho
      simp only [Value.slice.injEq, Option.some.injEq, Addr.mk.injEq, and_true, true_and] at he
      obtain ⟨rfl, rfl⟩ := he
      have hfr : ∀ a, w'.frozen? a = w.frozen? a := by
        obtain ⟨cur, hbk, hcs, _⟩ := hR
        have hx := run_append_room (P := P) w t ty e i ht hi g rs.length cap cur hbk a0 news.length c news.flatten hl hnews h1 hroom (by
          have : (rs.length + news.length) * s ≤ cap * s := Nat.mul_le_mul_right s hroom
          rw [Nat.add_mul] at this; rw [hsize, hcs, hnl]; omega)
        rw [hx] at hrun
        injection hrun with _ hw
        intro x
        rw [← hw]
        exact frozen_setRow w g _ x
      exact ⟨g, cap, w', hrun, hR', .inl ⟨rfl, Fr.of_grown hg hfr (by simp [Value.ownBlock])⟩⟩
    · have hcap := hR.cap_le
      have hl2 := flat_len hrs
      have holds := hO.cells (g := g) rfl
      have hrun := run_append_grow (P := P) w t ty e i z ht hi hz ⟨g, 0, none⟩ rs.length cap rs.flatten (by rw [hl2, hsize]) holds a0 news.length c news.flatten hl hnews (by omega) (by simp only [maxLen] at hmax; omega) (growslice_fits (by omega) hbytes)
      have hge := grownCap_ge w (rs.length + news.length) cap e
      refine ⟨_, _, _, hrun, (Row.ofOwn hs (n := rs.length + news.length) ?_ hrs').1, .inr ⟨Nat.le_refl _, (Fr.refl _ w).drew.alloc⟩⟩
      rw [hflat]
      refine ⟨by rw [List.length_append, hl2, hnl, Nat.add_mul], .inr ⟨w.heap.size, _, _, rfl, Nat.zero_le _, Blk.newd, hge, grownCap_le_maxLen w _ cap e hmax, ?_, ?_⟩⟩
      · simp only [Array.size_append, List.size_toArray, size_zeroCells, hzs, hl2, hnl]
        rw [← Nat.add_mul, ← Nat.add_mul]
        congr 1
        omega
      · have : (rs.flatten ++ news.flatten).length = (rs.length + news.length) * s := by rw [List.length_append, hl2, hnl, Nat.add_mul]
        rw [← this]
        simp only [Array.toList_append, List.append_assoc]
        rw [← List.append_assoc]
        exact List.take_left


end Go.Proofs.Ytddbebhklmaeoaa.Vc
