/- What is handed in, of any type without maps, pointers and interfaces: read once as plain Lean values. -/
import Derived.Test.YtjmlfknogjaemaaDoorM6
import Derived.Test.YtjmlfknogjaemaaDoorRows
import Derived.OpenShut
import Derived.ChangeArms
import Derived.ChangeSlices
import Derived.Deep.Slices
import Derived.Laws.Cover2
import Derived.ChangeSame
import Derived.WalkKit
import Derived.ProofKit
import Derived.JoinedCond
import Derived.Carry
import Derived.Shelf.LaysM
import Derived.Shelf.Strconv.Itoa3
import Derived.Lib.LaidTab
import Derived.Test.YtjmlfknogjaemaaDoorProg
import Derived.Shelf.SlGeneric
import Derived.Shelf.SlLaysF0
set_option linter.unusedVariables false
set_option linter.unusedSimpArgs false
namespace Go.Proofs.YtjmlfknogjaemaaDoor.Vc
open Go Go.Deep Go.ChangeShapes Go.WideShapes

inductive Ty where
  | int (k : IntKind) | bool | str | flt (k : FloatKind) | unit | pair (a b : Ty) | sl (e : Ty)
/-- How many cells. -/
def Ty.w : Ty → Nat
  | .unit => 0
  | .pair a b => a.w + b.w
  | _ => 1
abbrev Den : Ty → Type
  | .int _ => Int
  | .bool => Bool
  | .str => ByteArray
  | .flt _ => Nat
  | .unit => Unit
  | .pair a b => Den a × Den b
  | .sl e => List (Den e)
/-- The values cs (and what they lead to, in the blocks F) are d. -/
def In (w : World) : (t : Ty) → List Value → Den t → List Nat → Prop
  | .int k, cs, n, F => cs = [.int k n] ∧ (Lit.int k n).wf = true ∧ F = []
  | .bool, cs, b, F => cs = [.bool b] ∧ F = []
  | .str, cs, s, F => cs = [.string s] ∧ F = []
  | .flt k, cs, n, F => cs = [.float k n] ∧ (Lit.float k n).wf = true ∧ F = []
  | .unit, cs, _, F => cs = [] ∧ F = []
  | .pair a b, cs, d, F => ∃ c1 c2 F1 F2, cs = c1 ++ c2 ∧ F = F1 ++ F2 ∧ c1.length = a.w ∧ In w a c1 d.1 F1 ∧ In w b c2 d.2 F2
  | .sl e, cs, l, F => ∃ A n c, cs = [.slice A n c] ∧ n = l.length ∧ n ≤ c ∧ (A = none → c = 0) ∧ ((n = 0 ∧ F = []) ∨ ∃ (b o : Nat) (Fs : List (List Nat)), A = some ⟨b, o, none⟩ ∧ F = b :: Fs.flatten ∧ Fs.length = n ∧
      ∀ i (h : i < l.length), ∃ es, es.length = e.w ∧ (∀ j, j < e.w → w.cell? ⟨b, o + i * e.w + j, none⟩ = es[j]?) ∧ In w e es l[i] (Fs.getD i []))
/-- How much it is. -/
def wt : (t : Ty) → Den t → Nat
  | .int _, _ => 1
  | .bool, _ => 1
  | .str, s => s.size + 1
  | .flt _, _ => 1
  | .unit, _ => 0
  | .pair a b, d => wt a d.1 + wt b d.2
  | .sl e, l => 1 + (l.map fun x => max 1 (wt e x)).sum
theorem In.len {w : World} : ∀ {t : Ty} {cs : List Value} {d : Den t} {F : List Nat}, In w t cs d F → cs.length = t.w
  | .int k, _, _, _, h => by rw [h.1]; rfl
  | .bool, _, _, _, h => by rw [h.1]; rfl
  | .str, _, _, _, h => by rw [h.1]; rfl
  | .flt k, _, _, _, h => by rw [h.1]; rfl
  | .unit, _, _, _, h => by rw [h.1]; rfl
  | .pair a b, _, _, _, h => by
    obtain ⟨c1, c2, F1, F2, rfl, rfl, h1, h2, h3⟩ := h
    rw [List.length_append, h1, h3.len]; rfl
  | .sl e, _, _, _, h => by
    obtain ⟨A, n, c, rfl, _⟩ := h
    rfl
theorem flat_mem {Fs : List (List Nat)} {i x : Nat} (h : x ∈ Fs.getD i []) : x ∈ Fs.flatten := by
  rw [List.getD_eq_getElem?_getD] at h
  cases hi : Fs[i]? with
  | none => rw [hi] at h; simp at h
  | some l =>
    rw [hi] at h
    exact List.mem_flatten.2 ⟨l, List.mem_of_getElem? hi, h⟩
theorem In.fr {S : List Nat} {w w' : World} (hf : Fr S w w') : ∀ {t : Ty} {cs : List Value} {d : Den t} {F : List Nat}, In w t cs d F → (∀ x ∈ F, x ∉ S) → In w' t cs d F
  | .int k, _, _, _, h, _ => h
  | .bool, _, _, _, h, _ => h
  | .str, _, _, _, h, _ => h
  | .flt k, _, _, _, h, _ => h
  | .unit, _, _, _, h, _ => h
  | .pair a b, _, _, _, h, hS => by
    obtain ⟨c1, c2, F1, F2, rfl, rfl, h1, h2, h3⟩ := h
    exact ⟨c1, c2, F1, F2, rfl, rfl, h1, h2.fr hf (fun x hx => hS x (by simp [hx])), h3.fr hf (fun x hx => hS x (by simp [hx]))⟩
  | .sl e, _, _, _, h, hS => by
    obtain ⟨A, n, c, rfl, hn, hc, hA, h⟩ := h
    refine ⟨A, n, c, rfl, hn, hc, hA, ?_⟩
    rcases h with h | ⟨b, o, Fs, rfl, rfl, hl, h⟩
    · exact .inl h
    · refine .inr ⟨b, o, Fs, rfl, rfl, hl, fun i hi => ?_⟩
      obtain ⟨es, e1, e2, e3⟩ := h i hi
      refine ⟨es, e1, fun j hj => ?_, e3.fr hf (fun x hx => hS x (List.mem_cons_of_mem _ (flat_mem hx)))⟩
      have hv : w.cell? ⟨b, o + i * e.w + j, none⟩ = some es[j] := by rw [e2 j hj]; exact List.getElem?_eq_getElem _
      have hb := World.block_lt_of_cell? w _ hv
      have hbl := hf.2 b hb (hS b (by simp))
      rw [← e2 j hj]
      simp only [World.cell?]
      rw [hbl]
theorem In.lt {w : World} : ∀ {t : Ty} {cs : List Value} {d : Den t} {F : List Nat}, (∀ e, t = .sl e → True) → (0 < 1) → In w t cs d F → True
  | _, _, _, _, _, _, _ => trivial
def Den.dflt : (t : Ty) → Den t
  | .int _ => (0 : Int)
  | .bool => false
  | .str => (ByteArray.empty : ByteArray)
  | .flt _ => (0 : Nat)
  | .unit => ()
  | .pair a b => (Den.dflt a, Den.dflt b)
  | .sl _ => []
instance {t : Ty} : Inhabited (Den t) := ⟨Den.dflt t⟩

/-! ### Opening -/
def arrTy (ty : Ty) : Nat → Ty
  | 0 => .unit
  | n + 1 => .pair ty (arrTy ty n)
mutual
def tyOf (P : Program) : Nat → TypeId → Option Ty
  | 0, _ => none
  | fuel + 1, t => match P.underlying t with
    | some (.int k) => some (.int k)
    | some .bool => some .bool
    | some .string => some .str
    | some (.float k) => some (.flt k)
    | some (.slice e) => match tyOf P fuel e with
      | some ty => match Nat.beq (P.cellsOf e) ty.w, Nat.blt 0 ty.w with
        | true, true => some (.sl ty)
        | _, _ => none
      | none => none
    | some (.struct fs) => match tyFields P fuel fs.toList 0 with
      | some ty => match Nat.beq (P.cellsOf t) ty.w with
        | true => some ty
        | false => none
      | none => none
    | some (.array n e) => match tyOf P fuel e with
      | some ty => match Nat.beq (P.cellsOf e) ty.w, Nat.beq (P.cellsOf t) (n * ty.w) with
        | true, true => some (arrTy ty n)
        | _, _ => none
      | none => none
    | _ => none
def tyFields (P : Program) : Nat → List Field → Nat → Option Ty
  | 0, _, _ => none
  | _ + 1, [], _ => some .unit
  | fuel + 1, f :: fs, off => match Nat.beq f.offset off, tyOf P fuel f.type with
    | true, some a => match Nat.beq (P.cellsOf f.type) a.w, tyFields P fuel fs (off + a.w) with
      | true, some b => some (.pair a b)
      | _, _ => none
    | _, _ => none
end
theorem bulk_pos {H : Type} (d : DataW H) : 1 ≤ Rows.uptoBulk d := by
  cases d with
  | lit l => cases l <;> simp [Rows.uptoBulk]
  | _ => simp [Rows.uptoBulk]
theorem bulk_sum {H : Type} {e : Ty} : ∀ (ds : List (DataW H)) (l : List (Den e)), ds.length = l.length → (∀ i (h : i < l.length) (h' : i < ds.length), wt e l[i] ≤ Rows.uptoBulk ds[i]) → (l.map fun x => max 1 (wt e x)).sum ≤ Rows.uptoBulkAll ds
  | [], [], _, _ => by simp [Rows.uptoBulkAll]
  | d :: ds, x :: l, hl, h => by
    have h0 := h 0 (by simp) (by simp)
    have h1 := bulk_sum ds l (by simpa using hl) (fun i hi hi' => h (i + 1) (by simpa using hi) (by simpa using hi'))
    have := bulk_pos d
    simp only [List.getElem_cons_zero] at h0
    simp only [List.map_cons, List.sum_cons, Rows.uptoBulkAll]
    omega
  | [], _ :: _, h, _ => by simp at h
  | _ :: _, [], h, _ => by simp at h
section
variable {H : Type} {enc : TypeId × Value → H} {P : Program} {w : World} {base : Nat} {spare : Nat → Bool} {held : Bool}
abbrev Opens (enc : TypeId × Value → H) (P : Program) (w : World) (base : Nat) (spare : Nat → Bool) (held : Bool) (t : TypeId) (ty : Ty) : Prop :=
  ∀ (n : Nat) (cs : List Value) (x : DataW H × List MemPlace), DataW.trod enc P w base spare held n t cs = some x → ∃ (d : Den ty) (F : List Nat), In w ty cs d F ∧ wt ty d ≤ Rows.uptoBulk x.1
theorem trod_flt {fuel : Nat} {t : TypeId} {cs : List Value} {x : DataW H × List MemPlace} {k : FloatKind} (ht : P.underlying t = some (.float k)) (h : DataW.trod enc P w base spare held fuel t cs = some x) : ∃ n, cs = [.float k n] ∧ x = (.lit (.float k n), []) ∧ (Lit.float k n).wf = true := by
  cases fuel with
  | zero => simp [DataW.trod] at h
  | succ n =>
    unfold DataW.trod at h
    rw [ht] at h
    split at h <;> simp_all
theorem opens_arr {e : TypeId} {ty : Ty} (ho : Opens enc P w base spare held e ty) {m : Nat} {cs : List Value} {xs : List (DataW H × List MemPlace)} : ∀ (n k : Nat), cs.length = (k + n) * ty.w → xs.length = k + n →
    (∀ i, k ≤ i → i < k + n → DataW.trod enc P w base spare held m e ((cs.drop (i * ty.w)).take ty.w) = xs[i]?) → ∃ (d : Den (arrTy ty n)) (F : List Nat), In w (arrTy ty n) (cs.drop (k * ty.w)) d F ∧ wt (arrTy ty n) d ≤ Rows.uptoBulkAll ((xs.drop k).map (·.1))
  | 0, k, hl, hx, h => ⟨(), [], ⟨List.drop_eq_nil_of_le (by simp at hl; omega), rfl⟩, by simp [arrTy, wt]⟩
  | n + 1, k, hl, hx, h => by
    have hk := h k (Nat.le_refl _) (by omega)
    rw [List.getElem?_eq_getElem (by omega)] at hk
    obtain ⟨d1, F1, h1, h2⟩ := ho _ _ _ hk
    obtain ⟨d2, F2, h3, h4⟩ := opens_arr ho n (k + 1) (by rw [hl]; congr 1; omega) (by omega) (fun i hi hi' => h i (by omega) (by omega))
    refine ⟨(d1, d2), F1 ++ F2, ⟨_, _, F1, F2, ?_, rfl, h1.len, h1, h3⟩, ?_⟩
    · rw [show (k + 1) * ty.w = k * ty.w + ty.w by rw [Nat.add_mul]; omega, ← List.drop_drop, List.take_append_drop]
    · simp only [arrTy, wt]
      rw [List.drop_eq_getElem_cons (show k < xs.length by omega), List.map_cons, Rows.uptoBulkAll]
      omega
theorem opens_fields {m : Nat} {cs : List Value} : ∀ (fuel : Nat) (fs : List Field) (off : Nat) (ty : Ty), (∀ fuel' t ty, fuel' < fuel → tyOf P fuel' t = some ty → Opens enc P w base spare held t ty) → tyFields P fuel fs off = some ty → cs.length = off + ty.w →
    ∀ xs : List (DataW H × List MemPlace), xs.length = fs.length → (∀ (i : Nat) (f : Field), fs[i]? = some f → DataW.trod enc P w base spare held m f.type ((cs.drop f.offset).take (P.cellsOf f.type)) = xs[i]?) →
    ∃ (d : Den ty) (F : List Nat), In w ty (cs.drop off) d F ∧ wt ty d ≤ Rows.uptoBulkAll (xs.map (·.1))
  | 0, _, _, _, _, h, _, _, _, _ => by simp [tyFields] at h
  | fuel + 1, [], off, ty, ih, h, hl, xs, hx, hf => by
    simp only [tyFields, Option.some.injEq] at h
    subst h
    exact ⟨(), [], ⟨List.drop_eq_nil_of_le (by simp [Ty.w] at hl; omega), rfl⟩, by simp [wt]⟩
  | fuel + 1, f :: fs, off, ty, ih, h, hl, xs, hx, hf => by
    rw [tyFields] at h
    split at h
    · rename_i a ho ha
      split at h
      · rename_i b hc hb
        injection h with h
        subst h
        have ho := Nat.eq_of_beq_eq_true ho
        have hc := Nat.eq_of_beq_eq_true hc
        subst ho
        obtain ⟨y, ys, rfl⟩ : ∃ y ys, xs = y :: ys := by
          cases xs with
          | nil => simp at hx
          | cons y ys => exact ⟨y, ys, rfl⟩
        have h0 := hf 0 f rfl
        rw [hc] at h0
        obtain ⟨d1, F1, k1, k2⟩ := ih fuel _ _ (by omega) ha _ _ _ h0
        simp only [Ty.w] at hl
        obtain ⟨d2, F2, k3, k4⟩ := opens_fields fuel fs (f.offset + a.w) b (fun fuel' t ty hlt => ih fuel' t ty (by omega)) hb (by omega) ys (by simpa using hx) (fun i g hg => hf (i + 1) g (by simpa using hg))
        refine ⟨(d1, d2), F1 ++ F2, ⟨_, _, F1, F2, ?_, rfl, k1.len, k1, k3⟩, ?_⟩
        · rw [← List.drop_drop, List.take_append_drop]
        · simp only [wt, List.map_cons, Rows.uptoBulkAll]
          omega
      · cases h
    · cases h
theorem opens : ∀ (fuel : Nat) (t : TypeId) (ty : Ty), tyOf P fuel t = some ty → Opens enc P w base spare held t ty := by
  intro fuel
  induction fuel using Nat.strongRecOn with
  | _ fuel ih =>
    intro t ty h n cs x hx
    cases fuel with
    | zero => simp [tyOf] at h
    | succ fuel =>
      rw [tyOf] at h
      split at h
      · rename_i k hu
        injection h with h; subst h
        obtain ⟨n, rfl, rfl, hw⟩ := DataW.trod_int hu hx
        exact ⟨n, [], ⟨rfl, hw, rfl⟩, by simp [wt, Rows.uptoBulk]⟩
      · rename_i hu
        injection h with h; subst h
        obtain ⟨b, rfl, rfl⟩ := DataW.trod_bool hu hx
        exact ⟨b, [], ⟨rfl, rfl⟩, by simp [wt, Rows.uptoBulk]⟩
      · rename_i hu
        injection h with h; subst h
        obtain ⟨s, rfl, rfl, hw⟩ := DataW.trod_string hu hx
        exact ⟨s, [], ⟨rfl, rfl⟩, by show s.size + 1 ≤ s.data.toList.length + 1; rw [Array.length_toList]; exact Nat.le_refl _⟩
      · rename_i k hu
        injection h with h; subst h
        obtain ⟨b, rfl, rfl, hw⟩ := trod_flt hu hx
        exact ⟨b, [], ⟨rfl, hw, rfl⟩, by simp [wt, Rows.uptoBulk]⟩
      · rename_i e hu
        split at h
        · rename_i ty' hty
          split at h
          · rename_i h1 h2
            injection h with h; subst h
            have h1 := Nat.eq_of_beq_eq_true h1
            rcases DataW.trod_slice hu hx with ⟨rfl, rfl⟩ | ⟨a, len, cap, elems, rest, n, rfl, rfl, rfl, hb, hl, hm, hlen, hel, hsp, hns⟩
            · exact ⟨[], [], ⟨none, 0, 0, rfl, rfl, Nat.le_refl _, fun _ => rfl, .inl ⟨rfl, rfl⟩⟩, by simp [wt, Rows.uptoBulk]⟩
            · have hz : ∀ i, i < len → ∃ q : Den ty' × List Nat, ∃ es, es.length = ty'.w ∧ (∀ j, j < ty'.w → w.cell? ((a.add (i * ty'.w)).add j) = es[j]?) ∧ In w ty' es q.1 q.2 ∧ ∀ hi : i < elems.length, wt ty' q.1 ≤ Rows.uptoBulk elems[i].1 := by
                intro i hi
                have he := hel i hi
                rw [List.getElem?_eq_getElem (by omega)] at he
                obtain ⟨es, c1, c2⟩ := Option.bind_eq_some_iff.1 he
                obtain ⟨_, l1, l2⟩ := World.cells?_some c1
                rw [h1] at l1 l2
                obtain ⟨d, F, k1, k2⟩ := ih fuel (by omega) e ty' hty _ _ _ c2
                exact ⟨(d, F), es, l1, l2, k1, fun _ => k2⟩
              obtain ⟨q, hq⟩ := choose_lt hz
              have hlq : ((List.range len).map fun i => (q i).1).length = len := by simp
              refine ⟨(List.range len).map fun i => (q i).1, if len = 0 then [] else a.block :: ((List.range len).map fun i => (q i).2).flatten, ⟨some a, len, cap, rfl, by simp, hl, by simp, ?_⟩, ?_⟩
              · by_cases h0 : len = 0
                · exact .inl ⟨h0, by rw [if_pos h0]⟩
                · have hspot : a.spot = none := by
                    obtain ⟨es, e1, e2, _⟩ := hq 0 (by omega)
                    have h3 := e2 0 (Nat.lt_of_not_le (by simp at h2; omega))
                    rw [List.getElem?_eq_getElem (by rw [e1]; simp at h2; omega)] at h3
                    have := World.cell?_spot h3
                    simpa [Addr.add] using this
                  obtain ⟨b, o, sp⟩ := a
                  simp only at hspot
                  subst hspot
                  refine .inr ⟨b, o, (List.range len).map fun i => (q i).2, rfl, by rw [if_neg h0], by simp, fun i hi => ?_⟩
                  rw [hlq] at hi
                  obtain ⟨es, e1, e2, e3, _⟩ := hq i hi
                  refine ⟨es, e1, fun j hj => ?_, ?_⟩
                  · have := e2 j hj
                    rw [add_plain, add_plain] at this
                    exact this
                  · simpa [List.getD_eq_getElem?_getD, hi] using e3
              · simp only [wt, Rows.uptoBulk]
                have := bulk_sum (elems.map (·.1)) ((List.range len).map fun i => (q i).1) (by simp [hlen]) (fun i hi hi' => by
                  simp only [List.length_map, List.length_range] at hi hi'
                  obtain ⟨_, _, _, _, h5⟩ := hq i hi
                  simpa using h5 hi')
                omega
          · cases h
        · cases h
      · rename_i fs hu
        split at h
        · rename_i ty' hty
          split at h
          · rename_i hc
            injection h with h; subst h
            have hc := Nat.eq_of_beq_eq_true hc
            obtain ⟨xs, m, rfl, rfl, hl, hxl, hf⟩ := DataW.trod_struct hu hx
            obtain ⟨d, F, k1, k2⟩ := opens_fields (enc := enc) (w := w) (base := base) (spare := spare) (held := held) (m := m) (cs := cs) fuel fs.toList 0 ty' (fun fuel' t ty hlt => ih fuel' (by omega) t ty) hty (by omega) xs (by simpa using hxl) (fun i f hi => hf i f (by simpa using hi))
            exact ⟨d, F, k1, by simp only [Rows.uptoBulk]; omega⟩
          · cases h
        · cases h
      · rename_i n' e hu
        split at h
        · rename_i ty' hty
          split at h
          · rename_i h1 h2
            injection h with h; subst h
            have h1 := Nat.eq_of_beq_eq_true h1
            have h2 := Nat.eq_of_beq_eq_true h2
            obtain ⟨xs, m, rfl, rfl, hl, hxl, hf⟩ := DataW.trod_array hu hx
            rw [h1] at hf
            obtain ⟨d, F, k1, k2⟩ := opens_arr (cs := cs) (xs := xs) (m := m) (ih fuel (by omega) e ty' hty) n' 0 (by rw [hl, h2, Nat.zero_add]) (by omega) (fun i _ hi => hf i (by omega))
            refine ⟨d, F, by simpa using k1, ?_⟩
            simp only [Rows.uptoBulk]
            simp at k2
            omega
          · cases h
        · cases h
      · cases h
end
end Go.Proofs.YtjmlfknogjaemaaDoor.Vc
/- From the frame to the statement's own. -/
namespace Go.Proofs.YtjmlfknogjaemaaDoor.Vc
open Go Go.ChangeShapes Go.WideShapes
theorem Fr.kept {w w' : World} (h : Fr [] w w') (may : MemPlace → Prop) : w.keptBut w' may := by
  refine ⟨h.os, h.output, fun i hi => ?_⟩
  rw [h.block i hi (by simp)]
  cases w.heap[i]? with
  | none => rfl
  | some o =>
    cases o with
    | cells c t f => exact ⟨rfl, rfl, rfl, fun _ _ => rfl⟩
    | map es c => exact .inr ⟨rfl, rfl⟩
    | _ => rfl
/-- The law's postcondition, where all that was handed in reads as it did. -/
theorem post_of_fr {H : Type} {enc : TypeId × Value → H} {P : Program} {f : Func} {s : ChangeSpec} {apart fresh handsOn again : Bool} {W W' : World} {args : Array Value} {v : Value} {ds gs : List (DataW H)} {before pa pv : List MemPlace}
    (hW : DataW.Whole enc P f.params.toList s.vars apart W args.toList ds gs before)
    (hres : ∀ (b : Nat) (sp : Nat → Bool) (hd : Bool), DataW.TrodAll enc P W' b sp hd f.resultTypes.toList (v.resultList f.resultTypes.size) (s.fn H (ds ++ gs)).results [])
    (hargs : ∀ sp : Nat → Bool, (∀ p ∈ before, sp p.block = true) → DataW.TrodAll enc P W' 0 sp true f.params.toList args.toList (s.fn H (ds ++ gs)).args pa)
    (hvars : ∀ sp : Nat → Bool, (∀ p ∈ before, sp p.block = true) → DataW.TrodVars enc P W' sp s.vars (s.fn H (ds ++ gs)).vars pv)
    (hps : before = pa ++ pv) (hf : Fr [] W W')
    (hok : ∀ (j : Nat) (t : TypeId) (r : Value), f.resultTypes[j]? = some t → (v.resultList f.resultTypes.size)[j]? = some r → Value.okWide P W' .any 0 t r) :
    s.post enc P f apart fresh handsOn again W args v W' := by
  have hlt := hW.lt
  have hold : ∀ p ∈ before, (fun b => decide (b < W.heap.size)) p.block = true := fun p hp => by simpa using hlt p hp
  refine ⟨ds, gs, before, [], pa, pv, hW, hres _ _ _, hargs _ hold, hvars _ hold, World.keptBut_mono (fun p hp => ⟨hp, ?_⟩) (hf.kept (· ∈ before)), fun _ => ?_⟩
  · rw [hps, List.mem_append] at hp
    exact .inr hp
  · obtain ⟨_, _, _, _, _, hz, hn⟩ := hW
    refine ⟨hok, _, _, ([] ++ pa) ++ pv, ⟨[] ++ pa, pv, trodAll_append (hargs _ (fun _ _ => rfl)) (hres _ _ _), hvars _ (fun _ _ => rfl), rfl, ?_, ?_⟩, ?_⟩
    · intro b off hp
      have hp2 : MemPlace.cell b off ∈ before := by rw [hps]; simpa using hp
      rw [hf.frozen _ (hlt _ hp2)]
      exact hz b off hp2
    · intro ha
      have := hn ha
      rw [hps] at this
      simpa using this
    · intro p hp _
      rw [hps]
      simpa using hp
end Go.Proofs.YtjmlfknogjaemaaDoor.Vc
/- Lists that are handed in, as the walks read them; what is common to the claims' last texts. -/
set_option linter.unusedVariables false
set_option linter.unusedSimpArgs false
namespace Go.Proofs.YtjmlfknogjaemaaDoor.Vc
open Go Go.Deep Go.ChangeShapes Go.WideShapes
theorem sum_len {α : Type} (f : α → Nat) : ∀ l : List α, l.length ≤ (l.map fun x => max 1 (f x)).sum
  | [] => by simp
  | x :: l => by
    have := sum_len f l
    simp only [List.map_cons, List.sum_cons, List.length_cons]; omega
theorem wt_len {e : Ty} (l : List (Den e)) : l.length + 1 ≤ wt (.sl e) l := by
  have := sum_len (wt e) l
  simp only [wt]; omega
/-- A list that was handed in, element by element. -/
theorem In.elems {w : World} {e : Ty} {A : Option Addr} {n c : Nat} {l : List (Den e)} {F : List Nat} (h : In w (.sl e) [.slice A n c] l F) :
    n = l.length ∧ n ≤ c ∧ (0 < n → ∃ b o, A = some ⟨b, o, none⟩ ∧ ∀ i (h : i < l.length), ∃ es G, es.length = e.w ∧ (∀ j, j < e.w → w.cell? ⟨b, o + i * e.w + j, none⟩ = es[j]?) ∧ In w e es l[i] G ∧ ∀ x ∈ G, x ∈ F) := by
  obtain ⟨A', n', c', he, h1, h2, _, h3⟩ := h
  simp only [List.cons.injEq, Value.slice.injEq, and_true] at he
  obtain ⟨rfl, rfl, rfl⟩ := he
  refine ⟨h1, h2, fun hn => ?_⟩
  rcases h3 with ⟨h3, _⟩ | ⟨b, o, Fs, rfl, rfl, h4, h5⟩
  · omega
  · refine ⟨b, o, rfl, fun i hi => ?_⟩
    obtain ⟨es, e1, e2, e3⟩ := h5 i hi
    exact ⟨es, _, e1, e2, e3, fun x hx => List.mem_cons_of_mem _ (flat_mem hx)⟩
/-- A list of plain records that was handed in. -/
def InR (w : World) (s : Nat) (A : Option Addr) (n : Nat) (rs : List (List Value)) : Prop :=
  n = rs.length ∧ (0 < n → ∃ b o, A = some ⟨b, o, none⟩ ∧ ∀ i, i < n → ∀ j, j < s → w.cell? ⟨b, o + i * s + j, none⟩ = (rs.getD i [])[j]?)
theorem InR.fr {S : List Nat} {w w' : World} {s : Nat} {A : Option Addr} {n : Nat} {rs : List (List Value)} (h : InR w s A n rs) (hl : ∀ r ∈ rs, r.length = s) (hf : Fr [] w w') : InR w' s A n rs := by
  refine ⟨h.1, fun hn => ?_⟩
  obtain ⟨b, o, rfl, h2⟩ := h.2 hn
  refine ⟨b, o, rfl, fun i hi j hj => ?_⟩
  have hr : (rs.getD i []).length = s := by
    have : i < rs.length := by have := h.1; omega
    rw [List.getD_eq_getElem?_getD, List.getElem?_eq_getElem this]
    exact hl _ (List.getElem_mem this)
  have h3 := h2 i hi j hj
  rw [List.getElem?_eq_getElem (by omega)] at h3 ⊢
  exact hf.cell h3
theorem In.ints {w : World} {A : Option Addr} {n c : Nat} {l : List Int} {F : List Nat} (h : In w (.sl (.int .i64)) [.slice A n c] l F) :
    n = l.length ∧ (0 < n → ∃ b o, A = some ⟨b, o, none⟩ ∧ ∀ i, i < n → w.cell? ⟨b, o + i, none⟩ = some (.int .i64 (l.getD i 0))) := by
  obtain ⟨h1, _, h2⟩ := h.elems
  refine ⟨h1, fun hn => ?_⟩
  obtain ⟨b, o, rfl, h3⟩ := h2 hn
  refine ⟨b, o, rfl, fun i hi => ?_⟩
  have hi2 : i < l.length := by omega
  obtain ⟨es, G, e1, e2, ⟨rfl, _, _⟩, _⟩ := h3 i hi2
  have := e2 0 (by decide)
  simp only [Ty.w, Nat.mul_one, Nat.add_zero] at this
  rw [this]
  simp [List.getD_eq_getElem?_getD, hi2]
theorem In.strs {w : World} {A : Option Addr} {n c : Nat} {l : List ByteArray} {F : List Nat} (h : In w (.sl .str) [.slice A n c] l F) :
    n = l.length ∧ (0 < n → ∃ b o, A = some ⟨b, o, none⟩ ∧ ∀ i, i < n → w.cell? ⟨b, o + i, none⟩ = some (.string (l.getD i ByteArray.empty))) := by
  obtain ⟨h1, _, h2⟩ := h.elems
  refine ⟨h1, fun hn => ?_⟩
  obtain ⟨b, o, rfl, h3⟩ := h2 hn
  refine ⟨b, o, rfl, fun i hi => ?_⟩
  have hi2 : i < l.length := by omega
  obtain ⟨es, G, e1, e2, ⟨rfl, _⟩, _⟩ := h3 i hi2
  have := e2 0 (by decide)
  simp only [Ty.w, Nat.mul_one, Nat.add_zero] at this
  rw [this]
  simp [List.getD_eq_getElem?_getD, hi2]

/-! ### Claims -/
theorem own : ownKnob Tryd.prog.godebug = none := by kernel_rfl
theorem laid : laidOutB Tryd.prog = true := by kernel_rfl
theorem stays {H : Type} {enc : TypeId × Value → H} {t : TypeId} (hr : Tryd.prog.readableRec t = true) (hrow : t < Tryd.prog.types.size) {W W' : World} {sp : Nat → Bool} {v : Value} {d : DataW H} {ps : List MemPlace}
    (h : DataW.Trod enc Tryd.prog W 0 (fun _ => true) true t v d ps) (hf : Fr [] W W') (hlt : ∀ p ∈ ps, p.block < W.heap.size) (hs : ∀ p ∈ ps, sp p.block = true) : DataW.Trod enc Tryd.prog W' 0 sp true t v d ps := by
  refine WideElems.Trod_stays laid hr hrow h (fun p hp => ?_) hs
  have hb := hf.block p.block (hlt p hp) (by simp)
  cases p with
  | cell b o => exact World.cell?_of_block (w := W) hb
  | map b => exact hb
theorem open_arg {H : Type} {enc : TypeId × Value → H} {W : World} {t : TypeId} {fuel : Nat} {ty : Ty} {v : Value} {d : DataW H} {ps : List MemPlace} (hty : tyOf Tryd.prog fuel t = some ty)
    (h : DataW.Trod enc Tryd.prog W 0 (fun _ => true) true t v d ps) : ∃ (x : Den ty) (F : List Nat), In W ty v.cells.toList x F ∧ wt ty x ≤ Rows.uptoBulk d := by
  obtain ⟨n, h⟩ := h
  exact opens fuel t ty hty n _ _ h
end Go.Proofs.YtjmlfknogjaemaaDoor.Vc
/- strconv.Itoa, laid at this program: numbers side by side. -/
namespace Go.Proofs.YtjmlfknogjaemaaDoor
open Go Go.Shelf
set_option maxRecDepth 100000
set_option linter.unusedVariables false
def Lay.itoa_ren : Go.Shelf.Ren := ⟨fun | 171 => 8 | 243 => 23 | 246 => 48 | 283 => 61 | 284 => 62 | 285 => 63 | 286 => 64 | 129 => 70 | 317 => 69 | 318 => 71 | 319 => 72 | 320 => 73 | 337 => 84 | 338 => 85 | n => n, fun | 3 => 3 | 9 => 9 | 2 => 2 | 4 => 4 | 171 => 103 | 0 => 0 | 53 => 104 | 37 => 107 | 5 => 5 | 173 => 108 | 212 => 115 | 51 => 116 | 20 => 20 | 213 => 117 | 46 => 57 | 232 => 133 | 233 => 134 | n => n, fun | 17 => 0 | 18 => 1 | 19 => 2 | n => n⟩
theorem Lay.itoa : Go.Proofs.LaysM.n171 Tryd.prog Lay.itoa_ren := {
  mixed := by kernel_rfl,
  f129 := Tryd.func70.trans (congrArg some (by kernel_rfl)),
  f171 := Tryd.func8.trans (congrArg some (by kernel_rfl)),
  f243 := Tryd.func23.trans (congrArg some (by kernel_rfl)),
  f246 := Tryd.func48.trans (congrArg some (by kernel_rfl)),
  f283 := Tryd.func61.trans (congrArg some (by kernel_rfl)),
  f284 := Tryd.func62.trans (congrArg some (by kernel_rfl)),
  f285 := Tryd.func63.trans (congrArg some (by kernel_rfl)),
  f286 := Tryd.func64.trans (congrArg some (by kernel_rfl)),
  f317 := Tryd.func69.trans (congrArg some (by kernel_rfl)),
  f318 := Tryd.func71.trans (congrArg some (by kernel_rfl)),
  f319 := Tryd.func72.trans (congrArg some (by kernel_rfl)),
  f320 := Tryd.func73.trans (congrArg some (by kernel_rfl)),
  f337 := Tryd.func84.trans (congrArg some (by kernel_rfl)),
  f338 := Tryd.func85.trans (congrArg some (by kernel_rfl)),
  t0 := Tryd.underlying0,
  a0 := Tryd.isAgg0,
  z0 := Tryd.sizeOf0,
  v0 := Tryd.zeroValue0,
  t2 := Tryd.underlying2,
  a2 := Tryd.isAgg2,
  z2 := Tryd.sizeOf2,
  v2 := Tryd.zeroValue2,
  t3 := Tryd.underlying3,
  a3 := Tryd.isAgg3,
  z3 := Tryd.sizeOf3,
  v3 := Tryd.zeroValue3,
  t4 := Tryd.underlying4,
  a4 := Tryd.isAgg4,
  z4 := Tryd.sizeOf4,
  v4 := Tryd.zeroValue4,
  t5 := Tryd.underlying5,
  a5 := Tryd.isAgg5,
  z5 := Tryd.sizeOf5,
  v5 := Tryd.zeroValue5,
  t9 := Tryd.underlying9,
  a9 := Tryd.isAgg9,
  z9 := Tryd.sizeOf9,
  v9 := Tryd.zeroValue9,
  t20 := Tryd.underlying20,
  a20 := Tryd.isAgg20,
  z20 := Tryd.sizeOf20,
  v20 := Tryd.zeroValue20,
  t37 := Tryd.underlying107,
  a37 := Tryd.isAgg107,
  z37 := Tryd.sizeOf107,
  v37 := Tryd.zeroValue107,
  t46 := Tryd.underlying57,
  a46 := Tryd.isAgg57,
  z46 := Tryd.sizeOf57,
  v46 := Tryd.zeroValue57,
  t51 := Tryd.underlying116,
  a51 := Tryd.isAgg116,
  z51 := Tryd.sizeOf116,
  v51 := Tryd.zeroValue116,
  t53 := Tryd.underlying104,
  a53 := Tryd.isAgg104,
  z53 := Tryd.sizeOf104,
  v53 := Tryd.zeroValue104,
  t171 := Tryd.underlying103,
  a171 := Tryd.isAgg103,
  z171 := Tryd.sizeOf103,
  v171 := Tryd.zeroValue103,
  t173 := Tryd.underlying108,
  a173 := Tryd.isAgg108,
  z173 := Tryd.sizeOf108,
  v173 := Tryd.zeroValue108,
  t212 := Tryd.underlying115,
  a212 := Tryd.isAgg115,
  z212 := Tryd.sizeOf115,
  v212 := Tryd.zeroValue115,
  t213 := Tryd.underlying117,
  a213 := Tryd.isAgg117,
  z213 := Tryd.sizeOf117,
  t232 := Tryd.underlying133,
  a232 := Tryd.isAgg133,
  z232 := Tryd.sizeOf133,
  v232 := Tryd.zeroValue133,
  t233 := Tryd.underlying134,
  a233 := Tryd.isAgg134,
  z233 := Tryd.sizeOf134,
  v233 := Tryd.zeroValue134,
  g17 := by kernel_rfl,
  g18 := by kernel_rfl,
  g19 := by kernel_rfl,
  i0 := by kernel_rfl,
  i2 := by kernel_rfl,
  i3 := by kernel_rfl,
  i4 := by kernel_rfl,
  i5 := by kernel_rfl,
  i9 := by kernel_rfl,
  i20 := by kernel_rfl,
  i37 := by kernel_rfl,
  i46 := by kernel_rfl,
  i51 := by kernel_rfl,
  i53 := by kernel_rfl,
  i171 := by kernel_rfl,
  i173 := by kernel_rfl,
  i212 := by kernel_rfl,
  i232 := by kernel_rfl,
  i233 := by kernel_rfl,
  m17 := by kernel_rfl,
  m18 := by kernel_rfl,
  m19 := by kernel_rfl }
end Go.Proofs.YtjmlfknogjaemaaDoor
namespace Go.Proofs.YtjmlfknogjaemaaDoor
open Go Go.Proofs.YtjmlfknogjaemaaDoor.Vc
namespace PG
/-- The powers of ten stand. -/
def Pow10 (w : World) : Prop := Lib.TabIs Tryd.prog w "internal/strconv.uint64pow10" .u64 Lib.pow10Tab
theorem itoaC {w : World} (h : Pow10 w) (n : Int) (h0 : -9223372036854775808 ≤ n) (h1 : n ≤ 9223372036854775807) : Calls Tryd.prog 8 #[.int .i64 n] w fun e w' => e = .returned (.string ⟨(Lib.itoa n).toArray⟩) ∧ Fr [] w w' := by
  have := Any.strconv_Itoa Lay.itoa n h0 h1 w h
  change Calls Tryd.prog 8 _ _ _ at this
  refine Calls.mono this ?_
  rintro e w' ⟨rfl, k, os, rfl⟩
  refine ⟨rfl, ⟨by simp [World.drewN, Sort.grow], fun b hb _ => ?_, rfl, rfl, fun a ha => ?_⟩⟩
  · exact Sort.heap_grow_old (w.drewN k) os hb
  · exact Sort.frozen?_grow (w.drewN k) os a ha
theorem Pow10.fr {w w' : World} (h : Pow10 w) (hf : Fr [] w w') : Pow10 w' := by
  unfold Pow10 Lib.TabIs at h ⊢
  have hg : Tryd.prog.globalNamed "internal/strconv.uint64pow10" = some 0 := by kernel_rfl
  unfold World.var? at h ⊢
  rw [hg] at h ⊢
  rw [Option.bind_some] at h ⊢
  have hlt : 0 < w.heap.size := by
    rcases Nat.eq_zero_or_pos w.heap.size with h0 | h0
    · rw [Array.getElem?_eq_none (xs := w.heap) (i := 0) (by omega)] at h; cases h
    · exact h0
  rw [hf.block 0 hlt (by simp)]
  exact h
end PG
end Go.Proofs.YtjmlfknogjaemaaDoor
/- slices.SortFunc on seats, laid at this program: numbers side by side. -/
namespace Go.Proofs.YtjmlfknogjaemaaDoor
open Go Go.Shelf
set_option maxRecDepth 100000
def Lay.sortS_ren : Go.Shelf.Ren := ⟨fun | 6 => 55 | 15 => 67 | 14 => 66 | 28 => 83 | 29 => 70 | 20 => 75 | 21 => 76 | 22 => 77 | 23 => 78 | 24 => 79 | 25 => 80 | 26 => 81 | 27 => 82 | 46 => 86 | 47 => 87 | 48 => 88 | 49 => 89 | 50 => 90 | 57 => 91 | n => n, fun | 22 => 67 | 24 => 98 | 25 => 100 | 3 => 3 | 39 => 57 | 0 => 0 | 53 => 116 | 55 => 104 | 4 => 4 | 46 => 121 | 45 => 120 | 50 => 36 | 5 => 5 | 9 => 9 | 66 => 127 | 70 => 131 | 76 => 135 | 77 => 94 | n => n, fun | n => n⟩
theorem Lay.sortS : Go.Proofs.SlLaysF0.n6 Tryd.prog Lay.sortS_ren := {
  mixed := by kernel_rfl,
  f6 := ⟨Tryd.f55.name, by decide, Tryd.func55.trans (congrArg some (by kernel_rfl))⟩,
  f14 := ⟨Tryd.f66.name, by decide, Tryd.func66.trans (congrArg some (by kernel_rfl))⟩,
  f15 := Tryd.func67.trans (congrArg some (by kernel_rfl)),
  f20 := ⟨Tryd.f75.name, by decide, Tryd.func75.trans (congrArg some (by kernel_rfl))⟩,
  f21 := ⟨Tryd.f76.name, by decide, Tryd.func76.trans (congrArg some (by kernel_rfl))⟩,
  f22 := ⟨Tryd.f77.name, by decide, Tryd.func77.trans (congrArg some (by kernel_rfl))⟩,
  f23 := ⟨Tryd.f78.name, by decide, Tryd.func78.trans (congrArg some (by kernel_rfl))⟩,
  f24 := ⟨Tryd.f79.name, by decide, Tryd.func79.trans (congrArg some (by kernel_rfl))⟩,
  f25 := ⟨Tryd.f80.name, by decide, Tryd.func80.trans (congrArg some (by kernel_rfl))⟩,
  f26 := ⟨Tryd.f81.name, by decide, Tryd.func81.trans (congrArg some (by kernel_rfl))⟩,
  f27 := ⟨Tryd.f82.name, by decide, Tryd.func82.trans (congrArg some (by kernel_rfl))⟩,
  f28 := Tryd.func83.trans (congrArg some (by kernel_rfl)),
  f29 := Tryd.func70.trans (congrArg some (by kernel_rfl)),
  f46 := ⟨Tryd.f86.name, by decide, Tryd.func86.trans (congrArg some (by kernel_rfl))⟩,
  f47 := Tryd.func87.trans (congrArg some (by kernel_rfl)),
  f48 := Tryd.func88.trans (congrArg some (by kernel_rfl)),
  f49 := ⟨Tryd.f89.name, by decide, Tryd.func89.trans (congrArg some (by kernel_rfl))⟩,
  f50 := ⟨Tryd.f90.name, by decide, Tryd.func90.trans (congrArg some (by kernel_rfl))⟩,
  f57 := ⟨Tryd.f91.name, by decide, Tryd.func91.trans (congrArg some (by kernel_rfl))⟩,
  t0 := Tryd.underlying0,
  a0 := Tryd.isAgg0,
  z0 := Tryd.sizeOf0,
  v0 := Tryd.zeroValue0,
  t3 := Tryd.underlying3,
  a3 := Tryd.isAgg3,
  z3 := Tryd.sizeOf3,
  v3 := Tryd.zeroValue3,
  t4 := Tryd.underlying4,
  a4 := Tryd.isAgg4,
  z4 := Tryd.sizeOf4,
  v4 := Tryd.zeroValue4,
  t5 := Tryd.underlying5,
  a5 := Tryd.isAgg5,
  z5 := Tryd.sizeOf5,
  v5 := Tryd.zeroValue5,
  t9 := Tryd.underlying9,
  a9 := Tryd.isAgg9,
  z9 := Tryd.sizeOf9,
  v9 := Tryd.zeroValue9,
  t22 := Tryd.underlying67,
  a22 := Tryd.isAgg67,
  z22 := Tryd.sizeOf67,
  v22 := Tryd.zeroValue67,
  t25 := Tryd.underlying100,
  a25 := Tryd.isAgg100,
  z25 := Tryd.sizeOf100,
  v25 := Tryd.zeroValue100,
  t39 := Tryd.underlying57,
  a39 := Tryd.isAgg57,
  z39 := Tryd.sizeOf57,
  v39 := Tryd.zeroValue57,
  t45 := Tryd.underlying120,
  a45 := Tryd.isAgg120,
  z45 := Tryd.sizeOf120,
  v45 := Tryd.zeroValue120,
  t46 := Tryd.underlying121,
  a46 := Tryd.isAgg121,
  z46 := Tryd.sizeOf121,
  v46 := Tryd.zeroValue121,
  t50 := Tryd.underlying36,
  a50 := Tryd.isAgg36,
  z50 := Tryd.sizeOf36,
  v50 := Tryd.zeroValue36,
  t53 := Tryd.underlying116,
  a53 := Tryd.isAgg116,
  z53 := Tryd.sizeOf116,
  v53 := Tryd.zeroValue116,
  t55 := Tryd.underlying104,
  a55 := Tryd.isAgg104,
  z55 := Tryd.sizeOf104,
  v55 := Tryd.zeroValue104,
  t66 := Tryd.underlying127,
  a66 := Tryd.isAgg127,
  z66 := Tryd.sizeOf127,
  v66 := Tryd.zeroValue127,
  t70 := Tryd.underlying131,
  a70 := Tryd.isAgg131,
  z70 := Tryd.sizeOf131,
  v70 := Tryd.zeroValue131,
  t76 := Tryd.underlying135,
  a76 := Tryd.isAgg135,
  z76 := Tryd.sizeOf135,
  v76 := Tryd.zeroValue135,
  t77 := Tryd.underlying94,
  a77 := Tryd.isAgg94,
  z77 := Tryd.sizeOf94,
  v77 := Tryd.zeroValue94 }
end Go.Proofs.YtjmlfknogjaemaaDoor
/- Page: the hash, as the program and as the document write it: one number. -/
set_option linter.unusedVariables false
set_option linter.unusedSimpArgs false
namespace Go.Proofs.YtjmlfknogjaemaaDoor.Vc
open Go
namespace PG
theorem u16_wrap (x : Int) : IntKind.wrap .u16 x = x % 65536 := by
  simp [IntKind.wrap, IntKind.bits, IntKind.signed]
/-- Where the search for a key begins. -/
def pgHash (key size : Int) : Int := if size < 1 then 0 else (IntKind.wrap .i64 (key * 40503) % 65536) % size
theorem pgHash_range (key : Int) {size : Int} : 0 ≤ pgHash key size ∧ (pgHash key size < size ∨ size < 1 ∧ pgHash key size = 0) := by
  unfold pgHash
  by_cases h : size < 1
  · rw [if_pos h]; exact ⟨by omega, .inr ⟨h, rfl⟩⟩
  · rw [if_neg h]
    exact ⟨Int.emod_nonneg _ (by omega), .inl (Int.emod_lt_of_pos _ (by omega))⟩
theorem tmod_pos {a b : Int} (ha : 0 ≤ a) : Int.tmod a b = a % b := Int.tmod_eq_emod_of_nonneg ha
end PG
end Go.Proofs.YtjmlfknogjaemaaDoor.Vc
