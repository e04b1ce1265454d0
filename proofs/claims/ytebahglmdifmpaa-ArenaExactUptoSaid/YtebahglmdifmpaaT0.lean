/- What is handed in, of any type without maps, pointers and interfaces: read once as plain Lean values. -/
import Derived.Test.YtebahglmdifmpaaS0
import Derived.Test.YtebahglmdifmpaaRows
import Derived.OpenShut
import Derived.ChangeArms
import Derived.ChangeSlices
import Derived.Deep.Slices
import Derived.Laws.Cover2
set_option linter.unusedVariables false
set_option linter.unusedSimpArgs false
namespace Go.Proofs.Ytebahglmdifmpaa.Vc
open Go Go.Deep Go.ChangeShapes Go.WideShapes

inductive Ty where
  | int (k : IntKind) | bool | str | flt (k : FloatKind) | unit | pair (a b : Ty) | sl (e : Ty)
/-- How many cells. -/
def Ty.w : Ty → Nat
  | .unit => 0
  | .pair a b => a.w + b.w
  | _ => 1
abbrev Den : Ty → Type
  | .int _ => Int
  | .bool => Bool
  | .str => ByteArray
  | .flt _ => Nat
  | .unit => Unit
  | .pair a b => Den a × Den b
  | .sl e => List (Den e)
/-- The values cs (and what they lead to, in the blocks F) are d. -/
def In (w : World) : (t : Ty) → List Value → Den t → List Nat → Prop
  | .int k, cs, n, F => cs = [.int k n] ∧ (Lit.int k n).wf = true ∧ F = []
  | .bool, cs, b, F => cs = [.bool b] ∧ F = []
  | .str, cs, s, F => cs = [.string s] ∧ F = []
  | .flt k, cs, n, F => cs = [.float k n] ∧ (Lit.float k n).wf = true ∧ F = []
  | .unit, cs, _, F => cs = [] ∧ F = []
  | .pair a b, cs, d, F => ∃ c1 c2 F1 F2, cs = c1 ++ c2 ∧ F = F1 ++ F2 ∧ c1.length = a.w ∧ In w a c1 d.1 F1 ∧ In w b c2 d.2 F2
  | .sl e, cs, l, F => ∃ A n c, cs = [.slice A n c] ∧ n = l.length ∧ n ≤ c ∧ (A = none → c = 0) ∧ ((n = 0 ∧ F = []) ∨ ∃ (b o : Nat) (Fs : List (List Nat)), A = some ⟨b, o, none⟩ ∧ F = b :: Fs.flatten ∧ Fs.length = n ∧
      ∀ i (h : i < l.length), ∃ es, es.length = e.w ∧ (∀ j, j < e.w → w.cell? ⟨b, o + i * e.w + j, none⟩ = es[j]?) ∧ In w e es l[i] (Fs.getD i []))
/-- How much it is. -/
def wt : (t : Ty) → Den t → Nat
  | .int _, _ => 1
  | .bool, _ => 1
  | .str, s => s.size + 1
  | .flt _, _ => 1
  | .unit, _ => 0
  | .pair a b, d => wt a d.1 + wt b d.2
  | .sl e, l => 1 + (l.map fun x => max 1 (wt e x)).sum
theorem In.len {w : World} : ∀ {t : Ty} {cs : List Value} {d : Den t} {F : List Nat}, In w t cs d F → cs.length = t.w
  | .int k, _, _, _, h => by rw [h.1]; rfl
  | .bool, _, _, _, h => by rw [h.1]; rfl
  | .str, _, _, _, h => by rw [h.1]; rfl
  | .flt k, _, _, _, h => by rw [h.1]; rfl
  | .unit, _, _, _, h => by rw [h.1]; rfl
  | .pair a b, _, _, _, h => by
    obtain ⟨c1, c2, F1, F2, rfl, rfl, h1, h2, h3⟩ := h
    rw [List.length_append, h1, h3.len]; rfl
  | .sl e, _, _, _, h => by
    obtain ⟨A, n, c, rfl, _⟩ := h
    rfl
theorem flat_mem {Fs : List (List Nat)} {i x : Nat} (h : x ∈ Fs.getD i []) : x ∈ Fs.flatten := by
  rw [List.getD_eq_getElem?_getD] at h
  cases hi : Fs[i]? with
  | none => rw [hi] at h; simp at h
  | some l =>
    rw [hi] at h
    exact List.mem_flatten.2 ⟨l, List.mem_of_getElem? hi, h⟩
theorem In.fr {S : List Nat} {w w' : World} (hf : Fr S w w') : ∀ {t : Ty} {cs : List Value} {d : Den t} {F : List Nat}, In w t cs d F → (∀ x ∈ F, x ∉ S) → In w' t cs d F
  | .int k, _, _, _, h, _ => h
  | .bool, _, _, _, h, _ => h
  | .str, _, _, _, h, _ => h
  | .flt k, _, _, _, h, _ => h
  | .unit, _, _, _, h, _ => h
  | .pair a b, _, _, _, h, hS => by
    obtain ⟨c1, c2, F1, F2, rfl, rfl, h1, h2, h3⟩ := h
    exact ⟨c1, c2, F1, F2, rfl, rfl, h1, h2.fr hf (fun x hx => hS x (by simp [hx])), h3.fr hf (fun x hx => hS x (by simp [hx]))⟩
  | .sl e, _, _, _, h, hS => by
    obtain ⟨A, n, c, rfl, hn, hc, hA, h⟩ := h
    refine ⟨A, n, c, rfl, hn, hc, hA, ?_⟩
    rcases h with h | ⟨b, o, Fs, rfl, rfl, hl, h⟩
    · exact .inl h
    · refine .inr ⟨b, o, Fs, rfl, rfl, hl, fun i hi => ?_⟩
      obtain ⟨es, e1, e2, e3⟩ := h i hi
      refine ⟨es, e1, fun j hj => ?_, e3.fr hf (fun x hx => hS x (List.mem_cons_of_mem _ (flat_mem hx)))⟩
      have hv : w.cell? ⟨b, o + i * e.w + j, none⟩ = some es[j] := by rw [e2 j hj]; exact List.getElem?_eq_getElem _
      have hb := World.block_lt_of_cell? w _ hv
      have hbl := hf.2 b hb (hS b (by simp))
      rw [← e2 j hj]
      simp only [World.cell?]
      rw [hbl]
theorem In.lt {w : World} : ∀ {t : Ty} {cs : List Value} {d : Den t} {F : List Nat}, (∀ e, t = .sl e → True) → (0 < 1) → In w t cs d F → True
  | _, _, _, _, _, _, _ => trivial
def Den.dflt : (t : Ty) → Den t
  | .int _ => (0 : Int)
  | .bool => false
  | .str => (ByteArray.empty : ByteArray)
  | .flt _ => (0 : Nat)
  | .unit => ()
  | .pair a b => (Den.dflt a, Den.dflt b)
  | .sl _ => []
instance {t : Ty} : Inhabited (Den t) := ⟨Den.dflt t⟩

/-! ### Opening -/
def arrTy (ty : Ty) : Nat → Ty
  | 0 => .unit
  | n + 1 => .pair ty (arrTy ty n)
theorem arrTy_w (ty : Ty) : ∀ n, (arrTy ty n).w = n * ty.w
  | 0 => by simp [arrTy, Ty.w]
  | n + 1 => by simp only [arrTy, Ty.w, arrTy_w ty n, Nat.add_mul]; omega
mutual
def tyOf (P : Program) : Nat → TypeId → Option Ty
  | 0, _ => none
  | fuel + 1, t => match P.underlying t with
    | some (.int k) => some (.int k)
    | some .bool => some .bool
    | some .string => some .str
    | some (.float k) => some (.flt k)
    | some (.slice e) => match tyOf P fuel e with
      | some ty => match Nat.beq (P.cellsOf e) ty.w, Nat.blt 0 ty.w with
        | true, true => some (.sl ty)
        | _, _ => none
      | none => none
    | some (.struct fs) => match tyFields P fuel fs.toList 0 with
      | some ty => match Nat.beq (P.cellsOf t) ty.w with
        | true => some ty
        | false => none
      | none => none
    | some (.array n e) => match tyOf P fuel e with
      | some ty => match Nat.beq (P.cellsOf e) ty.w, Nat.beq (P.cellsOf t) (n * ty.w) with
        | true, true => some (arrTy ty n)
        | _, _ => none
      | none => none
    | _ => none
def tyFields (P : Program) : Nat → List Field → Nat → Option Ty
  | 0, _, _ => none
  | _ + 1, [], _ => some .unit
  | fuel + 1, f :: fs, off => match Nat.beq f.offset off, tyOf P fuel f.type with
    | true, some a => match Nat.beq (P.cellsOf f.type) a.w, tyFields P fuel fs (off + a.w) with
      | true, some b => some (.pair a b)
      | _, _ => none
    | _, _ => none
end
theorem bulk_pos {H : Type} (d : DataW H) : 1 ≤ Rows.uptoBulk d := by
  cases d with
  | lit l => cases l <;> simp [Rows.uptoBulk]
  | _ => simp [Rows.uptoBulk]
theorem bulk_sum {H : Type} {e : Ty} : ∀ (ds : List (DataW H)) (l : List (Den e)), ds.length = l.length → (∀ i (h : i < l.length) (h' : i < ds.length), wt e l[i] ≤ Rows.uptoBulk ds[i]) → (l.map fun x => max 1 (wt e x)).sum ≤ Rows.uptoBulkAll ds
  | [], [], _, _ => by simp [Rows.uptoBulkAll]
  | d :: ds, x :: l, hl, h => by
    have h0 := h 0 (by simp) (by simp)
    have h1 := bulk_sum ds l (by simpa using hl) (fun i hi hi' => h (i + 1) (by simpa using hi) (by simpa using hi'))
    have := bulk_pos d
    simp only [List.getElem_cons_zero] at h0
    simp only [List.map_cons, List.sum_cons, Rows.uptoBulkAll]
    omega
  | [], _ :: _, h, _ => by simp at h
  | _ :: _, [], h, _ => by simp at h
section
variable {H : Type} {enc : TypeId × Value → H} {P : Program} {w : World} {base : Nat} {spare : Nat → Bool} {held : Bool}
abbrev Opens (enc : TypeId × Value → H) (P : Program) (w : World) (base : Nat) (spare : Nat → Bool) (held : Bool) (t : TypeId) (ty : Ty) : Prop :=
  ∀ (n : Nat) (cs : List Value) (x : DataW H × List MemPlace), DataW.trod enc P w base spare held n t cs = some x → ∃ (d : Den ty) (F : List Nat), In w ty cs d F ∧ wt ty d ≤ Rows.uptoBulk x.1
theorem trod_flt {fuel : Nat} {t : TypeId} {cs : List Value} {x : DataW H × List MemPlace} {k : FloatKind} (ht : P.underlying t = some (.float k)) (h : DataW.trod enc P w base spare held fuel t cs = some x) : ∃ n, cs = [.float k n] ∧ x = (.lit (.float k n), []) ∧ (Lit.float k n).wf = true := by
  cases fuel with
  | zero => simp [DataW.trod] at h
  | succ n =>
    unfold DataW.trod at h
    rw [ht] at h
    split at h <;> simp_all
theorem opens_arr {e : TypeId} {ty : Ty} (ho : Opens enc P w base spare held e ty) {m : Nat} {cs : List Value} {xs : List (DataW H × List MemPlace)} : ∀ (n k : Nat), cs.length = (k + n) * ty.w → xs.length = k + n →
    (∀ i, k ≤ i → i < k + n → DataW.trod enc P w base spare held m e ((cs.drop (i * ty.w)).take ty.w) = xs[i]?) → ∃ (d : Den (arrTy ty n)) (F : List Nat), In w (arrTy ty n) (cs.drop (k * ty.w)) d F ∧ wt (arrTy ty n) d ≤ Rows.uptoBulkAll ((xs.drop k).map (·.1))
  | 0, k, hl, hx, h => ⟨(), [], ⟨List.drop_eq_nil_of_le (by simp at hl; omega), rfl⟩, by simp [arrTy, wt]⟩
  | n + 1, k, hl, hx, h => by
    have hk := h k (Nat.le_refl _) (by omega)
    rw [List.getElem?_eq_getElem (by omega)] at hk
    obtain ⟨d1, F1, h1, h2⟩ := ho _ _ _ hk
    obtain ⟨d2, F2, h3, h4⟩ := opens_arr ho n (k + 1) (by rw [hl]; congr 1; omega) (by omega) (fun i hi hi' => h i (by omega) (by omega))
    refine ⟨(d1, d2), F1 ++ F2, ⟨_, _, F1, F2, ?_, rfl, h1.len, h1, h3⟩, ?_⟩
    · rw [show (k + 1) * ty.w = k * ty.w + ty.w by rw [Nat.add_mul]; omega, ← List.drop_drop, List.take_append_drop]
    · simp only [arrTy, wt]
      rw [List.drop_eq_getElem_cons (show k < xs.length by omega), List.map_cons, Rows.uptoBulkAll]
      omega
theorem opens_fields {m : Nat} {cs : List Value} : ∀ (fuel : Nat) (fs : List Field) (off : Nat) (ty : Ty), (∀ fuel' t ty, fuel' < fuel → tyOf P fuel' t = some ty → Opens enc P w base spare held t ty) → tyFields P fuel fs off = some ty → cs.length = off + ty.w →
    ∀ xs : List (DataW H × List MemPlace), xs.length = fs.length → (∀ (i : Nat) (f : Field), fs[i]? = some f → DataW.trod enc P w base spare held m f.type ((cs.drop f.offset).take (P.cellsOf f.type)) = xs[i]?) →
    ∃ (d : Den ty) (F : List Nat), In w ty (cs.drop off) d F ∧ wt ty d ≤ Rows.uptoBulkAll (xs.map (·.1))
  | 0, _, _, _, _, h, _, _, _, _ => by simp [tyFields] at h
  | fuel + 1, [], off, ty, ih, h, hl, xs, hx, hf => by
    simp only [tyFields, Option.some.injEq] at h
    subst h
    exact ⟨(), [], ⟨List.drop_eq_nil_of_le (by simp [Ty.w] at hl; omega), rfl⟩, by simp [wt]⟩
  | fuel + 1, f :: fs, off, ty, ih, h, hl, xs, hx, hf => by
    rw [tyFields] at h
    split at h
    · rename_i a ho ha
      split at h
      · rename_i b hc hb
        injection h with h
        subst h
        have ho := Nat.eq_of_beq_eq_true ho
        have hc := Nat.eq_of_beq_eq_true hc
        subst ho
        obtain ⟨y, ys, rfl⟩ : ∃ y ys, xs = y :: ys := by
          cases xs with
          | nil => simp at hx
          | cons y ys => exact ⟨y, ys, rfl⟩
        have h0 := hf 0 f rfl
        rw [hc] at h0
        obtain ⟨d1, F1, k1, k2⟩ := ih fuel _ _ (by omega) ha _ _ _ h0
        simp only [Ty.w] at hl
        obtain ⟨d2, F2, k3, k4⟩ := opens_fields fuel fs (f.offset + a.w) b (fun fuel' t ty hlt => ih fuel' t ty (by omega)) hb (by omega) ys (by simpa using hx) (fun i g hg => hf (i + 1) g (by simpa using hg))
        refine ⟨(d1, d2), F1 ++ F2, ⟨_, _, F1, F2, ?_, rfl, k1.len, k1, k3⟩, ?_⟩
        · rw [← List.drop_drop, List.take_append_drop]
        · simp only [wt, List.map_cons, Rows.uptoBulkAll]
          omega
      · cases h
    · cases h
theorem opens : ∀ (fuel : Nat) (t : TypeId) (ty : Ty), tyOf P fuel t = some ty → Opens enc P w base spare held t ty := by
  intro fuel
  induction fuel using Nat.strongRecOn with
  | _ fuel ih =>
    intro t ty h n cs x hx
    cases fuel with
    | zero => simp [tyOf] at h
    | succ fuel =>
      rw [tyOf] at h
      split at h
      · rename_i k hu
        injection h with h; subst h
        obtain ⟨n, rfl, rfl, hw⟩ := DataW.trod_int hu hx
        exact ⟨n, [], ⟨rfl, hw, rfl⟩, by simp [wt, Rows.uptoBulk]⟩
      · rename_i hu
        injection h with h; subst h
        obtain ⟨b, rfl, rfl⟩ := DataW.trod_bool hu hx
        exact ⟨b, [], ⟨rfl, rfl⟩, by simp [wt, Rows.uptoBulk]⟩
      · rename_i hu
        injection h with h; subst h
        obtain ⟨s, rfl, rfl, hw⟩ := DataW.trod_string hu hx
        exact ⟨s, [], ⟨rfl, rfl⟩, by show s.size + 1 ≤ s.data.toList.length + 1; rw [Array.length_toList]; exact Nat.le_refl _⟩
      · rename_i k hu
        injection h with h; subst h
        obtain ⟨b, rfl, rfl, hw⟩ := trod_flt hu hx
        exact ⟨b, [], ⟨rfl, hw, rfl⟩, by simp [wt, Rows.uptoBulk]⟩
      · rename_i e hu
        split at h
        · rename_i ty' hty
          split at h
          · rename_i h1 h2
            injection h with h; subst h
            have h1 := Nat.eq_of_beq_eq_true h1
            rcases DataW.trod_slice hu hx with ⟨rfl, rfl⟩ | ⟨a, len, cap, elems, rest, n, rfl, rfl, rfl, hb, hl, hm, hlen, hel, hsp, hns⟩
            · exact ⟨[], [], ⟨none, 0, 0, rfl, rfl, Nat.le_refl _, fun _ => rfl, .inl ⟨rfl, rfl⟩⟩, by simp [wt, Rows.uptoBulk]⟩
            · have hz : ∀ i, i < len → ∃ q : Den ty' × List Nat, ∃ es, es.length = ty'.w ∧ (∀ j, j < ty'.w → w.cell? ((a.add (i * ty'.w)).add j) = es[j]?) ∧ In w ty' es q.1 q.2 ∧ ∀ hi : i < elems.length, wt ty' q.1 ≤ Rows.uptoBulk elems[i].1 := by
                intro i hi
                have he := hel i hi
                rw [List.getElem?_eq_getElem (by omega)] at he
                obtain ⟨es, c1, c2⟩ := Option.bind_eq_some_iff.1 he
                obtain ⟨_, l1, l2⟩ := World.cells?_some c1
                rw [h1] at l1 l2
                obtain ⟨d, F, k1, k2⟩ := ih fuel (by omega) e ty' hty _ _ _ c2
                exact ⟨(d, F), es, l1, l2, k1, fun _ => k2⟩
              obtain ⟨q, hq⟩ := choose_lt hz
              have hlq : ((List.range len).map fun i => (q i).1).length = len := by simp
              refine ⟨(List.range len).map fun i => (q i).1, if len = 0 then [] else a.block :: ((List.range len).map fun i => (q i).2).flatten, ⟨some a, len, cap, rfl, by simp, hl, by simp, ?_⟩, ?_⟩
              · by_cases h0 : len = 0
                · exact .inl ⟨h0, by rw [if_pos h0]⟩
                · have hspot : a.spot = none := by
                    obtain ⟨es, e1, e2, _⟩ := hq 0 (by omega)
                    have h3 := e2 0 (Nat.lt_of_not_le (by simp at h2; omega))
                    rw [List.getElem?_eq_getElem (by rw [e1]; simp at h2; omega)] at h3
                    have := World.cell?_spot h3
                    simpa [Addr.add] using this
                  obtain ⟨b, o, sp⟩ := a
                  simp only at hspot
                  subst hspot
                  refine .inr ⟨b, o, (List.range len).map fun i => (q i).2, rfl, by rw [if_neg h0], by simp, fun i hi => ?_⟩
                  rw [hlq] at hi
                  obtain ⟨es, e1, e2, e3, _⟩ := hq i hi
                  refine ⟨es, e1, fun j hj => ?_, ?_⟩
                  · have := e2 j hj
                    rw [add_plain, add_plain] at this
                    exact this
                  · simpa [List.getD_eq_getElem?_getD, hi] using e3
              · simp only [wt, Rows.uptoBulk]
                have := bulk_sum (elems.map (·.1)) ((List.range len).map fun i => (q i).1) (by simp [hlen]) (fun i hi hi' => by
                  simp only [List.length_map, List.length_range] at hi hi'
                  obtain ⟨_, _, _, _, h5⟩ := hq i hi
                  simpa using h5 hi')
                omega
          · cases h
        · cases h
      · rename_i fs hu
        split at h
        · rename_i ty' hty
          split at h
          · rename_i hc
            injection h with h; subst h
            have hc := Nat.eq_of_beq_eq_true hc
            obtain ⟨xs, m, rfl, rfl, hl, hxl, hf⟩ := DataW.trod_struct hu hx
            obtain ⟨d, F, k1, k2⟩ := opens_fields (enc := enc) (w := w) (base := base) (spare := spare) (held := held) (m := m) (cs := cs) fuel fs.toList 0 ty' (fun fuel' t ty hlt => ih fuel' (by omega) t ty) hty (by omega) xs (by simpa using hxl) (fun i f hi => hf i f (by simpa using hi))
            exact ⟨d, F, k1, by simp only [Rows.uptoBulk]; omega⟩
          · cases h
        · cases h
      · rename_i n' e hu
        split at h
        · rename_i ty' hty
          split at h
          · rename_i h1 h2
            injection h with h; subst h
            have h1 := Nat.eq_of_beq_eq_true h1
            have h2 := Nat.eq_of_beq_eq_true h2
            obtain ⟨xs, m, rfl, rfl, hl, hxl, hf⟩ := DataW.trod_array hu hx
            rw [h1] at hf
            obtain ⟨d, F, k1, k2⟩ := opens_arr (cs := cs) (xs := xs) (m := m) (ih fuel (by omega) e ty' hty) n' 0 (by rw [hl, h2, Nat.zero_add]) (by omega) (fun i _ hi => hf i (by omega))
            refine ⟨d, F, by simpa using k1, ?_⟩
            simp only [Rows.uptoBulk]
            simp at k2
            omega
          · cases h
        · cases h
      · cases h
end
end Go.Proofs.Ytebahglmdifmpaa.Vc
