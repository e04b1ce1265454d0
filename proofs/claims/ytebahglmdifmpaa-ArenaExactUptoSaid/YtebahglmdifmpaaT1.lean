/- Lists that are handed in, as the walks read them; what is common to the claims' last texts. -/
import Derived.Test.YtebahglmdifmpaaT0
import Derived.WalkKit
import Derived.ProofKit
import Derived.JoinedCond
import Derived.Carry
import Derived.Test.YtebahglmdifmpaaG0
set_option linter.unusedVariables false
set_option linter.unusedSimpArgs false
namespace Go.Proofs.Ytebahglmdifmpaa.Vc
open Go Go.Deep Go.ChangeShapes Go.WideShapes
theorem sum_len {α : Type} (f : α → Nat) : ∀ l : List α, l.length ≤ (l.map fun x => max 1 (f x)).sum
  | [] => by simp
  | x :: l => by
    have := sum_len f l
    simp only [List.map_cons, List.sum_cons, List.length_cons]; omega
theorem wt_len {e : Ty} (l : List (Den e)) : l.length + 1 ≤ wt (.sl e) l := by
  have := sum_len (wt e) l
  simp only [wt]; omega
theorem sum_mem {α : Type} (f : α → Nat) : ∀ (l : List α) (x : α), x ∈ l → f x ≤ (l.map fun x => max 1 (f x)).sum
  | y :: l, x, h => by
    simp only [List.map_cons, List.sum_cons]
    rcases List.mem_cons.1 h with rfl | h
    · omega
    · have := sum_mem f l x h; omega
theorem wt_mem {e : Ty} {l : List (Den e)} {x : Den e} (h : x ∈ l) : wt e x < wt (.sl e) l := by
  have := sum_mem (wt e) l x h
  simp only [wt]; omega
/-- A list that was handed in, element by element. -/
theorem In.elems {w : World} {e : Ty} {A : Option Addr} {n c : Nat} {l : List (Den e)} {F : List Nat} (h : In w (.sl e) [.slice A n c] l F) :
    n = l.length ∧ n ≤ c ∧ (0 < n → ∃ b o, A = some ⟨b, o, none⟩ ∧ ∀ i (h : i < l.length), ∃ es G, es.length = e.w ∧ (∀ j, j < e.w → w.cell? ⟨b, o + i * e.w + j, none⟩ = es[j]?) ∧ In w e es l[i] G ∧ ∀ x ∈ G, x ∈ F) := by
  obtain ⟨A', n', c', he, h1, h2, _, h3⟩ := h
  simp only [List.cons.injEq, Value.slice.injEq, and_true] at he
  obtain ⟨rfl, rfl, rfl⟩ := he
  refine ⟨h1, h2, fun hn => ?_⟩
  rcases h3 with ⟨h3, _⟩ | ⟨b, o, Fs, rfl, rfl, h4, h5⟩
  · omega
  · refine ⟨b, o, rfl, fun i hi => ?_⟩
    obtain ⟨es, e1, e2, e3⟩ := h5 i hi
    exact ⟨es, _, e1, e2, e3, fun x hx => List.mem_cons_of_mem _ (flat_mem hx)⟩
/-- The cells of a record whose fields are plain. -/
def flatV : (t : Ty) → Den t → List Value
  | .int k, n => [.int k n]
  | .bool, b => [.bool b]
  | .str, s => [.string s]
  | .flt k, n => [.float k n]
  | .unit, _ => []
  | .pair a b, d => flatV a d.1 ++ flatV b d.2
  | .sl _, _ => [.nilIface]
def flatB : Ty → Bool
  | .pair a b => flatB a && flatB b
  | .sl _ => false
  | _ => true
theorem In.flat {w : World} : ∀ {t : Ty} {cs : List Value} {d : Den t} {F : List Nat}, flatB t = true → In w t cs d F → cs = flatV t d
  | .int k, _, _, _, _, h => h.1
  | .bool, _, _, _, _, h => h.1
  | .str, _, _, _, _, h => h.1
  | .flt k, _, _, _, _, h => h.1
  | .unit, _, _, _, _, h => h.1
  | .pair a b, _, _, _, hb, h => by
    simp only [flatB, Bool.and_eq_true] at hb
    obtain ⟨c1, c2, F1, F2, rfl, rfl, _, h1, h2⟩ := h
    rw [h1.flat hb.1, h2.flat hb.2]; rfl
/-- A list of plain records that was handed in. -/
def InR (w : World) (s : Nat) (A : Option Addr) (n : Nat) (rs : List (List Value)) : Prop :=
  n = rs.length ∧ (0 < n → ∃ b o, A = some ⟨b, o, none⟩ ∧ ∀ i, i < n → ∀ j, j < s → w.cell? ⟨b, o + i * s + j, none⟩ = (rs.getD i [])[j]?)
theorem In.recs {w : World} {e : Ty} {A : Option Addr} {n c : Nat} {l : List (Den e)} {F : List Nat} (hf : flatB e = true) (h : In w (.sl e) [.slice A n c] l F) : InR w e.w A n (l.map (flatV e)) := by
  obtain ⟨h1, _, h2⟩ := h.elems
  refine ⟨by simpa using h1, fun hn => ?_⟩
  obtain ⟨b, o, rfl, h3⟩ := h2 hn
  refine ⟨b, o, rfl, fun i hi j hj => ?_⟩
  obtain ⟨es, G, e1, e2, e3, _⟩ := h3 i (by omega)
  rw [e2 j hj, e3.flat hf]
  have : i < l.length := by omega
  simp [List.getD_eq_getElem?_getD, this]
theorem InR.fr {S : List Nat} {w w' : World} {s : Nat} {A : Option Addr} {n : Nat} {rs : List (List Value)} (h : InR w s A n rs) (hl : ∀ r ∈ rs, r.length = s) (hf : Fr [] w w') : InR w' s A n rs := by
  refine ⟨h.1, fun hn => ?_⟩
  obtain ⟨b, o, rfl, h2⟩ := h.2 hn
  refine ⟨b, o, rfl, fun i hi j hj => ?_⟩
  have hr : (rs.getD i []).length = s := by
    have : i < rs.length := by have := h.1; omega
    rw [List.getD_eq_getElem?_getD, List.getElem?_eq_getElem this]
    exact hl _ (List.getElem_mem this)
  have h3 := h2 i hi j hj
  rw [List.getElem?_eq_getElem (by omega)] at h3 ⊢
  exact hf.cell h3
theorem In.ints {w : World} {A : Option Addr} {n c : Nat} {l : List Int} {F : List Nat} (h : In w (.sl (.int .i64)) [.slice A n c] l F) :
    n = l.length ∧ (0 < n → ∃ b o, A = some ⟨b, o, none⟩ ∧ ∀ i, i < n → w.cell? ⟨b, o + i, none⟩ = some (.int .i64 (l.getD i 0))) := by
  obtain ⟨h1, _, h2⟩ := h.elems
  refine ⟨h1, fun hn => ?_⟩
  obtain ⟨b, o, rfl, h3⟩ := h2 hn
  refine ⟨b, o, rfl, fun i hi => ?_⟩
  have hi2 : i < l.length := by omega
  obtain ⟨es, G, e1, e2, ⟨rfl, _, _⟩, _⟩ := h3 i hi2
  have := e2 0 (by decide)
  simp only [Ty.w, Nat.mul_one, Nat.add_zero] at this
  rw [this]
  simp [List.getD_eq_getElem?_getD, hi2]
theorem In.strs {w : World} {A : Option Addr} {n c : Nat} {l : List ByteArray} {F : List Nat} (h : In w (.sl .str) [.slice A n c] l F) :
    n = l.length ∧ (0 < n → ∃ b o, A = some ⟨b, o, none⟩ ∧ ∀ i, i < n → w.cell? ⟨b, o + i, none⟩ = some (.string (l.getD i ByteArray.empty))) := by
  obtain ⟨h1, _, h2⟩ := h.elems
  refine ⟨h1, fun hn => ?_⟩
  obtain ⟨b, o, rfl, h3⟩ := h2 hn
  refine ⟨b, o, rfl, fun i hi => ?_⟩
  have hi2 : i < l.length := by omega
  obtain ⟨es, G, e1, e2, ⟨rfl, _⟩, _⟩ := h3 i hi2
  have := e2 0 (by decide)
  simp only [Ty.w, Nat.mul_one, Nat.add_zero] at this
  rw [this]
  simp [List.getD_eq_getElem?_getD, hi2]

/-! ### Claims -/
theorem own : ownKnob Try.prog.godebug = none := by kernel_rfl
theorem laid : laidOutB Try.prog = true := by kernel_rfl
theorem stays {H : Type} {enc : TypeId × Value → H} {t : TypeId} (hr : Try.prog.readableRec t = true) (hrow : t < Try.prog.types.size) {W W' : World} {sp : Nat → Bool} {v : Value} {d : DataW H} {ps : List MemPlace}
    (h : DataW.Trod enc Try.prog W 0 (fun _ => true) true t v d ps) (hf : Fr [] W W') (hlt : ∀ p ∈ ps, p.block < W.heap.size) (hs : ∀ p ∈ ps, sp p.block = true) : DataW.Trod enc Try.prog W' 0 sp true t v d ps := by
  refine WideElems.Trod_stays laid hr hrow h (fun p hp => ?_) hs
  have hb := hf.block p.block (hlt p hp) (by simp)
  cases p with
  | cell b o => exact World.cell?_of_block (w := W) hb
  | map b => exact hb
theorem open_arg {H : Type} {enc : TypeId × Value → H} {W : World} {t : TypeId} {fuel : Nat} {ty : Ty} {v : Value} {d : DataW H} {ps : List MemPlace} (hty : tyOf Try.prog fuel t = some ty)
    (h : DataW.Trod enc Try.prog W 0 (fun _ => true) true t v d ps) : ∃ (x : Den ty) (F : List Nat), In W ty v.cells.toList x F ∧ wt ty x ≤ Rows.uptoBulk d := by
  obtain ⟨n, h⟩ := h
  exact opens fuel t ty hty n _ _ h
end Go.Proofs.Ytebahglmdifmpaa.Vc
