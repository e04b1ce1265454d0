/- Graphs that are handed in. -/
import Derived.Test.YtjmlfknogjaemaaDoorM7
import Derived.Test.YtjmlfknogjaemaaDoorM30
set_option linter.unusedVariables false
namespace Go.Proofs.YtjmlfknogjaemaaDoor.Vc
open Go Go.Deep Go.ChangeShapes Go.WideShapes Go.Proofs.YtjmlfknogjaemaaDoor.PG Vc.PG
abbrev graphTy : Ty := .pair (.sl .str) (.pair (.sl .str) (.pair (.sl .str) (.pair (.sl (.int .i64)) (.pair (.sl (.int .i64)) (.pair (.sl (.sl (.int .u16))) .unit)))))
theorem In.one {w : World} {e : Ty} {cs : List Value} {l : List (Den e)} {F : List Nat} (h : In w (.sl e) cs l F) : ∃ x : Sl, cs = [x.v] ∧ In w (.sl e) [x.v] l F := by
  obtain ⟨A, n, c, rfl, h2⟩ := h
  exact ⟨(A, n, c), rfl, A, n, c, rfl, h2⟩
theorem wf_u16 {z : Int} (h : (Lit.int .u16 z).wf = true) : 0 ≤ z ∧ z < 65536 := by
  have h2 : (decide (IntKind.min .u16 ≤ z) && decide (z ≤ IntKind.max .u16)) = true := h
  simp [IntKind.min, IntKind.max, IntKind.signed, IntKind.bits] at h2
  omega
theorem In.u16s {w : World} {A : Option Addr} {n c : Nat} {l : List Int} {F : List Nat} (h : In w (.sl (.int .u16)) [.slice A n c] l F) : InU w A n l ∧ ∀ x ∈ l, 0 ≤ x ∧ x < 65536 := by
  obtain ⟨h1, _, h2⟩ := h.elems
  have each : ∀ (b o : Nat), (∀ i (h : i < l.length), ∃ es G, es.length = (Ty.int .u16).w ∧ (∀ j, j < (Ty.int .u16).w → w.cell? ⟨b, o + i * (Ty.int .u16).w + j, none⟩ = es[j]?) ∧ In w (.int .u16) es l[i] G ∧ ∀ x ∈ G, x ∈ F) → ∀ i (h : i < l.length), w.cell? ⟨b, o + i, none⟩ = some (.int .u16 (l.getD i 0)) ∧ 0 ≤ l.getD i 0 ∧ l.getD i 0 < 65536 := by
    intro b o h3 i hi
    obtain ⟨es, G, e1, e2, ⟨e3, e4, _⟩, _⟩ := h3 i hi
    have h4 := e2 0 (by decide)
    rw [e3] at h4
    have e5 : l.getD i 0 = l[i] := by simp [List.getD_eq_getElem?_getD, hi]
    rw [e5]
    refine ⟨?_, wf_u16 e4⟩
    simpa [Ty.w] using h4
  refine ⟨⟨h1, fun hn => ?_⟩, fun x hx => ?_⟩
  · obtain ⟨b, o, rfl, h3⟩ := h2 hn
    exact ⟨b, o, rfl, fun i hi => (each b o h3 i (by omega)).1⟩
  · obtain ⟨i, hi, rfl⟩ := (mem_getD 0 _ _).1 hx
    obtain ⟨b, o, _, h3⟩ := h2 (by omega)
    exact (each b o h3 i hi).2
theorem In.rows {w : World} {A : Option Addr} {n c : Nat} {M : List (List Int)} {F : List Nat} (h : In w (.sl (.sl (.int .u16))) [.slice A n c] M F) : InM w A n M ∧ ∀ r ∈ M, ∀ x ∈ r, 0 ≤ x ∧ x < 65536 := by
  obtain ⟨h1, _, h2⟩ := h.elems
  have each : ∀ (b o : Nat), (∀ i (h : i < M.length), ∃ es G, es.length = (Ty.sl (.int .u16)).w ∧ (∀ j, j < (Ty.sl (.int .u16)).w → w.cell? ⟨b, o + i * (Ty.sl (.int .u16)).w + j, none⟩ = es[j]?) ∧ In w (.sl (.int .u16)) es M[i] G ∧ ∀ x ∈ G, x ∈ F) → ∀ i (h : i < M.length), (∃ B k c, w.cell? ⟨b, o + i, none⟩ = some (.slice B k c) ∧ InU w B k (M.getD i [])) ∧ ∀ x ∈ M.getD i [], 0 ≤ x ∧ x < 65536 := by
    intro b o h3 i hi
    obtain ⟨es, G, e1, e2, e3, _⟩ := h3 i hi
    have h4 := e2 0 (by decide)
    obtain ⟨x, rfl, e6⟩ := In.one e3
    have e5 : M.getD i [] = M[i] := by simp [List.getD_eq_getElem?_getD, hi]
    rw [e5]
    obtain ⟨e7, e8⟩ := In.u16s e6
    exact ⟨⟨x.1, x.2.1, x.2.2, by simpa [Ty.w] using h4, e7⟩, e8⟩
  refine ⟨⟨h1, fun hn => ?_⟩, fun r hr => ?_⟩
  · obtain ⟨b, o, rfl, h3⟩ := h2 hn
    exact ⟨b, o, rfl, fun i hi => (each b o h3 i (by have : n = M.length := h1; omega)).1⟩
  · obtain ⟨i, hi, rfl⟩ := (mem_getD [] _ _).1 hr
    have hi' : i < M.length := hi
    have h1' : n = M.length := h1
    obtain ⟨b, o, _, h3⟩ := h2 (by omega)
    exact (each b o h3 i hi).2
theorem In.cap {w : World} {e : Ty} {x : Sl} {l : List (Den e)} {F : List Nat} (h : In w (.sl e) [x.v] l F) : x.2.1 ≤ x.2.2 := h.elems.2.1
theorem inGraph {w : World} {cs : List Value} {g : Gd} {F : List Nat} (h : In w graphTy cs g F) : ∃ v : GV, cs = v.cells.toList ∧ InG w v g := by
  obtain ⟨c1, k1, _, _, rfl, _, _, h1, h⟩ := h
  obtain ⟨c2, k2, _, _, rfl, _, _, h2, h⟩ := h
  obtain ⟨c3, k3, _, _, rfl, _, _, h3, h⟩ := h
  obtain ⟨c4, k4, _, _, rfl, _, _, h4, h⟩ := h
  obtain ⟨c5, k5, _, _, rfl, _, _, h5, h⟩ := h
  obtain ⟨c6, k6, _, _, rfl, _, _, h6, h⟩ := h
  obtain ⟨rfl, _⟩ := h
  obtain ⟨x1, rfl, h1⟩ := In.one h1
  obtain ⟨x2, rfl, h2⟩ := In.one h2
  obtain ⟨x3, rfl, h3⟩ := In.one h3
  obtain ⟨x4, rfl, h4⟩ := In.one h4
  obtain ⟨x5, rfl, h5⟩ := In.one h5
  obtain ⟨x6, rfl, h6⟩ := In.one h6
  obtain ⟨r1, r2⟩ := In.rows h6
  exact ⟨⟨x1, x2, x3, x4, x5, x6⟩, rfl, ⟨In.strs h1, In.cap h1⟩, ⟨In.strs h2, In.cap h2⟩, ⟨In.strs h3, In.cap h3⟩, ⟨In.ints h4, In.cap h4⟩, ⟨In.ints h5, In.cap h5⟩, ⟨r1, In.cap h6⟩, r2⟩
theorem wt_row : ∀ {M : List (List Int)} {r : List Int}, r ∈ M → (wt (.sl (.int .u16)) r) ≤ (M.map fun x => max 1 (wt (.sl (.int .u16)) x)).sum
  | m :: M, r, h => by
    rw [List.map_cons, List.sum_cons]
    rcases List.mem_cons.1 h with rfl | h
    · omega
    · have := wt_row h; omega
theorem smallGraph {w : World} {v : GV} {g : Gd} (h : InG w v g) (hk : wt graphTy g ≤ 1048576) : SmallG v g := by
  obtain ⟨l1, l2, l3, l4, l5, l6, _⟩ := g
  have hk : wt (.sl .str) l1 + (wt (.sl .str) l2 + (wt (.sl .str) l3 + (wt (.sl (.int .i64)) l4 + (wt (.sl (.int .i64)) l5 + (wt (.sl (.sl (.int .u16))) l6 + 0))))) ≤ 1048576 := hk
  have a1 := wt_len (e := .str) l1
  have a2 := wt_len (e := .str) l2
  have a3 := wt_len (e := .str) l3
  have a4 := wt_len (e := .int .i64) l4
  have a5 := wt_len (e := .int .i64) l5
  have a6 := wt_len (e := .sl (.int .u16)) l6
  have e1 : v.a.2.1 = l1.length := h.a.1.1
  have e2 : v.s.2.1 = l2.length := h.s.1.1
  have e3 : v.o.2.1 = l3.length := h.o.1.1
  have e4 : v.f.2.1 = l4.length := h.f.1.1
  have e5 : v.n.2.1 = l5.length := h.n.1.1
  have e6 : v.m.2.1 = l6.length := h.m.1.1
  refine ⟨⟨by omega, by omega, by omega, by omega, by omega, by omega⟩, fun r hr => ?_⟩
  have hr : r ∈ l6 := hr
  have h1 := wt_row hr
  have h2 := wt_len (e := .int .u16) r
  have h3 : wt (.sl (.sl (.int .u16))) l6 = 1 + (l6.map fun x => max 1 (wt (.sl (.int .u16)) x)).sum := rfl
  omega
end Go.Proofs.YtjmlfknogjaemaaDoor.Vc
