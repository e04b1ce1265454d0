/- Maps of numbers by numbers: what the operations do. -/
import Derived.Test.YtebahglmdifmpaaVcM
import Derived.MapKept
set_option linter.unusedVariables false
set_option linter.unusedSimpArgs false
namespace Go.Proofs.Ytebahglmdifmpaa.Vc
open Go Go.MapKept

def MapIs (w : World) (r : Nat) (l : List (Int × Int)) : Prop :=
  ∃ es clock, w.heap[r]? = some (.map es clock) ∧ es.toList.map (fun e => (e.key, e.val)) = l.map (fun p => ((.int .i64 p.1 : Value), (.int .i64 p.2 : Value))) ∧ Stamped es clock
def idxM (l : List (Int × Int)) (k : Int) : Option Nat := l.findIdx? (fun p => p.1 == k)
def getM (l : List (Int × Int)) (k : Int) : Int := match idxM l k with | some j => (l.getD j (0, 0)).2 | none => 0
def hasM (l : List (Int × Int)) (k : Int) : Bool := (idxM l k).isSome
def putM (l : List (Int × Int)) (k v : Int) : List (Int × Int) := match idxM l k with | some j => l.set j (k, v) | none => l ++ [(k, v)]
def delM (l : List (Int × Int)) (k : Int) : List (Int × Int) := match idxM l k with | some j => l.eraseIdx j | none => l

theorem MapIs.lt {w : World} {r : Nat} {l : List (Int × Int)} (h : MapIs w r l) : r < w.heap.size := by
  obtain ⟨es, c, h, _⟩ := h
  exact (Array.getElem?_eq_some_iff.1 h).1
theorem MapIs.fr {S : List Nat} {w w' : World} {r : Nat} {l : List (Int × Int)} (h : MapIs w r l) (hf : Fr S w w') (hr : r ∉ S) : MapIs w' r l := by
  have hl := h.lt
  obtain ⟨es, c, h, h2⟩ := h
  exact ⟨es, c, by rw [hf.2 r hl hr, h], h2⟩
theorem MapIs.new (w : World) : MapIs (w.alloc (.map #[] 0)) w.heap.size [] := ⟨#[], 0, heap_alloc_new w _, rfl, stamped_empty 0⟩

theorem findNow_ints (k : Int) : ∀ (es : List MapEntry) (l : List (Int × Int)) (i : Nat), es.map (fun e => (e.key, e.val)) = l.map (fun p => ((.int .i64 p.1 : Value), (.int .i64 p.2 : Value))) →
    Instr.findNow (.int .i64) (.int .i64 k) es i = some (match idxM l k with | some j => some (i + j, .int .i64 (l.getD j (0, 0)).2) | none => none)
  | [], [], i, _ => rfl
  | [], _ :: _, _, h => by simp at h
  | _ :: _, [], _, h => by simp at h
  | e :: es, p :: l, i, h => by
    simp only [List.map_cons, List.cons.injEq, Prod.mk.injEq] at h
    obtain ⟨⟨h1, h2⟩, h3⟩ := h
    simp only [Instr.findNow, h1, Instr.sameNow, if_pos]
    by_cases hk : p.1 = k
    · have e1 : (k == p.1) = true := by simp [hk]
      have e2 : idxM (p :: l) k = some 0 := by simp [idxM, List.findIdx?_cons, hk]
      simp [e1, e2, h2]
    · have e1 : (k == p.1) = false := by simp [Ne.symm hk]
      have e2 : idxM (p :: l) k = (idxM l k).map (· + 1) := by simp [idxM, List.findIdx?_cons, hk]
      simp only [e1, e2]
      rw [findNow_ints k es l (i + 1) h3]
      cases idxM l k with
      | none => rfl
      | some j =>
        simp only [Option.map_some]
        have e3 : i + 1 + j = i + (j + 1) := by omega
        rw [e3]
        simp
theorem key_int (k : Int) : IsKey (.int .i64) (.int .i64 k) := by simp [IsKey]

theorem fr_map {w : World} {r : Nat} {es : Array MapEntry} {c : Nat} (h : w.heap[r]? = some (.map es c)) (es' : Array MapEntry) (c' : Nat) : Fr [r] w { w with heap := w.heap.setIfInBounds r (.map es' c') } := by
  refine ⟨by simp, fun b hb hS => (heap_set (o' := .map es' c') h).2 b (by simpa using hS), rfl, rfl, fun a _ => ?_⟩
  obtain ⟨h1, h2⟩ := heap_set (o' := .map es' c') h
  unfold World.frozen?
  by_cases ha : a.block = r
  · simp only [ha, h1, h]
  · simp only [h2 _ ha]
theorem erase_map {α β : Type} (f : α → β) (l : List α) (j : Nat) : (l.eraseIdx j).map f = (l.map f).eraseIdx j := by
  simp [List.eraseIdx_eq_take_drop_succ]
theorem idx_none {es : Array MapEntry} {l : List (Int × Int)} {k : Int} (h2 : es.toList.map (fun e => (e.key, e.val)) = l.map (fun p => ((.int .i64 p.1 : Value), (.int .i64 p.2 : Value)))) (hx : idxM l k = none) : ∀ x ∈ es.toList, x.key ≠ .int .i64 k := by
  intro x hxm he
  have h3 : (x.key, x.val) ∈ es.toList.map (fun e => (e.key, e.val)) := List.mem_map.2 ⟨x, hxm, rfl⟩
  rw [h2] at h3
  obtain ⟨p, hp, he2⟩ := List.mem_map.1 h3
  simp only [Prod.mk.injEq] at he2
  rw [he] at he2
  have h4 : p.1 = k := by simpa using he2.1
  have h5 := List.findIdx?_eq_none_iff.1 hx p hp
  simp [h4] at h5
section
variable {P : Program} {w : World} {r : Nat} {l : List (Int × Int)} {t kt et : TypeId}
theorem map_lookup {i : TypeInfo} (ht : P.underlying t = some (.map kt et)) (hk : P.underlying kt = some (.int .i64)) (hi : P.info? et = some i) (hz : i.zero = some (.int .i64 0)) (h : MapIs w r l) (k : Int) :
    (Instr.lookup t (.map (some r)) (.int .i64 k) true).run P w = .ok (.tuple #[.int .i64 (getM l k), .bool (hasM l k)]) w := by
  obtain ⟨es, c, h, h2, hs⟩ := h
  have hf := run_findKey (w := w) hk (findNow_ints k es.toList l 0 h2)
  simp only [Instr.lookup, Sem.run_bind, run_underlying ht, Result.andThen_ok, Go.MapKept.run_getObj_map h, Sem.run_pure, run_checkKey hk (key_int k), hf]
  cases hx : idxM l k with
  | none => simp [hx, getM, hasM, zeroValue, typeInfo, hi, hz]
  | some j => simp [hx, getM, hasM]
theorem map_put (ht : P.underlying t = some (.map kt et)) (hk : P.underlying kt = some (.int .i64)) (h : MapIs w r l) (k v : Int) :
    ∃ w', (Instr.mapUpdate t (.map (some r)) (.int .i64 k) (.int .i64 v)).run P w = .ok () w' ∧ MapIs w' r (putM l k v) ∧ Fr [r] w w' := by
  obtain ⟨es, c, h, h2, hs⟩ := h
  have hf := run_findKey (w := w) hk (findNow_ints k es.toList l 0 h2)
  have hlen : es.size = l.length := by simpa using congrArg List.length h2
  simp only [Instr.mapUpdate, Sem.run_bind, run_underlying ht, Result.andThen_ok, Go.MapKept.run_getObj_map h, run_checkKey hk (key_int k), hf]
  cases hx : idxM l k with
  | none =>
    simp only [Go.MapKept.run_setObj_map _ h]
    refine ⟨_, rfl, ⟨_, _, (heap_set h).1, ?_, stamped_push hs (idx_none h2 hx)⟩, fr_map h _ _⟩
    simp [putM, hx, h2]
  | some j =>
    have hj := List.findIdx?_eq_some_iff_getElem.mp hx
    obtain ⟨hjl, hjk, _⟩ := hj
    have hje : es.toList.map (fun e => (e.key, e.val)) = l.map (fun p => ((.int .i64 p.1 : Value), (.int .i64 p.2 : Value))) := h2
    have hjs : j < es.size := by omega
    have hkey : es[j].key = .int .i64 k := by
      have := congrArg (fun x => x[j]?) h2
      simp [hjs, hjl] at this
      rw [this.1]
      simpa using hjk
    have hst : (Instr.keyThatStays (((es[0 + j]?).map (·.key)).getD (.int .i64 k)) (.int .i64 k)).run P w = .ok (.int .i64 k) w := by
      simp [hjs, hkey, Instr.keyThatStays, Instr.sameBits]
    simp only [Sem.run_bind, hst, Result.andThen_ok, Go.MapKept.run_setObj_map _ h]
    refine ⟨_, rfl, ⟨_, _, (heap_set h).1, ?_, stamped_modify hs _ _ (fun _ _ => rfl) ?_⟩, fr_map h _ _⟩
    rotate_left
    · intro e _ he
      rw [Nat.zero_add, Array.getElem?_eq_getElem hjs] at he
      injection he with he
      subst he
      exact hkey.symm
    simp only [putM, hx, Nat.zero_add]
    apply List.ext_getElem?
    intro q
    have hq := congrArg (fun x => x[q]?) h2
    simp only [List.getElem?_map, Array.getElem?_toList] at hq
    simp only [List.getElem?_map, Array.getElem?_toList, Array.getElem?_modify, List.getElem?_set]
    by_cases hqj : j = q
    · subst hqj
      simp [hjs, hjl]
    · simp [hqj, hq]
theorem map_del {ty : TypeId} (ht : P.underlying t = some (.map kt et)) (hk : P.underlying kt = some (.int .i64)) (h : MapIs w r l) (k : Int) :
    ∃ w', (Builtin.delete_ #[t, kt] ty #[.map (some r), .int .i64 k]).run P w = .ok (.tuple #[]) w' ∧ MapIs w' r (delM l k) ∧ Fr [r] w w' := by
  obtain ⟨es, c, h, h2, hs⟩ := h
  have hf := run_findKey (w := w) hk (findNow_ints k es.toList l 0 h2)
  have hlen : es.size = l.length := by simpa using congrArg List.length h2
  simp [Builtin.delete_, Sem.run_bind, run_underlying ht, Go.MapKept.run_getObj_map h, run_checkKey hk (key_int k), hf]
  cases hx : idxM l k with
  | none =>
    simp [Go.MapKept.run_setObj_map _ h]
    refine ⟨⟨_, _, (heap_set h).1, ?_, hs⟩, fr_map h _ _⟩
    simp [delM, hx, h2]
  | some j =>
    simp [Go.MapKept.run_setObj_map _ h]
    refine ⟨⟨_, _, (heap_set h).1, ?_, stamped_erase hs j⟩, fr_map h _ _⟩
    have hj := List.findIdx?_eq_some_iff_getElem.mp hx
    obtain ⟨hjl, _⟩ := hj
    simp only [delM, hx]
    have : (es.eraseIdxIfInBounds j).toList = es.toList.eraseIdx j := by
      simp [Array.eraseIdxIfInBounds, hlen, hjl]
    rw [this, erase_map, h2, erase_map]
theorem map_len {ty : TypeId} (ht : P.underlying t = some (.map kt et)) (h : MapIs w r l) : (Builtin.len_ #[t] ty #[.map (some r)]).run P w = .ok (.int .i64 (l.length : Int)) w := by
  obtain ⟨es, c, h, h2, _⟩ := h
  have hlen : es.size = l.length := by simpa using congrArg List.length h2
  simp [Builtin.len_, run_underlying ht, Go.MapKept.run_getObj_map h, goInt, hlen]
end
end Go.Proofs.Ytebahglmdifmpaa.Vc
