/- Maps of any plain keys and values: what the operations do. -/
import Derived.Test.YtddbebhklmaeoaaM6
import Derived.MapKept
import Derived.Test.YtddbebhklmaeoaaM8
import Derived.Laws.StructEq
import Derived.Laws.Tables
import Derived.StillTactics
import Derived.KernelRfl
set_option linter.unusedVariables false
set_option linter.unusedSimpArgs false
set_option linter.unusedSectionVars false
namespace Go.Proofs.Ytddbebhklmaeoaa.Vc
namespace GM
open Go Go.MapKept
section
variable {K V : Type} [DecidableEq K]
/-- What a key's kind must keep: it may be one, it is found by its value, and it stays as it is. -/
structure KeyLaw (P : Program) (kt : TypeId) (enc : K → Value) : Prop where
  inj : ∀ a b, enc a = enc b → a = b
  check : ∀ (e : Bool) k w, (Instr.checkKey e 10000 kt (enc k)).run P w = .ok () w
  find : ∀ (k : K) (es : List MapEntry) (ks : List K) (w : World), es.map (·.key) = ks.map enc → (Instr.findKey kt (enc k) es).run P w = .ok (match ks.findIdx? (fun x => decide (x = k)) with | some j => (es[j]?).map fun e => (j, e.val) | none => none) w
  stays : ∀ k w, (Instr.keyThatStays (enc k) (enc k)).run P w = .ok (enc k) w
theorem findNow_law {d : TypeDesc} {enc : K → Value} (hs : ∀ a b, Instr.sameNow d (enc a) (enc b) = some (decide (a = b))) (k : K) : ∀ (es : List MapEntry) (ks : List K) (i : Nat), es.map (·.key) = ks.map enc →
    Instr.findNow d (enc k) es i = some (match ks.findIdx? (fun x => decide (x = k)) with | some j => (es[j]?).map fun e => (i + j, e.val) | none => none)
  | [], [], i, _ => rfl
  | [], _ :: _, _, h => by simp at h
  | _ :: _, [], _, h => by simp at h
  | e :: es, x :: ks, i, h => by
    simp only [List.map_cons, List.cons.injEq] at h
    simp only [Instr.findNow, h.1, hs, List.findIdx?_cons]
    by_cases hk : x = k
    · subst hk; simp
    · have e1 : decide (k = x) = false := by simp [Ne.symm hk]
      have e2 : decide (x = k) = false := by simp [hk]
      simp only [e1, e2, Bool.false_eq_true, if_false]
      rw [findNow_law hs k es ks (i + 1) h.2]
      cases List.findIdx? (fun x => decide (x = k)) ks with
      | none => rfl
      | some j =>
        simp only [Option.map_some, List.getElem?_cons_succ]
        congr 2
        funext e
        congr 1; omega
theorem findAsking_law {P : Program} {kt : TypeId} {enc : K → Value} (hq : ∀ a b w, (Op.equal kt (enc a) (enc b)).run P w = .ok (decide (a = b)) w) (k : K) (w : World) : ∀ (es : List MapEntry) (ks : List K) (i : Nat), es.map (·.key) = ks.map enc →
    (Instr.findAsking kt (enc k) es i).run P w = .ok (match ks.findIdx? (fun x => decide (x = k)) with | some j => (es[j]?).map fun e => (i + j, e.val) | none => none) w
  | [], [], i, _ => by simp [Instr.findAsking]
  | [], _ :: _, _, h => by simp at h
  | _ :: _, [], _, h => by simp at h
  | e :: es, x :: ks, i, h => by
    simp only [List.map_cons, List.cons.injEq] at h
    simp only [Instr.findAsking, h.1, Sem.run_bind, hq, Result.andThen_ok, List.findIdx?_cons]
    by_cases hk : x = k
    · subst hk; simp
    · have e1 : decide (k = x) = false := by simp [Ne.symm hk]
      have e2 : decide (x = k) = false := by simp [hk]
      simp only [e1, e2, Bool.false_eq_true, if_false]
      rw [findAsking_law hq k w es ks (i + 1) h.2]
      cases List.findIdx? (fun x => decide (x = k)) ks with
      | none => rfl
      | some j =>
        simp only [Option.map_some, List.getElem?_cons_succ]
        congr 2
        funext e
        congr 1; omega
theorem findNow_none {d : TypeDesc} {enc : K → Value} (hs : ∀ a b, Instr.sameNow d (enc a) (enc b) = none) (k : K) (e : MapEntry) (es : List MapEntry) (x : K) (hx : e.key = enc x) (i : Nat) : Instr.findNow d (enc k) (e :: es) i = none := by
  simp [Instr.findNow, hx, hs]
/-- Keys that are compared at once: numbers, texts. -/
theorem KeyLaw.now {P : Program} {kt : TypeId} {d : TypeDesc} {enc : K → Value} (hu : P.underlying kt = some d) (hk : ∀ k, IsKey d (enc k)) (hi : ∀ a b, enc a = enc b → a = b) (hs : ∀ a b, Instr.sameNow d (enc a) (enc b) = some (decide (a = b)))
    (hst : ∀ k w, (Instr.keyThatStays (enc k) (enc k)).run P w = .ok (enc k) w) : KeyLaw P kt enc where
  inj := hi
  check e k w := run_checkKey hu (hk k) e 9999
  find k es ks w h := by
    have := run_findKey (w := w) hu (findNow_law hs k es ks 0 h)
    simpa using this
  stays := hst
/-- Keys that are asked: structs, arrays. -/
theorem KeyLaw.asked {P : Program} {kt : TypeId} {d : TypeDesc} {enc : K → Value} (hu : P.underlying kt = some d) (hc : ∀ (e : Bool) k w, (Instr.checkKey e 10000 kt (enc k)).run P w = .ok () w) (hi : ∀ a b, enc a = enc b → a = b) (hs : ∀ a b, Instr.sameNow d (enc a) (enc b) = none)
    (hq : ∀ a b w, (Op.equal kt (enc a) (enc b)).run P w = .ok (decide (a = b)) w) (hst : ∀ k w, (Instr.keyThatStays (enc k) (enc k)).run P w = .ok (enc k) w) : KeyLaw P kt enc where
  inj := hi
  check := hc
  find k es ks w h := by
    match es, ks, h with
    | [], [], _ => simp [Instr.findKey, run_underlying hu, Instr.findNow]
    | e :: es, x :: ks, h =>
      have h2 := h
      simp only [List.map_cons, List.cons.injEq] at h2
      have := findAsking_law hq k w (e :: es) (x :: ks) 0 h
      simp only [Instr.findKey, Sem.run_bind, run_underlying hu, Result.andThen_ok, findNow_none hs k e es x h2.1 0]
      simpa using this
  stays := hst
/-- Texts as keys. -/
theorem beq_text (a b : ByteArray) : (a == b) = decide (a = b) := by
  rw [Bool.eq_iff_iff, bytes_beq]; simp
theorem KeyLaw.text {P : Program} {kt : TypeId} (hu : P.underlying kt = some .string) : KeyLaw P kt (fun s : ByteArray => Value.string s) :=
  KeyLaw.now hu (fun k => by simp [IsKey]) (fun a b h => by simpa using h) (fun a b => by simp [Instr.sameNow, beq_text])
    (fun k w => by simp [Instr.keyThatStays, Instr.sameBits, beq_text])
/-- A map in the heap. -/
def MapIs (encK : K → Value) (encV : V → Value) (w : World) (r : Nat) (l : List (K × V)) : Prop :=
  ∃ es clock, w.heap[r]? = some (.map es clock) ∧ es.toList.map (fun e => (e.key, e.val)) = l.map (fun p => (encK p.1, encV p.2)) ∧ Stamped es clock
def idx (l : List (K × V)) (k : K) : Option Nat := (l.map (·.1)).findIdx? (fun x => decide (x = k))
def get (d : V) (l : List (K × V)) (k : K) : V := match idx l k with | some j => (l.map (·.2)).getD j d | none => d
def has (l : List (K × V)) (k : K) : Bool := (idx l k).isSome
def put (l : List (K × V)) (k : K) (v : V) : List (K × V) := match idx l k with | some j => l.set j (k, v) | none => l ++ [(k, v)]
variable {encK : K → Value} {encV : V → Value}
theorem MapIs.lt {w : World} {r : Nat} {l : List (K × V)} (h : MapIs encK encV w r l) : r < w.heap.size := by
  obtain ⟨es, c, h, _⟩ := h
  exact (Array.getElem?_eq_some_iff.1 h).1
theorem MapIs.fr {S : List Nat} {w w' : World} {r : Nat} {l : List (K × V)} (h : MapIs encK encV w r l) (hf : Fr S w w') (hr : r ∉ S) : MapIs encK encV w' r l := by
  have hl := h.lt
  obtain ⟨es, c, h, h2⟩ := h
  exact ⟨es, c, by rw [hf.2 r hl hr, h], h2⟩
theorem MapIs.new (w : World) : MapIs encK encV (w.alloc (.map #[] 0)) w.heap.size [] := ⟨#[], 0, heap_alloc_new w _, rfl, stamped_empty 0⟩
theorem fr_map {w : World} {r : Nat} {es : Array MapEntry} {c : Nat} (h : w.heap[r]? = some (.map es c)) (es' : Array MapEntry) (c' : Nat) : Fr [r] w { w with heap := w.heap.setIfInBounds r (.map es' c') } := by
  refine ⟨by simp, fun b hb hS => (heap_set (o' := .map es' c') h).2 b (by simpa using hS), rfl, rfl, fun a _ => ?_⟩
  obtain ⟨h1, h2⟩ := heap_set (o' := .map es' c') h
  unfold World.frozen?
  by_cases ha : a.block = r
  · simp only [ha, h1, h]
  · simp only [h2 _ ha]
theorem keys_of {es : List MapEntry} {l : List (K × V)} (h : es.map (fun e => (e.key, e.val)) = l.map (fun p => (encK p.1, encV p.2))) : es.map (·.key) = (l.map (·.1)).map encK := by
  have := congrArg (List.map Prod.fst) h
  simpa [List.map_map, Function.comp_def] using this
theorem val_of {es : List MapEntry} {l : List (K × V)} (h : es.map (fun e => (e.key, e.val)) = l.map (fun p => (encK p.1, encV p.2))) {j : Nat} {d : V} (hj : j < l.length) : ∃ e, es[j]? = some e ∧ e.key = encK (l[j]).1 ∧ e.val = encV ((l.map (·.2)).getD j d) := by
  have hl : es.length = l.length := by simpa using congrArg List.length h
  have := congrArg (fun x => x[j]?) h
  simp only [List.getElem?_map] at this
  rw [List.getElem?_eq_getElem (show j < es.length by omega), List.getElem?_eq_getElem hj] at this
  simp only [Option.map_some, Option.some.injEq, Prod.mk.injEq] at this
  exact ⟨es[j], List.getElem?_eq_getElem _, this.1, by rw [this.2]; simp [List.getD_eq_getElem?_getD, hj]⟩
section
variable {P : Program} {w : World} {r : Nat} {l : List (K × V)} {t kt et : TypeId}
theorem look {i : TypeInfo} (ht : P.underlying t = some (.map kt et)) (hk : KeyLaw P kt encK) {d : V} (hi : P.info? et = some i) (hz : i.zero = some (encV d)) (h : MapIs encK encV w r l) (k : K) (ok : Bool) :
    (Instr.lookup t (.map (some r)) (encK k) ok).run P w = .ok (if ok then .tuple #[encV (get d l k), .bool (has l k)] else encV (get d l k)) w := by
  obtain ⟨es, c, h, h2, hs⟩ := h
  have hf := hk.find k es.toList (l.map (·.1)) w (keys_of h2)
  simp only [Instr.lookup, Sem.run_bind, run_underlying ht, Result.andThen_ok, Go.MapKept.run_getObj_map h, Sem.run_pure, hk.check, hf]
  unfold get has
  cases hx : idx l k with
  | none =>
    unfold idx at hx
    simp only [hx]
    cases ok <;> simp [zeroValue, typeInfo, hi, hz]
  | some j =>
    have hx' := hx
    unfold idx at hx
    have hj : j < l.length := by
      obtain ⟨h, _⟩ := List.findIdx?_eq_some_iff_getElem.mp hx
      simpa using h
    obtain ⟨e, e1, e2, e3⟩ := val_of (d := d) h2 hj
    simp only [hx, e1, Option.map_some, e3]
    cases ok <;> simp
theorem upd (ht : P.underlying t = some (.map kt et)) (hk : KeyLaw P kt encK) (h : MapIs encK encV w r l) (k : K) (v : V) :
    ∃ w', (Instr.mapUpdate t (.map (some r)) (encK k) (encV v)).run P w = .ok () w' ∧ MapIs encK encV w' r (put l k v) ∧ Fr [r] w w' := by
  obtain ⟨es, c, h, h2, hs⟩ := h
  have hf := hk.find k es.toList (l.map (·.1)) w (keys_of h2)
  have hlen : es.size = l.length := by simpa using congrArg List.length h2
  simp only [Instr.mapUpdate, Sem.run_bind, run_underlying ht, Result.andThen_ok, Go.MapKept.run_getObj_map h, hk.check, hf]
  cases hx : idx l k with
  | none =>
    have hx' := hx
    unfold idx at hx
    simp only [hx, Go.MapKept.run_setObj_map _ h]
    refine ⟨_, rfl, ⟨_, _, (heap_set h).1, ?_, stamped_push hs ?_⟩, fr_map h _ _⟩
    · simp [put, hx', h2]
    · intro x hxm he
      have h3 : (x.key, x.val) ∈ es.toList.map (fun e => (e.key, e.val)) := List.mem_map.2 ⟨x, hxm, rfl⟩
      rw [h2] at h3
      obtain ⟨p, hp, he2⟩ := List.mem_map.1 h3
      simp only [Prod.mk.injEq] at he2
      rw [he] at he2
      have h4 := hk.inj _ _ he2.1
      have h5 := List.findIdx?_eq_none_iff.1 hx p.1 (List.mem_map.2 ⟨p, hp, rfl⟩)
      simp [h4] at h5
  | some j =>
    have hx' := hx
    unfold idx at hx
    obtain ⟨hjl, hjk, _⟩ := List.findIdx?_eq_some_iff_getElem.mp hx
    have hj : j < l.length := by simpa using hjl
    have hkj : (l[j]).1 = k := by simpa using hjk
    obtain ⟨e, e1, e2, e3⟩ := val_of (d := v) h2 hj
    have hjs : j < es.size := by omega
    have e1' : es[j]? = some e := by simpa using e1
    have hst : (Instr.keyThatStays (((es[j]?).map (·.key)).getD (encK k)) (encK k)).run P w = .ok (encK k) w := by
      rw [e1']
      simp only [Option.map_some, Option.getD_some, e2, hkj]
      exact hk.stays k w
    simp only [hx, e1, Option.map_some, Sem.run_bind, hst, Result.andThen_ok, Go.MapKept.run_setObj_map _ h]
    refine ⟨_, rfl, ⟨_, _, (heap_set h).1, ?_, stamped_modify hs _ _ (fun _ _ => rfl) ?_⟩, fr_map h _ _⟩
    rotate_left
    · intro e' _ he
      rw [e1'] at he
      injection he with he
      subst he
      rw [e2, hkj]
    simp only [put, hx']
    apply List.ext_getElem?
    intro q
    have hq := congrArg (fun x => x[q]?) h2
    simp only [List.getElem?_map, Array.getElem?_toList] at hq
    simp only [List.getElem?_map, Array.getElem?_toList, Array.getElem?_modify, List.getElem?_set]
    by_cases hqj : j = q
    · subst hqj
      simp [hjs, hj]
    · simp [hqj, hq]
end
end
end GM
end Go.Proofs.Ytddbebhklmaeoaa.Vc
/- Triples, pairs and the like, held against one another; floats. -/
set_option linter.unusedVariables false
set_option linter.unusedSimpArgs false
set_option maxRecDepth 10000
namespace Go.Proofs.Ytddbebhklmaeoaa
open Go Go.Proofs.Ytddbebhklmaeoaa.Vc
namespace JG
abbrev Tri (a b c : ByteArray) : Value := .agg #[.string a, .string b, .string c]
theorem bytes_l {a b : ByteArray} : (a.toList == b.toList) = decide (a = b) := by
  rw [← beq_toListBytes]; exact GM.beq_text a b
theorem tol {a b : ByteArray} : a.toList = b.toList ↔ a = b :=
  ⟨fun h => by have := @bytes_l a b; rw [h] at this; simpa using this.symm, fun h => by rw [h]⟩
theorem eq3 (a b c d e f : ByteArray) (w : World) : (Op.equalIn 10000 37 (Tri a b c) (Tri d e f)).run Try.prog w = .ok (decide (a = d ∧ b = e ∧ c = f)) w := by
  have u9 := Try.underlying9
  have a9 := Try.isAgg9
  have z9 := Try.sizeOf9
  have hS : Try.prog.underlying 37 = some (.struct (Try.prog.fieldsOf 37)) := by kernel_rfl
  rw [show (10000 : Nat) = 9999 + 1 from rfl, run_equalIn_agg w 9999 37 _ _ hS (by kernel_rfl)]
  simp only [Program.fieldsOf, Try.underlying37]
  go_simp
  simp only [tol]
  by_cases h1 : a = d <;> by_cases h2 : b = e <;> by_cases h3 : c = f <;> simp [h1, h2, h3]
theorem guard37 (op : BinOp) (x y : Operand) (xs ys : Array Value) (w : World) : (eqGuard op 37 x y (.agg xs) (.agg ys)).run Try.prog w = .ok () w := run_eqGuard_agg w op 37 x y xs ys (by kernel_rfl)
theorem eqTri {x y : Operand} (a b c d e f : ByteArray) (w : World) : (do eqGuard .eql 37 x y (Tri a b c) (Tri d e f); binOp .eql 37 (Tri a b c) (Tri d e f) : Sem Value).run Try.prog w = .ok (.bool (decide (a = d ∧ b = e ∧ c = f))) w := by
  rw [Sem.run_bind, guard37, Result.andThen_ok, run_eql_struct, eq3]; rfl
/-- Floats. -/
def geF (x y : Nat) : Bool := FloatKind.f64.format.order x y == some .gt || FloatKind.f64.format.order x y == some .eq
def ltF (x y : Nat) : Bool := FloatKind.f64.format.order x y == some .lt
theorem run_ge (x y : Nat) (w : World) : (binOp .geq 86 (.float .f64 x) (.float .f64 y) : Sem Value).run Try.prog w = .ok (.bool (geF x y)) w := rfl
theorem run_lt (x y : Nat) (w : World) : (binOp .lss 86 (.float .f64 x) (.float .f64 y) : Sem Value).run Try.prog w = .ok (.bool (ltF x y)) w := rfl
end JG
end Go.Proofs.Ytddbebhklmaeoaa
