/- Maps of any plain keys and values: what the operations do. -/
import Derived.Test.YtjmlfknogjaemaaM5
import Derived.MapKept
import Derived.Test.YtjmlfknogjaemaaM6
import Derived.Test.YtjmlfknogjaemaaM4
import Derived.Test.YtjmlfknogjaemaaProg
import Derived.KernelRfl
set_option linter.unusedVariables false
set_option linter.unusedSimpArgs false
set_option linter.unusedSectionVars false
namespace Go.Proofs.Ytjmlfknogjaemaa.Vc
namespace GM
open Go Go.MapKept
section
variable {K V : Type} [DecidableEq K]
/-- What a key's kind must keep: it may be one, it is found by its value, and it stays as it is. -/
structure KeyLaw (P : Program) (kt : TypeId) (enc : K → Value) : Prop where
  inj : ∀ a b, enc a = enc b → a = b
  check : ∀ (e : Bool) k w, (Instr.checkKey e 10000 kt (enc k)).run P w = .ok () w
  find : ∀ (k : K) (es : List MapEntry) (ks : List K) (w : World), es.map (·.key) = ks.map enc → (Instr.findKey kt (enc k) es).run P w = .ok (match ks.findIdx? (fun x => decide (x = k)) with | some j => (es[j]?).map fun e => (j, e.val) | none => none) w
  stays : ∀ k w, (Instr.keyThatStays (enc k) (enc k)).run P w = .ok (enc k) w
theorem findNow_law {d : TypeDesc} {enc : K → Value} (hs : ∀ a b, Instr.sameNow d (enc a) (enc b) = some (decide (a = b))) (k : K) : ∀ (es : List MapEntry) (ks : List K) (i : Nat), es.map (·.key) = ks.map enc →
    Instr.findNow d (enc k) es i = some (match ks.findIdx? (fun x => decide (x = k)) with | some j => (es[j]?).map fun e => (i + j, e.val) | none => none)
  | [], [], i, _ => rfl
  | [], _ :: _, _, h => by simp at h
  | _ :: _, [], _, h => by simp at h
  | e :: es, x :: ks, i, h => by
    simp only [List.map_cons, List.cons.injEq] at h
    simp only [Instr.findNow, h.1, hs, List.findIdx?_cons]
    by_cases hk : x = k
    · subst hk; simp
    · have e1 : decide (k = x) = false := by simp [Ne.symm hk]
      have e2 : decide (x = k) = false := by simp [hk]
      simp only [e1, e2, Bool.false_eq_true, if_false]
      rw [findNow_law hs k es ks (i + 1) h.2]
      cases List.findIdx? (fun x => decide (x = k)) ks with
      | none => rfl
      | some j =>
        simp only [Option.map_some, List.getElem?_cons_succ]
        congr 2
        funext e
        congr 1; omega
theorem findAsking_law {P : Program} {kt : TypeId} {enc : K → Value} (hq : ∀ a b w, (Op.equal kt (enc a) (enc b)).run P w = .ok (decide (a = b)) w) (k : K) (w : World) : ∀ (es : List MapEntry) (ks : List K) (i : Nat), es.map (·.key) = ks.map enc →
    (Instr.findAsking kt (enc k) es i).run P w = .ok (match ks.findIdx? (fun x => decide (x = k)) with | some j => (es[j]?).map fun e => (i + j, e.val) | none => none) w
  | [], [], i, _ => by simp [Instr.findAsking]
  | [], _ :: _, _, h => by simp at h
  | _ :: _, [], _, h => by simp at h
  | e :: es, x :: ks, i, h => by
    simp only [List.map_cons, List.cons.injEq] at h
    simp only [Instr.findAsking, h.1, Sem.run_bind, hq, Result.andThen_ok, List.findIdx?_cons]
    by_cases hk : x = k
    · subst hk; simp
    · have e1 : decide (k = x) = false := by simp [Ne.symm hk]
      have e2 : decide (x = k) = false := by simp [hk]
      simp only [e1, e2, Bool.false_eq_true, if_false]
      rw [findAsking_law hq k w es ks (i + 1) h.2]
      cases List.findIdx? (fun x => decide (x = k)) ks with
      | none => rfl
      | some j =>
        simp only [Option.map_some, List.getElem?_cons_succ]
        congr 2
        funext e
        congr 1; omega
theorem findNow_none {d : TypeDesc} {enc : K → Value} (hs : ∀ a b, Instr.sameNow d (enc a) (enc b) = none) (k : K) (e : MapEntry) (es : List MapEntry) (x : K) (hx : e.key = enc x) (i : Nat) : Instr.findNow d (enc k) (e :: es) i = none := by
  simp [Instr.findNow, hx, hs]
/-- Keys that are compared at once: numbers, texts. -/
theorem KeyLaw.now {P : Program} {kt : TypeId} {d : TypeDesc} {enc : K → Value} (hu : P.underlying kt = some d) (hk : ∀ k, IsKey d (enc k)) (hi : ∀ a b, enc a = enc b → a = b) (hs : ∀ a b, Instr.sameNow d (enc a) (enc b) = some (decide (a = b)))
    (hst : ∀ k w, (Instr.keyThatStays (enc k) (enc k)).run P w = .ok (enc k) w) : KeyLaw P kt enc where
  inj := hi
  check e k w := run_checkKey hu (hk k) e 9999
  find k es ks w h := by
    have := run_findKey (w := w) hu (findNow_law hs k es ks 0 h)
    simpa using this
  stays := hst
/-- Keys that are asked: structs, arrays. -/
theorem KeyLaw.asked {P : Program} {kt : TypeId} {d : TypeDesc} {enc : K → Value} (hu : P.underlying kt = some d) (hc : ∀ (e : Bool) k w, (Instr.checkKey e 10000 kt (enc k)).run P w = .ok () w) (hi : ∀ a b, enc a = enc b → a = b) (hs : ∀ a b, Instr.sameNow d (enc a) (enc b) = none)
    (hq : ∀ a b w, (Op.equal kt (enc a) (enc b)).run P w = .ok (decide (a = b)) w) (hst : ∀ k w, (Instr.keyThatStays (enc k) (enc k)).run P w = .ok (enc k) w) : KeyLaw P kt enc where
  inj := hi
  check := hc
  find k es ks w h := by
    match es, ks, h with
    | [], [], _ => simp [Instr.findKey, run_underlying hu, Instr.findNow]
    | e :: es, x :: ks, h =>
      have h2 := h
      simp only [List.map_cons, List.cons.injEq] at h2
      have := findAsking_law hq k w (e :: es) (x :: ks) 0 h
      simp only [Instr.findKey, Sem.run_bind, run_underlying hu, Result.andThen_ok, findNow_none hs k e es x h2.1 0]
      simpa using this
  stays := hst
/-- Texts as keys. -/
theorem beq_text (a b : ByteArray) : (a == b) = decide (a = b) := by
  rw [Bool.eq_iff_iff, bytes_beq]; simp
theorem KeyLaw.text {P : Program} {kt : TypeId} (hu : P.underlying kt = some .string) : KeyLaw P kt (fun s : ByteArray => Value.string s) :=
  KeyLaw.now hu (fun k => by simp [IsKey]) (fun a b h => by simpa using h) (fun a b => by simp [Instr.sameNow, beq_text])
    (fun k w => by simp [Instr.keyThatStays, Instr.sameBits, beq_text])
/-- Numbers as keys. -/
theorem KeyLaw.num {P : Program} {kt : TypeId} {i : IntKind} (hu : P.underlying kt = some (.int i)) : KeyLaw P kt (fun n : Int => Value.int i n) :=
  KeyLaw.now hu (fun k => by simp [IsKey]) (fun a b h => by simpa using h) (fun a b => by
      simp only [Instr.sameNow, if_pos]
      rw [Option.some.injEq, Bool.eq_iff_iff]; simp)
    (fun k w => by simp [Instr.keyThatStays, Instr.sameBits])
/-- A map in the heap. -/
def MapIs (encK : K → Value) (encV : V → Value) (w : World) (r : Nat) (l : List (K × V)) : Prop :=
  ∃ es clock, w.heap[r]? = some (.map es clock) ∧ es.toList.map (fun e => (e.key, e.val)) = l.map (fun p => (encK p.1, encV p.2)) ∧ Stamped es clock
def idx (l : List (K × V)) (k : K) : Option Nat := (l.map (·.1)).findIdx? (fun x => decide (x = k))
def get (d : V) (l : List (K × V)) (k : K) : V := match idx l k with | some j => (l.map (·.2)).getD j d | none => d
def has (l : List (K × V)) (k : K) : Bool := (idx l k).isSome
def put (l : List (K × V)) (k : K) (v : V) : List (K × V) := match idx l k with | some j => l.set j (k, v) | none => l ++ [(k, v)]
variable {encK : K → Value} {encV : V → Value}
theorem MapIs.lt {w : World} {r : Nat} {l : List (K × V)} (h : MapIs encK encV w r l) : r < w.heap.size := by
  obtain ⟨es, c, h, _⟩ := h
  exact (Array.getElem?_eq_some_iff.1 h).1
theorem MapIs.fr {S : List Nat} {w w' : World} {r : Nat} {l : List (K × V)} (h : MapIs encK encV w r l) (hf : Fr S w w') (hr : r ∉ S) : MapIs encK encV w' r l := by
  have hl := h.lt
  obtain ⟨es, c, h, h2⟩ := h
  exact ⟨es, c, by rw [hf.2 r hl hr, h], h2⟩
theorem MapIs.new (w : World) : MapIs encK encV (w.alloc (.map #[] 0)) w.heap.size [] := ⟨#[], 0, heap_alloc_new w _, rfl, stamped_empty 0⟩
theorem fr_map {w : World} {r : Nat} {es : Array MapEntry} {c : Nat} (h : w.heap[r]? = some (.map es c)) (es' : Array MapEntry) (c' : Nat) : Fr [r] w { w with heap := w.heap.setIfInBounds r (.map es' c') } := by
  refine ⟨by simp, fun b hb hS => (heap_set (o' := .map es' c') h).2 b (by simpa using hS), rfl, rfl, fun a _ => ?_⟩
  obtain ⟨h1, h2⟩ := heap_set (o' := .map es' c') h
  unfold World.frozen?
  by_cases ha : a.block = r
  · simp only [ha, h1, h]
  · simp only [h2 _ ha]
theorem keys_of {es : List MapEntry} {l : List (K × V)} (h : es.map (fun e => (e.key, e.val)) = l.map (fun p => (encK p.1, encV p.2))) : es.map (·.key) = (l.map (·.1)).map encK := by
  have := congrArg (List.map Prod.fst) h
  simpa [List.map_map, Function.comp_def] using this
theorem val_of {es : List MapEntry} {l : List (K × V)} (h : es.map (fun e => (e.key, e.val)) = l.map (fun p => (encK p.1, encV p.2))) {j : Nat} {d : V} (hj : j < l.length) : ∃ e, es[j]? = some e ∧ e.key = encK (l[j]).1 ∧ e.val = encV ((l.map (·.2)).getD j d) := by
  have hl : es.length = l.length := by simpa using congrArg List.length h
  have := congrArg (fun x => x[j]?) h
  simp only [List.getElem?_map] at this
  rw [List.getElem?_eq_getElem (show j < es.length by omega), List.getElem?_eq_getElem hj] at this
  simp only [Option.map_some, Option.some.injEq, Prod.mk.injEq] at this
  exact ⟨es[j], List.getElem?_eq_getElem _, this.1, by rw [this.2]; simp [List.getD_eq_getElem?_getD, hj]⟩
section
variable {P : Program} {w : World} {r : Nat} {l : List (K × V)} {t kt et : TypeId}
theorem look {i : TypeInfo} (ht : P.underlying t = some (.map kt et)) (hk : KeyLaw P kt encK) {d : V} (hi : P.info? et = some i) (hz : i.zero = some (encV d)) (h : MapIs encK encV w r l) (k : K) (ok : Bool) :
    (Instr.lookup t (.map (some r)) (encK k) ok).run P w = .ok (if ok then .tuple #[encV (get d l k), .bool (has l k)] else encV (get d l k)) w := by
  obtain ⟨es, c, h, h2, hs⟩ := h
  have hf := hk.find k es.toList (l.map (·.1)) w (keys_of h2)
  simp only [Instr.lookup, Sem.run_bind, run_underlying ht, Result.andThen_ok, Go.MapKept.run_getObj_map h, Sem.run_pure, hk.check, hf]
  unfold get has
  cases hx : idx l k with
  | none =>
    unfold idx at hx
    simp only [hx]
    cases ok <;> simp [zeroValue, typeInfo, hi, hz]
  | some j =>
    have hx' := hx
    unfold idx at hx
    have hj : j < l.length := by
      obtain ⟨h, _⟩ := List.findIdx?_eq_some_iff_getElem.mp hx
      simpa using h
    obtain ⟨e, e1, e2, e3⟩ := val_of (d := d) h2 hj
    simp only [hx, e1, Option.map_some, e3]
    cases ok <;> simp
theorem upd (ht : P.underlying t = some (.map kt et)) (hk : KeyLaw P kt encK) (h : MapIs encK encV w r l) (k : K) (v : V) :
    ∃ w', (Instr.mapUpdate t (.map (some r)) (encK k) (encV v)).run P w = .ok () w' ∧ MapIs encK encV w' r (put l k v) ∧ Fr [r] w w' := by
  obtain ⟨es, c, h, h2, hs⟩ := h
  have hf := hk.find k es.toList (l.map (·.1)) w (keys_of h2)
  have hlen : es.size = l.length := by simpa using congrArg List.length h2
  simp only [Instr.mapUpdate, Sem.run_bind, run_underlying ht, Result.andThen_ok, Go.MapKept.run_getObj_map h, hk.check, hf]
  cases hx : idx l k with
  | none =>
    have hx' := hx
    unfold idx at hx
    simp only [hx, Go.MapKept.run_setObj_map _ h]
    refine ⟨_, rfl, ⟨_, _, (heap_set h).1, ?_, stamped_push hs ?_⟩, fr_map h _ _⟩
    · simp [put, hx', h2]
    · intro x hxm he
      have h3 : (x.key, x.val) ∈ es.toList.map (fun e => (e.key, e.val)) := List.mem_map.2 ⟨x, hxm, rfl⟩
      rw [h2] at h3
      obtain ⟨p, hp, he2⟩ := List.mem_map.1 h3
      simp only [Prod.mk.injEq] at he2
      rw [he] at he2
      have h4 := hk.inj _ _ he2.1
      have h5 := List.findIdx?_eq_none_iff.1 hx p.1 (List.mem_map.2 ⟨p, hp, rfl⟩)
      simp [h4] at h5
  | some j =>
    have hx' := hx
    unfold idx at hx
    obtain ⟨hjl, hjk, _⟩ := List.findIdx?_eq_some_iff_getElem.mp hx
    have hj : j < l.length := by simpa using hjl
    have hkj : (l[j]).1 = k := by simpa using hjk
    obtain ⟨e, e1, e2, e3⟩ := val_of (d := v) h2 hj
    have hjs : j < es.size := by omega
    have e1' : es[j]? = some e := by simpa using e1
    have hst : (Instr.keyThatStays (((es[j]?).map (·.key)).getD (encK k)) (encK k)).run P w = .ok (encK k) w := by
      rw [e1']
      simp only [Option.map_some, Option.getD_some, e2, hkj]
      exact hk.stays k w
    simp only [hx, e1, Option.map_some, Sem.run_bind, hst, Result.andThen_ok, Go.MapKept.run_setObj_map _ h]
    refine ⟨_, rfl, ⟨_, _, (heap_set h).1, ?_, stamped_modify hs _ _ (fun _ _ => rfl) ?_⟩, fr_map h _ _⟩
    rotate_left
    · intro e' _ he
      rw [e1'] at he
      injection he with he
      subst he
      rw [e2, hkj]
    simp only [put, hx']
    apply List.ext_getElem?
    intro q
    have hq := congrArg (fun x => x[q]?) h2
    simp only [List.getElem?_map, Array.getElem?_toList] at hq
    simp only [List.getElem?_map, Array.getElem?_toList, Array.getElem?_modify, List.getElem?_set]
    by_cases hqj : j = q
    · subst hqj
      simp [hjs, hj]
    · simp [hqj, hq]
theorem len {ty : TypeId} (ht : P.underlying t = some (.map kt et)) (h : MapIs encK encV w r l) : (Builtin.len_ #[t] ty #[.map (some r)]).run P w = .ok (.int .i64 (l.length : Int)) w := by
  obtain ⟨es, c, h, h2, _⟩ := h
  have hlen : es.size = l.length := by simpa using congrArg List.length h2
  simp [Builtin.len_, run_underlying ht, Go.MapKept.run_getObj_map h, goInt, hlen]
end
end
end GM
end Go.Proofs.Ytjmlfknogjaemaa.Vc
/- Maps as owned pieces of memory. -/
set_option linter.unusedVariables false
set_option linter.unusedSimpArgs false
namespace Go.Proofs.Ytjmlfknogjaemaa.Vc
open Go
section
variable {K V : Type} [DecidableEq K]
def Chunk.map (encK : K → Value) (encV : V → Value) (r : Nat) (l : List (K × V)) : Chunk where
  holds w F := F = [r] ∧ GM.MapIs encK encV w r l
  fr h hf hS := ⟨h.1, h.2.fr hf (hS r (by simp [h.1]))⟩
  lt h x hx := by
    rw [h.1] at hx
    simp at hx
    subst hx
    exact h.2.lt
variable {encK : K → Value} {encV : V → Value} {S : List Nat} {w0 w : World} {L : List Chunk} {P : Program} {t kt et : TypeId} {r : Nat} {l : List (K × V)}
theorem St.mapNew (h : St S w0 w L) : St S w0 (World.alloc w (.map #[] 0)) (Chunk.map encK encV w.heap.size [] :: L) :=
  h.new (Fr.refl [] w).allocM ⟨rfl, GM.MapIs.new w⟩ (by simp)
theorem St.mapIs (h : St S w0 w L) (i : Nat) (hi : L[i]? = some (Chunk.map encK encV r l)) : GM.MapIs encK encV w r l := by
  obtain ⟨F, h1, _⟩ := h.at i hi
  exact h1.2
theorem St.mapUpd (h : St S w0 w L) (i : Nat) (hi : L[i]? = some (Chunk.map encK encV r l)) (ht : P.underlying t = some (.map kt et)) (hk : GM.KeyLaw P kt encK) (k : K) (v : V) :
    ∃ w', (Instr.mapUpdate t (.map (some r)) (encK k) (encV v)).run P w = .ok () w' ∧ St S w0 w' (L.set i (Chunk.map encK encV r (GM.put l k v))) := by
  obtain ⟨F, h1, _, h3⟩ := h.at i hi
  obtain ⟨w', q1, q2, q3⟩ := GM.upd ht hk h1.2 k v
  exact ⟨w', q1, h3 (F' := F) (by rw [h1.1]; exact q3) ⟨h1.1, q2⟩ (fun x hx => .inl hx)⟩
end
end Go.Proofs.Ytjmlfknogjaemaa.Vc
/- An index of texts, as a plain list; a map of texts to their numbers says the same. -/
set_option linter.unusedVariables false
set_option linter.unusedSimpArgs false
namespace Go.Proofs.Ytjmlfknogjaemaa.Vc
open Go
namespace IX
/-- The place of a thing, from 1 on; 0: it has none. -/
def num (l : List ByteArray) (s : ByteArray) : Nat := match l.findIdx? (fun x => decide (x = s)) with | some j => j + 1 | none => 0
/-- What asking for a thing's number does. -/
def of (l : List ByteArray) (s : ByteArray) : List ByteArray := if num l s = 0 then (if l.length ≥ 1048576 then l else l ++ [s]) else l
def ofN (l : List ByteArray) (s : ByteArray) : Nat := if num l s = 0 then (if l.length ≥ 1048576 then 0 else l.length + 1) else num l s
/-- The map that belongs to a list of things. -/
def pairs (l : List ByteArray) : List (ByteArray × Int) := l.zipIdx.map fun p => (p.1, ((p.2 + 1 : Nat) : Int))
theorem pairs_keys (l : List ByteArray) : (pairs l).map (·.1) = l := by
  unfold pairs
  rw [List.map_map]
  have : ((fun p : ByteArray × Int => p.1) ∘ fun p : ByteArray × Nat => (p.1, ((p.2 + 1 : Nat) : Int))) = Prod.fst := rfl
  rw [this]
  simp
theorem pairs_snoc (l : List ByteArray) (s : ByteArray) : pairs (l ++ [s]) = pairs l ++ [(s, ((l.length + 1 : Nat) : Int))] := by
  simp [pairs, List.zipIdx_append]
theorem pairs_vals (l : List ByteArray) {j : Nat} (hj : j < l.length) (d : Int) : ((pairs l).map (·.2)).getD j d = ((j + 1 : Nat) : Int) := by
  simp [pairs, List.getD_eq_getElem?_getD, hj]
theorem get_pairs (l : List ByteArray) (s : ByteArray) : GM.get 0 (pairs l) s = (num l s : Int) ∧ GM.has (pairs l) s = decide (num l s ≠ 0) := by
  unfold GM.get GM.has GM.idx num
  rw [pairs_keys]
  cases hx : l.findIdx? (fun x => decide (x = s)) with
  | none => simp
  | some j =>
    obtain ⟨hj, _⟩ := List.findIdx?_eq_some_iff_getElem.mp hx
    simp only [Option.isSome_some]
    refine ⟨pairs_vals l hj 0, ?_⟩
    simp
theorem put_pairs (l : List ByteArray) (s : ByteArray) (h : num l s = 0) : GM.put (pairs l) s ((l.length + 1 : Nat) : Int) = pairs (l ++ [s]) := by
  have hi : GM.idx (pairs l) s = none := by
    unfold GM.idx
    rw [pairs_keys]
    unfold num at h
    cases hx : l.findIdx? (fun x => decide (x = s)) with
    | none => rfl
    | some j => rw [hx] at h; simp at h
  unfold GM.put
  rw [hi, pairs_snoc]
end IX
end Go.Proofs.Ytjmlfknogjaemaa.Vc
/- The plain statements of some functions, printed by vcgen.py. -/
set_option maxRecDepth 100000
set_option linter.unusedVariables false
namespace Go.Proofs.Ytjmlfknogjaemaa
open Go Go.Proofs.Ytjmlfknogjaemaa.Vc
theorem W0.mixed : Try.prog.follows .mixedOrders = true := by kernel_rfl
/-- gatehouse/page.Hash -/
def f11.AL : Nat → Option Ann := fun _ => none
def f11.AC : Nat → Option Ann := fun _ => none
def f11.VC (xa0 : Int) (xa1 : Int) (w : World) (R : Value → World → Prop) : Prop :=
  sel (decide ((xa1 : Int) < (1 : Int))) (
  R (.int .i64 0) w) (
  let i8 : Int := IntKind.i64.wrap (xa0 * 40503);
  let i9 : Int := IntKind.u16.wrap i8;
  let i10 : Int := IntKind.i64.wrap i9;
  xa1 ≠ (0 : Int) ∧
  let i12 : Int := Int.tmod i10 xa1;
  R (.int .i64 i12) w)
theorem f11.eq (xa0 : Int) (xa1 : Int) (w : World) (R : Value → World → Prop) : f11.VC xa0 xa1 w R = funV Try.prog Try.f11 f11.AL f11.AC #[.int .i64 xa0, .int .i64 xa1] w R := by kernel_rfl
theorem f11.calls {xa0 : Int} {xa1 : Int} {w : World} {R : Value → World → Prop} (h : f11.VC xa0 xa1 w R) : Calls Try.prog 11 #[.int .i64 xa0, .int .i64 xa1] w fun e w' => ∃ v, e = .returned v ∧ R v w' :=
  funV_sound (fn := Try.f11) (AL := f11.AL) (AC := f11.AC) W0.mixed (by kernel_rfl) (by rw [← f11.eq xa0 xa1]; exact h)

/-- gatehouse/gatehouseref12.Hash -/
def f12.AL : Nat → Option Ann := fun _ => none
def f12.AC : Nat → Option Ann := fun _ => none
def f12.VC (xa0 : Int) (xa1 : Int) (w : World) (R : Value → World → Prop) : Prop :=
  sel (decide ((xa1 : Int) < (1 : Int))) (
  R (.int .i64 0) w) (
  let i9 : Int := IntKind.i64.wrap (xa0 * 40503);
  65536 ≠ (0 : Int) ∧
  let i10 : Int := Int.tmod i9 65536;
  sel (decide ((i10 : Int) < (0 : Int))) (
  let i14 : Int := IntKind.i64.wrap (i10 + 65536);
  xa1 ≠ (0 : Int) ∧
  let i17 : Int := Int.tmod i14 xa1;
  R (.int .i64 i17) w) (
  xa1 ≠ (0 : Int) ∧
  let i17_1 : Int := Int.tmod i10 xa1;
  R (.int .i64 i17_1) w))
theorem f12.eq (xa0 : Int) (xa1 : Int) (w : World) (R : Value → World → Prop) : f12.VC xa0 xa1 w R = funV Try.prog Try.f12 f12.AL f12.AC #[.int .i64 xa0, .int .i64 xa1] w R := by kernel_rfl
theorem f12.calls {xa0 : Int} {xa1 : Int} {w : World} {R : Value → World → Prop} (h : f12.VC xa0 xa1 w R) : Calls Try.prog 12 #[.int .i64 xa0, .int .i64 xa1] w fun e w' => ∃ v, e = .returned v ∧ R v w' :=
  funV_sound (fn := Try.f12) (AL := f12.AL) (AC := f12.AC) W0.mixed (by kernel_rfl) (by rw [← f12.eq xa0 xa1]; exact h)

/-- gatehouse/gatehouselaw12.sameInts -/
def f18.AL : Nat → Option Ann := fun r => match r with | 4 => some ⟨[(5, .int .i64)], [0, 1]⟩ | _ => none
def f18.AC : Nat → Option Ann := fun _ => none
def f18.VC (Aa0 : Option Addr) (na0 ca0 : Nat) (Aa1 : Option Addr) (na1 ca1 : Nat) (w : World) (R : Value → World → Prop) : Prop :=
  sel (((na0 : Int) : Int) != ((na1 : Int) : Int)) (
  R (.bool false) w) (
  ∃ I : Int → World → Nat → Prop,
  (∃ n, I 0 w n) ∧
  ∀ d : Env, ∀ (x5 : Int) (w_1 : World) (r : Nat), I x5 w_1 r →
  sel (decide ((x5 : Int) < ((na0 : Int) : Int))) (
  (0 : Int) ≤ x5 ∧ x5 < (na0 : Int) ∧
  needPtr Aa0 fun b19 o19 =>
  (0 : Int) ≤ x5 ∧ x5 < (na1 : Int) ∧
  needPtr Aa1 fun b23 o23 =>
  ∃ (x20 : Int),
  w_1.cell? ⟨b19, o19 + x5.toNat * 1, none⟩ = some (.int .i64 x20) ∧
  ∃ (x24 : Int),
  w_1.cell? ⟨b23, o23 + x5.toNat * 1, none⟩ = some (.int .i64 x24) ∧
  sel ((x20 : Int) != (x24 : Int)) (
  R (.bool false) w_1.drew) (
  let i16 : Int := IntKind.i64.wrap (x5 + 1);
  ([.slice Aa0 na0 ca0, .slice Aa1 na1 ca1] : List Value) = ([.slice Aa0 na0 ca0, .slice Aa1 na1 ca1] : List Value) ∧ ∃ m, m < r ∧ I i16 w_1.drew m)) (
  R (.bool true) w_1))
theorem f18.eq (Aa0 : Option Addr) (na0 ca0 : Nat) (Aa1 : Option Addr) (na1 ca1 : Nat) (w : World) (R : Value → World → Prop) : f18.VC Aa0 na0 ca0 Aa1 na1 ca1 w R = funV Try.prog Try.f18 f18.AL f18.AC #[.slice Aa0 na0 ca0, .slice Aa1 na1 ca1] w R := by kernel_rfl
theorem f18.calls {Aa0 : Option Addr} {na0 ca0 : Nat} {Aa1 : Option Addr} {na1 ca1 : Nat} {w : World} {R : Value → World → Prop} (h : f18.VC Aa0 na0 ca0 Aa1 na1 ca1 w R) : Calls Try.prog 18 #[.slice Aa0 na0 ca0, .slice Aa1 na1 ca1] w fun e w' => ∃ v, e = .returned v ∧ R v w' :=
  funV_sound (fn := Try.f18) (AL := f18.AL) (AC := f18.AC) W0.mixed (by kernel_rfl) (by rw [← f18.eq Aa0 na0 ca0 Aa1 na1 ca1]; exact h)

/-- gatehouse/gatehouselaw12.copied -/
def f24.AL : Nat → Option Ann := fun r => match r with | 4 => some ⟨[(5, .slice), (6, .int .i64)], [1]⟩ | _ => none
def f24.AC : Nat → Option Ann := fun _ => none
def f24.VC (Aa0 : Option Addr) (na0 ca0 : Nat) (xa1 : Int) (w : World) (R : Value → World → Prop) : Prop :=
  ∃ (A9 : Option Addr) (n9 c9 : Nat),
  ∃ w_1 : World, (Builtin.append_ #[26, 26] 26 #[.slice none 0 0, .slice Aa0 na0 ca0]).run Try.prog w = .ok (.slice A9 n9 c9) w_1 ∧
  ∃ I : Option Addr → Nat → Nat → Int → World → Nat → Prop,
  (∃ n, I A9 n9 c9 0 w_1 n) ∧
  ∀ d : Env, ∀ (A5 : Option Addr) (n5 c5 : Nat) (x6 : Int) (w_2 : World) (r : Nat), I A5 n5 c5 x6 w_2 r →
  sel (decide ((x6 : Int) < (xa1 : Int))) (
  let i17 : Int := IntKind.i64.wrap ((-7000) - x6);
  let w_3 : World := World.alloc w_2 (.cells #[.int .i64 i17] 3);
  ∃ (A19 : Option Addr) (n19 c19 : Nat),
  ∃ w_4 : World, (Builtin.append_ #[26, 26] 26 #[.slice A5 n5 c5, .slice (some ⟨w_2.heap.size, 0, none⟩) 1 1]).run Try.prog w_3 = .ok (.slice A19 n19 c19) w_4 ∧
  let i14 : Int := IntKind.i64.wrap (x6 + 1);
  ([.int .i64 xa1] : List Value) = ([.int .i64 xa1] : List Value) ∧ ∃ m, m < r ∧ I A19 n19 c19 i14 w_4 m) (
  R (.slice A5 n5 c5) w_2)
theorem f24.eq (Aa0 : Option Addr) (na0 ca0 : Nat) (xa1 : Int) (w : World) (R : Value → World → Prop) : f24.VC Aa0 na0 ca0 xa1 w R = funV Try.prog Try.f24 f24.AL f24.AC #[.slice Aa0 na0 ca0, .int .i64 xa1] w R := by kernel_rfl
theorem f24.calls {Aa0 : Option Addr} {na0 ca0 : Nat} {xa1 : Int} {w : World} {R : Value → World → Prop} (h : f24.VC Aa0 na0 ca0 xa1 w R) : Calls Try.prog 24 #[.slice Aa0 na0 ca0, .int .i64 xa1] w fun e w' => ∃ v, e = .returned v ∧ R v w' :=
  funV_sound (fn := Try.f24) (AL := f24.AL) (AC := f24.AC) W0.mixed (by kernel_rfl) (by rw [← f24.eq Aa0 na0 ca0 xa1]; exact h)

/-- gatehouse/names.NewIndex[string] -/
def f29.AL : Nat → Option Ann := fun _ => none
def f29.AC : Nat → Option Ann := fun _ => none
def f29.VC  (w : World) (R : Value → World → Prop) : Prop :=
  let w_1 : World := World.alloc w (.map #[] 0);
  let w_2 : World := World.alloc w_1 (.cells #[.map (some w.heap.size), .slice none 0 0] 122);
  R (.pointer (some ⟨w_1.heap.size, 0, none⟩)) w_2
theorem f29.eq  (w : World) (R : Value → World → Prop) : f29.VC  w R = funV Try.prog Try.f29 f29.AL f29.AC #[] w R := by kernel_rfl
theorem f29.calls {w : World} {R : Value → World → Prop} (h : f29.VC  w R) : Calls Try.prog 29 #[] w fun e w' => ∃ v, e = .returned v ∧ R v w' :=
  funV_sound (fn := Try.f29) (AL := f29.AL) (AC := f29.AC) W0.mixed (by kernel_rfl) (by rw [← f29.eq ]; exact h)

/-- (*gatehouse/names.Index[string]).Len -/
def f30.AL : Nat → Option Ann := fun _ => none
def f30.AC : Nat → Option Ann := fun _ => none
def f30.VC (a0 : Nat) (w : World) (R : Value → World → Prop) : Prop :=
  ∃ (A6 : Option Addr) (n6 c6 : Nat),
  w.cell? ⟨a0, 1, none⟩ = some (.slice A6 n6 c6) ∧
  R (.int .i64 (n6 : Int)) w
theorem f30.eq (a0 : Nat) (w : World) (R : Value → World → Prop) : f30.VC a0 w R = funV Try.prog Try.f30 f30.AL f30.AC #[.pointer (some ⟨a0, 0, none⟩)] w R := by kernel_rfl
theorem f30.calls {a0 : Nat} {w : World} {R : Value → World → Prop} (h : f30.VC a0 w R) : Calls Try.prog 30 #[.pointer (some ⟨a0, 0, none⟩)] w fun e w' => ∃ v, e = .returned v ∧ R v w' :=
  funV_sound (fn := Try.f30) (AL := f30.AL) (AC := f30.AC) W0.mixed (by kernel_rfl) (by rw [← f30.eq a0]; exact h)

/-- (*gatehouse/names.Index[string]).At -/
def f53.AL : Nat → Option Ann := fun _ => none
def f53.AC : Nat → Option Ann := fun _ => none
def f53.VC (a0 : Nat) (xa1 : Int) (w : World) (R : Value → World → Prop) : Prop :=
  sel (decide ((xa1 : Int) < (1 : Int))) (
  R (.tuple #[.string ⟨#[]⟩, .bool false]) w) (
  ∃ (A13 : Option Addr) (n13 c13 : Nat),
  w.cell? ⟨a0, 1, none⟩ = some (.slice A13 n13 c13) ∧
  sel (decide (((n13 : Int) : Int) < (xa1 : Int))) (
  R (.tuple #[.string ⟨#[]⟩, .bool false]) w) (
  ∃ (A21 : Option Addr) (n21 c21 : Nat),
  w.cell? ⟨a0, 1, none⟩ = some (.slice A21 n21 c21) ∧
  let i23 : Int := IntKind.i64.wrap (xa1 - 1);
  (0 : Int) ≤ i23 ∧ i23 < (n21 : Int) ∧
  needPtr A21 fun b24 o24 =>
  ∃ (s25 : ByteArray),
  w.cell? ⟨b24, o24 + i23.toNat * 1, none⟩ = some (.string s25) ∧
  R (.tuple #[.string s25, .bool true]) w))
theorem f53.eq (a0 : Nat) (xa1 : Int) (w : World) (R : Value → World → Prop) : f53.VC a0 xa1 w R = funV Try.prog Try.f53 f53.AL f53.AC #[.pointer (some ⟨a0, 0, none⟩), .int .i64 xa1] w R := by kernel_rfl
theorem f53.calls {a0 : Nat} {xa1 : Int} {w : World} {R : Value → World → Prop} (h : f53.VC a0 xa1 w R) : Calls Try.prog 53 #[.pointer (some ⟨a0, 0, none⟩), .int .i64 xa1] w fun e w' => ∃ v, e = .returned v ∧ R v w' :=
  funV_sound (fn := Try.f53) (AL := f53.AL) (AC := f53.AC) W0.mixed (by kernel_rfl) (by rw [← f53.eq a0 xa1]; exact h)

/-- (*gatehouse/gatehouseref01.Index).At -/
def f61.AL : Nat → Option Ann := fun _ => none
def f61.AC : Nat → Option Ann := fun _ => none
def f61.VC (a0 : Nat) (xa1 : Int) (w : World) (R : Value → World → Prop) : Prop :=
  sel (decide ((xa1 : Int) < (1 : Int))) (
  R (.tuple #[.string ⟨#[]⟩, .bool false]) w) (
  ∃ (A13 : Option Addr) (n13 c13 : Nat),
  w.cell? ⟨a0, 0, none⟩ = some (.slice A13 n13 c13) ∧
  sel (decide (((n13 : Int) : Int) < (xa1 : Int))) (
  R (.tuple #[.string ⟨#[]⟩, .bool false]) w) (
  ∃ (A20 : Option Addr) (n20 c20 : Nat),
  w.cell? ⟨a0, 0, none⟩ = some (.slice A20 n20 c20) ∧
  let i22 : Int := IntKind.i64.wrap (xa1 - 1);
  (0 : Int) ≤ i22 ∧ i22 < (n20 : Int) ∧
  needPtr A20 fun b23 o23 =>
  ∃ (s24 : ByteArray),
  w.cell? ⟨b23, o23 + i22.toNat * 1, none⟩ = some (.string s24) ∧
  R (.tuple #[.string s24, .bool true]) w))
theorem f61.eq (a0 : Nat) (xa1 : Int) (w : World) (R : Value → World → Prop) : f61.VC a0 xa1 w R = funV Try.prog Try.f61 f61.AL f61.AC #[.pointer (some ⟨a0, 0, none⟩), .int .i64 xa1] w R := by kernel_rfl
theorem f61.calls {a0 : Nat} {xa1 : Int} {w : World} {R : Value → World → Prop} (h : f61.VC a0 xa1 w R) : Calls Try.prog 61 #[.pointer (some ⟨a0, 0, none⟩), .int .i64 xa1] w fun e w' => ∃ v, e = .returned v ∧ R v w' :=
  funV_sound (fn := Try.f61) (AL := f61.AL) (AC := f61.AC) W0.mixed (by kernel_rfl) (by rw [← f61.eq a0 xa1]; exact h)

/-- (*gatehouse/page.eye).read -/
def f75.AL : Nat → Option Ann := fun _ => none
def f75.AC : Nat → Option Ann := fun _ => none
def f75.VC (a0 : Nat) (xa1 : Int) (w : World) (R : Value → World → Prop) : Prop :=
  sel (decide ((xa1 : Int) < (0 : Int))) (
  R (.tuple #[.int .i64 0, .bool false]) w) (
  ∃ (A13 : Option Addr) (n13 c13 : Nat),
  w.cell? ⟨a0, 0, none⟩ = some (.slice A13 n13 c13) ∧
  sel (decide (((n13 : Int) : Int) ≤ (xa1 : Int))) (
  R (.tuple #[.int .i64 0, .bool false]) w) (
  ∃ (x20 : Int),
  w.cell? ⟨a0, 1, none⟩ = some (.int .i64 x20) ∧
  let i21 : Int := IntKind.i64.wrap (x20 + 1);
  canStore w a0 1 1 ∧
  let w_1 : World := setCs w a0 1 [.int .i64 i21];
  ∃ (A27 : Option Addr) (n27 c27 : Nat),
  w_1.cell? ⟨a0, 0, none⟩ = some (.slice A27 n27 c27) ∧
  (0 : Int) ≤ xa1 ∧ xa1 < (n27 : Int) ∧
  needPtr A27 fun b29 o29 =>
  ∃ (x30 : Int),
  w_1.cell? ⟨b29, o29 + xa1.toNat * 1, none⟩ = some (.int .i64 x30) ∧
  R (.tuple #[.int .i64 x30, .bool true]) w_1))
theorem f75.eq (a0 : Nat) (xa1 : Int) (w : World) (R : Value → World → Prop) : f75.VC a0 xa1 w R = funV Try.prog Try.f75 f75.AL f75.AC #[.pointer (some ⟨a0, 0, none⟩), .int .i64 xa1] w R := by kernel_rfl
theorem f75.calls {a0 : Nat} {xa1 : Int} {w : World} {R : Value → World → Prop} (h : f75.VC a0 xa1 w R) : Calls Try.prog 75 #[.pointer (some ⟨a0, 0, none⟩), .int .i64 xa1] w fun e w' => ∃ v, e = .returned v ∧ R v w' :=
  funV_sound (fn := Try.f75) (AL := f75.AL) (AC := f75.AC) W0.mixed (by kernel_rfl) (by rw [← f75.eq a0 xa1]; exact h)

/-- gatehouse/page.power -/
def f76.AL : Nat → Option Ann := fun _ => none
def f76.AC : Nat → Option Ann := fun _ => none
def f76.VC (xa0 : Int) (w : World) (R : Value → World → Prop) : Prop :=
  sel (decide ((2 : Int) ≤ (xa0 : Int))) (
  sel (decide ((xa0 : Int) ≤ (4096 : Int))) (
  let i12 : Int := IntKind.i64.wrap (xa0 - 1);
  let i13 : Int := bitsI .and .i64 xa0 i12;
  R (.bool ((i13 : Int) == (0 : Int))) w) (
  R (.bool false) w)) (
  R (.bool false) w)
theorem f76.eq (xa0 : Int) (w : World) (R : Value → World → Prop) : f76.VC xa0 w R = funV Try.prog Try.f76 f76.AL f76.AC #[.int .i64 xa0] w R := by kernel_rfl
theorem f76.calls {xa0 : Int} {w : World} {R : Value → World → Prop} (h : f76.VC xa0 w R) : Calls Try.prog 76 #[.int .i64 xa0] w fun e w' => ∃ v, e = .returned v ∧ R v w' :=
  funV_sound (fn := Try.f76) (AL := f76.AL) (AC := f76.AC) W0.mixed (by kernel_rfl) (by rw [← f76.eq xa0]; exact h)

/-- (*gatehouse/gatehouseref01.Index).Find -/
def f80.AL : Nat → Option Ann := fun r => match r with | 2 => some ⟨[(6, .int .i64)], [0, 1]⟩ | _ => none
def f80.AC : Nat → Option Ann := fun _ => none
def f80.VC (a0 : Nat) (sa1 : ByteArray) (w : World) (R : Value → World → Prop) : Prop :=
  ∃ I : Int → World → Nat → Prop,
  (∃ n, I 0 w n) ∧
  ∀ d : Env, ∀ (x6 : Int) (w_1 : World) (r : Nat), I x6 w_1 r →
  ∃ (A11 : Option Addr) (n11 c11 : Nat),
  w_1.cell? ⟨a0, 0, none⟩ = some (.slice A11 n11 c11) ∧
  sel (decide ((x6 : Int) < ((n11 : Int) : Int))) (
  ∃ (A19 : Option Addr) (n19 c19 : Nat),
  w_1.cell? ⟨a0, 0, none⟩ = some (.slice A19 n19 c19) ∧
  (0 : Int) ≤ x6 ∧ x6 < (n19 : Int) ∧
  needPtr A19 fun b21 o21 =>
  ∃ (s22 : ByteArray),
  w_1.cell? ⟨b21, o21 + x6.toNat * 1, none⟩ = some (.string s22) ∧
  sel (decide (s22 = sa1)) (
  let i26 : Int := IntKind.i64.wrap (x6 + 1);
  R (.tuple #[.int .i64 i26, .bool true]) w_1) (
  let i15 : Int := IntKind.i64.wrap (x6 + 1);
  ([.pointer (some ⟨a0, 0, none⟩), .string sa1] : List Value) = ([.pointer (some ⟨a0, 0, none⟩), .string sa1] : List Value) ∧ ∃ m, m < r ∧ I i15 w_1 m)) (
  R (.tuple #[.int .i64 0, .bool false]) w_1)
theorem f80.eq (a0 : Nat) (sa1 : ByteArray) (w : World) (R : Value → World → Prop) : f80.VC a0 sa1 w R = funV Try.prog Try.f80 f80.AL f80.AC #[.pointer (some ⟨a0, 0, none⟩), .string sa1] w R := by kernel_rfl
theorem f80.calls {a0 : Nat} {sa1 : ByteArray} {w : World} {R : Value → World → Prop} (h : f80.VC a0 sa1 w R) : Calls Try.prog 80 #[.pointer (some ⟨a0, 0, none⟩), .string sa1] w fun e w' => ∃ v, e = .returned v ∧ R v w' :=
  funV_sound (fn := Try.f80) (AL := f80.AL) (AC := f80.AC) W0.mixed (by kernel_rfl) (by rw [← f80.eq a0 sa1]; exact h)

/-- (*gatehouse/names.Index[string]).Find -/
def f81.AL : Nat → Option Ann := fun _ => none
def f81.AC : Nat → Option Ann := fun _ => none
def f81.VC (a0 : Nat) (sa1 : ByteArray) (w : World) (R : Value → World → Prop) : Prop :=
  ∃ (m12 : Option Nat),
  w.cell? ⟨a0, 0, none⟩ = some (.map m12) ∧
  ∃ (x14_0 : Int) (b14_1 : Bool),
  ∃ w_1 : World, (Instr.lookup 120 (.map m12) (.string sa1) true).run Try.prog w = .ok (.tuple #[.int .i64 x14_0, .bool b14_1]) w_1 ∧
  R (.tuple #[.int .i64 x14_0, .bool b14_1]) w_1
theorem f81.eq (a0 : Nat) (sa1 : ByteArray) (w : World) (R : Value → World → Prop) : f81.VC a0 sa1 w R = funV Try.prog Try.f81 f81.AL f81.AC #[.pointer (some ⟨a0, 0, none⟩), .string sa1] w R := by kernel_rfl
theorem f81.calls {a0 : Nat} {sa1 : ByteArray} {w : World} {R : Value → World → Prop} (h : f81.VC a0 sa1 w R) : Calls Try.prog 81 #[.pointer (some ⟨a0, 0, none⟩), .string sa1] w fun e w' => ∃ v, e = .returned v ∧ R v w' :=
  funV_sound (fn := Try.f81) (AL := f81.AL) (AC := f81.AC) W0.mixed (by kernel_rfl) (by rw [← f81.eq a0 sa1]; exact h)

/-- (*gatehouse/gatehouseref12.Book).word -/
def f83.AL : Nat → Option Ann := fun _ => none
def f83.AC : Nat → Option Ann := fun _ => none
def f83.VC (a0 : Nat) (xa1 : Int) (w : World) (R : Value → World → Prop) : Prop :=
  ∃ (b8 : Bool),
  w.cell? ⟨a0, 2, none⟩ = some (.bool b8) ∧
  sel b8 (
  canStore w a0 2 1 ∧
  let w_1 : World := setCs w a0 2 [.bool true];
  R (.int .i64 0) w_1) (
  sel (decide ((xa1 : Int) < (0 : Int))) (
  canStore w a0 2 1 ∧
  let w_2 : World := setCs w a0 2 [.bool true];
  R (.int .i64 0) w_2) (
  ∃ (A18 : Option Addr) (n18 c18 : Nat),
  w.cell? ⟨a0, 0, none⟩ = some (.slice A18 n18 c18) ∧
  sel (decide (((n18 : Int) : Int) ≤ (xa1 : Int))) (
  canStore w a0 2 1 ∧
  let w_3 : World := setCs w a0 2 [.bool true];
  R (.int .i64 0) w_3) (
  ∃ (x28 : Int),
  w.cell? ⟨a0, 1, none⟩ = some (.int .i64 x28) ∧
  let i29 : Int := IntKind.i64.wrap (x28 + 1);
  canStore w a0 1 1 ∧
  let w_4 : World := setCs w a0 1 [.int .i64 i29];
  ∃ (A35 : Option Addr) (n35 c35 : Nat),
  w_4.cell? ⟨a0, 0, none⟩ = some (.slice A35 n35 c35) ∧
  (0 : Int) ≤ xa1 ∧ xa1 < (n35 : Int) ∧
  needPtr A35 fun b37 o37 =>
  ∃ (x38 : Int),
  w_4.cell? ⟨b37, o37 + xa1.toNat * 1, none⟩ = some (.int .i64 x38) ∧
  R (.int .i64 x38) w_4)))
theorem f83.eq (a0 : Nat) (xa1 : Int) (w : World) (R : Value → World → Prop) : f83.VC a0 xa1 w R = funV Try.prog Try.f83 f83.AL f83.AC #[.pointer (some ⟨a0, 0, none⟩), .int .i64 xa1] w R := by kernel_rfl
theorem f83.calls {a0 : Nat} {xa1 : Int} {w : World} {R : Value → World → Prop} (h : f83.VC a0 xa1 w R) : Calls Try.prog 83 #[.pointer (some ⟨a0, 0, none⟩), .int .i64 xa1] w fun e w' => ∃ v, e = .returned v ∧ R v w' :=
  funV_sound (fn := Try.f83) (AL := f83.AL) (AC := f83.AC) W0.mixed (by kernel_rfl) (by rw [← f83.eq a0 xa1]; exact h)

/-- gatehouse/gatehouseref12.power -/
def f84.AL : Nat → Option Ann := fun r => match r with | 2 => some ⟨[(3, .int .i64)], [0]⟩ | _ => none
def f84.AC : Nat → Option Ann := fun _ => none
def f84.VC (xa0 : Int) (w : World) (R : Value → World → Prop) : Prop :=
  ∃ I : Int → World → Nat → Prop,
  (∃ n, I 2 w n) ∧
  ∀ d : Env, ∀ (x3 : Int) (w_1 : World) (r : Nat), I x3 w_1 r →
  sel (decide ((x3 : Int) ≤ (4096 : Int))) (
  sel ((x3 : Int) == (xa0 : Int)) (
  R (.bool true) w_1) (
  let i7 : Int := IntKind.i64.wrap (2 * x3);
  ([.int .i64 xa0] : List Value) = ([.int .i64 xa0] : List Value) ∧ ∃ m, m < r ∧ I i7 w_1 m)) (
  R (.bool false) w_1)
theorem f84.eq (xa0 : Int) (w : World) (R : Value → World → Prop) : f84.VC xa0 w R = funV Try.prog Try.f84 f84.AL f84.AC #[.int .i64 xa0] w R := by kernel_rfl
theorem f84.calls {xa0 : Int} {w : World} {R : Value → World → Prop} (h : f84.VC xa0 w R) : Calls Try.prog 84 #[.int .i64 xa0] w fun e w' => ∃ v, e = .returned v ∧ R v w' :=
  funV_sound (fn := Try.f84) (AL := f84.AL) (AC := f84.AC) W0.mixed (by kernel_rfl) (by rw [← f84.eq xa0]; exact h)

end Go.Proofs.Ytjmlfknogjaemaa
/- Page: where the search for a key begins: the program's and the document's. -/
set_option linter.unusedVariables false
set_option linter.unusedSimpArgs false
set_option maxRecDepth 10000
namespace Go.Proofs.Ytjmlfknogjaemaa
open Go Go.Proofs.Ytjmlfknogjaemaa.Vc
namespace PG
open Vc.PG
theorem hashP (w : World) (key size : Int) (hs : size ≤ 9223372036854775807) : Calls Try.prog 11 #[.int .i64 key, .int .i64 size] w fun e w' => e = .returned (.int .i64 (pgHash key size)) ∧ Fr [] w w' := by
  refine Calls.mono (f11.calls (R := fun v w' => v = .int .i64 (pgHash key size) ∧ Fr [] w w') ?_) ?_
  · dsimp only [f11.VC]
    refine sel_of (fun hd => ?_) (fun hd => ?_)
    · have hd : size < 1 := of_decide_eq_true hd
      exact ⟨by unfold pgHash; rw [if_pos hd], Fr.refl _ _⟩
    · have hd : ¬ size < 1 := of_decide_eq_false hd
      refine ⟨by omega, ?_, Fr.refl _ _⟩
      rw [u16_wrap, i64_id (by omega) (by omega), tmod_pos (by omega)]
      unfold pgHash
      rw [if_neg hd]
  · rintro e w' ⟨v, rfl, rfl, h⟩; exact ⟨rfl, h⟩
end PG
end Go.Proofs.Ytjmlfknogjaemaa
