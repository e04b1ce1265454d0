/- Maps of any plain keys and values: what the operations do. -/
import Derived.Test.YtddbebhklmaeoaaM6
import Derived.MapKept
import Derived.Test.YtddbebhklmaeoaaM8
import Derived.Laws.StructEq
import Derived.Laws.Tables
import Derived.StillTactics
import Derived.KernelRfl
import Derived.Test.YtddbebhklmaeoaaM5
import Derived.Test.YtddbebhklmaeoaaProg
set_option linter.unusedVariables false
set_option linter.unusedSimpArgs false
set_option linter.unusedSectionVars false
namespace Go.Proofs.Ytddbebhklmaeoaa.Vc
namespace GM
open Go Go.MapKept
section
variable {K V : Type} [DecidableEq K]
/-- What a key's kind must keep: it may be one, it is found by its value, and it stays as it is. -/
structure KeyLaw (P : Program) (kt : TypeId) (enc : K → Value) : Prop where
  inj : ∀ a b, enc a = enc b → a = b
  check : ∀ (e : Bool) k w, (Instr.checkKey e 10000 kt (enc k)).run P w = .ok () w
  find : ∀ (k : K) (es : List MapEntry) (ks : List K) (w : World), es.map (·.key) = ks.map enc → (Instr.findKey kt (enc k) es).run P w = .ok (match ks.findIdx? (fun x => decide (x = k)) with | some j => (es[j]?).map fun e => (j, e.val) | none => none) w
  stays : ∀ k w, (Instr.keyThatStays (enc k) (enc k)).run P w = .ok (enc k) w
theorem findNow_law {d : TypeDesc} {enc : K → Value} (hs : ∀ a b, Instr.sameNow d (enc a) (enc b) = some (decide (a = b))) (k : K) : ∀ (es : List MapEntry) (ks : List K) (i : Nat), es.map (·.key) = ks.map enc →
    Instr.findNow d (enc k) es i = some (match ks.findIdx? (fun x => decide (x = k)) with | some j => (es[j]?).map fun e => (i + j, e.val) | none => none)
  | [], [], i, _ => rfl
  | [], _ :: _, _, h => by simp at h
  | _ :: _, [], _, h => by simp at h
  | e :: es, x :: ks, i, h => by
    simp only [List.map_cons, List.cons.injEq] at h
    simp only [Instr.findNow, h.1, hs, List.findIdx?_cons]
    by_cases hk : x = k
    · subst hk; simp
    · have e1 : decide (k = x) = false := by simp [Ne.symm hk]
      have e2 : decide (x = k) = false := by simp [hk]
      simp only [e1, e2, Bool.false_eq_true, if_false]
      rw [findNow_law hs k es ks (i + 1) h.2]
      cases List.findIdx? (fun x => decide (x = k)) ks with
      | none => rfl
      | some j =>
        simp only [Option.map_some, List.getElem?_cons_succ]
        congr 2
        funext e
        congr 1; omega
theorem findAsking_law {P : Program} {kt : TypeId} {enc : K → Value} (hq : ∀ a b w, (Op.equal kt (enc a) (enc b)).run P w = .ok (decide (a = b)) w) (k : K) (w : World) : ∀ (es : List MapEntry) (ks : List K) (i : Nat), es.map (·.key) = ks.map enc →
    (Instr.findAsking kt (enc k) es i).run P w = .ok (match ks.findIdx? (fun x => decide (x = k)) with | some j => (es[j]?).map fun e => (i + j, e.val) | none => none) w
  | [], [], i, _ => by simp [Instr.findAsking]
  | [], _ :: _, _, h => by simp at h
  | _ :: _, [], _, h => by simp at h
  | e :: es, x :: ks, i, h => by
    simp only [List.map_cons, List.cons.injEq] at h
    simp only [Instr.findAsking, h.1, Sem.run_bind, hq, Result.andThen_ok, List.findIdx?_cons]
    by_cases hk : x = k
    · subst hk; simp
    · have e1 : decide (k = x) = false := by simp [Ne.symm hk]
      have e2 : decide (x = k) = false := by simp [hk]
      simp only [e1, e2, Bool.false_eq_true, if_false]
      rw [findAsking_law hq k w es ks (i + 1) h.2]
      cases List.findIdx? (fun x => decide (x = k)) ks with
      | none => rfl
      | some j =>
        simp only [Option.map_some, List.getElem?_cons_succ]
        congr 2
        funext e
        congr 1; omega
theorem findNow_none {d : TypeDesc} {enc : K → Value} (hs : ∀ a b, Instr.sameNow d (enc a) (enc b) = none) (k : K) (e : MapEntry) (es : List MapEntry) (x : K) (hx : e.key = enc x) (i : Nat) : Instr.findNow d (enc k) (e :: es) i = none := by
  simp [Instr.findNow, hx, hs]
/-- Keys that are compared at once: numbers, texts. -/
theorem KeyLaw.now {P : Program} {kt : TypeId} {d : TypeDesc} {enc : K → Value} (hu : P.underlying kt = some d) (hk : ∀ k, IsKey d (enc k)) (hi : ∀ a b, enc a = enc b → a = b) (hs : ∀ a b, Instr.sameNow d (enc a) (enc b) = some (decide (a = b)))
    (hst : ∀ k w, (Instr.keyThatStays (enc k) (enc k)).run P w = .ok (enc k) w) : KeyLaw P kt enc where
  inj := hi
  check e k w := run_checkKey hu (hk k) e 9999
  find k es ks w h := by
    have := run_findKey (w := w) hu (findNow_law hs k es ks 0 h)
    simpa using this
  stays := hst
/-- Keys that are asked: structs, arrays. -/
theorem KeyLaw.asked {P : Program} {kt : TypeId} {d : TypeDesc} {enc : K → Value} (hu : P.underlying kt = some d) (hc : ∀ (e : Bool) k w, (Instr.checkKey e 10000 kt (enc k)).run P w = .ok () w) (hi : ∀ a b, enc a = enc b → a = b) (hs : ∀ a b, Instr.sameNow d (enc a) (enc b) = none)
    (hq : ∀ a b w, (Op.equal kt (enc a) (enc b)).run P w = .ok (decide (a = b)) w) (hst : ∀ k w, (Instr.keyThatStays (enc k) (enc k)).run P w = .ok (enc k) w) : KeyLaw P kt enc where
  inj := hi
  check := hc
  find k es ks w h := by
    match es, ks, h with
    | [], [], _ => simp [Instr.findKey, run_underlying hu, Instr.findNow]
    | e :: es, x :: ks, h =>
      have h2 := h
      simp only [List.map_cons, List.cons.injEq] at h2
      have := findAsking_law hq k w (e :: es) (x :: ks) 0 h
      simp only [Instr.findKey, Sem.run_bind, run_underlying hu, Result.andThen_ok, findNow_none hs k e es x h2.1 0]
      simpa using this
  stays := hst
/-- Texts as keys. -/
theorem beq_text (a b : ByteArray) : (a == b) = decide (a = b) := by
  rw [Bool.eq_iff_iff, bytes_beq]; simp
theorem KeyLaw.text {P : Program} {kt : TypeId} (hu : P.underlying kt = some .string) : KeyLaw P kt (fun s : ByteArray => Value.string s) :=
  KeyLaw.now hu (fun k => by simp [IsKey]) (fun a b h => by simpa using h) (fun a b => by simp [Instr.sameNow, beq_text])
    (fun k w => by simp [Instr.keyThatStays, Instr.sameBits, beq_text])
/-- A map in the heap. -/
def MapIs (encK : K → Value) (encV : V → Value) (w : World) (r : Nat) (l : List (K × V)) : Prop :=
  ∃ es clock, w.heap[r]? = some (.map es clock) ∧ es.toList.map (fun e => (e.key, e.val)) = l.map (fun p => (encK p.1, encV p.2)) ∧ Stamped es clock
def idx (l : List (K × V)) (k : K) : Option Nat := (l.map (·.1)).findIdx? (fun x => decide (x = k))
def get (d : V) (l : List (K × V)) (k : K) : V := match idx l k with | some j => (l.map (·.2)).getD j d | none => d
def has (l : List (K × V)) (k : K) : Bool := (idx l k).isSome
def put (l : List (K × V)) (k : K) (v : V) : List (K × V) := match idx l k with | some j => l.set j (k, v) | none => l ++ [(k, v)]
variable {encK : K → Value} {encV : V → Value}
theorem MapIs.lt {w : World} {r : Nat} {l : List (K × V)} (h : MapIs encK encV w r l) : r < w.heap.size := by
  obtain ⟨es, c, h, _⟩ := h
  exact (Array.getElem?_eq_some_iff.1 h).1
theorem MapIs.fr {S : List Nat} {w w' : World} {r : Nat} {l : List (K × V)} (h : MapIs encK encV w r l) (hf : Fr S w w') (hr : r ∉ S) : MapIs encK encV w' r l := by
  have hl := h.lt
  obtain ⟨es, c, h, h2⟩ := h
  exact ⟨es, c, by rw [hf.2 r hl hr, h], h2⟩
theorem MapIs.new (w : World) : MapIs encK encV (w.alloc (.map #[] 0)) w.heap.size [] := ⟨#[], 0, heap_alloc_new w _, rfl, stamped_empty 0⟩
theorem fr_map {w : World} {r : Nat} {es : Array MapEntry} {c : Nat} (h : w.heap[r]? = some (.map es c)) (es' : Array MapEntry) (c' : Nat) : Fr [r] w { w with heap := w.heap.setIfInBounds r (.map es' c') } := by
  refine ⟨by simp, fun b hb hS => (heap_set (o' := .map es' c') h).2 b (by simpa using hS), rfl, rfl, fun a _ => ?_⟩
  obtain ⟨h1, h2⟩ := heap_set (o' := .map es' c') h
  unfold World.frozen?
  by_cases ha : a.block = r
  · simp only [ha, h1, h]
  · simp only [h2 _ ha]
theorem keys_of {es : List MapEntry} {l : List (K × V)} (h : es.map (fun e => (e.key, e.val)) = l.map (fun p => (encK p.1, encV p.2))) : es.map (·.key) = (l.map (·.1)).map encK := by
  have := congrArg (List.map Prod.fst) h
  simpa [List.map_map, Function.comp_def] using this
theorem val_of {es : List MapEntry} {l : List (K × V)} (h : es.map (fun e => (e.key, e.val)) = l.map (fun p => (encK p.1, encV p.2))) {j : Nat} {d : V} (hj : j < l.length) : ∃ e, es[j]? = some e ∧ e.key = encK (l[j]).1 ∧ e.val = encV ((l.map (·.2)).getD j d) := by
  have hl : es.length = l.length := by simpa using congrArg List.length h
  have := congrArg (fun x => x[j]?) h
  simp only [List.getElem?_map] at this
  rw [List.getElem?_eq_getElem (show j < es.length by omega), List.getElem?_eq_getElem hj] at this
  simp only [Option.map_some, Option.some.injEq, Prod.mk.injEq] at this
  exact ⟨es[j], List.getElem?_eq_getElem _, this.1, by rw [this.2]; simp [List.getD_eq_getElem?_getD, hj]⟩
section
variable {P : Program} {w : World} {r : Nat} {l : List (K × V)} {t kt et : TypeId}
theorem look {i : TypeInfo} (ht : P.underlying t = some (.map kt et)) (hk : KeyLaw P kt encK) {d : V} (hi : P.info? et = some i) (hz : i.zero = some (encV d)) (h : MapIs encK encV w r l) (k : K) (ok : Bool) :
    (Instr.lookup t (.map (some r)) (encK k) ok).run P w = .ok (if ok then .tuple #[encV (get d l k), .bool (has l k)] else encV (get d l k)) w := by
  obtain ⟨es, c, h, h2, hs⟩ := h
  have hf := hk.find k es.toList (l.map (·.1)) w (keys_of h2)
  simp only [Instr.lookup, Sem.run_bind, run_underlying ht, Result.andThen_ok, Go.MapKept.run_getObj_map h, Sem.run_pure, hk.check, hf]
  unfold get has
  cases hx : idx l k with
  | none =>
    unfold idx at hx
    simp only [hx]
    cases ok <;> simp [zeroValue, typeInfo, hi, hz]
  | some j =>
    have hx' := hx
    unfold idx at hx
    have hj : j < l.length := by
      obtain ⟨h, _⟩ := List.findIdx?_eq_some_iff_getElem.mp hx
      simpa using h
    obtain ⟨e, e1, e2, e3⟩ := val_of (d := d) h2 hj
    simp only [hx, e1, Option.map_some, e3]
    cases ok <;> simp
theorem upd (ht : P.underlying t = some (.map kt et)) (hk : KeyLaw P kt encK) (h : MapIs encK encV w r l) (k : K) (v : V) :
    ∃ w', (Instr.mapUpdate t (.map (some r)) (encK k) (encV v)).run P w = .ok () w' ∧ MapIs encK encV w' r (put l k v) ∧ Fr [r] w w' := by
  obtain ⟨es, c, h, h2, hs⟩ := h
  have hf := hk.find k es.toList (l.map (·.1)) w (keys_of h2)
  have hlen : es.size = l.length := by simpa using congrArg List.length h2
  simp only [Instr.mapUpdate, Sem.run_bind, run_underlying ht, Result.andThen_ok, Go.MapKept.run_getObj_map h, hk.check, hf]
  cases hx : idx l k with
  | none =>
    have hx' := hx
    unfold idx at hx
    simp only [hx, Go.MapKept.run_setObj_map _ h]
    refine ⟨_, rfl, ⟨_, _, (heap_set h).1, ?_, stamped_push hs ?_⟩, fr_map h _ _⟩
    · simp [put, hx', h2]
    · intro x hxm he
      have h3 : (x.key, x.val) ∈ es.toList.map (fun e => (e.key, e.val)) := List.mem_map.2 ⟨x, hxm, rfl⟩
      rw [h2] at h3
      obtain ⟨p, hp, he2⟩ := List.mem_map.1 h3
      simp only [Prod.mk.injEq] at he2
      rw [he] at he2
      have h4 := hk.inj _ _ he2.1
      have h5 := List.findIdx?_eq_none_iff.1 hx p.1 (List.mem_map.2 ⟨p, hp, rfl⟩)
      simp [h4] at h5
  | some j =>
    have hx' := hx
    unfold idx at hx
    obtain ⟨hjl, hjk, _⟩ := List.findIdx?_eq_some_iff_getElem.mp hx
    have hj : j < l.length := by simpa using hjl
    have hkj : (l[j]).1 = k := by simpa using hjk
    obtain ⟨e, e1, e2, e3⟩ := val_of (d := v) h2 hj
    have hjs : j < es.size := by omega
    have e1' : es[j]? = some e := by simpa using e1
    have hst : (Instr.keyThatStays (((es[j]?).map (·.key)).getD (encK k)) (encK k)).run P w = .ok (encK k) w := by
      rw [e1']
      simp only [Option.map_some, Option.getD_some, e2, hkj]
      exact hk.stays k w
    simp only [hx, e1, Option.map_some, Sem.run_bind, hst, Result.andThen_ok, Go.MapKept.run_setObj_map _ h]
    refine ⟨_, rfl, ⟨_, _, (heap_set h).1, ?_, stamped_modify hs _ _ (fun _ _ => rfl) ?_⟩, fr_map h _ _⟩
    rotate_left
    · intro e' _ he
      rw [e1'] at he
      injection he with he
      subst he
      rw [e2, hkj]
    simp only [put, hx']
    apply List.ext_getElem?
    intro q
    have hq := congrArg (fun x => x[q]?) h2
    simp only [List.getElem?_map, Array.getElem?_toList] at hq
    simp only [List.getElem?_map, Array.getElem?_toList, Array.getElem?_modify, List.getElem?_set]
    by_cases hqj : j = q
    · subst hqj
      simp [hjs, hj]
    · simp [hqj, hq]
end
end
end GM
end Go.Proofs.Ytddbebhklmaeoaa.Vc
/- Triples, pairs and the like, held against one another; floats. -/
set_option linter.unusedVariables false
set_option linter.unusedSimpArgs false
set_option maxRecDepth 10000
namespace Go.Proofs.Ytddbebhklmaeoaa
open Go Go.Proofs.Ytddbebhklmaeoaa.Vc
namespace JG
abbrev Tri (a b c : ByteArray) : Value := .agg #[.string a, .string b, .string c]
theorem bytes_l {a b : ByteArray} : (a.toList == b.toList) = decide (a = b) := by
  rw [← beq_toListBytes]; exact GM.beq_text a b
theorem tol {a b : ByteArray} : a.toList = b.toList ↔ a = b :=
  ⟨fun h => by have := @bytes_l a b; rw [h] at this; simpa using this.symm, fun h => by rw [h]⟩
theorem eq3 (a b c d e f : ByteArray) (w : World) : (Op.equalIn 10000 37 (Tri a b c) (Tri d e f)).run Try.prog w = .ok (decide (a = d ∧ b = e ∧ c = f)) w := by
  have u9 := Try.underlying9
  have a9 := Try.isAgg9
  have z9 := Try.sizeOf9
  have hS : Try.prog.underlying 37 = some (.struct (Try.prog.fieldsOf 37)) := by kernel_rfl
  rw [show (10000 : Nat) = 9999 + 1 from rfl, run_equalIn_agg w 9999 37 _ _ hS (by kernel_rfl)]
  simp only [Program.fieldsOf, Try.underlying37]
  go_simp
  simp only [tol]
  by_cases h1 : a = d <;> by_cases h2 : b = e <;> by_cases h3 : c = f <;> simp [h1, h2, h3]
theorem guard37 (op : BinOp) (x y : Operand) (xs ys : Array Value) (w : World) : (eqGuard op 37 x y (.agg xs) (.agg ys)).run Try.prog w = .ok () w := run_eqGuard_agg w op 37 x y xs ys (by kernel_rfl)
theorem eqTri {x y : Operand} (a b c d e f : ByteArray) (w : World) : (do eqGuard .eql 37 x y (Tri a b c) (Tri d e f); binOp .eql 37 (Tri a b c) (Tri d e f) : Sem Value).run Try.prog w = .ok (.bool (decide (a = d ∧ b = e ∧ c = f))) w := by
  rw [Sem.run_bind, guard37, Result.andThen_ok, run_eql_struct, eq3]; rfl
/-- Floats. -/
def geF (x y : Nat) : Bool := FloatKind.f64.format.order x y == some .gt || FloatKind.f64.format.order x y == some .eq
def ltF (x y : Nat) : Bool := FloatKind.f64.format.order x y == some .lt
theorem run_ge (x y : Nat) (w : World) : (binOp .geq 86 (.float .f64 x) (.float .f64 y) : Sem Value).run Try.prog w = .ok (.bool (geF x y)) w := rfl
theorem run_lt (x y : Nat) (w : World) : (binOp .lss 86 (.float .f64 x) (.float .f64 y) : Sem Value).run Try.prog w = .ok (.bool (ltF x y)) w := rfl
end JG
end Go.Proofs.Ytddbebhklmaeoaa
/- The plain statements of some functions, printed by vcgen.py. -/
set_option maxRecDepth 100000
set_option maxHeartbeats 4000000
set_option linter.unusedVariables false
namespace Go.Proofs.Ytddbebhklmaeoaa
open Go Go.Proofs.Ytddbebhklmaeoaa.Vc
theorem W1.mixed : Try.prog.follows .mixedOrders = true := by kernel_rfl
/-- gatehouse/gatehouseref08.in -/
def f99.AL : Nat → Option Ann := fun r => match r with | 2 => some ⟨[(5, .int .i64)], [0, 1]⟩ | _ => none
/-- slices.Contains[[]string,string] -/
def f41.AL : Nat → Option Ann := fun _ => none
def f41.AC : Nat → Option Ann := fun _ => none
def f41.VC (Aa0 : Option Addr) (na0 ca0 : Nat) (sa1 : ByteArray) (w : World) (R : Value → World → Prop) : Prop :=
  Calls Try.prog 66 #[.slice Aa0 na0 ca0, .string sa1] w fun b0 d0 =>
  ∃ g0,
  b0 = .returned (.int .i64 g0) ∧
  R (.bool (decide ((0 : Int) ≤ (g0 : Int)))) d0
theorem f41.eq (Aa0 : Option Addr) (na0 ca0 : Nat) (sa1 : ByteArray) (w : World) (R : Value → World → Prop) : f41.VC Aa0 na0 ca0 sa1 w R = funV Try.prog Try.f41 f41.AL f41.AC #[.slice Aa0 na0 ca0, .string sa1] w R := by kernel_rfl
theorem f41.calls {Aa0 : Option Addr} {na0 ca0 : Nat} {sa1 : ByteArray} {w : World} {R : Value → World → Prop} (h : f41.VC Aa0 na0 ca0 sa1 w R) : Calls Try.prog 41 #[.slice Aa0 na0 ca0, .string sa1] w fun e w' => ∃ v, e = .returned v ∧ R v w' :=
  funV_sound (fn := Try.f41) (AL := f41.AL) (AC := f41.AC) W1.mixed (by kernel_rfl) (by rw [← f41.eq Aa0 na0 ca0 sa1]; exact h)

/-- slices.Index[[]string,string] -/
def f66.AL : Nat → Option Ann := fun r => match r with | 2 => some ⟨[(8, .int .i64)], [0, 1, 7]⟩ | _ => none
def f66.AC : Nat → Option Ann := fun _ => none
def f66.VC (Aa0 : Option Addr) (na0 ca0 : Nat) (sa1 : ByteArray) (w : World) (R : Value → World → Prop) : Prop :=
  ∃ b0 : Int → World → Nat → Prop,
  (∃ n, b0 0 w n) ∧
  ∀ d0 : Env, ∀ g0 h0 i0, b0 g0 h0 i0 →
  sel (decide ((g0 : Int) < ((na0 : Int) : Int))) (
  (0 : Int) ≤ g0 ∧ g0 < (na0 : Int) ∧
  needPtr Aa0 fun j0 k0 =>
  ∃ p0,
  h0.cell? ⟨j0, k0 + g0.toNat * 1, none⟩ = some (.string p0) ∧
  sel (decide (sa1 = p0)) (
  R (.int .i64 g0) h0) (
  let q0 : Int := IntKind.i64.wrap (g0 + 1);
  ([.slice Aa0 na0 ca0, .string sa1, .int .i64 (na0 : Int)] : List Value) = ([.slice Aa0 na0 ca0, .string sa1, .int .i64 (na0 : Int)] : List Value) ∧ ∃ m, m < i0 ∧ b0 q0 h0 m)) (
  R (.int .i64 (-1)) h0)
theorem f66.eq (Aa0 : Option Addr) (na0 ca0 : Nat) (sa1 : ByteArray) (w : World) (R : Value → World → Prop) : f66.VC Aa0 na0 ca0 sa1 w R = funV Try.prog Try.f66 f66.AL f66.AC #[.slice Aa0 na0 ca0, .string sa1] w R := by kernel_rfl
theorem f66.calls {Aa0 : Option Addr} {na0 ca0 : Nat} {sa1 : ByteArray} {w : World} {R : Value → World → Prop} (h : f66.VC Aa0 na0 ca0 sa1 w R) : Calls Try.prog 66 #[.slice Aa0 na0 ca0, .string sa1] w fun e w' => ∃ v, e = .returned v ∧ R v w' :=
  funV_sound (fn := Try.f66) (AL := f66.AL) (AC := f66.AC) W1.mixed (by kernel_rfl) (by rw [← f66.eq Aa0 na0 ca0 sa1]; exact h)

/-- slices.Contains[[]gatehouse/api.Triple,gatehouse/api.Triple] -/
def f68.AL : Nat → Option Ann := fun _ => none
def f68.AC : Nat → Option Ann := fun _ => none
def f68.VC (Aa0 : Option Addr) (na0 ca0 : Nat) (sa1_0 : ByteArray) (sa1_1 : ByteArray) (sa1_2 : ByteArray) (w : World) (R : Value → World → Prop) : Prop :=
  let b0 := World.alloc w (.cells #[.string sa1_0, .string sa1_1, .string sa1_2] 37);
  ∃ d0,
  b0.cell? ⟨w.heap.size, 0, none⟩ = some (.string d0) ∧
  ∃ g0,
  b0.cell? ⟨w.heap.size, 1, none⟩ = some (.string g0) ∧
  ∃ h0,
  b0.cell? ⟨w.heap.size, 2, none⟩ = some (.string h0) ∧
  Calls Try.prog 90 #[.slice Aa0 na0 ca0, .agg #[.string d0, .string g0, .string h0]] b0 fun i0 j0 =>
  ∃ k0,
  i0 = .returned (.int .i64 k0) ∧
  R (.bool (decide ((0 : Int) ≤ (k0 : Int)))) j0
theorem f68.eq (Aa0 : Option Addr) (na0 ca0 : Nat) (sa1_0 : ByteArray) (sa1_1 : ByteArray) (sa1_2 : ByteArray) (w : World) (R : Value → World → Prop) : f68.VC Aa0 na0 ca0 sa1_0 sa1_1 sa1_2 w R = funV Try.prog Try.f68 f68.AL f68.AC #[.slice Aa0 na0 ca0, .agg #[.string sa1_0, .string sa1_1, .string sa1_2]] w R := by kernel_rfl
theorem f68.calls {Aa0 : Option Addr} {na0 ca0 : Nat} {sa1_0 : ByteArray} {sa1_1 : ByteArray} {sa1_2 : ByteArray} {w : World} {R : Value → World → Prop} (h : f68.VC Aa0 na0 ca0 sa1_0 sa1_1 sa1_2 w R) : Calls Try.prog 68 #[.slice Aa0 na0 ca0, .agg #[.string sa1_0, .string sa1_1, .string sa1_2]] w fun e w' => ∃ v, e = .returned v ∧ R v w' :=
  funV_sound (fn := Try.f68) (AL := f68.AL) (AC := f68.AC) W1.mixed (by kernel_rfl) (by rw [← f68.eq Aa0 na0 ca0 sa1_0 sa1_1 sa1_2]; exact h)

/-- slices.Index[[]gatehouse/api.Triple,gatehouse/api.Triple] -/
def f90.AL : Nat → Option Ann := fun r => match r with | 2 => some ⟨[(8, .int .i64)], [0, 3, 7]⟩ | _ => none
def f90.AC : Nat → Option Ann := fun _ => none
def f90.VC (Aa0 : Option Addr) (na0 ca0 : Nat) (sa1_0 : ByteArray) (sa1_1 : ByteArray) (sa1_2 : ByteArray) (w : World) (R : Value → World → Prop) : Prop :=
  let b0 := World.alloc w (.cells #[.string sa1_0, .string sa1_1, .string sa1_2] 37);
  ∃ d0 : Int → World → Nat → Prop,
  (∃ n, d0 0 b0 n) ∧
  ∀ g0 : Env, ∀ h0 i0 j0, d0 h0 i0 j0 →
  sel (decide ((h0 : Int) < ((na0 : Int) : Int))) (
  (0 : Int) ≤ h0 ∧ h0 < (na0 : Int) ∧
  needPtr Aa0 fun k0 p0 =>
  ∃ q0,
  i0.cell? ⟨w.heap.size, 0, none⟩ = some (.string q0) ∧
  ∃ t0,
  i0.cell? ⟨w.heap.size, 1, none⟩ = some (.string t0) ∧
  ∃ u0,
  i0.cell? ⟨w.heap.size, 2, none⟩ = some (.string u0) ∧
  ∃ v0,
  i0.cell? ⟨k0, p0 + h0.toNat * 3, none⟩ = some (.string v0) ∧
  ∃ x0,
  i0.cell? ⟨k0, p0 + h0.toNat * 3 + 1, none⟩ = some (.string x0) ∧
  ∃ y0,
  i0.cell? ⟨k0, p0 + h0.toNat * 3 + 1 + 1, none⟩ = some (.string y0) ∧
  ∃ z0 : Bool, (∀ w', (do eqGuard .eql 37 (.tmp 11) (.tmp 15) (.agg #[.string q0, .string t0, .string u0]) (.agg #[.string v0, .string x0, .string y0]); binOp .eql 37 (.agg #[.string q0, .string t0, .string u0]) (.agg #[.string v0, .string x0, .string y0]) : Sem Value).run Try.prog w' = .ok (.bool z0) w') ∧
  sel z0 (
  R (.int .i64 h0) i0.drew) (
  let b1 : Int := IntKind.i64.wrap (h0 + 1);
  ([.slice Aa0 na0 ca0, .pointer (some ⟨w.heap.size, 0, none⟩), .int .i64 (na0 : Int)] : List Value) = ([.slice Aa0 na0 ca0, .pointer (some ⟨w.heap.size, 0, none⟩), .int .i64 (na0 : Int)] : List Value) ∧ ∃ m, m < j0 ∧ d0 b1 i0.drew m)) (
  R (.int .i64 (-1)) i0)
theorem f90.eq (Aa0 : Option Addr) (na0 ca0 : Nat) (sa1_0 : ByteArray) (sa1_1 : ByteArray) (sa1_2 : ByteArray) (w : World) (R : Value → World → Prop) : f90.VC Aa0 na0 ca0 sa1_0 sa1_1 sa1_2 w R = funV Try.prog Try.f90 f90.AL f90.AC #[.slice Aa0 na0 ca0, .agg #[.string sa1_0, .string sa1_1, .string sa1_2]] w R := by kernel_rfl
theorem f90.calls {Aa0 : Option Addr} {na0 ca0 : Nat} {sa1_0 : ByteArray} {sa1_1 : ByteArray} {sa1_2 : ByteArray} {w : World} {R : Value → World → Prop} (h : f90.VC Aa0 na0 ca0 sa1_0 sa1_1 sa1_2 w R) : Calls Try.prog 90 #[.slice Aa0 na0 ca0, .agg #[.string sa1_0, .string sa1_1, .string sa1_2]] w fun e w' => ∃ v, e = .returned v ∧ R v w' :=
  funV_sound (fn := Try.f90) (AL := f90.AL) (AC := f90.AC) W1.mixed (by kernel_rfl) (by rw [← f90.eq Aa0 na0 ca0 sa1_0 sa1_1 sa1_2]; exact h)

/-- gatehouse/mean.Passes -/
def f92.AL : Nat → Option Ann := fun _ => none
def f92.AC : Nat → Option Ann := fun _ => none
def f92.VC (ba0_0 : Bool) (sa0_1 : ByteArray) (sa0_2 : ByteArray) (Aa0_3 : Option Addr) (na0_3 ca0_3 : Nat) (xa0_4 : Int) (fa0_5 : Nat) (fa1 : Nat) (w : World) (R : Value → World → Prop) : Prop :=
  let b0 := World.alloc w (.cells #[.bool ba0_0, .string sa0_1, .string sa0_2, .slice Aa0_3 na0_3 ca0_3, .int .i8 xa0_4, .float .f64 fa0_5] 88);
  ∃ d0,
  b0.cell? ⟨w.heap.size, 4, none⟩ = some (.int .i8 d0) ∧
  sel ((d0 : Int) == (0 : Int)) (
  R (.bool true) b0) (
  sel ((d0 : Int) == (1 : Int)) (
  ∃ g0,
  b0.cell? ⟨w.heap.size, 5, none⟩ = some (.float .f64 g0) ∧
  ∃ h0 : Bool, (∀ w', (binOp .geq 86 (.float .f64 fa1) (.float .f64 g0) : Sem Value).run Try.prog w' = .ok (.bool h0) w') ∧
  R (.bool h0) b0) (
  sel ((d0 : Int) == (2 : Int)) (
  ∃ i0,
  b0.cell? ⟨w.heap.size, 5, none⟩ = some (.float .f64 i0) ∧
  ∃ j0 : Bool, (∀ w', (binOp .lss 86 (.float .f64 fa1) (.float .f64 i0) : Sem Value).run Try.prog w' = .ok (.bool j0) w') ∧
  R (.bool j0) b0) (
  R (.bool false) b0)))
theorem f92.eq (ba0_0 : Bool) (sa0_1 : ByteArray) (sa0_2 : ByteArray) (Aa0_3 : Option Addr) (na0_3 ca0_3 : Nat) (xa0_4 : Int) (fa0_5 : Nat) (fa1 : Nat) (w : World) (R : Value → World → Prop) : f92.VC ba0_0 sa0_1 sa0_2 Aa0_3 na0_3 ca0_3 xa0_4 fa0_5 fa1 w R = funV Try.prog Try.f92 f92.AL f92.AC #[.agg #[.bool ba0_0, .string sa0_1, .string sa0_2, .slice Aa0_3 na0_3 ca0_3, .int .i8 xa0_4, .float .f64 fa0_5], .float .f64 fa1] w R := by kernel_rfl
theorem f92.calls {ba0_0 : Bool} {sa0_1 : ByteArray} {sa0_2 : ByteArray} {Aa0_3 : Option Addr} {na0_3 ca0_3 : Nat} {xa0_4 : Int} {fa0_5 : Nat} {fa1 : Nat} {w : World} {R : Value → World → Prop} (h : f92.VC ba0_0 sa0_1 sa0_2 Aa0_3 na0_3 ca0_3 xa0_4 fa0_5 fa1 w R) : Calls Try.prog 92 #[.agg #[.bool ba0_0, .string sa0_1, .string sa0_2, .slice Aa0_3 na0_3 ca0_3, .int .i8 xa0_4, .float .f64 fa0_5], .float .f64 fa1] w fun e w' => ∃ v, e = .returned v ∧ R v w' :=
  funV_sound (fn := Try.f92) (AL := f92.AL) (AC := f92.AC) W1.mixed (by kernel_rfl) (by rw [← f92.eq ba0_0 sa0_1 sa0_2 Aa0_3 na0_3 ca0_3 xa0_4 fa0_5 fa1]; exact h)

/-- (gatehouse/mean.side).has -/
def f91.AL : Nat → Option Ann := fun _ => none
def f91.AC : Nat → Option Ann := fun _ => none
def f91.VC (sa0_0 : ByteArray) (fa0_1 : Nat) (ma0_2 : Option Nat) (sa1 : ByteArray) (w : World) (R : Value → World → Prop) : Prop :=
  let b0 := World.alloc w (.cells #[.string sa0_0, .float .f64 fa0_1, .map ma0_2] 103);
  ∃ d0,
  b0.cell? ⟨w.heap.size, 2, none⟩ = some (.map d0) ∧
  ∃ g0,
  ∃ h0, (Instr.lookup 101 (.map d0) (.string sa1) true).run Try.prog b0 = .ok (.tuple #[.agg #[], .bool g0]) h0 ∧
  let i0 := World.alloc h0 (.cells #[] 150);
  canStore i0 h0.heap.size 0 0 ∧
  let j0 := setCs i0 h0.heap.size 0 [];
  R (.bool g0) j0
theorem f91.eq (sa0_0 : ByteArray) (fa0_1 : Nat) (ma0_2 : Option Nat) (sa1 : ByteArray) (w : World) (R : Value → World → Prop) : f91.VC sa0_0 fa0_1 ma0_2 sa1 w R = funV Try.prog Try.f91 f91.AL f91.AC #[.agg #[.string sa0_0, .float .f64 fa0_1, .map ma0_2], .string sa1] w R := by kernel_rfl
theorem f91.calls {sa0_0 : ByteArray} {fa0_1 : Nat} {ma0_2 : Option Nat} {sa1 : ByteArray} {w : World} {R : Value → World → Prop} (h : f91.VC sa0_0 fa0_1 ma0_2 sa1 w R) : Calls Try.prog 91 #[.agg #[.string sa0_0, .float .f64 fa0_1, .map ma0_2], .string sa1] w fun e w' => ∃ v, e = .returned v ∧ R v w' :=
  funV_sound (fn := Try.f91) (AL := f91.AL) (AC := f91.AC) W1.mixed (by kernel_rfl) (by rw [← f91.eq sa0_0 fa0_1 ma0_2 sa1]; exact h)

/-- gatehouse/mean.names -/
def f67.AL : Nat → Option Ann := fun _ => none
def f67.AC : Nat → Option Ann := fun _ => none
def f67.VC (ba0_0 : Bool) (sa0_1 : ByteArray) (sa0_2 : ByteArray) (Aa0_3 : Option Addr) (na0_3 ca0_3 : Nat) (xa0_4 : Int) (fa0_5 : Nat) (sa1 : ByteArray) (w : World) (R : Value → World → Prop) : Prop :=
  let b0 := World.alloc w (.cells #[.bool ba0_0, .string sa0_1, .string sa0_2, .slice Aa0_3 na0_3 ca0_3, .int .i8 xa0_4, .float .f64 fa0_5] 88);
  ∃ d0 g0 h0,
  b0.cell? ⟨w.heap.size, 3, none⟩ = some (.slice d0 g0 h0) ∧
  sel (((g0 : Int) : Int) == (0 : Int)) (
  R (.bool true) b0) (
  ∃ i0 j0 k0,
  b0.cell? ⟨w.heap.size, 3, none⟩ = some (.slice i0 j0 k0) ∧
  Calls Try.prog 41 #[.slice i0 j0 k0, .string sa1] b0 fun p0 q0 =>
  ∃ t0,
  p0 = .returned (.bool t0) ∧
  R (.bool t0) q0)
theorem f67.eq (ba0_0 : Bool) (sa0_1 : ByteArray) (sa0_2 : ByteArray) (Aa0_3 : Option Addr) (na0_3 ca0_3 : Nat) (xa0_4 : Int) (fa0_5 : Nat) (sa1 : ByteArray) (w : World) (R : Value → World → Prop) : f67.VC ba0_0 sa0_1 sa0_2 Aa0_3 na0_3 ca0_3 xa0_4 fa0_5 sa1 w R = funV Try.prog Try.f67 f67.AL f67.AC #[.agg #[.bool ba0_0, .string sa0_1, .string sa0_2, .slice Aa0_3 na0_3 ca0_3, .int .i8 xa0_4, .float .f64 fa0_5], .string sa1] w R := by kernel_rfl
theorem f67.calls {ba0_0 : Bool} {sa0_1 : ByteArray} {sa0_2 : ByteArray} {Aa0_3 : Option Addr} {na0_3 ca0_3 : Nat} {xa0_4 : Int} {fa0_5 : Nat} {sa1 : ByteArray} {w : World} {R : Value → World → Prop} (h : f67.VC ba0_0 sa0_1 sa0_2 Aa0_3 na0_3 ca0_3 xa0_4 fa0_5 sa1 w R) : Calls Try.prog 67 #[.agg #[.bool ba0_0, .string sa0_1, .string sa0_2, .slice Aa0_3 na0_3 ca0_3, .int .i8 xa0_4, .float .f64 fa0_5], .string sa1] w fun e w' => ∃ v, e = .returned v ∧ R v w' :=
  funV_sound (fn := Try.f67) (AL := f67.AL) (AC := f67.AC) W1.mixed (by kernel_rfl) (by rw [← f67.eq ba0_0 sa0_1 sa0_2 Aa0_3 na0_3 ca0_3 xa0_4 fa0_5 sa1]; exact h)

/-- gatehouse/mean.speaks -/
def f69.AL : Nat → Option Ann := fun _ => none
def f69.AC : Nat → Option Ann := fun _ => none
def f69.VC (ba0_0 : Bool) (sa0_1 : ByteArray) (sa0_2 : ByteArray) (Aa0_3 : Option Addr) (na0_3 ca0_3 : Nat) (xa0_4 : Int) (fa0_5 : Nat) (sa1_0 : ByteArray) (fa1_1 : Nat) (ma1_2 : Option Nat) (sa2_0 : ByteArray) (fa2_1 : Nat) (ma2_2 : Option Nat) (w : World) (R : Value → World → Prop) : Prop :=
  let b0 := World.alloc w (.cells #[.bool ba0_0, .string sa0_1, .string sa0_2, .slice Aa0_3 na0_3 ca0_3, .int .i8 xa0_4, .float .f64 fa0_5] 88);
  let d0 := World.alloc b0 (.cells #[.string sa1_0, .float .f64 fa1_1, .map ma1_2] 103);
  let g0 := World.alloc d0 (.cells #[.string sa2_0, .float .f64 fa2_1, .map ma2_2] 103);
  ∃ h0,
  g0.cell? ⟨b0.heap.size, 0, none⟩ = some (.string h0) ∧
  ∃ i0,
  g0.cell? ⟨b0.heap.size, 1, none⟩ = some (.float .f64 i0) ∧
  ∃ j0,
  g0.cell? ⟨b0.heap.size, 2, none⟩ = some (.map j0) ∧
  ∃ k0,
  g0.cell? ⟨w.heap.size, 1, none⟩ = some (.string k0) ∧
  Calls Try.prog 91 #[.agg #[.string h0, .float .f64 i0, .map j0], .string k0] g0 fun p0 q0 =>
  ∃ t0,
  p0 = .returned (.bool t0) ∧
  sel t0 (
  ∃ u0,
  q0.cell? ⟨d0.heap.size, 0, none⟩ = some (.string u0) ∧
  ∃ v0,
  q0.cell? ⟨d0.heap.size, 1, none⟩ = some (.float .f64 v0) ∧
  ∃ x0,
  q0.cell? ⟨d0.heap.size, 2, none⟩ = some (.map x0) ∧
  ∃ y0,
  q0.cell? ⟨w.heap.size, 2, none⟩ = some (.string y0) ∧
  Calls Try.prog 91 #[.agg #[.string u0, .float .f64 v0, .map x0], .string y0] q0 fun z0 b1 =>
  ∃ d1,
  z0 = .returned (.bool d1) ∧
  sel d1 (
  ∃ g1,
  b1.cell? ⟨w.heap.size, 0, none⟩ = some (.bool g1) ∧
  ∃ h1,
  b1.cell? ⟨w.heap.size, 1, none⟩ = some (.string h1) ∧
  ∃ i1,
  b1.cell? ⟨w.heap.size, 2, none⟩ = some (.string i1) ∧
  ∃ j1 k1 p1,
  b1.cell? ⟨w.heap.size, 3, none⟩ = some (.slice j1 k1 p1) ∧
  ∃ q1,
  b1.cell? ⟨w.heap.size, 4, none⟩ = some (.int .i8 q1) ∧
  ∃ t1,
  b1.cell? ⟨w.heap.size, 5, none⟩ = some (.float .f64 t1) ∧
  ∃ u1,
  b1.cell? ⟨b0.heap.size, 1, none⟩ = some (.float .f64 u1) ∧
  Calls Try.prog 92 #[.agg #[.bool g1, .string h1, .string i1, .slice j1 k1 p1, .int .i8 q1, .float .f64 t1], .float .f64 u1] b1 fun v1 x1 =>
  ∃ y1,
  v1 = .returned (.bool y1) ∧
  R (.bool y1) x1) (
  R (.bool false) b1)) (
  R (.bool false) q0)
theorem f69.eq (ba0_0 : Bool) (sa0_1 : ByteArray) (sa0_2 : ByteArray) (Aa0_3 : Option Addr) (na0_3 ca0_3 : Nat) (xa0_4 : Int) (fa0_5 : Nat) (sa1_0 : ByteArray) (fa1_1 : Nat) (ma1_2 : Option Nat) (sa2_0 : ByteArray) (fa2_1 : Nat) (ma2_2 : Option Nat) (w : World) (R : Value → World → Prop) : f69.VC ba0_0 sa0_1 sa0_2 Aa0_3 na0_3 ca0_3 xa0_4 fa0_5 sa1_0 fa1_1 ma1_2 sa2_0 fa2_1 ma2_2 w R = funV Try.prog Try.f69 f69.AL f69.AC #[.agg #[.bool ba0_0, .string sa0_1, .string sa0_2, .slice Aa0_3 na0_3 ca0_3, .int .i8 xa0_4, .float .f64 fa0_5], .agg #[.string sa1_0, .float .f64 fa1_1, .map ma1_2], .agg #[.string sa2_0, .float .f64 fa2_1, .map ma2_2]] w R := by kernel_rfl
theorem f69.calls {ba0_0 : Bool} {sa0_1 : ByteArray} {sa0_2 : ByteArray} {Aa0_3 : Option Addr} {na0_3 ca0_3 : Nat} {xa0_4 : Int} {fa0_5 : Nat} {sa1_0 : ByteArray} {fa1_1 : Nat} {ma1_2 : Option Nat} {sa2_0 : ByteArray} {fa2_1 : Nat} {ma2_2 : Option Nat} {w : World} {R : Value → World → Prop} (h : f69.VC ba0_0 sa0_1 sa0_2 Aa0_3 na0_3 ca0_3 xa0_4 fa0_5 sa1_0 fa1_1 ma1_2 sa2_0 fa2_1 ma2_2 w R) : Calls Try.prog 69 #[.agg #[.bool ba0_0, .string sa0_1, .string sa0_2, .slice Aa0_3 na0_3 ca0_3, .int .i8 xa0_4, .float .f64 fa0_5], .agg #[.string sa1_0, .float .f64 fa1_1, .map ma1_2], .agg #[.string sa2_0, .float .f64 fa2_1, .map ma2_2]] w fun e w' => ∃ v, e = .returned v ∧ R v w' :=
  funV_sound (fn := Try.f69) (AL := f69.AL) (AC := f69.AC) W1.mixed (by kernel_rfl) (by rw [← f69.eq ba0_0 sa0_1 sa0_2 Aa0_3 na0_3 ca0_3 xa0_4 fa0_5 sa1_0 fa1_1 ma1_2 sa2_0 fa2_1 ma2_2]; exact h)

end Go.Proofs.Ytddbebhklmaeoaa
/- What a policy allows: the document's small functions. -/
set_option linter.unusedVariables false
set_option linter.unusedSimpArgs false
set_option maxRecDepth 10000
namespace Go.Proofs.Ytddbebhklmaeoaa
open Go Go.Proofs.Ytddbebhklmaeoaa.Vc
namespace JG
open Vc.PG JD
theorem inc (i n : Nat) (hn : n ≤ 1000000000) (hi : i ≤ n) : IntKind.i64.wrap ((i : Int) + 1) = ((i + 1 : Nat) : Int) := by rw [i64_id (by omega) (by omega)]; omega
/-- A text of a list. -/
theorem RdL.str {w : World} {x : Sl} {l : List ByteArray} (h : RdL .str w x l) (hp : 0 < x.2.1) : ∃ b o, x.1 = some ⟨b, o, none⟩ ∧ ∀ q, q < x.2.1 → w.cell? ⟨b, o + q * 1, none⟩ = some (.string (l.getD q ByteArray.empty)) := by
  obtain ⟨b, o, h1, h2⟩ := RdL.flat (e := .str) rfl h hp
  exact ⟨b, o, h1, fun q hq => h2 q hq 0 _ rfl⟩
/-- A policy's lists are no longer than what may be handed in. -/
structure SmallP (p : PolD) : Prop where
  a : p.1.length ≤ 1100000
  s : p.2.1.length ≤ 1100000
  r : p.2.2.1.length ≤ 1100000
  o : p.2.2.2.1.length ≤ 1100000
  g : p.2.2.2.2.1.length ≤ 1100000
  m : p.2.2.2.2.2.1.length ≤ 1100000
  i : p.2.2.2.2.2.2.1.length ≤ 1100000
  q : p.2.2.2.2.2.2.2.1.length ≤ 1100000
  t : p.2.2.2.2.2.2.2.2.1.length ≤ 1100000
  u : p.2.2.2.2.2.2.2.2.2.1.length ≤ 1100000
  e : p.2.2.2.2.2.2.2.2.2.2.1.length ≤ 1100000
  x : ∀ r ∈ p.2.2.2.2.2.2.2.2.2.1, r.2.2.2.1.length ≤ 1100000
theorem trustOf_drop (l : List SubjD) (s : ByteArray) : ∀ (i : Nat), i ≤ l.length → (∀ a, a < i → (l.getD a (ByteArray.empty, 0, ())).1 ≠ s) → trustOf (l.drop i) s = trustOf l s
  | 0, _, _ => by simp
  | i + 1, h, hno => by
    rw [← trustOf_drop l s i (by omega) (fun a ha => hno a (by omega))]
    rw [drop_cons (ByteArray.empty, 0, ()) l i (by omega), trustOf, if_neg (hno i (by omega))]
end JG
end Go.Proofs.Ytddbebhklmaeoaa
