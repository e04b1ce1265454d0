/- Maps: an entry that is added to; arrays of numbers as keys. -/
import Derived.Test.YtjmlfknogjaemaaDoorM8
import Derived.WideKeyEntry
import Derived.ChangeKeysEq
import Derived.Test.YtjmlfknogjaemaaDoorM5
import Derived.Test.YtjmlfknogjaemaaDoorProg
import Derived.KernelRfl
set_option linter.unusedVariables false
set_option linter.unusedSimpArgs false
set_option linter.unusedSectionVars false
namespace Go.Proofs.YtjmlfknogjaemaaDoor.Vc
namespace GM
open Go Go.MapKept
section
variable {K V : Type} [DecidableEq K] {encK : K → Value} {encV : V → Value}
def ent (d : V) (l : List (K × V)) (k : K) : List (K × V) := match idx l k with | some _ => l | none => l ++ [(k, d)]
theorem idx_snoc {l : List (K × V)} {k : K} {v : V} (h : idx l k = none) : idx (l ++ [(k, v)]) k = some l.length := by
  unfold idx at *
  rw [List.map_append, List.findIdx?_append, h]
  simp
theorem get_ent (d : V) (l : List (K × V)) (k : K) : get d (ent d l k) k = get d l k := by
  unfold ent
  cases h : idx l k with
  | some j => rfl
  | none =>
    dsimp only
    unfold get
    rw [idx_snoc h, h]
    simp [List.getD_eq_getElem?_getD]
theorem store_at {w : World} {r : Nat} {l : List (K × V)} {es : Array MapEntry} {c : Nat} {P : Program} {t : TypeId} (h : w.heap[r]? = some (.map es c)) (h2 : es.toList.map (fun e => (e.key, e.val)) = l.map (fun p => (encK p.1, encV p.2))) (hs : Stamped es c)
    {j : Nat} (hj : j < l.length) {k : K} (hk : (l[j]).1 = k) {e0 : MapEntry} (he : es.toList[j]? = some e0) (v : V) :
    ∃ w', (Instr.entryStore t (.map (some r)) (.int .i64 (e0.born : Int)) (encV v)).run P w = .ok () w' ∧ MapIs encK encV w' r (l.set j (k, v)) ∧ Fr [r] w w' := by
  obtain ⟨s1, s2, s3⟩ := hs
  have hidx : es.findIdx? (fun e => ((e.born : Nat) : Int) == ((e0.born : Nat) : Int)) = some j := by
    rw [Go.WideElems.findIdx_arr]
    exact Go.WideElems.findIdx_born s2 he
  have hjs : j < es.size := by
    have := congrArg List.length h2
    simp at this; omega
  have hrun : (Instr.entryStore t (.map (some r)) (.int .i64 (e0.born : Int)) (encV v)).run P w = .ok () { w with heap := w.heap.setIfInBounds r (.map (es.modify j fun e => { e with val := encV v }) c) } := by
    simp only [Instr.entryStore, Sem.run_bind, Go.MapKept.run_getObj_map h, Result.andThen_ok, asInt, asIntOf, Sem.run_pure, hidx, Go.MapKept.run_setObj_map _ h]
  refine ⟨_, hrun, ⟨_, _, (heap_set h).1, ?_, stamped_modify ⟨s1, s2, s3⟩ j (fun e => { e with val := encV v }) (fun _ _ => rfl) (fun _ _ _ => rfl)⟩, fr_map h _ _⟩
  apply List.ext_getElem?
  intro q
  have hq := congrArg (fun x => x[q]?) h2
  simp only [List.getElem?_map, Array.getElem?_toList] at hq
  simp only [List.getElem?_map, Array.getElem?_toList, Array.getElem?_modify, List.getElem?_set]
  by_cases hqj : j = q
  · subst hqj
    rw [← hk]
    simp only [List.getElem?_eq_getElem hj, Option.map_some] at hq
    cases hx : es[j]? with
    | none => rw [hx] at hq; simp at hq
    | some e => rw [hx] at hq; simp at hq; simp [hx, hj, hq.1]
  · simp [hqj, hq]
theorem entry {P : Program} {w : World} {r : Nat} {l : List (K × V)} {t kt et : TypeId} {i : TypeInfo} (ht : P.underlying t = some (.map kt et)) (hk : KeyLaw P kt encK) {d : V} (hi : P.info? et = some i) (hz : i.zero = some (encV d)) (h : MapIs encK encV w r l) (k : K) :
    ∃ (st : Int) (w1 : World), (Instr.mapEntry t (.map (some r)) (encK k)).run P w = .ok (.tuple #[encV (get d l k), .int .i64 st]) w1 ∧ MapIs encK encV w1 r (ent d l k) ∧ Fr [r] w w1 ∧
      ∀ (w2 : World) (v : V), w2.heap[r]? = w1.heap[r]? → ∃ w3, (Instr.entryStore t (.map (some r)) (.int .i64 st) (encV v)).run P w2 = .ok () w3 ∧ MapIs encK encV w3 r (put l k v) ∧ Fr [r] w2 w3 := by
  obtain ⟨es, c, h, h2, hs⟩ := h
  have hf := hk.find k es.toList (l.map (·.1)) w (keys_of h2)
  have hlen : es.size = l.length := by simpa using congrArg List.length h2
  simp only [Instr.mapEntry, Sem.run_bind, run_underlying ht, Result.andThen_ok, Go.MapKept.run_getObj_map h, hk.check, hf]
  cases hx : idx l k with
  | none =>
    have hx' := hx
    unfold idx at hx
    have hno : ∀ x ∈ es.toList, x.key ≠ encK k := by
      intro x hxm he
      have h3 : (x.key, x.val) ∈ es.toList.map (fun e => (e.key, e.val)) := List.mem_map.2 ⟨x, hxm, rfl⟩
      rw [h2] at h3
      obtain ⟨p, hp, he2⟩ := List.mem_map.1 h3
      simp only [Prod.mk.injEq] at he2
      rw [he] at he2
      have h4 := hk.inj _ _ he2.1
      have h5 := List.findIdx?_eq_none_iff.1 hx p.1 (List.mem_map.2 ⟨p, hp, rfl⟩)
      simp [h4] at h5
    have hg : get d l k = d := by unfold get; rw [hx']
    have hs1 := stamped_push hs (val := encV d) hno
    have h21 : (es.push ⟨encK k, encV d, c⟩).toList.map (fun e => (e.key, e.val)) = (l ++ [(k, d)]).map (fun p => (encK p.1, encV p.2)) := by simp [h2]
    have hent : ent d l k = l ++ [(k, d)] := by unfold ent; rw [hx']
    have hzr : (zeroValue et).run P w = .ok (encV d) w := by simp [zeroValue, typeInfo, hi, hz]
    simp only [hx, Sem.run_bind, hzr, Result.andThen_ok, Go.MapKept.run_setObj_map _ h, Sem.run_pure]
    refine ⟨(c : Int), _, by rw [hg]; rfl, ⟨_, _, (heap_set h).1, by rw [hent]; exact h21, hs1⟩, fr_map h _ _, fun w2 v hw2 => ?_⟩
    rw [(heap_set h).1] at hw2
    have hj : l.length < (l ++ [(k, d)]).length := by simp
    obtain ⟨w3, q1, q2, q3⟩ := store_at (t := t) (P := P) hw2 h21 hs1 hj (k := k) (by simp) (e0 := ⟨encK k, encV d, c⟩) (by rw [Array.toList_push, ← hlen, ← Array.length_toList]; simp) v
    refine ⟨w3, q1, ?_, q3⟩
    unfold put
    rw [hx']
    have e : (l ++ [(k, d)]).set l.length (k, v) = l ++ [(k, v)] := by simp
    rw [e] at q2
    exact q2
  | some j =>
    have hx' := hx
    unfold idx at hx
    obtain ⟨hjl, hjk, _⟩ := List.findIdx?_eq_some_iff_getElem.mp hx
    have hj : j < l.length := by simpa using hjl
    have hkj : (l[j]).1 = k := by simpa using hjk
    obtain ⟨e, e1, e2, e3⟩ := val_of (d := d) h2 hj
    have hjs : j < es.size := by omega
    have e1' : es[j]? = some e := by simpa using e1
    have hst : (Instr.keyThatStays (((es[j]?).map (·.key)).getD (encK k)) (encK k)).run P w = .ok (encK k) w := by
      rw [e1']
      simp only [Option.map_some, Option.getD_some, e2, hkj]
      exact hk.stays k w
    have hsame : es.modify j (fun x => { x with key := encK k }) = es := by
      apply Array.ext'
      rw [Array.toList_modify, Go.ChangeMaps.modify_eq_set _ _ _ _ e1]
      have : ({ e with key := encK k } : MapEntry) = e := by rw [← hkj, ← e2]
      rw [this]
      exact Go.WideElems.set_self _ _ _ e1
    have hg : encV (get d l k) = e.val := by unfold get; rw [hx']; exact e3.symm
    have hent : ent d l k = l := by unfold ent; rw [hx']
    simp only [hx, e1, Option.map_some, Sem.run_bind, hst, Result.andThen_ok, Go.MapKept.run_setObj_map _ h, hsame, Sem.run_pure]
    refine ⟨(e.born : Int), _, by rw [hg, e1']; rfl, ⟨_, _, (heap_set h).1, by rw [hent]; exact h2, hs⟩, fr_map h _ _, fun w2 v hw2 => ?_⟩
    rw [(heap_set h).1] at hw2
    obtain ⟨w3, q1, q2, q3⟩ := store_at (t := t) (P := P) hw2 h2 hs hj hkj e1 v
    refine ⟨w3, q1, ?_, q3⟩
    unfold put
    rw [hx']
    exact q2
end
/-- Rows of n whole numbers. -/
abbrev Arr (n : Nat) := {l : List Int // l.length = n}
abbrev encArr (q : IntKind) (n : Nat) (a : Arr n) : Value := .agg (a.1.map (Value.int q)).toArray
section
variable {P : Program} {kt et : TypeId} {n : Nat} {q : IntKind} {i : TypeInfo}
theorem part_int (he : P.underlying et = some (.int q)) {l : List Int} {j : Nat} (hj : j < l.length) (w : World) : (part et (l.map (Value.int q)).toArray j).run P w = .ok (.int q (l.getD j 0)) w := by
  simp [part, isAgg, run_underlying he, List.getD_eq_getElem?_getD, hj]
theorem eqItems_ints (he : P.underlying et = some (.int q)) (hc : P.cellsOf et = 1) (d : Nat) {a b : List Int} (w : World) : ∀ is : List Nat, (∀ j ∈ is, j < a.length ∧ j < b.length) → (Op.eqItems (d + 1) et (P.cellsOf et) (a.map (Value.int q)).toArray (b.map (Value.int q)).toArray is).run P w = .ok (is.all fun j => a.getD j 0 == b.getD j 0) w
  | [], _ => by simp [Op.eqItems]
  | j :: is, h => by
    obtain ⟨ha, hb⟩ := h j (by simp)
    have ih := eqItems_ints he hc d (a := a) (b := b) w is (fun k hk => h k (by simp [hk]))
    rw [hc] at ih ⊢
    simp only [Op.eqItems, Nat.mul_one, Sem.run_bind, part_int he ha, part_int he hb, Result.andThen_ok, Op.equalIn, run_underlying he, if_true, Sem.run_pure]
    rw [List.all_cons]
    generalize (a.getD j 0 == b.getD j 0) = c
    cases c
    · simp
    · simpa using ih
theorem check_int (he : P.underlying et = some (.int q)) (e : Bool) (m : Nat) (x : Int) (w : World) : (Instr.checkKey e (m + 1) et (.int q x)).run P w = .ok () w := by
  rw [Instr.checkKey]
  simp [run_underlying he]
theorem KeyLaw.arr (hu : P.underlying kt = some (.array n et)) (he : P.underlying et = some (.int q)) (hi : P.info? et = some i) (hs : i.size = 1) : KeyLaw P kt (encArr q n) := by
  have hc : P.cellsOf et = 1 := by simp [Program.cellsOf, hi, hs]
  refine KeyLaw.asked hu (fun e k w => ?_) (fun a b h => ?_) (fun a b => rfl) (fun a b w => ?_) (fun k w => ?_)
  · show (Instr.checkKey e (9999 + 1) kt (encArr q n k)).run P w = .ok () w
    rw [Instr.checkKey]
    simp only [Sem.run_bind, run_underlying hu, Result.andThen_ok, encArr]
    simp only [Std.Legacy.Range.forIn_eq_forIn_range', Std.Legacy.Range.size, Nat.sub_zero, Nat.add_one_sub_one, Nat.div_one]
    have hall : ∀ j ∈ List.range' 0 n, j < k.1.length := fun j hj => by rw [k.2]; simpa using hj
    generalize List.range' 0 n = is at hall
    induction is with
    | nil => simp
    | cons j is ih =>
      have hj := hall j (by simp)
      have hck := check_int he e 9998 (k.1.getD j 0) w
      have hp : (part et (k.1.map (Value.int q)).toArray (j * P.cellsOf et)).run P w = .ok (.int q (k.1.getD j 0)) w := by
        rw [hc, Nat.mul_one]; exact part_int he hj w
      simp only [List.forIn_cons, Sem.run_bind, run_sizeOf w hi, Result.andThen_ok, hp, hck, Sem.run_pure]
      exact ih (fun x hx => hall x (by simp [hx]))
  · simp only [encArr, Value.agg.injEq] at h
    have h2 : a.1.map (Value.int q) = b.1.map (Value.int q) := by simpa using h
    apply Subtype.ext
    have inj : ∀ (x y : List Int), x.map (Value.int q) = y.map (Value.int q) → x = y := by
      intro x
      induction x with
      | nil => intro y h; cases y with | nil => rfl | cons => simp at h
      | cons p x ih => intro y h; cases y with | nil => simp at h | cons u y => simp at h; rw [h.1, ih y (by simpa using h.2)]
    exact inj _ _ h2
  · show (Op.equalIn (9999 + 1) kt (encArr q n a) (encArr q n b)).run P w = .ok (decide (a = b)) w
    rw [encArr, encArr, run_equalIn_array w 9999 _ _ hu hi, eqItems_ints he hc 9998 w _ (fun j hj => by rw [a.2, b.2]; simpa using hj)]
    congr 1
    rw [Bool.eq_iff_iff, List.all_eq_true, decide_eq_true_iff]
    constructor
    · intro h
      apply Subtype.ext
      refine List.ext_getElem (by rw [a.2, b.2]) fun j hj hj2 => ?_
      have := h j (by rw [a.2] at hj; simpa using hj)
      simpa [List.getD_eq_getElem?_getD, hj, hj2] using this
    · rintro rfl j _
      simp
  · have : Instr.sameBits 10000 (encArr q n k) (encArr q n k) = true := by
      simp only [encArr, Instr.sameBits]
      have : ∀ l : List Int, ((l.map (Value.int q)).zip (l.map (Value.int q))).all (fun (x, y) => Instr.sameBits 9999 x y) = true := by
        intro l
        induction l with
        | nil => rfl
        | cons x l ih => simp only [List.map_cons, List.zip_cons_cons, List.all_cons, ih, Instr.sameBits]; simp
      simpa using this k.1
    simp [Instr.keyThatStays, this]
end
end GM
end Go.Proofs.YtjmlfknogjaemaaDoor.Vc
/- The plain statements of some functions, printed by vcgen.py. -/
set_option maxRecDepth 100000
set_option maxHeartbeats 4000000
set_option linter.unusedVariables false
namespace Go.Proofs.YtjmlfknogjaemaaDoor
open Go Go.Proofs.YtjmlfknogjaemaaDoor.Vc
theorem W7.mixed : Tryd.prog.follows .mixedOrders = true := by kernel_rfl
/-- gatehouse/graph.differ -/
def f51.AL : Nat → Option Ann := fun r => match r with | 3 => some ⟨[(9, .int .i64)], [0, 3, 7, 8]⟩ | _ => none
def f51.AC : Nat → Option Ann := fun _ => none
def f51.VC (Aa0 : Option Addr) (na0 ca0 : Nat) (w : World) (R : Value → World → Prop) : Prop :=
  let b0 := World.alloc w (.map #[] 0);
  ∃ d0 : Int → World → Nat → Prop,
  (∃ n, d0 0 b0 n) ∧
  ∀ g0 : Env, ∀ h0 i0 j0, d0 h0 i0 j0 →
  sel (decide ((h0 : Int) < ((na0 : Int) : Int))) (
  (0 : Int) ≤ h0 ∧ h0 < (na0 : Int) ∧
  needPtr Aa0 fun k0 p0 =>
  ∃ q0,
  i0.cell? ⟨k0, p0 + h0.toNat * 64, none⟩ = some (.int .u16 q0) ∧
  ∃ t0,
  i0.cell? ⟨k0, p0 + h0.toNat * 64 + 1, none⟩ = some (.int .u16 t0) ∧
  ∃ u0,
  i0.cell? ⟨k0, p0 + h0.toNat * 64 + 1 + 1, none⟩ = some (.int .u16 u0) ∧
  ∃ v0,
  i0.cell? ⟨k0, p0 + h0.toNat * 64 + 1 + 1 + 1, none⟩ = some (.int .u16 v0) ∧
  ∃ x0,
  i0.cell? ⟨k0, p0 + h0.toNat * 64 + 1 + 1 + 1 + 1, none⟩ = some (.int .u16 x0) ∧
  ∃ y0,
  i0.cell? ⟨k0, p0 + h0.toNat * 64 + 1 + 1 + 1 + 1 + 1, none⟩ = some (.int .u16 y0) ∧
  ∃ z0,
  i0.cell? ⟨k0, p0 + h0.toNat * 64 + 1 + 1 + 1 + 1 + 1 + 1, none⟩ = some (.int .u16 z0) ∧
  ∃ b1,
  i0.cell? ⟨k0, p0 + h0.toNat * 64 + 1 + 1 + 1 + 1 + 1 + 1 + 1, none⟩ = some (.int .u16 b1) ∧
  ∃ d1,
  i0.cell? ⟨k0, p0 + h0.toNat * 64 + 1 + 1 + 1 + 1 + 1 + 1 + 1 + 1, none⟩ = some (.int .u16 d1) ∧
  ∃ g1,
  i0.cell? ⟨k0, p0 + h0.toNat * 64 + 1 + 1 + 1 + 1 + 1 + 1 + 1 + 1 + 1, none⟩ = some (.int .u16 g1) ∧
  ∃ h1,
  i0.cell? ⟨k0, p0 + h0.toNat * 64 + 1 + 1 + 1 + 1 + 1 + 1 + 1 + 1 + 1 + 1, none⟩ = some (.int .u16 h1) ∧
  ∃ i1,
  i0.cell? ⟨k0, p0 + h0.toNat * 64 + 1 + 1 + 1 + 1 + 1 + 1 + 1 + 1 + 1 + 1 + 1, none⟩ = some (.int .u16 i1) ∧
  ∃ j1,
  i0.cell? ⟨k0, p0 + h0.toNat * 64 + 1 + 1 + 1 + 1 + 1 + 1 + 1 + 1 + 1 + 1 + 1 + 1, none⟩ = some (.int .u16 j1) ∧
  ∃ k1,
  i0.cell? ⟨k0, p0 + h0.toNat * 64 + 1 + 1 + 1 + 1 + 1 + 1 + 1 + 1 + 1 + 1 + 1 + 1 + 1, none⟩ = some (.int .u16 k1) ∧
  ∃ p1,
  i0.cell? ⟨k0, p0 + h0.toNat * 64 + 1 + 1 + 1 + 1 + 1 + 1 + 1 + 1 + 1 + 1 + 1 + 1 + 1 + 1, none⟩ = some (.int .u16 p1) ∧
  ∃ q1,
  i0.cell? ⟨k0, p0 + h0.toNat * 64 + 1 + 1 + 1 + 1 + 1 + 1 + 1 + 1 + 1 + 1 + 1 + 1 + 1 + 1 + 1, none⟩ = some (.int .u16 q1) ∧
  ∃ t1,
  i0.cell? ⟨k0, p0 + h0.toNat * 64 + 1 + 1 + 1 + 1 + 1 + 1 + 1 + 1 + 1 + 1 + 1 + 1 + 1 + 1 + 1 + 1, none⟩ = some (.int .u16 t1) ∧
  ∃ u1,
  i0.cell? ⟨k0, p0 + h0.toNat * 64 + 1 + 1 + 1 + 1 + 1 + 1 + 1 + 1 + 1 + 1 + 1 + 1 + 1 + 1 + 1 + 1 + 1, none⟩ = some (.int .u16 u1) ∧
  ∃ v1,
  i0.cell? ⟨k0, p0 + h0.toNat * 64 + 1 + 1 + 1 + 1 + 1 + 1 + 1 + 1 + 1 + 1 + 1 + 1 + 1 + 1 + 1 + 1 + 1 + 1, none⟩ = some (.int .u16 v1) ∧
  ∃ x1,
  i0.cell? ⟨k0, p0 + h0.toNat * 64 + 1 + 1 + 1 + 1 + 1 + 1 + 1 + 1 + 1 + 1 + 1 + 1 + 1 + 1 + 1 + 1 + 1 + 1 + 1, none⟩ = some (.int .u16 x1) ∧
  ∃ y1,
  i0.cell? ⟨k0, p0 + h0.toNat * 64 + 1 + 1 + 1 + 1 + 1 + 1 + 1 + 1 + 1 + 1 + 1 + 1 + 1 + 1 + 1 + 1 + 1 + 1 + 1 + 1, none⟩ = some (.int .u16 y1) ∧
  ∃ z1,
  i0.cell? ⟨k0, p0 + h0.toNat * 64 + 1 + 1 + 1 + 1 + 1 + 1 + 1 + 1 + 1 + 1 + 1 + 1 + 1 + 1 + 1 + 1 + 1 + 1 + 1 + 1 + 1, none⟩ = some (.int .u16 z1) ∧
  ∃ b2,
  i0.cell? ⟨k0, p0 + h0.toNat * 64 + 1 + 1 + 1 + 1 + 1 + 1 + 1 + 1 + 1 + 1 + 1 + 1 + 1 + 1 + 1 + 1 + 1 + 1 + 1 + 1 + 1 + 1, none⟩ = some (.int .u16 b2) ∧
  ∃ d2,
  i0.cell? ⟨k0, p0 + h0.toNat * 64 + 1 + 1 + 1 + 1 + 1 + 1 + 1 + 1 + 1 + 1 + 1 + 1 + 1 + 1 + 1 + 1 + 1 + 1 + 1 + 1 + 1 + 1 + 1, none⟩ = some (.int .u16 d2) ∧
  ∃ g2,
  i0.cell? ⟨k0, p0 + h0.toNat * 64 + 1 + 1 + 1 + 1 + 1 + 1 + 1 + 1 + 1 + 1 + 1 + 1 + 1 + 1 + 1 + 1 + 1 + 1 + 1 + 1 + 1 + 1 + 1 + 1, none⟩ = some (.int .u16 g2) ∧
  ∃ h2,
  i0.cell? ⟨k0, p0 + h0.toNat * 64 + 1 + 1 + 1 + 1 + 1 + 1 + 1 + 1 + 1 + 1 + 1 + 1 + 1 + 1 + 1 + 1 + 1 + 1 + 1 + 1 + 1 + 1 + 1 + 1 + 1, none⟩ = some (.int .u16 h2) ∧
  ∃ i2,
  i0.cell? ⟨k0, p0 + h0.toNat * 64 + 1 + 1 + 1 + 1 + 1 + 1 + 1 + 1 + 1 + 1 + 1 + 1 + 1 + 1 + 1 + 1 + 1 + 1 + 1 + 1 + 1 + 1 + 1 + 1 + 1 + 1, none⟩ = some (.int .u16 i2) ∧
  ∃ j2,
  i0.cell? ⟨k0, p0 + h0.toNat * 64 + 1 + 1 + 1 + 1 + 1 + 1 + 1 + 1 + 1 + 1 + 1 + 1 + 1 + 1 + 1 + 1 + 1 + 1 + 1 + 1 + 1 + 1 + 1 + 1 + 1 + 1 + 1, none⟩ = some (.int .u16 j2) ∧
  ∃ k2,
  i0.cell? ⟨k0, p0 + h0.toNat * 64 + 1 + 1 + 1 + 1 + 1 + 1 + 1 + 1 + 1 + 1 + 1 + 1 + 1 + 1 + 1 + 1 + 1 + 1 + 1 + 1 + 1 + 1 + 1 + 1 + 1 + 1 + 1 + 1, none⟩ = some (.int .u16 k2) ∧
  ∃ p2,
  i0.cell? ⟨k0, p0 + h0.toNat * 64 + 1 + 1 + 1 + 1 + 1 + 1 + 1 + 1 + 1 + 1 + 1 + 1 + 1 + 1 + 1 + 1 + 1 + 1 + 1 + 1 + 1 + 1 + 1 + 1 + 1 + 1 + 1 + 1 + 1, none⟩ = some (.int .u16 p2) ∧
  ∃ q2,
  i0.cell? ⟨k0, p0 + h0.toNat * 64 + 1 + 1 + 1 + 1 + 1 + 1 + 1 + 1 + 1 + 1 + 1 + 1 + 1 + 1 + 1 + 1 + 1 + 1 + 1 + 1 + 1 + 1 + 1 + 1 + 1 + 1 + 1 + 1 + 1 + 1, none⟩ = some (.int .u16 q2) ∧
  ∃ t2,
  i0.cell? ⟨k0, p0 + h0.toNat * 64 + 1 + 1 + 1 + 1 + 1 + 1 + 1 + 1 + 1 + 1 + 1 + 1 + 1 + 1 + 1 + 1 + 1 + 1 + 1 + 1 + 1 + 1 + 1 + 1 + 1 + 1 + 1 + 1 + 1 + 1 + 1, none⟩ = some (.int .u16 t2) ∧
  ∃ u2,
  i0.cell? ⟨k0, p0 + h0.toNat * 64 + 1 + 1 + 1 + 1 + 1 + 1 + 1 + 1 + 1 + 1 + 1 + 1 + 1 + 1 + 1 + 1 + 1 + 1 + 1 + 1 + 1 + 1 + 1 + 1 + 1 + 1 + 1 + 1 + 1 + 1 + 1 + 1, none⟩ = some (.int .u16 u2) ∧
  ∃ v2,
  i0.cell? ⟨k0, p0 + h0.toNat * 64 + 1 + 1 + 1 + 1 + 1 + 1 + 1 + 1 + 1 + 1 + 1 + 1 + 1 + 1 + 1 + 1 + 1 + 1 + 1 + 1 + 1 + 1 + 1 + 1 + 1 + 1 + 1 + 1 + 1 + 1 + 1 + 1 + 1, none⟩ = some (.int .u16 v2) ∧
  ∃ x2,
  i0.cell? ⟨k0, p0 + h0.toNat * 64 + 1 + 1 + 1 + 1 + 1 + 1 + 1 + 1 + 1 + 1 + 1 + 1 + 1 + 1 + 1 + 1 + 1 + 1 + 1 + 1 + 1 + 1 + 1 + 1 + 1 + 1 + 1 + 1 + 1 + 1 + 1 + 1 + 1 + 1, none⟩ = some (.int .u16 x2) ∧
  ∃ y2,
  i0.cell? ⟨k0, p0 + h0.toNat * 64 + 1 + 1 + 1 + 1 + 1 + 1 + 1 + 1 + 1 + 1 + 1 + 1 + 1 + 1 + 1 + 1 + 1 + 1 + 1 + 1 + 1 + 1 + 1 + 1 + 1 + 1 + 1 + 1 + 1 + 1 + 1 + 1 + 1 + 1 + 1, none⟩ = some (.int .u16 y2) ∧
  ∃ z2,
  i0.cell? ⟨k0, p0 + h0.toNat * 64 + 1 + 1 + 1 + 1 + 1 + 1 + 1 + 1 + 1 + 1 + 1 + 1 + 1 + 1 + 1 + 1 + 1 + 1 + 1 + 1 + 1 + 1 + 1 + 1 + 1 + 1 + 1 + 1 + 1 + 1 + 1 + 1 + 1 + 1 + 1 + 1, none⟩ = some (.int .u16 z2) ∧
  ∃ b3,
  i0.cell? ⟨k0, p0 + h0.toNat * 64 + 1 + 1 + 1 + 1 + 1 + 1 + 1 + 1 + 1 + 1 + 1 + 1 + 1 + 1 + 1 + 1 + 1 + 1 + 1 + 1 + 1 + 1 + 1 + 1 + 1 + 1 + 1 + 1 + 1 + 1 + 1 + 1 + 1 + 1 + 1 + 1 + 1, none⟩ = some (.int .u16 b3) ∧
  ∃ d3,
  i0.cell? ⟨k0, p0 + h0.toNat * 64 + 1 + 1 + 1 + 1 + 1 + 1 + 1 + 1 + 1 + 1 + 1 + 1 + 1 + 1 + 1 + 1 + 1 + 1 + 1 + 1 + 1 + 1 + 1 + 1 + 1 + 1 + 1 + 1 + 1 + 1 + 1 + 1 + 1 + 1 + 1 + 1 + 1 + 1, none⟩ = some (.int .u16 d3) ∧
  ∃ g3,
  i0.cell? ⟨k0, p0 + h0.toNat * 64 + 1 + 1 + 1 + 1 + 1 + 1 + 1 + 1 + 1 + 1 + 1 + 1 + 1 + 1 + 1 + 1 + 1 + 1 + 1 + 1 + 1 + 1 + 1 + 1 + 1 + 1 + 1 + 1 + 1 + 1 + 1 + 1 + 1 + 1 + 1 + 1 + 1 + 1 + 1, none⟩ = some (.int .u16 g3) ∧
  ∃ h3,
  i0.cell? ⟨k0, p0 + h0.toNat * 64 + 1 + 1 + 1 + 1 + 1 + 1 + 1 + 1 + 1 + 1 + 1 + 1 + 1 + 1 + 1 + 1 + 1 + 1 + 1 + 1 + 1 + 1 + 1 + 1 + 1 + 1 + 1 + 1 + 1 + 1 + 1 + 1 + 1 + 1 + 1 + 1 + 1 + 1 + 1 + 1, none⟩ = some (.int .u16 h3) ∧
  ∃ i3,
  i0.cell? ⟨k0, p0 + h0.toNat * 64 + 1 + 1 + 1 + 1 + 1 + 1 + 1 + 1 + 1 + 1 + 1 + 1 + 1 + 1 + 1 + 1 + 1 + 1 + 1 + 1 + 1 + 1 + 1 + 1 + 1 + 1 + 1 + 1 + 1 + 1 + 1 + 1 + 1 + 1 + 1 + 1 + 1 + 1 + 1 + 1 + 1, none⟩ = some (.int .u16 i3) ∧
  ∃ j3,
  i0.cell? ⟨k0, p0 + h0.toNat * 64 + 1 + 1 + 1 + 1 + 1 + 1 + 1 + 1 + 1 + 1 + 1 + 1 + 1 + 1 + 1 + 1 + 1 + 1 + 1 + 1 + 1 + 1 + 1 + 1 + 1 + 1 + 1 + 1 + 1 + 1 + 1 + 1 + 1 + 1 + 1 + 1 + 1 + 1 + 1 + 1 + 1 + 1, none⟩ = some (.int .u16 j3) ∧
  ∃ k3,
  i0.cell? ⟨k0, p0 + h0.toNat * 64 + 1 + 1 + 1 + 1 + 1 + 1 + 1 + 1 + 1 + 1 + 1 + 1 + 1 + 1 + 1 + 1 + 1 + 1 + 1 + 1 + 1 + 1 + 1 + 1 + 1 + 1 + 1 + 1 + 1 + 1 + 1 + 1 + 1 + 1 + 1 + 1 + 1 + 1 + 1 + 1 + 1 + 1 + 1, none⟩ = some (.int .u16 k3) ∧
  ∃ p3,
  i0.cell? ⟨k0, p0 + h0.toNat * 64 + 1 + 1 + 1 + 1 + 1 + 1 + 1 + 1 + 1 + 1 + 1 + 1 + 1 + 1 + 1 + 1 + 1 + 1 + 1 + 1 + 1 + 1 + 1 + 1 + 1 + 1 + 1 + 1 + 1 + 1 + 1 + 1 + 1 + 1 + 1 + 1 + 1 + 1 + 1 + 1 + 1 + 1 + 1 + 1, none⟩ = some (.int .u16 p3) ∧
  ∃ q3,
  i0.cell? ⟨k0, p0 + h0.toNat * 64 + 1 + 1 + 1 + 1 + 1 + 1 + 1 + 1 + 1 + 1 + 1 + 1 + 1 + 1 + 1 + 1 + 1 + 1 + 1 + 1 + 1 + 1 + 1 + 1 + 1 + 1 + 1 + 1 + 1 + 1 + 1 + 1 + 1 + 1 + 1 + 1 + 1 + 1 + 1 + 1 + 1 + 1 + 1 + 1 + 1, none⟩ = some (.int .u16 q3) ∧
  ∃ t3,
  i0.cell? ⟨k0, p0 + h0.toNat * 64 + 1 + 1 + 1 + 1 + 1 + 1 + 1 + 1 + 1 + 1 + 1 + 1 + 1 + 1 + 1 + 1 + 1 + 1 + 1 + 1 + 1 + 1 + 1 + 1 + 1 + 1 + 1 + 1 + 1 + 1 + 1 + 1 + 1 + 1 + 1 + 1 + 1 + 1 + 1 + 1 + 1 + 1 + 1 + 1 + 1 + 1, none⟩ = some (.int .u16 t3) ∧
  ∃ u3,
  i0.cell? ⟨k0, p0 + h0.toNat * 64 + 1 + 1 + 1 + 1 + 1 + 1 + 1 + 1 + 1 + 1 + 1 + 1 + 1 + 1 + 1 + 1 + 1 + 1 + 1 + 1 + 1 + 1 + 1 + 1 + 1 + 1 + 1 + 1 + 1 + 1 + 1 + 1 + 1 + 1 + 1 + 1 + 1 + 1 + 1 + 1 + 1 + 1 + 1 + 1 + 1 + 1 + 1, none⟩ = some (.int .u16 u3) ∧
  ∃ v3,
  i0.cell? ⟨k0, p0 + h0.toNat * 64 + 1 + 1 + 1 + 1 + 1 + 1 + 1 + 1 + 1 + 1 + 1 + 1 + 1 + 1 + 1 + 1 + 1 + 1 + 1 + 1 + 1 + 1 + 1 + 1 + 1 + 1 + 1 + 1 + 1 + 1 + 1 + 1 + 1 + 1 + 1 + 1 + 1 + 1 + 1 + 1 + 1 + 1 + 1 + 1 + 1 + 1 + 1 + 1, none⟩ = some (.int .u16 v3) ∧
  ∃ x3,
  i0.cell? ⟨k0, p0 + h0.toNat * 64 + 1 + 1 + 1 + 1 + 1 + 1 + 1 + 1 + 1 + 1 + 1 + 1 + 1 + 1 + 1 + 1 + 1 + 1 + 1 + 1 + 1 + 1 + 1 + 1 + 1 + 1 + 1 + 1 + 1 + 1 + 1 + 1 + 1 + 1 + 1 + 1 + 1 + 1 + 1 + 1 + 1 + 1 + 1 + 1 + 1 + 1 + 1 + 1 + 1, none⟩ = some (.int .u16 x3) ∧
  ∃ y3,
  i0.cell? ⟨k0, p0 + h0.toNat * 64 + 1 + 1 + 1 + 1 + 1 + 1 + 1 + 1 + 1 + 1 + 1 + 1 + 1 + 1 + 1 + 1 + 1 + 1 + 1 + 1 + 1 + 1 + 1 + 1 + 1 + 1 + 1 + 1 + 1 + 1 + 1 + 1 + 1 + 1 + 1 + 1 + 1 + 1 + 1 + 1 + 1 + 1 + 1 + 1 + 1 + 1 + 1 + 1 + 1 + 1, none⟩ = some (.int .u16 y3) ∧
  ∃ z3,
  i0.cell? ⟨k0, p0 + h0.toNat * 64 + 1 + 1 + 1 + 1 + 1 + 1 + 1 + 1 + 1 + 1 + 1 + 1 + 1 + 1 + 1 + 1 + 1 + 1 + 1 + 1 + 1 + 1 + 1 + 1 + 1 + 1 + 1 + 1 + 1 + 1 + 1 + 1 + 1 + 1 + 1 + 1 + 1 + 1 + 1 + 1 + 1 + 1 + 1 + 1 + 1 + 1 + 1 + 1 + 1 + 1 + 1, none⟩ = some (.int .u16 z3) ∧
  ∃ b4,
  i0.cell? ⟨k0, p0 + h0.toNat * 64 + 1 + 1 + 1 + 1 + 1 + 1 + 1 + 1 + 1 + 1 + 1 + 1 + 1 + 1 + 1 + 1 + 1 + 1 + 1 + 1 + 1 + 1 + 1 + 1 + 1 + 1 + 1 + 1 + 1 + 1 + 1 + 1 + 1 + 1 + 1 + 1 + 1 + 1 + 1 + 1 + 1 + 1 + 1 + 1 + 1 + 1 + 1 + 1 + 1 + 1 + 1 + 1, none⟩ = some (.int .u16 b4) ∧
  ∃ d4,
  i0.cell? ⟨k0, p0 + h0.toNat * 64 + 1 + 1 + 1 + 1 + 1 + 1 + 1 + 1 + 1 + 1 + 1 + 1 + 1 + 1 + 1 + 1 + 1 + 1 + 1 + 1 + 1 + 1 + 1 + 1 + 1 + 1 + 1 + 1 + 1 + 1 + 1 + 1 + 1 + 1 + 1 + 1 + 1 + 1 + 1 + 1 + 1 + 1 + 1 + 1 + 1 + 1 + 1 + 1 + 1 + 1 + 1 + 1 + 1, none⟩ = some (.int .u16 d4) ∧
  ∃ g4,
  i0.cell? ⟨k0, p0 + h0.toNat * 64 + 1 + 1 + 1 + 1 + 1 + 1 + 1 + 1 + 1 + 1 + 1 + 1 + 1 + 1 + 1 + 1 + 1 + 1 + 1 + 1 + 1 + 1 + 1 + 1 + 1 + 1 + 1 + 1 + 1 + 1 + 1 + 1 + 1 + 1 + 1 + 1 + 1 + 1 + 1 + 1 + 1 + 1 + 1 + 1 + 1 + 1 + 1 + 1 + 1 + 1 + 1 + 1 + 1 + 1, none⟩ = some (.int .u16 g4) ∧
  ∃ h4,
  i0.cell? ⟨k0, p0 + h0.toNat * 64 + 1 + 1 + 1 + 1 + 1 + 1 + 1 + 1 + 1 + 1 + 1 + 1 + 1 + 1 + 1 + 1 + 1 + 1 + 1 + 1 + 1 + 1 + 1 + 1 + 1 + 1 + 1 + 1 + 1 + 1 + 1 + 1 + 1 + 1 + 1 + 1 + 1 + 1 + 1 + 1 + 1 + 1 + 1 + 1 + 1 + 1 + 1 + 1 + 1 + 1 + 1 + 1 + 1 + 1 + 1, none⟩ = some (.int .u16 h4) ∧
  ∃ i4,
  i0.cell? ⟨k0, p0 + h0.toNat * 64 + 1 + 1 + 1 + 1 + 1 + 1 + 1 + 1 + 1 + 1 + 1 + 1 + 1 + 1 + 1 + 1 + 1 + 1 + 1 + 1 + 1 + 1 + 1 + 1 + 1 + 1 + 1 + 1 + 1 + 1 + 1 + 1 + 1 + 1 + 1 + 1 + 1 + 1 + 1 + 1 + 1 + 1 + 1 + 1 + 1 + 1 + 1 + 1 + 1 + 1 + 1 + 1 + 1 + 1 + 1 + 1, none⟩ = some (.int .u16 i4) ∧
  ∃ j4,
  i0.cell? ⟨k0, p0 + h0.toNat * 64 + 1 + 1 + 1 + 1 + 1 + 1 + 1 + 1 + 1 + 1 + 1 + 1 + 1 + 1 + 1 + 1 + 1 + 1 + 1 + 1 + 1 + 1 + 1 + 1 + 1 + 1 + 1 + 1 + 1 + 1 + 1 + 1 + 1 + 1 + 1 + 1 + 1 + 1 + 1 + 1 + 1 + 1 + 1 + 1 + 1 + 1 + 1 + 1 + 1 + 1 + 1 + 1 + 1 + 1 + 1 + 1 + 1, none⟩ = some (.int .u16 j4) ∧
  ∃ k4,
  i0.cell? ⟨k0, p0 + h0.toNat * 64 + 1 + 1 + 1 + 1 + 1 + 1 + 1 + 1 + 1 + 1 + 1 + 1 + 1 + 1 + 1 + 1 + 1 + 1 + 1 + 1 + 1 + 1 + 1 + 1 + 1 + 1 + 1 + 1 + 1 + 1 + 1 + 1 + 1 + 1 + 1 + 1 + 1 + 1 + 1 + 1 + 1 + 1 + 1 + 1 + 1 + 1 + 1 + 1 + 1 + 1 + 1 + 1 + 1 + 1 + 1 + 1 + 1 + 1, none⟩ = some (.int .u16 k4) ∧
  ∃ p4,
  i0.cell? ⟨k0, p0 + h0.toNat * 64 + 1 + 1 + 1 + 1 + 1 + 1 + 1 + 1 + 1 + 1 + 1 + 1 + 1 + 1 + 1 + 1 + 1 + 1 + 1 + 1 + 1 + 1 + 1 + 1 + 1 + 1 + 1 + 1 + 1 + 1 + 1 + 1 + 1 + 1 + 1 + 1 + 1 + 1 + 1 + 1 + 1 + 1 + 1 + 1 + 1 + 1 + 1 + 1 + 1 + 1 + 1 + 1 + 1 + 1 + 1 + 1 + 1 + 1 + 1, none⟩ = some (.int .u16 p4) ∧
  ∃ q4,
  i0.cell? ⟨k0, p0 + h0.toNat * 64 + 1 + 1 + 1 + 1 + 1 + 1 + 1 + 1 + 1 + 1 + 1 + 1 + 1 + 1 + 1 + 1 + 1 + 1 + 1 + 1 + 1 + 1 + 1 + 1 + 1 + 1 + 1 + 1 + 1 + 1 + 1 + 1 + 1 + 1 + 1 + 1 + 1 + 1 + 1 + 1 + 1 + 1 + 1 + 1 + 1 + 1 + 1 + 1 + 1 + 1 + 1 + 1 + 1 + 1 + 1 + 1 + 1 + 1 + 1 + 1, none⟩ = some (.int .u16 q4) ∧
  ∃ t4,
  i0.cell? ⟨k0, p0 + h0.toNat * 64 + 1 + 1 + 1 + 1 + 1 + 1 + 1 + 1 + 1 + 1 + 1 + 1 + 1 + 1 + 1 + 1 + 1 + 1 + 1 + 1 + 1 + 1 + 1 + 1 + 1 + 1 + 1 + 1 + 1 + 1 + 1 + 1 + 1 + 1 + 1 + 1 + 1 + 1 + 1 + 1 + 1 + 1 + 1 + 1 + 1 + 1 + 1 + 1 + 1 + 1 + 1 + 1 + 1 + 1 + 1 + 1 + 1 + 1 + 1 + 1 + 1, none⟩ = some (.int .u16 t4) ∧
  ∃ u4,
  i0.cell? ⟨k0, p0 + h0.toNat * 64 + 1 + 1 + 1 + 1 + 1 + 1 + 1 + 1 + 1 + 1 + 1 + 1 + 1 + 1 + 1 + 1 + 1 + 1 + 1 + 1 + 1 + 1 + 1 + 1 + 1 + 1 + 1 + 1 + 1 + 1 + 1 + 1 + 1 + 1 + 1 + 1 + 1 + 1 + 1 + 1 + 1 + 1 + 1 + 1 + 1 + 1 + 1 + 1 + 1 + 1 + 1 + 1 + 1 + 1 + 1 + 1 + 1 + 1 + 1 + 1 + 1 + 1, none⟩ = some (.int .u16 u4) ∧
  ∃ v4,
  i0.cell? ⟨k0, p0 + h0.toNat * 64 + 1 + 1 + 1 + 1 + 1 + 1 + 1 + 1 + 1 + 1 + 1 + 1 + 1 + 1 + 1 + 1 + 1 + 1 + 1 + 1 + 1 + 1 + 1 + 1 + 1 + 1 + 1 + 1 + 1 + 1 + 1 + 1 + 1 + 1 + 1 + 1 + 1 + 1 + 1 + 1 + 1 + 1 + 1 + 1 + 1 + 1 + 1 + 1 + 1 + 1 + 1 + 1 + 1 + 1 + 1 + 1 + 1 + 1 + 1 + 1 + 1 + 1 + 1, none⟩ = some (.int .u16 v4) ∧
  let x4 := World.alloc i0 (.cells #[.int .u16 0, .int .u16 0, .int .u16 0, .int .u16 0, .int .u16 0, .int .u16 0, .int .u16 0, .int .u16 0, .int .u16 0, .int .u16 0, .int .u16 0, .int .u16 0, .int .u16 0, .int .u16 0, .int .u16 0, .int .u16 0, .int .u16 0, .int .u16 0, .int .u16 0, .int .u16 0, .int .u16 0, .int .u16 0, .int .u16 0, .int .u16 0, .int .u16 0, .int .u16 0, .int .u16 0, .int .u16 0, .int .u16 0, .int .u16 0, .int .u16 0, .int .u16 0, .int .u16 0, .int .u16 0, .int .u16 0, .int .u16 0, .int .u16 0, .int .u16 0, .int .u16 0, .int .u16 0, .int .u16 0, .int .u16 0, .int .u16 0, .int .u16 0, .int .u16 0, .int .u16 0, .int .u16 0, .int .u16 0, .int .u16 0, .int .u16 0, .int .u16 0, .int .u16 0, .int .u16 0, .int .u16 0, .int .u16 0, .int .u16 0, .int .u16 0, .int .u16 0, .int .u16 0, .int .u16 0, .int .u16 0, .int .u16 0, .int .u16 0, .int .u16 0] 89);
  canStore x4 i0.heap.size 0 64 ∧
  let y4 := setCs x4 i0.heap.size 0 [.int .u16 q0, .int .u16 t0, .int .u16 u0, .int .u16 v0, .int .u16 x0, .int .u16 y0, .int .u16 z0, .int .u16 b1, .int .u16 d1, .int .u16 g1, .int .u16 h1, .int .u16 i1, .int .u16 j1, .int .u16 k1, .int .u16 p1, .int .u16 q1, .int .u16 t1, .int .u16 u1, .int .u16 v1, .int .u16 x1, .int .u16 y1, .int .u16 z1, .int .u16 b2, .int .u16 d2, .int .u16 g2, .int .u16 h2, .int .u16 i2, .int .u16 j2, .int .u16 k2, .int .u16 p2, .int .u16 q2, .int .u16 t2, .int .u16 u2, .int .u16 v2, .int .u16 x2, .int .u16 y2, .int .u16 z2, .int .u16 b3, .int .u16 d3, .int .u16 g3, .int .u16 h3, .int .u16 i3, .int .u16 j3, .int .u16 k3, .int .u16 p3, .int .u16 q3, .int .u16 t3, .int .u16 u3, .int .u16 v3, .int .u16 x3, .int .u16 y3, .int .u16 z3, .int .u16 b4, .int .u16 d4, .int .u16 g4, .int .u16 h4, .int .u16 i4, .int .u16 j4, .int .u16 k4, .int .u16 p4, .int .u16 q4, .int .u16 t4, .int .u16 u4, .int .u16 v4];
  ∃ z4,
  y4.cell? ⟨i0.heap.size, 0, none⟩ = some (.int .u16 z4) ∧
  ∃ b5,
  y4.cell? ⟨i0.heap.size, 1, none⟩ = some (.int .u16 b5) ∧
  ∃ d5,
  y4.cell? ⟨i0.heap.size, 2, none⟩ = some (.int .u16 d5) ∧
  ∃ g5,
  y4.cell? ⟨i0.heap.size, 3, none⟩ = some (.int .u16 g5) ∧
  ∃ h5,
  y4.cell? ⟨i0.heap.size, 4, none⟩ = some (.int .u16 h5) ∧
  ∃ i5,
  y4.cell? ⟨i0.heap.size, 5, none⟩ = some (.int .u16 i5) ∧
  ∃ j5,
  y4.cell? ⟨i0.heap.size, 6, none⟩ = some (.int .u16 j5) ∧
  ∃ k5,
  y4.cell? ⟨i0.heap.size, 7, none⟩ = some (.int .u16 k5) ∧
  ∃ p5,
  y4.cell? ⟨i0.heap.size, 8, none⟩ = some (.int .u16 p5) ∧
  ∃ q5,
  y4.cell? ⟨i0.heap.size, 9, none⟩ = some (.int .u16 q5) ∧
  ∃ t5,
  y4.cell? ⟨i0.heap.size, 10, none⟩ = some (.int .u16 t5) ∧
  ∃ u5,
  y4.cell? ⟨i0.heap.size, 11, none⟩ = some (.int .u16 u5) ∧
  ∃ v5,
  y4.cell? ⟨i0.heap.size, 12, none⟩ = some (.int .u16 v5) ∧
  ∃ x5,
  y4.cell? ⟨i0.heap.size, 13, none⟩ = some (.int .u16 x5) ∧
  ∃ y5,
  y4.cell? ⟨i0.heap.size, 14, none⟩ = some (.int .u16 y5) ∧
  ∃ z5,
  y4.cell? ⟨i0.heap.size, 15, none⟩ = some (.int .u16 z5) ∧
  ∃ b6,
  y4.cell? ⟨i0.heap.size, 16, none⟩ = some (.int .u16 b6) ∧
  ∃ d6,
  y4.cell? ⟨i0.heap.size, 17, none⟩ = some (.int .u16 d6) ∧
  ∃ g6,
  y4.cell? ⟨i0.heap.size, 18, none⟩ = some (.int .u16 g6) ∧
  ∃ h6,
  y4.cell? ⟨i0.heap.size, 19, none⟩ = some (.int .u16 h6) ∧
  ∃ i6,
  y4.cell? ⟨i0.heap.size, 20, none⟩ = some (.int .u16 i6) ∧
  ∃ j6,
  y4.cell? ⟨i0.heap.size, 21, none⟩ = some (.int .u16 j6) ∧
  ∃ k6,
  y4.cell? ⟨i0.heap.size, 22, none⟩ = some (.int .u16 k6) ∧
  ∃ p6,
  y4.cell? ⟨i0.heap.size, 23, none⟩ = some (.int .u16 p6) ∧
  ∃ q6,
  y4.cell? ⟨i0.heap.size, 24, none⟩ = some (.int .u16 q6) ∧
  ∃ t6,
  y4.cell? ⟨i0.heap.size, 25, none⟩ = some (.int .u16 t6) ∧
  ∃ u6,
  y4.cell? ⟨i0.heap.size, 26, none⟩ = some (.int .u16 u6) ∧
  ∃ v6,
  y4.cell? ⟨i0.heap.size, 27, none⟩ = some (.int .u16 v6) ∧
  ∃ x6,
  y4.cell? ⟨i0.heap.size, 28, none⟩ = some (.int .u16 x6) ∧
  ∃ y6,
  y4.cell? ⟨i0.heap.size, 29, none⟩ = some (.int .u16 y6) ∧
  ∃ z6,
  y4.cell? ⟨i0.heap.size, 30, none⟩ = some (.int .u16 z6) ∧
  ∃ b7,
  y4.cell? ⟨i0.heap.size, 31, none⟩ = some (.int .u16 b7) ∧
  ∃ d7,
  y4.cell? ⟨i0.heap.size, 32, none⟩ = some (.int .u16 d7) ∧
  ∃ g7,
  y4.cell? ⟨i0.heap.size, 33, none⟩ = some (.int .u16 g7) ∧
  ∃ h7,
  y4.cell? ⟨i0.heap.size, 34, none⟩ = some (.int .u16 h7) ∧
  ∃ i7,
  y4.cell? ⟨i0.heap.size, 35, none⟩ = some (.int .u16 i7) ∧
  ∃ j7,
  y4.cell? ⟨i0.heap.size, 36, none⟩ = some (.int .u16 j7) ∧
  ∃ k7,
  y4.cell? ⟨i0.heap.size, 37, none⟩ = some (.int .u16 k7) ∧
  ∃ p7,
  y4.cell? ⟨i0.heap.size, 38, none⟩ = some (.int .u16 p7) ∧
  ∃ q7,
  y4.cell? ⟨i0.heap.size, 39, none⟩ = some (.int .u16 q7) ∧
  ∃ t7,
  y4.cell? ⟨i0.heap.size, 40, none⟩ = some (.int .u16 t7) ∧
  ∃ u7,
  y4.cell? ⟨i0.heap.size, 41, none⟩ = some (.int .u16 u7) ∧
  ∃ v7,
  y4.cell? ⟨i0.heap.size, 42, none⟩ = some (.int .u16 v7) ∧
  ∃ x7,
  y4.cell? ⟨i0.heap.size, 43, none⟩ = some (.int .u16 x7) ∧
  ∃ y7,
  y4.cell? ⟨i0.heap.size, 44, none⟩ = some (.int .u16 y7) ∧
  ∃ z7,
  y4.cell? ⟨i0.heap.size, 45, none⟩ = some (.int .u16 z7) ∧
  ∃ b8,
  y4.cell? ⟨i0.heap.size, 46, none⟩ = some (.int .u16 b8) ∧
  ∃ d8,
  y4.cell? ⟨i0.heap.size, 47, none⟩ = some (.int .u16 d8) ∧
  ∃ g8,
  y4.cell? ⟨i0.heap.size, 48, none⟩ = some (.int .u16 g8) ∧
  ∃ h8,
  y4.cell? ⟨i0.heap.size, 49, none⟩ = some (.int .u16 h8) ∧
  ∃ i8,
  y4.cell? ⟨i0.heap.size, 50, none⟩ = some (.int .u16 i8) ∧
  ∃ j8,
  y4.cell? ⟨i0.heap.size, 51, none⟩ = some (.int .u16 j8) ∧
  ∃ k8,
  y4.cell? ⟨i0.heap.size, 52, none⟩ = some (.int .u16 k8) ∧
  ∃ p8,
  y4.cell? ⟨i0.heap.size, 53, none⟩ = some (.int .u16 p8) ∧
  ∃ q8,
  y4.cell? ⟨i0.heap.size, 54, none⟩ = some (.int .u16 q8) ∧
  ∃ t8,
  y4.cell? ⟨i0.heap.size, 55, none⟩ = some (.int .u16 t8) ∧
  ∃ u8,
  y4.cell? ⟨i0.heap.size, 56, none⟩ = some (.int .u16 u8) ∧
  ∃ v8,
  y4.cell? ⟨i0.heap.size, 57, none⟩ = some (.int .u16 v8) ∧
  ∃ x8,
  y4.cell? ⟨i0.heap.size, 58, none⟩ = some (.int .u16 x8) ∧
  ∃ y8,
  y4.cell? ⟨i0.heap.size, 59, none⟩ = some (.int .u16 y8) ∧
  ∃ z8,
  y4.cell? ⟨i0.heap.size, 60, none⟩ = some (.int .u16 z8) ∧
  ∃ b9,
  y4.cell? ⟨i0.heap.size, 61, none⟩ = some (.int .u16 b9) ∧
  ∃ d9,
  y4.cell? ⟨i0.heap.size, 62, none⟩ = some (.int .u16 d9) ∧
  ∃ g9,
  y4.cell? ⟨i0.heap.size, 63, none⟩ = some (.int .u16 g9) ∧
  (∃ h9,
  ∃ i9, (Instr.lookup 111 (.map (some w.heap.size)) (.agg #[.int .u16 z4, .int .u16 b5, .int .u16 d5, .int .u16 g5, .int .u16 h5, .int .u16 i5, .int .u16 j5, .int .u16 k5, .int .u16 p5, .int .u16 q5, .int .u16 t5, .int .u16 u5, .int .u16 v5, .int .u16 x5, .int .u16 y5, .int .u16 z5, .int .u16 b6, .int .u16 d6, .int .u16 g6, .int .u16 h6, .int .u16 i6, .int .u16 j6, .int .u16 k6, .int .u16 p6, .int .u16 q6, .int .u16 t6, .int .u16 u6, .int .u16 v6, .int .u16 x6, .int .u16 y6, .int .u16 z6, .int .u16 b7, .int .u16 d7, .int .u16 g7, .int .u16 h7, .int .u16 i7, .int .u16 j7, .int .u16 k7, .int .u16 p7, .int .u16 q7, .int .u16 t7, .int .u16 u7, .int .u16 v7, .int .u16 x7, .int .u16 y7, .int .u16 z7, .int .u16 b8, .int .u16 d8, .int .u16 g8, .int .u16 h8, .int .u16 i8, .int .u16 j8, .int .u16 k8, .int .u16 p8, .int .u16 q8, .int .u16 t8, .int .u16 u8, .int .u16 v8, .int .u16 x8, .int .u16 y8, .int .u16 z8, .int .u16 b9, .int .u16 d9, .int .u16 g9]) false).run Tryd.prog y4.drew = .ok (.int .i64 h9) i9 ∧
  let j9 : Int := IntKind.i64.wrap (h9 + 1);
  ∃ k9,
  ∃ p9 q9, (Instr.mapEntry 111 (.map (some w.heap.size)) (.agg #[.int .u16 z4, .int .u16 b5, .int .u16 d5, .int .u16 g5, .int .u16 h5, .int .u16 i5, .int .u16 j5, .int .u16 k5, .int .u16 p5, .int .u16 q5, .int .u16 t5, .int .u16 u5, .int .u16 v5, .int .u16 x5, .int .u16 y5, .int .u16 z5, .int .u16 b6, .int .u16 d6, .int .u16 g6, .int .u16 h6, .int .u16 i6, .int .u16 j6, .int .u16 k6, .int .u16 p6, .int .u16 q6, .int .u16 t6, .int .u16 u6, .int .u16 v6, .int .u16 x6, .int .u16 y6, .int .u16 z6, .int .u16 b7, .int .u16 d7, .int .u16 g7, .int .u16 h7, .int .u16 i7, .int .u16 j7, .int .u16 k7, .int .u16 p7, .int .u16 q7, .int .u16 t7, .int .u16 u7, .int .u16 v7, .int .u16 x7, .int .u16 y7, .int .u16 z7, .int .u16 b8, .int .u16 d8, .int .u16 g8, .int .u16 h8, .int .u16 i8, .int .u16 j8, .int .u16 k8, .int .u16 p8, .int .u16 q8, .int .u16 t8, .int .u16 u8, .int .u16 v8, .int .u16 x8, .int .u16 y8, .int .u16 z8, .int .u16 b9, .int .u16 d9, .int .u16 g9])).run Tryd.prog i9 = .ok (.tuple #[.int .i64 k9, .int .i64 p9]) q9 ∧
  ∃ t9, (Instr.entryStore 111 (.map (some w.heap.size)) (.int .i64 p9) (.int .i64 j9)).run Tryd.prog q9 = .ok () t9 ∧
  let u9 : Int := IntKind.i64.wrap (h0 + 1);
  ([.slice Aa0 na0 ca0, .map (some w.heap.size), .slice Aa0 na0 ca0, .int .i64 (na0 : Int)] : List Value) = ([.slice Aa0 na0 ca0, .map (some w.heap.size), .slice Aa0 na0 ca0, .int .i64 (na0 : Int)] : List Value) ∧ ∃ m, m < j0 ∧ d0 u9 t9 m) ∧
  (∃ v9,
  ∃ x9 y9, (Instr.mapEntry 111 (.map (some w.heap.size)) (.agg #[.int .u16 z4, .int .u16 b5, .int .u16 d5, .int .u16 g5, .int .u16 h5, .int .u16 i5, .int .u16 j5, .int .u16 k5, .int .u16 p5, .int .u16 q5, .int .u16 t5, .int .u16 u5, .int .u16 v5, .int .u16 x5, .int .u16 y5, .int .u16 z5, .int .u16 b6, .int .u16 d6, .int .u16 g6, .int .u16 h6, .int .u16 i6, .int .u16 j6, .int .u16 k6, .int .u16 p6, .int .u16 q6, .int .u16 t6, .int .u16 u6, .int .u16 v6, .int .u16 x6, .int .u16 y6, .int .u16 z6, .int .u16 b7, .int .u16 d7, .int .u16 g7, .int .u16 h7, .int .u16 i7, .int .u16 j7, .int .u16 k7, .int .u16 p7, .int .u16 q7, .int .u16 t7, .int .u16 u7, .int .u16 v7, .int .u16 x7, .int .u16 y7, .int .u16 z7, .int .u16 b8, .int .u16 d8, .int .u16 g8, .int .u16 h8, .int .u16 i8, .int .u16 j8, .int .u16 k8, .int .u16 p8, .int .u16 q8, .int .u16 t8, .int .u16 u8, .int .u16 v8, .int .u16 x8, .int .u16 y8, .int .u16 z8, .int .u16 b9, .int .u16 d9, .int .u16 g9])).run Tryd.prog y4.drew = .ok (.tuple #[.int .i64 v9, .int .i64 x9]) y9 ∧
  ∃ z9,
  ∃ bA, (Instr.lookup 111 (.map (some w.heap.size)) (.agg #[.int .u16 z4, .int .u16 b5, .int .u16 d5, .int .u16 g5, .int .u16 h5, .int .u16 i5, .int .u16 j5, .int .u16 k5, .int .u16 p5, .int .u16 q5, .int .u16 t5, .int .u16 u5, .int .u16 v5, .int .u16 x5, .int .u16 y5, .int .u16 z5, .int .u16 b6, .int .u16 d6, .int .u16 g6, .int .u16 h6, .int .u16 i6, .int .u16 j6, .int .u16 k6, .int .u16 p6, .int .u16 q6, .int .u16 t6, .int .u16 u6, .int .u16 v6, .int .u16 x6, .int .u16 y6, .int .u16 z6, .int .u16 b7, .int .u16 d7, .int .u16 g7, .int .u16 h7, .int .u16 i7, .int .u16 j7, .int .u16 k7, .int .u16 p7, .int .u16 q7, .int .u16 t7, .int .u16 u7, .int .u16 v7, .int .u16 x7, .int .u16 y7, .int .u16 z7, .int .u16 b8, .int .u16 d8, .int .u16 g8, .int .u16 h8, .int .u16 i8, .int .u16 j8, .int .u16 k8, .int .u16 p8, .int .u16 q8, .int .u16 t8, .int .u16 u8, .int .u16 v8, .int .u16 x8, .int .u16 y8, .int .u16 z8, .int .u16 b9, .int .u16 d9, .int .u16 g9]) false).run Tryd.prog y9 = .ok (.int .i64 z9) bA ∧
  let dA : Int := IntKind.i64.wrap (z9 + 1);
  ∃ gA, (Instr.entryStore 111 (.map (some w.heap.size)) (.int .i64 x9) (.int .i64 dA)).run Tryd.prog bA = .ok () gA ∧
  let hA : Int := IntKind.i64.wrap (h0 + 1);
  ([.slice Aa0 na0 ca0, .map (some w.heap.size), .slice Aa0 na0 ca0, .int .i64 (na0 : Int)] : List Value) = ([.slice Aa0 na0 ca0, .map (some w.heap.size), .slice Aa0 na0 ca0, .int .i64 (na0 : Int)] : List Value) ∧ ∃ m, m < j0 ∧ d0 hA gA m) ∧ True) (
  ∃ iA,
  ∃ jA, (Builtin.len_ #[111] 3 #[.map (some w.heap.size)]).run Tryd.prog i0 = .ok (.int .i64 iA) jA ∧
  R (.bool ((iA : Int) == ((na0 : Int) : Int))) jA)
theorem f51.eq (Aa0 : Option Addr) (na0 ca0 : Nat) (w : World) (R : Value → World → Prop) : f51.VC Aa0 na0 ca0 w R = funV Tryd.prog Tryd.f51 f51.AL f51.AC #[.slice Aa0 na0 ca0] w R := by kernel_rfl
theorem f51.calls {Aa0 : Option Addr} {na0 ca0 : Nat} {w : World} {R : Value → World → Prop} (h : f51.VC Aa0 na0 ca0 w R) : Calls Tryd.prog 51 #[.slice Aa0 na0 ca0] w fun e w' => ∃ v, e = .returned v ∧ R v w' :=
  funV_sound (fn := Tryd.f51) (AL := f51.AL) (AC := f51.AC) W7.mixed (by kernel_rfl) (by rw [← f51.eq Aa0 na0 ca0]; exact h)

end Go.Proofs.YtjmlfknogjaemaaDoor
