/- From the frame to the statement's own. -/
import Derived.Test.YtjmlfknogjaemaaM5
import Derived.ChangeSame
import Derived.Test.YtjmlfknogjaemaaM6
import Derived.WalkKit
import Derived.ProofKit
import Derived.JoinedCond
import Derived.Carry
import Derived.Shelf.SlGeneric
import Derived.Shelf.SlLaysF0
import Derived.Test.YtjmlfknogjaemaaProg
import Derived.MapKept
namespace Go.Proofs.Ytjmlfknogjaemaa.Vc
open Go Go.ChangeShapes Go.WideShapes
theorem Fr.kept {w w' : World} (h : Fr [] w w') (may : MemPlace → Prop) : w.keptBut w' may := by
  refine ⟨h.os, h.output, fun i hi => ?_⟩
  rw [h.block i hi (by simp)]
  cases w.heap[i]? with
  | none => rfl
  | some o =>
    cases o with
    | cells c t f => exact ⟨rfl, rfl, rfl, fun _ _ => rfl⟩
    | map es c => exact .inr ⟨rfl, rfl⟩
    | _ => rfl
/-- The law's postcondition, where all that was handed in reads as it did. -/
theorem post_of_fr {H : Type} {enc : TypeId × Value → H} {P : Program} {f : Func} {s : ChangeSpec} {apart fresh handsOn again : Bool} {W W' : World} {args : Array Value} {v : Value} {ds gs : List (DataW H)} {before pa pv : List MemPlace}
    (hW : DataW.Whole enc P f.params.toList s.vars apart W args.toList ds gs before)
    (hres : ∀ (b : Nat) (sp : Nat → Bool) (hd : Bool), DataW.TrodAll enc P W' b sp hd f.resultTypes.toList (v.resultList f.resultTypes.size) (s.fn H (ds ++ gs)).results [])
    (hargs : ∀ sp : Nat → Bool, (∀ p ∈ before, sp p.block = true) → DataW.TrodAll enc P W' 0 sp true f.params.toList args.toList (s.fn H (ds ++ gs)).args pa)
    (hvars : ∀ sp : Nat → Bool, (∀ p ∈ before, sp p.block = true) → DataW.TrodVars enc P W' sp s.vars (s.fn H (ds ++ gs)).vars pv)
    (hps : before = pa ++ pv) (hf : Fr [] W W')
    (hok : ∀ (j : Nat) (t : TypeId) (r : Value), f.resultTypes[j]? = some t → (v.resultList f.resultTypes.size)[j]? = some r → Value.okWide P W' .any 0 t r) :
    s.post enc P f apart fresh handsOn again W args v W' := by
  have hlt := hW.lt
  have hold : ∀ p ∈ before, (fun b => decide (b < W.heap.size)) p.block = true := fun p hp => by simpa using hlt p hp
  refine ⟨ds, gs, before, [], pa, pv, hW, hres _ _ _, hargs _ hold, hvars _ hold, World.keptBut_mono (fun p hp => ⟨hp, ?_⟩) (hf.kept (· ∈ before)), fun _ => ?_⟩
  · rw [hps, List.mem_append] at hp
    exact .inr hp
  · obtain ⟨_, _, _, _, _, hz, hn⟩ := hW
    refine ⟨hok, _, _, ([] ++ pa) ++ pv, ⟨[] ++ pa, pv, trodAll_append (hargs _ (fun _ _ => rfl)) (hres _ _ _), hvars _ (fun _ _ => rfl), rfl, ?_, ?_⟩, ?_⟩
    · intro b off hp
      have hp2 : MemPlace.cell b off ∈ before := by rw [hps]; simpa using hp
      rw [hf.frozen _ (hlt _ hp2)]
      exact hz b off hp2
    · intro ha
      have := hn ha
      rw [hps] at this
      simpa using this
    · intro p hp _
      rw [hps]
      simpa using hp
end Go.Proofs.Ytjmlfknogjaemaa.Vc
/- Lists that are handed in, as the walks read them; what is common to the claims' last texts. -/
set_option linter.unusedVariables false
set_option linter.unusedSimpArgs false
namespace Go.Proofs.Ytjmlfknogjaemaa.Vc
open Go Go.Deep Go.ChangeShapes Go.WideShapes
theorem sum_len {α : Type} (f : α → Nat) : ∀ l : List α, l.length ≤ (l.map fun x => max 1 (f x)).sum
  | [] => by simp
  | x :: l => by
    have := sum_len f l
    simp only [List.map_cons, List.sum_cons, List.length_cons]; omega
theorem wt_len {e : Ty} (l : List (Den e)) : l.length + 1 ≤ wt (.sl e) l := by
  have := sum_len (wt e) l
  simp only [wt]; omega
theorem sum_mem {α : Type} (f : α → Nat) : ∀ (l : List α) (x : α), x ∈ l → f x ≤ (l.map fun x => max 1 (f x)).sum
  | y :: l, x, h => by
    simp only [List.map_cons, List.sum_cons]
    rcases List.mem_cons.1 h with rfl | h
    · omega
    · have := sum_mem f l x h; omega
theorem wt_mem {e : Ty} {l : List (Den e)} {x : Den e} (h : x ∈ l) : wt e x < wt (.sl e) l := by
  have := sum_mem (wt e) l x h
  simp only [wt]; omega
/-- A list that was handed in, element by element. -/
theorem In.elems {w : World} {e : Ty} {A : Option Addr} {n c : Nat} {l : List (Den e)} {F : List Nat} (h : In w (.sl e) [.slice A n c] l F) :
    n = l.length ∧ n ≤ c ∧ (0 < n → ∃ b o, A = some ⟨b, o, none⟩ ∧ ∀ i (h : i < l.length), ∃ es G, es.length = e.w ∧ (∀ j, j < e.w → w.cell? ⟨b, o + i * e.w + j, none⟩ = es[j]?) ∧ In w e es l[i] G ∧ ∀ x ∈ G, x ∈ F) := by
  obtain ⟨A', n', c', he, h1, h2, _, h3⟩ := h
  simp only [List.cons.injEq, Value.slice.injEq, and_true] at he
  obtain ⟨rfl, rfl, rfl⟩ := he
  refine ⟨h1, h2, fun hn => ?_⟩
  rcases h3 with ⟨h3, _⟩ | ⟨b, o, Fs, rfl, rfl, h4, h5⟩
  · omega
  · refine ⟨b, o, rfl, fun i hi => ?_⟩
    obtain ⟨es, e1, e2, e3⟩ := h5 i hi
    exact ⟨es, _, e1, e2, e3, fun x hx => List.mem_cons_of_mem _ (flat_mem hx)⟩
/-- The cells of a record whose fields are plain. -/
def flatV : (t : Ty) → Den t → List Value
  | .int k, n => [.int k n]
  | .bool, b => [.bool b]
  | .str, s => [.string s]
  | .flt k, n => [.float k n]
  | .unit, _ => []
  | .pair a b, d => flatV a d.1 ++ flatV b d.2
  | .sl _, _ => [.nilIface]
def flatB : Ty → Bool
  | .pair a b => flatB a && flatB b
  | .sl _ => false
  | _ => true
theorem In.flat {w : World} : ∀ {t : Ty} {cs : List Value} {d : Den t} {F : List Nat}, flatB t = true → In w t cs d F → cs = flatV t d
  | .int k, _, _, _, _, h => h.1
  | .bool, _, _, _, _, h => h.1
  | .str, _, _, _, _, h => h.1
  | .flt k, _, _, _, _, h => h.1
  | .unit, _, _, _, _, h => h.1
  | .pair a b, _, _, _, hb, h => by
    simp only [flatB, Bool.and_eq_true] at hb
    obtain ⟨c1, c2, F1, F2, rfl, rfl, _, h1, h2⟩ := h
    rw [h1.flat hb.1, h2.flat hb.2]; rfl
/-- A list of plain records that was handed in. -/
def InR (w : World) (s : Nat) (A : Option Addr) (n : Nat) (rs : List (List Value)) : Prop :=
  n = rs.length ∧ (0 < n → ∃ b o, A = some ⟨b, o, none⟩ ∧ ∀ i, i < n → ∀ j, j < s → w.cell? ⟨b, o + i * s + j, none⟩ = (rs.getD i [])[j]?)
theorem In.recs {w : World} {e : Ty} {A : Option Addr} {n c : Nat} {l : List (Den e)} {F : List Nat} (hf : flatB e = true) (h : In w (.sl e) [.slice A n c] l F) : InR w e.w A n (l.map (flatV e)) := by
  obtain ⟨h1, _, h2⟩ := h.elems
  refine ⟨by simpa using h1, fun hn => ?_⟩
  obtain ⟨b, o, rfl, h3⟩ := h2 hn
  refine ⟨b, o, rfl, fun i hi j hj => ?_⟩
  obtain ⟨es, G, e1, e2, e3, _⟩ := h3 i (by omega)
  rw [e2 j hj, e3.flat hf]
  have : i < l.length := by omega
  simp [List.getD_eq_getElem?_getD, this]
theorem InR.fr {S : List Nat} {w w' : World} {s : Nat} {A : Option Addr} {n : Nat} {rs : List (List Value)} (h : InR w s A n rs) (hl : ∀ r ∈ rs, r.length = s) (hf : Fr [] w w') : InR w' s A n rs := by
  refine ⟨h.1, fun hn => ?_⟩
  obtain ⟨b, o, rfl, h2⟩ := h.2 hn
  refine ⟨b, o, rfl, fun i hi j hj => ?_⟩
  have hr : (rs.getD i []).length = s := by
    have : i < rs.length := by have := h.1; omega
    rw [List.getD_eq_getElem?_getD, List.getElem?_eq_getElem this]
    exact hl _ (List.getElem_mem this)
  have h3 := h2 i hi j hj
  rw [List.getElem?_eq_getElem (by omega)] at h3 ⊢
  exact hf.cell h3
theorem In.ints {w : World} {A : Option Addr} {n c : Nat} {l : List Int} {F : List Nat} (h : In w (.sl (.int .i64)) [.slice A n c] l F) :
    n = l.length ∧ (0 < n → ∃ b o, A = some ⟨b, o, none⟩ ∧ ∀ i, i < n → w.cell? ⟨b, o + i, none⟩ = some (.int .i64 (l.getD i 0))) := by
  obtain ⟨h1, _, h2⟩ := h.elems
  refine ⟨h1, fun hn => ?_⟩
  obtain ⟨b, o, rfl, h3⟩ := h2 hn
  refine ⟨b, o, rfl, fun i hi => ?_⟩
  have hi2 : i < l.length := by omega
  obtain ⟨es, G, e1, e2, ⟨rfl, _, _⟩, _⟩ := h3 i hi2
  have := e2 0 (by decide)
  simp only [Ty.w, Nat.mul_one, Nat.add_zero] at this
  rw [this]
  simp [List.getD_eq_getElem?_getD, hi2]
theorem In.strs {w : World} {A : Option Addr} {n c : Nat} {l : List ByteArray} {F : List Nat} (h : In w (.sl .str) [.slice A n c] l F) :
    n = l.length ∧ (0 < n → ∃ b o, A = some ⟨b, o, none⟩ ∧ ∀ i, i < n → w.cell? ⟨b, o + i, none⟩ = some (.string (l.getD i ByteArray.empty))) := by
  obtain ⟨h1, _, h2⟩ := h.elems
  refine ⟨h1, fun hn => ?_⟩
  obtain ⟨b, o, rfl, h3⟩ := h2 hn
  refine ⟨b, o, rfl, fun i hi => ?_⟩
  have hi2 : i < l.length := by omega
  obtain ⟨es, G, e1, e2, ⟨rfl, _⟩, _⟩ := h3 i hi2
  have := e2 0 (by decide)
  simp only [Ty.w, Nat.mul_one, Nat.add_zero] at this
  rw [this]
  simp [List.getD_eq_getElem?_getD, hi2]

/-! ### Claims -/
theorem own : ownKnob Try.prog.godebug = none := by kernel_rfl
theorem laid : laidOutB Try.prog = true := by kernel_rfl
theorem stays {H : Type} {enc : TypeId × Value → H} {t : TypeId} (hr : Try.prog.readableRec t = true) (hrow : t < Try.prog.types.size) {W W' : World} {sp : Nat → Bool} {v : Value} {d : DataW H} {ps : List MemPlace}
    (h : DataW.Trod enc Try.prog W 0 (fun _ => true) true t v d ps) (hf : Fr [] W W') (hlt : ∀ p ∈ ps, p.block < W.heap.size) (hs : ∀ p ∈ ps, sp p.block = true) : DataW.Trod enc Try.prog W' 0 sp true t v d ps := by
  refine WideElems.Trod_stays laid hr hrow h (fun p hp => ?_) hs
  have hb := hf.block p.block (hlt p hp) (by simp)
  cases p with
  | cell b o => exact World.cell?_of_block (w := W) hb
  | map b => exact hb
theorem open_arg {H : Type} {enc : TypeId × Value → H} {W : World} {t : TypeId} {fuel : Nat} {ty : Ty} {v : Value} {d : DataW H} {ps : List MemPlace} (hty : tyOf Try.prog fuel t = some ty)
    (h : DataW.Trod enc Try.prog W 0 (fun _ => true) true t v d ps) : ∃ (x : Den ty) (F : List Nat), In W ty v.cells.toList x F ∧ wt ty x ≤ Rows.uptoBulk d := by
  obtain ⟨n, h⟩ := h
  exact opens fuel t ty hty n _ _ h
end Go.Proofs.Ytjmlfknogjaemaa.Vc
/- Integers that are handed in are within their kind. -/
set_option linter.unusedVariables false
namespace Go.Proofs.Ytjmlfknogjaemaa.Vc
open Go Go.Deep Go.ChangeShapes Go.WideShapes
theorem wf_i64 {z : Int} (h : (Lit.int .i64 z).wf = true) : -9223372036854775808 ≤ z ∧ z ≤ 9223372036854775807 := by
  have h2 : (decide (IntKind.min .i64 ≤ z) && decide (z ≤ IntKind.max .i64)) = true := h
  simp [IntKind.min, IntKind.max, IntKind.signed, IntKind.bits] at h2
  omega
theorem In.intsB {w : World} {A : Option Addr} {n c : Nat} {l : List Int} {F : List Nat} (h : In w (.sl (.int .i64)) [.slice A n c] l F) : ∀ z ∈ l, -9223372036854775808 ≤ z ∧ z ≤ 9223372036854775807 := by
  intro z hz
  obtain ⟨i, hi, rfl⟩ := List.mem_iff_getElem.1 hz
  obtain ⟨h1, _, h2⟩ := h.elems
  have hi' : i < l.length := hi
  obtain ⟨b, o, _, h3⟩ := h2 (by omega)
  obtain ⟨es, G, _, _, ⟨_, h4, _⟩, _⟩ := h3 i hi
  exact wf_i64 h4
end Go.Proofs.Ytjmlfknogjaemaa.Vc
/- slices.SortFunc on seats, laid at this program: numbers side by side. -/
namespace Go.Proofs.Ytjmlfknogjaemaa
open Go Go.Shelf
set_option maxRecDepth 100000
def Lay.sortS_ren : Go.Shelf.Ren := ⟨fun | 6 => 89 | 15 => 97 | 14 => 96 | 28 => 107 | 29 => 108 | 20 => 99 | 21 => 100 | 22 => 101 | 23 => 102 | 24 => 103 | 25 => 104 | 26 => 105 | 27 => 106 | 46 => 109 | 47 => 110 | 48 => 111 | 49 => 112 | 50 => 113 | 57 => 114 | n => n, fun | 22 => 109 | 24 => 143 | 25 => 145 | 3 => 3 | 39 => 94 | 0 => 0 | 53 => 158 | 55 => 160 | 4 => 4 | 46 => 152 | 45 => 151 | 50 => 85 | 5 => 5 | 9 => 9 | 66 => 161 | 70 => 165 | 76 => 167 | 77 => 64 | n => n, fun | n => n⟩
theorem Lay.sortS : Go.Proofs.SlLaysF0.n6 Try.prog Lay.sortS_ren := {
  mixed := by kernel_rfl,
  f6 := ⟨Try.f89.name, by decide, Try.func89.trans (congrArg some (by kernel_rfl))⟩,
  f14 := ⟨Try.f96.name, by decide, Try.func96.trans (congrArg some (by kernel_rfl))⟩,
  f15 := Try.func97.trans (congrArg some (by kernel_rfl)),
  f20 := ⟨Try.f99.name, by decide, Try.func99.trans (congrArg some (by kernel_rfl))⟩,
  f21 := ⟨Try.f100.name, by decide, Try.func100.trans (congrArg some (by kernel_rfl))⟩,
  f22 := ⟨Try.f101.name, by decide, Try.func101.trans (congrArg some (by kernel_rfl))⟩,
  f23 := ⟨Try.f102.name, by decide, Try.func102.trans (congrArg some (by kernel_rfl))⟩,
  f24 := ⟨Try.f103.name, by decide, Try.func103.trans (congrArg some (by kernel_rfl))⟩,
  f25 := ⟨Try.f104.name, by decide, Try.func104.trans (congrArg some (by kernel_rfl))⟩,
  f26 := ⟨Try.f105.name, by decide, Try.func105.trans (congrArg some (by kernel_rfl))⟩,
  f27 := ⟨Try.f106.name, by decide, Try.func106.trans (congrArg some (by kernel_rfl))⟩,
  f28 := Try.func107.trans (congrArg some (by kernel_rfl)),
  f29 := Try.func108.trans (congrArg some (by kernel_rfl)),
  f46 := ⟨Try.f109.name, by decide, Try.func109.trans (congrArg some (by kernel_rfl))⟩,
  f47 := Try.func110.trans (congrArg some (by kernel_rfl)),
  f48 := Try.func111.trans (congrArg some (by kernel_rfl)),
  f49 := ⟨Try.f112.name, by decide, Try.func112.trans (congrArg some (by kernel_rfl))⟩,
  f50 := ⟨Try.f113.name, by decide, Try.func113.trans (congrArg some (by kernel_rfl))⟩,
  f57 := ⟨Try.f114.name, by decide, Try.func114.trans (congrArg some (by kernel_rfl))⟩,
  t0 := Try.underlying0,
  a0 := Try.isAgg0,
  z0 := Try.sizeOf0,
  v0 := Try.zeroValue0,
  t3 := Try.underlying3,
  a3 := Try.isAgg3,
  z3 := Try.sizeOf3,
  v3 := Try.zeroValue3,
  t4 := Try.underlying4,
  a4 := Try.isAgg4,
  z4 := Try.sizeOf4,
  v4 := Try.zeroValue4,
  t5 := Try.underlying5,
  a5 := Try.isAgg5,
  z5 := Try.sizeOf5,
  v5 := Try.zeroValue5,
  t9 := Try.underlying9,
  a9 := Try.isAgg9,
  z9 := Try.sizeOf9,
  v9 := Try.zeroValue9,
  t22 := Try.underlying109,
  a22 := Try.isAgg109,
  z22 := Try.sizeOf109,
  v22 := Try.zeroValue109,
  t25 := Try.underlying145,
  a25 := Try.isAgg145,
  z25 := Try.sizeOf145,
  v25 := Try.zeroValue145,
  t39 := Try.underlying94,
  a39 := Try.isAgg94,
  z39 := Try.sizeOf94,
  v39 := Try.zeroValue94,
  t45 := Try.underlying151,
  a45 := Try.isAgg151,
  z45 := Try.sizeOf151,
  v45 := Try.zeroValue151,
  t46 := Try.underlying152,
  a46 := Try.isAgg152,
  z46 := Try.sizeOf152,
  v46 := Try.zeroValue152,
  t50 := Try.underlying85,
  a50 := Try.isAgg85,
  z50 := Try.sizeOf85,
  v50 := Try.zeroValue85,
  t53 := Try.underlying158,
  a53 := Try.isAgg158,
  z53 := Try.sizeOf158,
  v53 := Try.zeroValue158,
  t55 := Try.underlying160,
  a55 := Try.isAgg160,
  z55 := Try.sizeOf160,
  v55 := Try.zeroValue160,
  t66 := Try.underlying161,
  a66 := Try.isAgg161,
  z66 := Try.sizeOf161,
  v66 := Try.zeroValue161,
  t70 := Try.underlying165,
  a70 := Try.isAgg165,
  z70 := Try.sizeOf165,
  v70 := Try.zeroValue165,
  t76 := Try.underlying167,
  a76 := Try.isAgg167,
  z76 := Try.sizeOf167,
  v76 := Try.zeroValue167,
  t77 := Try.underlying64,
  a77 := Try.isAgg64,
  z77 := Try.sizeOf64,
  v77 := Try.zeroValue64 }
end Go.Proofs.Ytjmlfknogjaemaa
/- Page: the hash, as the program and as the document write it: one number. -/
set_option linter.unusedVariables false
set_option linter.unusedSimpArgs false
namespace Go.Proofs.Ytjmlfknogjaemaa.Vc
open Go
namespace PG
theorem u16_wrap (x : Int) : IntKind.wrap .u16 x = x % 65536 := by
  simp [IntKind.wrap, IntKind.bits, IntKind.signed]
theorem mod16 (x : Int) : (if Int.tmod x 65536 < 0 then Int.tmod x 65536 + 65536 else Int.tmod x 65536) = x % 65536 := by
  rw [Int.tmod_eq_emod]
  split <;> split <;> omega
/-- Where the search for a key begins. -/
def pgHash (key size : Int) : Int := if size < 1 then 0 else (IntKind.wrap .i64 (key * 40503) % 65536) % size
theorem pgHash_range (key : Int) {size : Int} : 0 ≤ pgHash key size ∧ (pgHash key size < size ∨ size < 1 ∧ pgHash key size = 0) := by
  unfold pgHash
  by_cases h : size < 1
  · rw [if_pos h]; exact ⟨by omega, .inr ⟨h, rfl⟩⟩
  · rw [if_neg h]
    exact ⟨Int.emod_nonneg _ (by omega), .inl (Int.emod_lt_of_pos _ (by omega))⟩
theorem tmod_pos {a b : Int} (ha : 0 ≤ a) : Int.tmod a b = a % b := Int.tmod_eq_emod_of_nonneg ha
end PG
end Go.Proofs.Ytjmlfknogjaemaa.Vc
/- Pieces of memory, put together and taken apart. -/
set_option linter.unusedVariables false
set_option linter.unusedSimpArgs false
namespace Go.Proofs.Ytjmlfknogjaemaa.Vc
open Go

/-- Two pieces as one. -/
def Chunk.star (c d : Chunk) : Chunk where
  holds w F := ∃ F1 F2, F = F1 ++ F2 ∧ c.holds w F1 ∧ d.holds w F2 ∧ ∀ x ∈ F1, x ∉ F2
  fr h hf hS := by
    obtain ⟨F1, F2, rfl, h1, h2, h3⟩ := h
    exact ⟨F1, F2, rfl, c.fr h1 hf (fun x hx => hS x (by simp [hx])), d.fr h2 hf (fun x hx => hS x (by simp [hx])), h3⟩
  lt h x hx := by
    obtain ⟨F1, F2, rfl, h1, h2, h3⟩ := h
    rcases List.mem_append.1 hx with hx | hx
    · exact c.lt h1 x hx
    · exact d.lt h2 x hx
/-- One of many. -/
def Chunk.ex {α : Type} (f : α → Chunk) : Chunk where
  holds w F := ∃ a, (f a).holds w F
  fr h hf hS := by obtain ⟨a, h⟩ := h; exact ⟨a, (f a).fr h hf hS⟩
  lt h x hx := by obtain ⟨a, h⟩ := h; exact (f a).lt h x hx
/-- A fact beside. -/
def Chunk.fact (p : Prop) (c : Chunk) : Chunk where
  holds w F := p ∧ c.holds w F
  fr h hf hS := ⟨h.1, c.fr h.2 hf hS⟩
  lt h x hx := c.lt h.2 x hx
/-- Nothing. -/
def Chunk.emp : Chunk where
  holds w F := F = []
  fr h hf hS := h
  lt h x hx := by rw [h] at hx; simp at hx

section
variable {S : List Nat} {w0 w w' : World} {L : List Chunk}
/-- The piece at i is seen in another way. -/
theorem St.as (h : St S w0 w L) (i : Nat) {c : Chunk} (hi : L[i]? = some c) (c' : Chunk) (hc : ∀ F, c.holds w F → c'.holds w F) : St S w0 w (L.set i c') := by
  obtain ⟨F, h1, _, h2⟩ := h.at i hi
  exact h2 (Fr.refl _ _) (hc F h1) (fun x hx => .inl hx)
theorem St.unfact (h : St S w0 w L) (i : Nat) {p : Prop} {c : Chunk} (hi : L[i]? = some (Chunk.fact p c)) : p ∧ St S w0 w (L.set i c) := by
  obtain ⟨F, h1, _, h2⟩ := h.at i hi
  exact ⟨h1.1, h2 (Fr.refl _ _) h1.2 (fun x hx => .inl hx)⟩
theorem St.unex (h : St S w0 w L) (i : Nat) {α : Type} {f : α → Chunk} (hi : L[i]? = some (Chunk.ex f)) : ∃ a, St S w0 w (L.set i (f a)) := by
  obtain ⟨F, ⟨a, h1⟩, _, h2⟩ := h.at i hi
  exact ⟨a, h2 (Fr.refl _ _) h1 (fun x hx => .inl hx)⟩
/-- The piece in front is two. -/
theorem St.split {c d : Chunk} (h : St S w0 w (Chunk.star c d :: L)) : St S w0 w (c :: d :: L) := by
  obtain ⟨h1, Fs, h2, h3⟩ := h
  obtain ⟨⟨F1, F2, e, k1, k2, k3⟩, k4⟩ := h2 0 _ rfl
  have q1 : ∀ x ∈ F1, x ∈ Fs 0 := fun x hx => by rw [e]; simp [hx]
  have q2 : ∀ x ∈ F2, x ∈ Fs 0 := fun x hx => by rw [e]; simp [hx]
  refine ⟨h1, fun i => match i with | 0 => F1 | 1 => F2 | i + 2 => Fs (i + 1), ?_, ?_⟩
  · intro i b hb
    match i with
    | 0 => simp at hb; subst hb; exact ⟨k1, fun x hx => k4 x (q1 x hx)⟩
    | 1 => simp at hb; subst hb; exact ⟨k2, fun x hx => k4 x (q2 x hx)⟩
    | i + 2 => exact h2 (i + 1) b (by simpa using hb)
  · intro i j hi hj hij x hx hx2
    simp only [List.length_cons] at hi hj
    match i, j with
    | 0, 0 => exact hij rfl
    | 1, 1 => exact hij rfl
    | 0, 1 => exact k3 x hx hx2
    | 1, 0 => exact k3 x hx2 hx
    | 0, j + 2 => exact h3 0 (j + 1) (by simp) (by simp; omega) (by omega) x (q1 x hx) hx2
    | 1, j + 2 => exact h3 0 (j + 1) (by simp) (by simp; omega) (by omega) x (q2 x hx) hx2
    | i + 2, 0 => exact h3 0 (i + 1) (by simp) (by simp; omega) (by omega) x (q1 x hx2) hx
    | i + 2, 1 => exact h3 0 (i + 1) (by simp) (by simp; omega) (by omega) x (q2 x hx2) hx
    | i + 2, j + 2 => exact h3 (i + 1) (j + 1) (by simp; omega) (by simp; omega) (by omega) x hx hx2
theorem St.join {c d : Chunk} (h : St S w0 w (c :: d :: L)) : St S w0 w (Chunk.star c d :: L) := by
  obtain ⟨h1, Fs, h2, h3⟩ := h
  obtain ⟨k1, k2⟩ := h2 0 _ rfl
  obtain ⟨k3, k4⟩ := h2 1 _ rfl
  refine ⟨h1, fun i => match i with | 0 => Fs 0 ++ Fs 1 | i + 1 => Fs (i + 2), ?_, ?_⟩
  · intro i b hb
    match i with
    | 0 =>
      simp at hb; subst hb
      refine ⟨⟨Fs 0, Fs 1, rfl, k1, k3, fun x hx => h3 0 1 (by simp) (by simp) (by omega) x hx⟩, fun x hx => ?_⟩
      rcases List.mem_append.1 hx with hx | hx
      · exact k2 x hx
      · exact k4 x hx
    | i + 1 => exact h2 (i + 2) b (by simpa using hb)
  · have out : ∀ j, j + 1 < (Chunk.star c d :: L).length → ∀ x ∈ Fs 0 ++ Fs 1, x ∉ Fs (j + 2) := by
      intro j hj x hx hx2
      simp at hj
      rcases List.mem_append.1 hx with hx | hx
      · exact h3 0 (j + 2) (by simp) (by simp; omega) (by omega) x hx hx2
      · exact h3 1 (j + 2) (by simp) (by simp; omega) (by omega) x hx hx2
    intro i j hi hj hij x hx hx2
    match i, j with
    | 0, 0 => exact hij rfl
    | 0, j + 1 => exact out j hj x hx hx2
    | i + 1, 0 => exact out i hi x hx2 hx
    | i + 1, j + 1 => exact h3 (i + 2) (j + 2) (by simp at hi ⊢; omega) (by simp at hj ⊢; omega) (by omega) x hx hx2
/-- The piece at i comes to the front; the one in front goes there. -/
theorem St.swap (h : St S w0 w L) (i j : Nat) {c d : Chunk} (hi : L[i]? = some c) (hj : L[j]? = some d) : St S w0 w ((L.set i d).set j c) := by
  have inb : ∀ {i : Nat} {c : Chunk}, L[i]? = some c → i < L.length := by
    intro i c hi
    rcases Nat.lt_or_ge i L.length with h | h
    · exact h
    · rw [List.getElem?_eq_none h] at hi; cases hi
  have hil := inb hi
  have hjl := inb hj
  refine h.pick _ (fun k => if k = j then i else if k = i then j else k) ?_ ?_
  · intro k e hk
    by_cases e1 : k = j
    · rw [if_pos e1]
      subst e1
      rw [List.getElem?_set_self (by simpa using hjl)] at hk
      rw [hi]; exact hk
    · rw [if_neg e1]
      rw [List.getElem?_set_ne (Ne.symm e1)] at hk
      by_cases e2 : k = i
      · rw [if_pos e2]
        subst e2
        rw [List.getElem?_set_self hil] at hk
        rw [hj]; exact hk
      · rw [if_neg e2]
        rw [List.getElem?_set_ne (Ne.symm e2)] at hk
        exact hk
  · intro a b _ _ hab
    by_cases a1 : a = j <;> by_cases b1 : b = j <;> by_cases a2 : a = i <;> by_cases b2 : b = i <;> simp_all
theorem perm_map {α : Type} {l l' : List α} (p : l.Perm l') : ∃ σ : Nat → Nat, (∀ i c, l'[i]? = some c → l[σ i]? = some c) ∧ ∀ i j, i < l'.length → j < l'.length → σ i = σ j → i = j := by
  induction p with
  | nil => exact ⟨id, by simp, by simp⟩
  | cons x p ih =>
    obtain ⟨σ, h1, h2⟩ := ih
    refine ⟨fun i => match i with | 0 => 0 | i + 1 => σ i + 1, ?_, ?_⟩
    · intro i c hc
      cases i with
      | zero => simpa using hc
      | succ i => simpa using h1 i c (by simpa using hc)
    · intro i j hi hj h
      cases i with
      | zero =>
        cases j with
        | zero => rfl
        | succ j => simp at h
      | succ i =>
        cases j with
        | zero => simp at h
        | succ j => simp at h hi hj; rw [h2 i j hi hj h]
  | swap x y l =>
    refine ⟨fun i => match i with | 0 => 1 | 1 => 0 | i + 2 => i + 2, ?_, ?_⟩
    · intro i c hc
      match i, hc with
      | 0, hc => simpa using hc
      | 1, hc => simpa using hc
      | i + 2, hc => simpa using hc
    · intro i j hi hj h
      match i, j, h with
      | 0, 0, _ => rfl
      | 1, 1, _ => rfl
      | 0, 1, h => simp at h
      | 1, 0, h => simp at h
      | 0, j + 2, h => simp at h
      | 1, j + 2, h => simp at h
      | i + 2, 0, h => simp at h
      | i + 2, 1, h => simp at h
      | i + 2, j + 2, h => simpa using h
  | trans p q ih1 ih2 =>
    obtain ⟨σ, h1, h2⟩ := ih1
    obtain ⟨τ, h3, h4⟩ := ih2
    refine ⟨fun i => σ (τ i), fun i c hc => h1 _ _ (h3 i c hc), fun i j hi hj h => h4 i j hi hj (h2 _ _ ?_ ?_ h)⟩
    · exact (List.getElem?_eq_some_iff.1 (h3 i _ (List.getElem?_eq_getElem hi))).1
    · exact (List.getElem?_eq_some_iff.1 (h3 j _ (List.getElem?_eq_getElem hj))).1
theorem St.perm (h : St S w0 w L) {L' : List Chunk} (p : L.Perm L') : St S w0 w L' := by
  obtain ⟨σ, h1, h2⟩ := perm_map p
  exact h.pick L' σ h1 h2
/-- The pieces at some places. -/
theorem St.sel (h : St S w0 w L) (idx : List Nat) (hnd : idx.Nodup) (L' : List Chunk) (hL : L'.map some = idx.map fun i => L[i]?) : St S w0 w L' := by
  have hlen : L'.length = idx.length := by simpa using congrArg List.length hL
  refine h.pick L' (fun i => idx.getD i 0) ?_ ?_
  · intro i c hc
    have hi : i < L'.length := (List.getElem?_eq_some_iff.1 hc).1
    have e := congrArg (fun l => l[i]?) hL
    have hi2 : i < idx.length := by omega
    simp only [List.getElem?_map, hc, Option.map_some] at e
    rw [List.getElem?_eq_getElem hi2, Option.map_some] at e
    rw [List.getD_eq_getElem?_getD, List.getElem?_eq_getElem hi2]
    exact (Option.some.inj e).symm
  · intro i j hi hj h
    have hi2 : i < idx.length := by omega
    have hj2 : j < idx.length := by omega
    simp only [List.getD_eq_getElem?_getD, List.getElem?_eq_getElem hi2, List.getElem?_eq_getElem hj2, Option.getD_some] at h
    have hp := List.pairwise_iff_getElem.1 hnd
    rcases Nat.lt_trichotomy i j with h1 | h1 | h1
    · exact absurd h (hp i j hi2 hj2 h1)
    · exact h1
    · exact absurd h.symm (hp j i hj2 hi2 h1)
/-- Each piece is seen in another way. -/
theorem St.weak (h : St S w0 w L) (L' : List Chunk) (hl : L'.length = L.length) (hi : ∀ (i : Nat) (h : i < L.length) (h' : i < L'.length), ∀ F, (L[i]).holds w F → (L'[i]).holds w F) : St S w0 w L' := by
  obtain ⟨h1, Fs, h2, h3⟩ := h
  refine ⟨h1, Fs, fun i c hc => ?_, fun i j h4 h5 => h3 i j (by omega) (by omega)⟩
  obtain ⟨hi1, rfl⟩ := List.getElem?_eq_some_iff.1 hc
  have h6 := h2 i L[i] (List.getElem?_eq_getElem (by omega))
  exact ⟨hi i (by omega) hi1 _ h6.1, h6.2⟩
/-- Work that a contract tells of one piece's blocks, from start to end. -/
theorem St.whole {c' : Chunk} {F : List Nat} (h : St F w0 w [c']) : ∃ F', c'.holds w F' ∧ Fr F w0 w ∧ ∀ x ∈ F', x ∈ F ∨ w0.heap.size ≤ x := h.one
end

/-- A cell, and what stands ahead of it in its block, that leads to a list. -/
def Chunk.slp (T TE : TypeId) (s : Nat) (pre post : List Value) (b : Nat) (rs : List (List Value)) : Chunk :=
  Chunk.ex fun v : Value => Chunk.star (Chunk.blk b (pre ++ v :: post).toArray T) (Chunk.sl TE s v rs)
end Go.Proofs.Ytjmlfknogjaemaa.Vc
/- Maps of any plain keys and values: what the operations do. -/
set_option linter.unusedVariables false
set_option linter.unusedSimpArgs false
set_option linter.unusedSectionVars false
namespace Go.Proofs.Ytjmlfknogjaemaa.Vc
namespace GM
open Go Go.MapKept
section
variable {K V : Type} [DecidableEq K]
/-- What a key's kind must keep: it may be one, it is found by its value, and it stays as it is. -/
structure KeyLaw (P : Program) (kt : TypeId) (enc : K → Value) : Prop where
  inj : ∀ a b, enc a = enc b → a = b
  check : ∀ (e : Bool) k w, (Instr.checkKey e 10000 kt (enc k)).run P w = .ok () w
  find : ∀ (k : K) (es : List MapEntry) (ks : List K) (w : World), es.map (·.key) = ks.map enc → (Instr.findKey kt (enc k) es).run P w = .ok (match ks.findIdx? (fun x => decide (x = k)) with | some j => (es[j]?).map fun e => (j, e.val) | none => none) w
  stays : ∀ k w, (Instr.keyThatStays (enc k) (enc k)).run P w = .ok (enc k) w
theorem findNow_law {d : TypeDesc} {enc : K → Value} (hs : ∀ a b, Instr.sameNow d (enc a) (enc b) = some (decide (a = b))) (k : K) : ∀ (es : List MapEntry) (ks : List K) (i : Nat), es.map (·.key) = ks.map enc →
    Instr.findNow d (enc k) es i = some (match ks.findIdx? (fun x => decide (x = k)) with | some j => (es[j]?).map fun e => (i + j, e.val) | none => none)
  | [], [], i, _ => rfl
  | [], _ :: _, _, h => by simp at h
  | _ :: _, [], _, h => by simp at h
  | e :: es, x :: ks, i, h => by
    simp only [List.map_cons, List.cons.injEq] at h
    simp only [Instr.findNow, h.1, hs, List.findIdx?_cons]
    by_cases hk : x = k
    · subst hk; simp
    · have e1 : decide (k = x) = false := by simp [Ne.symm hk]
      have e2 : decide (x = k) = false := by simp [hk]
      simp only [e1, e2, Bool.false_eq_true, if_false]
      rw [findNow_law hs k es ks (i + 1) h.2]
      cases List.findIdx? (fun x => decide (x = k)) ks with
      | none => rfl
      | some j =>
        simp only [Option.map_some, List.getElem?_cons_succ]
        congr 2
        funext e
        congr 1; omega
theorem findAsking_law {P : Program} {kt : TypeId} {enc : K → Value} (hq : ∀ a b w, (Op.equal kt (enc a) (enc b)).run P w = .ok (decide (a = b)) w) (k : K) (w : World) : ∀ (es : List MapEntry) (ks : List K) (i : Nat), es.map (·.key) = ks.map enc →
    (Instr.findAsking kt (enc k) es i).run P w = .ok (match ks.findIdx? (fun x => decide (x = k)) with | some j => (es[j]?).map fun e => (i + j, e.val) | none => none) w
  | [], [], i, _ => by simp [Instr.findAsking]
  | [], _ :: _, _, h => by simp at h
  | _ :: _, [], _, h => by simp at h
  | e :: es, x :: ks, i, h => by
    simp only [List.map_cons, List.cons.injEq] at h
    simp only [Instr.findAsking, h.1, Sem.run_bind, hq, Result.andThen_ok, List.findIdx?_cons]
    by_cases hk : x = k
    · subst hk; simp
    · have e1 : decide (k = x) = false := by simp [Ne.symm hk]
      have e2 : decide (x = k) = false := by simp [hk]
      simp only [e1, e2, Bool.false_eq_true, if_false]
      rw [findAsking_law hq k w es ks (i + 1) h.2]
      cases List.findIdx? (fun x => decide (x = k)) ks with
      | none => rfl
      | some j =>
        simp only [Option.map_some, List.getElem?_cons_succ]
        congr 2
        funext e
        congr 1; omega
theorem findNow_none {d : TypeDesc} {enc : K → Value} (hs : ∀ a b, Instr.sameNow d (enc a) (enc b) = none) (k : K) (e : MapEntry) (es : List MapEntry) (x : K) (hx : e.key = enc x) (i : Nat) : Instr.findNow d (enc k) (e :: es) i = none := by
  simp [Instr.findNow, hx, hs]
/-- Keys that are compared at once: numbers, texts. -/
theorem KeyLaw.now {P : Program} {kt : TypeId} {d : TypeDesc} {enc : K → Value} (hu : P.underlying kt = some d) (hk : ∀ k, IsKey d (enc k)) (hi : ∀ a b, enc a = enc b → a = b) (hs : ∀ a b, Instr.sameNow d (enc a) (enc b) = some (decide (a = b)))
    (hst : ∀ k w, (Instr.keyThatStays (enc k) (enc k)).run P w = .ok (enc k) w) : KeyLaw P kt enc where
  inj := hi
  check e k w := run_checkKey hu (hk k) e 9999
  find k es ks w h := by
    have := run_findKey (w := w) hu (findNow_law hs k es ks 0 h)
    simpa using this
  stays := hst
/-- Keys that are asked: structs, arrays. -/
theorem KeyLaw.asked {P : Program} {kt : TypeId} {d : TypeDesc} {enc : K → Value} (hu : P.underlying kt = some d) (hc : ∀ (e : Bool) k w, (Instr.checkKey e 10000 kt (enc k)).run P w = .ok () w) (hi : ∀ a b, enc a = enc b → a = b) (hs : ∀ a b, Instr.sameNow d (enc a) (enc b) = none)
    (hq : ∀ a b w, (Op.equal kt (enc a) (enc b)).run P w = .ok (decide (a = b)) w) (hst : ∀ k w, (Instr.keyThatStays (enc k) (enc k)).run P w = .ok (enc k) w) : KeyLaw P kt enc where
  inj := hi
  check := hc
  find k es ks w h := by
    match es, ks, h with
    | [], [], _ => simp [Instr.findKey, run_underlying hu, Instr.findNow]
    | e :: es, x :: ks, h =>
      have h2 := h
      simp only [List.map_cons, List.cons.injEq] at h2
      have := findAsking_law hq k w (e :: es) (x :: ks) 0 h
      simp only [Instr.findKey, Sem.run_bind, run_underlying hu, Result.andThen_ok, findNow_none hs k e es x h2.1 0]
      simpa using this
  stays := hst
/-- Texts as keys. -/
theorem beq_text (a b : ByteArray) : (a == b) = decide (a = b) := by
  rw [Bool.eq_iff_iff, bytes_beq]; simp
theorem KeyLaw.text {P : Program} {kt : TypeId} (hu : P.underlying kt = some .string) : KeyLaw P kt (fun s : ByteArray => Value.string s) :=
  KeyLaw.now hu (fun k => by simp [IsKey]) (fun a b h => by simpa using h) (fun a b => by simp [Instr.sameNow, beq_text])
    (fun k w => by simp [Instr.keyThatStays, Instr.sameBits, beq_text])
/-- Numbers as keys. -/
theorem KeyLaw.num {P : Program} {kt : TypeId} {i : IntKind} (hu : P.underlying kt = some (.int i)) : KeyLaw P kt (fun n : Int => Value.int i n) :=
  KeyLaw.now hu (fun k => by simp [IsKey]) (fun a b h => by simpa using h) (fun a b => by
      simp only [Instr.sameNow, if_pos]
      rw [Option.some.injEq, Bool.eq_iff_iff]; simp)
    (fun k w => by simp [Instr.keyThatStays, Instr.sameBits])
/-- A map in the heap. -/
def MapIs (encK : K → Value) (encV : V → Value) (w : World) (r : Nat) (l : List (K × V)) : Prop :=
  ∃ es clock, w.heap[r]? = some (.map es clock) ∧ es.toList.map (fun e => (e.key, e.val)) = l.map (fun p => (encK p.1, encV p.2)) ∧ Stamped es clock
def idx (l : List (K × V)) (k : K) : Option Nat := (l.map (·.1)).findIdx? (fun x => decide (x = k))
def get (d : V) (l : List (K × V)) (k : K) : V := match idx l k with | some j => (l.map (·.2)).getD j d | none => d
def has (l : List (K × V)) (k : K) : Bool := (idx l k).isSome
def put (l : List (K × V)) (k : K) (v : V) : List (K × V) := match idx l k with | some j => l.set j (k, v) | none => l ++ [(k, v)]
variable {encK : K → Value} {encV : V → Value}
theorem MapIs.lt {w : World} {r : Nat} {l : List (K × V)} (h : MapIs encK encV w r l) : r < w.heap.size := by
  obtain ⟨es, c, h, _⟩ := h
  exact (Array.getElem?_eq_some_iff.1 h).1
theorem MapIs.fr {S : List Nat} {w w' : World} {r : Nat} {l : List (K × V)} (h : MapIs encK encV w r l) (hf : Fr S w w') (hr : r ∉ S) : MapIs encK encV w' r l := by
  have hl := h.lt
  obtain ⟨es, c, h, h2⟩ := h
  exact ⟨es, c, by rw [hf.2 r hl hr, h], h2⟩
theorem MapIs.new (w : World) : MapIs encK encV (w.alloc (.map #[] 0)) w.heap.size [] := ⟨#[], 0, heap_alloc_new w _, rfl, stamped_empty 0⟩
theorem fr_map {w : World} {r : Nat} {es : Array MapEntry} {c : Nat} (h : w.heap[r]? = some (.map es c)) (es' : Array MapEntry) (c' : Nat) : Fr [r] w { w with heap := w.heap.setIfInBounds r (.map es' c') } := by
  refine ⟨by simp, fun b hb hS => (heap_set (o' := .map es' c') h).2 b (by simpa using hS), rfl, rfl, fun a _ => ?_⟩
  obtain ⟨h1, h2⟩ := heap_set (o' := .map es' c') h
  unfold World.frozen?
  by_cases ha : a.block = r
  · simp only [ha, h1, h]
  · simp only [h2 _ ha]
theorem keys_of {es : List MapEntry} {l : List (K × V)} (h : es.map (fun e => (e.key, e.val)) = l.map (fun p => (encK p.1, encV p.2))) : es.map (·.key) = (l.map (·.1)).map encK := by
  have := congrArg (List.map Prod.fst) h
  simpa [List.map_map, Function.comp_def] using this
theorem val_of {es : List MapEntry} {l : List (K × V)} (h : es.map (fun e => (e.key, e.val)) = l.map (fun p => (encK p.1, encV p.2))) {j : Nat} {d : V} (hj : j < l.length) : ∃ e, es[j]? = some e ∧ e.key = encK (l[j]).1 ∧ e.val = encV ((l.map (·.2)).getD j d) := by
  have hl : es.length = l.length := by simpa using congrArg List.length h
  have := congrArg (fun x => x[j]?) h
  simp only [List.getElem?_map] at this
  rw [List.getElem?_eq_getElem (show j < es.length by omega), List.getElem?_eq_getElem hj] at this
  simp only [Option.map_some, Option.some.injEq, Prod.mk.injEq] at this
  exact ⟨es[j], List.getElem?_eq_getElem _, this.1, by rw [this.2]; simp [List.getD_eq_getElem?_getD, hj]⟩
section
variable {P : Program} {w : World} {r : Nat} {l : List (K × V)} {t kt et : TypeId}
theorem look {i : TypeInfo} (ht : P.underlying t = some (.map kt et)) (hk : KeyLaw P kt encK) {d : V} (hi : P.info? et = some i) (hz : i.zero = some (encV d)) (h : MapIs encK encV w r l) (k : K) (ok : Bool) :
    (Instr.lookup t (.map (some r)) (encK k) ok).run P w = .ok (if ok then .tuple #[encV (get d l k), .bool (has l k)] else encV (get d l k)) w := by
  obtain ⟨es, c, h, h2, hs⟩ := h
  have hf := hk.find k es.toList (l.map (·.1)) w (keys_of h2)
  simp only [Instr.lookup, Sem.run_bind, run_underlying ht, Result.andThen_ok, Go.MapKept.run_getObj_map h, Sem.run_pure, hk.check, hf]
  unfold get has
  cases hx : idx l k with
  | none =>
    unfold idx at hx
    simp only [hx]
    cases ok <;> simp [zeroValue, typeInfo, hi, hz]
  | some j =>
    have hx' := hx
    unfold idx at hx
    have hj : j < l.length := by
      obtain ⟨h, _⟩ := List.findIdx?_eq_some_iff_getElem.mp hx
      simpa using h
    obtain ⟨e, e1, e2, e3⟩ := val_of (d := d) h2 hj
    simp only [hx, e1, Option.map_some, e3]
    cases ok <;> simp
theorem upd (ht : P.underlying t = some (.map kt et)) (hk : KeyLaw P kt encK) (h : MapIs encK encV w r l) (k : K) (v : V) :
    ∃ w', (Instr.mapUpdate t (.map (some r)) (encK k) (encV v)).run P w = .ok () w' ∧ MapIs encK encV w' r (put l k v) ∧ Fr [r] w w' := by
  obtain ⟨es, c, h, h2, hs⟩ := h
  have hf := hk.find k es.toList (l.map (·.1)) w (keys_of h2)
  have hlen : es.size = l.length := by simpa using congrArg List.length h2
  simp only [Instr.mapUpdate, Sem.run_bind, run_underlying ht, Result.andThen_ok, Go.MapKept.run_getObj_map h, hk.check, hf]
  cases hx : idx l k with
  | none =>
    have hx' := hx
    unfold idx at hx
    simp only [hx, Go.MapKept.run_setObj_map _ h]
    refine ⟨_, rfl, ⟨_, _, (heap_set h).1, ?_, stamped_push hs ?_⟩, fr_map h _ _⟩
    · simp [put, hx', h2]
    · intro x hxm he
      have h3 : (x.key, x.val) ∈ es.toList.map (fun e => (e.key, e.val)) := List.mem_map.2 ⟨x, hxm, rfl⟩
      rw [h2] at h3
      obtain ⟨p, hp, he2⟩ := List.mem_map.1 h3
      simp only [Prod.mk.injEq] at he2
      rw [he] at he2
      have h4 := hk.inj _ _ he2.1
      have h5 := List.findIdx?_eq_none_iff.1 hx p.1 (List.mem_map.2 ⟨p, hp, rfl⟩)
      simp [h4] at h5
  | some j =>
    have hx' := hx
    unfold idx at hx
    obtain ⟨hjl, hjk, _⟩ := List.findIdx?_eq_some_iff_getElem.mp hx
    have hj : j < l.length := by simpa using hjl
    have hkj : (l[j]).1 = k := by simpa using hjk
    obtain ⟨e, e1, e2, e3⟩ := val_of (d := v) h2 hj
    have hjs : j < es.size := by omega
    have e1' : es[j]? = some e := by simpa using e1
    have hst : (Instr.keyThatStays (((es[j]?).map (·.key)).getD (encK k)) (encK k)).run P w = .ok (encK k) w := by
      rw [e1']
      simp only [Option.map_some, Option.getD_some, e2, hkj]
      exact hk.stays k w
    simp only [hx, e1, Option.map_some, Sem.run_bind, hst, Result.andThen_ok, Go.MapKept.run_setObj_map _ h]
    refine ⟨_, rfl, ⟨_, _, (heap_set h).1, ?_, stamped_modify hs _ _ (fun _ _ => rfl) ?_⟩, fr_map h _ _⟩
    rotate_left
    · intro e' _ he
      rw [e1'] at he
      injection he with he
      subst he
      rw [e2, hkj]
    simp only [put, hx']
    apply List.ext_getElem?
    intro q
    have hq := congrArg (fun x => x[q]?) h2
    simp only [List.getElem?_map, Array.getElem?_toList] at hq
    simp only [List.getElem?_map, Array.getElem?_toList, Array.getElem?_modify, List.getElem?_set]
    by_cases hqj : j = q
    · subst hqj
      simp [hjs, hj]
    · simp [hqj, hq]
theorem len {ty : TypeId} (ht : P.underlying t = some (.map kt et)) (h : MapIs encK encV w r l) : (Builtin.len_ #[t] ty #[.map (some r)]).run P w = .ok (.int .i64 (l.length : Int)) w := by
  obtain ⟨es, c, h, h2, _⟩ := h
  have hlen : es.size = l.length := by simpa using congrArg List.length h2
  simp [Builtin.len_, run_underlying ht, Go.MapKept.run_getObj_map h, goInt, hlen]
end
end
end GM
end Go.Proofs.Ytjmlfknogjaemaa.Vc
