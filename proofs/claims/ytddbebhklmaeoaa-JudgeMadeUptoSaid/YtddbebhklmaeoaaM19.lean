/- The judge: small functions. -/
import Derived.Test.YtddbebhklmaeoaaM17
import Derived.Test.YtddbebhklmaeoaaM18
import Derived.Test.YtddbebhklmaeoaaM9
import Derived.WideKeyEntry
import Derived.ChangeKeysEq
import Derived.Test.YtddbebhklmaeoaaM12
import Derived.DeepKeys3
import Derived.KernelRfl
import Derived.Test.YtddbebhklmaeoaaM14
import Derived.Test.YtddbebhklmaeoaaM11
set_option linter.unusedVariables false
set_option linter.unusedSimpArgs false
set_option maxRecDepth 10000
namespace Go.Proofs.Ytddbebhklmaeoaa
open Go Go.Proofs.Ytddbebhklmaeoaa.Vc
namespace JG
open Vc.PG JD
/-- A call's time is one. -/
def okCal (c : CalD) : Bool := decide (0 ≤ cBegan c) && (decide (cEnded c = -1) || decide (cBegan c ≤ cEnded c))
theorem ok1 {b e : Int} (h : b < 0) : (decide (0 ≤ b) && (decide (e = -1) || decide (b ≤ e))) = false := by
  rw [decide_eq_false (show ¬ 0 ≤ b by omega)]; rfl
theorem ok2 {b e : Int} (h1 : ¬ b < 0) (h2 : e ≠ -1) (h3 : e < b) : (decide (0 ≤ b) && (decide (e = -1) || decide (b ≤ e))) = false := by
  rw [decide_eq_true (show 0 ≤ b by omega), decide_eq_false h2, decide_eq_false (show ¬ b ≤ e by omega)]; rfl
theorem ok3 {b e : Int} (h1 : ¬ b < 0) (h3 : ¬ e < b) : (decide (0 ≤ b) && (decide (e = -1) || decide (b ≤ e))) = true := by
  rw [decide_eq_true (show 0 ≤ b by omega), decide_eq_true (show b ≤ e by omega)]; simp
theorem ok4 {b e : Int} (h1 : ¬ b < 0) (h2 : e = -1) : (decide (0 ≤ b) && (decide (e = -1) || decide (b ≤ e))) = true := by
  rw [decide_eq_true (show 0 ≤ b by omega), decide_eq_true h2]; rfl
def histB (l : List CalD) : Bool := l.all okCal
theorem histC {w : World} {x : Sl} {l : List CalD} (hx : RdL calT w x l) (hn : l.length ≤ 1100000) : Calls Try.prog 35 #[x.v] w fun e w' => e = .returned (.bool (histB l)) ∧ Fr [] w w' := by
  refine Calls.mono (f35.calls (R := fun v w' => v = .bool (histB l) ∧ Fr [] w w') ?_) ?_
  · dsimp only [f35.VC]
    have hl : x.2.1 = l.length := hx.1
    refine ⟨fun i w' r => Fr [] w w' ∧ ∃ k : Nat, i = (k : Int) ∧ k + r = x.2.1 ∧ ∀ a, a < k → okCal (l.getD a cd) = true, ⟨x.2.1, Fr.refl _ _, 0, rfl, by omega, fun a ha => by omega⟩, ?_⟩
    rintro d i w1 r ⟨hf, k, rfl, hk, hok⟩
    refine sel_of (fun hd => ?_) (fun hd => ?_)
    · have hi : k < x.2.1 := by have := of_decide_eq_true hd; omega
      obtain ⟨bb, oo, hA, hc⟩ := RdL.call (hx.fr hf) (by omega)
      obtain ⟨v, hv, _, _, hc⟩ := hc k hi
      have hmem : l.getD k cd ∈ l := (mem_getD cd _ _).2 ⟨k, by omega, rfl⟩
      have hup : ∀ q, q < k + 1 → q < k ∨ q = k := fun q hq => by omega
      generalize hcl : l.getD k cd = cl at *
      have hS := (St.start w1).alloc #[.int .i64 0, .int .i64 0, .bool false, .bool false, .bool false, .slice none 0 0, .slice none 0 0, .slice none 0 0, .slice none 0 0, .slice none 0 0, .slice none 0 0, .slice none 0 0, .slice none 0 0, .slice none 0 0, .slice none 0 0, .slice none 0 0, .string ⟨#[]⟩, .string ⟨#[]⟩, .string ⟨#[]⟩] 39
      have hS3 := hS.over 0 rfl (calV cl v) rfl
      refine ⟨by omega, by omega, needPtr_of hA ⟨_, hc 0 _ rfl, _, hc 1 _ rfl, _, hc 2 _ rfl, _, hc 3 _ rfl, _, hc 4 _ rfl, _, _, _, hc 5 _ rfl, _, _, _, hc 6 _ rfl, _, _, _, hc 7 _ rfl, _, _, _, hc 8 _ rfl, _, _, _, hc 9 _ rfl, _, _, _, hc 10 _ rfl, _, _, _, hc 11 _ rfl, _, _, _, hc 12 _ rfl, _, _, _, hc 13 _ rfl, _, _, _, hc 14 _ rfl, _, _, _, hc 15 _ rfl, _, hc 16 _ rfl, _, hc 17 _ rfl, _, hc 18 _ rfl, (hS.blk 0 rfl).can (by decide), ?_⟩⟩
      generalize World.alloc w1 (.cells #[.int .i64 0, .int .i64 0, .bool false, .bool false, .bool false, .slice none 0 0, .slice none 0 0, .slice none 0 0, .slice none 0 0, .slice none 0 0, .slice none 0 0, .slice none 0 0, .slice none 0 0, .slice none 0 0, .slice none 0 0, .slice none 0 0, .string ⟨#[]⟩, .string ⟨#[]⟩, .string ⟨#[]⟩] 39) = w2 at *
      generalize w1.heap.size = b2 at *
      change St [] w1 (setCs w2 b2 0 [.int .i64 cl.1, .int .i64 cl.2.1, .bool cl.2.2.1, .bool cl.2.2.2.1, .bool cl.2.2.2.2.1, .slice v.a.1 v.a.2.1 v.a.2.2, .slice v.s.1 v.s.2.1 v.s.2.2, .slice v.r.1 v.r.2.1 v.r.2.2, .slice v.o.1 v.o.2.1 v.o.2.2, .slice v.g.1 v.g.2.1 v.g.2.2, .slice v.m.1 v.m.2.1 v.m.2.2, .slice v.i.1 v.i.2.1 v.i.2.2, .slice v.q.1 v.q.2.1 v.q.2.2, .slice v.t.1 v.t.2.1 v.t.2.2, .slice v.u.1 v.u.2.1 v.u.2.2, .slice v.e.1 v.e.2.1 v.e.2.2, .string cl.2.2.2.2.2.2.1.1, .string cl.2.2.2.2.2.2.1.2.1, .string cl.2.2.2.2.2.2.1.2.2.1]) _ at hS3
      generalize setCs w2 b2 0 [.int .i64 cl.1, .int .i64 cl.2.1, .bool cl.2.2.1, .bool cl.2.2.2.1, .bool cl.2.2.2.2.1, .slice v.a.1 v.a.2.1 v.a.2.2, .slice v.s.1 v.s.2.1 v.s.2.2, .slice v.r.1 v.r.2.1 v.r.2.2, .slice v.o.1 v.o.2.1 v.o.2.2, .slice v.g.1 v.g.2.1 v.g.2.2, .slice v.m.1 v.m.2.1 v.m.2.2, .slice v.i.1 v.i.2.1 v.i.2.2, .slice v.q.1 v.q.2.1 v.q.2.2, .slice v.t.1 v.t.2.1 v.t.2.2, .slice v.u.1 v.u.2.1 v.u.2.2, .slice v.e.1 v.e.2.1 v.e.2.2, .string cl.2.2.2.2.2.2.1.1, .string cl.2.2.2.2.2.2.1.2.1, .string cl.2.2.2.2.2.2.1.2.2.1] = w3 at *
      have hB := hS3.blk 0 rfl
      have hf3 := hf.trans hS3.frame
      rw [inc k x.2.1 (by omega) (by omega)]
      have next : okCal cl = true → ∃ m, m < r ∧ Fr [] w w3 ∧ ∃ k' : Nat, ((k + 1 : Nat) : Int) = (k' : Int) ∧ k' + m = x.2.1 ∧ ∀ a, a < k' → okCal (l.getD a cd) = true := fun h =>
        ⟨r - 1, by omega, hf3, k + 1, rfl, by omega, fun a ha => (hup a ha).elim (hok a) fun e => by rw [e, hcl]; exact h⟩
      have bad : okCal cl = false → Value.bool false = Value.bool (histB l) := fun h => by
        rw [show histB l = false from ?_]
        cases hh : histB l with
        | false => rfl
        | true => rw [histB, List.all_eq_true] at hh; rw [hh _ hmem] at h; cases h
      refine ⟨_, hB.cell rfl, sel_of (fun h1 => ⟨bad ?_, hf3⟩) (fun h1 => ⟨_, hB.cell rfl, sel_of (fun h2 => ⟨_, hB.cell rfl, _, hB.cell rfl, sel_of (fun h3 => ⟨bad ?_, hf3⟩) (fun h3 => ⟨rfl, next ?_⟩)⟩) (fun h2 => ⟨rfl, next ?_⟩)⟩)⟩
      · exact ok1 (of_decide_eq_true h1)
      · exact ok2 (of_decide_eq_false h1) (bne_iff_ne.1 h2) (of_decide_eq_true h3)
      · exact ok3 (of_decide_eq_false h1) (of_decide_eq_false h3)
      · exact ok4 (of_decide_eq_false h1) (bne_eq_false_iff_eq.1 h2)
    · have hi : k = x.2.1 := by have := of_decide_eq_false hd; omega
      refine ⟨?_, hf⟩
      rw [show histB l = true from ?_]
      rw [histB, List.all_eq_true]
      intro c hc
      obtain ⟨q, hq, rfl⟩ := (mem_getD cd _ _).1 hc
      exact hok q (by omega)
  · rintro e w' ⟨v, rfl, rfl, h⟩; exact ⟨rfl, h⟩
/-- Why calls can't be judged. -/
def fitE (l : List CalD) : Int := if 12 < l.length then 4 else if histB l = true then 0 else 270
theorem refusedC {w : World} {x : Sl} {l : List CalD} (hx : RdL calT w x l) (hn : l.length ≤ 1100000) : Calls Try.prog 32 #[x.v] w fun e w' => e = .returned (.int .i64 (fitE l)) ∧ Fr [] w w' := by
  refine Calls.mono (f32.calls (R := fun v w' => v = .int .i64 (fitE l) ∧ Fr [] w w') ?_) ?_
  · dsimp only [f32.VC]
    have hl : x.2.1 = l.length := hx.1
    refine sel_of (fun h => ?_) (fun h => ?_)
    · have h := of_decide_eq_true h
      unfold fitE
      rw [if_pos (by omega)]; exact ⟨rfl, Fr.refl _ _⟩
    · have h := of_decide_eq_false h
      unfold fitE
      rw [if_neg (by omega)]
      refine Calls.mono (histC hx hn) ?_
      rintro _ w1 ⟨rfl, hf⟩
      refine ⟨_, rfl, sel_of (fun h => ?_) (fun h => ?_)⟩
      · rw [if_neg (by intro hh; rw [hh] at h; cases h)]; exact ⟨rfl, hf⟩
      · rw [if_pos (by simpa using h)]; exact ⟨rfl, hf⟩
  · rintro e w' ⟨v, rfl, rfl, h⟩; exact ⟨rfl, h⟩
end JG
end Go.Proofs.Ytddbebhklmaeoaa
/- Maps: an entry that is added to; arrays of numbers as keys. -/
set_option linter.unusedVariables false
set_option linter.unusedSimpArgs false
set_option linter.unusedSectionVars false
namespace Go.Proofs.Ytddbebhklmaeoaa.Vc
namespace GM
open Go Go.MapKept
section
variable {K V : Type} [DecidableEq K] {encK : K → Value} {encV : V → Value}
theorem idx_snoc {l : List (K × V)} {k : K} {v : V} (h : idx l k = none) : idx (l ++ [(k, v)]) k = some l.length := by
  unfold idx at *
  rw [List.map_append, List.findIdx?_append, h]
  simp
end
/-- Rows of n whole numbers. -/
abbrev Arr (n : Nat) := {l : List Int // l.length = n}
abbrev encArr (q : IntKind) (n : Nat) (a : Arr n) : Value := .agg (a.1.map (Value.int q)).toArray
section
variable {P : Program} {kt et : TypeId} {n : Nat} {q : IntKind} {i : TypeInfo}
theorem part_int (he : P.underlying et = some (.int q)) {l : List Int} {j : Nat} (hj : j < l.length) (w : World) : (part et (l.map (Value.int q)).toArray j).run P w = .ok (.int q (l.getD j 0)) w := by
  simp [part, isAgg, run_underlying he, List.getD_eq_getElem?_getD, hj]
theorem eqItems_ints (he : P.underlying et = some (.int q)) (hc : P.cellsOf et = 1) (d : Nat) {a b : List Int} (w : World) : ∀ is : List Nat, (∀ j ∈ is, j < a.length ∧ j < b.length) → (Op.eqItems (d + 1) et (P.cellsOf et) (a.map (Value.int q)).toArray (b.map (Value.int q)).toArray is).run P w = .ok (is.all fun j => a.getD j 0 == b.getD j 0) w
  | [], _ => by simp [Op.eqItems]
  | j :: is, h => by
    obtain ⟨ha, hb⟩ := h j (by simp)
    have ih := eqItems_ints he hc d (a := a) (b := b) w is (fun k hk => h k (by simp [hk]))
    rw [hc] at ih ⊢
    simp only [Op.eqItems, Nat.mul_one, Sem.run_bind, part_int he ha, part_int he hb, Result.andThen_ok, Op.equalIn, run_underlying he, if_true, Sem.run_pure]
    rw [List.all_cons]
    generalize (a.getD j 0 == b.getD j 0) = c
    cases c
    · simp
    · simpa using ih
theorem check_int (he : P.underlying et = some (.int q)) (e : Bool) (m : Nat) (x : Int) (w : World) : (Instr.checkKey e (m + 1) et (.int q x)).run P w = .ok () w := by
  rw [Instr.checkKey]
  simp [run_underlying he]
theorem KeyLaw.arr (hu : P.underlying kt = some (.array n et)) (he : P.underlying et = some (.int q)) (hi : P.info? et = some i) (hs : i.size = 1) : KeyLaw P kt (encArr q n) := by
  have hc : P.cellsOf et = 1 := by simp [Program.cellsOf, hi, hs]
  refine KeyLaw.asked hu (fun e k w => ?_) (fun a b h => ?_) (fun a b => rfl) (fun a b w => ?_) (fun k w => ?_)
  · show (Instr.checkKey e (9999 + 1) kt (encArr q n k)).run P w = .ok () w
    rw [Instr.checkKey]
    simp only [Sem.run_bind, run_underlying hu, Result.andThen_ok, encArr]
    simp only [Std.Legacy.Range.forIn_eq_forIn_range', Std.Legacy.Range.size, Nat.sub_zero, Nat.add_one_sub_one, Nat.div_one]
    have hall : ∀ j ∈ List.range' 0 n, j < k.1.length := fun j hj => by rw [k.2]; simpa using hj
    generalize List.range' 0 n = is at hall
    induction is with
    | nil => simp
    | cons j is ih =>
      have hj := hall j (by simp)
      have hck := check_int he e 9998 (k.1.getD j 0) w
      have hp : (part et (k.1.map (Value.int q)).toArray (j * P.cellsOf et)).run P w = .ok (.int q (k.1.getD j 0)) w := by
        rw [hc, Nat.mul_one]; exact part_int he hj w
      simp only [List.forIn_cons, Sem.run_bind, run_sizeOf w hi, Result.andThen_ok, hp, hck, Sem.run_pure]
      exact ih (fun x hx => hall x (by simp [hx]))
  · simp only [encArr, Value.agg.injEq] at h
    have h2 : a.1.map (Value.int q) = b.1.map (Value.int q) := by simpa using h
    apply Subtype.ext
    have inj : ∀ (x y : List Int), x.map (Value.int q) = y.map (Value.int q) → x = y := by
      intro x
      induction x with
      | nil => intro y h; cases y with | nil => rfl | cons => simp at h
      | cons p x ih => intro y h; cases y with | nil => simp at h | cons u y => simp at h; rw [h.1, ih y (by simpa using h.2)]
    exact inj _ _ h2
  · show (Op.equalIn (9999 + 1) kt (encArr q n a) (encArr q n b)).run P w = .ok (decide (a = b)) w
    rw [encArr, encArr, run_equalIn_array w 9999 _ _ hu hi, eqItems_ints he hc 9998 w _ (fun j hj => by rw [a.2, b.2]; simpa using hj)]
    congr 1
    rw [Bool.eq_iff_iff, List.all_eq_true, decide_eq_true_iff]
    constructor
    · intro h
      apply Subtype.ext
      refine List.ext_getElem (by rw [a.2, b.2]) fun j hj hj2 => ?_
      have := h j (by rw [a.2] at hj; simpa using hj)
      simpa [List.getD_eq_getElem?_getD, hj, hj2] using this
    · rintro rfl j _
      simp
  · have : Instr.sameBits 10000 (encArr q n k) (encArr q n k) = true := by
      simp only [encArr, Instr.sameBits]
      have : ∀ l : List Int, ((l.map (Value.int q)).zip (l.map (Value.int q))).all (fun (x, y) => Instr.sameBits 9999 x y) = true := by
        intro l
        induction l with
        | nil => rfl
        | cons x l ih => simp only [List.map_cons, List.zip_cons_cons, List.all_cons, ih, Instr.sameBits]; simp
      simpa using this k.1
    simp [Instr.keyThatStays, this]
end
end GM
end Go.Proofs.Ytddbebhklmaeoaa.Vc
/- Keys of two numbers; bits of a set. -/
set_option linter.unusedVariables false
set_option linter.unusedSimpArgs false
set_option maxRecDepth 10000
namespace Go.Proofs.Ytddbebhklmaeoaa
open Go Go.Proofs.Ytddbebhklmaeoaa.Vc
namespace JG
open Vc.PG JD
abbrev enc2 (p : Int × Int) : Value := .agg #[.int .i64 p.1, .int .i64 p.2]
abbrev encI (x : Int) : Value := .int .i64 x
theorem enc2_inj (a b : Int × Int) (h : enc2 a = enc2 b) : a = b := by
  simp only [enc2, Value.agg.injEq, Array.mk.injEq, List.cons.injEq, Value.int.injEq, true_and, and_true] at h
  exact Prod.ext h.1 h.2
theorem enc2_stays (k : Int × Int) (w : World) : (Instr.keyThatStays (enc2 k) (enc2 k)).run Try.prog w = .ok (enc2 k) w := by
  have : Instr.sameBits 10000 (enc2 k) (enc2 k) = true := by
    simp [enc2, Instr.sameBits]
  simp [Instr.keyThatStays, this]
theorem eq2i (a b c d : Int) (w : World) : (Op.equalIn 10000 96 (enc2 (a, b)) (enc2 (c, d))).run Try.prog w = .ok (decide ((a, b) = (c, d))) w := by
  have u9 := Try.underlying3
  have a9 := Try.isAgg3
  have z9 := Try.sizeOf3
  have hS : Try.prog.underlying 96 = some (.struct (Try.prog.fieldsOf 96)) := by kernel_rfl
  rw [show (10000 : Nat) = 9999 + 1 from rfl, run_equalIn_agg w 9999 96 _ _ hS (by kernel_rfl)]
  simp only [Program.fieldsOf, Try.underlying96]
  go_simp
  by_cases h1 : a = c <;> by_cases h2 : b = d <;> simp [h1, h2]
theorem key96 : GM.KeyLaw Try.prog 96 enc2 := by
  refine GM.KeyLaw.asked Try.underlying96 (fun e k w => ?_) enc2_inj (fun a b => rfl) (fun a b w => eq2i _ _ _ _ w) enc2_stays
  have u9 := Try.underlying3
  have a9 := Try.isAgg3
  have z9 := Try.sizeOf3
  have c1 := GM.check_int (P := Try.prog) Try.underlying3 e 9998 k.1 w
  have c2 := GM.check_int (P := Try.prog) Try.underlying3 e 9998 k.2 w
  rw [show (10000 : Nat) = 9999 + 1 from rfl, Instr.checkKey]
  simp only [Sem.run_bind, run_underlying Try.underlying96, Result.andThen_ok, enc2]
  rw [← Array.forIn_toList]
  go_simp
theorem KeyLaw.comap {K K' : Type} [DecidableEq K] [DecidableEq K'] {P : Program} {kt : TypeId} {enc : K → Value} (h : GM.KeyLaw P kt enc) (f : K' → K) (hf : ∀ a b, f a = f b → a = b) : GM.KeyLaw P kt (fun k => enc (f k)) where
  inj a b hab := hf a b (h.inj _ _ hab)
  check e k w := h.check e _ w
  find k es ks w hk := by
    rw [h.find (f k) es (ks.map f) w (by rw [hk, List.map_map]; rfl), List.findIdx?_map]
    have : ((fun x => decide (x = f k)) ∘ f) = fun x => decide (x = k) := by
      funext x
      by_cases hx : x = k
      · simp [hx]
      · have : f x ≠ f k := fun hh => hx (hf _ _ hh)
        simp [hx, this]
    rw [this]
  stays k w := h.stays _ w
theorem key51 : GM.KeyLaw Try.prog 51 enc2 :=
  KeyLaw.comap (GM.KeyLaw.arr (q := .i64) (n := 2) Try.underlying51 Try.underlying3 (i := Try.prog.types[3]!) (by kernel_rfl) (by kernel_rfl)) (fun p : Int × Int => ⟨[p.1, p.2], rfl⟩) fun a b h => by
    simp only [Subtype.mk.injEq, List.cons.injEq, and_true] at h
    exact Prod.ext h.1 h.2
theorem ofInt_nat (w n : Nat) : BitVec.ofInt w (n : Int) = BitVec.ofNat w n := by
  simp
theorem shr_nat (m k : Nat) (hk : k ≤ 40) : shrI .i64 (m : Int) (k : Int) = ((m / 2 ^ k : Nat) : Int) := by
  unfold shrI
  rw [show min ((k : Int).toNat) (IntKind.bits .i64) = k by show min ((k : Int).toNat) 64 = k; omega]
  rw [Int.fdiv_eq_ediv_of_nonneg _ (by exact_mod_cast Nat.zero_le (2 ^ k))]
  rw [Int.natCast_ediv]
  simp
theorem and_one (q : Nat) (hq : q ≤ 1000000000) : bitsI .and .i64 (q : Int) 1 = ((q % 2 : Nat) : Int) := by
  show IntKind.wrap .i64 (((BitVec.ofInt 64 (q : Int) &&& BitVec.ofInt 64 1).toNat : Nat) : Int) = _
  rw [ofInt_nat, BitVec.toNat_and]
  have h1 : (BitVec.ofInt 64 1).toNat = 1 := by decide
  rw [h1, Nat.and_one_is_mod, BitVec.toNat_ofNat, Nat.mod_eq_of_lt (show q < 2 ^ 64 by omega), wr]
  omega
/-- Is a call in a set? As the program asks it. -/
theorem bit_eq1 (S k : Nat) (hS : S ≤ 1000000000) (hk : k ≤ 40) : (bitsI .and .i64 (shrI .i64 (S : Int) (k : Int)) 1 == 1) = S.testBit k := by
  rw [shr_nat S k hk, and_one _ (Nat.le_trans (Nat.div_le_self _ _) hS), Nat.testBit_eq_decide_div_mod_eq]
  generalize S / 2 ^ k % 2 = q
  rw [Bool.eq_iff_iff, beq_iff_eq, decide_eq_true_iff]
  omega
theorem bit_eq0 (S k : Nat) (hS : S ≤ 1000000000) (hk : k ≤ 40) : (bitsI .and .i64 (shrI .i64 (S : Int) (k : Int)) 1 == 0) = !S.testBit k := by
  rw [shr_nat S k hk, and_one _ (Nat.le_trans (Nat.div_le_self _ _) hS), Nat.testBit_eq_decide_div_mod_eq]
  have h2 : S / 2 ^ k % 2 < 2 := Nat.mod_lt _ (by decide)
  generalize S / 2 ^ k % 2 = q at *
  rw [Bool.eq_iff_iff, beq_iff_eq, Bool.not_eq_true', decide_eq_false_iff_not]
  omega
theorem or_bit (S k : Nat) (hS : S < 4096) (hk : k < 12) : bitsI .or .i64 (S : Int) (shlI .i64 1 (k : Int)) = ((S ||| 2 ^ k : Nat) : Int) := by
  have hp : 2 ^ k ≤ 2048 := Nat.pow_le_pow_right (n := 2) (i := k) (j := 11) (by decide) (by omega)
  have e1 : shlI .i64 1 (k : Int) = ((2 ^ k : Nat) : Int) := by
    unfold shlI
    rw [show min ((k : Int).toNat) (IntKind.bits .i64) = k by show min ((k : Int).toNat) 64 = k; omega, Int.one_mul, show ((2 : Int) ^ k) = ((2 ^ k : Nat) : Int) by push_cast; rfl]
    generalize 2 ^ k = P at *
    rw [wr]; omega
  rw [e1]
  show IntKind.wrap .i64 (((BitVec.ofInt 64 (S : Int) ||| BitVec.ofInt 64 ((2 ^ k : Nat) : Int)).toNat : Nat) : Int) = _
  rw [ofInt_nat, ofInt_nat, BitVec.toNat_or, BitVec.toNat_ofNat, BitVec.toNat_ofNat, Nat.mod_eq_of_lt (show S < 2 ^ 64 by omega), Nat.mod_eq_of_lt (show 2 ^ k < 2 ^ 64 by omega)]
  have : S ||| 2 ^ k < 2 ^ 12 := Nat.or_lt_two_pow (by omega) (by omega)
  generalize S ||| 2 ^ k = z at *
  rw [wr]; omega
theorem or_lt (S k : Nat) (hS : S < 4096) (hk : k < 12) : S ||| 2 ^ k < 4096 := by
  have hp : 2 ^ k ≤ 2048 := Nat.pow_le_pow_right (n := 2) (i := k) (j := 11) (by decide) (by omega)
  exact Nat.or_lt_two_pow (n := 12) (by omega) (by omega)
end JG
end Go.Proofs.Ytddbebhklmaeoaa
/- The search's state; is all done? -/
set_option linter.unusedVariables false
set_option linter.unusedSimpArgs false
set_option maxRecDepth 10000
namespace Go.Proofs.Ytddbebhklmaeoaa
open Go Go.Proofs.Ytddbebhklmaeoaa.Vc
namespace JG
open Vc.PG JD
/-- The policy that counts behind a write (-1: the first). -/
def polAt (p : PolD) (l : List CalD) (last : Int) : PolD := if 0 ≤ last then cPol (l.getD last.toNat cd) else p
/-- What the law of the search is told of calls. -/
noncomputable def histOf (p : PolD) (l : List CalD) : JL.Hist where
  n := l.length
  began i := cBegan (l.getD i cd)
  ended i := cEnded (l.getD i cd)
  write i := cWrite (l.getD i cd)
  counts i := cWrite (l.getD i cd) && !cFailed (l.getD i cd)
  fits last k := allowsB geF ltF (polAt p l last) (cTri (l.getD k cd)) == cAllowed (l.getD k cd)
theorem hist_ok {p : PolD} {l : List CalD} (h : histB l = true) : (histOf p l).Ok := by
  rw [histB, List.all_eq_true] at h
  have key : ∀ i, i < l.length → 0 ≤ cBegan (l.getD i cd) ∧ (cEnded (l.getD i cd) = -1 ∨ cBegan (l.getD i cd) ≤ cEnded (l.getD i cd)) := fun i hi => by
    have := h _ ((mem_getD cd l _).2 ⟨i, hi, rfl⟩)
    rw [okCal, Bool.and_eq_true, Bool.or_eq_true, decide_eq_true_iff, decide_eq_true_iff, decide_eq_true_iff] at this
    exact this
  exact ⟨fun i hi => (key i hi).1, fun i hi => (key i hi).2⟩
abbrev schCells (v : PV) (x : Sl) (dm sm : Nat) (o : Sl) : Array Value := #[v.a.v, v.s.v, v.r.v, v.o.v, v.g.v, v.m.v, v.i.v, v.q.v, v.t.v, v.u.v, v.e.v, x.v, .map (some dm), .map (some sm), o.v]
abbrev rowsI (l : List Nat) : List (List Value) := l.map fun k : Nat => [Value.int .i64 (k : Int)]
/-- What is handed in and stays. -/
structure Ctx (w : World) (v : PV) (x : Sl) (p : PolD) (l : List CalD) : Prop where
  pol : InP w v p
  cal : RdL calT w x l
  few : l.length ≤ 12
  sp : SmallP p
  sc : SmallC l
theorem Ctx.fr {w w' : World} {v : PV} {x : Sl} {p : PolD} {l : List CalD} (h : Ctx w v x p l) (hf : Fr [] w w') : Ctx w' v x p l := ⟨h.pol.fr hf, h.cal.fr hf, h.few, h.sp, h.sc⟩
abbrev Ents := List ((Int × Int) × Int)
/-- The search's pieces. -/
abbrev Sch (a0 : Nat) (v : PV) (x : Sl) (dm sm : Nat) (o : Sl) (dead says : Ents) (ord : List Nat) (L : List Chunk) : List Chunk :=
  Chunk.blk a0 (schCells v x dm sm o) 93 :: Chunk.map enc2 encI dm dead :: Chunk.map enc2 encI sm says :: Chunk.sl 3 1 o.v (rowsI ord) :: L
def wb (l : List CalD) (S a : Nat) : Bool := !(decide (0 ≤ cEnded (l.getD a cd)) && !S.testBit a)
theorem whole_wb {p : PolD} {l : List CalD} {S : Nat} {last : Int} : JL.whole (histOf p l) (S, last) = (List.range l.length).all (wb l S) := rfl
theorem wholeC {w : World} {a0 : Nat} {v : PV} {x o : Sl} {dm sm : Nat} {p : PolD} {l : List CalD} (hb0 : Blk w a0 (schCells v x dm sm o) 93) (hx : RdL calT w x l) (hn : l.length ≤ 12) (S : Nat) (last : Int) (hS : S < 4096) :
    Calls Try.prog 58 #[.pointer (some ⟨a0, 0, none⟩), .agg #[.int .i64 (S : Int), .int .i64 last]] w fun e w' => e = .returned (.bool (JL.whole (histOf p l) (S, last))) ∧ Fr [] w w' := by
  refine Calls.mono (f58.calls (R := fun e w' => e = .bool (JL.whole (histOf p l) (S, last)) ∧ Fr [] w w') ?_) ?_
  · dsimp only [f58.VC]
    have hl : x.2.1 = l.length := hx.1
    have hS1 := (St.start w).alloc #[.int .i64 (S : Int), .int .i64 last] 96
    generalize World.alloc w (.cells #[.int .i64 (S : Int), .int .i64 last] 96) = w1 at *
    generalize w.heap.size = b1 at *
    have hB1 := hS1.blk 0 rfl
    have hf1 := hS1.frame
    refine ⟨_, _, _, (hf1.blk hb0 (by simp)).cell rfl, fun i w' r => Fr [] w1 w' ∧ ∃ k : Nat, i = (k : Int) ∧ k + r = x.2.1 ∧ ∀ a, a < k → wb l S a = true, ⟨x.2.1, Fr.refl _ _, 0, rfl, by omega, fun a ha => by omega⟩, ?_⟩
    rintro d i w2 r ⟨hf, k, rfl, hk, hok⟩
    refine sel_of (fun hd => ?_) (fun hd => ?_)
    · have hi : k < x.2.1 := by have := of_decide_eq_true hd; omega
      have hup : ∀ q, q < k + 1 → q < k ∨ q = k := fun q hq => by omega
      obtain ⟨bb, oo, hA, hc⟩ := RdL.call (hx.fr (hf1.trans hf)) (by omega)
      obtain ⟨v, hv, _, _, hc⟩ := hc k hi
      have hmem : l.getD k cd ∈ l := (mem_getD cd _ _).2 ⟨k, by omega, rfl⟩
      generalize hcl : l.getD k cd = cl at *
      have hT := (St.start w2).alloc #[.int .i64 0, .int .i64 0, .bool false, .bool false, .bool false, .slice none 0 0, .slice none 0 0, .slice none 0 0, .slice none 0 0, .slice none 0 0, .slice none 0 0, .slice none 0 0, .slice none 0 0, .slice none 0 0, .slice none 0 0, .slice none 0 0, .string ⟨#[]⟩, .string ⟨#[]⟩, .string ⟨#[]⟩] 39
      have hT3 := hT.over 0 rfl (calV cl v) rfl
      refine ⟨by omega, by omega, needPtr_of hA ⟨_, hc 0 _ rfl, _, hc 1 _ rfl, _, hc 2 _ rfl, _, hc 3 _ rfl, _, hc 4 _ rfl, _, _, _, hc 5 _ rfl, _, _, _, hc 6 _ rfl, _, _, _, hc 7 _ rfl, _, _, _, hc 8 _ rfl, _, _, _, hc 9 _ rfl, _, _, _, hc 10 _ rfl, _, _, _, hc 11 _ rfl, _, _, _, hc 12 _ rfl, _, _, _, hc 13 _ rfl, _, _, _, hc 14 _ rfl, _, _, _, hc 15 _ rfl, _, hc 16 _ rfl, _, hc 17 _ rfl, _, hc 18 _ rfl, (hT.blk 0 rfl).can (by decide), ?_⟩⟩
      generalize World.alloc w2 (.cells #[.int .i64 0, .int .i64 0, .bool false, .bool false, .bool false, .slice none 0 0, .slice none 0 0, .slice none 0 0, .slice none 0 0, .slice none 0 0, .slice none 0 0, .slice none 0 0, .slice none 0 0, .slice none 0 0, .slice none 0 0, .slice none 0 0, .string ⟨#[]⟩, .string ⟨#[]⟩, .string ⟨#[]⟩] 39) = w3 at *
      generalize w2.heap.size = b2 at *
      change St [] w2 (setCs w3 b2 0 [.int .i64 cl.1, .int .i64 cl.2.1, .bool cl.2.2.1, .bool cl.2.2.2.1, .bool cl.2.2.2.2.1, .slice v.a.1 v.a.2.1 v.a.2.2, .slice v.s.1 v.s.2.1 v.s.2.2, .slice v.r.1 v.r.2.1 v.r.2.2, .slice v.o.1 v.o.2.1 v.o.2.2, .slice v.g.1 v.g.2.1 v.g.2.2, .slice v.m.1 v.m.2.1 v.m.2.2, .slice v.i.1 v.i.2.1 v.i.2.2, .slice v.q.1 v.q.2.1 v.q.2.2, .slice v.t.1 v.t.2.1 v.t.2.2, .slice v.u.1 v.u.2.1 v.u.2.2, .slice v.e.1 v.e.2.1 v.e.2.2, .string cl.2.2.2.2.2.2.1.1, .string cl.2.2.2.2.2.2.1.2.1, .string cl.2.2.2.2.2.2.1.2.2.1]) _ at hT3
      generalize setCs w3 b2 0 [.int .i64 cl.1, .int .i64 cl.2.1, .bool cl.2.2.1, .bool cl.2.2.2.1, .bool cl.2.2.2.2.1, .slice v.a.1 v.a.2.1 v.a.2.2, .slice v.s.1 v.s.2.1 v.s.2.2, .slice v.r.1 v.r.2.1 v.r.2.2, .slice v.o.1 v.o.2.1 v.o.2.2, .slice v.g.1 v.g.2.1 v.g.2.2, .slice v.m.1 v.m.2.1 v.m.2.2, .slice v.i.1 v.i.2.1 v.i.2.2, .slice v.q.1 v.q.2.1 v.q.2.2, .slice v.t.1 v.t.2.1 v.t.2.2, .slice v.u.1 v.u.2.1 v.u.2.2, .slice v.e.1 v.e.2.1 v.e.2.2, .string cl.2.2.2.2.2.2.1.1, .string cl.2.2.2.2.2.2.1.2.1, .string cl.2.2.2.2.2.2.1.2.2.1] = w4 at *
      have hBc := hT3.blk 0 rfl
      have hfc := hT3.frame
      rw [inc k x.2.1 (by omega) (by omega)]
      have e0 := bit_eq0 S k (by omega) (by omega)
      have next : wb l S k = true → ∃ m, m < r ∧ Fr [] w1 w4 ∧ ∃ k' : Nat, ((k + 1 : Nat) : Int) = (k' : Int) ∧ k' + m = x.2.1 ∧ ∀ a, a < k' → wb l S a = true := fun h =>
        ⟨r - 1, by omega, hf.trans hfc, k + 1, rfl, by omega, fun a ha => (hup a ha).elim (hok a) fun e => by rw [e]; exact h⟩
      refine ⟨_, hBc.cell rfl, sel_of (fun h1 => ⟨_, ((hf.trans hfc).blk hB1 (by simp)).cell rfl, by omega, sel_of (fun h2 => ⟨?_, (hf1.trans hf).trans hfc⟩) (fun h2 => ⟨rfl, next ?_⟩)⟩) (fun h1 => ⟨rfl, next ?_⟩)⟩
      · rw [show JL.whole (histOf p l) (S, last) = false from ?_]
        cases hh : JL.whole (histOf p l) (S, last) with
        | false => rfl
        | true =>
          rw [whole_wb, List.all_eq_true] at hh
          have := hh k (List.mem_range.2 (by omega))
          rw [wb, hcl, show decide (0 ≤ cEnded cl) = true from h1, e0.symm.trans h2] at this
          cases this
      · rw [wb, hcl, e0.symm.trans h2]; simp
      · rw [wb, hcl, show decide (0 ≤ cEnded cl) = false from h1]; rfl
    · have hi : k = x.2.1 := by have := of_decide_eq_false hd; omega
      refine ⟨?_, hf1.trans hf⟩
      rw [show JL.whole (histOf p l) (S, last) = true from ?_]
      rw [whole_wb, List.all_eq_true]
      intro a ha
      exact hok a (by have := List.mem_range.1 ha; omega)
  · rintro e w' ⟨v, rfl, rfl, h⟩; exact ⟨rfl, h⟩
end JG
end Go.Proofs.Ytddbebhklmaeoaa
/- The search: what a policy answers a check, kept in a map. -/
set_option linter.unusedVariables false
set_option linter.unusedSimpArgs false
set_option maxRecDepth 10000
namespace Go.Proofs.Ytddbebhklmaeoaa
open Go Go.Proofs.Ytddbebhklmaeoaa.Vc
namespace JG
open Vc.PG JD
section
variable {K V : Type} [DecidableEq K]
theorem idx_get {l : List (K × V)} {k : K} {j : Nat} (h : GM.idx l k = some j) : ∃ h : j < l.length, (l[j]).1 = k := by
  obtain ⟨h1, h2, _⟩ := List.findIdx?_eq_some_iff_getElem.mp h
  refine ⟨by simpa using h1, by simpa using h2⟩
theorem put_put (l : List (K × V)) (k : K) (v u : V) : GM.put (GM.put l k v) k u = GM.put l k u := by
  unfold GM.put
  cases h : GM.idx l k with
  | none =>
    dsimp only
    rw [GM.idx_snoc h]
    simp
  | some j =>
    dsimp only
    have : GM.idx (l.set j (k, v)) k = some j := by
      obtain ⟨hj, hk⟩ := idx_get h
      unfold GM.idx at *
      rw [List.map_set, show (l.map (·.1)).set j k = l.map (·.1) from ?_, h]
      rw [← hk]
      exact List.ext_getElem? fun q => by
        rw [List.getElem?_set]
        split
        · rename_i hq
          subst hq
          simp [hj]
        · rfl
    rw [this]
    simp
theorem mem_put {l : List (K × V)} {k : K} {v : V} {e : K × V} (h : e ∈ GM.put l k v) : e = (k, v) ∨ e ∈ l := by
  unfold GM.put at h
  cases hi : GM.idx l k with
  | none => rw [hi] at h; simp at h; exact h.symm
  | some j =>
    rw [hi] at h
    rcases List.mem_or_eq_of_mem_set h with h | h
    · exact .inr h
    · exact .inl h
theorem mem_get {l : List (K × V)} {k : K} (d : V) (h : GM.has l k = true) : (k, GM.get d l k) ∈ l := by
  unfold GM.has at h
  unfold GM.get
  cases hi : GM.idx l k with
  | none => rw [hi] at h; cases h
  | some j =>
    obtain ⟨hj, hk⟩ := idx_get hi
    have : (k, (l.map (·.2)).getD j d) = l[j] := by
      rw [← hk]
      simp [List.getD_eq_getElem?_getD, hj]
    dsimp only
    rw [this]
    exact List.getElem_mem _
theorem get_none {l : List (K × V)} {k : K} {d : V} (h : GM.has l k = false) : GM.get d l k = d := by
  unfold GM.has at h
  unfold GM.get
  cases hi : GM.idx l k with
  | none => rfl
  | some j => rw [hi] at h; cases h
end
/-- What the policy behind a write answers a check. -/
noncomputable def ansI (p : PolD) (l : List CalD) (key : Int × Int) : Bool := allowsB geF ltF (polAt p l key.1) (cTri (l.getD key.2.toNat cd))
def SaysOk (p : PolD) (l : List CalD) (m : Ents) : Prop := ∀ e ∈ m, e.2 = if ansI p l e.1 = true then 1 else 2
theorem SaysOk.put {p : PolD} {l : List CalD} {m : Ents} (h : SaysOk p l m) (k : Int × Int) : SaysOk p l (GM.put m k (if ansI p l k = true then 1 else 2)) := by
  intro e he
  rcases mem_put he with rfl | he
  · rfl
  · exact h e he
theorem SaysOk.get {p : PolD} {l : List CalD} {m : Ents} (h : SaysOk p l m) {k : Int × Int} (hk : GM.has m k = true) : (GM.get (0 : Int) m k == 1) = ansI p l k := by
  have := h _ (mem_get 0 hk)
  dsimp only at this
  rw [this]
  cases ansI p l k <;> rfl
theorem under91 : Try.prog.underlying 91 = some (.map 51 32) := Try.underlying91
theorem info32 : ∃ i, Try.prog.info? 32 = some i ∧ i.zero = some (encI 0) := ⟨Try.prog.types[32]!, by kernel_rfl, by kernel_rfl⟩
theorem allowsS {w0 w : World} {a0 : Nat} {v : PV} {x o : Sl} {dm sm : Nat} {p : PolD} {l : List CalD} {dead says : Ents} {ord : List Nat} {L : List Chunk} (hx : Ctx w0 v x p l) (hS : St [] w0 w (Sch a0 v x dm sm o dead says ord L)) (hsy : SaysOk p l says)
    (last : Int) (k : Nat) (hl1 : -1 ≤ last) (hl2 : last < (l.length : Int)) (hk : k < l.length) :
    Calls Try.prog 87 #[.pointer (some ⟨a0, 0, none⟩), .int .i64 last, .int .i64 (k : Int)] w fun e w' => ∃ says', e = .returned (.bool (ansI p l (last, (k : Int)))) ∧ SaysOk p l says' ∧ St [] w0 w' (Sch a0 v x dm sm o dead says' ord L) := by
  refine Calls.mono (f87.calls (R := fun e w' => ∃ says', e = .bool (ansI p l (last, (k : Int))) ∧ SaysOk p l says' ∧ St [] w0 w' (Sch a0 v x dm sm o dead says' ord L)) ?_) ?_
  · dsimp only [f87.VC]
    have hl : x.2.1 = l.length := hx.cal.1
    obtain ⟨ti, i1, i2⟩ := info32
    have hS0 := hS.alloc #[.int .i64 0, .int .i64 0] 51
    have hS1 := hS0.over 0 rfl [.int .i64 last, .int .i64 (k : Int)] rfl
    refine ⟨(hS0.blk 0 rfl).can (by decide), ?_⟩
    generalize World.alloc w (.cells #[.int .i64 0, .int .i64 0] 51) = w1 at *
    generalize w.heap.size = b1 at *
    generalize setCs w1 b1 0 [.int .i64 last, .int .i64 (k : Int)] = w2 at *
    replace hS1 : St [] w0 w2 (Chunk.blk b1 #[.int .i64 last, .int .i64 (k : Int)] 51 :: Sch a0 v x dm sm o dead says ord L) := hS1
    have hBk := hS1.blk 0 rfl
    have hBs := hS1.blk 1 rfl
    have hlk := GM.look under91 key51 i1 i2 (hS1.drew.mapIs 3 rfl) (last, (k : Int)) true
    refine ⟨_, hBs.cell rfl, _, hBk.cell rfl, _, hBk.cell rfl, _, _, _, hlk, sel_of (fun hh => ?_) (fun hh => ?_)⟩
    · exact ⟨says, by rw [hsy.get hh], hsy, hS1.drew.tail⟩
    have hS2 := hS1.drew
    generalize w2.drew = w3 at *
    have hBs := hS2.blk 1 rfl
    have hS3 := hS2.alloc #[.slice none 0 0, .slice none 0 0, .slice none 0 0, .slice none 0 0, .slice none 0 0, .slice none 0 0, .slice none 0 0, .slice none 0 0, .slice none 0 0, .slice none 0 0, .slice none 0 0] 28
    have hS4 := hS3.over 0 rfl v.l rfl
    refine ⟨_, _, _, hBs.cell rfl, _, _, _, hBs.cell rfl, _, _, _, hBs.cell rfl, _, _, _, hBs.cell rfl, _, _, _, hBs.cell rfl, _, _, _, hBs.cell rfl, _, _, _, hBs.cell rfl, _, _, _, hBs.cell rfl, _, _, _, hBs.cell rfl, _, _, _, hBs.cell rfl, _, _, _, hBs.cell rfl, (hS3.blk 0 rfl).can (by decide), ?_⟩
    generalize World.alloc w3 (.cells #[.slice none 0 0, .slice none 0 0, .slice none 0 0, .slice none 0 0, .slice none 0 0, .slice none 0 0, .slice none 0 0, .slice none 0 0, .slice none 0 0, .slice none 0 0, .slice none 0 0] 28) = w4 at *
    generalize w3.heap.size = b2 at *
    change St [] w0 (setCs w4 b2 0 [.slice v.a.1 v.a.2.1 v.a.2.2, .slice v.s.1 v.s.2.1 v.s.2.2, .slice v.r.1 v.r.2.1 v.r.2.2, .slice v.o.1 v.o.2.1 v.o.2.2, .slice v.g.1 v.g.2.1 v.g.2.2, .slice v.m.1 v.m.2.1 v.m.2.2, .slice v.i.1 v.i.2.1 v.i.2.2, .slice v.q.1 v.q.2.1 v.q.2.2, .slice v.t.1 v.t.2.1 v.t.2.2, .slice v.u.1 v.u.2.1 v.u.2.2, .slice v.e.1 v.e.2.1 v.e.2.2]) _ at hS4
    generalize setCs w4 b2 0 [.slice v.a.1 v.a.2.1 v.a.2.2, .slice v.s.1 v.s.2.1 v.s.2.2, .slice v.r.1 v.r.2.1 v.r.2.2, .slice v.o.1 v.o.2.1 v.o.2.2, .slice v.g.1 v.g.2.1 v.g.2.2, .slice v.m.1 v.m.2.1 v.m.2.2, .slice v.i.1 v.i.2.1 v.i.2.2, .slice v.q.1 v.q.2.1 v.q.2.2, .slice v.t.1 v.t.2.1 v.t.2.2, .slice v.u.1 v.u.2.1 v.u.2.2, .slice v.e.1 v.e.2.1 v.e.2.2] = w5 at *
    replace hS4 : St [] w0 w5 (Chunk.blk b2 v.cells 28 :: Chunk.blk b1 #[.int .i64 last, .int .i64 (k : Int)] 51 :: Sch a0 v x dm sm o dead says ord L) := hS4
    have hBs := hS4.blk 2 rfl
    refine ⟨fun w' => ∃ u : PV, InP w' u (polAt p l last) ∧ SmallP (polAt p l last) ∧ St [] w0 w' (Chunk.blk b2 u.cells 28 :: Chunk.blk b1 #[.int .i64 last, .int .i64 (k : Int)] 51 :: Sch a0 v x dm sm o dead says ord L), sel_of (fun h1 => ?_) (fun h1 => ?_), ?_⟩
    · have h1 := of_decide_eq_true h1
      obtain ⟨q, rfl⟩ : ∃ q : Nat, last = (q : Int) := ⟨last.toNat, by omega⟩
      obtain ⟨bb, oo, hA, hc⟩ := RdL.call hx.cal (by omega)
      obtain ⟨u, hu, _, _, hc1⟩ := hc q (by omega)
      have hc := fun j y h => hS4.frame.cell (hc1 j y h)
      have hmem : l.getD q cd ∈ l := (mem_getD cd _ _).2 ⟨q, by omega, rfl⟩
      have hpe : polAt p l (q : Int) = cPol (l.getD q cd) := by unfold polAt; rw [if_pos (by omega)]; rfl
      have hsp := hx.sc.p _ hmem
      rw [hpe]
      generalize l.getD q cd = cl at *
      have hS5 := hS4.over 0 rfl u.l rfl
      refine ⟨_, _, _, hBs.cell rfl, by omega, by omega, needPtr_of hA ⟨_, _, _, hc 5 _ rfl, _, _, _, hc 6 _ rfl, _, _, _, hc 7 _ rfl, _, _, _, hc 8 _ rfl, _, _, _, hc 9 _ rfl, _, _, _, hc 10 _ rfl, _, _, _, hc 11 _ rfl, _, _, _, hc 12 _ rfl, _, _, _, hc 13 _ rfl, _, _, _, hc 14 _ rfl, _, _, _, hc 15 _ rfl, (hS4.blk 0 rfl).can (by simp), rfl, u, ?_, hsp, ?_⟩⟩
      · exact hu.fr hS5.frame
      · exact hS5
    · have h1 := of_decide_eq_false h1
      refine ⟨rfl, v, ?_, ?_, hS4⟩
      · unfold polAt; rw [if_neg h1]; exact hx.pol.fr hS4.frame
      · unfold polAt; rw [if_neg h1]; exact hx.sp
    · rintro _ w6 ⟨u, hu, hsp, hS6⟩
      have hBp := hS6.blk 0 rfl
      have hBs := hS6.blk 2 rfl
      obtain ⟨bb, oo, hA, hc⟩ := RdL.call (hx.cal.fr hS6.frame) (by omega)
      obtain ⟨z, _, _, _, hc⟩ := hc k (by omega)
      refine ⟨_, _, _, hBp.cell rfl, _, _, _, hBp.cell rfl, _, _, _, hBp.cell rfl, _, _, _, hBp.cell rfl, _, _, _, hBp.cell rfl, _, _, _, hBp.cell rfl, _, _, _, hBp.cell rfl, _, _, _, hBp.cell rfl, _, _, _, hBp.cell rfl, _, _, _, hBp.cell rfl, _, _, _, hBp.cell rfl, _, _, _, hBs.cell rfl, by omega, by omega, needPtr_of hA ⟨_, hc 16 _ rfl, _, hc 17 _ rfl, _, hc 18 _ rfl, Calls.mono (hS6.drew.step0 (allowsC (hu.fr (Fr.refl [] w6).drew) hsp _ _ _)) ?_⟩⟩
      rintro _ w7 ⟨rfl, hS7⟩
      have hans : allowsB geF ltF (polAt p l last) (cTri (l.getD k cd)) = ansI p l (last, (k : Int)) := rfl
      have hBk := hS7.blk 1 rfl
      have hBs := hS7.blk 2 rfl
      obtain ⟨w8, hup, hS8⟩ := hS7.drew.mapUpd 4 rfl under91 key51 (last, (k : Int)) (2 : Int)
      refine ⟨_, rfl, _, hBs.cell rfl, _, hBk.cell rfl, _, hBk.cell rfl, w8, hup, ?_⟩
      replace hS8 : St [] w0 w8 (Chunk.blk b2 u.cells 28 :: Chunk.blk b1 #[.int .i64 last, .int .i64 (k : Int)] 51 :: Sch a0 v x dm sm o dead (GM.put says (last, (k : Int)) 2) ord L) := hS8
      have hput := hsy.put (last, (k : Int))
      refine sel_of (fun h2 => ?_) (fun h2 => ?_)
      · have h2 : ansI p l (last, (k : Int)) = true := h2
        rw [if_pos h2] at hput
        have hBk := hS8.blk 1 rfl
        have hBs := hS8.blk 2 rfl
        obtain ⟨w9, hup2, hS9⟩ := hS8.drew.mapUpd 4 rfl under91 key51 (last, (k : Int)) (1 : Int)
        rw [put_put] at hS9
        exact ⟨_, hBs.cell rfl, _, hBk.cell rfl, _, hBk.cell rfl, w9, hup2, _, rfl, hput, hS9.tail.tail⟩
      · have h2 : ansI p l (last, (k : Int)) = false := h2
        rw [if_neg (by rw [h2]; decide)] at hput
        exact ⟨_, rfl, hput, hS8.tail.tail⟩
  · rintro e w' ⟨v, rfl, s, rfl, h⟩; exact ⟨s, rfl, h⟩
end JG
end Go.Proofs.Ytddbebhklmaeoaa
