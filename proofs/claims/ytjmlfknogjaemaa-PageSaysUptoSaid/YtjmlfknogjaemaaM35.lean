/- Page: what a graph decides (graph.Decide), some. -/
import Derived.Test.YtjmlfknogjaemaaM32
import Derived.Test.YtjmlfknogjaemaaM34
import Derived.Test.YtjmlfknogjaemaaM33
set_option linter.unusedVariables false
set_option linter.unusedSimpArgs false
set_option maxRecDepth 10000
namespace Go.Proofs.Ytjmlfknogjaemaa
open Go Go.Proofs.Ytjmlfknogjaemaa.Vc
namespace PG
open Vc.PG NI
/-- A name of a list, counted round. -/
def someP (l : List ByteArray) (n : Int) (other : ByteArray) : ByteArray := if l.length = 0 ∨ n < 0 then other else l.getD (n % (l.length : Int)).toNat ByteArray.empty
theorem someC {w : World} {A : Option Addr} {n c : Nat} {l : List ByteArray} (h : InX w A n l) (x : Int) (s : ByteArray) : Calls Try.prog 35 #[.slice A n c, .int .i64 x, .string s] w fun e w' => e = .returned (.string (someP l x s)) ∧ w' = w := by
  refine Calls.mono (f35.calls (R := fun v w' => v = .string (someP l x s) ∧ w' = w) ?_) ?_
  · dsimp only [f35.VC]
    have hl := h.1
    refine sel_of (fun h0 => ?_) (fun h0 => sel_of (fun h1 => ?_) (fun h1 => ?_))
    · have h0 : (n : Int) = 0 := by simpa using h0
      refine ⟨?_, rfl⟩
      unfold someP
      rw [if_pos (.inl (by omega))]
    · have h1 := of_decide_eq_true h1
      refine ⟨?_, rfl⟩
      unfold someP
      rw [if_pos (.inr h1)]
    · have h0 : (n : Int) ≠ 0 := by simpa using h0
      have h1 := of_decide_eq_false h1
      have e : Int.tmod x (n : Int) = x % (n : Int) := Int.tmod_eq_emod_of_nonneg (by omega)
      have hr1 := Int.emod_nonneg x h0
      have hr2 := Int.emod_lt_of_pos x (show (0 : Int) < n by omega)
      rw [e]
      refine ⟨h0, hr1, hr2, InX.need h (q := (x % (n : Int)).toNat) (by omega) (by omega) ⟨?_, rfl⟩⟩
      unfold someP
      rw [if_neg (by omega), ← hl]
  · rintro e w' ⟨v, rfl, rfl, h⟩; exact ⟨rfl, h⟩
theorem atG {w : World} {A : Option Addr} {n c : Nat} {l : List Int} (h : InW w A n l) (x : Int) : Calls Try.prog 78 #[.slice A n c, .int .i64 x] w fun e w' => e = .returned (.int .i64 (if x < 0 ∨ (l.length : Int) ≤ x then -1 else IntKind.i64.wrap (l.getD x.toNat 0 - 1))) ∧ w' = w := by
  refine Calls.mono (f78.calls (R := fun v w' => v = .int .i64 (if x < 0 ∨ (l.length : Int) ≤ x then -1 else IntKind.i64.wrap (l.getD x.toNat 0 - 1)) ∧ w' = w) ?_) ?_
  · dsimp only [f78.VC]
    have hl := h.1
    refine sel_of (fun h0 => ?_) (fun h0 => sel_of (fun h1 => ?_) (fun h1 => ?_))
    · exact ⟨by rw [if_pos (.inl (of_decide_eq_true h0))], rfl⟩
    · exact ⟨by rw [if_pos (.inr (by have := of_decide_eq_true h1; omega))], rfl⟩
    · have h0 := of_decide_eq_false h0
      have h1 := of_decide_eq_false h1
      refine ⟨by omega, by omega, InW.need h (Fr.refl _ _) (q := x.toNat) (by omega) (by omega) ⟨?_, rfl⟩⟩
      rw [if_neg (by omega)]
  · rintro e w' ⟨v, rfl, rfl, h⟩; exact ⟨rfl, h⟩
theorem idx_num (l : List ByteArray) (s : ByteArray) : idxI l s = (IX.num l s : Int) - 1 := by
  unfold idxI IX.num
  cases l.findIdx? (fun x => decide (x = s)) with
  | none => rfl
  | some j => dsimp only; omega
theorem shl_one : ∀ k : Fin 16, shlI .u16 1 (k.1 : Int) = ((2 ^ k.1 : Nat) : Int) := by decide +kernel
theorem wrap_u16 {n : Nat} (h : n < 65536) : IntKind.wrap .u16 (n : Int) = (n : Int) := by
  have e : IntKind.wrap .u16 (n : Int) = (n : Int) % 65536 := rfl
  rw [e]; omega
theorem ofInt_nat (w n : Nat) : BitVec.ofInt w (n : Int) = BitVec.ofNat w n := by
  simp
/-- A bit is cleared. -/
theorem bit_clear {m k : Nat} (hm : m < 65536) (hk : k < 16) : (bitsI .andNot .u16 (m : Int) (shlI .u16 1 (k : Int)) != (m : Int)) = bitB (m : Int) (k : Int) := by
  have hL : (bitsI .andNot .u16 (m : Int) (shlI .u16 1 (k : Int)) != (m : Int)) = m.testBit k := by
    rw [shl_one ⟨k, hk⟩]
    show (IntKind.wrap .u16 (((BitVec.ofInt 16 (m : Int) &&& ~~~ BitVec.ofInt 16 ((2 ^ k : Nat) : Int)).toNat : Nat) : Int) != (m : Int)) = _
    rw [wrap_u16 (BitVec.isLt _), ofInt_nat, ofInt_nat]
    have hX : (BitVec.ofNat 16 m).toNat = m := by rw [BitVec.toNat_ofNat]; omega
    have hY : ∀ i, (BitVec.ofNat 16 (2 ^ k)).getLsbD i = decide (i < 16 ∧ k = i) := by
      intro i
      rw [BitVec.getLsbD_ofNat, Nat.testBit_two_pow]
      by_cases h1 : i < 16 <;> by_cases h2 : k = i <;> simp [h1, h2]
    have hXb : ∀ i, (BitVec.ofNat 16 m).getLsbD i = (decide (i < 16) && m.testBit i) := fun i => BitVec.getLsbD_ofNat _ _ _
    cases hb : m.testBit k with
    | true =>
      have hne : (BitVec.ofNat 16 m &&& ~~~ BitVec.ofNat 16 (2 ^ k)).toNat ≠ m := by
        intro he
        have he2 : BitVec.ofNat 16 m &&& ~~~ BitVec.ofNat 16 (2 ^ k) = BitVec.ofNat 16 m := BitVec.eq_of_toNat_eq (by rw [he, hX])
        have h3 := congrArg (fun v => v.getLsbD k) he2
        simp only [BitVec.getLsbD_and, BitVec.getLsbD_not, hY, hXb, hb] at h3
        simp [hk] at h3
      rw [bne_iff_ne]
      intro h
      exact hne (by omega)
    | false =>
      have he : (BitVec.ofNat 16 m &&& ~~~ BitVec.ofNat 16 (2 ^ k)) = BitVec.ofNat 16 m := by
        refine BitVec.eq_of_getLsbD_eq fun i hi => ?_
        rw [BitVec.getLsbD_and, BitVec.getLsbD_not, hY, hXb]
        by_cases h2 : k = i
        · subst h2; simp [hb]
        · simp [h2, hi]
      rw [he, hX]
      simp
  have hR : bitB (m : Int) (k : Int) = m.testBit k := by
    have e1 : shrI .i64 (m : Int) (k : Int) = ((m / 2 ^ k : Nat) : Int) := by
      unfold shrI
      rw [show min ((k : Int).toNat) (IntKind.bits .i64) = k by show min ((k : Int).toNat) 64 = k; omega]
      rw [Int.fdiv_eq_ediv_of_nonneg _ (by exact_mod_cast Nat.zero_le (2 ^ k))]
      rw [Int.natCast_ediv]
      simp
    unfold bitB
    rw [e1]
    show (IntKind.wrap .i64 (((BitVec.ofInt 64 ((m / 2 ^ k : Nat) : Int) &&& BitVec.ofInt 64 1).toNat : Nat) : Int) == 1) = _
    rw [ofInt_nat, BitVec.toNat_and]
    have h1 : (BitVec.ofInt 64 1).toNat = 1 := by decide
    have hlt : m / 2 ^ k < 65536 := Nat.lt_of_le_of_lt (Nat.div_le_self _ _) hm
    rw [h1, Nat.and_one_is_mod, BitVec.toNat_ofNat, Nat.testBit_eq_decide_div_mod_eq, wr]
    generalize m / 2 ^ k = q at *
    have hq : q % 2 ^ 64 = q := Nat.mod_eq_of_lt (by omega)
    rw [hq]
    rcases Nat.mod_two_eq_zero_or_one q with h | h
    · rw [h]; rfl
    · rw [h]; rfl
  rw [hL, hR]
/-- What a valid graph decides. -/
theorem decideC {w : World} {v : GV} {g : Gd} (hG : InG w v g) (hv : validP g = true) (s o a : ByteArray) :
    Calls Try.prog 37 #[v.v, .agg #[.string s, .string o, .string a]] w fun e w' => e = .returned (.bool (decG g s o a)) ∧ Fr [] w w' := by
  refine Calls.mono (f37.calls (R := fun v w' => v = .bool (decG g s o a) ∧ Fr [] w w') ?_) ?_
  · dsimp only [f37.VC]
    obtain ⟨⟨p1, p2, p3, p4, p5⟩, _, q1, q2, q3, q4, q5, q6, q7⟩ := valid_parts hv
    have ea := hG.a.1.1
    have es := hG.s.1.1
    have eo := hG.o.1.1
    have ef := hG.f.1.1
    have en := hG.n.1.1
    have em := hG.m.1.1
    obtain ⟨hm, hrow⟩ := valid_rows hv
    have hS1 := (St.start w).alloc v.cells 29
    generalize w.heap.size = b1 at *
    generalize World.alloc w (.cells v.cells 29) = w1 at *
    have hS := hS1.alloc #[.string s, .string o, .string a] 73
    generalize w1.heap.size = b2 at *
    generalize World.alloc w1 (.cells #[.string s, .string o, .string a] 73) = w2 at *
    clear hS1
    have at1 : ∀ {l : List ByteArray} {n : List Int} {t : ByteArray} {q : Nat}, n.length = l.length → great n 0 = some q → q ≤ 64 → (if idxI l t < 0 ∨ (n.length : Int) ≤ idxI l t then (-1 : Int) else IntKind.i64.wrap (n.getD (idxI l t).toNat 0 - 1)) = (clsP l n t).getD 0 - 1 := by
      intro l n t q hl hg hq
      rw [idx_num]
      have hle := num_le l t
      unfold clsP
      by_cases h0 : IX.num l t = 0
      · rw [if_pos (.inl (by omega)), if_pos h0]
        rfl
      · rw [if_neg (by omega), if_neg h0, Option.getD_some]
        have := (great_ge _ _ _ hg).2 _ ((mem_getD 0 n _).2 ⟨IX.num l t - 1, by omega, rfl⟩)
        rw [show ((IX.num l t : Int) - 1).toNat = IX.num l t - 1 by omega, i64_id (by omega) (by omega)]
    refine ⟨_, _, _, (hS.blk 1 rfl).cell rfl, _, _, _, (hS.blk 1 rfl).cell rfl, _, (hS.blk 0 rfl).cell rfl, ?_⟩
    replace hS := hS.drew
    refine Calls.mono (indexS ((hG.fr hS.frame).s.1) (by omega) s) ?_
    rintro _ w3 ⟨rfl, rfl⟩
    refine ⟨_, rfl, ⟨(hS.blk 0 rfl).cell rfl, (hS.blk 1 rfl).cell rfl, (hS.blk 1 rfl).cell rfl, trivial⟩, ?_⟩
    refine Calls.mono (atG ((hG.fr hS.frame).f.1) _) ?_
    rintro _ w4 ⟨rfl, rfl⟩
    rw [at1 p4 q1 q3]
    refine ⟨_, rfl, ⟨(hS.blk 0 rfl).cell rfl, (hS.blk 1 rfl).cell rfl, (hS.blk 1 rfl).cell rfl, trivial⟩, ?_⟩
    refine ⟨_, _, _, (hS.blk 1 rfl).cell rfl, _, _, _, (hS.blk 1 rfl).cell rfl, _, (hS.blk 0 rfl).cell rfl, ?_⟩
    replace hS := hS.drew
    refine Calls.mono (indexS ((hG.fr hS.frame).o.1) (by omega) o) ?_
    rintro _ w5 ⟨rfl, rfl⟩
    refine ⟨_, rfl, ⟨(hS.blk 0 rfl).cell rfl, (hS.blk 1 rfl).cell rfl, (hS.blk 1 rfl).cell rfl, trivial⟩, ?_⟩
    refine Calls.mono (atG ((hG.fr hS.frame).n.1) _) ?_
    rintro _ w6 ⟨rfl, rfl⟩
    rw [at1 p5 q2 q4]
    refine ⟨_, rfl, ⟨(hS.blk 0 rfl).cell rfl, (hS.blk 1 rfl).cell rfl, (hS.blk 1 rfl).cell rfl, trivial⟩, ?_⟩
    refine ⟨_, _, _, (hS.blk 1 rfl).cell rfl, _, (hS.blk 0 rfl).cell rfl, ?_⟩
    refine Calls.mono (indexS ((hG.fr hS.frame).a.1) (by omega) a) ?_
    rintro _ w7 ⟨rfl, rfl⟩
    refine ⟨_, rfl, ?_⟩
    have r1 := @cls_range (gS g) (gF g) _ q1 p4 s
    have r2 := @cls_range (gO g) (gN g) _ q2 p5 o
    unfold decG
    rw [idx_num]
    have hfr := hS.frame
    have hna := num_le (gA g) a
    generalize clsP (gS g) (gF g) s = c1 at *
    generalize clsP (gO g) (gN g) o = c2 at *
    cases c1 with
    | none => exact sel_of (fun _ => ⟨rfl, hfr⟩) (fun h => by have := of_decide_eq_false h; exact absurd (by decide) this)
    | some x =>
    have hx := r1 rfl
    dsimp only [Option.getD_some]
    refine sel_of (fun h => by have := of_decide_eq_true h; omega) (fun _ => ⟨_, _, _, (hS.blk 1 rfl).cell rfl, sel_of (fun h => by have := of_decide_eq_true h; omega) (fun _ => ?_)⟩)
    cases c2 with
    | none => exact sel_of (fun _ => ⟨rfl, hfr⟩) (fun h => by have := of_decide_eq_false h; exact absurd (by decide) this)
    | some y =>
    have hy := r2 rfl
    dsimp only [Option.getD_some]
    have hr := hrow _ ((mem_getD [] (gM g) _).2 ⟨(x - 1).toNat, by omega, rfl⟩)
    refine sel_of (fun h => by have := of_decide_eq_true h; omega) (fun _ => ⟨_, _, _, (hS.blk 1 rfl).cell rfl, by omega, by omega, InM.need (hG.fr hfr).m.1 (q := (x - 1).toNat) (by omega) (by omega) (fun B k c hB => sel_of (fun h => by have := of_decide_eq_true h; have := hB.1; omega) (fun _ => ?_))⟩)
    unfold clsP
    by_cases h0 : IX.num (gA g) a = 0
    · rw [if_pos h0]
      exact sel_of (fun _ => ⟨rfl, hfr⟩) (fun h => by have := of_decide_eq_false h; omega)
    · rw [if_neg h0, upTo_get (by omega)]
      dsimp only
      refine sel_of (fun h => by have := of_decide_eq_true h; omega) (fun _ => sel_of (fun h => by have := of_decide_eq_true h; omega) (fun _ => ?_))
      refine ⟨_, _, _, (hS.blk 1 rfl).cell rfl, by omega, by omega, InM.need (hG.fr hfr).m.1 (q := (x - 1).toNat) (by omega) (by omega) (fun B k c hB => ⟨by omega, by have := hB.1; omega, InU.need hB (q := (y - 1).toNat) (by omega) (by have := hB.1; omega) ⟨by omega, ?_, hfr⟩⟩)⟩
      have hu := hG.u _ ((mem_getD [] (gM g) _).2 ⟨(x - 1).toNat, by omega, rfl⟩) _ ((mem_getD 0 _ _).2 ⟨(y - 1).toNat, by omega, rfl⟩)
      obtain ⟨M, hM⟩ : ∃ M : Nat, ((gM g).getD (x - 1).toNat []).getD (y - 1).toNat 0 = (M : Int) := ⟨(((gM g).getD (x - 1).toNat []).getD (y - 1).toNat 0).toNat, by omega⟩
      rw [hM] at hu ⊢
      rw [show (IX.num (gA g) a : Int) - 1 = ((IX.num (gA g) a - 1 : Nat) : Int) by omega, bit_clear (by omega) (by omega)]
      rw [show ((IX.num (gA g) a - 1 + 1 : Nat) : Int) - 1 = ((IX.num (gA g) a - 1 : Nat) : Int) by omega]
  · rintro e w' ⟨v, rfl, rfl, h⟩; exact ⟨rfl, h⟩
end PG
end Go.Proofs.Ytjmlfknogjaemaa
/- Page: the law PageSays, the walk. -/
set_option linter.unusedVariables false
set_option linter.unusedSimpArgs false
set_option linter.unusedSectionVars false
set_option maxRecDepth 10000
namespace Go.Proofs.Ytjmlfknogjaemaa
open Go Go.Proofs.Ytjmlfknogjaemaa.Vc
namespace PG
open Vc.PG NI
/-- Triples of numbers that are read. -/
def encA3 (x : Int × Int × Int) : List Value := [.int .i64 x.1, .int .i64 x.2.1, .int .i64 x.2.2]
def InT3 (w : World) (A : Option Addr) (n : Nat) (l : List (Int × Int × Int)) : Prop := InR w 3 A n (l.map encA3)
theorem InT3.fr {w w' : World} {A : Option Addr} {n : Nat} {l : List (Int × Int × Int)} (h : InT3 w A n l) (hf : Fr [] w w') : InT3 w' A n l :=
  InR.fr (S := []) h (fun r hr => by obtain ⟨x, _, rfl⟩ := List.mem_map.1 hr; rfl) hf
theorem InT3.cells {w : World} {A : Option Addr} {n : Nat} {l : List (Int × Int × Int)} (h : InT3 w A n l) {i : Nat} (hi : i < n) : ∃ (b o : Nat) (x : Int × Int × Int), A = some ⟨b, o, none⟩ ∧ w.cell? ⟨b, o + i * 3, none⟩ = some (.int .i64 x.1) ∧ w.cell? ⟨b, o + i * 3 + 1, none⟩ = some (.int .i64 x.2.1) ∧ w.cell? ⟨b, o + i * 3 + 1 + 1, none⟩ = some (.int .i64 x.2.2) := by
  have hl := h.1
  rw [List.length_map] at hl
  obtain ⟨b, o, rfl, h2⟩ := h.2 (by omega)
  have hil : i < l.length := by omega
  have e : (l.map encA3).getD i [] = encA3 l[i] := by simp [List.getD_eq_getElem?_getD, hil]
  have h3 := h2 i hi
  rw [e] at h3
  exact ⟨b, o, l[i], rfl, h3 0 (by decide), h3 1 (by decide), h3 2 (by decide)⟩
abbrev triTy : Ty := .pair (.int .i64) (.pair (.int .i64) (.pair (.int .i64) .unit))
theorem inT3 {w : World} {A : Option Addr} {n c : Nat} {l : List (Den triTy)} {F : List Nat} (h : In w (.sl triTy) [.slice A n c] l F) : InT3 w A n (l.map fun d => (d.1, d.2.1, d.2.2.1)) := by
  have := In.recs (by decide) h
  unfold InT3
  rw [List.map_map]
  exact this
theorem lawSays {w : World} {v : GV} {g : Gd} {B C : Option Addr} {m d k f : Nat} {known : List ByteArray} {Q : List (Int × Int × Int)} (hv : InG w v g) (hK : InX w B m known) (hQ : InT3 w C k Q) (bv : SmallG v g) (hm : m ≤ 1100000) (hk : k ≤ 1100000) (ver : Int) (other : ByteArray) :
    Calls Try.prog 9 #[.int .i64 ver, v.v, .slice B m d, .slice C k f, .string other] w fun e w' => e = .returned (.bool true) ∧ Fr [] w w' := by
  refine Calls.mono (f9.calls (R := fun v w' => v = .bool true ∧ Fr [] w w') ?_) ?_
  · dsimp only [f9.VC]
    have bv3 : v.a.2.1 ≤ 1100000 ∧ v.s.2.1 ≤ 1100000 ∧ v.o.2.1 ≤ 1100000 := ⟨bv.1.1, bv.1.2.1, bv.1.2.2.1⟩
    have hS0 := (St.start w).alloc v.cells 29
    generalize World.alloc w (.cells v.cells 29) = w1 at *
    generalize w.heap.size = b1 at *
    refine Calls.mono (awake w1) ?_
    rintro _ w2 ⟨rfl, f1⟩
    have hS2 := hS0.go f1
    clear hS0 f1
    refine ⟨_, rfl, ?_⟩
    refine ⟨_, _, _, (hS2.blk 0 rfl).cell rfl, _, _, _, (hS2.blk 0 rfl).cell rfl, _, _, _, (hS2.blk 0 rfl).cell rfl, _, _, _, (hS2.blk 0 rfl).cell rfl, _, _, _, (hS2.blk 0 rfl).cell rfl, _, _, _, (hS2.blk 0 rfl).cell rfl, ?_⟩
    refine Calls.mono (hS2.step0 (validR (hv.fr hS2.frame) bv3)) ?_
    clear hS2
    rintro _ w3 ⟨rfl, hS3⟩
    refine ⟨_, rfl, sel_of (fun _ => ⟨rfl, hS3.frame⟩) (fun hval => ?_)⟩
    have hval : validP g = true := by simpa using hval
    refine sel_of (fun _ => ⟨rfl, hS3.frame⟩) (fun c1 => sel_of (fun _ => ⟨rfl, hS3.frame⟩) (fun c2 => sel_of (fun _ => ⟨rfl, hS3.frame⟩) (fun hmm => ?_)))
    have c1 := of_decide_eq_false c1
    have c2 := of_decide_eq_false c2
    have hmm := of_decide_eq_false hmm
    refine Calls.mono (NI.index (hK.fr hS3.frame) (by omega)) ?_
    rintro _ w4 ⟨x, y, rfl, hS4⟩
    have hS4 := hS3.gone hS4
    clear hS3
    have hkl := hK.1
    have hl : (all [] known).length ≤ 1000000 := by have := all_len known []; rw [List.length_nil] at this; omega
    have hlN := (all_good known [] (by simp) (by simp)).1
    generalize all [] known = l at *
    have hS4 : St [] w w4 [refI 81 y l, idxC x l, Chunk.blk b1 v.cells 29] := hS4
    refine ⟨_, _, rfl, sel_of (fun h => by cases h) (fun _ => ?_)⟩
    refine ⟨_, _, _, (hS4.blk 2 rfl).cell rfl, _, _, _, (hS4.blk 2 rfl).cell rfl, _, _, _, (hS4.blk 2 rfl).cell rfl, _, _, _, (hS4.blk 2 rfl).cell rfl, _, _, _, (hS4.blk 2 rfl).cell rfl, _, _, _, (hS4.blk 2 rfl).cell rfl, ?_⟩
    refine Calls.mono (twinC hS4 (hv.fr hS4.frame) bv) ?_
    clear hS4
    rintro _ w5 ⟨t, rfl, hS⟩
    refine ⟨_, _, _, _, _, _, _, _, _, _, _, _, _, _, _, _, _, _, rfl, ?_⟩
    have bt : SmallG t g := bv.of hv (hS.says 0 rfl)
    have hlay := layCs hS 2 0 (by decide) rfl rfl (v := t) (g := g) (fun w h => h) (by omega) ⟨bt.1.1, bt.1.2.1, bt.1.2.2.1⟩ ver
    have hok := lay_ok (v := ver) (l := l) hval (by omega) (by omega) hl
    have hL := lay_le ver g (l := l) (by omega)
    have hp := lay_small ver g l
    have hsz := lay_len hok
    obtain ⟨_, _, _, Z, hZ⟩ := laidW_of hok
    have hN : (layP ver g l).2.2.Nodup := by rw [lay_L hok]; exact (all_good (names g) l hlN (by omega)).1
    generalize layP ver g l = P at *
    obtain ⟨W, e, L⟩ := P
    dsimp only at *
    subst hok
    refine Calls.mono hlay ?_
    clear hS hlay
    rintro _ w6 ⟨A, n, c, rfl, hS⟩
    refine ⟨_, _, _, _, rfl, ?_⟩
    have hS : St [] w w6 [ints (.slice A n c) W, gC t g, refI 81 y l, idxC x L, Chunk.blk b1 v.cells 29] := hS
    have hlen := hZ.len
    have hn : n = W.length := hS.lsLen 0 rfl
    have ht := tOf_le hval
    refine sel_of (fun h => by simp at h) (fun _ => sel_of (fun h => by have := of_decide_eq_true h; omega) (fun _ => ?_))
    refine ⟨_, _, _, (hS.blk 4 rfl).cell rfl, _, _, _, (hS.blk 4 rfl).cell rfl, _, _, _, (hS.blk 4 rfl).cell rfl, _, _, _, (hS.blk 4 rfl).cell rfl, _, _, _, (hS.blk 4 rfl).cell rfl, _, _, _, (hS.blk 4 rfl).cell rfl, ?_⟩
    refine Calls.mono (twinC hS (hv.fr hS.frame) bv) ?_
    clear hS
    rintro _ w7 ⟨t2, rfl, hS⟩
    refine ⟨_, _, _, _, _, _, _, _, _, _, _, _, _, _, _, _, _, _, rfl, ?_⟩
    have bt : SmallG t2 g := bv.of hv (hS.says 0 rfl)
    refine Calls.mono (hS.step0 (sizeC (hS.says 0 rfl) ⟨bt.1.1, bt.1.2.1, bt.1.2.2.1⟩)) ?_
    clear hS
    rintro _ w8 ⟨rfl, hS⟩
    refine ⟨_, rfl, sel_of (fun h => ?_) (fun _ => ?_)⟩
    · rw [← hsz, ← hn] at h
      simp at h
    refine Calls.mono (copied0 (c := c) hS (St.inI hS 1 rfl) (by omega)) ?_
    clear hS
    rintro _ w9 ⟨⟨A9, n9, c9⟩, rfl, hS⟩
    refine ⟨_, _, _, rfl, ?_⟩
    have hS : St [] w w9 [ints (.slice A9 n9 c9) W, gC t2 g, ints (.slice A n c) W, gC t g, refI 81 y l, idxC x L, Chunk.blk b1 v.cells 29] := hS
    have hn9 : n9 = W.length := hS.lsLen 0 rfl
    obtain ⟨hrd, hvh, _⟩ := hZ.read hval hL hN hv.u ⟨by omega, by omega⟩
    have hsame := fun s o a => hZ.same hval hN hL s o a
    have hrs := readP_small W L
    have hr := readC (c := c9) (St.inI hS 0 rfl) (idxAt hS 5 rfl) hL (by omega) (fun i => hZ.small hval hL (by omega) hv.u i)
    rw [hrd] at hr hrs
    generalize graphP W (tOf g) L = h at *
    refine Calls.mono hr ?_
    rintro _ w10 ⟨_, rfl, u, rfl, hG⟩
    have hS := hS.gone hG
    have hS : St [] w w10 [gC u h, ints (.slice A9 n9 c9) W, gC t2 g, ints (.slice A n c) W, gC t g, refI 81 y l, idxC x L, Chunk.blk b1 v.cells 29] := hS
    have hSa := hS.alloc #[.slice none 0 0, .slice none 0 0, .slice none 0 0, .slice none 0 0, .slice none 0 0, .slice none 0 0] 29
    have hSb := hSa.over 0 rfl [u.a.v, u.s.v, u.o.v, u.f.v, u.n.v, u.m.v] rfl
    refine ⟨_, _, _, _, _, _, _, _, _, _, _, _, _, _, _, _, _, _, _, _, rfl, (hSa.blk 0 rfl).can (by decide), sel_of (fun h => by simp at h) (fun _ => sel_of (fun h => by simp at h) (fun _ => ?_))⟩
    clear hSa hG hr
    generalize setCs (World.alloc w10 (.cells #[.slice none 0 0, .slice none 0 0, .slice none 0 0, .slice none 0 0, .slice none 0 0, .slice none 0 0] 29)) w10.heap.size 0 [u.a.v, u.s.v, u.o.v, u.f.v, u.n.v, u.m.v] = w12 at *
    generalize w10.heap.size = bh at *
    have hS : St [] w w12 [Chunk.blk bh u.cells 29, gC u h, ints (.slice A9 n9 c9) W, gC t2 g, ints (.slice A n c) W, gC t g, refI 81 y l, idxC x L, Chunk.blk b1 v.cells 29] := hSb
    clear hSb
    have bu : SmallG u h := by
      have hu : InG w12 u h := hS.says 1 rfl
      have e1 := hu.a.1.1
      have e2 := hu.s.1.1
      have e3 := hu.o.1.1
      have e4 := hu.f.1.1
      have e5 := hu.n.1.1
      have e6 := hu.m.1.1
      obtain ⟨⟨k1, k2, k3, k4, k5, k6⟩, k7⟩ := hrs
      dsimp only at k1 k2 k3 k4 k5 k6 k7
      exact ⟨⟨by omega, by omega, by omega, by omega, by omega, by omega⟩, fun r hr => by have := k7 r hr; omega⟩
    refine ⟨_, _, _, (hS.blk 0 rfl).cell rfl, _, _, _, (hS.blk 0 rfl).cell rfl, _, _, _, (hS.blk 0 rfl).cell rfl, _, _, _, (hS.blk 0 rfl).cell rfl, _, _, _, (hS.blk 0 rfl).cell rfl, _, _, _, (hS.blk 0 rfl).cell rfl, ?_⟩
    refine Calls.mono (twinC hS (hS.says 1 rfl) bu) ?_
    clear hS
    rintro _ w13 ⟨t3, rfl, hS⟩
    refine ⟨_, _, _, _, _, _, _, _, _, _, _, _, _, _, _, _, _, _, rfl, ?_⟩
    have bt : SmallG t3 h := bu.of (hS.says 2 rfl) (hS.says 0 rfl)
    refine Calls.mono (hS.step0 (validC (hS.says 0 rfl) ⟨bt.1.1, bt.1.2.1, bt.1.2.2.1⟩)) ?_
    clear hS
    rintro _ w14 ⟨rfl, hS⟩
    refine ⟨_, rfl, sel_of (fun h => by rw [hvh] at h; cases h) (fun _ => ?_)⟩
    have hS := hS.sel [1, 2, 5, 8, 9] (by decide) [Chunk.blk bh u.cells 29, gC u h, ints (.slice A n c) W, idxC x L, Chunk.blk b1 v.cells 29] rfl
    refine ⟨fun b z w' r => b = true ∧ ∃ (i : Nat) (L : List ByteArray), z = (i : Int) ∧ i + r = k ∧ L.length ≤ 1048576 ∧ LaidW W L ver g Z ∧ St [] w w' [Chunk.blk bh u.cells 29, gC u h, ints (.slice A n c) W, idxC x L, Chunk.blk b1 v.cells 29], ⟨k, rfl, 0, L, rfl, by omega, hL, hZ, hS⟩, ?_⟩
    clear hS hL hZ hN hrd hrs
    rintro dd b z w15 r ⟨rfl, i, L, rfl, hir, hL, hZ, hS⟩
    refine sel_of (fun hd => sel_of (fun _ => ?_) (fun h => by cases h)) (fun hd => ⟨rfl, hS.frame⟩)
    have hi : i < k := by have := of_decide_eq_true hd; omega
    obtain ⟨bq, oq, q, hC, k1, k2, k3⟩ := (hQ.fr hS.frame).cells hi
    refine ⟨by omega, by omega, needPtr_of hC ⟨_, k1, _, k2, _, k3, ?_⟩⟩
    have hSa := hS.alloc #[.int .i64 0, .int .i64 0, .int .i64 0] 70
    have hSb := hSa.over 0 rfl [.int .i64 q.1, .int .i64 q.2.1, .int .i64 q.2.2] rfl
    refine ⟨(hSa.blk 0 rfl).can (by decide), ?_⟩
    clear hSa hS
    generalize setCs (World.alloc w15 (.cells #[.int .i64 0, .int .i64 0, .int .i64 0] 70)) w15.heap.size 0 [.int .i64 q.1, .int .i64 q.2.1, .int .i64 q.2.2] = w17 at *
    generalize w15.heap.size = bw at *
    have hS : St [] w w17 [Chunk.blk bw #[.int .i64 q.1, .int .i64 q.2.1, .int .i64 q.2.2] 70, Chunk.blk bh u.cells 29, gC u h, ints (.slice A n c) W, idxC x L, Chunk.blk b1 v.cells 29] := hSb
    clear hSb
    refine ⟨fun b o w' => o = 0 ∧ St [] w w' [Chunk.blk b #[.string (someP (gS g) q.1 other), .string (someP (gO g) q.2.1 other), .string (someP (gA g) q.2.2 other)] 73, Chunk.blk bw #[.int .i64 q.1, .int .i64 q.2.1, .int .i64 q.2.2] 70, Chunk.blk bh u.cells 29, gC u h, ints (.slice A n c) W, idxC x L, Chunk.blk b1 v.cells 29], ?_, ?_⟩
    · refine ⟨by decide, by decide, by decide, by decide, by decide, by decide, _, _, _, (hS.blk 5 rfl).cell rfl, _, (hS.blk 0 rfl).cell rfl, _, _, _, (hS.blk 5 rfl).cell rfl, _, (hS.blk 0 rfl).cell rfl, _, _, _, (hS.blk 5 rfl).cell rfl, _, (hS.blk 0 rfl).cell rfl, ?_⟩
      have hS := hS.drew
      have fin : ∀ {w' : World} {bt : Nat}, St [] w w' [Chunk.blk bt #[.string ⟨#[]⟩, .string ⟨#[]⟩, .string ⟨#[]⟩] 73, Chunk.blk bw #[.int .i64 q.1, .int .i64 q.2.1, .int .i64 q.2.2] 70, Chunk.blk bh u.cells 29, gC u h, ints (.slice A n c) W, idxC x L, Chunk.blk b1 v.cells 29] → canStore w' bt 0 3 ∧ St [] w (setCs w' bt 0 [.string (someP (gS g) q.1 other), .string (someP (gO g) q.2.1 other), .string (someP (gA g) q.2.2 other)]) [Chunk.blk bt #[.string (someP (gS g) q.1 other), .string (someP (gO g) q.2.1 other), .string (someP (gA g) q.2.2 other)] 73, Chunk.blk bw #[.int .i64 q.1, .int .i64 q.2.1, .int .i64 q.2.2] 70, Chunk.blk bh u.cells 29, gC u h, ints (.slice A n c) W, idxC x L, Chunk.blk b1 v.cells 29] := by
        intro w' bt h
        exact ⟨(h.blk 0 rfl).can (by decide), h.over 0 rfl [.string (someP (gS g) q.1 other), .string (someP (gO g) q.2.1 other), .string (someP (gA g) q.2.2 other)] rfl⟩
      refine ⟨?_, ?_, trivial⟩
      · refine Calls.mono (someC (hv.fr hS.frame).s.1 q.1 other) ?_
        rintro _ w18 ⟨rfl, rfl⟩
        refine ⟨_, rfl, ⟨(hS.blk 0 rfl).cell rfl, (hS.blk 5 rfl).cell rfl, (hS.blk 0 rfl).cell rfl, (hS.blk 5 rfl).cell rfl, (hS.blk 0 rfl).cell rfl, (hS.blk 5 rfl).cell rfl, trivial⟩, ?_, ?_, trivial⟩
        · refine Calls.mono (someC (hv.fr hS.frame).o.1 q.2.1 other) ?_
          rintro _ w19 ⟨rfl, rfl⟩
          refine ⟨_, rfl, ⟨(hS.blk 0 rfl).cell rfl, (hS.blk 5 rfl).cell rfl, (hS.blk 0 rfl).cell rfl, (hS.blk 5 rfl).cell rfl, (hS.blk 0 rfl).cell rfl, (hS.blk 5 rfl).cell rfl, trivial⟩, ?_, ?_, trivial⟩
          · refine Calls.mono (someC (hv.fr hS.frame).a.1 q.2.2 other) ?_
            rintro _ w20 ⟨rfl, rfl⟩
            refine ⟨_, rfl, ⟨(hS.blk 0 rfl).cell rfl, (hS.blk 5 rfl).cell rfl, (hS.blk 0 rfl).cell rfl, (hS.blk 5 rfl).cell rfl, (hS.blk 0 rfl).cell rfl, (hS.blk 5 rfl).cell rfl, trivial⟩, ?_⟩
            have hT := hS.alloc #[.string ⟨#[]⟩, .string ⟨#[]⟩, .string ⟨#[]⟩] 73
            refine ⟨⟨(hT.blk 1 rfl).cell rfl, (hT.blk 6 rfl).cell rfl, (hT.blk 1 rfl).cell rfl, (hT.blk 6 rfl).cell rfl, (hT.blk 1 rfl).cell rfl, (hT.blk 6 rfl).cell rfl, trivial⟩, ?_⟩
            obtain ⟨f1, f2⟩ := fin hT
            exact ⟨f1, ⟨(f2.blk 1 rfl).cell rfl, (f2.blk 6 rfl).cell rfl, (f2.blk 1 rfl).cell rfl, (f2.blk 6 rfl).cell rfl, (f2.blk 1 rfl).cell rfl, (f2.blk 6 rfl).cell rfl, trivial⟩, rfl, rfl, f2⟩
          · have hT := hS.alloc #[.string ⟨#[]⟩, .string ⟨#[]⟩, .string ⟨#[]⟩] 73
            refine ⟨⟨(hT.blk 1 rfl).cell rfl, (hT.blk 6 rfl).cell rfl, (hT.blk 1 rfl).cell rfl, (hT.blk 6 rfl).cell rfl, (hT.blk 1 rfl).cell rfl, (hT.blk 6 rfl).cell rfl, trivial⟩, ?_⟩
            refine Calls.mono (someC (hv.fr hT.frame).a.1 q.2.2 other) ?_
            rintro _ w20 ⟨rfl, rfl⟩
            refine ⟨_, rfl, ⟨(hT.blk 1 rfl).cell rfl, (hT.blk 6 rfl).cell rfl, (hT.blk 1 rfl).cell rfl, (hT.blk 6 rfl).cell rfl, (hT.blk 1 rfl).cell rfl, (hT.blk 6 rfl).cell rfl, trivial⟩, ?_⟩
            obtain ⟨f1, f2⟩ := fin hT
            exact ⟨f1, ⟨(f2.blk 1 rfl).cell rfl, (f2.blk 6 rfl).cell rfl, (f2.blk 1 rfl).cell rfl, (f2.blk 6 rfl).cell rfl, (f2.blk 1 rfl).cell rfl, (f2.blk 6 rfl).cell rfl, trivial⟩, rfl, rfl, f2⟩
        · have hT := hS.alloc #[.string ⟨#[]⟩, .string ⟨#[]⟩, .string ⟨#[]⟩] 73
          refine ⟨⟨(hT.blk 1 rfl).cell rfl, (hT.blk 6 rfl).cell rfl, (hT.blk 1 rfl).cell rfl, (hT.blk 6 rfl).cell rfl, (hT.blk 1 rfl).cell rfl, (hT.blk 6 rfl).cell rfl, trivial⟩, ?_⟩
          refine Calls.mono (someC (hv.fr hT.frame).o.1 q.2.1 other) ?_
          rintro _ w19 ⟨rfl, rfl⟩
          refine ⟨_, rfl, ⟨(hT.blk 1 rfl).cell rfl, (hT.blk 6 rfl).cell rfl, (hT.blk 1 rfl).cell rfl, (hT.blk 6 rfl).cell rfl, (hT.blk 1 rfl).cell rfl, (hT.blk 6 rfl).cell rfl, trivial⟩, ?_⟩
          refine Calls.mono (someC (hv.fr hT.frame).a.1 q.2.2 other) ?_
          rintro _ w20 ⟨rfl, rfl⟩
          refine ⟨_, rfl, ⟨(hT.blk 1 rfl).cell rfl, (hT.blk 6 rfl).cell rfl, (hT.blk 1 rfl).cell rfl, (hT.blk 6 rfl).cell rfl, (hT.blk 1 rfl).cell rfl, (hT.blk 6 rfl).cell rfl, trivial⟩, ?_⟩
          obtain ⟨f1, f2⟩ := fin hT
          exact ⟨f1, ⟨(f2.blk 1 rfl).cell rfl, (f2.blk 6 rfl).cell rfl, (f2.blk 1 rfl).cell rfl, (f2.blk 6 rfl).cell rfl, (f2.blk 1 rfl).cell rfl, (f2.blk 6 rfl).cell rfl, trivial⟩, rfl, rfl, f2⟩
      · have hT := hS.alloc #[.string ⟨#[]⟩, .string ⟨#[]⟩, .string ⟨#[]⟩] 73
        refine ⟨⟨(hT.blk 1 rfl).cell rfl, (hT.blk 6 rfl).cell rfl, (hT.blk 1 rfl).cell rfl, (hT.blk 6 rfl).cell rfl, (hT.blk 1 rfl).cell rfl, (hT.blk 6 rfl).cell rfl, trivial⟩, ?_⟩
        refine Calls.mono (someC (hv.fr hT.frame).s.1 q.1 other) ?_
        rintro _ w18 ⟨rfl, rfl⟩
        refine ⟨_, rfl, ⟨(hT.blk 1 rfl).cell rfl, (hT.blk 6 rfl).cell rfl, (hT.blk 1 rfl).cell rfl, (hT.blk 6 rfl).cell rfl, (hT.blk 1 rfl).cell rfl, (hT.blk 6 rfl).cell rfl, trivial⟩, ?_⟩
        refine Calls.mono (someC (hv.fr hT.frame).o.1 q.2.1 other) ?_
        rintro _ w19 ⟨rfl, rfl⟩
        refine ⟨_, rfl, ⟨(hT.blk 1 rfl).cell rfl, (hT.blk 6 rfl).cell rfl, (hT.blk 1 rfl).cell rfl, (hT.blk 6 rfl).cell rfl, (hT.blk 1 rfl).cell rfl, (hT.blk 6 rfl).cell rfl, trivial⟩, ?_⟩
        refine Calls.mono (someC (hv.fr hT.frame).a.1 q.2.2 other) ?_
        rintro _ w20 ⟨rfl, rfl⟩
        refine ⟨_, rfl, ⟨(hT.blk 1 rfl).cell rfl, (hT.blk 6 rfl).cell rfl, (hT.blk 1 rfl).cell rfl, (hT.blk 6 rfl).cell rfl, (hT.blk 1 rfl).cell rfl, (hT.blk 6 rfl).cell rfl, trivial⟩, ?_⟩
        obtain ⟨f1, f2⟩ := fin hT
        exact ⟨f1, ⟨(f2.blk 1 rfl).cell rfl, (f2.blk 6 rfl).cell rfl, (f2.blk 1 rfl).cell rfl, (f2.blk 6 rfl).cell rfl, (f2.blk 1 rfl).cell rfl, (f2.blk 6 rfl).cell rfl, trivial⟩, rfl, rfl, f2⟩
    · clear hS
      rintro d2 bt ot w35 ⟨rfl, hS⟩
      generalize someP (gS g) q.1 other = s at *
      generalize someP (gO g) q.2.1 other = oo at *
      generalize someP (gA g) q.2.2 other = a at *
      have hZ2 := hZ.of hval s
      have hL2 := of_small hL s
      have hZ3 := hZ2.of hval oo
      have hL3 := of_small hL2 oo
      have hZ4 := hZ3.of hval a
      have hL4 := of_small hL3 a
      obtain ⟨hdec, hcnt⟩ := says_dec hZ hZ2 hZ3 hval ⟨hL, hL2, hL3⟩ s oo a
      refine ⟨_, (hS.blk 0 rfl).cell rfl, Calls.mono (NI.of hS 5 rfl hL s) ?_⟩
      clear hS
      rintro _ w36 ⟨rfl, hS⟩
      refine ⟨_, rfl, _, (hS.blk 0 rfl).cell rfl, Calls.mono (NI.of hS 5 rfl hL2 oo) ?_⟩
      clear hS
      rintro _ w37 ⟨rfl, hS⟩
      refine ⟨_, rfl, _, (hS.blk 0 rfl).cell rfl, Calls.mono (NI.of hS 5 rfl hL3 a) ?_⟩
      clear hS
      rintro _ w38 ⟨rfl, hS⟩
      have hS : St [] w w38 [Chunk.blk bt #[.string s, .string oo, .string a] 73, Chunk.blk bw #[.int .i64 q.1, .int .i64 q.2.1, .int .i64 q.2.2] 70, Chunk.blk bh u.cells 29, gC u h, ints (.slice A n c) W, idxC x (IX.of (IX.of (IX.of L s) oo) a), Chunk.blk b1 v.cells 29] := hS
      generalize IX.of (IX.of (IX.of L s) oo) a = L4 at *
      generalize IX.of (IX.of L s) oo = L3 at *
      generalize IX.of L s = L2 at *
      refine ⟨_, rfl, Calls.mono (hS.step0 (decC (c := c) (St.inI hS 4 rfl) (by omega) _ _ _)) ?_⟩
      clear hS
      rintro _ w39 ⟨rfl, hS⟩
      rw [hdec]
      refine ⟨_, _, rfl, ?_⟩
      refine ⟨_, _, _, (hS.blk 6 rfl).cell rfl, _, _, _, (hS.blk 6 rfl).cell rfl, _, _, _, (hS.blk 6 rfl).cell rfl, _, _, _, (hS.blk 6 rfl).cell rfl, _, _, _, (hS.blk 6 rfl).cell rfl, _, _, _, (hS.blk 6 rfl).cell rfl, ?_⟩
      refine ⟨_, (hS.blk 0 rfl).cell rfl, _, (hS.blk 0 rfl).cell rfl, _, (hS.blk 0 rfl).cell rfl, ?_⟩
      refine Calls.mono (hS.step0 (decideC (hv.fr hS.frame) hval s oo a)) ?_
      clear hS
      rintro _ w40 ⟨rfl, hS⟩
      refine ⟨_, rfl, sel_of (fun _ => ?_) (fun h => by simp at h)⟩
      refine ⟨_, _, _, (hS.blk 2 rfl).cell rfl, _, _, _, (hS.blk 2 rfl).cell rfl, _, _, _, (hS.blk 2 rfl).cell rfl, _, _, _, (hS.blk 2 rfl).cell rfl, _, _, _, (hS.blk 2 rfl).cell rfl, _, _, _, (hS.blk 2 rfl).cell rfl, ?_⟩
      refine ⟨_, (hS.blk 0 rfl).cell rfl, _, (hS.blk 0 rfl).cell rfl, _, (hS.blk 0 rfl).cell rfl, ?_⟩
      have hdh := decideC (hS.says 3 rfl) hvh s oo a
      rw [hsame] at hdh
      refine Calls.mono (hS.step0 hdh) ?_
      clear hS hdh
      rintro _ w41 ⟨rfl, hS⟩
      obtain ⟨bp, op, hA, hc⟩ := (St.inI hS 4 rfl).2 (by omega)
      refine ⟨_, rfl, sel_of (fun _ => ⟨by decide, by omega, needPtr_of hA ⟨_, hc 1 (by omega), ?_⟩⟩) (fun h => by simp at h)⟩
      rw [hZ.h1, i64_id (x := 3 * (tOf g : Int)) (by omega) (by omega), i64_id (x := 6 + 3 * (tOf g : Int)) (by omega) (by omega), inc i 100000000 (by decide) (by omega)]
      have hS := hS.sel [2, 3, 4, 5, 6] (by decide) [Chunk.blk bh u.cells 29, gC u h, ints (.slice A n c) W, idxC x L4, Chunk.blk b1 v.cells 29] rfl
      exact ⟨rfl, r - 1, by omega, decide_eq_true hcnt, i + 1, L4, rfl, by omega, hL4, hZ4, hS⟩
  · rintro e w' ⟨v, rfl, rfl, h⟩; exact ⟨rfl, h⟩
end PG
end Go.Proofs.Ytjmlfknogjaemaa
