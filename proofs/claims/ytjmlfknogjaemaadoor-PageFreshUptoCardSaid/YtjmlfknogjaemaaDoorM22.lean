/- Page: what Read is made of: whole, classed, Index, Clone, the comparers. -/
import Derived.Test.YtjmlfknogjaemaaDoorM19
import Derived.Test.YtjmlfknogjaemaaDoorM20
import Derived.Test.YtjmlfknogjaemaaDoorM21
import Derived.Test.YtjmlfknogjaemaaDoorM7
import Derived.Shelf.SlSortCmp.NoneTotal
set_option linter.unusedVariables false
set_option linter.unusedSimpArgs false
set_option maxRecDepth 10000
namespace Go.Proofs.YtjmlfknogjaemaaDoor
open Go Go.Proofs.YtjmlfknogjaemaaDoor.Vc
namespace PG
open Vc.PG NI
def encE (x : Se) : List Value := [.int .i64 x.1, .int .i64 x.2]
abbrev ses (v : Value) (l : List Se) : Chunk := Chunk.lr encE 98 2 v l
theorem under109 : Tryd.prog.underlying 67 = some (.slice 98) := by kernel_rfl
theorem info143 : ∃ i, Tryd.prog.info? 98 = some i ∧ i.zero = some (.agg #[.int .i64 0, .int .i64 0]) ∧ i.size = 2 ∧ i.bytes = 16 := ⟨Tryd.prog.types[98]!, by kernel_rfl, by kernel_rfl, by kernel_rfl, by kernel_rfl⟩
theorem encE1 (a : Se) : ∀ u ∈ encE a, u.oneCell' = true := by intro u hu; simp [encE] at hu; rcases hu with rfl | rfl <;> rfl
theorem isNaN98 (w : World) (x : Int) : Calls Tryd.prog 68 #[.int .i64 x] w fun e w' => e = .returned (.bool false) ∧ w' = w := by
  refine Calls.mono (f68.calls (R := fun v w' => v = .bool false ∧ w' = w) ?_) ?_
  · dsimp only [f68.VC]
    exact ⟨by simp, rfl⟩
  · rintro e w' ⟨v, rfl, rfl, h⟩; exact ⟨rfl, h⟩
def cfI (x y : Int) : Int := if x < y then -1 else if y < x then 1 else 0
theorem cmp91 (w : World) (x y : Int) : Calls Tryd.prog 57 #[.int .i64 x, .int .i64 y] w fun e w' => e = .returned (.int .i64 (cfI x y)) ∧ w' = w := by
  refine Calls.mono (f57.calls (R := fun v w' => v = .int .i64 (cfI x y) ∧ w' = w) ?_) ?_
  · dsimp only [f57.VC]
    refine Calls.mono (isNaN98 w x) ?_
    rintro _ w1 ⟨rfl, rfl⟩
    refine ⟨_, rfl, Calls.mono (isNaN98 w1 y) ?_⟩
    rintro _ w2 ⟨rfl, rfl⟩
    refine ⟨_, rfl, sel_of (fun h => by cases h) (fun _ => sel_of (fun h => by cases h) (fun _ => sel_of (fun h => ?_) (fun h => sel_of (fun h2 => ?_) (fun h2 => ?_))))⟩
    · have := of_decide_eq_true h
      exact ⟨by unfold cfI; rw [if_pos this], rfl⟩
    · have h := of_decide_eq_false h
      have h2 := of_decide_eq_true h2
      exact ⟨by unfold cfI; rw [if_neg h, if_pos h2], rfl⟩
    · have h := of_decide_eq_false h
      have h2 := of_decide_eq_false h2
      exact ⟨by unfold cfI; rw [if_neg h, if_neg h2], rfl⟩
  · rintro e w' ⟨v, rfl, rfl, h⟩; exact ⟨rfl, h⟩
theorem cmp90 (w : World) (x y : Se) : Calls Tryd.prog 56 #[.agg (encE x).toArray, .agg (encE y).toArray] w fun e w' => e = .returned (.int .i64 (cfI x.1 y.1)) ∧ w' = (w.alloc (.cells #[.int .i64 x.1, .int .i64 x.2] 98)).alloc (.cells #[.int .i64 y.1, .int .i64 y.2] 98) := by
  refine Calls.mono (f56.calls (xa0_0 := x.1) (xa0_1 := x.2) (xa1_0 := y.1) (xa1_1 := y.2) (w := w) (R := fun v w' => v = .int .i64 (cfI x.1 y.1) ∧ w' = (w.alloc (.cells #[.int .i64 x.1, .int .i64 x.2] 98)).alloc (.cells #[.int .i64 y.1, .int .i64 y.2] 98)) ?_) ?_
  · dsimp only [f56.VC]
    have hS1 := (St.start w).alloc #[.int .i64 x.1, .int .i64 x.2] 98
    have hS2 := hS1.alloc #[.int .i64 y.1, .int .i64 y.2] 98
    refine ⟨_, (hS2.blk 1 rfl).cell rfl, _, (hS2.blk 0 rfl).cell rfl, ?_⟩
    refine Calls.mono (cmp91 _ _ _) ?_
    rintro _ w1 ⟨rfl, rfl⟩
    exact ⟨_, rfl, rfl, rfl⟩
  · rintro e w' ⟨v, rfl, rfl, h⟩; exact ⟨rfl, h⟩
theorem cmp93 (w : World) (x y : Se) : Calls Tryd.prog 59 #[.agg (encE x).toArray, .agg (encE y).toArray] w fun e w' => e = .returned (.int .i64 (cfI x.2 y.2)) ∧ w' = (w.alloc (.cells #[.int .i64 x.1, .int .i64 x.2] 98)).alloc (.cells #[.int .i64 y.1, .int .i64 y.2] 98) := by
  refine Calls.mono (f59.calls (xa0_0 := x.1) (xa0_1 := x.2) (xa1_0 := y.1) (xa1_1 := y.2) (w := w) (R := fun v w' => v = .int .i64 (cfI x.2 y.2) ∧ w' = (w.alloc (.cells #[.int .i64 x.1, .int .i64 x.2] 98)).alloc (.cells #[.int .i64 y.1, .int .i64 y.2] 98)) ?_) ?_
  · dsimp only [f59.VC]
    have hS1 := (St.start w).alloc #[.int .i64 x.1, .int .i64 x.2] 98
    have hS2 := hS1.alloc #[.int .i64 y.1, .int .i64 y.2] 98
    refine ⟨_, (hS2.blk 1 rfl).cell rfl, _, (hS2.blk 0 rfl).cell rfl, ?_⟩
    refine Calls.mono (cmp91 _ _ _) ?_
    rintro _ w1 ⟨rfl, rfl⟩
    exact ⟨_, rfl, rfl, rfl⟩
  · rintro e w' ⟨v, rfl, rfl, h⟩; exact ⟨rfl, h⟩
theorem St.inI {S : List Nat} {w0 w : World} {L : List Chunk} (h : St S w0 w L) (i : Nat) {A : Option Addr} {n c : Nat} {l : List Int} (hi : L[i]? = some (ints (.slice A n c) l)) : InW w A n l := by
  refine ⟨h.lsLen i hi, fun h0 => ?_⟩
  obtain ⟨g, hg, hc⟩ := h.lsGet 0 i hi h0
  exact ⟨g, 0, hg, fun q hq => by rw [Nat.zero_add]; exact hc q hq⟩
theorem indexI {w : World} {A : Option Addr} {n c : Nat} {l : List Int} (h : InW w A n l) (hn : n ≤ 1000000000) (s : Int) : Calls Tryd.prog 60 #[.slice A n c, .int .i64 s] w fun e w' => e = .returned (.int .i64 (idxI l s)) ∧ w' = w := by
  refine Calls.mono (f60.calls (R := fun v w' => v = .int .i64 (idxI l s) ∧ w' = w) ?_) ?_
  · dsimp only [f60.VC]
    have hl := h.1
    refine ⟨fun x w' r => w' = w ∧ ∃ i : Nat, x = (i : Int) ∧ i + r = n ∧ ∀ a, a < i → l.getD a 0 ≠ s, ⟨n, rfl, 0, rfl, by omega, fun a ha => by omega⟩, ?_⟩
    rintro d x w1 r ⟨rfl, i, rfl, hir, hno⟩
    refine sel_of (fun hd => ?_) (fun hd => ?_)
    · have hi : i < n := by have := of_decide_eq_true hd; omega
      refine ⟨by omega, by omega, InW.need h (Fr.refl _ _) rfl hi (sel_of (fun hs => ?_) (fun hs => ?_))⟩
      · have hs : s = l.getD i 0 := eq_of_beq hs
        exact ⟨by rw [idxI_some 0 (by omega) hno hs.symm], rfl⟩
      · have hs : s ≠ l.getD i 0 := beq_eq_false_iff_ne.1 hs
        rw [inc i n hn (by omega)]
        refine ⟨rfl, r - 1, by omega, rfl, i + 1, rfl, by omega, fun a ha => ?_⟩
        rcases Nat.lt_or_ge a i with h1 | h1
        · exact hno a h1
        · have : a = i := by omega
          subst this; exact fun h => hs h.symm
    · have hi : i = n := by have := of_decide_eq_false hd; omega
      exact ⟨by rw [idxI_none 0 fun q hq => hno q (by omega)], rfl⟩
  · rintro e w' ⟨v, rfl, rfl, h⟩; exact ⟨rfl, h⟩
theorem wholeC {w : World} {A : Option Addr} {n c : Nat} {l : List Int} (h : InW w A n l) (hn : n ≤ 1000000000) (s : Int) : Calls Tryd.prog 42 #[.slice A n c, .int .i64 s] w fun e w' => e = .returned (.bool (wholeB l s)) ∧ w' = w := by
  refine Calls.mono (f42.calls (R := fun v w' => v = .bool (wholeB l s) ∧ w' = w) ?_) ?_
  · dsimp only [f42.VC]
    have hl := h.1
    have hno : ∀ i, i < n → ¬ (1 ≤ l.getD i 0 ∧ l.getD i 0 ≤ s) → wholeB l s = false := by
      intro i hi hh
      unfold wholeB
      rw [Bool.and_eq_false_iff]
      left
      rw [Bool.eq_false_iff]
      intro hall
      rw [List.all_eq_true] at hall
      have hm : l.getD i 0 ∈ l := by
        rw [List.getD_eq_getElem?_getD, List.getElem?_eq_getElem (by omega)]; exact List.getElem_mem _
      exact hh (of_decide_eq_true (hall _ hm))
    refine ⟨fun x w' r => w' = w ∧ ∃ i : Nat, x = (i : Int) ∧ i + r = n ∧ ∀ a, a < i → 1 ≤ l.getD a 0 ∧ l.getD a 0 ≤ s, ⟨n, rfl, 0, rfl, by omega, fun a ha => by omega⟩, ?_⟩
    rintro d x w1 r ⟨rfl, i, rfl, hir, hyes⟩
    refine sel_of (fun hd => ?_) (fun hd => ?_)
    · have hi : i < n := by have := of_decide_eq_true hd; omega
      refine ⟨by omega, by omega, InW.need h (Fr.refl _ _) rfl hi (sel_of (fun hs => ?_) (fun hs => sel_of (fun hs2 => ?_) (fun hs2 => ?_)))⟩
      · have hs := of_decide_eq_true hs
        exact ⟨by rw [hno i hi (by omega)], rfl⟩
      · have hs2 := of_decide_eq_true hs2
        exact ⟨by rw [hno i hi (by omega)], rfl⟩
      · have hs := of_decide_eq_false hs
        have hs2 := of_decide_eq_false hs2
        rw [inc i n hn (by omega)]
        refine ⟨rfl, r - 1, by omega, rfl, i + 1, rfl, by omega, fun a ha => ?_⟩
        rcases Nat.lt_or_ge a i with h1 | h1
        · exact hyes a h1
        · have : a = i := by omega
          subst this; omega
    · have hi : i = n := by have := of_decide_eq_false hd; omega
      refine ⟨?_, rfl⟩
      have hall : (l.all fun k => decide (1 ≤ k ∧ k ≤ s)) = true := by
        rw [List.all_eq_true]
        intro x hx
        obtain ⟨q, hq, rfl⟩ := (mem_getD 0 _ _).1 hx
        exact decide_eq_true (hyes q (by omega))
      unfold wholeB
      rw [hall, Bool.true_and, hl]
      congr 1
  · rintro e w' ⟨v, rfl, rfl, h⟩; exact ⟨rfl, h⟩
/-- Seats that are read. -/
def InE (w : World) (A : Option Addr) (n : Nat) (l : List Se) : Prop := n = l.length ∧ (0 < n → ∃ b o, A = some ⟨b, o, none⟩ ∧ ∀ i, i < n → w.cell? ⟨b, o + i * 2, none⟩ = some (.int .i64 (l.getD i se0).1) ∧ w.cell? ⟨b, o + i * 2 + 1, none⟩ = some (.int .i64 (l.getD i se0).2))
theorem InE.fr {w w' : World} {A : Option Addr} {n : Nat} {l : List Se} (h : InE w A n l) (hf : Fr [] w w') : InE w' A n l := by
  refine ⟨h.1, fun hn => ?_⟩
  obtain ⟨b, o, rfl, h2⟩ := h.2 hn
  exact ⟨b, o, rfl, fun i hi => ⟨hf.cell (h2 i hi).1, hf.cell (h2 i hi).2⟩⟩
theorem St.inE {S : List Nat} {w0 w : World} {L : List Chunk} (h : St S w0 w L) (i : Nat) {A : Option Addr} {n c : Nat} {l : List Se} (hi : L[i]? = some (ses (.slice A n c) l)) : InE w A n l := by
  refine ⟨h.lrLen i hi, fun h0 => ?_⟩
  obtain ⟨g, hg, hc⟩ := h.lrGet se0 i hi h0
  refine ⟨g, 0, hg, fun q hq => ⟨?_, ?_⟩⟩
  · have := hc q hq 0 _ (by decide) rfl
    rw [Nat.zero_add]; exact this
  · have := hc q hq 1 _ (by decide) rfl
    rw [Nat.zero_add]; exact this
theorem cloneC {S : List Nat} {w0 w : World} {L : List Chunk} (h : St S w0 w L) {A : Option Addr} {n c : Nat} {l : List Se} (hI : InE w A n l) (hn : n ≤ 4000000) (hA : n = 0 → A = none) :
    Calls Tryd.prog 58 #[.slice A n c] w fun e w' => ∃ A' c', e = .returned (.slice A' l.length c') ∧ St S w0 w' (ses (.slice A' l.length c') l :: L) := by
  refine Calls.mono (f58.calls (R := fun v w' => ∃ A' c', v = .slice A' l.length c' ∧ St S w0 w' (ses (.slice A' l.length c') l :: L)) ?_) ?_
  · dsimp only [f58.VC]
    have hl := hI.1
    refine sel_of (fun h1 => ?_) (fun h1 => ?_)
    · have hA2 : A = none := by cases A <;> simp at h1 ⊢
      have hn0 : l.length = 0 := by
        rcases Nat.eq_zero_or_pos n with h0 | h0
        · omega
        · obtain ⟨b, o, h2, _⟩ := hI.2 h0
          rw [hA2] at h2; cases h2
      have hl0 : l = [] := List.eq_nil_of_length_eq_zero hn0
      subst hl0
      exact ⟨none, 0, rfl, h.nil 98 2⟩
    · have hS := h.alloc #[] 98
      have hS2 := hS.as 0 rfl (ses (.slice (some ⟨w.heap.size, 0, none⟩) 0 0) []) (fun F hF => by
        obtain ⟨rfl, h1⟩ := hF
        exact .inr ⟨w.heap.size, 0, rfl, rfl, #[], h1, rfl, by simp, by simp [maxLen], by simp, by intro i hi; simp at hi⟩)
      have hI2 := hI.fr ((Fr.refl [] w).alloc (cs := #[]) (T := 98))
      obtain ⟨ti, i1, i2, i3, i4⟩ := info143
      obtain ⟨A', n', c', w', r1, hS3⟩ := St.appManyR (t := 67) (ty := 67) (enc := encE) (s := 2) se0 (by decide) (fun a => rfl) encE1 under109 i1 i2 i3 rfl (by omega) hS2 0 rfl (A2 := A) (n2 := n) (c2 := c) (k := l) hl (fun h0 => by
        obtain ⟨b, o, rfl, hc⟩ := hI2.2 h0
        refine ⟨b, o, rfl, fun q hq j x hj hx => ?_⟩
        obtain ⟨c1, c2⟩ := hc q hq
        match j, hj with
        | 0, _ => simp [encE] at hx; subst hx; simpa using c1
        | 1, _ => simp [encE] at hx; subst hx; rw [← Nat.add_assoc]; exact c2) (by simp; omega)
      rw [List.nil_append] at hS3
      have en := hS3.lrLen 0 rfl
      subst en
      exact ⟨_, _, _, _, r1, _, _, rfl, hS3⟩
  · rintro e w' ⟨v, rfl, A', c', rfl, h⟩; exact ⟨A', c', rfl, h⟩
theorem atE {w : World} {x : Nat} {l : List ByteArray} (h : IdxAt w x l) (hl : l.length ≤ 1048576) (n : Int) : Calls Tryd.prog 53 #[.pointer (some ⟨x, 0, none⟩), .int .i64 n] w fun e w' => e = .returned (.tuple #[.string (thing l n).1, .bool (thing l n).2]) ∧ w' = w := by
  obtain ⟨F, hF⟩ := h
  obtain ⟨y, hS⟩ := openI (St.start1 hF)
  have hn := hS.slLen 2 rfl
  rw [List.length_map] at hn
  refine Calls.mono (f53.calls (R := fun v w' => v = .tuple #[.string (thing l n).1, .bool (thing l n).2] ∧ w' = w) ?_) ?_
  · dsimp only [f53.VC]
    refine sel_of (fun h1 => ?_) (fun h1 => ⟨_, _, _, (hS.blk 0 rfl).cell rfl, sel_of (fun h2 => ?_) (fun h2 => ?_)⟩)
    · have h1 : n < 1 := of_decide_eq_true h1
      exact ⟨by unfold thing; rw [if_pos (.inl h1)], rfl⟩
    · have h2 : (y.2.2.1 : Int) < n := of_decide_eq_true h2
      exact ⟨by unfold thing; rw [if_pos (.inr (by omega))], rfl⟩
    · have h1 : ¬ n < 1 := of_decide_eq_false h1
      have h2 : ¬ (y.2.2.1 : Int) < n := of_decide_eq_false h2
      have e : IntKind.i64.wrap (n - 1) = n - 1 := i64_id (by omega) (by omega)
      rw [e]
      obtain ⟨g, hg, hc⟩ := hS.slGet 2 rfl (by simp; omega)
      have hj : (n - 1).toNat < l.length := by omega
      have e2 : thing l n = (l.getD (n - 1).toNat ⟨#[]⟩, true) := by unfold thing; rw [if_neg (by omega)]
      have hb1 : (0 : Int) ≤ n - 1 := by omega
      have hb2 : n - 1 < (y.2.2.1 : Int) := by omega
      generalize (n - 1).toNat = q at *
      have := hc q 0 (.string (l.getD q ⟨#[]⟩)) (by simpa using hj) (by decide) (by simp [List.getD_eq_getElem?_getD, hj])
      refine ⟨_, _, _, (hS.blk 0 rfl).cell rfl, hb1, hb2, needPtr_of hg ⟨_, by rw [show 0 + q * 1 = q * 1 + 0 by omega]; exact this, ?_, rfl⟩⟩
      rw [e2]
  · rintro e w' ⟨v, rfl, rfl, rfl⟩; exact ⟨rfl, rfl⟩
theorem atE0 {w : World} {x : Nat} {l : List ByteArray} (h : IdxAt w x l) (hl : l.length ≤ 1048576) (n : Int) : Calls Tryd.prog 53 #[.pointer (some ⟨x, 0, none⟩), .int .i64 n] w fun e w' => e = .returned (.tuple #[.string (thing l n).1, .bool (thing l n).2]) ∧ Fr [] w w' := by
  refine Calls.mono (atE h hl n) ?_
  rintro e w' ⟨rfl, rfl⟩; exact ⟨rfl, Fr.refl _ _⟩
end PG
end Go.Proofs.YtjmlfknogjaemaaDoor
/- slices.SortFunc on seats: it stands by a key. -/
set_option linter.unusedVariables false
set_option linter.unusedSimpArgs false
set_option maxRecDepth 10000
namespace Go.Proofs.YtjmlfknogjaemaaDoor
open Go Go.Sort Go.Shelf Go.RowKit Go.Proofs.YtjmlfknogjaemaaDoor.Vc
namespace PG
open Vc.PG NI
theorem ltS (key : Se → Int) (x y : Se) : ltOf (fun x y => cfI (key x) (key y)) x y = decide (key x < key y) := by
  unfold ltOf cfI
  by_cases h : key x < key y
  · simp [h]
  · by_cases h2 : key y < key x <;> simp [h, h2]
theorem swoS (key : Se → Int) : SWO (ltOf fun x y => cfI (key x) (key y)) where
  irrefl x := by rw [ltS]; simp
  trans x y z h1 h2 := by rw [ltS] at *; simp at *; omega
  ntrans x y z h1 h2 := by rw [ltS] at *; simp at *; omega
theorem agg143 : ∀ w, (isAgg 98).run Tryd.prog w = .ok true w := fun w => by kernel_rfl
theorem size143 : ∀ w, (Go.sizeOf 98).run Tryd.prog w = .ok 2 w := fun w => by kernel_rfl
theorem enters90 : ∀ args w, (callFunc 56 args).run Tryd.prog w = .ok (.enter 56 args) w := enters_of Tryd.func56 (by kernel_rfl) rfl
theorem enters93 : ∀ args w, (callFunc 59 args).run Tryd.prog w = .ok (.enter 59 args) w := enters_of Tryd.func59 (by kernel_rfl) rfl
theorem frozen_plain {w : World} {b : Nat} {cs : Array Value} {T : TypeId} (h : Blk w b cs T) (i : Nat) : w.frozen? ⟨b, i, none⟩ = false := by
  unfold Blk at h
  unfold World.frozen?
  rw [h]; simp
theorem flat_getE (d : Array Se) {i j : Nat} (hi : i < d.size) (hj : j < 2) : (flatK encE 2 d)[i * 2 + j]! = (encE d[i]!)[j]! := by
  have h1 : i * 2 + j < d.size * 2 := by omega
  rw [get_flatK _ _ _ _ h1]
  have e1 : (i * 2 + j) / 2 = i := by omega
  have e2 : (i * 2 + j) % 2 = j := by omega
  rw [e1, e2]
/-- The sort's world, seen as a list laid anew. -/
theorem sorted_row {w : World} {g cap m : Nat} {d d' : Array Se} {os : Array Obj} (hs : d'.size = d.size) (hR : Row w 98 2 g cap (d.toList.map encE)) :
    Row (sortWorldK encE 2 w g 0 m d' os) 98 2 g cap (d'.toList.map encE) ∧ Fr [g] w (sortWorldK encE 2 w g 0 m d' os) := by
  obtain ⟨cur, hB, hcs, hnc, hcm, hl, hget⟩ := hR
  have hg := hB.lt
  simp only [List.length_map, Array.length_toList] at hnc
  have hheap : ∀ k, k < w.heap.size → (sortWorldK encE 2 w g 0 m d' os).heap[k]? = if k = g then some (.cells (putCells id 0 (flatK encE 2 d') cur) 98 (0, 0)) else w.heap[k]? := by
    intro k hk
    unfold Blk at hB
    have hm : ∀ f : Obj → Obj, (w.heap.modify g f).size = w.heap.size := by simp
    simp only [sortWorldK, putRowK, putRow, mapBlock, grow, Sort.ahead]
    rw [Array.getElem?_append_left (by rw [hm]; exact hk), Array.getElem?_modify]
    by_cases h : g = k
    · subst h
      rw [if_pos rfl, if_pos rfl, hB]; rfl
    · rw [if_neg h, if_neg (Ne.symm h)]
  have hsize : w.heap.size ≤ (sortWorldK encE 2 w g 0 m d' os).heap.size := by
    simp [sortWorldK, putRowK, putRow, mapBlock, grow, Sort.ahead]
  refine ⟨⟨putCells id 0 (flatK encE 2 d') cur, ?_, ?_, ?_, hcm, ?_, ?_⟩, ⟨hsize, ?_, rfl, rfl, ?_⟩⟩
  · unfold Blk
    rw [hheap g hg, if_pos rfl]
  · simp [putCells, hcs]
  · simp [hs]; omega
  · intro r hr
    obtain ⟨x, _, rfl⟩ := List.mem_map.1 hr
    rfl
  · intro i hi j hj
    simp only [List.length_map, Array.length_toList] at hi
    have h3 : i * 2 + j < d'.size * 2 := by omega
    have hc : i * 2 + j < cur.size := by omega
    simp only [putCells, Array.getElem?_mapIdx, Array.getElem?_eq_getElem hc, Option.map_some]
    rw [if_pos (by simp; omega), Nat.sub_zero, flat_getE d' hi hj]
    have e : (d'.toList.map encE).getD i [] = encE d'[i]! := by
      simp [List.getD_eq_getElem?_getD, hi, getElem!_pos]
    rw [e]
    have hjl : j < (encE d'[i]!).length := hj
    simp [getElem!_pos, hjl]
  · intro b hb hS
    have hne : b ≠ g := by simpa using hS
    rw [hheap b hb, if_neg hne]
  · intro a ha
    unfold World.frozen?
    rw [hheap a.block ha]
    by_cases h : a.block = g
    · unfold Blk at hB
      rw [if_pos h, h, hB]
    · rw [if_neg h]
theorem perm_sorted (key : Se → Int) {d d' : Array Se} (hp : PermIn 0 d.size d d') (hs : SortedIn (ltOf fun x y => cfI (key x) (key y)) 0 d.size d') : d'.toList.Perm d.toList ∧ d'.toList.Pairwise (fun x y => key x ≤ key y) := by
  obtain ⟨h1, _, h3⟩ := hp
  constructor
  · have e1 : d'.extract 0 d.size = d' := by rw [← h1]; simp
    have e2 : d.extract 0 d.size = d := by simp
    rw [e1, e2] at h3
    exact h3
  · rw [List.pairwise_iff_getElem]
    intro i j hi hj hij
    have h5 := hs i j (Nat.zero_le _) hij (by rw [← h1]; simpa using hj)
    rw [ltS] at h5
    simp only [Array.length_toList] at hi hj
    rw [getElem!_pos d' i hi, getElem!_pos d' j hj] at h5
    simp only [Array.getElem_toList]
    simpa using h5
theorem sortS (key : Se → Int) (f : Nat) (ent : ∀ args w, (callFunc f args).run Tryd.prog w = .ok (.enter f args) w)
    (hcmp : ∀ (w : World) (x y : Se), Calls Tryd.prog f #[.agg (encE x).toArray, .agg (encE y).toArray] w fun e w' => e = .returned (.int .i64 (cfI (key x) (key y))) ∧ w' = (w.alloc (.cells #[.int .i64 x.1, .int .i64 x.2] 98)).alloc (.cells #[.int .i64 y.1, .int .i64 y.2] 98))
    {S : List Nat} {w0 w : World} {L : List Chunk} (h : St S w0 w L) (i : Nat) {A : Option Addr} {n c : Nat} {l : List Se} (hi : L[i]? = some (ses (.slice A n c) l)) (hn : n ≤ 4000000000) :
    Calls Tryd.prog 55 #[.slice A n c, .func (.func f) #[] #[]] w fun e w' => e = .returned (.tuple #[]) ∧ ∃ l', l'.Perm l ∧ l'.Pairwise (fun x y => key x ≤ key y) ∧ St S w0 w' (L.set i (ses (.slice A n c) l')) := by
  obtain ⟨F, k1, _, k3⟩ := h.at i hi
  have hil : i < L.length := (List.getElem?_eq_some_iff.1 hi).1
  rcases Nat.eq_zero_or_pos n with h0 | h0
  · subst h0
    have hnone := Go.Proofs.AnyF.slices_SortFunc_none Lay.sortS A c (.func (.func f) #[] #[]) w
    change Calls Tryd.prog 55 _ _ _ at hnone
    refine Calls.mono hnone ?_
    rintro e w' ⟨rfl, rfl⟩
    have hl := h.lrLen i hi
    have hl0 : l = [] := List.eq_nil_of_length_eq_zero hl.symm
    subst hl0
    have e : L.set i (ses (.slice A 0 c) []) = L := by
      apply List.ext_getElem?
      intro q
      by_cases hq : q = i
      · subst hq; rw [List.getElem?_set_self hil, hi]
      · rw [List.getElem?_set_ne (Ne.symm hq)]
    exact ⟨rfl, [], List.Perm.refl _, List.Pairwise.nil, by rw [e]; exact h⟩
  rcases k1 with ⟨h1, h2, _⟩ | ⟨g, cap, h1, rfl, hR⟩
  · simp only [Value.slice.injEq] at h1; omega
  · simp only [Value.slice.injEq] at h1
    obtain ⟨rfl, rfl, rfl⟩ := h1
    rw [List.length_map] at *
    obtain ⟨d, rfl⟩ : ∃ d : Array Se, d.toList = l := ⟨l.toArray, rfl⟩
    have hH : HoldsK encE 2 w g 0 d := by
      intro t ht
      rw [size_flatK] at ht
      obtain ⟨cur, hB, hcs, hnc, hcm, hl', hget⟩ := hR
      refine ⟨?_, frozen_plain hB _⟩
      have e := hget (t / 2) (by simp; omega) (t % 2) (Nat.mod_lt _ (by decide))
      rw [show t / 2 * 2 + t % 2 = t by omega] at e
      rw [Nat.zero_add]
      refine hB.cell ?_
      rw [e]
      have hi : t / 2 < d.size := by omega
      have e2 : (d.toList.map encE).getD (t / 2) [] = encE d[t / 2]! := by
        simp [List.getD_eq_getElem?_getD, hi, getElem!_pos]
      have e3 : t % 2 < (encE d[t / 2]!).length := Nat.mod_lt _ (by decide)
      rw [e2, get_flatK _ _ _ _ ht]
      simp [getElem!_pos, e3]
    have hg : g < w.heap.size := hR.lt
    have hcon := Go.Proofs.AnyQ.slices_SortFunc Lay.sortS 2 agg143 size143 encE (fun _ => rfl) encE1 (fun x y => cfI (key x) (key y)) (swoS key) f #[] g 0 c d w ent (fun m os dk hs x y => by
      generalize sortWorldK encE 2 w g 0 m dk os = W
      refine Calls.mono (hcmp W x y) ?_
      rintro e w' ⟨rfl, rfl⟩
      exact ⟨rfl, 0, _, by rw [alloc_eq_grow, alloc_eq_grow, grow_grow]; rfl⟩) hH hg (by simp at hn; omega)
    change Calls Tryd.prog 55 _ _ _ at hcon
    have e : d.toList.length = d.size := by simp
    rw [e]
    refine Calls.mono hcon ?_
    rintro e w' ⟨rfl, d', m, os, hp', hs', rfl⟩
    obtain ⟨r1, r2⟩ := sorted_row (m := m) (os := os) hp'.1 hR
    obtain ⟨q1, q2⟩ := perm_sorted key hp' hs'
    refine ⟨rfl, d'.toList, q1, q2, k3 (F' := [g]) r2 (.inr ⟨g, c, ?_, rfl, r1⟩) (fun x hx => .inl hx)⟩
    rw [List.length_map, q1.length_eq, e]
end PG
end Go.Proofs.YtjmlfknogjaemaaDoor
/- Page: classed. -/
set_option linter.unusedVariables false
set_option linter.unusedSimpArgs false
set_option maxRecDepth 10000
namespace Go.Proofs.YtjmlfknogjaemaaDoor
open Go Go.Proofs.YtjmlfknogjaemaaDoor.Vc
namespace PG
open Vc.PG NI
theorem namedP_snoc (l : List ByteArray) (s : List Se) (p : Se) : namedP l (s ++ [p]) = namedStep l (namedP l s) p := by
  unfold namedP; rw [List.foldl_append]; rfl
theorem namedGo_len (l : List ByteArray) : ∀ (s : List Se) (t : List ByteArray × List Int × List Int), (s.foldl (namedStep l) t).1.length = t.1.length + s.length ∧ (s.foldl (namedStep l) t).2.1.length = t.2.1.length + s.length ∧ (s.foldl (namedStep l) t).2.2.length ≤ t.2.2.length + s.length
  | [], t => by simp
  | p :: s, t => by
    rw [List.foldl_cons]
    obtain ⟨h1, h2, h3⟩ := namedGo_len l s (namedStep l t p)
    have e1 : (namedStep l t p).1.length = t.1.length + 1 := by unfold namedStep; split <;> simp
    have e2 : (namedStep l t p).2.1.length = t.2.1.length + 1 := by unfold namedStep; split <;> simp
    have e3 : (namedStep l t p).2.2.length ≤ t.2.2.length + 1 := by unfold namedStep; split <;> simp
    simp only [List.length_cons]
    omega
theorem namedP_len (l : List ByteArray) (s : List Se) : (namedP l s).1.length = s.length ∧ (namedP l s).2.1.length = s.length ∧ (namedP l s).2.2.length ≤ s.length := by
  have := namedGo_len l s ([], [], [])
  simpa [namedP] using this
theorem appX {S : List Nat} {w0 w : World} {L : List Chunk} (h : St S w0 w L) (i : Nat) {A : Option Addr} {n c : Nat} {l : List ByteArray} (hi : L[i]? = some (txs (.slice A n c) l)) (a : ByteArray) (hl : l.length ≤ 4000000) :
    ∃ A' n' c' w', (Builtin.append_ #[27, 27] 27 #[.slice A n c, .slice (some ⟨w.heap.size, 0, Option.none⟩) 1 1]).run Tryd.prog (World.alloc w (.cells #[.string a] 9)) = .ok (.slice A' n' c') w' ∧ St S w0 w' (L.set i (txs (.slice A' n' c') (l ++ [a]))) := by
  obtain ⟨ti, i1, i2, i3, i4⟩ := info9
  obtain ⟨g', cap', w', h1, h2⟩ := h.app (enc := encS) (P := Tryd.prog) (t := 27) (ty := 27) (fun _ => rfl) under25 i1 i2 i3 rfl (by omega) i hi a (by omega)
  exact ⟨_, _, _, w', h1, h2⟩
theorem classedC {S : List Nat} {w0 w : World} {K : List Chunk} (h : St S w0 w K) (j : Nat) {A : Option Addr} {n c : Nat} {a : List Se} (hj : K[j]? = some (ses (.slice A n c) a)) {x : Nat} {l : List ByteArray} (hX : ∀ w', Fr S w0 w' → IdxAt w' x l) (hl : l.length ≤ 1048576) (hn : n ≤ 1000000) :
    Calls Tryd.prog 41 #[.slice A n c, .pointer (some ⟨x, 0, none⟩)] w fun e w' => ∃ X Y Z : Sl, e = .returned (.tuple #[X.v, Y.v, Z.v]) ∧ St S w0 w' (txs X.v (namedP l a).1 :: ints Y.v (namedP l a).2.1 :: ints Z.v (namedP l a).2.2 :: K) := by
  refine Calls.mono (f41.calls (R := fun v w' => ∃ X Y Z : Sl, v = .tuple #[X.v, Y.v, Z.v] ∧ St S w0 w' (txs X.v (namedP l a).1 :: ints Y.v (namedP l a).2.1 :: ints Z.v (namedP l a).2.2 :: K)) ?_) ?_
  · dsimp only [f41.VC]
    have hal : n = a.length := h.lrLen j hj
    refine ⟨fun A7 n7 c7 A8 n8 c8 A9 n9 c9 z w' r => ∃ i : Nat, z = (i : Int) ∧ i + r = n ∧ St S w0 w' (txs (.slice A7 n7 c7) (namedP l (a.take i)).1 :: ints (.slice A8 n8 c8) (namedP l (a.take i)).2.1 :: ints (.slice A9 n9 c9) (namedP l (a.take i)).2.2 :: K), ⟨n, 0, rfl, by omega, ((h.nil 3 1).nil 3 1).nil 9 1⟩, ?_⟩
    rintro d A7 n7 c7 A8 n8 c8 A9 n9 c9 z w1 r ⟨i, rfl, hir, hS⟩
    refine sel_of (fun hd => ?_) (fun hd => ?_)
    · have hi : i < n := by have := of_decide_eq_true hd; omega
      have hE := St.inE hS (j + 3) (by simpa using hj)
      obtain ⟨b, o, rfl, hc⟩ := hE.2 (by omega)
      obtain ⟨c1, c2⟩ := hc i hi
      have hs := take_snoc se0 a i (by omega)
      have hlens := namedP_len l (a.take i)
      rw [List.length_take] at hlens
      have hstep := namedP_snoc l (a.take i) (a.getD i se0)
      rw [← hs] at hstep
      generalize namedP l (a.take i) = t at *
      have hS1 := hS.alloc #[.int .i64 0, .int .i64 0] 98
      have hS2 := hS1.over 0 rfl [.int .i64 (a.getD i se0).1, .int .i64 (a.getD i se0).2] rfl
      refine ⟨by omega, by omega, needPtr_of rfl ⟨_, by rw [Int.toNat_natCast]; exact c1, _, by rw [Int.toNat_natCast]; exact c2, (hS1.blk 0 rfl).can (by decide), _, (hS2.blk 0 rfl).cell rfl, ?_⟩⟩
      refine Calls.mono (hS2.step0 (atE0 (hX _ hS2.frame) hl _)) ?_
      rintro _ w2 ⟨rfl, hS3⟩
      obtain ⟨A', n', c', w3, r3, hS4⟩ := appX hS3 1 rfl (thing l (a.getD i se0).1).1 (by omega)
      refine ⟨_, _, rfl, _, _, _, w3, r3, _, (hS4.blk 0 rfl).cell rfl, ?_⟩
      have h9 := hS4.lsLen 3 rfl
      refine Calls.mono (indexI (St.inI hS4 3 rfl) (by omega) _) ?_
      rintro _ w4 ⟨rfl, rfl⟩
      have e9 : IntKind.i64.wrap ((n9 : Int) + 1) = ((t.2.2.length + 1 : Nat) : Int) := by rw [i64_id (by omega) (by omega)]; omega
      have er : IntKind.i64.wrap ((i : Int) + 1) = ((i + 1 : Nat) : Int) := inc i n (by omega) (by omega)
      refine ⟨_, rfl, sel_of (fun hx => ?_) (fun hx => ?_)⟩
      · have hx : idxI t.2.2 (a.getD i se0).2 < 0 := of_decide_eq_true hx
        obtain ⟨A5, n5, c5, w5, r5, hS5⟩ := appI hS4 3 rfl (a.getD i se0).2 (by omega)
        obtain ⟨A6, n6, c6, w6, r6, hS6⟩ := appI hS5 2 rfl ((t.2.2.length + 1 : Nat) : Int) (by omega)
        rw [e9, er]
        refine ⟨_, (hS4.blk 0 rfl).cell rfl, _, _, _, w5, r5, _, _, _, w6, r6, rfl, r - 1, by omega, i + 1, rfl, by omega, ?_⟩
        rw [hstep]
        unfold namedStep
        rw [if_pos hx]
        exact hS6.tail
      · have hx : ¬ idxI t.2.2 (a.getD i se0).2 < 0 := of_decide_eq_false hx
        have hle : idxI t.2.2 (a.getD i se0).2 < 4000000 := by
          unfold idxI
          split
          · rename_i k hk
            have := (List.findIdx?_eq_some_iff_getElem.1 hk).1
            omega
          · omega
        obtain ⟨A6, n6, c6, w6, r6, hS6⟩ := appI hS4 2 rfl (idxI t.2.2 (a.getD i se0).2 + 1) (by omega)
        rw [i64_id (x := idxI _ _ + 1) (by omega) (by omega), er]
        refine ⟨_, _, _, w6, r6, rfl, r - 1, by omega, i + 1, rfl, by omega, ?_⟩
        rw [hstep]
        unfold namedStep
        rw [if_neg hx]
        exact hS6.tail
    · have hi : i = n := by have := of_decide_eq_false hd; omega
      rw [List.take_of_length_le (by omega)] at hS
      exact ⟨(A7, n7, c7), (A8, n8, c8), (A9, n9, c9), rfl, hS⟩
  · rintro e w' ⟨v, rfl, X, Y, Z, rfl, h⟩; exact ⟨X, Y, Z, rfl, h⟩
end PG
end Go.Proofs.YtjmlfknogjaemaaDoor
/- Page: listed. -/
set_option linter.unusedVariables false
set_option linter.unusedSimpArgs false
set_option maxRecDepth 10000
namespace Go.Proofs.YtjmlfknogjaemaaDoor
open Go Go.Proofs.YtjmlfknogjaemaaDoor.Vc
namespace PG
open Vc.PG NI
theorem perm_of_sub {α : Type} [DecidableEq α] : ∀ {l m : List α}, l.Nodup → (∀ x ∈ l, x ∈ m) → l.length = m.length → l.Perm m
  | [], m, _, _, h => by
    have : m = [] := List.eq_nil_of_length_eq_zero h.symm
    subst this; exact List.Perm.refl _
  | k :: l, m, hn, hs, h => by
    obtain ⟨h1, h2⟩ := List.nodup_cons.1 hn
    have hk : k ∈ m := hs k List.mem_cons_self
    have hp := List.perm_cons_erase hk
    have hl := hp.length_eq
    simp only [List.length_cons] at hl h
    refine (List.Perm.cons k (perm_of_sub h2 (fun x hx => ?_) (by omega))).trans hp.symm
    have hne : x ≠ k := fun e => h1 (e ▸ hx)
    exact (List.mem_erase_of_ne hne).2 (hs x (List.mem_cons_of_mem _ hx))
theorem rise_int : ∀ {l l' : List Int}, l.Perm l' → l.Pairwise (· ≤ ·) → l'.Pairwise (· < ·) → l = l'
  | [], l', p, _, _ => p.nil_eq
  | x :: l, [], p, _, _ => absurd p.length_eq (by simp)
  | x :: l, y :: l', p, h, k => by
    obtain ⟨h1, h2⟩ := List.pairwise_cons.1 h
    obtain ⟨k1, k2⟩ := List.pairwise_cons.1 k
    have hxy : x = y := by
      have hx : x ∈ y :: l' := p.mem_iff.1 (by simp)
      have hy : y ∈ x :: l := p.mem_iff.2 (by simp)
      rcases List.mem_cons.1 hx with hx | hx
      · exact hx
      · rcases List.mem_cons.1 hy with hy | hy
        · exact hy.symm
        · have := k1 x hx; have := h1 y hy; omega
    subst hxy
    rw [rise_int ((List.perm_cons x).1 p) h2 k2]
theorem seatOf_some {a : List Se} {k : Int} {p : Se} (h : seatOf a k = some p) : p ∈ a ∧ p.2 = k := by
  unfold seatOf at h
  have h2 := List.find?_some h
  exact ⟨List.mem_of_find?_eq_some h, by simpa using h2⟩
theorem seatOf_isSome {a : List Se} {k : Int} : (seatOf a k).isSome = true ↔ ∃ p ∈ a, p.2 = k := by
  unfold seatOf
  rw [List.find?_isSome]
  simp
theorem listed_iff {a m : List Se} (hp : m.Perm a) (hs : m.Pairwise (fun x y => x.2 ≤ y.2)) : listedB a = true ↔ ∀ i, i < m.length → (m.getD i se0).2 = ((i + 1 : Nat) : Int) := by
  have hl := hp.length_eq
  constructor
  · intro h
    unfold listedB at h
    rw [List.all_eq_true] at h
    have hper : ((List.range m.length).map fun i => ((i + 1 : Nat) : Int)).Perm (m.map (·.2)) := by
      refine perm_of_sub ?_ ?_ (by simp)
      · rw [List.Nodup, List.pairwise_map]
        exact List.Pairwise.imp (fun hab => by omega) List.nodup_range
      · intro x hx
        obtain ⟨i, hi, rfl⟩ := List.mem_map.1 hx
        rw [List.mem_range, hl] at hi
        obtain ⟨p, hpa, hpe⟩ := seatOf_isSome.1 (h i (List.mem_range.2 hi))
        rw [← hpe]
        exact List.mem_map.2 ⟨p, hp.mem_iff.2 hpa, rfl⟩
    have he := rise_int hper.symm (by rw [List.pairwise_map]; exact hs) (by rw [List.pairwise_map]; exact List.Pairwise.imp (fun hab => by omega) List.pairwise_lt_range)
    intro i hi
    have := congrArg (fun l => l[i]?) he
    simp only [List.getElem?_map, List.getElem?_range hi, Option.map_some, List.getElem?_eq_getElem hi] at this
    rw [List.getD_eq_getElem?_getD, List.getElem?_eq_getElem hi]
    simpa using this
  · intro h
    unfold listedB
    rw [List.all_eq_true]
    intro i hi
    rw [List.mem_range, ← hl] at hi
    refine seatOf_isSome.2 ⟨m.getD i se0, hp.mem_iff.1 ?_, h i hi⟩
    rw [List.getD_eq_getElem?_getD, List.getElem?_eq_getElem hi]; exact List.getElem_mem _
theorem listedP_eq (l : List ByteArray) {a m : List Se} (hp : m.Perm a) (h : ∀ i, i < m.length → (m.getD i se0).2 = ((i + 1 : Nat) : Int)) : listedP l a = m.map fun s => (thing l s.1).1 := by
  have hl := hp.length_eq
  unfold listedP
  apply List.ext_getElem (by simp [hl])
  intro i h1 h2
  simp only [List.length_map, List.length_range] at h1
  simp only [List.getElem_map, List.getElem_range]
  have hi : i < m.length := by omega
  have e1 : m[i] = m.getD i se0 := by rw [List.getD_eq_getElem?_getD, List.getElem?_eq_getElem hi]; rfl
  have hsome : (seatOf a ((i + 1 : Nat) : Int)).isSome = true := seatOf_isSome.2 ⟨m[i], hp.mem_iff.1 (List.getElem_mem _), by rw [e1]; exact h i hi⟩
  obtain ⟨p, hpp⟩ := Option.isSome_iff_exists.1 hsome
  obtain ⟨p1, p2⟩ := seatOf_some hpp
  obtain ⟨j, hj, hje⟩ := (mem_getD se0 _ _).1 (hp.mem_iff.2 p1)
  have := h j hj
  rw [hje, p2] at this
  have hji : j = i := by omega
  subst hji
  rw [hpp, e1, hje]; rfl
theorem listedC {S : List Nat} {w0 w : World} {K : List Chunk} (h : St S w0 w K) (j : Nat) {A : Option Addr} {n c : Nat} {a : List Se} (hj : K[j]? = some (ses (.slice A n c) a)) (hA : n = 0 → A = none) {x : Nat} {l : List ByteArray} (hX : ∀ w', Fr S w0 w' → IdxAt w' x l) (hl : l.length ≤ 1048576) (hn : n ≤ 1000000) :
    Calls Tryd.prog 40 #[.slice A n c, .pointer (some ⟨x, 0, none⟩)] w fun e w' => ∃ X : Sl, e = .returned (.tuple #[X.v, .bool (listedB a)]) ∧ St S w0 w' (txs X.v (if listedB a = true then listedP l a else []) :: K) := by
  refine Calls.mono (f40.calls (R := fun v w' => ∃ X : Sl, v = .tuple #[X.v, .bool (listedB a)] ∧ St S w0 w' (txs X.v (if listedB a = true then listedP l a else []) :: K)) ?_) ?_
  · dsimp only [f40.VC]
    have hal : n = a.length := h.lrLen j hj
    refine Calls.mono (cloneC h (St.inE h j hj) (by omega) hA) ?_
    rintro _ w1 ⟨A1, c1, rfl, hS1⟩
    refine ⟨_, _, _, rfl, ?_⟩
    refine Calls.mono (sortS (·.2) 59 enters93 cmp93 hS1 0 rfl (by omega)) ?_
    rintro _ w2 ⟨rfl, m, hp, hsm, hS2⟩
    have hml := hp.length_eq
    have hiff := listed_iff hp hsm
    have hS2 : St S w0 w2 (ses (.slice A1 a.length c1) m :: K) := hS2
    refine ⟨rfl, fun A7 n7 c7 z w' r => ∃ i : Nat, z = (i : Int) ∧ i + r = n ∧ (∀ t, t < i → (m.getD t se0).2 = ((t + 1 : Nat) : Int)) ∧ St S w0 w' (txs (.slice A7 n7 c7) ((m.take i).map fun s => (thing l s.1).1) :: ses (.slice A1 a.length c1) m :: K), ⟨n, 0, rfl, by omega, fun t ht => by omega, hS2.nil 9 1⟩, ?_⟩
    rintro d A7 n7 c7 z w3 r ⟨i, rfl, hir, hyes, hS⟩
    refine sel_of (fun hd => ?_) (fun hd => ?_)
    · have hi : i < n := by have := of_decide_eq_true hd; omega
      have hE := St.inE hS 1 rfl
      obtain ⟨b, o, rfl, hc⟩ := hE.2 (by omega)
      obtain ⟨c2, c3⟩ := hc i (by omega)
      have hs := take_snoc se0 m i (by omega)
      have hS3 := hS.alloc #[.int .i64 0, .int .i64 0] 98
      have hS4 := hS3.over 0 rfl [.int .i64 (m.getD i se0).1, .int .i64 (m.getD i se0).2] rfl
      refine ⟨by omega, by omega, needPtr_of rfl ⟨_, by rw [Int.toNat_natCast]; exact c2, _, by rw [Int.toNat_natCast]; exact c3, (hS3.blk 0 rfl).can (by decide), _, (hS4.blk 0 rfl).cell rfl, ?_⟩⟩
      rw [inc i n (by omega) (by omega)]
      refine sel_of (fun hx => ?_) (fun hx => ⟨_, (hS4.blk 0 rfl).cell rfl, ?_⟩)
      · have hx : (m.getD i se0).2 ≠ ((i + 1 : Nat) : Int) := by simpa using hx
        have hno : listedB a = false := by
          rw [Bool.eq_false_iff]
          intro hh
          exact hx (hiff.1 hh i (by omega))
        rw [hno]
        refine ⟨(none, 0, 0), rfl, ?_⟩
        exact (hS4.tail.tail.tail).nil 9 1
      · have hx : (m.getD i se0).2 = ((i + 1 : Nat) : Int) := by simpa using hx
        refine Calls.mono (hS4.step0 (atE0 (hX _ hS4.frame) hl _)) ?_
        rintro _ w4 ⟨rfl, hS5⟩
        obtain ⟨A', n', c', w5, r5, hS6⟩ := appX hS5 1 rfl (thing l (m.getD i se0).1).1 (by simp; omega)
        refine ⟨_, _, rfl, _, _, _, w5, r5, rfl, r - 1, by omega, i + 1, rfl, by omega, fun t ht => ?_, ?_⟩
        · rcases Nat.lt_or_ge t i with h1 | h1
          · exact hyes t h1
          · have : t = i := by omega
            subst this; exact hx
        · rw [hs, List.map_append]
          exact hS6.tail
    · have hi : i = n := by have := of_decide_eq_false hd; omega
      have hyes : ∀ t, t < m.length → (m.getD t se0).2 = ((t + 1 : Nat) : Int) := fun t ht => hyes t (by omega)
      rw [List.take_of_length_le (by omega), ← listedP_eq l hp hyes] at hS
      have hB := hiff.2 hyes
      refine ⟨(A7, n7, c7), by rw [hB], ?_⟩
      rw [if_pos hB]
      have hS' := hS.sel (0 :: (List.range K.length).map (· + 2)) (by
        rw [List.nodup_cons]
        refine ⟨by simp, ?_⟩
        rw [List.Nodup, List.pairwise_map]
        exact List.Pairwise.imp (fun hab => by omega) List.nodup_range) (txs (.slice A7 n7 c7) (listedP l a) :: K) (by
        rw [List.map_cons, List.map_cons, List.map_map]
        congr 1
        apply List.ext_getElem (by simp)
        intro i h1 h2
        simp at h1
        simp [h1])
      exact hS'
  · rintro e w' ⟨v, rfl, X, rfl, h⟩; exact ⟨X, rfl, h⟩
end PG
end Go.Proofs.YtjmlfknogjaemaaDoor
