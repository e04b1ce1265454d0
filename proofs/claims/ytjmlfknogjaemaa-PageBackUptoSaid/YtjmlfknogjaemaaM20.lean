/- Page: places, classes, Size; the document's table, keys, Size. -/
import Derived.Test.YtjmlfknogjaemaaM17
import Derived.Test.YtjmlfknogjaemaaM18
import Derived.Test.YtjmlfknogjaemaaM19
set_option linter.unusedVariables false
set_option linter.unusedSimpArgs false
set_option maxRecDepth 10000
namespace Go.Proofs.Ytjmlfknogjaemaa
open Go Go.Proofs.Ytjmlfknogjaemaa.Vc
namespace PG
open Vc.PG NI
theorem pow_pos2 (n : Nat) : 1 ≤ 2 ^ n := Nat.one_le_two_pow
theorem tab_stop {r t k : Nat} (hk : k ≤ 1000000) (ht : t = 2 ^ (31 - r)) (hr : r ≤ 30) (hlt : t < 2 * k) : 1 ≤ r ∧ 2 * t ≤ 4000000 ∧ 2 * t = 2 ^ (31 - (r - 1)) := by
  have h1 : 1 ≤ r := by
    rcases Nat.eq_zero_or_pos r with h | h
    · subst h; simp at ht; omega
    · exact h
  refine ⟨h1, by omega, ?_⟩
  rw [ht, show 31 - (r - 1) = 31 - r + 1 by omega, Nat.pow_succ]; omega
theorem tableR (w : World) (k : Nat) (hk : k ≤ 1000000) : Calls Try.prog 43 #[.int .i64 (k : Int)] w fun e w' => e = .returned (.int .i64 (tabN k : Int)) ∧ w' = w := by
  refine Calls.mono (f43.calls (R := fun v w' => v = .int .i64 (tabN k : Int) ∧ w' = w) ?_) ?_
  · dsimp only [f43.VC]
    refine ⟨fun x w' r => w' = w ∧ ∃ t : Nat, x = (t : Int) ∧ r ≤ 30 ∧ t = 2 ^ (31 - r) ∧ tabGo r t k = tabN k, ⟨30, rfl, 2, rfl, by omega, rfl, rfl⟩, ?_⟩
    rintro d x w1 r ⟨rfl, t, rfl, hr, ht, hgo⟩
    rw [i64_id (x := 2 * (k : Int)) (by omega) (by omega)]
    refine sel_of (fun hd => ?_) (fun hd => ?_)
    · have hlt : t < 2 * k := by have := of_decide_eq_true hd; omega
      obtain ⟨h1, h2, h3⟩ := tab_stop hk ht hr hlt
      obtain ⟨r, rfl⟩ : ∃ r', r = r' + 1 := ⟨r - 1, by omega⟩
      rw [tabGo, if_pos hlt] at hgo
      rw [i64_id (by omega) (by omega)]
      exact ⟨rfl, r, by omega, rfl, 2 * t, by omega, by omega, h3, hgo⟩
    · have hlt : ¬ t < 2 * k := by have := of_decide_eq_false hd; omega
      have e : tabGo r t k = t := by cases r <;> simp [tabGo, hlt]
      rw [← hgo, e]; exact ⟨rfl, rfl⟩
  · rintro e w' ⟨v, rfl, rfl, h⟩; exact ⟨rfl, h⟩
theorem keysR (w : World) (v : GV) (hb : v.a.2.1 ≤ 1100000 ∧ v.s.2.1 ≤ 1100000 ∧ v.o.2.1 ≤ 1100000) : Calls Try.prog 44 #[v.v] w fun e w' => e = .returned (.int .i64 ((v.a.2.1 + v.s.2.1 + v.o.2.1 : Nat) : Int)) ∧ Fr [] w w' := by
  refine Calls.mono (f44.calls (R := fun u w' => u = .int .i64 ((v.a.2.1 + v.s.2.1 + v.o.2.1 : Nat) : Int) ∧ Fr [] w w') ?_) ?_
  · dsimp only [f44.VC]
    have hS := (St.start w).alloc v.cells 29
    generalize w.heap.size = b at *
    generalize World.alloc w (.cells v.cells 29) = w1 at *
    refine ⟨_, _, _, (hS.blk 0 rfl).cell rfl, _, _, _, (hS.blk 0 rfl).cell rfl, _, _, _, (hS.blk 0 rfl).cell rfl, ?_, hS.frame⟩
    rw [i64_id (x := (v.a.2.1 : Int) + v.s.2.1) (by omega) (by omega), i64_id (by omega) (by omega)]
    rfl
  · rintro e w' ⟨v, rfl, rfl, h⟩; exact ⟨rfl, h⟩
theorem placesC (w : World) (v : GV) {k : Nat} (hk : v.a.2.1 + v.s.2.1 + v.o.2.1 = k) (hb : k ≤ 1000000) : Calls Try.prog 47 #[v.v] w fun e w' => e = .returned (.int .i64 (tabN k : Int)) ∧ Fr [] w w' := by
  refine Calls.mono (f47.calls (R := fun u w' => u = .int .i64 (tabN k : Int) ∧ Fr [] w w') ?_) ?_
  · dsimp only [f47.VC]
    have hS := (St.start w).alloc v.cells 29
    generalize w.heap.size = b at *
    generalize World.alloc w (.cells v.cells 29) = w1 at *
    refine ⟨fun x w' r => w' = w1 ∧ ∃ t : Nat, x = (t : Int) ∧ r ≤ 30 ∧ t = 2 ^ (31 - r) ∧ tabGo r t k = tabN k, ⟨30, rfl, 2, rfl, by omega, rfl, rfl⟩, ?_⟩
    rintro d x w2 r ⟨rfl, t, rfl, hr, ht, hgo⟩
    refine ⟨_, _, _, (hS.blk 0 rfl).cell rfl, _, _, _, (hS.blk 0 rfl).cell rfl, _, _, _, (hS.blk 0 rfl).cell rfl, ?_⟩
    rw [i64_id (x := (v.a.2.1 : Int) + v.s.2.1) (by omega) (by omega), i64_id (x := (v.a.2.1 : Int) + v.s.2.1 + v.o.2.1) (by omega) (by omega), i64_id (x := 2 * _) (by omega) (by omega)]
    refine sel_of (fun hd => ?_) (fun hd => ?_)
    · have hlt : t < 2 * k := by have := of_decide_eq_true hd; omega
      obtain ⟨h1, h2, h3⟩ := tab_stop (by omega) ht hr hlt
      obtain ⟨r, rfl⟩ : ∃ r', r = r' + 1 := ⟨r - 1, by omega⟩
      rw [tabGo, if_pos hlt] at hgo
      have e : shlI .i64 (t : Int) 1 = ((2 * t : Nat) : Int) := by
        unfold shlI
        rw [show min ((1 : Int).toNat) (IntKind.bits .i64) = 1 from rfl, wr]
        omega
      rw [e]
      exact ⟨by omega, rfl, r, by omega, rfl, 2 * t, rfl, by omega, h3, hgo⟩
    · have hlt : ¬ t < 2 * k := by have := of_decide_eq_false hd; omega
      have e : tabGo r t k = t := by cases r <;> simp [tabGo, hlt]
      rw [← hgo, e]; exact ⟨rfl, hS.frame⟩
  · rintro e w' ⟨v, rfl, rfl, h⟩; exact ⟨rfl, h⟩
theorem classesC {w : World} {A : Option Addr} {n c : Nat} {l : List Int} (h : InW w A n l) (hn : n ≤ 1000000000) (hg : (great l 0).isSome = true) : Calls Try.prog 48 #[.slice A n c] w fun e w' => e = .returned (.int .i64 (topOf l : Int)) ∧ w' = w := by
  refine Calls.mono (f48.calls (R := fun u w' => u = .int .i64 (topOf l : Int) ∧ w' = w) ?_) ?_
  · dsimp only [f48.VC]
    have hl := h.1
    refine sel_of (fun hd => ?_) (fun hd => ?_)
    · have hd : (n : Int) = 0 := eq_of_beq hd
      have : l = [] := List.eq_nil_of_length_eq_zero (by omega)
      subst this
      exact ⟨rfl, rfl⟩
    · have hd : (n : Int) ≠ 0 := beq_eq_false_iff_ne.1 hd
      obtain ⟨m, hm⟩ := Option.isSome_iff_exists.1 hg
      refine Calls.mono (maxC h hn (by omega) hm) ?_
      rintro _ w1 ⟨rfl, rfl⟩
      refine ⟨_, rfl, ?_, rfl⟩
      unfold topOf
      rw [hm]; rfl
  · rintro e w' ⟨v, rfl, rfl, h⟩; exact ⟨rfl, h⟩
/-- What a valid graph is. -/
theorem valid_parts {g : Gd} (h : validP g = true) : ((gA g).length ≤ 16 ∧ (gS g).length ≤ 64 ∧ (gO g).length ≤ 64 ∧ (gF g).length = (gS g).length ∧ (gN g).length = (gO g).length) ∧ ((gA g).Nodup ∧ (gS g).Nodup ∧ (gO g).Nodup) ∧
    great (gF g) 0 = some (topOf (gF g)) ∧ great (gN g) 0 = some (topOf (gN g)) ∧ topOf (gF g) ≤ 64 ∧ topOf (gN g) ≤ 64 ∧ shapedB (gM g) (topOf (gF g)) (topOf (gN g)) (gA g).length = true ∧ (gM g).Nodup ∧ ((List.range (topOf (gN g))).map (col (gM g))).Nodup := by
  unfold validP at h
  rw [Bool.and_eq_true, Bool.and_eq_true, decide_eq_true_iff, decide_eq_true_iff] at h
  obtain ⟨⟨h1, h2⟩, h3⟩ := h
  split at h3
  · rename_i n m hn hm
    rw [Bool.and_eq_true, Bool.and_eq_true, decide_eq_true_iff, decide_eq_true_iff] at h3
    have e1 : topOf (gF g) = n := by unfold topOf; rw [hn]; rfl
    have e2 : topOf (gN g) = m := by unfold topOf; rw [hm]; rfl
    have := great_le _ _ _ hn
    have := great_le _ _ _ hm
    rw [e1, e2]
    exact ⟨h1, h2, hn, hm, by omega, by omega, h3.1.1, h3.1.2, h3.2⟩
  · cases h3
theorem names_len (g : Gd) : (names g).length = (gA g).length + (gS g).length + (gO g).length := by
  simp [names]; omega
theorem size_eq {t r c : Nat} (ht : t ≤ 512) (hr : r ≤ 64) (hc : c ≤ 64) : IntKind.i64.wrap (IntKind.i64.wrap (4 + IntKind.i64.wrap (2 * (t : Int))) + IntKind.i64.wrap ((r : Int) * (c : Int))) = ((4 + 2 * t + r * c : Nat) : Int) := by
  have h := Nat.mul_le_mul hr hc
  have e : (r : Int) * (c : Int) = ((r * c : Nat) : Int) := by simp
  rw [e]
  generalize r * c = p at *
  rw [i64_id (x := 2 * _) (by omega) (by omega), i64_id (x := (p : Int)) (by omega) (by omega), i64_id (x := 4 + _) (by omega) (by omega), i64_id (by omega) (by omega)]
  omega
theorem tOf_small {g : Gd} (h : validP g = true) : tOf g ≤ 512 ∧ powB (tOf g : Int) = true ∧ 2 * (names g).length ≤ tOf g ∧ (names g).length ≤ 144 := by
  obtain ⟨h1, _⟩ := valid_parts h
  have hl := names_len g
  obtain ⟨h2, h3⟩ := tabN_small ⟨(names g).length, by omega⟩
  exact ⟨h2, h3, (tabN_ge (by omega)).1, by omega⟩
theorem InG.lens {w : World} {v : GV} {g : Gd} (h : InG w v g) : v.a.2.1 + v.s.2.1 + v.o.2.1 = (names g).length := by
  rw [names_len, h.a.1.1, h.s.1.1, h.o.1.1]
theorem sizeC {w : World} {v : GV} {g : Gd} (h : InG w v g) (hbig : v.a.2.1 ≤ 1100000 ∧ v.s.2.1 ≤ 1100000 ∧ v.o.2.1 ≤ 1100000) : Calls Try.prog 20 #[v.v] w fun e w' => e = .returned (.int .i64 (sizeP g)) ∧ Fr [] w w' := by
  refine Calls.mono (f20.calls (R := fun u w' => u = .int .i64 (sizeP g) ∧ Fr [] w w') ?_) ?_
  · dsimp only [f20.VC]
    have hS := (St.start w).alloc v.cells 29
    generalize w.heap.size = b at *
    generalize World.alloc w (.cells v.cells 29) = w1 at *
    refine ⟨_, _, _, (hS.blk 0 rfl).cell rfl, _, _, _, (hS.blk 0 rfl).cell rfl, _, _, _, (hS.blk 0 rfl).cell rfl, _, _, _, (hS.blk 0 rfl).cell rfl, _, _, _, (hS.blk 0 rfl).cell rfl, _, _, _, (hS.blk 0 rfl).cell rfl, ?_⟩
    refine Calls.mono (hS.step0 (validC (h.fr hS.frame) hbig)) ?_
    rintro _ w2 ⟨rfl, hS⟩
    refine ⟨_, rfl, sel_of (fun hv => ?_) (fun hv => ?_)⟩
    · have hv : validP g = false := by simpa using hv
      exact ⟨by unfold sizeP; rw [hv]; rfl, hS.frame⟩
    · have hv : validP g = true := by simpa using hv
      obtain ⟨p1, p2, p3, p4, p5, p6, p7⟩ := valid_parts hv
      obtain ⟨q1, q2, q3, q4⟩ := tOf_small hv
      have efin : sizeP g = ((4 + 2 * tOf g + topOf (gF g) * topOf (gN g) : Nat) : Int) := by unfold sizeP; rw [if_pos hv]
      have hfin := size_eq q1 p5 p6
      rw [efin]
      have hd := hS.drew
      have hlen := h.lens
      have lf := h.f.1.1
      have ln := h.n.1.1
      have bf : v.f.2.1 ≤ 1000000000 := by omega
      have bn : v.n.2.1 ≤ 1000000000 := by omega
      have gf : (great (gF g) 0).isSome = true := by rw [p3]; rfl
      have gn : (great (gN g) 0).isSome = true := by rw [p4]; rfl
      have hn1 : (names g).length ≤ 1000000 := by omega
      refine ⟨_, _, _, (hS.blk 0 rfl).cell rfl, _, _, _, (hS.blk 0 rfl).cell rfl, _, _, _, (hS.blk 0 rfl).cell rfl, _, _, _, (hS.blk 0 rfl).cell rfl, _, _, _, (hS.blk 0 rfl).cell rfl, _, _, _, (hS.blk 0 rfl).cell rfl, ?_⟩
      repeat' (first
        | exact trivial
        | exact ⟨by rw [← hfin]; rfl, St.frame (L := [Chunk.blk b v.cells 29]) (by assumption)⟩
        | refine ⟨_, _, _, Blk.cell (St.blk (S := []) (w0 := w) (L := [Chunk.blk b v.cells 29]) (by assumption) 0 rfl) rfl, ?_⟩
        | (refine Calls.mono (placesC _ v hlen hn1) ?_
           rintro _ wn ⟨rfl, hf⟩
           have hnew := St.go (S := []) (w0 := w) (L := [Chunk.blk b v.cells 29]) (by assumption) hf
           clear hf
           refine ⟨_, rfl, ?_⟩)
        | (refine Calls.mono (classesC (h.fr (St.frame (S := []) (w0 := w) (L := [Chunk.blk b v.cells 29]) (by assumption))).f.1 bf gf) ?_
           rintro _ _ ⟨rfl, rfl⟩
           refine ⟨_, rfl, ?_⟩)
        | (refine Calls.mono (classesC (h.fr (St.frame (S := []) (w0 := w) (L := [Chunk.blk b v.cells 29]) (by assumption))).n.1 bn gn) ?_
           rintro _ _ ⟨rfl, rfl⟩
           refine ⟨_, rfl, ?_⟩)
        | refine And.intro ?_ ?_
        | fail)
  · rintro e w' ⟨v, rfl, rfl, h⟩; exact ⟨rfl, h⟩
theorem sizeR {w : World} {v : GV} {g : Gd} (h : InG w v g) (hbig : v.a.2.1 ≤ 1100000 ∧ v.s.2.1 ≤ 1100000 ∧ v.o.2.1 ≤ 1100000) : Calls Try.prog 21 #[v.v] w fun e w' => e = .returned (.int .i64 (sizeP g)) ∧ Fr [] w w' := by
  refine Calls.mono (f21.calls (R := fun u w' => u = .int .i64 (sizeP g) ∧ Fr [] w w') ?_) ?_
  · dsimp only [f21.VC]
    have hS := (St.start w).alloc v.cells 29
    generalize w.heap.size = b at *
    generalize World.alloc w (.cells v.cells 29) = w1 at *
    refine ⟨_, _, _, (hS.blk 0 rfl).cell rfl, _, _, _, (hS.blk 0 rfl).cell rfl, _, _, _, (hS.blk 0 rfl).cell rfl, _, _, _, (hS.blk 0 rfl).cell rfl, _, _, _, (hS.blk 0 rfl).cell rfl, _, _, _, (hS.blk 0 rfl).cell rfl, ?_⟩
    refine Calls.mono (hS.step0 (validR (h.fr hS.frame) hbig)) ?_
    rintro _ w2 ⟨rfl, hS⟩
    refine ⟨_, rfl, sel_of (fun hv => ?_) (fun hv => ?_)⟩
    · have hv : validP g = false := by simpa using hv
      exact ⟨by unfold sizeP; rw [hv]; rfl, hS.frame⟩
    · have hv : validP g = true := by simpa using hv
      obtain ⟨p1, p2, p3, p4, p5, p6, p7⟩ := valid_parts hv
      obtain ⟨q1, q2, q3, q4⟩ := tOf_small hv
      have efin : sizeP g = ((4 + 2 * tOf g + topOf (gF g) * topOf (gN g) : Nat) : Int) := by unfold sizeP; rw [if_pos hv]
      have hfin := size_eq q1 p5 p6
      rw [efin]
      have lf := h.f.1.1
      have ln := h.n.1.1
      refine ⟨_, _, _, (hS.blk 0 rfl).cell rfl, ?_⟩
      refine Calls.mono (greatR (h.fr hS.frame).f.1 (by omega)) ?_
      rintro _ w3 ⟨rfl, e3⟩
      rw [e3]
      refine ⟨_, _, rfl, _, _, _, (hS.blk 0 rfl).cell rfl, ?_⟩
      refine Calls.mono (greatR (h.fr hS.frame).n.1 (by omega)) ?_
      rintro _ w4 ⟨rfl, e4⟩
      rw [e4]
      refine ⟨_, _, rfl, _, _, _, (hS.blk 0 rfl).cell rfl, _, _, _, (hS.blk 0 rfl).cell rfl, _, _, _, (hS.blk 0 rfl).cell rfl, _, _, _, (hS.blk 0 rfl).cell rfl, _, _, _, (hS.blk 0 rfl).cell rfl, _, _, _, (hS.blk 0 rfl).cell rfl, ?_⟩
      refine Calls.mono (hS.step0 (keysR _ v hbig)) ?_
      rintro _ w5 ⟨rfl, hS⟩
      refine ⟨_, rfl, ?_⟩
      rw [h.lens]
      refine Calls.mono (tableR w5 _ (by omega)) ?_
      rintro _ w6 ⟨rfl, e6⟩
      rw [e6]
      exact ⟨_, rfl, by rw [← hfin]; rfl, hS.frame⟩
  · rintro e w' ⟨v, rfl, rfl, h⟩; exact ⟨rfl, h⟩
end PG
end Go.Proofs.Ytjmlfknogjaemaa
/- Page: room for names: the program's and the document's count; the document's table. -/
set_option linter.unusedVariables false
set_option linter.unusedSimpArgs false
set_option maxRecDepth 10000
namespace Go.Proofs.Ytjmlfknogjaemaa
open Go Go.Proofs.Ytjmlfknogjaemaa.Vc
namespace PG
open Vc.PG NI
/-- An index that is there. -/
def IdxAt (w : World) (x : Nat) (l : List ByteArray) : Prop := ∃ F, (idxC x l).holds w F
def RefAt (w : World) (x : Nat) (l : List ByteArray) : Prop := ∃ F, (refI 81 x l).holds w F
theorem IdxAt.fr {w w' : World} {x : Nat} {l : List ByteArray} (h : IdxAt w x l) (hf : Fr [] w w') : IdxAt w' x l := by
  obtain ⟨F, hF⟩ := h
  exact ⟨F, (idxC x l).fr hF hf (by simp)⟩
theorem RefAt.fr {w w' : World} {x : Nat} {l : List ByteArray} (h : RefAt w x l) (hf : Fr [] w w') : RefAt w' x l := by
  obtain ⟨F, hF⟩ := h
  exact ⟨F, (refI 81 x l).fr hF hf (by simp)⟩
theorem findE {w : World} {x : Nat} {l : List ByteArray} (h : IdxAt w x l) (s : ByteArray) : Calls Try.prog 81 #[.pointer (some ⟨x, 0, none⟩), .string s] w fun e w' => e = .returned (.tuple #[.int .i64 (IX.num l s : Int), .bool (decide (IX.num l s ≠ 0))]) ∧ w' = w := by
  obtain ⟨F, hF⟩ := h
  obtain ⟨y, hS⟩ := openI (St.start1 hF)
  refine Calls.mono (f81.calls (R := fun v w' => v = .tuple #[.int .i64 (IX.num l s : Int), .bool (decide (IX.num l s ≠ 0))] ∧ w' = w) ⟨_, (hS.blk 0 rfl).cell rfl, _, _, _, lookI (hS.mapIs 1 rfl) s, rfl, rfl⟩) ?_
  rintro e w' ⟨v, rfl, rfl, rfl⟩; exact ⟨rfl, rfl⟩
theorem lenE {w : World} {x : Nat} {l : List ByteArray} (h : IdxAt w x l) : Calls Try.prog 30 #[.pointer (some ⟨x, 0, none⟩)] w fun e w' => e = .returned (.int .i64 (l.length : Int)) ∧ w' = w := by
  obtain ⟨F, hF⟩ := h
  obtain ⟨y, hS⟩ := openI (St.start1 hF)
  have hn := hS.slLen 2 rfl
  rw [List.length_map] at hn
  refine Calls.mono (f30.calls (R := fun v w' => v = .int .i64 (l.length : Int) ∧ w' = w) ⟨_, _, _, (hS.blk 0 rfl).cell rfl, by rw [← hn], rfl⟩) ?_
  rintro e w' ⟨v, rfl, rfl, rfl⟩; exact ⟨rfl, rfl⟩
theorem rFindE {w : World} {x : Nat} {l : List ByteArray} (h : RefAt w x l) (hl : l.length ≤ 1048576) (s : ByteArray) : Calls Try.prog 80 #[.pointer (some ⟨x, 0, none⟩), .string s] w fun e w' => e = .returned (.tuple #[.int .i64 (IX.num l s : Int), .bool (decide (IX.num l s ≠ 0))]) ∧ w' = w := by
  obtain ⟨F, hF⟩ := h
  obtain ⟨y, hS⟩ := openX (St.start1 hF)
  have hn := hS.slLen 1 rfl
  rw [List.length_map] at hn
  refine Calls.mono (f80.calls (R := fun v w' => v = .tuple #[.int .i64 (IX.num l s : Int), .bool (decide (IX.num l s ≠ 0))] ∧ w' = w) ?_) ?_
  · dsimp only [f80.VC]
    refine ⟨fun x6 w' r => w' = w ∧ ∃ j : Nat, x6 = (j : Int) ∧ j + r = l.length ∧ ∀ q, q < j → l.getD q ⟨#[]⟩ ≠ s, ⟨l.length, rfl, 0, rfl, by omega, fun q hq => by omega⟩, ?_⟩
    rintro d x6 w1 r ⟨rfl, j, rfl, hjr, hno⟩
    refine ⟨_, _, _, (hS.blk 0 rfl).cell rfl, sel_of (fun hd => ?_) (fun hd => ?_)⟩
    · have hj : j < l.length := by have := of_decide_eq_true hd; omega
      have hj1 : IntKind.i64.wrap ((j : Int) + 1) = ((j + 1 : Nat) : Int) := by rw [i64_id (by omega) (by omega)]; omega
      obtain ⟨_, g, hg, hc⟩ := textAt hS 1 rfl hj
      rw [hj1]
      refine ⟨_, _, _, (hS.blk 0 rfl).cell rfl, by omega, by omega, needPtr_of hg ⟨_, by rw [Int.toNat_natCast]; exact hc, sel_of (fun hs => ?_) (fun hs => ?_)⟩⟩
      · have hs : l.getD j ⟨#[]⟩ = s := of_decide_eq_true hs
        rw [num_from hj hno hs]
        exact ⟨by simp, rfl⟩
      · have hs : l.getD j ⟨#[]⟩ ≠ s := of_decide_eq_false hs
        refine ⟨rfl, r - 1, by omega, rfl, j + 1, rfl, by omega, fun q hq => ?_⟩
        rcases Nat.lt_or_ge q j with h1 | h1
        · exact hno q h1
        · have : q = j := by omega
          subst this; exact hs
    · have hj : j = l.length := by have := of_decide_eq_false hd; omega
      rw [num_no (fun q hq => hno q (by omega))]
      exact ⟨by simp, rfl⟩
  · rintro e w' ⟨v, rfl, rfl, rfl⟩; exact ⟨rfl, rfl⟩
theorem keysB {K V : Type} [DecidableEq K] {l : List (K × V)} {k : K} {v : V} : (GM.put l k v).map (·.1) = if memB (l.map (·.1)) k = true then l.map (·.1) else l.map (·.1) ++ [k] := by
  unfold GM.put
  cases hx : GM.idx l k with
  | some j =>
    unfold GM.idx at hx
    obtain ⟨hj, hk, _⟩ := List.findIdx?_eq_some_iff_getElem.mp hx
    have hk : (l.map (·.1))[j] = k := by simpa using hk
    rw [if_pos ((memB_iff _ _).2 (by rw [← hk]; exact List.getElem_mem hj))]
    dsimp only
    rw [List.map_set]
    apply List.ext_getElem (by simp)
    intro q h1 h2
    rw [List.getElem_set]
    split
    · rename_i h; subst h; exact hk.symm
    · rfl
  | none =>
    unfold GM.idx at hx
    rw [List.findIdx?_eq_none_iff] at hx
    rw [if_neg (fun hm => by have := hx k ((memB_iff _ _).1 hm); simp at this)]
    simp
theorem wantGo_app (l : List ByteArray) : ∀ (a b acc : List ByteArray), wantGo l (a ++ b) acc = wantGo l b (wantGo l a acc)
  | [], b, acc => rfl
  | s :: a, b, acc => by
    rw [List.cons_append, wantGo, wantGo]
    split
    · exact wantGo_app l a b _
    · exact wantGo_app l a b _
theorem wantGo_len (l : List ByteArray) : ∀ (ns acc : List ByteArray), (wantGo l ns acc).length ≤ acc.length + ns.length
  | [], acc => by simp [wantGo]
  | s :: ns, acc => by
    rw [wantGo]
    split
    · have := wantGo_len l ns (acc ++ [s]); simp at this ⊢; omega
    · have := wantGo_len l ns acc; simp; omega
theorem wantGo_mem (l : List ByteArray) (s : ByteArray) : ∀ (ns acc : List ByteArray), s ∈ wantGo l ns acc ↔ s ∈ acc ∨ (s ∈ ns ∧ IX.num l s = 0)
  | [], acc => by simp [wantGo]
  | t :: ns, acc => by
    rw [wantGo]
    split
    · rename_i h
      rw [wantGo_mem l s ns, List.mem_append, List.mem_singleton, List.mem_cons]
      constructor
      · rintro ((h1 | h1) | h1)
        · exact .inl h1
        · exact .inr ⟨.inl h1, by rw [h1]; exact h.1⟩
        · exact .inr ⟨.inr h1.1, h1.2⟩
      · rintro (h1 | ⟨h1 | h1, h2⟩)
        · exact .inl (.inl h1)
        · exact .inl (.inr h1)
        · exact .inr ⟨h1, h2⟩
    · rename_i h
      rw [wantGo_mem l s ns, List.mem_cons]
      constructor
      · rintro (h1 | h1)
        · exact .inl h1
        · exact .inr ⟨.inr h1.1, h1.2⟩
      · rintro (h1 | ⟨h1 | h1, h2⟩)
        · exact .inl h1
        · subst h1
          refine .inl (Classical.byContradiction fun hn => h ⟨h2, ?_⟩)
          cases hm : memB acc s with
          | false => rfl
          | true => exact absurd ((memB_iff _ _).1 hm) hn
        · exact .inr ⟨h1, h2⟩
theorem wantGo_snoc (l ns : List ByteArray) (s : ByteArray) : wantGo l (ns ++ [s]) [] = if IX.num l s = 0 ∧ memB ns s = false then wantGo l ns [] ++ [s] else wantGo l ns [] := by
  rw [wantGo_app, wantGo, wantGo, wantGo]
  have e : (IX.num l s = 0 ∧ memB (wantGo l ns []) s = false) ↔ (IX.num l s = 0 ∧ memB ns s = false) := by
    constructor
    · rintro ⟨h1, h2⟩
      refine ⟨h1, ?_⟩
      cases hm : memB ns s with
      | false => rfl
      | true =>
        have := (memB_iff _ _).2 ((wantGo_mem l s ns []).2 (.inr ⟨(memB_iff _ _).1 hm, h1⟩))
        rw [this] at h2; cases h2
    · rintro ⟨h1, h2⟩
      refine ⟨h1, ?_⟩
      cases hm : memB (wantGo l ns []) s with
      | false => rfl
      | true =>
        rcases (wantGo_mem l s ns []).1 ((memB_iff _ _).1 hm) with h | h
        · simp at h
        · have := (memB_iff _ _).2 h.1
          rw [this] at h2; cases h2
  by_cases h : IX.num l s = 0 ∧ memB ns s = false
  · rw [if_pos h, if_pos (e.2 h)]
  · rw [if_neg h, if_neg (fun hh => h (e.1 hh))]
theorem memB_snoc (ns : List ByteArray) (t s : ByteArray) : memB (ns ++ [t]) s = (memB ns s || decide (t = s)) := by
  simp [memB]
def preN (g : Gd) : Nat → List ByteArray
  | 0 => []
  | 1 => gA g
  | 2 => gA g ++ gS g
  | _ => names g
theorem index136 (x y z : Value) (w : World) : (Instr.index 136 (.agg #[x, y, z]) (.int .i64 0)).run Try.prog w = .ok x w ∧ (Instr.index 136 (.agg #[x, y, z]) (.int .i64 1)).run Try.prog w = .ok y w ∧ (Instr.index 136 (.agg #[x, y, z]) (.int .i64 2)).run Try.prog w = .ok z w := by
  refine ⟨?_, ?_, ?_⟩ <;> kernel_rfl
abbrev mpS (r : Nat) (l : List (ByteArray × Int)) : Chunk := Chunk.map encS encN r l
theorem roomC {w : World} {v : GV} {g : Gd} {x : Nat} {l : List ByteArray} (h : InG w v g) (hI : IdxAt w x l) (hl : l.length ≤ 1048576) (hbig : v.a.2.1 ≤ 1100000 ∧ v.s.2.1 ≤ 1100000 ∧ v.o.2.1 ≤ 1100000) :
    Calls Try.prog 46 #[v.v, .pointer (some ⟨x, 0, none⟩)] w fun e w' => e = .returned (.bool (decide (l.length + freshN l g ≤ 1048576))) ∧ Fr [] w w' := by
  refine Calls.mono (f46.calls (R := fun u w' => u = .bool (decide (l.length + freshN l g ≤ 1048576)) ∧ Fr [] w w') ?_) ?_
  · dsimp only [f46.VC]
    have hS := ((St.start w).alloc v.cells 29).mapNew (encK := encS) (encV := encN)
    generalize (World.alloc w (.cells v.cells 29)).heap.size = mp at *
    generalize World.alloc (World.alloc w (.cells v.cells 29)) (.map #[] 0) = w1 at *
    generalize w.heap.size = b at *
    have la := h.a.1.1
    have ls := h.s.1.1
    have lo := h.o.1.1
    refine ⟨_, _, _, (hS.blk 1 rfl).cell rfl, _, _, _, (hS.blk 1 rfl).cell rfl, _, _, _, (hS.blk 1 rfl).cell rfl, fun y w' r => ∃ i : Nat, y = (i : Int) ∧ i + r = 3 ∧ ∃ m, St [] w w' [mpS mp m, Chunk.blk b v.cells 29] ∧ m.map (·.1) = wantGo l (preN g i) [], ⟨3, 0, rfl, rfl, [], hS, rfl⟩, ?_⟩
    rintro d y w2 r ⟨i, rfl, hir, m, hS, hm⟩
    refine sel_of (fun hd => ?_) (fun hd => ?_)
    · have hi : i < 3 := by have := of_decide_eq_true hd; omega
      obtain ⟨A, n, c, li, hX, hn, hidx, hpre⟩ : ∃ (A : Option Addr) (n c : Nat) (li : List ByteArray), InX w A n li ∧ n ≤ 1100000 ∧ (∀ w', (Instr.index 136 (.agg #[v.a.v, v.s.v, v.o.v]) (.int .i64 (i : Int))).run Try.prog w' = .ok (.slice A n c) w') ∧ preN g (i + 1) = preN g i ++ li := by
        obtain rfl | rfl | rfl : i = 0 ∨ i = 1 ∨ i = 2 := by omega
        · exact ⟨_, _, _, _, h.a.1, by omega, fun w' => (index136 _ _ _ w').1, rfl⟩
        · exact ⟨_, _, _, _, h.s.1, by omega, fun w' => (index136 _ _ _ w').2.1, rfl⟩
        · exact ⟨_, _, _, _, h.o.1, by omega, fun w' => (index136 _ _ _ w').2.2, rfl⟩
      have hnl := hX.1
      refine ⟨_, _, _, hidx, fun y w' q => ∃ j : Nat, y = (j : Int) ∧ j + q = n ∧ ∃ m, St [] w w' [mpS mp m, Chunk.blk b v.cells 29] ∧ m.map (·.1) = wantGo l (preN g i ++ li.take j) [], ⟨n, 0, rfl, by omega, m, hS, by rw [List.take_zero, List.append_nil]; exact hm⟩, ?_⟩
      rintro d y w3 q ⟨j, rfl, hjq, m, hS, hm⟩
      refine sel_of (fun hd => ?_) (fun hd => ?_)
      · have hj : j < n := by have := of_decide_eq_true hd; omega
        refine ⟨by omega, by omega, InX.need (hX.fr hS.frame) rfl hj ?_⟩
        refine Calls.mono (findE (hI.fr hS.frame) _) ?_
        rintro _ w4 ⟨rfl, e4⟩
        rw [e4, inc j 1100000 (by omega) (by omega)]
        have et : li.take (j + 1) = li.take j ++ [li.getD j ByteArray.empty] := by
          rw [List.take_succ_eq_append_getElem (by omega)]; simp [List.getD_eq_getElem?_getD, show j < li.length by omega]
        have eg : wantGo l (preN g i ++ li.take (j + 1)) [] = if IX.num l (li.getD j ByteArray.empty) = 0 ∧ memB (wantGo l (preN g i ++ li.take j) []) (li.getD j ByteArray.empty) = false then wantGo l (preN g i ++ li.take j) [] ++ [li.getD j ByteArray.empty] else wantGo l (preN g i ++ li.take j) [] := by
          rw [et, ← List.append_assoc, wantGo_app, wantGo]; rfl
        generalize li.getD j ByteArray.empty = s at *
        refine ⟨_, _, rfl, sel_of (fun h0 => ?_) (fun h0 => ?_)⟩
        · have h0 : IX.num l s = 0 := by simpa using h0
          obtain ⟨ti, i1, i2, i3, i4⟩ := info3
          have hlk := GM.look (d := (0 : Int)) under120 keyS i1 i2 (hS.mapIs 0 rfl) s false
          obtain ⟨w7, hup, hS7⟩ := hS.mapUpd 0 rfl under120 keyS s (IntKind.i64.wrap (GM.get 0 m s + 1))
          refine ⟨_, _, hlk, _, hup, rfl, q - 1, by omega, j + 1, rfl, by omega, _, hS7, ?_⟩
          rw [keysB, eg, ← hm]
          cases hmb : memB (m.map (·.1)) s with
          | false => rw [if_neg (by simp), if_pos ⟨h0, rfl⟩]
          | true => rw [if_pos rfl, if_neg (by simp)]
        · have h0 : IX.num l s ≠ 0 := by simpa using h0
          refine ⟨rfl, q - 1, by omega, j + 1, rfl, by omega, _, hS, ?_⟩
          rw [eg, if_neg (fun hh => h0 hh.1), hm]
      · have hj : j = n := by have := of_decide_eq_false hd; omega
        rw [inc i 100 (by omega) (by omega)]
        rw [List.take_of_length_le (by omega)] at hm
        exact ⟨rfl, r - 1, by omega, i + 1, rfl, by omega, _, hS, by rw [hpre]; exact hm⟩
    · have hi : i = 3 := by have := of_decide_eq_false hd; omega
      subst hi
      refine ⟨_, _, GM.len under120 (hS.mapIs 0 rfl), ?_⟩
      refine Calls.mono (lenE (hI.fr hS.frame)) ?_
      rintro _ w3 ⟨rfl, e3⟩
      rw [e3]
      refine ⟨_, rfl, ?_, hS.frame⟩
      rw [i64_id (by omega) (by omega)]
      have e : m.length = freshN l g := by
        have := congrArg List.length hm
        rw [List.length_map] at this
        exact this
      rw [e]
      congr 1
      rw [Bool.eq_iff_iff, decide_eq_true_iff, decide_eq_true_iff]
      omega
  · rintro e w' ⟨v, rfl, rfl, h⟩; exact ⟨rfl, h⟩
abbrev txs (v : Value) (l : List ByteArray) : Chunk := Chunk.ls encS 9 v l
theorem freshR {w : World} {v : GV} {g : Gd} {x : Nat} {l : List ByteArray} (h : InG w v g) (hI : RefAt w x l) (hl : l.length ≤ 1048576) (hbig : v.a.2.1 ≤ 1100000 ∧ v.s.2.1 ≤ 1100000 ∧ v.o.2.1 ≤ 1100000) :
    Calls Try.prog 41 #[v.v, .pointer (some ⟨x, 0, none⟩)] w fun e w' => e = .returned (.int .i64 (freshN l g : Int)) ∧ Fr [] w w' := by
  refine Calls.mono (f41.calls (R := fun u w' => u = .int .i64 (freshN l g : Int) ∧ Fr [] w w') ?_) ?_
  · dsimp only [f41.VC]
    have hS0 := ((St.start w).alloc v.cells 29).nil 9 1
    generalize World.alloc w (.cells v.cells 29) = w1 at *
    generalize w.heap.size = b at *
    have la := h.a.1.1
    have ls := h.s.1.1
    have lo := h.o.1.1
    obtain ⟨ti, i1, i2, i3, i4⟩ := info9
    have hg1 := h.fr hS0.frame
    obtain ⟨A1, n1, c1, w2, r1, hS1⟩ := St.appMany (ty := 25) ByteArray.empty (enc := encS) (fun _ => rfl) under25 i1 i2 i3 rfl (by omega) hS0 0 (l := []) rfl hg1.a.1.1 hg1.a.1.2 (c2 := v.a.2.2) (by simp; omega)
    have hg2 := h.fr hS1.frame
    obtain ⟨A2, n2, c2, w3, r2, hS2⟩ := St.appMany (ty := 25) ByteArray.empty (enc := encS) (fun _ => rfl) under25 i1 i2 i3 rfl (by omega) hS1 0 rfl hg2.s.1.1 hg2.s.1.2 (c2 := v.s.2.2) (by simp; omega)
    have hg3 := h.fr hS2.frame
    obtain ⟨A3, n3, c3, w4, r3, hS3⟩ := St.appMany (ty := 25) ByteArray.empty (enc := encS) (fun _ => rfl) under25 i1 i2 i3 rfl (by omega) hS2 0 rfl hg3.o.1.1 hg3.o.1.2 (c2 := v.o.2.2) (by simp; omega)
    refine ⟨_, _, _, (hS0.blk 1 rfl).cell rfl, _, _, _, _, r1, _, _, _, (hS1.blk 1 rfl).cell rfl, _, _, _, _, r2, _, _, _, (hS2.blk 1 rfl).cell rfl, _, _, _, _, r3, ?_⟩
    have hS : St [] w w4 [txs (.slice A3 n3 c3) (names g), Chunk.blk b v.cells 29] := by simpa [names] using hS3
    have hn := hS.lsLen 0 rfl
    have hnl := names_len g
    have hX : InX w4 A3 n3 (names g) := by
      refine ⟨hn, fun h0 => ?_⟩
      obtain ⟨gg, hg, hc⟩ := hS.lsGet ByteArray.empty 0 rfl h0
      exact ⟨gg, 0, hg, fun i hi => by rw [Nat.zero_add]; exact hc i hi⟩
    have hI4 := hI.fr hS.frame
    have hF : Fr [] w w4 := hS.frame
    clear hS0 hS1 hS2 hS3 hS r1 r2 r3 hg1 hg2 hg3
    have hfr : freshN l g = (wantGo l (names g) []).length := rfl
    rw [hfr]
    generalize names g = N at *
    refine ⟨fun y z w' r => Fr [] w4 w' ∧ ∃ i : Nat, z = (i : Int) ∧ i + r = n3 ∧ y = ((wantGo l (N.take i) []).length : Int), ⟨n3, Fr.refl _ _, 0, rfl, by omega, by simp [wantGo]⟩, ?_⟩
    rintro d y z w5 r ⟨hf, i, rfl, hir, rfl⟩
    refine sel_of (fun hd => ?_) (fun hd => ?_)
    · have hi : i < n3 := by have := of_decide_eq_true hd; omega
      refine ⟨by omega, by omega, InX.need (hX.fr hf) rfl hi ?_⟩
      refine Calls.mono (rFindE (hI4.fr hf) hl _) ?_
      rintro _ w6 ⟨rfl, e6⟩
      rw [e6]
      have et : N.take (i + 1) = N.take i ++ [N.getD i ByteArray.empty] := by
        rw [List.take_succ_eq_append_getElem (by omega)]; simp [List.getD_eq_getElem?_getD, show i < N.length by omega]
      have hlen := wantGo_len l (N.take i) []
      simp only [List.length_nil, List.length_take] at hlen
      refine ⟨_, _, rfl, fun y z w' q => Fr [] w5 w' ∧ ∃ j : Nat, z = (j : Int) ∧ j + q = i ∧ y = (decide (IX.num l (N.getD i ByteArray.empty) ≠ 0) || memB (N.take j) (N.getD i ByteArray.empty)), ⟨i, Fr.refl _ _, 0, rfl, by omega, by simp [memB]⟩, ?_⟩
      rintro d y z w7 q ⟨hf2, j, rfl, hjq, hy⟩
      refine sel_of (fun hd => ?_) (fun hd => ?_)
      · have hj : j < i := by have := of_decide_eq_true hd; omega
        have et2 : N.take (j + 1) = N.take j ++ [N.getD j ByteArray.empty] := by
          rw [List.take_succ_eq_append_getElem (by omega)]; simp [List.getD_eq_getElem?_getD, show j < N.length by omega]
        rw [inc j 110000000 (by omega) (by omega)]
        refine sel_of (fun hb => ?_) (fun hb => ?_)
        · refine ⟨rfl, q - 1, by omega, hf2.drew, j + 1, rfl, by omega, ?_⟩
          rw [et2, memB_snoc, ← Bool.or_assoc, ← hy, hb]; rfl
        · obtain ⟨bb, o, rfl, hc⟩ := (hX.fr (hf.trans hf2)).2 (by omega)
          refine ⟨by omega, by omega, needPtr_of rfl ⟨by omega, by omega, needPtr_of rfl ⟨_, by rw [Nat.mul_one, Int.toNat_natCast]; exact hc j (by omega), _, by rw [Nat.mul_one, Int.toNat_natCast]; exact hc i (by omega), rfl, q - 1, by omega, hf2.drew, j + 1, rfl, by omega, ?_⟩⟩⟩
          rw [et2, memB_snoc, ← Bool.or_assoc, ← hy, hb, Bool.false_or]
      · have hj : j = i := by have := of_decide_eq_false hd; omega
        subst hj
        rw [inc j 110000000 (by omega) (by omega)]
        refine sel_of (fun hb => ?_) (fun hb => ?_)
        · have hb : y = false := by simpa using hb
          rw [hb] at hy
          have hy := (Bool.or_eq_false_iff.1 hy.symm)
          rw [i64_id (by omega) (by omega)]
          refine ⟨rfl, r - 1, by omega, hf.trans hf2, j + 1, rfl, by omega, ?_⟩
          rw [et, wantGo_snoc, if_pos ⟨by simpa using hy.1, hy.2⟩]
          simp
        · have hb : y = true := by simpa using hb
          rw [hb] at hy
          refine ⟨rfl, r - 1, by omega, hf.trans hf2, j + 1, rfl, by omega, ?_⟩
          rw [et, wantGo_snoc, if_neg (fun hh => by rw [hh.2, hh.1] at hy; simp at hy)]
    · have hi : i = n3 := by have := of_decide_eq_false hd; omega
      rw [List.take_of_length_le (by omega)]
      exact ⟨rfl, hF.trans hf⟩
  · rintro e w' ⟨v, rfl, rfl, h⟩; exact ⟨rfl, h⟩
end PG
end Go.Proofs.Ytjmlfknogjaemaa
