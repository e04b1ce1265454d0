/- Page: graphs and indexes that are alike. -/
import Derived.Test.YtjmlfknogjaemaaM30
import Derived.Test.YtjmlfknogjaemaaM31
import Derived.Test.YtjmlfknogjaemaaM4
import Derived.Test.YtjmlfknogjaemaaProg
import Derived.KernelRfl
set_option linter.unusedVariables false
set_option linter.unusedSimpArgs false
set_option maxRecDepth 10000
namespace Go.Proofs.Ytjmlfknogjaemaa
open Go Go.Proofs.Ytjmlfknogjaemaa.Vc
namespace PG
open Vc.PG NI
theorem numbersR {w : World} {A B : Option Addr} {n c m d : Nat} {l k : List Int} (h : InW w A n l) (h2 : InW w B m k) (hn : n ≤ 1000000000) : Calls Try.prog 55 #[.slice A n c, .slice B m d] w fun e w' => e = .returned (.bool (decide (l = k))) ∧ Fr [] w w' := by
  refine Calls.mono (f55.calls (R := fun v w' => v = .bool (decide (l = k)) ∧ Fr [] w w') ?_) ?_
  · dsimp only [f55.VC]
    have hl := h.1
    have hk := h2.1
    refine sel_of (fun hd => ?_) (fun hd => ?_)
    · have hd : (n : Int) ≠ m := by simpa using hd
      refine ⟨?_, Fr.refl _ _⟩
      rw [decide_eq_false]
      rintro rfl; omega
    · have hd : (n : Int) = m := by simpa using hd
      refine ⟨fun x w' r => Fr [] w w' ∧ ∃ i : Nat, x = (i : Int) ∧ i + r = n ∧ ∀ a, a < i → l.getD a 0 = k.getD a 0, ⟨n, Fr.refl _ _, 0, rfl, by omega, fun a ha => by omega⟩, ?_⟩
      rintro d x w1 r ⟨hf, i, rfl, hir, hno⟩
      refine sel_of (fun hd => ?_) (fun hd => ?_)
      · have hi : i < n := by have := of_decide_eq_true hd; omega
        obtain ⟨b, o, rfl, hc⟩ := h.2 (by omega)
        obtain ⟨b2, o2, rfl, hc2⟩ := h2.2 (by omega)
        refine ⟨by omega, by omega, needPtr_of rfl ⟨by omega, by omega, needPtr_of rfl ⟨_, by rw [Nat.mul_one, Int.toNat_natCast]; exact hf.cell (hc i (by omega)), _, by rw [Nat.mul_one, Int.toNat_natCast]; exact hf.cell (hc2 i (by omega)), sel_of (fun hs => ?_) (fun hs => ?_)⟩⟩⟩
        · have hs : l.getD i 0 ≠ k.getD i 0 := by simpa using hs
          refine ⟨?_, hf.drew⟩
          rw [decide_eq_false]
          rintro rfl; exact hs rfl
        · have hs : l.getD i 0 = k.getD i 0 := by simpa using hs
          rw [inc i n hn (by omega)]
          refine ⟨rfl, r - 1, by omega, hf.drew, i + 1, rfl, by omega, fun a ha => ?_⟩
          rcases Nat.lt_or_ge a i with h1 | h1
          · exact hno a h1
          · have : a = i := by omega
            subst this; exact hs
      · have hi : i = n := by have := of_decide_eq_false hd; omega
        refine ⟨?_, hf⟩
        rw [decide_eq_true]
        exact (ext_getD 0 _ _).2 ⟨by omega, fun q hq => hno q (by omega)⟩
  · rintro e w' ⟨v, rfl, rfl, h⟩; exact ⟨rfl, h⟩
theorem textsR {w : World} {A B : Option Addr} {n c m d : Nat} {l k : List ByteArray} (h : InX w A n l) (h2 : InX w B m k) (hn : n ≤ 1000000000) : Calls Try.prog 54 #[.slice A n c, .slice B m d] w fun e w' => e = .returned (.bool (decide (l = k))) ∧ Fr [] w w' := by
  refine Calls.mono (f54.calls (R := fun v w' => v = .bool (decide (l = k)) ∧ Fr [] w w') ?_) ?_
  · dsimp only [f54.VC]
    have hl := h.1
    have hk := h2.1
    refine sel_of (fun hd => ?_) (fun hd => ?_)
    · have hd : (n : Int) ≠ m := by simpa using hd
      refine ⟨?_, Fr.refl _ _⟩
      rw [decide_eq_false]
      rintro rfl; omega
    · have hd : (n : Int) = m := by simpa using hd
      refine ⟨fun x w' r => Fr [] w w' ∧ ∃ i : Nat, x = (i : Int) ∧ i + r = n ∧ ∀ a, a < i → l.getD a ByteArray.empty = k.getD a ByteArray.empty, ⟨n, Fr.refl _ _, 0, rfl, by omega, fun a ha => by omega⟩, ?_⟩
      rintro d x w1 r ⟨hf, i, rfl, hir, hno⟩
      refine sel_of (fun hd => ?_) (fun hd => ?_)
      · have hi : i < n := by have := of_decide_eq_true hd; omega
        obtain ⟨b, o, rfl, hc⟩ := h.2 (by omega)
        obtain ⟨b2, o2, rfl, hc2⟩ := h2.2 (by omega)
        refine ⟨by omega, by omega, needPtr_of rfl ⟨by omega, by omega, needPtr_of rfl ⟨_, by rw [Nat.mul_one, Int.toNat_natCast]; exact hf.cell (hc i (by omega)), _, by rw [Nat.mul_one, Int.toNat_natCast]; exact hf.cell (hc2 i (by omega)), sel_of (fun hs => ?_) (fun hs => ?_)⟩⟩⟩
        · have hs : l.getD i ByteArray.empty ≠ k.getD i ByteArray.empty := by simpa using hs
          refine ⟨?_, hf.drew⟩
          rw [decide_eq_false]
          rintro rfl; exact hs rfl
        · have hs : l.getD i ByteArray.empty = k.getD i ByteArray.empty := by simpa using hs
          rw [inc i n hn (by omega)]
          refine ⟨rfl, r - 1, by omega, hf.drew, i + 1, rfl, by omega, fun a ha => ?_⟩
          rcases Nat.lt_or_ge a i with h1 | h1
          · exact hno a h1
          · have : a = i := by omega
            subst this; exact hs
      · have hi : i = n := by have := of_decide_eq_false hd; omega
        refine ⟨?_, hf⟩
        rw [decide_eq_true]
        exact (ext_getD ByteArray.empty _ _).2 ⟨by omega, fun q hq => hno q (by omega)⟩
  · rintro e w' ⟨v, rfl, rfl, h⟩; exact ⟨rfl, h⟩
/-- The document's index, read. -/
theorem RefAt.things {w : World} {x : Nat} {l : List ByteArray} (h : RefAt w x l) : ∃ A c, w.cell? ⟨x, 0, none⟩ = some (.slice A l.length c) ∧ InX w A l.length l := by
  obtain ⟨F, hF⟩ := h
  obtain ⟨y, hS⟩ := openX (St.start1 hF)
  have hn := hS.slLen 1 rfl
  rw [List.length_map] at hn
  refine ⟨y.1, y.2.2, by rw [← hn]; exact (hS.blk 0 rfl).cell rfl, rfl, fun h0 => ?_⟩
  obtain ⟨_, g, hg, _⟩ := textAt hS 1 rfl h0
  refine ⟨g, 0, hg, fun i hi => ?_⟩
  obtain ⟨_, g2, hg2, hc⟩ := textAt hS 1 rfl hi
  rw [hg] at hg2
  injection hg2 with hg2
  injection hg2 with hg2
  subst hg2
  rw [Nat.mul_one] at hc
  exact hc
theorem thing_at (l : List ByteArray) (i : Nat) : thing l ((i + 1 : Nat) : Int) = if i < l.length then (l.getD i ByteArray.empty, true) else (ByteArray.empty, false) := by
  unfold thing
  by_cases h : i < l.length
  · rw [if_neg (by omega), if_pos h]
    have : (((i + 1 : Nat) : Int) - 1).toNat = i := by omega
    rw [this]; rfl
  · rw [if_pos (by omega), if_neg h]; rfl
def idI (w : World) (l k : List ByteArray) (x : Int) (w' : World) (r : Nat) : Prop := Fr [] w w' ∧ ∃ i : Nat, x = (i : Int) ∧ i + r = k.length ∧ ∀ a, a < i → l.getD a ByteArray.empty = k.getD a ByteArray.empty
theorem sameBody {w : World} {x y : Nat} {l k : List ByteArray} (hX : IdxAt w x l) (hY : RefAt w y k) (hl : l.length ≤ 1048576) (hlk : l.length = k.length) {x5 : Int} {w_2 : World} {r : Nat} (h : idI w l k x5 w_2 r) :
    ∃ (A20 : Option Addr) (n20 c20 : Nat), w_2.cell? ⟨y, 0, none⟩ = some (.slice A20 n20 c20) ∧
    sel (decide ((x5 : Int) < ((n20 : Int) : Int))) (
      Calls Try.prog 53 #[.pointer (some ⟨x, 0, none⟩), .int .i64 (IntKind.i64.wrap (x5 + 1))] w_2 fun e_2 w_3 =>
      ∃ (s29_0 : ByteArray) (b29_1 : Bool), e_2 = .returned (.tuple #[.string s29_0, .bool b29_1]) ∧
      sel (!b29_1) ((Value.bool false) = .bool (decide (l = k)) ∧ Fr [] w w_3) (
        ∃ (A39 : Option Addr) (n39 c39 : Nat), w_3.cell? ⟨y, 0, none⟩ = some (.slice A39 n39 c39) ∧
        (0 : Int) ≤ x5 ∧ x5 < (n39 : Int) ∧
        needPtr A39 fun b41 o41 => ∃ (s42 : ByteArray), w_3.cell? ⟨b41, o41 + x5.toNat * 1, none⟩ = some (.string s42) ∧
        sel (!(decide (s29_0 = s42))) ((Value.bool false) = .bool (decide (l = k)) ∧ Fr [] w w_3) (
          ([.pointer (some ⟨x, 0, none⟩), .pointer (some ⟨y, 0, none⟩)] : List Value) = ([.pointer (some ⟨x, 0, none⟩), .pointer (some ⟨y, 0, none⟩)] : List Value) ∧ ∃ m, m < r ∧ idI w l k (IntKind.i64.wrap (x5 + 1)) w_3 m))) (
      (Value.bool true) = .bool (decide (l = k)) ∧ Fr [] w w_2) := by
  obtain ⟨hf, i, rfl, hir, hno⟩ := h
  obtain ⟨A, c, hc, hI⟩ := (hY.fr hf).things
  refine ⟨A, _, c, hc, sel_of (fun hd => ?_) (fun hd => ?_)⟩
  · have hi : i < k.length := by have := of_decide_eq_true hd; omega
    rw [inc i 1048576 (by decide) (by omega)]
    refine Calls.mono (atE (hX.fr hf) hl _) ?_
    rintro _ w3 ⟨rfl, rfl⟩
    rw [thing_at, if_pos (by omega)]
    refine ⟨_, _, rfl, sel_of (fun h => by cases h) (fun _ => ⟨A, _, c, hc, by omega, by omega, InX.need (n := k.length) hI rfl hi (sel_of (fun hs => ?_) (fun hs => ?_))⟩)⟩
    · have hs : l.getD i ByteArray.empty ≠ k.getD i ByteArray.empty := by simpa using hs
      refine ⟨?_, hf⟩
      rw [decide_eq_false]
      rintro rfl; exact hs rfl
    · have hs : l.getD i ByteArray.empty = k.getD i ByteArray.empty := by simpa using hs
      refine ⟨rfl, r - 1, by omega, hf, i + 1, rfl, by omega, fun a ha => ?_⟩
      rcases Nat.lt_or_ge a i with h1 | h1
      · exact hno a h1
      · have : a = i := by omega
        subst this; exact hs
  · have hi : i = k.length := by have := of_decide_eq_false hd; omega
    refine ⟨?_, hf⟩
    rw [decide_eq_true]
    exact (ext_getD ByteArray.empty _ _).2 ⟨hlk, fun q hq => hno q (by omega)⟩
theorem sameIdx {w : World} {x y : Nat} {l k : List ByteArray} (hX : IdxAt w x l) (hY : RefAt w y k) (hl : l.length ≤ 1048576) :
    Calls Try.prog 19 #[.pointer (some ⟨x, 0, none⟩), .pointer (some ⟨y, 0, none⟩)] w fun e w' => e = .returned (.bool (decide (l = k))) ∧ Fr [] w w' := by
  refine Calls.mono (f19.calls (R := fun v w' => v = .bool (decide (l = k)) ∧ Fr [] w w') ?_) ?_
  · dsimp only [f19.VC]
    have h0 : Fr [] w w.drew := (Fr.refl [] w).drew
    have hne : ∀ {a b : List ByteArray}, ((a.length : Int) != (b.length : Int)) = true → decide (a = b) = false := by
      intro a b h
      have h : (a.length : Int) ≠ b.length := by simpa using h
      rw [decide_eq_false]
      rintro rfl; exact h rfl
    refine ⟨?_, ?_, trivial⟩
    · refine Calls.mono (lenE (hX.fr h0)) ?_
      rintro _ w1 ⟨rfl, rfl⟩
      obtain ⟨A, c, hc, hI⟩ := (hY.fr h0).things
      refine ⟨_, rfl, A, _, c, hc, sel_of (fun h => ⟨by rw [hne h], h0⟩) (fun h => ?_)⟩
      have h : l.length = k.length := by
        have h : (l.length : Int) = k.length := by simpa using h
        omega
      exact ⟨idI w l k, ⟨k.length, h0, 0, rfl, by omega, fun a ha => by omega⟩, fun d x5 w2 r hh => sameBody hX hY hl h hh⟩
    · obtain ⟨A, c, hc, hI⟩ := hY.things
      refine ⟨A, _, c, hc, Calls.mono (lenE (hX.fr h0)) ?_⟩
      rintro _ w1 ⟨rfl, rfl⟩
      refine ⟨_, rfl, sel_of (fun h => ⟨by rw [hne h], h0⟩) (fun h => ?_)⟩
      have h : l.length = k.length := by
        have h : (l.length : Int) = k.length := by simpa using h
        omega
      exact ⟨idI w l k, ⟨k.length, h0, 0, rfl, by omega, fun a ha => by omega⟩, fun d x5 w2 r hh => sameBody hX hY hl h hh⟩
  · rintro e w' ⟨v, rfl, rfl, h⟩; exact ⟨rfl, h⟩
/-- Are two graphs alike? -/
def sameG (g h : Gd) : Bool := decide (gA g = gA h) && decide (gS g = gS h) && decide (gO g = gO h) && decide (gF g = gF h) && decide (gN g = gN h) && decide (gM g = gM h)
theorem sameG_refl (g : Gd) : sameG g g = true := by simp [sameG]
theorem sameGR {w : World} {u v : GV} {g h : Gd} (hu : InG w u g) (hv : InG w v h) (hb : (u.a.2.1 ≤ 1000000000 ∧ u.s.2.1 ≤ 1000000000 ∧ u.o.2.1 ≤ 1000000000 ∧ u.f.2.1 ≤ 1000000000 ∧ u.n.2.1 ≤ 1000000000 ∧ u.m.2.1 ≤ 1000000000) ∧ ∀ r ∈ gM g, r.length ≤ 1000000000) :
    Calls Try.prog 22 #[u.v, v.v] w fun e w' => e = .returned (.bool (sameG g h)) ∧ Fr [] w w' := by
  refine Calls.mono (f22.calls (R := fun v w' => v = .bool (sameG g h) ∧ Fr [] w w') ?_) ?_
  · dsimp only [f22.VC]
    have hS1 := (St.start w).alloc u.cells 29
    generalize w.heap.size = b1 at *
    generalize World.alloc w (.cells u.cells 29) = w1 at *
    have hS := hS1.alloc v.cells 29
    generalize w1.heap.size = b2 at *
    generalize World.alloc w1 (.cells v.cells 29) = w2 at *
    clear hS1
    obtain ⟨⟨q1, q2, q3, q4, q5, q6⟩, q7⟩ := hb
    refine ⟨_, _, _, (hS.blk 1 rfl).cell rfl, _, _, _, (hS.blk 0 rfl).cell rfl, ?_⟩
    refine Calls.mono (hS.step0 (textsR (hu.fr hS.frame).a.1 (hv.fr hS.frame).a.1 q1)) ?_
    clear hS
    rintro _ w3 ⟨rfl, hS⟩
    refine ⟨_, rfl, sel_of (fun c => ⟨by simp at c; simp [sameG, c], hS.frame⟩) (fun d1 => ?_)⟩
    have d1 : decide (gA g = gA h) = true := by simpa using d1
    refine ⟨_, _, _, (hS.blk 1 rfl).cell rfl, _, _, _, (hS.blk 0 rfl).cell rfl, ?_⟩
    refine Calls.mono (hS.step0 (textsR (hu.fr hS.frame).s.1 (hv.fr hS.frame).s.1 q2)) ?_
    clear hS
    rintro _ w3 ⟨rfl, hS⟩
    refine ⟨_, rfl, sel_of (fun c => ⟨by simp at c; simp [sameG, c], hS.frame⟩) (fun d2 => ?_)⟩
    have d2 : decide (gS g = gS h) = true := by simpa using d2
    refine ⟨_, _, _, (hS.blk 1 rfl).cell rfl, _, _, _, (hS.blk 0 rfl).cell rfl, ?_⟩
    refine Calls.mono (hS.step0 (textsR (hu.fr hS.frame).o.1 (hv.fr hS.frame).o.1 q3)) ?_
    clear hS
    rintro _ w3 ⟨rfl, hS⟩
    refine ⟨_, rfl, sel_of (fun c => ⟨by simp at c; simp [sameG, c], hS.frame⟩) (fun d3 => ?_)⟩
    have d3 : decide (gO g = gO h) = true := by simpa using d3
    refine ⟨_, _, _, (hS.blk 1 rfl).cell rfl, _, _, _, (hS.blk 0 rfl).cell rfl, ?_⟩
    refine Calls.mono (hS.step0 (numbersR (hu.fr hS.frame).f.1 (hv.fr hS.frame).f.1 q4)) ?_
    clear hS
    rintro _ w3 ⟨rfl, hS⟩
    refine ⟨_, rfl, sel_of (fun c => ⟨by simp at c; simp [sameG, c], hS.frame⟩) (fun d4 => ?_)⟩
    have d4 : decide (gF g = gF h) = true := by simpa using d4
    refine ⟨_, _, _, (hS.blk 1 rfl).cell rfl, _, _, _, (hS.blk 0 rfl).cell rfl, ?_⟩
    refine Calls.mono (hS.step0 (numbersR (hu.fr hS.frame).n.1 (hv.fr hS.frame).n.1 q5)) ?_
    clear hS
    rintro _ w3 ⟨rfl, hS⟩
    refine ⟨_, rfl, sel_of (fun c => ⟨by simp at c; simp [sameG, c], hS.frame⟩) (fun d5 => ?_)⟩
    have d5 : decide (gN g = gN h) = true := by simpa using d5
    have hgo : sameG g h = decide (gM g = gM h) := by simp only [sameG, d1, d2, d3, d4, d5, Bool.true_and]
    rw [hgo]
    have m1 := hu.m.1.1
    have m2 := hv.m.1.1
    refine ⟨_, _, _, (hS.blk 1 rfl).cell rfl, _, _, _, (hS.blk 0 rfl).cell rfl, sel_of (fun c => ⟨?_, hS.frame⟩) (fun d6 => ?_)⟩
    · have c : (u.m.2.1 : Int) ≠ v.m.2.1 := by simpa using c
      rw [decide_eq_false]
      intro hh
      rw [hh] at m1; omega
    have d6 : (u.m.2.1 : Int) = v.m.2.1 := by simpa using d6
    refine ⟨fun x w' r => St [] w w' [Chunk.blk b2 v.cells 29, Chunk.blk b1 u.cells 29] ∧ ∃ i : Nat, x = (i : Int) ∧ i + r = u.m.2.1 ∧ ∀ a, a < i → (gM g).getD a [] = (gM h).getD a [], ⟨u.m.2.1, hS, 0, rfl, by omega, fun a ha => by omega⟩, ?_⟩
    clear hS
    rintro dd x w4 r ⟨hS, i, rfl, hir, hno⟩
    refine ⟨_, _, _, (hS.blk 1 rfl).cell rfl, sel_of (fun hd => ?_) (fun hd => ?_)⟩
    · have hi : i < u.m.2.1 := by have := of_decide_eq_true hd; omega
      refine ⟨_, _, _, (hS.blk 1 rfl).cell rfl, by omega, by omega, (hu.fr hS.frame).m.1.need rfl hi fun B1 k1 c1 hU => ?_⟩
      refine ⟨_, _, _, (hS.blk 0 rfl).cell rfl, by omega, by omega, (hv.fr hS.frame).m.1.need rfl (by omega) fun B2 k2 c2 hV => ?_⟩
      have hrl : k1 ≤ 1000000000 := by
        rw [hU.1]
        refine q7 _ ?_
        rw [List.getD_eq_getElem?_getD, List.getElem?_eq_getElem (by omega)]; exact List.getElem_mem _
      have hS2 := hS.drew
      refine Calls.mono (hS2.step0 (equalR (hU.fr (Fr.refl [] w4).drew) (hV.fr (Fr.refl [] w4).drew) hrl)) ?_
      rintro _ w5 ⟨rfl, hS3⟩
      refine ⟨_, rfl, sel_of (fun c => ⟨?_, hS3.frame⟩) (fun c => ?_)⟩
      · have c : (gM g).getD i [] ≠ (gM h).getD i [] := by simpa using c
        rw [decide_eq_false]
        intro hh; rw [hh] at c; exact c rfl
      · have c : (gM g).getD i [] = (gM h).getD i [] := by simpa using c
        rw [inc i 1000000000 (by omega) (by omega)]
        refine ⟨rfl, r - 1, by omega, hS3, i + 1, rfl, by omega, fun a ha => ?_⟩
        rcases Nat.lt_or_ge a i with h1 | h1
        · exact hno a h1
        · have : a = i := by omega
          subst this; exact c
    · have hi : i = u.m.2.1 := by have := of_decide_eq_false hd; omega
      refine ⟨?_, hS.frame⟩
      rw [decide_eq_true]
      exact (ext_getD [] _ _).2 ⟨by omega, fun q hq => hno q (by omega)⟩
  · rintro e w' ⟨v, rfl, rfl, h⟩; exact ⟨rfl, h⟩
end PG
end Go.Proofs.Ytjmlfknogjaemaa
/- Page: awake. -/
set_option linter.unusedVariables false
set_option linter.unusedSimpArgs false
set_option maxRecDepth 10000
namespace Go.Proofs.Ytjmlfknogjaemaa
open Go Go.Proofs.Ytjmlfknogjaemaa.Vc
namespace PG
open Vc.PG NI
theorem exW_le : ∀ i, exW.getD i 0 ≤ 9223372036854775807 := by
  intro i
  by_cases hi : i < 21
  · have : ∀ i : Fin 21, exW.getD i 0 ≤ 9223372036854775807 := by decide
    exact this ⟨i, hi⟩
  · rw [List.getD_eq_getElem?_getD, List.getElem?_eq_none (by simp [exW]; omega)]; decide
theorem awake (w : World) : Calls Try.prog 10 #[] w fun e w' => e = .returned (.bool true) ∧ Fr [] w w' := by
  refine Calls.mono (f10.calls (R := fun v w' => v = .bool true ∧ Fr [] w w') ?_) ?_
  · dsimp only [f10.VC]
    refine Calls.mono (NI.new (St.start w)) ?_
    rintro _ w1 ⟨x, rfl, hS1⟩
    refine ⟨_, rfl, sel_of (fun h => by cases h) (fun _ => ?_)⟩
    refine Calls.mono (smallC hS1) ?_
    rintro _ w2 ⟨v, rfl, hv, hS2⟩
    have hG2 : InG w2 v exG := hS2.says 0 rfl
    have hsz := sizeC hG2 ⟨by omega, by omega, by omega⟩
    rw [ex_size] at hsz
    refine ⟨_, _, _, _, _, _, _, _, _, _, _, _, _, _, _, _, _, _, rfl, ?_⟩
    refine Calls.mono (hS2.step0 hsz) ?_
    rintro _ w3 ⟨rfl, hS3⟩
    refine ⟨_, rfl, sel_of (fun h => by simp at h) (fun _ => ?_)⟩
    refine Calls.mono (smallC hS3) ?_
    rintro _ w4 ⟨u, rfl, hu, hS4⟩
    refine ⟨_, _, _, _, _, _, _, _, _, _, _, _, _, _, _, _, _, _, rfl, ?_⟩
    obtain ⟨F, hF, hG, hgr⟩ := hS4.graftW 2 rfl
    obtain ⟨G, hG4, hd⟩ := hG 0 _ (by decide) rfl
    have hlay := layC (St.start1 hF) (v := u) (g := exG) (fun w' hf => Chunk.keep_says (Chunk.fr _ hG4 hf hd)) (by simp) ⟨by omega, by omega, by omega⟩ 5
    rw [ex_lay] at hlay
    refine Calls.mono hlay ?_
    rintro _ w5 ⟨A, n, c, rfl, hS5⟩
    have hS6 := hgr (hS5.swap 0 1 rfl rfl)
    have hS6 : St [] w w5 [ints (.slice A n c) exW, gC u exG, gC v exG, idxC x exL] := hS6
    clear hS5 hlay hgr hG hF hG4
    refine ⟨_, _, _, _, rfl, sel_of (fun h => by cases h) (fun _ => ?_)⟩
    have hS7 := hS6.alloc (exW.map encN).toArray 3
    have hW7 : InW (w5.alloc (.cells (exW.map encN).toArray 3)) (some ⟨w5.heap.size, 0, none⟩) 21 exW := by
      obtain ⟨F, hF, _⟩ := hS7.at 0 rfl
      have := Chunk.ls_says 0 (ls_of_blk (l := exW) (enc := encN) (by decide) hF)
      exact ⟨this.1, this.2.2⟩
    have hn : n = 21 := hS6.lsLen 0 rfl
    subst hn
    refine Calls.mono (hS7.step0 (sameC (St.inI hS7 1 rfl) hW7 (by decide))) ?_
    rintro _ w7 ⟨rfl, hS8⟩
    refine ⟨_, rfl, sel_of (fun h => by simp at h) (fun _ => ?_)⟩
    have d1 := decC (St.inI hS8 1 rfl) (c := c) (by decide) 2 3 1
    rw [ex_dec1] at d1
    refine Calls.mono (hS8.step0 d1) ?_
    rintro _ w8 ⟨rfl, hS9⟩
    refine ⟨_, _, rfl, ?_⟩
    have d2 := decC (St.inI hS9 1 rfl) (c := c) (by decide) 2 3 2
    rw [ex_dec2] at d2
    refine Calls.mono (hS9.step0 d2) ?_
    rintro _ w9 ⟨rfl, hS10⟩
    refine ⟨_, _, rfl, ?_⟩
    have hrd := readC (St.inI hS10 1 rfl) (c := c) (idxAt hS10 4 rfl) (by decide) (by decide) exW_le
    refine Calls.mono hrd ?_
    obtain ⟨q1, q2, q3⟩ := ex_read
    rintro _ w10 ⟨_, rfl, g, rfl, hS11⟩
    rw [q1, q2]
    have hg : InG w10 g (readP exW exL).2.1 := hS11.says 0 rfl
    have hgs : g.s.2.1 = 1 := by rw [hg.s.1.1, q3]
    have hS12 := hS10.gone hS11
    have hS13 := hS12.alloc #[.slice none 0 0, .slice none 0 0, .slice none 0 0, .slice none 0 0, .slice none 0 0, .slice none 0 0] 29
    have hS14 := hS13.over 0 rfl [g.a.v, g.s.v, g.o.v, g.f.v, g.n.v, g.m.v] rfl
    refine ⟨_, _, _, _, _, _, _, _, _, _, _, _, _, _, _, _, _, _, _, _, rfl, (hS13.blk 0 rfl).can (by decide), ?_⟩
    refine sel_of (fun _ => sel_of (fun _ => sel_of (fun _ => sel_of (fun _ => sel_of (fun _ => sel_of (fun _ => ?_) (fun h => by simp at h)) (fun h => by simp at h)) (fun h => by simp at h)) (fun h => by simp at h)) (fun h => by simp at h)) (fun h => by simp at h)
    refine ⟨_, _, _, (hS14.blk 0 rfl).cell rfl, sel_of (fun _ => ?_) (fun h => by rw [hgs] at h; simp at h)⟩
    have hh := hashP (setCs (World.alloc w10 (.cells #[.slice none 0 0, .slice none 0 0, .slice none 0 0, .slice none 0 0, .slice none 0 0, .slice none 0 0] 29)) w10.heap.size 0 [g.a.v, g.s.v, g.o.v, g.f.v, g.n.v, g.m.v]) 9 8 (by decide)
    rw [ex_hash] at hh
    refine Calls.mono (hS14.step0 hh) ?_
    rintro _ w13 ⟨rfl, hS15⟩
    exact ⟨_, rfl, rfl, hS15.frame⟩
  · rintro e w' ⟨v, rfl, rfl, h⟩; exact ⟨rfl, h⟩
end PG
end Go.Proofs.Ytjmlfknogjaemaa
/- The plain statements of some functions, printed by vcgen.py. -/
set_option maxRecDepth 100000
set_option linter.unusedVariables false
namespace Go.Proofs.Ytjmlfknogjaemaa
open Go Go.Proofs.Ytjmlfknogjaemaa.Vc
theorem W18.mixed : Try.prog.follows .mixedOrders = true := by kernel_rfl
/-- gatehouse/gatehouselaw12.PageAsked -/
def f5.AL : Nat → Option Ann := fun r => match r with | 5 => some ⟨[(7, .bool), (10, .int .i64)], [0, 1, 2, 8, 9]⟩ | 8 => some ⟨[(7, .bool), (11, .int .i64)], [0, 1, 2, 8, 9, 10]⟩ | 13 => some ⟨[(12, .int .i64)], [1, 2, 7, 9]⟩ | 18 => some ⟨[(7, .bool), (14, .int .i64)], [2, 9, 13]⟩ | _ => none
def f5.AC : Nat → Option Ann := fun r => match r with | 11 => some ⟨[(7, .bool)], [0, 1, 2, 8, 9]⟩ | 12 => some ⟨[(7, .bool)], [1, 2, 9]⟩ | 16 => some ⟨[], [2, 7, 9]⟩ | _ => none
def f5.VC (Aa0 : Option Addr) (na0 ca0 : Nat) (Aa1 : Option Addr) (na1 ca1 : Nat) (Aa2 : Option Addr) (na2 ca2 : Nat) (w : World) (R : Value → World → Prop) : Prop :=
  Calls Try.prog 10 #[] w fun e_1 w_1 =>
  ∃ (b15 : Bool),
  e_1 = .returned (.bool b15) ∧
  Calls Try.prog 24 #[.slice Aa0 na0 ca0, .int .i64 40] w_1 fun e_2 w_2 =>
  ∃ (A17 : Option Addr) (n17 c17 : Nat),
  e_2 = .returned (.slice A17 n17 c17) ∧
  (0 : Int) ≤ (na0 : Int) ∧ (na0 : Int) ≤ (c17 : Int) ∧
  ∃ M : Bool → World → Prop,
  (∃ I : Bool → Int → World → Nat → Prop,
    (∃ n, I b15 0 w_2 n) ∧
    ∀ d : Env, ∀ (b7 : Bool) (x10 : Int) (w_3 : World) (r : Nat), I b7 x10 w_3 r →
    sel (decide ((x10 : Int) < (2 : Int))) (
      sel b7 (
        ∃ I_1 : Bool → Int → World → Nat → Prop,
        (∃ n, I_1 b7 0 w_3 n) ∧
        ∀ d_1 : Env, ∀ (b7_1 : Bool) (x11 : Int) (w_4 : World) (r_1 : Nat), I_1 b7_1 x11 w_4 r_1 →
        sel (decide ((x11 : Int) < ((na2 : Int) : Int))) (
          sel b7_1 (
            (0 : Int) ≤ x11 ∧ x11 < (na2 : Int) ∧
            needPtr Aa2 fun b42 o42 =>
            ∃ (x43_0 : Int),
            w_4.cell? ⟨b42, o42 + x11.toNat * 4, none⟩ = some (.int .i64 x43_0) ∧
            ∃ (x43_1 : Int),
            w_4.cell? ⟨b42, o42 + x11.toNat * 4 + 1, none⟩ = some (.int .i64 x43_1) ∧
            ∃ (x43_2 : Int),
            w_4.cell? ⟨b42, o42 + x11.toNat * 4 + 1 + 1, none⟩ = some (.int .i64 x43_2) ∧
            ∃ (x43_3 : Int),
            w_4.cell? ⟨b42, o42 + x11.toNat * 4 + 1 + 1 + 1, none⟩ = some (.int .i8 x43_3) ∧
            Calls Try.prog 25 #[.slice A17 (na0 : Int).toNat c17, .slice Aa0 na0 ca0, .agg #[.int .i64 x43_0, .int .i64 x43_1, .int .i64 x43_2, .int .i8 x43_3]] w_4 fun e_3 w_5 =>
            ∃ (b44 : Bool),
            e_3 = .returned (.bool b44) ∧
            let i37 : Int := IntKind.i64.wrap (x11 + 1);
            ([.slice Aa0 na0 ca0, .slice Aa1 na1 ca1, .slice Aa2 na2 ca2, .slice A17 n17 c17, .slice A17 (na0 : Int).toNat c17, .int .i64 x10] : List Value) = ([.slice Aa0 na0 ca0, .slice Aa1 na1 ca1, .slice Aa2 na2 ca2, .slice A17 n17 c17, .slice A17 (na0 : Int).toNat c17, .int .i64 x10] : List Value) ∧ ∃ m, m < r_1 ∧ I_1 b44 i37 w_5 m) (
            let i28 : Int := IntKind.i64.wrap (x10 + 1);
            ([.slice Aa0 na0 ca0, .slice Aa1 na1 ca1, .slice Aa2 na2 ca2, .slice A17 n17 c17, .slice A17 (na0 : Int).toNat c17] : List Value) = ([.slice Aa0 na0 ca0, .slice Aa1 na1 ca1, .slice Aa2 na2 ca2, .slice A17 n17 c17, .slice A17 (na0 : Int).toNat c17] : List Value) ∧ ∃ m, m < r ∧ I b7_1 i28 w_4 m)) (
          let i28_1 : Int := IntKind.i64.wrap (x10 + 1);
          ([.slice Aa0 na0 ca0, .slice Aa1 na1 ca1, .slice Aa2 na2 ca2, .slice A17 n17 c17, .slice A17 (na0 : Int).toNat c17] : List Value) = ([.slice Aa0 na0 ca0, .slice Aa1 na1 ca1, .slice Aa2 na2 ca2, .slice A17 n17 c17, .slice A17 (na0 : Int).toNat c17] : List Value) ∧ ∃ m, m < r ∧ I b7_1 i28_1 w_4 m)) (
        ([.slice Aa0 na0 ca0, .slice Aa1 na1 ca1, .slice Aa2 na2 ca2, .slice A17 n17 c17, .slice A17 (na0 : Int).toNat c17] : List Value) = ([.slice Aa0 na0 ca0, .slice Aa1 na1 ca1, .slice Aa2 na2 ca2, .slice A17 n17 c17, .slice A17 (na0 : Int).toNat c17] : List Value) ∧ M b7 w_3)) (
      ([.slice Aa0 na0 ca0, .slice Aa1 na1 ca1, .slice Aa2 na2 ca2, .slice A17 n17 c17, .slice A17 (na0 : Int).toNat c17] : List Value) = ([.slice Aa0 na0 ca0, .slice Aa1 na1 ca1, .slice Aa2 na2 ca2, .slice A17 n17 c17, .slice A17 (na0 : Int).toNat c17] : List Value) ∧ M b7 w_3)) ∧
  ∀ d_2 : Env, ∀ (b7_2 : Bool) (w_6 : World), M b7_2 w_6 →
  ∃ M_1 : Bool → World → Prop,
  (sel b7_2 (
      Calls Try.prog 24 #[.slice Aa0 na0 ca0, .int .i64 40] w_6 fun e_4 w_7 =>
      ∃ (A49 : Option Addr) (n49 c49 : Nat),
      e_4 = .returned (.slice A49 n49 c49) ∧
      Calls Try.prog 18 #[.slice A17 n17 c17, .slice A49 n49 c49] w_7 fun e_5 w_8 =>
      ∃ (b50 : Bool),
      e_5 = .returned (.bool b50) ∧
      ([.slice Aa1 na1 ca1, .slice Aa2 na2 ca2, .slice A17 (na0 : Int).toNat c17] : List Value) = ([.slice Aa1 na1 ca1, .slice Aa2 na2 ca2, .slice A17 (na0 : Int).toNat c17] : List Value) ∧ M_1 b50 w_8) (
      ([.slice Aa1 na1 ca1, .slice Aa2 na2 ca2, .slice A17 (na0 : Int).toNat c17] : List Value) = ([.slice Aa1 na1 ca1, .slice Aa2 na2 ca2, .slice A17 (na0 : Int).toNat c17] : List Value) ∧ M_1 false w_6)) ∧
  ∀ d_3 : Env, ∀ (b7_3 : Bool) (w_9 : World), M_1 b7_3 w_9 →
  ∃ M_2 : World → Prop,
  (∃ I_2 : Int → World → Nat → Prop,
    (∃ n, I_2 0 w_9 n) ∧
    ∀ d_4 : Env, ∀ (x12 : Int) (w_10 : World) (r_2 : Nat), I_2 x12 w_10 r_2 →
    sel (decide ((x12 : Int) < (((na0 : Int).toNat : Int) : Int))) (
      sel (decide ((x12 : Int) < ((na1 : Int) : Int))) (
        (0 : Int) ≤ x12 ∧ x12 < (na1 : Int) ∧
        needPtr Aa1 fun b68 o68 =>
        ∃ (x69 : Int),
        w_10.cell? ⟨b68, o68 + x12.toNat * 1, none⟩ = some (.int .i64 x69) ∧
        (0 : Int) ≤ x12 ∧ x12 < ((na0 : Int).toNat : Int) ∧
        needPtr A17 fun b70 o70 =>
        canStore w_10 b70 (o70 + x12.toNat * 1) 1 ∧
        let w_11 : World := setCs w_10 b70 (o70 + x12.toNat * 1) [.int .i64 x69];
        let i63 : Int := IntKind.i64.wrap (x12 + 1);
        ([.slice Aa1 na1 ca1, .slice Aa2 na2 ca2, .bool b7_3, .slice A17 (na0 : Int).toNat c17] : List Value) = ([.slice Aa1 na1 ca1, .slice Aa2 na2 ca2, .bool b7_3, .slice A17 (na0 : Int).toNat c17] : List Value) ∧ ∃ m, m < r_2 ∧ I_2 i63 w_11 m) (
        ([.slice Aa2 na2 ca2, .bool b7_3, .slice A17 (na0 : Int).toNat c17] : List Value) = ([.slice Aa2 na2 ca2, .bool b7_3, .slice A17 (na0 : Int).toNat c17] : List Value) ∧ M_2 w_10)) (
      ([.slice Aa2 na2 ca2, .bool b7_3, .slice A17 (na0 : Int).toNat c17] : List Value) = ([.slice Aa2 na2 ca2, .bool b7_3, .slice A17 (na0 : Int).toNat c17] : List Value) ∧ M_2 w_10)) ∧
  ∀ d_5 : Env, ∀  (w_12 : World), M_2 w_12 →
  Calls Try.prog 24 #[.slice A17 (na0 : Int).toNat c17, .int .i64 0] w_12 fun e_6 w_13 =>
  ∃ (A72 : Option Addr) (n72 c72 : Nat),
  e_6 = .returned (.slice A72 n72 c72) ∧
  ∃ I_3 : Bool → Int → World → Nat → Prop,
  (∃ n, I_3 b7_3 0 w_13 n) ∧
  ∀ d_6 : Env, ∀ (b7_4 : Bool) (x14 : Int) (w_14 : World) (r_3 : Nat), I_3 b7_4 x14 w_14 r_3 →
  sel (decide ((x14 : Int) < ((na2 : Int) : Int))) (
    sel b7_4 (
      (0 : Int) ≤ x14 ∧ x14 < (na2 : Int) ∧
      needPtr Aa2 fun b86 o86 =>
      ∃ (x87_0 : Int),
      w_14.cell? ⟨b86, o86 + x14.toNat * 4, none⟩ = some (.int .i64 x87_0) ∧
      ∃ (x87_1 : Int),
      w_14.cell? ⟨b86, o86 + x14.toNat * 4 + 1, none⟩ = some (.int .i64 x87_1) ∧
      ∃ (x87_2 : Int),
      w_14.cell? ⟨b86, o86 + x14.toNat * 4 + 1 + 1, none⟩ = some (.int .i64 x87_2) ∧
      ∃ (x87_3 : Int),
      w_14.cell? ⟨b86, o86 + x14.toNat * 4 + 1 + 1 + 1, none⟩ = some (.int .i8 x87_3) ∧
      Calls Try.prog 25 #[.slice A17 (na0 : Int).toNat c17, .slice A72 n72 c72, .agg #[.int .i64 x87_0, .int .i64 x87_1, .int .i64 x87_2, .int .i8 x87_3]] w_14 fun e_7 w_15 =>
      ∃ (b88 : Bool),
      e_7 = .returned (.bool b88) ∧
      let i81 : Int := IntKind.i64.wrap (x14 + 1);
      ([.slice Aa2 na2 ca2, .slice A17 (na0 : Int).toNat c17, .slice A72 n72 c72] : List Value) = ([.slice Aa2 na2 ca2, .slice A17 (na0 : Int).toNat c17, .slice A72 n72 c72] : List Value) ∧ ∃ m, m < r_3 ∧ I_3 b88 i81 w_15 m) (
      R (.bool b7_4) w_14)) (
    R (.bool b7_4) w_14)
theorem f5.eq (Aa0 : Option Addr) (na0 ca0 : Nat) (Aa1 : Option Addr) (na1 ca1 : Nat) (Aa2 : Option Addr) (na2 ca2 : Nat) (w : World) (R : Value → World → Prop) : f5.VC Aa0 na0 ca0 Aa1 na1 ca1 Aa2 na2 ca2 w R = funV Try.prog Try.f5 f5.AL f5.AC #[.slice Aa0 na0 ca0, .slice Aa1 na1 ca1, .slice Aa2 na2 ca2] w R := by kernel_rfl
theorem f5.calls {Aa0 : Option Addr} {na0 ca0 : Nat} {Aa1 : Option Addr} {na1 ca1 : Nat} {Aa2 : Option Addr} {na2 ca2 : Nat} {w : World} {R : Value → World → Prop} (h : f5.VC Aa0 na0 ca0 Aa1 na1 ca1 Aa2 na2 ca2 w R) : Calls Try.prog 5 #[.slice Aa0 na0 ca0, .slice Aa1 na1 ca1, .slice Aa2 na2 ca2] w fun e w' => ∃ v, e = .returned v ∧ R v w' :=
  funV_sound (fn := Try.f5) (AL := f5.AL) (AC := f5.AC) W18.mixed (by kernel_rfl) (by rw [← f5.eq Aa0 na0 ca0 Aa1 na1 ca1 Aa2 na2 ca2]; exact h)

end Go.Proofs.Ytjmlfknogjaemaa
