/- Page: graphs and indexes that are alike. -/
import Derived.Test.YtjmlfknogjaemaaM30
import Derived.Test.YtjmlfknogjaemaaM31
import Derived.Test.YtjmlfknogjaemaaM4
import Derived.Test.YtjmlfknogjaemaaProg
import Derived.KernelRfl
set_option linter.unusedVariables false
set_option linter.unusedSimpArgs false
set_option maxRecDepth 10000
namespace Go.Proofs.Ytjmlfknogjaemaa
open Go Go.Proofs.Ytjmlfknogjaemaa.Vc
namespace PG
open Vc.PG NI
theorem numbersR {w : World} {A B : Option Addr} {n c m d : Nat} {l k : List Int} (h : InW w A n l) (h2 : InW w B m k) (hn : n ≤ 1000000000) : Calls Try.prog 55 #[.slice A n c, .slice B m d] w fun e w' => e = .returned (.bool (decide (l = k))) ∧ Fr [] w w' := by
  refine Calls.mono (f55.calls (R := fun v w' => v = .bool (decide (l = k)) ∧ Fr [] w w') ?_) ?_
  · dsimp only [f55.VC]
    have hl := h.1
    have hk := h2.1
    refine sel_of (fun hd => ?_) (fun hd => ?_)
    · have hd : (n : Int) ≠ m := by simpa using hd
      refine ⟨?_, Fr.refl _ _⟩
      rw [decide_eq_false]
      rintro rfl; omega
    · have hd : (n : Int) = m := by simpa using hd
      refine ⟨fun x w' r => Fr [] w w' ∧ ∃ i : Nat, x = (i : Int) ∧ i + r = n ∧ ∀ a, a < i → l.getD a 0 = k.getD a 0, ⟨n, Fr.refl _ _, 0, rfl, by omega, fun a ha => by omega⟩, ?_⟩
      rintro d x w1 r ⟨hf, i, rfl, hir, hno⟩
      refine sel_of (fun hd => ?_) (fun hd => ?_)
      · have hi : i < n := by have := of_decide_eq_true hd; omega
        obtain ⟨b, o, rfl, hc⟩ := h.2 (by omega)
        obtain ⟨b2, o2, rfl, hc2⟩ := h2.2 (by omega)
        refine ⟨by omega, by omega, needPtr_of rfl ⟨by omega, by omega, needPtr_of rfl ⟨_, by rw [Nat.mul_one, Int.toNat_natCast]; exact hf.cell (hc i (by omega)), _, by rw [Nat.mul_one, Int.toNat_natCast]; exact hf.cell (hc2 i (by omega)), sel_of (fun hs => ?_) (fun hs => ?_)⟩⟩⟩
        · have hs : l.getD i 0 ≠ k.getD i 0 := by simpa using hs
          refine ⟨?_, hf.drew⟩
          rw [decide_eq_false]
          rintro rfl; exact hs rfl
        · have hs : l.getD i 0 = k.getD i 0 := by simpa using hs
          rw [inc i n hn (by omega)]
          refine ⟨rfl, r - 1, by omega, hf.drew, i + 1, rfl, by omega, fun a ha => ?_⟩
          rcases Nat.lt_or_ge a i with h1 | h1
          · exact hno a h1
          · have : a = i := by omega
            subst this; exact hs
      · have hi : i = n := by have := of_decide_eq_false hd; omega
        refine ⟨?_, hf⟩
        rw [decide_eq_true]
        exact (ext_getD 0 _ _).2 ⟨by omega, fun q hq => hno q (by omega)⟩
  · rintro e w' ⟨v, rfl, rfl, h⟩; exact ⟨rfl, h⟩
theorem textsR {w : World} {A B : Option Addr} {n c m d : Nat} {l k : List ByteArray} (h : InX w A n l) (h2 : InX w B m k) (hn : n ≤ 1000000000) : Calls Try.prog 54 #[.slice A n c, .slice B m d] w fun e w' => e = .returned (.bool (decide (l = k))) ∧ Fr [] w w' := by
  refine Calls.mono (f54.calls (R := fun v w' => v = .bool (decide (l = k)) ∧ Fr [] w w') ?_) ?_
  · dsimp only [f54.VC]
    have hl := h.1
    have hk := h2.1
    refine sel_of (fun hd => ?_) (fun hd => ?_)
    · have hd : (n : Int) ≠ m := by simpa using hd
      refine ⟨?_, Fr.refl _ _⟩
      rw [decide_eq_false]
      rintro rfl; omega
    · have hd : (n : Int) = m := by simpa using hd
      refine ⟨fun x w' r => Fr [] w w' ∧ ∃ i : Nat, x = (i : Int) ∧ i + r = n ∧ ∀ a, a < i → l.getD a ByteArray.empty = k.getD a ByteArray.empty, ⟨n, Fr.refl _ _, 0, rfl, by omega, fun a ha => by omega⟩, ?_⟩
      rintro d x w1 r ⟨hf, i, rfl, hir, hno⟩
      refine sel_of (fun hd => ?_) (fun hd => ?_)
      · have hi : i < n := by have := of_decide_eq_true hd; omega
        obtain ⟨b, o, rfl, hc⟩ := h.2 (by omega)
        obtain ⟨b2, o2, rfl, hc2⟩ := h2.2 (by omega)
        refine ⟨by omega, by omega, needPtr_of rfl ⟨by omega, by omega, needPtr_of rfl ⟨_, by rw [Nat.mul_one, Int.toNat_natCast]; exact hf.cell (hc i (by omega)), _, by rw [Nat.mul_one, Int.toNat_natCast]; exact hf.cell (hc2 i (by omega)), sel_of (fun hs => ?_) (fun hs => ?_)⟩⟩⟩
        · have hs : l.getD i ByteArray.empty ≠ k.getD i ByteArray.empty := by simpa using hs
          refine ⟨?_, hf.drew⟩
          rw [decide_eq_false]
          rintro rfl; exact hs rfl
        · have hs : l.getD i ByteArray.empty = k.getD i ByteArray.empty := by simpa using hs
          rw [inc i n hn (by omega)]
          refine ⟨rfl, r - 1, by omega, hf.drew, i + 1, rfl, by omega, fun a ha => ?_⟩
          rcases Nat.lt_or_ge a i with h1 | h1
          · exact hno a h1
          · have : a = i := by omega
            subst this; exact hs
      · have hi : i = n := by have := of_decide_eq_false hd; omega
        refine ⟨?_, hf⟩
        rw [decide_eq_true]
        exact (ext_getD ByteArray.empty _ _).2 ⟨by omega, fun q hq => hno q (by omega)⟩
  · rintro e w' ⟨v, rfl, rfl, h⟩; exact ⟨rfl, h⟩
/-- The document's index, read. -/
theorem RefAt.things {w : World} {x : Nat} {l : List ByteArray} (h : RefAt w x l) : ∃ A c, w.cell? ⟨x, 0, none⟩ = some (.slice A l.length c) ∧ InX w A l.length l := by
  obtain ⟨F, hF⟩ := h
  obtain ⟨y, hS⟩ := openX (St.start1 hF)
  have hn := hS.slLen 1 rfl
  rw [List.length_map] at hn
  refine ⟨y.1, y.2.2, by rw [← hn]; exact (hS.blk 0 rfl).cell rfl, rfl, fun h0 => ?_⟩
  obtain ⟨_, g, hg, _⟩ := textAt hS 1 rfl h0
  refine ⟨g, 0, hg, fun i hi => ?_⟩
  obtain ⟨_, g2, hg2, hc⟩ := textAt hS 1 rfl hi
  rw [hg] at hg2
  injection hg2 with hg2
  injection hg2 with hg2
  subst hg2
  rw [Nat.mul_one] at hc
  exact hc
/-- Are two graphs alike? -/
def sameG (g h : Gd) : Bool := decide (gA g = gA h) && decide (gS g = gS h) && decide (gO g = gO h) && decide (gF g = gF h) && decide (gN g = gN h) && decide (gM g = gM h)
theorem sameG_refl (g : Gd) : sameG g g = true := by simp [sameG]
theorem sameGR {w : World} {u v : GV} {g h : Gd} (hu : InG w u g) (hv : InG w v h) (hb : (u.a.2.1 ≤ 1000000000 ∧ u.s.2.1 ≤ 1000000000 ∧ u.o.2.1 ≤ 1000000000 ∧ u.f.2.1 ≤ 1000000000 ∧ u.n.2.1 ≤ 1000000000 ∧ u.m.2.1 ≤ 1000000000) ∧ ∀ r ∈ gM g, r.length ≤ 1000000000) :
    Calls Try.prog 22 #[u.v, v.v] w fun e w' => e = .returned (.bool (sameG g h)) ∧ Fr [] w w' := by
  refine Calls.mono (f22.calls (R := fun v w' => v = .bool (sameG g h) ∧ Fr [] w w') ?_) ?_
  · dsimp only [f22.VC]
    have hS1 := (St.start w).alloc u.cells 29
    generalize w.heap.size = b1 at *
    generalize World.alloc w (.cells u.cells 29) = w1 at *
    have hS := hS1.alloc v.cells 29
    generalize w1.heap.size = b2 at *
    generalize World.alloc w1 (.cells v.cells 29) = w2 at *
    clear hS1
    obtain ⟨⟨q1, q2, q3, q4, q5, q6⟩, q7⟩ := hb
    refine ⟨_, _, _, (hS.blk 1 rfl).cell rfl, _, _, _, (hS.blk 0 rfl).cell rfl, ?_⟩
    refine Calls.mono (hS.step0 (textsR (hu.fr hS.frame).a.1 (hv.fr hS.frame).a.1 q1)) ?_
    clear hS
    rintro _ w3 ⟨rfl, hS⟩
    refine ⟨_, rfl, sel_of (fun c => ⟨by simp at c; simp [sameG, c], hS.frame⟩) (fun d1 => ?_)⟩
    have d1 : decide (gA g = gA h) = true := by simpa using d1
    refine ⟨_, _, _, (hS.blk 1 rfl).cell rfl, _, _, _, (hS.blk 0 rfl).cell rfl, ?_⟩
    refine Calls.mono (hS.step0 (textsR (hu.fr hS.frame).s.1 (hv.fr hS.frame).s.1 q2)) ?_
    clear hS
    rintro _ w3 ⟨rfl, hS⟩
    refine ⟨_, rfl, sel_of (fun c => ⟨by simp at c; simp [sameG, c], hS.frame⟩) (fun d2 => ?_)⟩
    have d2 : decide (gS g = gS h) = true := by simpa using d2
    refine ⟨_, _, _, (hS.blk 1 rfl).cell rfl, _, _, _, (hS.blk 0 rfl).cell rfl, ?_⟩
    refine Calls.mono (hS.step0 (textsR (hu.fr hS.frame).o.1 (hv.fr hS.frame).o.1 q3)) ?_
    clear hS
    rintro _ w3 ⟨rfl, hS⟩
    refine ⟨_, rfl, sel_of (fun c => ⟨by simp at c; simp [sameG, c], hS.frame⟩) (fun d3 => ?_)⟩
    have d3 : decide (gO g = gO h) = true := by simpa using d3
    refine ⟨_, _, _, (hS.blk 1 rfl).cell rfl, _, _, _, (hS.blk 0 rfl).cell rfl, ?_⟩
    refine Calls.mono (hS.step0 (numbersR (hu.fr hS.frame).f.1 (hv.fr hS.frame).f.1 q4)) ?_
    clear hS
    rintro _ w3 ⟨rfl, hS⟩
    refine ⟨_, rfl, sel_of (fun c => ⟨by simp at c; simp [sameG, c], hS.frame⟩) (fun d4 => ?_)⟩
    have d4 : decide (gF g = gF h) = true := by simpa using d4
    refine ⟨_, _, _, (hS.blk 1 rfl).cell rfl, _, _, _, (hS.blk 0 rfl).cell rfl, ?_⟩
    refine Calls.mono (hS.step0 (numbersR (hu.fr hS.frame).n.1 (hv.fr hS.frame).n.1 q5)) ?_
    clear hS
    rintro _ w3 ⟨rfl, hS⟩
    refine ⟨_, rfl, sel_of (fun c => ⟨by simp at c; simp [sameG, c], hS.frame⟩) (fun d5 => ?_)⟩
    have d5 : decide (gN g = gN h) = true := by simpa using d5
    have hgo : sameG g h = decide (gM g = gM h) := by simp only [sameG, d1, d2, d3, d4, d5, Bool.true_and]
    rw [hgo]
    have m1 := hu.m.1.1
    have m2 := hv.m.1.1
    refine ⟨_, _, _, (hS.blk 1 rfl).cell rfl, _, _, _, (hS.blk 0 rfl).cell rfl, sel_of (fun c => ⟨?_, hS.frame⟩) (fun d6 => ?_)⟩
    · have c : (u.m.2.1 : Int) ≠ v.m.2.1 := by simpa using c
      rw [decide_eq_false]
      intro hh
      rw [hh] at m1; omega
    have d6 : (u.m.2.1 : Int) = v.m.2.1 := by simpa using d6
    refine ⟨fun x w' r => St [] w w' [Chunk.blk b2 v.cells 29, Chunk.blk b1 u.cells 29] ∧ ∃ i : Nat, x = (i : Int) ∧ i + r = u.m.2.1 ∧ ∀ a, a < i → (gM g).getD a [] = (gM h).getD a [], ⟨u.m.2.1, hS, 0, rfl, by omega, fun a ha => by omega⟩, ?_⟩
    clear hS
    rintro dd x w4 r ⟨hS, i, rfl, hir, hno⟩
    refine ⟨_, _, _, (hS.blk 1 rfl).cell rfl, sel_of (fun hd => ?_) (fun hd => ?_)⟩
    · have hi : i < u.m.2.1 := by have := of_decide_eq_true hd; omega
      refine ⟨_, _, _, (hS.blk 1 rfl).cell rfl, by omega, by omega, (hu.fr hS.frame).m.1.need rfl hi fun B1 k1 c1 hU => ?_⟩
      refine ⟨_, _, _, (hS.blk 0 rfl).cell rfl, by omega, by omega, (hv.fr hS.frame).m.1.need rfl (by omega) fun B2 k2 c2 hV => ?_⟩
      have hrl : k1 ≤ 1000000000 := by
        rw [hU.1]
        refine q7 _ ?_
        rw [List.getD_eq_getElem?_getD, List.getElem?_eq_getElem (by omega)]; exact List.getElem_mem _
      have hS2 := hS.drew
      refine Calls.mono (hS2.step0 (equalR (hU.fr (Fr.refl [] w4).drew) (hV.fr (Fr.refl [] w4).drew) hrl)) ?_
      rintro _ w5 ⟨rfl, hS3⟩
      refine ⟨_, rfl, sel_of (fun c => ⟨?_, hS3.frame⟩) (fun c => ?_)⟩
      · have c : (gM g).getD i [] ≠ (gM h).getD i [] := by simpa using c
        rw [decide_eq_false]
        intro hh; rw [hh] at c; exact c rfl
      · have c : (gM g).getD i [] = (gM h).getD i [] := by simpa using c
        rw [inc i 1000000000 (by omega) (by omega)]
        refine ⟨rfl, r - 1, by omega, hS3, i + 1, rfl, by omega, fun a ha => ?_⟩
        rcases Nat.lt_or_ge a i with h1 | h1
        · exact hno a h1
        · have : a = i := by omega
          subst this; exact c
    · have hi : i = u.m.2.1 := by have := of_decide_eq_false hd; omega
      refine ⟨?_, hS.frame⟩
      rw [decide_eq_true]
      exact (ext_getD [] _ _).2 ⟨by omega, fun q hq => hno q (by omega)⟩
  · rintro e w' ⟨v, rfl, rfl, h⟩; exact ⟨rfl, h⟩
end PG
end Go.Proofs.Ytjmlfknogjaemaa
/- The plain statements of some functions, printed by vcgen.py. -/
set_option maxRecDepth 100000
set_option linter.unusedVariables false
namespace Go.Proofs.Ytjmlfknogjaemaa
open Go Go.Proofs.Ytjmlfknogjaemaa.Vc
theorem W22.mixed : Try.prog.follows .mixedOrders = true := by kernel_rfl
/-- gatehouse/gatehouselaw12.twin -/
def f15.AL : Nat → Option Ann := fun r => match r with | 3 => some ⟨[(4, .int .i64)], [1, 2, 3]⟩ | _ => none
def f15.AC : Nat → Option Ann := fun r => match r with | 2 => some ⟨[(3, .blk)], [1, 2]⟩ | 1000001 => some ⟨[], []⟩ | _ => none
def f15.VC (Aa0_0 : Option Addr) (na0_0 ca0_0 : Nat) (Aa0_1 : Option Addr) (na0_1 ca0_1 : Nat) (Aa0_2 : Option Addr) (na0_2 ca0_2 : Nat) (Aa0_3 : Option Addr) (na0_3 ca0_3 : Nat) (Aa0_4 : Option Addr) (na0_4 ca0_4 : Nat) (Aa0_5 : Option Addr) (na0_5 ca0_5 : Nat) (w : World) (R : Value → World → Prop) : Prop :=
  let w_1 : World := World.alloc w (.cells #[.slice Aa0_0 na0_0 ca0_0, .slice Aa0_1 na0_1 ca0_1, .slice Aa0_2 na0_2 ca0_2, .slice Aa0_3 na0_3 ca0_3, .slice Aa0_4 na0_4 ca0_4, .slice Aa0_5 na0_5 ca0_5] 29);
  let w_2 : World := World.alloc w_1 (.cells #[.slice none 0 0, .slice none 0 0, .slice none 0 0, .slice none 0 0, .slice none 0 0, .slice none 0 0] 29);
  ∃ M : Nat → Nat → World → Prop,
  (∃ (A7 : Option Addr) (n7 c7 : Nat),
  w_2.cell? ⟨w.heap.size, 0, none⟩ = some (.slice A7 n7 c7) ∧
  ∃ (A10 : Option Addr) (n10 c10 : Nat),
  w_2.cell? ⟨w.heap.size, 1, none⟩ = some (.slice A10 n10 c10) ∧
  ∃ (A13 : Option Addr) (n13 c13 : Nat),
  w_2.cell? ⟨w.heap.size, 2, none⟩ = some (.slice A13 n13 c13) ∧
  ∃ (A16 : Option Addr) (n16 c16 : Nat),
  w_2.cell? ⟨w.heap.size, 3, none⟩ = some (.slice A16 n16 c16) ∧
  ∃ (A19 : Option Addr) (n19 c19 : Nat),
  w_2.cell? ⟨w.heap.size, 4, none⟩ = some (.slice A19 n19 c19) ∧
  (Calls Try.prog 40 #[.slice A7 n7 c7] w_2.drew fun e_1 w_3 =>
  ∃ (A8 : Option Addr) (n8 c8 : Nat),
  e_1 = .returned (.slice A8 n8 c8) ∧
  (w_3.cell? ⟨w.heap.size, 4, none⟩ = some (.slice A19 n19 c19) ∧ w_3.cell? ⟨w.heap.size, 3, none⟩ = some (.slice A16 n16 c16) ∧ w_3.cell? ⟨w.heap.size, 2, none⟩ = some (.slice A13 n13 c13) ∧ w_3.cell? ⟨w.heap.size, 1, none⟩ = some (.slice A10 n10 c10) ∧ w_3.cell? ⟨w.heap.size, 0, none⟩ = some (.slice A7 n7 c7) ∧ True) ∧
  (Calls Try.prog 40 #[.slice A10 n10 c10] w_3 fun e_2 w_4 =>
  ∃ (A11 : Option Addr) (n11 c11 : Nat),
  e_2 = .returned (.slice A11 n11 c11) ∧
  (w_4.cell? ⟨w.heap.size, 4, none⟩ = some (.slice A19 n19 c19) ∧ w_4.cell? ⟨w.heap.size, 3, none⟩ = some (.slice A16 n16 c16) ∧ w_4.cell? ⟨w.heap.size, 2, none⟩ = some (.slice A13 n13 c13) ∧ w_4.cell? ⟨w.heap.size, 1, none⟩ = some (.slice A10 n10 c10) ∧ w_4.cell? ⟨w.heap.size, 0, none⟩ = some (.slice A7 n7 c7) ∧ True) ∧
  (Calls Try.prog 40 #[.slice A13 n13 c13] w_4 fun e_3 w_5 =>
  ∃ (A14 : Option Addr) (n14 c14 : Nat),
  e_3 = .returned (.slice A14 n14 c14) ∧
  (w_5.cell? ⟨w.heap.size, 4, none⟩ = some (.slice A19 n19 c19) ∧ w_5.cell? ⟨w.heap.size, 3, none⟩ = some (.slice A16 n16 c16) ∧ w_5.cell? ⟨w.heap.size, 2, none⟩ = some (.slice A13 n13 c13) ∧ w_5.cell? ⟨w.heap.size, 1, none⟩ = some (.slice A10 n10 c10) ∧ w_5.cell? ⟨w.heap.size, 0, none⟩ = some (.slice A7 n7 c7) ∧ True) ∧
  (Calls Try.prog 24 #[.slice A16 n16 c16, .int .i64 0] w_5 fun e_4 w_6 =>
  ∃ (A17 : Option Addr) (n17 c17 : Nat),
  e_4 = .returned (.slice A17 n17 c17) ∧
  (w_6.cell? ⟨w.heap.size, 4, none⟩ = some (.slice A19 n19 c19) ∧ w_6.cell? ⟨w.heap.size, 3, none⟩ = some (.slice A16 n16 c16) ∧ w_6.cell? ⟨w.heap.size, 2, none⟩ = some (.slice A13 n13 c13) ∧ w_6.cell? ⟨w.heap.size, 1, none⟩ = some (.slice A10 n10 c10) ∧ w_6.cell? ⟨w.heap.size, 0, none⟩ = some (.slice A7 n7 c7) ∧ True) ∧
  (Calls Try.prog 24 #[.slice A19 n19 c19, .int .i64 0] w_6 fun e_5 w_7 =>
  ∃ (A20 : Option Addr) (n20 c20 : Nat),
  e_5 = .returned (.slice A20 n20 c20) ∧
  (w_7.cell? ⟨w.heap.size, 4, none⟩ = some (.slice A19 n19 c19) ∧ w_7.cell? ⟨w.heap.size, 3, none⟩ = some (.slice A16 n16 c16) ∧ w_7.cell? ⟨w.heap.size, 2, none⟩ = some (.slice A13 n13 c13) ∧ w_7.cell? ⟨w.heap.size, 1, none⟩ = some (.slice A10 n10 c10) ∧ w_7.cell? ⟨w.heap.size, 0, none⟩ = some (.slice A7 n7 c7) ∧ True) ∧
  let w_8 : World := World.alloc w_7 (.cells #[.slice none 0 0, .slice none 0 0, .slice none 0 0, .slice none 0 0, .slice none 0 0, .slice none 0 0] 29);
  (w_8.cell? ⟨w.heap.size, 4, none⟩ = some (.slice A19 n19 c19) ∧ w_8.cell? ⟨w.heap.size, 3, none⟩ = some (.slice A16 n16 c16) ∧ w_8.cell? ⟨w.heap.size, 2, none⟩ = some (.slice A13 n13 c13) ∧ w_8.cell? ⟨w.heap.size, 1, none⟩ = some (.slice A10 n10 c10) ∧ w_8.cell? ⟨w.heap.size, 0, none⟩ = some (.slice A7 n7 c7) ∧ True) ∧
  canStore w_8 w_7.heap.size 0 6 ∧
  let w_9 : World := setCs w_8 w_7.heap.size 0 [.slice A8 n8 c8, .slice A11 n11 c11, .slice A14 n14 c14, .slice A17 n17 c17, .slice A20 n20 c20, .slice none 0 0];
  (w_9.cell? ⟨w.heap.size, 4, none⟩ = some (.slice A19 n19 c19) ∧ w_9.cell? ⟨w.heap.size, 3, none⟩ = some (.slice A16 n16 c16) ∧ w_9.cell? ⟨w.heap.size, 2, none⟩ = some (.slice A13 n13 c13) ∧ w_9.cell? ⟨w.heap.size, 1, none⟩ = some (.slice A10 n10 c10) ∧ w_9.cell? ⟨w.heap.size, 0, none⟩ = some (.slice A7 n7 c7) ∧ True) ∧
  ([.pointer (some ⟨w.heap.size, 0, none⟩), .pointer (some ⟨w_1.heap.size, 0, none⟩)] : List Value) = ([.pointer (some ⟨w.heap.size, 0, none⟩), .pointer (some ⟨w_1.heap.size, 0, none⟩)] : List Value) ∧ M w_7.heap.size 0 w_9) ∧
  (let w_10 : World := World.alloc w_6 (.cells #[.slice none 0 0, .slice none 0 0, .slice none 0 0, .slice none 0 0, .slice none 0 0, .slice none 0 0] 29);
  (w_10.cell? ⟨w.heap.size, 4, none⟩ = some (.slice A19 n19 c19) ∧ w_10.cell? ⟨w.heap.size, 3, none⟩ = some (.slice A16 n16 c16) ∧ w_10.cell? ⟨w.heap.size, 2, none⟩ = some (.slice A13 n13 c13) ∧ w_10.cell? ⟨w.heap.size, 1, none⟩ = some (.slice A10 n10 c10) ∧ w_10.cell? ⟨w.heap.size, 0, none⟩ = some (.slice A7 n7 c7) ∧ True) ∧
  Calls Try.prog 24 #[.slice A19 n19 c19, .int .i64 0] w_10 fun e_6 w_11 =>
  ∃ (A20_1 : Option Addr) (n20_1 c20_1 : Nat),
  e_6 = .returned (.slice A20_1 n20_1 c20_1) ∧
  (w_11.cell? ⟨w.heap.size, 4, none⟩ = some (.slice A19 n19 c19) ∧ w_11.cell? ⟨w.heap.size, 3, none⟩ = some (.slice A16 n16 c16) ∧ w_11.cell? ⟨w.heap.size, 2, none⟩ = some (.slice A13 n13 c13) ∧ w_11.cell? ⟨w.heap.size, 1, none⟩ = some (.slice A10 n10 c10) ∧ w_11.cell? ⟨w.heap.size, 0, none⟩ = some (.slice A7 n7 c7) ∧ True) ∧
  canStore w_11 w_6.heap.size 0 6 ∧
  let w_12 : World := setCs w_11 w_6.heap.size 0 [.slice A8 n8 c8, .slice A11 n11 c11, .slice A14 n14 c14, .slice A17 n17 c17, .slice A20_1 n20_1 c20_1, .slice none 0 0];
  (w_12.cell? ⟨w.heap.size, 4, none⟩ = some (.slice A19 n19 c19) ∧ w_12.cell? ⟨w.heap.size, 3, none⟩ = some (.slice A16 n16 c16) ∧ w_12.cell? ⟨w.heap.size, 2, none⟩ = some (.slice A13 n13 c13) ∧ w_12.cell? ⟨w.heap.size, 1, none⟩ = some (.slice A10 n10 c10) ∧ w_12.cell? ⟨w.heap.size, 0, none⟩ = some (.slice A7 n7 c7) ∧ True) ∧
  ([.pointer (some ⟨w.heap.size, 0, none⟩), .pointer (some ⟨w_1.heap.size, 0, none⟩)] : List Value) = ([.pointer (some ⟨w.heap.size, 0, none⟩), .pointer (some ⟨w_1.heap.size, 0, none⟩)] : List Value) ∧ M w_6.heap.size 0 w_12) ∧ True) ∧
  (let w_13 : World := World.alloc w_5 (.cells #[.slice none 0 0, .slice none 0 0, .slice none 0 0, .slice none 0 0, .slice none 0 0, .slice none 0 0] 29);
  (w_13.cell? ⟨w.heap.size, 4, none⟩ = some (.slice A19 n19 c19) ∧ w_13.cell? ⟨w.heap.size, 3, none⟩ = some (.slice A16 n16 c16) ∧ w_13.cell? ⟨w.heap.size, 2, none⟩ = some (.slice A13 n13 c13) ∧ w_13.cell? ⟨w.heap.size, 1, none⟩ = some (.slice A10 n10 c10) ∧ w_13.cell? ⟨w.heap.size, 0, none⟩ = some (.slice A7 n7 c7) ∧ True) ∧
  Calls Try.prog 24 #[.slice A16 n16 c16, .int .i64 0] w_13 fun e_7 w_14 =>
  ∃ (A17_1 : Option Addr) (n17_1 c17_1 : Nat),
  e_7 = .returned (.slice A17_1 n17_1 c17_1) ∧
  (w_14.cell? ⟨w.heap.size, 4, none⟩ = some (.slice A19 n19 c19) ∧ w_14.cell? ⟨w.heap.size, 3, none⟩ = some (.slice A16 n16 c16) ∧ w_14.cell? ⟨w.heap.size, 2, none⟩ = some (.slice A13 n13 c13) ∧ w_14.cell? ⟨w.heap.size, 1, none⟩ = some (.slice A10 n10 c10) ∧ w_14.cell? ⟨w.heap.size, 0, none⟩ = some (.slice A7 n7 c7) ∧ True) ∧
  Calls Try.prog 24 #[.slice A19 n19 c19, .int .i64 0] w_14 fun e_8 w_15 =>
  ∃ (A20_2 : Option Addr) (n20_2 c20_2 : Nat),
  e_8 = .returned (.slice A20_2 n20_2 c20_2) ∧
  (w_15.cell? ⟨w.heap.size, 4, none⟩ = some (.slice A19 n19 c19) ∧ w_15.cell? ⟨w.heap.size, 3, none⟩ = some (.slice A16 n16 c16) ∧ w_15.cell? ⟨w.heap.size, 2, none⟩ = some (.slice A13 n13 c13) ∧ w_15.cell? ⟨w.heap.size, 1, none⟩ = some (.slice A10 n10 c10) ∧ w_15.cell? ⟨w.heap.size, 0, none⟩ = some (.slice A7 n7 c7) ∧ True) ∧
  canStore w_15 w_5.heap.size 0 6 ∧
  let w_16 : World := setCs w_15 w_5.heap.size 0 [.slice A8 n8 c8, .slice A11 n11 c11, .slice A14 n14 c14, .slice A17_1 n17_1 c17_1, .slice A20_2 n20_2 c20_2, .slice none 0 0];
  (w_16.cell? ⟨w.heap.size, 4, none⟩ = some (.slice A19 n19 c19) ∧ w_16.cell? ⟨w.heap.size, 3, none⟩ = some (.slice A16 n16 c16) ∧ w_16.cell? ⟨w.heap.size, 2, none⟩ = some (.slice A13 n13 c13) ∧ w_16.cell? ⟨w.heap.size, 1, none⟩ = some (.slice A10 n10 c10) ∧ w_16.cell? ⟨w.heap.size, 0, none⟩ = some (.slice A7 n7 c7) ∧ True) ∧
  ([.pointer (some ⟨w.heap.size, 0, none⟩), .pointer (some ⟨w_1.heap.size, 0, none⟩)] : List Value) = ([.pointer (some ⟨w.heap.size, 0, none⟩), .pointer (some ⟨w_1.heap.size, 0, none⟩)] : List Value) ∧ M w_5.heap.size 0 w_16) ∧ True) ∧
  (let w_17 : World := World.alloc w_4 (.cells #[.slice none 0 0, .slice none 0 0, .slice none 0 0, .slice none 0 0, .slice none 0 0, .slice none 0 0] 29);
  (w_17.cell? ⟨w.heap.size, 4, none⟩ = some (.slice A19 n19 c19) ∧ w_17.cell? ⟨w.heap.size, 3, none⟩ = some (.slice A16 n16 c16) ∧ w_17.cell? ⟨w.heap.size, 2, none⟩ = some (.slice A13 n13 c13) ∧ w_17.cell? ⟨w.heap.size, 1, none⟩ = some (.slice A10 n10 c10) ∧ w_17.cell? ⟨w.heap.size, 0, none⟩ = some (.slice A7 n7 c7) ∧ True) ∧
  Calls Try.prog 40 #[.slice A13 n13 c13] w_17 fun e_9 w_18 =>
  ∃ (A14_1 : Option Addr) (n14_1 c14_1 : Nat),
  e_9 = .returned (.slice A14_1 n14_1 c14_1) ∧
  (w_18.cell? ⟨w.heap.size, 4, none⟩ = some (.slice A19 n19 c19) ∧ w_18.cell? ⟨w.heap.size, 3, none⟩ = some (.slice A16 n16 c16) ∧ w_18.cell? ⟨w.heap.size, 2, none⟩ = some (.slice A13 n13 c13) ∧ w_18.cell? ⟨w.heap.size, 1, none⟩ = some (.slice A10 n10 c10) ∧ w_18.cell? ⟨w.heap.size, 0, none⟩ = some (.slice A7 n7 c7) ∧ True) ∧
  Calls Try.prog 24 #[.slice A16 n16 c16, .int .i64 0] w_18 fun e_10 w_19 =>
  ∃ (A17_2 : Option Addr) (n17_2 c17_2 : Nat),
  e_10 = .returned (.slice A17_2 n17_2 c17_2) ∧
  (w_19.cell? ⟨w.heap.size, 4, none⟩ = some (.slice A19 n19 c19) ∧ w_19.cell? ⟨w.heap.size, 3, none⟩ = some (.slice A16 n16 c16) ∧ w_19.cell? ⟨w.heap.size, 2, none⟩ = some (.slice A13 n13 c13) ∧ w_19.cell? ⟨w.heap.size, 1, none⟩ = some (.slice A10 n10 c10) ∧ w_19.cell? ⟨w.heap.size, 0, none⟩ = some (.slice A7 n7 c7) ∧ True) ∧
  Calls Try.prog 24 #[.slice A19 n19 c19, .int .i64 0] w_19 fun e_11 w_20 =>
  ∃ (A20_3 : Option Addr) (n20_3 c20_3 : Nat),
  e_11 = .returned (.slice A20_3 n20_3 c20_3) ∧
  (w_20.cell? ⟨w.heap.size, 4, none⟩ = some (.slice A19 n19 c19) ∧ w_20.cell? ⟨w.heap.size, 3, none⟩ = some (.slice A16 n16 c16) ∧ w_20.cell? ⟨w.heap.size, 2, none⟩ = some (.slice A13 n13 c13) ∧ w_20.cell? ⟨w.heap.size, 1, none⟩ = some (.slice A10 n10 c10) ∧ w_20.cell? ⟨w.heap.size, 0, none⟩ = some (.slice A7 n7 c7) ∧ True) ∧
  canStore w_20 w_4.heap.size 0 6 ∧
  let w_21 : World := setCs w_20 w_4.heap.size 0 [.slice A8 n8 c8, .slice A11 n11 c11, .slice A14_1 n14_1 c14_1, .slice A17_2 n17_2 c17_2, .slice A20_3 n20_3 c20_3, .slice none 0 0];
  (w_21.cell? ⟨w.heap.size, 4, none⟩ = some (.slice A19 n19 c19) ∧ w_21.cell? ⟨w.heap.size, 3, none⟩ = some (.slice A16 n16 c16) ∧ w_21.cell? ⟨w.heap.size, 2, none⟩ = some (.slice A13 n13 c13) ∧ w_21.cell? ⟨w.heap.size, 1, none⟩ = some (.slice A10 n10 c10) ∧ w_21.cell? ⟨w.heap.size, 0, none⟩ = some (.slice A7 n7 c7) ∧ True) ∧
  ([.pointer (some ⟨w.heap.size, 0, none⟩), .pointer (some ⟨w_1.heap.size, 0, none⟩)] : List Value) = ([.pointer (some ⟨w.heap.size, 0, none⟩), .pointer (some ⟨w_1.heap.size, 0, none⟩)] : List Value) ∧ M w_4.heap.size 0 w_21) ∧ True) ∧
  (let w_22 : World := World.alloc w_3 (.cells #[.slice none 0 0, .slice none 0 0, .slice none 0 0, .slice none 0 0, .slice none 0 0, .slice none 0 0] 29);
  (w_22.cell? ⟨w.heap.size, 4, none⟩ = some (.slice A19 n19 c19) ∧ w_22.cell? ⟨w.heap.size, 3, none⟩ = some (.slice A16 n16 c16) ∧ w_22.cell? ⟨w.heap.size, 2, none⟩ = some (.slice A13 n13 c13) ∧ w_22.cell? ⟨w.heap.size, 1, none⟩ = some (.slice A10 n10 c10) ∧ w_22.cell? ⟨w.heap.size, 0, none⟩ = some (.slice A7 n7 c7) ∧ True) ∧
  Calls Try.prog 40 #[.slice A10 n10 c10] w_22 fun e_12 w_23 =>
  ∃ (A11_1 : Option Addr) (n11_1 c11_1 : Nat),
  e_12 = .returned (.slice A11_1 n11_1 c11_1) ∧
  (w_23.cell? ⟨w.heap.size, 4, none⟩ = some (.slice A19 n19 c19) ∧ w_23.cell? ⟨w.heap.size, 3, none⟩ = some (.slice A16 n16 c16) ∧ w_23.cell? ⟨w.heap.size, 2, none⟩ = some (.slice A13 n13 c13) ∧ w_23.cell? ⟨w.heap.size, 1, none⟩ = some (.slice A10 n10 c10) ∧ w_23.cell? ⟨w.heap.size, 0, none⟩ = some (.slice A7 n7 c7) ∧ True) ∧
  Calls Try.prog 40 #[.slice A13 n13 c13] w_23 fun e_13 w_24 =>
  ∃ (A14_2 : Option Addr) (n14_2 c14_2 : Nat),
  e_13 = .returned (.slice A14_2 n14_2 c14_2) ∧
  (w_24.cell? ⟨w.heap.size, 4, none⟩ = some (.slice A19 n19 c19) ∧ w_24.cell? ⟨w.heap.size, 3, none⟩ = some (.slice A16 n16 c16) ∧ w_24.cell? ⟨w.heap.size, 2, none⟩ = some (.slice A13 n13 c13) ∧ w_24.cell? ⟨w.heap.size, 1, none⟩ = some (.slice A10 n10 c10) ∧ w_24.cell? ⟨w.heap.size, 0, none⟩ = some (.slice A7 n7 c7) ∧ True) ∧
  Calls Try.prog 24 #[.slice A16 n16 c16, .int .i64 0] w_24 fun e_14 w_25 =>
  ∃ (A17_3 : Option Addr) (n17_3 c17_3 : Nat),
  e_14 = .returned (.slice A17_3 n17_3 c17_3) ∧
  (w_25.cell? ⟨w.heap.size, 4, none⟩ = some (.slice A19 n19 c19) ∧ w_25.cell? ⟨w.heap.size, 3, none⟩ = some (.slice A16 n16 c16) ∧ w_25.cell? ⟨w.heap.size, 2, none⟩ = some (.slice A13 n13 c13) ∧ w_25.cell? ⟨w.heap.size, 1, none⟩ = some (.slice A10 n10 c10) ∧ w_25.cell? ⟨w.heap.size, 0, none⟩ = some (.slice A7 n7 c7) ∧ True) ∧
  Calls Try.prog 24 #[.slice A19 n19 c19, .int .i64 0] w_25 fun e_15 w_26 =>
  ∃ (A20_4 : Option Addr) (n20_4 c20_4 : Nat),
  e_15 = .returned (.slice A20_4 n20_4 c20_4) ∧
  (w_26.cell? ⟨w.heap.size, 4, none⟩ = some (.slice A19 n19 c19) ∧ w_26.cell? ⟨w.heap.size, 3, none⟩ = some (.slice A16 n16 c16) ∧ w_26.cell? ⟨w.heap.size, 2, none⟩ = some (.slice A13 n13 c13) ∧ w_26.cell? ⟨w.heap.size, 1, none⟩ = some (.slice A10 n10 c10) ∧ w_26.cell? ⟨w.heap.size, 0, none⟩ = some (.slice A7 n7 c7) ∧ True) ∧
  canStore w_26 w_3.heap.size 0 6 ∧
  let w_27 : World := setCs w_26 w_3.heap.size 0 [.slice A8 n8 c8, .slice A11_1 n11_1 c11_1, .slice A14_2 n14_2 c14_2, .slice A17_3 n17_3 c17_3, .slice A20_4 n20_4 c20_4, .slice none 0 0];
  (w_27.cell? ⟨w.heap.size, 4, none⟩ = some (.slice A19 n19 c19) ∧ w_27.cell? ⟨w.heap.size, 3, none⟩ = some (.slice A16 n16 c16) ∧ w_27.cell? ⟨w.heap.size, 2, none⟩ = some (.slice A13 n13 c13) ∧ w_27.cell? ⟨w.heap.size, 1, none⟩ = some (.slice A10 n10 c10) ∧ w_27.cell? ⟨w.heap.size, 0, none⟩ = some (.slice A7 n7 c7) ∧ True) ∧
  ([.pointer (some ⟨w.heap.size, 0, none⟩), .pointer (some ⟨w_1.heap.size, 0, none⟩)] : List Value) = ([.pointer (some ⟨w.heap.size, 0, none⟩), .pointer (some ⟨w_1.heap.size, 0, none⟩)] : List Value) ∧ M w_3.heap.size 0 w_27) ∧ True) ∧
  (let w_28 : World := World.alloc w_2.drew (.cells #[.slice none 0 0, .slice none 0 0, .slice none 0 0, .slice none 0 0, .slice none 0 0, .slice none 0 0] 29);
  (w_28.cell? ⟨w.heap.size, 4, none⟩ = some (.slice A19 n19 c19) ∧ w_28.cell? ⟨w.heap.size, 3, none⟩ = some (.slice A16 n16 c16) ∧ w_28.cell? ⟨w.heap.size, 2, none⟩ = some (.slice A13 n13 c13) ∧ w_28.cell? ⟨w.heap.size, 1, none⟩ = some (.slice A10 n10 c10) ∧ w_28.cell? ⟨w.heap.size, 0, none⟩ = some (.slice A7 n7 c7) ∧ True) ∧
  Calls Try.prog 40 #[.slice A7 n7 c7] w_28 fun e_16 w_29 =>
  ∃ (A8_1 : Option Addr) (n8_1 c8_1 : Nat),
  e_16 = .returned (.slice A8_1 n8_1 c8_1) ∧
  (w_29.cell? ⟨w.heap.size, 4, none⟩ = some (.slice A19 n19 c19) ∧ w_29.cell? ⟨w.heap.size, 3, none⟩ = some (.slice A16 n16 c16) ∧ w_29.cell? ⟨w.heap.size, 2, none⟩ = some (.slice A13 n13 c13) ∧ w_29.cell? ⟨w.heap.size, 1, none⟩ = some (.slice A10 n10 c10) ∧ w_29.cell? ⟨w.heap.size, 0, none⟩ = some (.slice A7 n7 c7) ∧ True) ∧
  Calls Try.prog 40 #[.slice A10 n10 c10] w_29 fun e_17 w_30 =>
  ∃ (A11_2 : Option Addr) (n11_2 c11_2 : Nat),
  e_17 = .returned (.slice A11_2 n11_2 c11_2) ∧
  (w_30.cell? ⟨w.heap.size, 4, none⟩ = some (.slice A19 n19 c19) ∧ w_30.cell? ⟨w.heap.size, 3, none⟩ = some (.slice A16 n16 c16) ∧ w_30.cell? ⟨w.heap.size, 2, none⟩ = some (.slice A13 n13 c13) ∧ w_30.cell? ⟨w.heap.size, 1, none⟩ = some (.slice A10 n10 c10) ∧ w_30.cell? ⟨w.heap.size, 0, none⟩ = some (.slice A7 n7 c7) ∧ True) ∧
  Calls Try.prog 40 #[.slice A13 n13 c13] w_30 fun e_18 w_31 =>
  ∃ (A14_3 : Option Addr) (n14_3 c14_3 : Nat),
  e_18 = .returned (.slice A14_3 n14_3 c14_3) ∧
  (w_31.cell? ⟨w.heap.size, 4, none⟩ = some (.slice A19 n19 c19) ∧ w_31.cell? ⟨w.heap.size, 3, none⟩ = some (.slice A16 n16 c16) ∧ w_31.cell? ⟨w.heap.size, 2, none⟩ = some (.slice A13 n13 c13) ∧ w_31.cell? ⟨w.heap.size, 1, none⟩ = some (.slice A10 n10 c10) ∧ w_31.cell? ⟨w.heap.size, 0, none⟩ = some (.slice A7 n7 c7) ∧ True) ∧
  Calls Try.prog 24 #[.slice A16 n16 c16, .int .i64 0] w_31 fun e_19 w_32 =>
  ∃ (A17_4 : Option Addr) (n17_4 c17_4 : Nat),
  e_19 = .returned (.slice A17_4 n17_4 c17_4) ∧
  (w_32.cell? ⟨w.heap.size, 4, none⟩ = some (.slice A19 n19 c19) ∧ w_32.cell? ⟨w.heap.size, 3, none⟩ = some (.slice A16 n16 c16) ∧ w_32.cell? ⟨w.heap.size, 2, none⟩ = some (.slice A13 n13 c13) ∧ w_32.cell? ⟨w.heap.size, 1, none⟩ = some (.slice A10 n10 c10) ∧ w_32.cell? ⟨w.heap.size, 0, none⟩ = some (.slice A7 n7 c7) ∧ True) ∧
  Calls Try.prog 24 #[.slice A19 n19 c19, .int .i64 0] w_32 fun e_20 w_33 =>
  ∃ (A20_5 : Option Addr) (n20_5 c20_5 : Nat),
  e_20 = .returned (.slice A20_5 n20_5 c20_5) ∧
  (w_33.cell? ⟨w.heap.size, 4, none⟩ = some (.slice A19 n19 c19) ∧ w_33.cell? ⟨w.heap.size, 3, none⟩ = some (.slice A16 n16 c16) ∧ w_33.cell? ⟨w.heap.size, 2, none⟩ = some (.slice A13 n13 c13) ∧ w_33.cell? ⟨w.heap.size, 1, none⟩ = some (.slice A10 n10 c10) ∧ w_33.cell? ⟨w.heap.size, 0, none⟩ = some (.slice A7 n7 c7) ∧ True) ∧
  canStore w_33 w_2.heap.size 0 6 ∧
  let w_34 : World := setCs w_33 w_2.heap.size 0 [.slice A8_1 n8_1 c8_1, .slice A11_2 n11_2 c11_2, .slice A14_3 n14_3 c14_3, .slice A17_4 n17_4 c17_4, .slice A20_5 n20_5 c20_5, .slice none 0 0];
  (w_34.cell? ⟨w.heap.size, 4, none⟩ = some (.slice A19 n19 c19) ∧ w_34.cell? ⟨w.heap.size, 3, none⟩ = some (.slice A16 n16 c16) ∧ w_34.cell? ⟨w.heap.size, 2, none⟩ = some (.slice A13 n13 c13) ∧ w_34.cell? ⟨w.heap.size, 1, none⟩ = some (.slice A10 n10 c10) ∧ w_34.cell? ⟨w.heap.size, 0, none⟩ = some (.slice A7 n7 c7) ∧ True) ∧
  ([.pointer (some ⟨w.heap.size, 0, none⟩), .pointer (some ⟨w_1.heap.size, 0, none⟩)] : List Value) = ([.pointer (some ⟨w.heap.size, 0, none⟩), .pointer (some ⟨w_1.heap.size, 0, none⟩)] : List Value) ∧ M w_2.heap.size 0 w_34) ∧ True) ∧
  ∀ d : Env, ∀ (b3 o3 : Nat) (w_35 : World), M b3 o3 w_35 →
  ∃ I : Int → World → Nat → Prop,
  (∃ n, I 0 w_35 n) ∧
  ∀ d_1 : Env, ∀ (x4 : Int) (w_36 : World) (r : Nat), I x4 w_36 r →
  ∃ (A24 : Option Addr) (n24 c24 : Nat),
  w_36.cell? ⟨w.heap.size, 5, none⟩ = some (.slice A24 n24 c24) ∧
  sel (decide ((x4 : Int) < ((n24 : Int) : Int))) (
  ∃ (A31 : Option Addr) (n31 c31 : Nat),
  w_36.cell? ⟨w.heap.size, 5, none⟩ = some (.slice A31 n31 c31) ∧
  (0 : Int) ≤ x4 ∧ x4 < (n31 : Int) ∧
  needPtr A31 fun b33 o33 =>
  ∃ (A34 : Option Addr) (n34 c34 : Nat),
  w_36.cell? ⟨b33, o33 + x4.toNat * 1, none⟩ = some (.slice A34 n34 c34) ∧
  ∃ (A35 : Option Addr) (n35 c35 : Nat),
  ∃ w_37 : World, (Builtin.append_ #[82, 82] 82 #[.slice none 0 0, .slice A34 n34 c34]).run Try.prog w_36 = .ok (.slice A35 n35 c35) w_37 ∧
  ∃ (A37 : Option Addr) (n37 c37 : Nat),
  w_37.cell? ⟨b3, o3 + 5, none⟩ = some (.slice A37 n37 c37) ∧
  let w_38 : World := World.alloc w_37 (.cells #[.slice A35 n35 c35] 82);
  ∃ (A40 : Option Addr) (n40 c40 : Nat),
  ∃ w_39 : World, (Builtin.append_ #[27, 27] 27 #[.slice A37 n37 c37, .slice (some ⟨w_37.heap.size, 0, none⟩) 1 1]).run Try.prog w_38 = .ok (.slice A40 n40 c40) w_39 ∧
  canStore w_39 b3 (o3 + 5) 1 ∧
  let w_40 : World := setCs w_39 b3 (o3 + 5) [.slice A40 n40 c40];
  let i28 : Int := IntKind.i64.wrap (x4 + 1);
  ([.pointer (some ⟨w.heap.size, 0, none⟩), .pointer (some ⟨w_1.heap.size, 0, none⟩), .pointer (some ⟨b3, o3, none⟩)] : List Value) = ([.pointer (some ⟨w.heap.size, 0, none⟩), .pointer (some ⟨w_1.heap.size, 0, none⟩), .pointer (some ⟨b3, o3, none⟩)] : List Value) ∧ ∃ m, m < r ∧ I i28 w_40 m) (
  ∃ (A42_0 : Option Addr) (n42_0 c42_0 : Nat),
  w_36.cell? ⟨b3, o3, none⟩ = some (.slice A42_0 n42_0 c42_0) ∧
  ∃ (A42_1 : Option Addr) (n42_1 c42_1 : Nat),
  w_36.cell? ⟨b3, o3 + 1, none⟩ = some (.slice A42_1 n42_1 c42_1) ∧
  ∃ (A42_2 : Option Addr) (n42_2 c42_2 : Nat),
  w_36.cell? ⟨b3, o3 + 1 + 1, none⟩ = some (.slice A42_2 n42_2 c42_2) ∧
  ∃ (A42_3 : Option Addr) (n42_3 c42_3 : Nat),
  w_36.cell? ⟨b3, o3 + 1 + 1 + 1, none⟩ = some (.slice A42_3 n42_3 c42_3) ∧
  ∃ (A42_4 : Option Addr) (n42_4 c42_4 : Nat),
  w_36.cell? ⟨b3, o3 + 1 + 1 + 1 + 1, none⟩ = some (.slice A42_4 n42_4 c42_4) ∧
  ∃ (A42_5 : Option Addr) (n42_5 c42_5 : Nat),
  w_36.cell? ⟨b3, o3 + 1 + 1 + 1 + 1 + 1, none⟩ = some (.slice A42_5 n42_5 c42_5) ∧
  canStore w_36 w_1.heap.size 0 6 ∧
  let w_41 : World := setCs w_36 w_1.heap.size 0 [.slice A42_0 n42_0 c42_0, .slice A42_1 n42_1 c42_1, .slice A42_2 n42_2 c42_2, .slice A42_3 n42_3 c42_3, .slice A42_4 n42_4 c42_4, .slice A42_5 n42_5 c42_5];
  ∃ (A2_0 : Option Addr) (n2_0 c2_0 : Nat),
  w_41.cell? ⟨w_1.heap.size, 0, none⟩ = some (.slice A2_0 n2_0 c2_0) ∧
  ∃ (A2_1 : Option Addr) (n2_1 c2_1 : Nat),
  w_41.cell? ⟨w_1.heap.size, 1, none⟩ = some (.slice A2_1 n2_1 c2_1) ∧
  ∃ (A2_2 : Option Addr) (n2_2 c2_2 : Nat),
  w_41.cell? ⟨w_1.heap.size, 2, none⟩ = some (.slice A2_2 n2_2 c2_2) ∧
  ∃ (A2_3 : Option Addr) (n2_3 c2_3 : Nat),
  w_41.cell? ⟨w_1.heap.size, 3, none⟩ = some (.slice A2_3 n2_3 c2_3) ∧
  ∃ (A2_4 : Option Addr) (n2_4 c2_4 : Nat),
  w_41.cell? ⟨w_1.heap.size, 4, none⟩ = some (.slice A2_4 n2_4 c2_4) ∧
  ∃ (A2_5 : Option Addr) (n2_5 c2_5 : Nat),
  w_41.cell? ⟨w_1.heap.size, 5, none⟩ = some (.slice A2_5 n2_5 c2_5) ∧
  R (.agg #[.slice A2_0 n2_0 c2_0, .slice A2_1 n2_1 c2_1, .slice A2_2 n2_2 c2_2, .slice A2_3 n2_3 c2_3, .slice A2_4 n2_4 c2_4, .slice A2_5 n2_5 c2_5]) w_41)
theorem f15.eq (Aa0_0 : Option Addr) (na0_0 ca0_0 : Nat) (Aa0_1 : Option Addr) (na0_1 ca0_1 : Nat) (Aa0_2 : Option Addr) (na0_2 ca0_2 : Nat) (Aa0_3 : Option Addr) (na0_3 ca0_3 : Nat) (Aa0_4 : Option Addr) (na0_4 ca0_4 : Nat) (Aa0_5 : Option Addr) (na0_5 ca0_5 : Nat) (w : World) (R : Value → World → Prop) : f15.VC Aa0_0 na0_0 ca0_0 Aa0_1 na0_1 ca0_1 Aa0_2 na0_2 ca0_2 Aa0_3 na0_3 ca0_3 Aa0_4 na0_4 ca0_4 Aa0_5 na0_5 ca0_5 w R = funV Try.prog Try.f15 f15.AL f15.AC #[.agg #[.slice Aa0_0 na0_0 ca0_0, .slice Aa0_1 na0_1 ca0_1, .slice Aa0_2 na0_2 ca0_2, .slice Aa0_3 na0_3 ca0_3, .slice Aa0_4 na0_4 ca0_4, .slice Aa0_5 na0_5 ca0_5]] w R := by kernel_rfl
theorem f15.calls {Aa0_0 : Option Addr} {na0_0 ca0_0 : Nat} {Aa0_1 : Option Addr} {na0_1 ca0_1 : Nat} {Aa0_2 : Option Addr} {na0_2 ca0_2 : Nat} {Aa0_3 : Option Addr} {na0_3 ca0_3 : Nat} {Aa0_4 : Option Addr} {na0_4 ca0_4 : Nat} {Aa0_5 : Option Addr} {na0_5 ca0_5 : Nat} {w : World} {R : Value → World → Prop} (h : f15.VC Aa0_0 na0_0 ca0_0 Aa0_1 na0_1 ca0_1 Aa0_2 na0_2 ca0_2 Aa0_3 na0_3 ca0_3 Aa0_4 na0_4 ca0_4 Aa0_5 na0_5 ca0_5 w R) : Calls Try.prog 15 #[.agg #[.slice Aa0_0 na0_0 ca0_0, .slice Aa0_1 na0_1 ca0_1, .slice Aa0_2 na0_2 ca0_2, .slice Aa0_3 na0_3 ca0_3, .slice Aa0_4 na0_4 ca0_4, .slice Aa0_5 na0_5 ca0_5]] w fun e w' => ∃ v, e = .returned v ∧ R v w' :=
  funV_sound (fn := Try.f15) (AL := f15.AL) (AC := f15.AC) W22.mixed (by kernel_rfl) (by rw [← f15.eq Aa0_0 na0_0 ca0_0 Aa0_1 na0_1 ca0_1 Aa0_2 na0_2 ca0_2 Aa0_3 na0_3 ca0_3 Aa0_4 na0_4 ca0_4 Aa0_5 na0_5 ca0_5]; exact h)

/-- gatehouse/gatehouselaw12.texts -/
def f40.AL : Nat → Option Ann := fun _ => none
def f40.AC : Nat → Option Ann := fun _ => none
def f40.VC (Aa0 : Option Addr) (na0 ca0 : Nat) (w : World) (R : Value → World → Prop) : Prop :=
  ∃ (A6 : Option Addr) (n6 c6 : Nat),
  ∃ w_1 : World, (Builtin.append_ #[25, 25] 25 #[.slice none 0 0, .slice Aa0 na0 ca0]).run Try.prog w = .ok (.slice A6 n6 c6) w_1 ∧
  R (.slice A6 n6 c6) w_1
theorem f40.eq (Aa0 : Option Addr) (na0 ca0 : Nat) (w : World) (R : Value → World → Prop) : f40.VC Aa0 na0 ca0 w R = funV Try.prog Try.f40 f40.AL f40.AC #[.slice Aa0 na0 ca0] w R := by kernel_rfl
theorem f40.calls {Aa0 : Option Addr} {na0 ca0 : Nat} {w : World} {R : Value → World → Prop} (h : f40.VC Aa0 na0 ca0 w R) : Calls Try.prog 40 #[.slice Aa0 na0 ca0] w fun e w' => ∃ v, e = .returned v ∧ R v w' :=
  funV_sound (fn := Try.f40) (AL := f40.AL) (AC := f40.AC) W22.mixed (by kernel_rfl) (by rw [← f40.eq Aa0 na0 ca0]; exact h)

end Go.Proofs.Ytjmlfknogjaemaa
