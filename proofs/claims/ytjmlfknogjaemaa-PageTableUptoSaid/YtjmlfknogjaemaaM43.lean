/- Page: the law PageTable, the walk. -/
import Derived.Test.YtjmlfknogjaemaaM41
import Derived.Test.YtjmlfknogjaemaaM40
import Derived.Test.YtjmlfknogjaemaaM42
set_option linter.unusedVariables false
set_option linter.unusedSimpArgs false
set_option maxRecDepth 10000
namespace Go.Proofs.Ytjmlfknogjaemaa
open Go Go.Proofs.Ytjmlfknogjaemaa.Vc
namespace PG
open Vc.PG NI
theorem inR {w : World} {A : Option Addr} {n c : Nat} {l : List ByteArray} (h : InX w A n l) (hn : n ≤ 1000000000) (s : ByteArray) : Calls Try.prog 33 #[.slice A n c, .string s] w fun e w' => e = .returned (.bool (decide (IX.num l s ≠ 0))) ∧ Fr [] w w' := by
  refine Calls.mono (f33.calls (R := fun v w' => v = .bool (decide (IX.num l s ≠ 0)) ∧ Fr [] w w') ?_) ?_
  · dsimp only [f33.VC]
    have hl := h.1
    refine ⟨fun x w' r => w' = w ∧ ∃ i : Nat, x = (i : Int) ∧ i + r = n ∧ ∀ a, a < i → l.getD a ByteArray.empty ≠ s, ⟨n, rfl, 0, rfl, by omega, fun a ha => by omega⟩, ?_⟩
    rintro d x w1 r ⟨rfl, i, rfl, hir, hno⟩
    refine sel_of (fun hd => ?_) (fun hd => ?_)
    · have hi : i < n := by have := of_decide_eq_true hd; omega
      refine ⟨by omega, by omega, InX.need h rfl hi (sel_of (fun hs => ?_) (fun hs => ?_))⟩
      · have hs := of_decide_eq_true hs
        refine ⟨?_, Fr.refl _ _⟩
        rw [decide_eq_true]
        exact fun h0 => num_zero.1 h0 ((mem_getD ByteArray.empty _ _).2 ⟨i, by omega, hs⟩)
      · have hs := of_decide_eq_false hs
        rw [inc i n hn (by omega)]
        refine ⟨rfl, r - 1, by omega, rfl, i + 1, rfl, by omega, fun a ha => ?_⟩
        rcases Nat.lt_or_ge a i with h1 | h1
        · exact hno a h1
        · have : a = i := by omega
          subst this; exact hs
    · have hi : i = n := by have := of_decide_eq_false hd; omega
      refine ⟨?_, Fr.refl _ _⟩
      rw [decide_eq_false]
      intro h0
      refine h0 (num_zero.2 fun hm => ?_)
      obtain ⟨a, ha, he⟩ := (mem_getD ByteArray.empty _ _).1 hm
      exact hno a (by omega) he
  · rintro e w' ⟨v, rfl, rfl, h⟩; exact ⟨rfl, h⟩
theorem all_len : ∀ (ns l : List ByteArray), (all l ns).length ≤ l.length + ns.length
  | [], l => by simp [all]
  | s :: ns, l => by
    have h1 := all_len ns (IX.of l s)
    have h2 : (IX.of l s).length ≤ l.length + 1 := by
      unfold IX.of
      split
      · split
        · omega
        · simp
      · omega
    show (all (IX.of l s) ns).length ≤ _
    rw [List.length_cons]
    omega
theorem want_len : ∀ (l ns acc : List ByteArray), (wantGo l ns acc).length ≤ acc.length + ns.length
  | l, [], acc => by simp [wantGo]
  | l, s :: ns, acc => by
    rw [wantGo, List.length_cons]
    split
    · have := want_len l ns (acc ++ [s]); rw [List.length_append, List.length_singleton] at this; omega
    · have := want_len l ns acc; omega
/-- Where there is room a valid graph is laid. -/
theorem lay_ok {v : Int} {g : Gd} {l : List ByteArray} (hv : validP g = true) (h1 : 1 ≤ v) (h2 : v ≤ 2147483647) (hl : l.length ≤ 1000000) : (layP v g l).2.1 = 0 := by
  obtain ⟨⟨p1, p2, p3, _⟩, _⟩ := valid_parts hv
  have hn := names_len g
  have hw := want_len l (names g) []
  rw [List.length_nil] at hw
  unfold layP
  rw [if_neg (by omega), if_neg (by rw [hv]; decide), if_neg (by unfold freshN; omega)]
theorem num_at {l : List ByteArray} (hn : l.Nodup) {i : Nat} (hi : i < l.length) : IX.num l (l.getD i ByteArray.empty) = i + 1 := by
  have hm : l.getD i ByteArray.empty ∈ l := (mem_getD _ _ _).2 ⟨i, hi, rfl⟩
  obtain ⟨g1, g2, g3⟩ := num_get hm
  have hg := g3 ByteArray.empty
  have hp := (nodup_getD ByteArray.empty l).1 hn
  rcases Nat.lt_trichotomy (IX.num l (l.getD i ByteArray.empty) - 1) i with h | h | h
  · exact absurd hg (hp _ _ h hi)
  · omega
  · exact absurd hg.symm (hp _ _ h (by omega))
theorem of_known {L : List ByteArray} {s : ByteArray} (h : s ∈ L) : IX.of L s = L := by
  unfold IX.of
  rw [if_neg fun h0 => num_zero.1 h0 h]
/-- A name of the graph is looked up. -/
theorem look_at {W : List Int} {L : List ByteArray} {v : Int} {g : Gd} {Z : List Pz} (h : LaidW W L v g Z) (hv : validP g = true) (hL : L.length ≤ 1048576) {k : Int} {l : List ByteArray} {n : List Int} (hk : (k = 3 ∧ l = gA g ∧ n = upTo (gA g).length) ∨ (k = 1 ∧ l = gS g ∧ n = gF g) ∨ (k = 2 ∧ l = gO g ∧ n = gN g)) {i : Nat} (hi : i < l.length) :
    IX.of L (l.getD i ByteArray.empty) = L ∧ ∃ j : Nat, lookP W (IX.ofN L (l.getD i ByteArray.empty) : Int) k = (n.getD i 0, j + 1) ∧ j + 1 ≤ (names g).length := by
  obtain ⟨e1, e2, e3, e4, e5, e6, e7⟩ := h.ent hv hk
  have hm : l.getD i ByteArray.empty ∈ l := (mem_getD _ _ _).2 ⟨i, hi, rfl⟩
  obtain ⟨j, j1, j2⟩ := h.look hv hL hk (l.getD i ByteArray.empty)
  have hn := num_at e7 hi
  rw [if_neg (by omega)] at j2
  refine ⟨of_known (e2 _ hm), j, ?_, j2⟩
  rw [j1]
  unfold clsP
  rw [if_neg (by omega), hn]
  rfl
theorem fullN_take (Z : List Pz) {i : Nat} (hi : i < Z.length) : fullN (Z.take (i + 1)) = fullN (Z.take i) + if (Z.getD i pz0).1 ≠ 0 then 1 else 0 := by
  rw [take_snoc pz0 Z i hi]
  unfold fullN
  rw [List.countP_append, List.countP_singleton]
  simp
theorem lawTable {w : World} {v : GV} {g : Gd} {B : Option Addr} {m d : Nat} {known : List ByteArray} (hv : InG w v g) (hK : InX w B m known) (bv : SmallG v g) (hm : m ≤ 1100000) (other : ByteArray) :
    Calls Try.prog 8 #[v.v, .slice B m d, .string other] w fun e w' => e = .returned (.bool true) ∧ Fr [] w w' := by
  refine Calls.mono (f8.calls (R := fun v w' => v = .bool true ∧ Fr [] w w') ?_) ?_
  · dsimp only [f8.VC]
    have bv3 : v.a.2.1 ≤ 1100000 ∧ v.s.2.1 ≤ 1100000 ∧ v.o.2.1 ≤ 1100000 := ⟨bv.1.1, bv.1.2.1, bv.1.2.2.1⟩
    have hS0 := (St.start w).alloc v.cells 29
    generalize World.alloc w (.cells v.cells 29) = w1 at *
    generalize w.heap.size = b1 at *
    refine Calls.mono (awake w1) ?_
    rintro _ w2 ⟨rfl, f1⟩
    have hS2 := hS0.go f1
    clear hS0 f1
    refine ⟨_, rfl, _, _, _, (hS2.blk 0 rfl).cell rfl, _, _, _, (hS2.blk 0 rfl).cell rfl, _, _, _, (hS2.blk 0 rfl).cell rfl, _, _, _, (hS2.blk 0 rfl).cell rfl, _, _, _, (hS2.blk 0 rfl).cell rfl, _, _, _, (hS2.blk 0 rfl).cell rfl, ?_⟩
    refine Calls.mono (hS2.step0 (validR (hv.fr hS2.frame) bv3)) ?_
    clear hS2
    rintro _ w3 ⟨rfl, hS3⟩
    refine ⟨_, rfl, sel_of (fun _ => ⟨rfl, hS3.frame⟩) (fun hval => ?_)⟩
    have hval : validP g = true := by simpa using hval
    refine sel_of (fun _ => ⟨rfl, hS3.frame⟩) (fun hmm => ?_)
    have hmm := of_decide_eq_false hmm
    refine Calls.mono (NI.index (hK.fr hS3.frame) (by omega)) ?_
    rintro _ w4 ⟨x, y, rfl, hS4⟩
    have hS4 := hS3.gone hS4
    clear hS3
    have hkl := hK.1
    have hl : (all [] known).length ≤ 1000000 := by have := all_len known []; rw [List.length_nil] at this; omega
    generalize all [] known = l at *
    have hS4 : St [] w w4 [refI 81 y l, idxC x l, Chunk.blk b1 v.cells 29] := hS4
    refine ⟨_, _, rfl, sel_of (fun h => by cases h) (fun _ => ?_)⟩
    refine ⟨_, _, _, (hS4.blk 2 rfl).cell rfl, _, _, _, (hS4.blk 2 rfl).cell rfl, _, _, _, (hS4.blk 2 rfl).cell rfl, _, _, _, (hS4.blk 2 rfl).cell rfl, _, _, _, (hS4.blk 2 rfl).cell rfl, _, _, _, (hS4.blk 2 rfl).cell rfl, ?_⟩
    refine Calls.mono (twinC hS4 (hv.fr hS4.frame) bv) ?_
    clear hS4
    rintro _ w5 ⟨t, rfl, hS5⟩
    refine ⟨_, _, _, _, _, _, _, _, _, _, _, _, _, _, _, _, _, _, rfl, ?_⟩
    have bt : SmallG t g := bv.of hv (hS5.says 0 rfl)
    have bt3 : t.a.2.1 ≤ 1100000 ∧ t.s.2.1 ≤ 1100000 ∧ t.o.2.1 ≤ 1100000 := ⟨bt.1.1, bt.1.2.1, bt.1.2.2.1⟩
    have hlay := layCs hS5 2 0 (by decide) rfl rfl (v := t) (g := g) (fun w h => h) (by omega) bt3 1
    have hp := lay_small 1 g l
    have hok := lay_ok (v := 1) (l := l) hval (by decide) (by decide) hl
    have hL := lay_le 1 g (l := l) (by omega)
    obtain ⟨_, _, _, Z, hZ⟩ := laidW_of hok
    generalize layP 1 g l = P at *
    obtain ⟨W, e, L⟩ := P
    dsimp only at *
    subst hok
    refine Calls.mono hlay ?_
    clear hS5 hlay
    rintro _ w6 ⟨A, n, c, rfl, hS6⟩
    have hS6 : St [] w w6 [ints (.slice A n c) W, gC t g, refI 81 y l, idxC x L, Chunk.blk b1 v.cells 29] := hS6
    have hn : n = W.length := hS6.lsLen 0 rfl
    obtain ⟨q1, q2, q3, q4, q5⟩ := hZ.full hval
    have ht := tOf_le hval
    have hlen := hZ.len
    have hzl := hZ.zl
    have hz1 := hZ.h1
    have word : ∀ {w' : World}, St [] w w' [ints (.slice A n c) W, gC t g, refI 81 y l, idxC x L, Chunk.blk b1 v.cells 29] → ∃ b o, A = some ⟨b, o, none⟩ ∧ ∀ i, i < n → w'.cell? ⟨b, o + i, none⟩ = some (.int .i64 (W.getD i 0)) := fun hS => (St.inI hS 0 rfl).2 (by omega)
    have one : ∀ {w' : World} {K : Int → Prop}, St [] w w' [ints (.slice A n c) W, gC t g, refI 81 y l, idxC x L, Chunk.blk b1 v.cells 29] → K (tOf g : Int) → needPtr A fun b o => ∃ z, w'.cell? ⟨b, o + 1, none⟩ = some (.int .i64 z) ∧ K z := by
      intro w' K hS hk
      obtain ⟨b, o, rfl, h2⟩ := word hS
      exact needPtr_of rfl ⟨_, h2 1 (by omega), by rw [hz1]; exact hk⟩
    refine ⟨_, _, _, _, rfl, sel_of (fun h => by simp at h) (fun _ => sel_of (fun h => by have := of_decide_eq_true h; omega) (fun _ => ?_))⟩
    refine ⟨by decide, by omega, one hS6 (sel_of (fun h => by have := of_decide_eq_true h; omega) (fun _ => ?_))⟩
    refine ⟨by decide, by omega, one hS6 (sel_of (fun h => by have := of_decide_eq_true h; omega) (fun _ => ?_))⟩
    refine ⟨by decide, by omega, one hS6 ?_⟩
    have e4 : IntKind.i64.wrap (4 + IntKind.i64.wrap (2 * (tOf g : Int))) = 4 + 2 * (tOf g : Int) := by rw [i64_id (x := 2 * (tOf g : Int)) (by omega) (by omega), i64_id (by omega) (by omega)]
    rw [e4]
    refine sel_of (fun h => by have := of_decide_eq_true h; generalize topOf (gF g) * topOf (gN g) = p at *; omega) (fun _ => ?_)
    have ha := hv.a.1.1
    have hs := hv.s.1.1
    have ho := hv.o.1.1
    have hnl := names_len g
    refine ⟨_, _, _, (hS6.blk 4 rfl).cell rfl, _, _, _, (hS6.blk 4 rfl).cell rfl, _, _, _, (hS6.blk 4 rfl).cell rfl, ?_⟩
    have ek : IntKind.i64.wrap (IntKind.i64.wrap ((v.a.2.1 : Int) + (v.s.2.1 : Int)) + (v.o.2.1 : Int)) = ((names g).length : Int) := by
      rw [i64_id (x := (v.a.2.1 : Int) + (v.s.2.1 : Int)) (by omega) (by omega), i64_id (by omega) (by omega)]; omega
    rw [ek]
    refine ⟨fun f z w' r => ∃ i : Nat, z = (i : Int) ∧ i + r = tOf g ∧ f = (fullN (Z.take i) : Int) ∧ St [] w w' [ints (.slice A n c) W, gC t g, refI 81 y l, idxC x L, Chunk.blk b1 v.cells 29], ⟨tOf g, 0, rfl, by omega, rfl, hS6⟩, ?_⟩
    clear hS6
    rintro d0 f z w7 r ⟨i, rfl, hir, rfl, hS⟩
    refine ⟨by decide, by omega, one hS (sel_of (fun hd => ?_) (fun hd => ?_))⟩
    · have hi : i < tOf g := by have := of_decide_eq_true hd; omega
      have e5 : IntKind.i64.wrap (4 + IntKind.i64.wrap (2 * (i : Int))) = ((4 + 2 * i : Nat) : Int) := by rw [i64_id (x := 2 * (i : Int)) (by omega) (by omega), i64_id (by omega) (by omega)]; omega
      have hf := fullN_take Z (i := i) (by omega)
      have hfl : fullN (Z.take i) ≤ i := by
        have : fullN (Z.take i) ≤ (Z.take i).length := List.countP_le_length
        rw [List.length_take] at this; omega
      rw [e5, inc i 100000 (by decide) (by omega), inc (fullN (Z.take i)) 100000 (by decide) (by omega)]
      refine ⟨by omega, by generalize topOf (gF g) * topOf (gN g) = p at *; omega, InW.need (St.inI hS 0 rfl) (Fr.refl _ _) rfl (by generalize topOf (gF g) * topOf (gN g) = p at *; omega) ?_⟩
      rw [(hZ.reads i (by omega)).1]
      refine sel_of (fun h => ?_) (fun h => ?_)
      · have h : (Z.getD i pz0).1 ≠ 0 := by simpa using h
        rw [if_pos h] at hf
        exact ⟨rfl, r - 1, by omega, i + 1, rfl, by omega, by rw [hf], hS⟩
      · have h : ¬ (Z.getD i pz0).1 ≠ 0 := by simpa using h
        rw [if_neg h] at hf
        exact ⟨rfl, r - 1, by omega, i + 1, rfl, by omega, by rw [hf]; rfl, hS⟩
    · have hi : i = Z.length := by have := of_decide_eq_false hd; omega
      subst hi
      rw [List.take_length, q1]
      refine ⟨fun b z w' r => b = true ∧ ∃ i : Nat, z = (i : Int) ∧ i + r = v.a.2.1 ∧ St [] w w' [ints (.slice A n c) W, gC t g, refI 81 y l, idxC x L, Chunk.blk b1 v.cells 29], ⟨v.a.2.1, rfl, 0, rfl, by omega, hS⟩, ?_⟩
      clear hS hd hir
      rintro d1 b z w8 r1 ⟨rfl, i, rfl, hir, hS⟩
      refine ⟨_, _, _, (hS.blk 4 rfl).cell rfl, sel_of (fun hd => ?_) (fun hd => ?_)⟩
      · have hi : i < v.a.2.1 := by have := of_decide_eq_true hd; omega
        refine ⟨_, _, _, (hS.blk 4 rfl).cell rfl, by omega, by omega, InX.need (hv.fr hS.frame).a.1 rfl hi ?_⟩
        obtain ⟨k1, j, k2, k3⟩ := look_at hZ hval hL (k := 3) (.inl ⟨rfl, rfl, rfl⟩) (i := i) (by omega)
        refine Calls.mono (NI.of hS 3 rfl hL _) ?_
        clear hS
        rintro _ w9 ⟨rfl, hS⟩
        rw [k1] at hS
        refine ⟨_, rfl, Calls.mono (hS.step0 (lookC (St.inI hS 0 rfl) (by omega) _ _)) ?_⟩
        clear hS
        rintro _ w10 ⟨rfl, hS⟩
        rw [k2, upTo_get (by omega)]
        rw [inc i 100000000 (by decide) (by omega)]
        refine ⟨_, _, rfl, sel_of (fun _ => sel_of (fun _ => sel_of (fun _ => ?_) (fun h => by have := of_decide_eq_false h; omega)) (fun h => by simp at h)) (fun h => by cases h)⟩
        exact ⟨rfl, r1 - 1, by omega, decide_eq_true (by dsimp only; omega), i + 1, rfl, by omega, hS⟩
      clear hd
      refine ⟨fun b z w' r => b = true ∧ ∃ i : Nat, z = (i : Int) ∧ i + r = v.s.2.1 ∧ St [] w w' [ints (.slice A n c) W, gC t g, refI 81 y l, idxC x L, Chunk.blk b1 v.cells 29], ⟨v.s.2.1, rfl, 0, rfl, by omega, hS⟩, ?_⟩
      clear hS hir
      rintro d2 b z w11 r2 ⟨rfl, i, rfl, hir, hS⟩
      have hvp := valid_parts hval
      have hFl : v.f.2.1 = v.s.2.1 := by have := hv.f.1.1; have := hvp.1; omega
      have hNl : v.n.2.1 = v.o.2.1 := by have := hv.n.1.1; have := hvp.1; omega
      refine ⟨_, _, _, (hS.blk 4 rfl).cell rfl, sel_of (fun hd => ?_) (fun hd => ?_)⟩
      · have hi : i < v.s.2.1 := by have := of_decide_eq_true hd; omega
        refine ⟨_, _, _, (hS.blk 4 rfl).cell rfl, by omega, by omega, InX.need (hv.fr hS.frame).s.1 rfl hi ?_⟩
        obtain ⟨k1, j, k2, k3⟩ := look_at hZ hval hL (k := 1) (.inr (.inl ⟨rfl, rfl, rfl⟩)) (i := i) (by omega)
        refine Calls.mono (NI.of hS 3 rfl hL _) ?_
        clear hS
        rintro _ w12 ⟨rfl, hS⟩
        rw [k1] at hS
        refine ⟨_, rfl, Calls.mono (hS.step0 (lookC (St.inI hS 0 rfl) (by omega) _ _)) ?_⟩
        clear hS
        rintro _ w13 ⟨rfl, hS⟩
        rw [k2]
        rw [inc i 100000000 (by decide) (by omega)]
        refine ⟨_, _, rfl, sel_of (fun _ => ⟨_, _, _, (hS.blk 4 rfl).cell rfl, by omega, by omega, InW.need (hv.fr hS.frame).f.1 (Fr.refl _ _) rfl (by omega) (sel_of (fun _ => sel_of (fun _ => ?_) (fun h => by have := of_decide_eq_false h; omega)) (fun h => by simp at h))⟩) (fun h => by cases h)⟩
        exact ⟨rfl, r2 - 1, by omega, decide_eq_true (by dsimp only; omega), i + 1, rfl, by omega, hS⟩
      clear hd
      refine ⟨fun b z w' r => b = true ∧ ∃ i : Nat, z = (i : Int) ∧ i + r = v.o.2.1 ∧ St [] w w' [ints (.slice A n c) W, gC t g, refI 81 y l, idxC x L, Chunk.blk b1 v.cells 29], ⟨v.o.2.1, rfl, 0, rfl, by omega, hS⟩, ?_⟩
      clear hS hir
      rintro d3 b z w14 r3 ⟨rfl, i, rfl, hir, hS⟩
      refine ⟨_, _, _, (hS.blk 4 rfl).cell rfl, sel_of (fun hd => ?_) (fun hd => ?_)⟩
      · have hi : i < v.o.2.1 := by have := of_decide_eq_true hd; omega
        refine ⟨_, _, _, (hS.blk 4 rfl).cell rfl, by omega, by omega, InX.need (hv.fr hS.frame).o.1 rfl hi ?_⟩
        obtain ⟨k1, j, k2, k3⟩ := look_at hZ hval hL (k := 2) (.inr (.inr ⟨rfl, rfl, rfl⟩)) (i := i) (by omega)
        refine Calls.mono (NI.of hS 3 rfl hL _) ?_
        clear hS
        rintro _ w15 ⟨rfl, hS⟩
        rw [k1] at hS
        refine ⟨_, rfl, Calls.mono (hS.step0 (lookC (St.inI hS 0 rfl) (by omega) _ _)) ?_⟩
        clear hS
        rintro _ w16 ⟨rfl, hS⟩
        rw [k2]
        rw [inc i 100000000 (by decide) (by omega)]
        refine ⟨_, _, rfl, sel_of (fun _ => ⟨_, _, _, (hS.blk 4 rfl).cell rfl, by omega, by omega, InW.need (hv.fr hS.frame).n.1 (Fr.refl _ _) rfl (by omega) (sel_of (fun _ => sel_of (fun _ => ?_) (fun h => by have := of_decide_eq_false h; omega)) (fun h => by simp at h))⟩) (fun h => by cases h)⟩
        exact ⟨rfl, r3 - 1, by omega, decide_eq_true (by dsimp only; omega), i + 1, rfl, by omega, hS⟩
      clear hd hir
      refine ⟨_, _, _, (hS.blk 4 rfl).cell rfl, ?_⟩
      refine Calls.mono (hS.step0 (inR (hv.fr hS.frame).s.1 (by omega) other)) ?_
      clear hS
      rintro _ w17 ⟨rfl, hS⟩
      refine ⟨_, rfl, Calls.mono (NI.of hS 3 rfl hL other) ?_⟩
      clear hS
      rintro _ w18 ⟨rfl, hS⟩
      refine ⟨_, rfl, Calls.mono (hS.step0 (lookC (St.inI hS 0 rfl) (by omega) _ _)) ?_⟩
      clear hS
      rintro _ w19 ⟨rfl, hS⟩
      have hS' := hS.frame
      obtain ⟨j, k2, k3⟩ := hZ.look hval hL (k := 1) (.inr (.inl ⟨rfl, rfl, rfl⟩)) other
      rw [k2]
      obtain ⟨b, o, hA, hc⟩ := (St.inI hS 0 rfl).2 (by omega)
      refine ⟨_, _, rfl, sel_of (fun _ => sel_of (fun _ => ⟨by decide, by omega, needPtr_of hA ⟨_, hc 1 (by omega), ?_⟩⟩) (fun h => by simp at h)) (fun h => by cases h)⟩
      rw [hz1, i64_id (x := 2 * ((names g).length : Int)) (by omega) (by omega)]
      refine sel_of (fun _ => sel_of (fun hin => ⟨rfl, hS'⟩) (fun hin => ?_)) (fun h => by have := of_decide_eq_false h; omega)
      have h0 : IX.num (gS g) other = 0 := by simpa using hin
      rw [if_pos h0] at k3
      unfold clsP
      rw [if_pos h0]
      refine sel_of (fun _ => sel_of (fun _ => ⟨?_, hS'⟩) (fun h => by have := of_decide_eq_false h; dsimp only at this; omega)) (fun h => by simp at h)
      rw [inc (names g).length 100000 (by decide) (by omega), decide_eq_true (by dsimp only; omega)]
  · rintro e w' ⟨v, rfl, rfl, h⟩; exact ⟨rfl, h⟩
end PG
end Go.Proofs.Ytjmlfknogjaemaa
