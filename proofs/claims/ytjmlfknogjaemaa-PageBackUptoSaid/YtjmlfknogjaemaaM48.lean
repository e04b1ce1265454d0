/- Page: the law PageTable, the walk. -/
import Derived.Test.YtjmlfknogjaemaaM46
import Derived.Test.YtjmlfknogjaemaaM40
import Derived.Test.YtjmlfknogjaemaaM47
import Derived.Test.YtjmlfknogjaemaaM45
set_option linter.unusedVariables false
set_option linter.unusedSimpArgs false
set_option maxRecDepth 10000
namespace Go.Proofs.Ytjmlfknogjaemaa
open Go Go.Proofs.Ytjmlfknogjaemaa.Vc
namespace PG
open Vc.PG NI
theorem inR {w : World} {A : Option Addr} {n c : Nat} {l : List ByteArray} (h : InX w A n l) (hn : n ≤ 1000000000) (s : ByteArray) : Calls Try.prog 33 #[.slice A n c, .string s] w fun e w' => e = .returned (.bool (decide (IX.num l s ≠ 0))) ∧ Fr [] w w' := by
  refine Calls.mono (f33.calls (R := fun v w' => v = .bool (decide (IX.num l s ≠ 0)) ∧ Fr [] w w') ?_) ?_
  · dsimp only [f33.VC]
    have hl := h.1
    refine ⟨fun x w' r => w' = w ∧ ∃ i : Nat, x = (i : Int) ∧ i + r = n ∧ ∀ a, a < i → l.getD a ByteArray.empty ≠ s, ⟨n, rfl, 0, rfl, by omega, fun a ha => by omega⟩, ?_⟩
    rintro d x w1 r ⟨rfl, i, rfl, hir, hno⟩
    refine sel_of (fun hd => ?_) (fun hd => ?_)
    · have hi : i < n := by have := of_decide_eq_true hd; omega
      refine ⟨by omega, by omega, InX.need h rfl hi (sel_of (fun hs => ?_) (fun hs => ?_))⟩
      · have hs := of_decide_eq_true hs
        refine ⟨?_, Fr.refl _ _⟩
        rw [decide_eq_true]
        exact fun h0 => num_zero.1 h0 ((mem_getD ByteArray.empty _ _).2 ⟨i, by omega, hs⟩)
      · have hs := of_decide_eq_false hs
        rw [inc i n hn (by omega)]
        refine ⟨rfl, r - 1, by omega, rfl, i + 1, rfl, by omega, fun a ha => ?_⟩
        rcases Nat.lt_or_ge a i with h1 | h1
        · exact hno a h1
        · have : a = i := by omega
          subst this; exact hs
    · have hi : i = n := by have := of_decide_eq_false hd; omega
      refine ⟨?_, Fr.refl _ _⟩
      rw [decide_eq_false]
      intro h0
      refine h0 (num_zero.2 fun hm => ?_)
      obtain ⟨a, ha, he⟩ := (mem_getD ByteArray.empty _ _).1 hm
      exact hno a (by omega) he
  · rintro e w' ⟨v, rfl, rfl, h⟩; exact ⟨rfl, h⟩
theorem all_len : ∀ (ns l : List ByteArray), (all l ns).length ≤ l.length + ns.length
  | [], l => by simp [all]
  | s :: ns, l => by
    have h1 := all_len ns (IX.of l s)
    have h2 : (IX.of l s).length ≤ l.length + 1 := by
      unfold IX.of
      split
      · split
        · omega
        · simp
      · omega
    show (all (IX.of l s) ns).length ≤ _
    rw [List.length_cons]
    omega
theorem want_len : ∀ (l ns acc : List ByteArray), (wantGo l ns acc).length ≤ acc.length + ns.length
  | l, [], acc => by simp [wantGo]
  | l, s :: ns, acc => by
    rw [wantGo, List.length_cons]
    split
    · have := want_len l ns (acc ++ [s]); rw [List.length_append, List.length_singleton] at this; omega
    · have := want_len l ns acc; omega
/-- Where there is room a valid graph is laid. -/
theorem lay_ok {v : Int} {g : Gd} {l : List ByteArray} (hv : validP g = true) (h1 : 1 ≤ v) (h2 : v ≤ 2147483647) (hl : l.length ≤ 1000000) : (layP v g l).2.1 = 0 := by
  obtain ⟨⟨p1, p2, p3, _⟩, _⟩ := valid_parts hv
  have hn := names_len g
  have hw := want_len l (names g) []
  rw [List.length_nil] at hw
  unfold layP
  rw [if_neg (by omega), if_neg (by rw [hv]; decide), if_neg (by unfold freshN; omega)]
theorem num_at {l : List ByteArray} (hn : l.Nodup) {i : Nat} (hi : i < l.length) : IX.num l (l.getD i ByteArray.empty) = i + 1 := by
  have hm : l.getD i ByteArray.empty ∈ l := (mem_getD _ _ _).2 ⟨i, hi, rfl⟩
  obtain ⟨g1, g2, g3⟩ := num_get hm
  have hg := g3 ByteArray.empty
  have hp := (nodup_getD ByteArray.empty l).1 hn
  rcases Nat.lt_trichotomy (IX.num l (l.getD i ByteArray.empty) - 1) i with h | h | h
  · exact absurd hg (hp _ _ h hi)
  · omega
  · exact absurd hg.symm (hp _ _ h (by omega))
theorem of_known {L : List ByteArray} {s : ByteArray} (h : s ∈ L) : IX.of L s = L := by
  unfold IX.of
  rw [if_neg fun h0 => num_zero.1 h0 h]
/-- A name of the graph is looked up. -/
theorem look_at {W : List Int} {L : List ByteArray} {v : Int} {g : Gd} {Z : List Pz} (h : LaidW W L v g Z) (hv : validP g = true) (hL : L.length ≤ 1048576) {k : Int} {l : List ByteArray} {n : List Int} (hk : (k = 3 ∧ l = gA g ∧ n = upTo (gA g).length) ∨ (k = 1 ∧ l = gS g ∧ n = gF g) ∨ (k = 2 ∧ l = gO g ∧ n = gN g)) {i : Nat} (hi : i < l.length) :
    IX.of L (l.getD i ByteArray.empty) = L ∧ ∃ j : Nat, lookP W (IX.ofN L (l.getD i ByteArray.empty) : Int) k = (n.getD i 0, j + 1) ∧ j + 1 ≤ (names g).length := by
  obtain ⟨e1, e2, e3, e4, e5, e6, e7⟩ := h.ent hv hk
  have hm : l.getD i ByteArray.empty ∈ l := (mem_getD _ _ _).2 ⟨i, hi, rfl⟩
  obtain ⟨j, j1, j2⟩ := h.look hv hL hk (l.getD i ByteArray.empty)
  have hn := num_at e7 hi
  rw [if_neg (by omega)] at j2
  refine ⟨of_known (e2 _ hm), j, ?_, j2⟩
  rw [j1]
  unfold clsP
  rw [if_neg (by omega), hn]
  rfl
theorem fullN_take (Z : List Pz) {i : Nat} (hi : i < Z.length) : fullN (Z.take (i + 1)) = fullN (Z.take i) + if (Z.getD i pz0).1 ≠ 0 then 1 else 0 := by
  rw [take_snoc pz0 Z i hi]
  unfold fullN
  rw [List.countP_append, List.countP_singleton]
  simp
theorem lawTable {w : World} {v : GV} {g : Gd} {B : Option Addr} {m d : Nat} {known : List ByteArray} (hv : InG w v g) (hK : InX w B m known) (bv : SmallG v g) (hm : m ≤ 1100000) (other : ByteArray) :
    Calls Try.prog 8 #[v.v, .slice B m d, .string other] w fun e w' => e = .returned (.bool true) ∧ Fr [] w w' := by
  refine Calls.mono (f8.calls (R := fun v w' => v = .bool true ∧ Fr [] w w') ?_) ?_
  · dsimp only [f8.VC]
    have bv3 : v.a.2.1 ≤ 1100000 ∧ v.s.2.1 ≤ 1100000 ∧ v.o.2.1 ≤ 1100000 := ⟨bv.1.1, bv.1.2.1, bv.1.2.2.1⟩
    have hS0 := (St.start w).alloc v.cells 29
    generalize World.alloc w (.cells v.cells 29) = w1 at *
    generalize w.heap.size = b1 at *
    refine Calls.mono (awake w1) ?_
    rintro _ w2 ⟨rfl, f1⟩
    have hS2 := hS0.go f1
    clear hS0 f1
    refine ⟨_, rfl, _, _, _, (hS2.blk 0 rfl).cell rfl, _, _, _, (hS2.blk 0 rfl).cell rfl, _, _, _, (hS2.blk 0 rfl).cell rfl, _, _, _, (hS2.blk 0 rfl).cell rfl, _, _, _, (hS2.blk 0 rfl).cell rfl, _, _, _, (hS2.blk 0 rfl).cell rfl, ?_⟩
    refine Calls.mono (hS2.step0 (validR (hv.fr hS2.frame) bv3)) ?_
    clear hS2
    rintro _ w3 ⟨rfl, hS3⟩
    refine ⟨_, rfl, sel_of (fun _ => ⟨rfl, hS3.frame⟩) (fun hval => ?_)⟩
    have hval : validP g = true := by simpa using hval
    refine sel_of (fun _ => ⟨rfl, hS3.frame⟩) (fun hmm => ?_)
    have hmm := of_decide_eq_false hmm
    refine Calls.mono (NI.index (hK.fr hS3.frame) (by omega)) ?_
    rintro _ w4 ⟨x, y, rfl, hS4⟩
    have hS4 := hS3.gone hS4
    clear hS3
    have hkl := hK.1
    have hl : (all [] known).length ≤ 1000000 := by have := all_len known []; rw [List.length_nil] at this; omega
    generalize all [] known = l at *
    have hS4 : St [] w w4 [refI 81 y l, idxC x l, Chunk.blk b1 v.cells 29] := hS4
    refine ⟨_, _, rfl, sel_of (fun h => by cases h) (fun _ => ?_)⟩
    refine ⟨_, _, _, (hS4.blk 2 rfl).cell rfl, _, _, _, (hS4.blk 2 rfl).cell rfl, _, _, _, (hS4.blk 2 rfl).cell rfl, _, _, _, (hS4.blk 2 rfl).cell rfl, _, _, _, (hS4.blk 2 rfl).cell rfl, _, _, _, (hS4.blk 2 rfl).cell rfl, ?_⟩
    refine Calls.mono (twinC hS4 (hv.fr hS4.frame) bv) ?_
    clear hS4
    rintro _ w5 ⟨t, rfl, hS5⟩
    refine ⟨_, _, _, _, _, _, _, _, _, _, _, _, _, _, _, _, _, _, rfl, ?_⟩
    have bt : SmallG t g := bv.of hv (hS5.says 0 rfl)
    have bt3 : t.a.2.1 ≤ 1100000 ∧ t.s.2.1 ≤ 1100000 ∧ t.o.2.1 ≤ 1100000 := ⟨bt.1.1, bt.1.2.1, bt.1.2.2.1⟩
    have hlay := layCs hS5 2 0 (by decide) rfl rfl (v := t) (g := g) (fun w h => h) (by omega) bt3 1
    have hp := lay_small 1 g l
    have hok := lay_ok (v := 1) (l := l) hval (by decide) (by decide) hl
    have hL := lay_le 1 g (l := l) (by omega)
    obtain ⟨_, _, _, Z, hZ⟩ := laidW_of hok
    generalize layP 1 g l = P at *
    obtain ⟨W, e, L⟩ := P
    dsimp only at *
    subst hok
    refine Calls.mono hlay ?_
    clear hS5 hlay
    rintro _ w6 ⟨A, n, c, rfl, hS6⟩
    have hS6 : St [] w w6 [ints (.slice A n c) W, gC t g, refI 81 y l, idxC x L, Chunk.blk b1 v.cells 29] := hS6
    have hn : n = W.length := hS6.lsLen 0 rfl
    obtain ⟨q1, q2, q3, q4, q5⟩ := hZ.full hval
    have ht := tOf_le hval
    have hlen := hZ.len
    have hzl := hZ.zl
    have hz1 := hZ.h1
    have word : ∀ {w' : World}, St [] w w' [ints (.slice A n c) W, gC t g, refI 81 y l, idxC x L, Chunk.blk b1 v.cells 29] → ∃ b o, A = some ⟨b, o, none⟩ ∧ ∀ i, i < n → w'.cell? ⟨b, o + i, none⟩ = some (.int .i64 (W.getD i 0)) := fun hS => (St.inI hS 0 rfl).2 (by omega)
    have one : ∀ {w' : World} {K : Int → Prop}, St [] w w' [ints (.slice A n c) W, gC t g, refI 81 y l, idxC x L, Chunk.blk b1 v.cells 29] → K (tOf g : Int) → needPtr A fun b o => ∃ z, w'.cell? ⟨b, o + 1, none⟩ = some (.int .i64 z) ∧ K z := by
      intro w' K hS hk
      obtain ⟨b, o, rfl, h2⟩ := word hS
      exact needPtr_of rfl ⟨_, h2 1 (by omega), by rw [hz1]; exact hk⟩
    refine ⟨_, _, _, _, rfl, sel_of (fun h => by simp at h) (fun _ => sel_of (fun h => by have := of_decide_eq_true h; omega) (fun _ => ?_))⟩
    refine ⟨by decide, by omega, one hS6 (sel_of (fun h => by have := of_decide_eq_true h; omega) (fun _ => ?_))⟩
    refine ⟨by decide, by omega, one hS6 (sel_of (fun h => by have := of_decide_eq_true h; omega) (fun _ => ?_))⟩
    refine ⟨by decide, by omega, one hS6 ?_⟩
    have e4 : IntKind.i64.wrap (4 + IntKind.i64.wrap (2 * (tOf g : Int))) = 4 + 2 * (tOf g : Int) := by rw [i64_id (x := 2 * (tOf g : Int)) (by omega) (by omega), i64_id (by omega) (by omega)]
    rw [e4]
    refine sel_of (fun h => by have := of_decide_eq_true h; generalize topOf (gF g) * topOf (gN g) = p at *; omega) (fun _ => ?_)
    have ha := hv.a.1.1
    have hs := hv.s.1.1
    have ho := hv.o.1.1
    have hnl := names_len g
    refine ⟨_, _, _, (hS6.blk 4 rfl).cell rfl, _, _, _, (hS6.blk 4 rfl).cell rfl, _, _, _, (hS6.blk 4 rfl).cell rfl, ?_⟩
    have ek : IntKind.i64.wrap (IntKind.i64.wrap ((v.a.2.1 : Int) + (v.s.2.1 : Int)) + (v.o.2.1 : Int)) = ((names g).length : Int) := by
      rw [i64_id (x := (v.a.2.1 : Int) + (v.s.2.1 : Int)) (by omega) (by omega), i64_id (by omega) (by omega)]; omega
    rw [ek]
    refine ⟨fun f z w' r => ∃ i : Nat, z = (i : Int) ∧ i + r = tOf g ∧ f = (fullN (Z.take i) : Int) ∧ St [] w w' [ints (.slice A n c) W, gC t g, refI 81 y l, idxC x L, Chunk.blk b1 v.cells 29], ⟨tOf g, 0, rfl, by omega, rfl, hS6⟩, ?_⟩
    clear hS6
    rintro d0 f z w7 r ⟨i, rfl, hir, rfl, hS⟩
    refine ⟨by decide, by omega, one hS (sel_of (fun hd => ?_) (fun hd => ?_))⟩
    · have hi : i < tOf g := by have := of_decide_eq_true hd; omega
      have e5 : IntKind.i64.wrap (4 + IntKind.i64.wrap (2 * (i : Int))) = ((4 + 2 * i : Nat) : Int) := by rw [i64_id (x := 2 * (i : Int)) (by omega) (by omega), i64_id (by omega) (by omega)]; omega
      have hf := fullN_take Z (i := i) (by omega)
      have hfl : fullN (Z.take i) ≤ i := by
        have : fullN (Z.take i) ≤ (Z.take i).length := List.countP_le_length
        rw [List.length_take] at this; omega
      rw [e5, inc i 100000 (by decide) (by omega), inc (fullN (Z.take i)) 100000 (by decide) (by omega)]
      refine ⟨by omega, by generalize topOf (gF g) * topOf (gN g) = p at *; omega, InW.need (St.inI hS 0 rfl) (Fr.refl _ _) rfl (by generalize topOf (gF g) * topOf (gN g) = p at *; omega) ?_⟩
      rw [(hZ.reads i (by omega)).1]
      refine sel_of (fun h => ?_) (fun h => ?_)
      · have h : (Z.getD i pz0).1 ≠ 0 := by simpa using h
        rw [if_pos h] at hf
        exact ⟨rfl, r - 1, by omega, i + 1, rfl, by omega, by rw [hf], hS⟩
      · have h : ¬ (Z.getD i pz0).1 ≠ 0 := by simpa using h
        rw [if_neg h] at hf
        exact ⟨rfl, r - 1, by omega, i + 1, rfl, by omega, by rw [hf]; rfl, hS⟩
    · have hi : i = Z.length := by have := of_decide_eq_false hd; omega
      subst hi
      rw [List.take_length, q1]
      refine ⟨fun b z w' r => b = true ∧ ∃ i : Nat, z = (i : Int) ∧ i + r = v.a.2.1 ∧ St [] w w' [ints (.slice A n c) W, gC t g, refI 81 y l, idxC x L, Chunk.blk b1 v.cells 29], ⟨v.a.2.1, rfl, 0, rfl, by omega, hS⟩, ?_⟩
      clear hS hd hir
      rintro d1 b z w8 r1 ⟨rfl, i, rfl, hir, hS⟩
      refine ⟨_, _, _, (hS.blk 4 rfl).cell rfl, sel_of (fun hd => ?_) (fun hd => ?_)⟩
      · have hi : i < v.a.2.1 := by have := of_decide_eq_true hd; omega
        refine ⟨_, _, _, (hS.blk 4 rfl).cell rfl, by omega, by omega, InX.need (hv.fr hS.frame).a.1 rfl hi ?_⟩
        obtain ⟨k1, j, k2, k3⟩ := look_at hZ hval hL (k := 3) (.inl ⟨rfl, rfl, rfl⟩) (i := i) (by omega)
        refine Calls.mono (NI.of hS 3 rfl hL _) ?_
        clear hS
        rintro _ w9 ⟨rfl, hS⟩
        rw [k1] at hS
        refine ⟨_, rfl, Calls.mono (hS.step0 (lookC (St.inI hS 0 rfl) (by omega) _ _)) ?_⟩
        clear hS
        rintro _ w10 ⟨rfl, hS⟩
        rw [k2, upTo_get (by omega)]
        rw [inc i 100000000 (by decide) (by omega)]
        refine ⟨_, _, rfl, sel_of (fun _ => sel_of (fun _ => sel_of (fun _ => ?_) (fun h => by have := of_decide_eq_false h; omega)) (fun h => by simp at h)) (fun h => by cases h)⟩
        exact ⟨rfl, r1 - 1, by omega, decide_eq_true (by dsimp only; omega), i + 1, rfl, by omega, hS⟩
      clear hd
      refine ⟨fun b z w' r => b = true ∧ ∃ i : Nat, z = (i : Int) ∧ i + r = v.s.2.1 ∧ St [] w w' [ints (.slice A n c) W, gC t g, refI 81 y l, idxC x L, Chunk.blk b1 v.cells 29], ⟨v.s.2.1, rfl, 0, rfl, by omega, hS⟩, ?_⟩
      clear hS hir
      rintro d2 b z w11 r2 ⟨rfl, i, rfl, hir, hS⟩
      have hvp := valid_parts hval
      have hFl : v.f.2.1 = v.s.2.1 := by have := hv.f.1.1; have := hvp.1; omega
      have hNl : v.n.2.1 = v.o.2.1 := by have := hv.n.1.1; have := hvp.1; omega
      refine ⟨_, _, _, (hS.blk 4 rfl).cell rfl, sel_of (fun hd => ?_) (fun hd => ?_)⟩
      · have hi : i < v.s.2.1 := by have := of_decide_eq_true hd; omega
        refine ⟨_, _, _, (hS.blk 4 rfl).cell rfl, by omega, by omega, InX.need (hv.fr hS.frame).s.1 rfl hi ?_⟩
        obtain ⟨k1, j, k2, k3⟩ := look_at hZ hval hL (k := 1) (.inr (.inl ⟨rfl, rfl, rfl⟩)) (i := i) (by omega)
        refine Calls.mono (NI.of hS 3 rfl hL _) ?_
        clear hS
        rintro _ w12 ⟨rfl, hS⟩
        rw [k1] at hS
        refine ⟨_, rfl, Calls.mono (hS.step0 (lookC (St.inI hS 0 rfl) (by omega) _ _)) ?_⟩
        clear hS
        rintro _ w13 ⟨rfl, hS⟩
        rw [k2]
        rw [inc i 100000000 (by decide) (by omega)]
        refine ⟨_, _, rfl, sel_of (fun _ => ⟨_, _, _, (hS.blk 4 rfl).cell rfl, by omega, by omega, InW.need (hv.fr hS.frame).f.1 (Fr.refl _ _) rfl (by omega) (sel_of (fun _ => sel_of (fun _ => ?_) (fun h => by have := of_decide_eq_false h; omega)) (fun h => by simp at h))⟩) (fun h => by cases h)⟩
        exact ⟨rfl, r2 - 1, by omega, decide_eq_true (by dsimp only; omega), i + 1, rfl, by omega, hS⟩
      clear hd
      refine ⟨fun b z w' r => b = true ∧ ∃ i : Nat, z = (i : Int) ∧ i + r = v.o.2.1 ∧ St [] w w' [ints (.slice A n c) W, gC t g, refI 81 y l, idxC x L, Chunk.blk b1 v.cells 29], ⟨v.o.2.1, rfl, 0, rfl, by omega, hS⟩, ?_⟩
      clear hS hir
      rintro d3 b z w14 r3 ⟨rfl, i, rfl, hir, hS⟩
      refine ⟨_, _, _, (hS.blk 4 rfl).cell rfl, sel_of (fun hd => ?_) (fun hd => ?_)⟩
      · have hi : i < v.o.2.1 := by have := of_decide_eq_true hd; omega
        refine ⟨_, _, _, (hS.blk 4 rfl).cell rfl, by omega, by omega, InX.need (hv.fr hS.frame).o.1 rfl hi ?_⟩
        obtain ⟨k1, j, k2, k3⟩ := look_at hZ hval hL (k := 2) (.inr (.inr ⟨rfl, rfl, rfl⟩)) (i := i) (by omega)
        refine Calls.mono (NI.of hS 3 rfl hL _) ?_
        clear hS
        rintro _ w15 ⟨rfl, hS⟩
        rw [k1] at hS
        refine ⟨_, rfl, Calls.mono (hS.step0 (lookC (St.inI hS 0 rfl) (by omega) _ _)) ?_⟩
        clear hS
        rintro _ w16 ⟨rfl, hS⟩
        rw [k2]
        rw [inc i 100000000 (by decide) (by omega)]
        refine ⟨_, _, rfl, sel_of (fun _ => ⟨_, _, _, (hS.blk 4 rfl).cell rfl, by omega, by omega, InW.need (hv.fr hS.frame).n.1 (Fr.refl _ _) rfl (by omega) (sel_of (fun _ => sel_of (fun _ => ?_) (fun h => by have := of_decide_eq_false h; omega)) (fun h => by simp at h))⟩) (fun h => by cases h)⟩
        exact ⟨rfl, r3 - 1, by omega, decide_eq_true (by dsimp only; omega), i + 1, rfl, by omega, hS⟩
      clear hd hir
      refine ⟨_, _, _, (hS.blk 4 rfl).cell rfl, ?_⟩
      refine Calls.mono (hS.step0 (inR (hv.fr hS.frame).s.1 (by omega) other)) ?_
      clear hS
      rintro _ w17 ⟨rfl, hS⟩
      refine ⟨_, rfl, Calls.mono (NI.of hS 3 rfl hL other) ?_⟩
      clear hS
      rintro _ w18 ⟨rfl, hS⟩
      refine ⟨_, rfl, Calls.mono (hS.step0 (lookC (St.inI hS 0 rfl) (by omega) _ _)) ?_⟩
      clear hS
      rintro _ w19 ⟨rfl, hS⟩
      have hS' := hS.frame
      obtain ⟨j, k2, k3⟩ := hZ.look hval hL (k := 1) (.inr (.inl ⟨rfl, rfl, rfl⟩)) other
      rw [k2]
      obtain ⟨b, o, hA, hc⟩ := (St.inI hS 0 rfl).2 (by omega)
      refine ⟨_, _, rfl, sel_of (fun _ => sel_of (fun _ => ⟨by decide, by omega, needPtr_of hA ⟨_, hc 1 (by omega), ?_⟩⟩) (fun h => by simp at h)) (fun h => by cases h)⟩
      rw [hz1, i64_id (x := 2 * ((names g).length : Int)) (by omega) (by omega)]
      refine sel_of (fun _ => sel_of (fun hin => ⟨rfl, hS'⟩) (fun hin => ?_)) (fun h => by have := of_decide_eq_false h; omega)
      have h0 : IX.num (gS g) other = 0 := by simpa using hin
      rw [if_pos h0] at k3
      unfold clsP
      rw [if_pos h0]
      refine sel_of (fun _ => sel_of (fun _ => ⟨?_, hS'⟩) (fun h => by have := of_decide_eq_false h; dsimp only at this; omega)) (fun h => by simp at h)
      rw [inc (names g).length 100000 (by decide) (by omega), decide_eq_true (by dsimp only; omega)]
  · rintro e w' ⟨v, rfl, rfl, h⟩; exact ⟨rfl, h⟩
end PG
end Go.Proofs.Ytjmlfknogjaemaa
/- Page: what a laid page reads back to: the plain law. -/
set_option linter.unusedVariables false
set_option linter.unusedSectionVars false
set_option linter.unusedSimpArgs false
set_option maxRecDepth 10000
namespace Go.Proofs.Ytjmlfknogjaemaa
open Go Go.Proofs.Ytjmlfknogjaemaa.Vc
namespace PG
open Vc.PG NI
theorem fm_congr {α β : Type} {f g : α → Option β} : ∀ {l : List α}, (∀ x ∈ l, f x = g x) → l.filterMap f = l.filterMap g
  | [], _ => rfl
  | x :: l, h => by
    rw [List.filterMap_cons, List.filterMap_cons, h x List.mem_cons_self, fm_congr fun y hy => h y (List.mem_cons_of_mem _ hy)]
theorem thing_num {L : List ByteArray} {s : ByteArray} (h : s ∈ L) : thing L (IX.num L s : Int) = (s, true) := by
  obtain ⟨g1, g2, g3⟩ := num_get h
  unfold thing
  rw [if_neg (by omega), show ((IX.num L s : Int) - 1).toNat = IX.num L s - 1 by omega, g3]
theorem great_sur : ∀ (l : List Int) (n m : Nat), great l n = some m → ∀ k : Nat, n < k → k ≤ m → (k : Int) ∈ l
  | [], n, m, h, k, h1, h2 => by simp [great] at h; omega
  | x :: l, n, m, h, k, h1, h2 => by
    rw [great] at h
    split at h
    · cases h
    · rename_i hx
      rcases Nat.lt_or_ge (max n x.toNat) k with h3 | h3
      · exact List.mem_cons_of_mem _ (great_sur l _ m h k h3 h2)
      · have : x = (k : Int) := by omega
        rw [this]; exact List.mem_cons_self
/-- The seats of a list of names. -/
def seatL (L l : List ByteArray) (n : List Int) : List Se := (l.zip n).map fun p => ((IX.num L p.1 : Int), p.2)
theorem seatL_len {L l : List ByteArray} {n : List Int} (h : l.length = n.length) : (seatL L l n).length = l.length := by
  unfold seatL; rw [List.length_map, List.length_zip]; omega
theorem seatL_snd {L l : List ByteArray} {n : List Int} (h : l.length = n.length) : (seatL L l n).map (·.2) = n := by
  unfold seatL
  rw [List.map_map]
  have e : ((fun x : Se => x.2) ∘ fun p : ByteArray × Int => ((IX.num L p.1 : Int), p.2)) = Prod.snd := rfl
  rw [e, List.map_snd_zip]
  omega
theorem seatL_mem {L l : List ByteArray} {n : List Int} (h : l.length = n.length) {p : Se} : p ∈ seatL L l n ↔ ∃ i, i < l.length ∧ p = ((IX.num L (l.getD i ByteArray.empty) : Int), n.getD i 0) := by
  unfold seatL
  constructor
  · intro hp
    obtain ⟨q, hq, rfl⟩ := List.mem_map.1 hp
    obtain ⟨i, hi, rfl⟩ := List.mem_iff_getElem.1 hq
    rw [List.length_zip] at hi
    refine ⟨i, by omega, ?_⟩
    simp [List.getD_eq_getElem?_getD, show i < l.length by omega, show i < n.length by omega]
  · rintro ⟨i, hi, rfl⟩
    refine List.mem_map.2 ⟨(l.getD i ByteArray.empty, n.getD i 0), ?_, rfl⟩
    refine List.mem_iff_getElem.2 ⟨i, by rw [List.length_zip]; omega, ?_⟩
    simp [List.getD_eq_getElem?_getD, hi, show i < n.length by omega]
def pickS (k : Int) (p : Pz) : Option Se := if 0 < p.1 ∧ p.1 % 4 = k then some (p.1 / 4, p.2) else none
theorem pick_ent {L l : List ByteArray} {n : List Int} (j k : Int) (hj : 1 ≤ j ∧ j ≤ 3) : (entP L (ensOf l j n)).filterMap (pickS k) = if j = k then seatL L l n else [] := by
  unfold entP ensOf
  rw [List.map_map, List.filterMap_map]
  have e : ∀ p : ByteArray × Int, (pickS k ∘ ((fun e : En => (keyE L e, e.2.2)) ∘ fun p : ByteArray × Int => (p.1, j, p.2))) p = if j = k then some ((IX.num L p.1 : Int), p.2) else none := by
    intro p
    show pickS k ((IX.num L p.1 : Int) * 4 + j, p.2) = _
    unfold pickS
    dsimp only
    by_cases h : j = k
    · rw [if_pos (by omega), if_pos h, show ((IX.num L p.1 : Int) * 4 + j) / 4 = (IX.num L p.1 : Int) by omega]
    · rw [if_neg (by omega), if_neg h]
  rw [fm_congr (fun p _ => e p)]
  by_cases h : j = k
  · simp only [if_pos h]
    unfold seatL
    rw [List.filterMap_eq_map']
  · simp only [if_neg h]
    exact List.filterMap_eq_nil_iff.2 fun _ _ => rfl
theorem cnt_perm {a : List Se} {b : List Int} (h : (a.map (·.2)).Perm b) (k : Int) : cnt a k = (b.filter fun x => decide (x = k)).length := by
  rw [cnt_map]
  exact (h.filter _).length_eq
theorem insP_eq_perm {a b : List Se} : ∀ (n : Nat), a.length = n → a.Perm b → a.Pairwise (fun x y => x.1 ≤ y.1) → b.Pairwise (fun x y => x.1 < y.1) → a = b := by
  intro n
  induction n generalizing a b with
  | zero =>
    intro h hp _ _
    have : a = [] := List.eq_nil_of_length_eq_zero h
    subst this
    exact (List.nil_perm.1 hp).symm
  | succ n ih =>
    intro h hp ha hb
    match a, h with
    | x :: a, h =>
      have hl := hp.length_eq
      match b, hl with
      | y :: b, hl =>
        have hxy : x = y := by
          have hx : x ∈ y :: b := hp.mem_iff.1 List.mem_cons_self
          have hy : y ∈ x :: a := hp.mem_iff.2 List.mem_cons_self
          rcases List.mem_cons.1 hx with h1 | h1
          · exact h1
          · rcases List.mem_cons.1 hy with h2 | h2
            · exact h2.symm
            · have h3 := (List.pairwise_cons.1 ha).1 y h2
              have h4 := (List.pairwise_cons.1 hb).1 x h1
              omega
        subst hxy
        rw [ih (by simpa using h) ((List.perm_cons x).1 hp) (List.pairwise_cons.1 ha).2 (List.pairwise_cons.1 hb).2]
section
variable {W : List Int} {L : List ByteArray} {v : Int} {g : Gd} {Z : List Pz} (h : LaidW W L v g Z) (hv : validP g = true) (hL : L.length ≤ 1048576)
include h hv
theorem LaidW.seated (hL : L.length ≤ 1048576) : seatedB W (tOf g) L = true := by
  obtain ⟨f1, f2, f3, f4, f5⟩ := h.full hv
  have hzl := h.zl
  unfold seatedB
  rw [List.all_eq_true]
  intro i hi
  rw [List.mem_range] at hi
  have hr := h.reads i (by omega)
  unfold okAt keyAt numAt
  rw [hr.1, hr.2]
  by_cases h0 : (Z.getD i pz0).1 = 0
  · have hz := h.tab.zero i (by omega) h0
    rw [hz]; rfl
  · have hm := h.tab.mem i (by omega) h0
    obtain ⟨j, j1, j2, j3, j4⟩ := h.tab.look h.reads hm
    have hpos : 0 < Z.length := by omega
    have hi2 := h.tab.one ((kfirst (Z.getD i pz0).1 Z.length + j) % Z.length) i (Nat.mod_lt _ hpos) (by omega) (by rw [j3]; exact h0) (by rw [j3])
    have key : ∃ (k : Int) (s : ByteArray), s ∈ L ∧ 1 ≤ k ∧ k ≤ 3 ∧ (Z.getD i pz0).1 = (IX.num L s : Int) * 4 + k := by
      have cases3 : ∀ {k : Int} {l : List ByteArray} {n : List Int} (hk : (k = 3 ∧ l = gA g ∧ n = upTo (gA g).length) ∨ (k = 1 ∧ l = gS g ∧ n = gF g) ∨ (k = 2 ∧ l = gO g ∧ n = gN g)), Z.getD i pz0 ∈ entP L (ensOf l k n) → ∃ (k : Int) (s : ByteArray), s ∈ L ∧ 1 ≤ k ∧ k ≤ 3 ∧ (Z.getD i pz0).1 = (IX.num L s : Int) * 4 + k := by
        intro k l n hk hp
        obtain ⟨e1, e2, e3, e4, e5, e6, e7⟩ := h.ent hv hk
        obtain ⟨q, hq, he⟩ := (ent_mem e1).1 hp
        exact ⟨k, _, e2 _ ((mem_getD ByteArray.empty _ _).2 ⟨q, hq, rfl⟩), e5, e6, by rw [he]⟩
      have hm' := hm
      unfold ens at hm'
      rw [ent_app, ent_app] at hm'
      rcases List.mem_append.1 hm' with hm' | hm'
      · rcases List.mem_append.1 hm' with hm' | hm'
        · exact cases3 (.inl ⟨rfl, rfl, rfl⟩) hm'
        · exact cases3 (.inr (.inl ⟨rfl, rfl, rfl⟩)) hm'
      · exact cases3 (.inr (.inr ⟨rfl, rfl, rfl⟩)) hm'
    obtain ⟨k, s, hs, hk1, hk3, hkey⟩ := key
    have hlook : lookP W ((Z.getD i pz0).1 / 4) ((Z.getD i pz0).1 % 4) = ((Z.getD i pz0).2, j + 1) := by
      have ht : (Vc.PG.tabP W).toNat = Z.length := by rw [h.tabP hv, h.zl]; rfl
      have hkn : keyN ((Z.getD i pz0).1 / 4) ((Z.getD i pz0).1 % 4) = (Z.getD i pz0).1 := by
        have := num_le L s
        rw [hkey, show ((IX.num L s : Int) * 4 + k) / 4 = (IX.num L s : Int) by omega, show ((IX.num L s : Int) * 4 + k) % 4 = k by omega]
        exact keyN_id (by omega) k (by omega)
      unfold lookP
      rw [if_neg (by rw [h.tabP hv]; omega), ht, hkn]
      exact j4
    rw [hlook]
    have hthing : (thingX L ((Z.getD i pz0).1 / 4)).2 = true := by
      rw [hkey, show ((IX.num L s : Int) * 4 + k) / 4 = (IX.num L s : Int) by omega]
      show (thing L (IX.num L s : Int)).2 = true
      rw [thing_num hs]
    have hlast : (pgHash (Z.getD i pz0).1 (tOf g : Int) + ((j + 1 : Nat) : Int) - 1) % (tOf g : Int) = (i : Int) := by
      have hi3 : (i : Int) = (((kfirst (Z.getD i pz0).1 Z.length + j) % Z.length : Nat) : Int) := by rw [hi2]
      rw [← hzl, ← kfirst_eq, hi3]
      generalize kfirst (Z.getD i pz0).1 Z.length = f
      rw [show (f : Int) + ((j + 1 : Nat) : Int) - 1 = ((f + j : Nat) : Int) by omega, ← Int.natCast_emod]
    rw [Bool.or_eq_true]
    right
    rw [Bool.and_eq_true, Bool.and_eq_true, Bool.and_eq_true]
    exact ⟨⟨⟨decide_eq_true (by omega), decide_eq_true (by omega)⟩, hthing⟩, decide_eq_true hlast⟩
theorem LaidW.filled : (Z.filter fun p => decide (p.1 ≠ 0)).Perm (entP L (ens g)) := by
  refine perm_of_sub ?_ (fun x hx => ?_) ?_
  · rw [List.Nodup, List.pairwise_filter, List.pairwise_iff_getElem]
    intro i j hi hj hij hp hq he
    have e1 : Z.getD i pz0 = Z[i] := by simp [List.getD_eq_getElem?_getD, hi]
    have e2 : Z.getD j pz0 = Z[j] := by simp [List.getD_eq_getElem?_getD, hj]
    have := h.tab.one i j hi hj (by rw [e1]; exact of_decide_eq_true hp) (by rw [e1, e2, he])
    omega
  · obtain ⟨h1, h2⟩ := List.mem_filter.1 hx
    obtain ⟨i, hi, rfl⟩ := (mem_getD pz0 _ _).1 h1
    exact h.tab.mem i hi (of_decide_eq_true h2)
  · rw [← List.countP_eq_length_filter]
    exact h.tab.full
theorem LaidW.raw {k : Int} {l : List ByteArray} {n : List Int} (hk : (k = 3 ∧ l = gA g ∧ n = upTo (gA g).length) ∨ (k = 1 ∧ l = gS g ∧ n = gF g) ∨ (k = 2 ∧ l = gO g ∧ n = gN g)) : (rawS W k (tOf g)).Perm (seatL L l n) := by
  have hzl := h.zl
  have e1 : rawS W k (tOf g) = Z.filterMap (pickS k) := by
    have hm : Z = (List.range Z.length).map fun i => Z.getD i pz0 := by
      apply List.ext_getElem (by simp)
      intro i h1 h2
      simp [List.getD_eq_getElem?_getD, h1]
    conv => rhs; rw [hm]
    rw [List.filterMap_map]
    unfold rawS
    rw [← hzl]
    refine fm_congr fun i hi => ?_
    rw [List.mem_range] at hi
    have hr := h.reads i hi
    unfold keyAt numAt
    rw [hr.1, hr.2]
    rfl
  have e2 : Z.filterMap (pickS k) = (Z.filter fun p => decide (p.1 ≠ 0)).filterMap (pickS k) := by
    rw [List.filterMap_filter]
    refine fm_congr fun p _ => ?_
    by_cases h0 : p.1 = 0
    · simp [pickS, h0]
    · simp [h0]
  have e3 : (entP L (ens g)).filterMap (pickS k) = seatL L l n := by
    unfold ens
    rw [ent_app, ent_app, List.filterMap_append, List.filterMap_append, pick_ent 3 k (by decide), pick_ent 1 k (by decide), pick_ent 2 k (by decide)]
    rcases hk with ⟨rfl, rfl, rfl⟩ | ⟨rfl, rfl, rfl⟩ | ⟨rfl, rfl, rfl⟩
    · simp
    · simp
    · simp
  rw [e1, e2, ← e3]
  exact (h.filled hv).filterMap _
theorem LaidW.seats {k : Int} {l : List ByteArray} {n : List Int} (hk : (k = 3 ∧ l = gA g ∧ n = upTo (gA g).length) ∨ (k = 1 ∧ l = gS g ∧ n = gF g) ∨ (k = 2 ∧ l = gO g ∧ n = gN g)) : (seatsP W k (tOf g)).Perm (seatL L l n) ∧ (seatsP W k (tOf g)).length = l.length := by
  have h1 : (seatsP W k (tOf g)).Perm (seatL L l n) := (srt_perm (rawS W k (tOf g))).trans (h.raw hv hk)
  exact ⟨h1, by rw [h1.length_eq, seatL_len (h.ent hv hk).1]⟩
theorem LaidW.spans {k : Int} {l : List ByteArray} {n : List Int} (hk : (k = 1 ∧ l = gS g ∧ n = gF g) ∨ (k = 2 ∧ l = gO g ∧ n = gN g)) : SpansP (seatsP W k (tOf g)) (topOf n) false := by
  have hk' : (k = 3 ∧ l = gA g ∧ n = upTo (gA g).length) ∨ (k = 1 ∧ l = gS g ∧ n = gF g) ∨ (k = 2 ∧ l = gO g ∧ n = gN g) := .inr hk
  obtain ⟨s1, s2⟩ := h.seats hv hk'
  have hn : great n 0 = some (topOf n) := by
    obtain ⟨_, _, q1, q2, _⟩ := valid_parts hv
    rcases hk with ⟨_, _, rfl⟩ | ⟨_, _, rfl⟩
    · exact q1
    · exact q2
  have e := seatL_snd (L := L) (h.ent hv hk').1
  have hp : ((seatsP W k (tOf g)).map (·.2)).Perm n := by
    have := s1.map (·.2)
    rw [e] at this
    exact this
  refine ⟨fun q hq => ⟨?_, fun hf => by cases hf⟩, fun i hi => ?_⟩
  · refine cnt_pos.2 ?_
    have hm := great_sur n 0 _ hn (q + 1) (by omega) (by omega)
    obtain ⟨p, hp1, hp2⟩ := List.mem_map.1 (hp.mem_iff.2 hm)
    exact ⟨p, hp1, hp2⟩
  · have hm : ((seatsP W k (tOf g)).getD i se0).2 ∈ n := hp.mem_iff.1 (List.mem_map.2 ⟨_, (mem_getD se0 _ _).2 ⟨i, hi, rfl⟩, rfl⟩)
    exact (great_ge n 0 _ hn).2 _ hm
theorem LaidW.maskP {x y : Nat} (hx : x < topOf (gF g)) (hy : y < topOf (gN g)) : Vc.PG.maskP W (tOf g) (W.getD 3 0) ((x + 1 : Nat) : Int) ((y + 1 : Nat) : Int) = ((gM g).getD x []).getD y 0 := by
  have hm := h.mask x hx y hy
  have h3 := h.h3
  unfold Vc.PG.maskP
  rw [h3]
  rw [show (4 + 2 * (tOf g : Int) + (((x + 1 : Nat) : Int) - 1) * (topOf (gN g) : Int) + (((y + 1 : Nat) : Int) - 1)).toNat = 4 + 2 * tOf g + x * topOf (gN g) + y by
    rw [show ((x + 1 : Nat) : Int) - 1 = (x : Int) by omega, show ((y + 1 : Nat) : Int) - 1 = (y : Int) by omega, show (x : Int) * (topOf (gN g) : Int) = ((x * topOf (gN g) : Nat) : Int) by rw [Int.natCast_mul]]
    generalize x * topOf (gN g) = p
    omega]
  exact hm
/-- The page is one that the document calls laid. -/
theorem LaidW.laid (hu : ∀ r ∈ gM g, ∀ x ∈ r, 0 ≤ x ∧ x < 65536) : LaidT W (tOf g) := by
  obtain ⟨⟨p1, p2, p3, p4, p5⟩, ⟨n1, n2, n3⟩, q1, q2, q3, q4, q5, q6, q7⟩ := valid_parts hv
  obtain ⟨sA1, sA2⟩ := h.seats hv (k := 3) (.inl ⟨rfl, rfl, rfl⟩)
  obtain ⟨sS1, sS2⟩ := h.seats hv (k := 1) (.inr (.inl ⟨rfl, rfl, rfl⟩))
  obtain ⟨sO1, sO2⟩ := h.seats hv (k := 2) (.inr (.inr ⟨rfl, rfl, rfl⟩))
  have hnl := names_len g
  have hsh := (shaped_iff _ _ _ _).1 q5
  unfold LaidT
  rw [sA2, sS2, sO2, h.h2, h.h3, Int.toNat_natCast, Int.toNat_natCast]
  refine ⟨by unfold tOf; rw [hnl], p1, p2, p3, ?_, h.spans hv (.inl ⟨rfl, rfl, rfl⟩), h.spans hv (.inr ⟨rfl, rfl, rfl⟩), ?_⟩
  · have hp : ((seatsP W 3 (tOf g)).map (·.2)).Perm (oneTo (gA g).length) := by
      have := sA1.map (·.2)
      rw [seatL_snd (by rw [upTo_len])] at this
      exact this
    refine ⟨fun k hk => ⟨?_, fun _ => ?_⟩, fun i hi => ?_⟩
    · obtain ⟨p, hp1, hp2⟩ := List.mem_map.1 (hp.mem_iff.2 (oneTo_mem (x := ((k + 1 : Nat) : Int)).2 (by omega)))
      exact cnt_pos.2 ⟨p, hp1, hp2⟩
    · rw [cnt_perm hp]
      exact nodup_once (oneTo_nodup _) _
    · exact oneTo_mem.1 (hp.mem_iff.1 (List.mem_map.2 ⟨_, (mem_getD se0 _ _).2 ⟨i, hi, rfl⟩, rfl⟩))
  · have hmk : ∀ x, x < topOf (gF g) → ∀ y, y < topOf (gN g) → mskN W (tOf g) x y = ((gM g).getD x []).getD y 0 := fun x hx y hy => h.maskP hv hx hy
    refine ⟨fun x hx y hy => ?_, fun x hx k hk he => ?_, fun y hy k hk he => ?_⟩
    · rw [hmk x hx y hy]
      refine ⟨?_, (hsh.2 x hx).2 y hy⟩
      have hr : (gM g).getD x [] ∈ gM g := (mem_getD _ _ _).2 ⟨x, by omega, rfl⟩
      have hl := (hsh.2 x hx).1
      exact (hu _ hr _ ((mem_getD 0 _ _).2 ⟨y, by omega, rfl⟩)).1
    · refine (nodup_getD [] (gM g)).1 q6 k x hk (by omega) ?_
      refine (ext_getD 0 _ _).2 ⟨by rw [(hsh.2 k (by omega)).1, (hsh.2 x hx).1], fun y hy => ?_⟩
      rw [(hsh.2 k (by omega)).1] at hy
      have := he y hy
      rw [hmk x hx y hy, hmk k (by omega) y hy] at this
      exact this.symm
    · have hd := (nodup_getD [] ((List.range (topOf (gN g))).map (col (gM g)))).1 q7 k y hk (by simpa using hy)
      refine hd ?_
      have ec : ∀ q, q < topOf (gN g) → ((List.range (topOf (gN g))).map (col (gM g))).getD q [] = col (gM g) q := fun q hq => by
        simp [List.getD_eq_getElem?_getD, hq]
      rw [ec k (by omega), ec y hy]
      unfold col
      refine List.map_inj_left.2 fun r hr => ?_
      obtain ⟨x, hx, rfl⟩ := (mem_getD [] _ _).1 hr
      have := he x (by omega)
      rw [hmk x (by omega) y hy, hmk x (by omega) k (by omega)] at this
      exact this.symm
/-- The page is read: the version, and a valid graph. -/
theorem LaidW.read (hL : L.length ≤ 1048576) (hN : L.Nodup) (hu : ∀ r ∈ gM g, ∀ x ∈ r, 0 ≤ x ∧ x < 65536) (hver : 1 ≤ v ∧ v ≤ 2147483647) : readP W L = (v, graphP W (tOf g) L, 0) ∧ validP (graphP W (tOf g) L) = true ∧ goodB W (tOf g) L = true := by
  obtain ⟨⟨p1, p2, p3, p4, p5⟩, ⟨n1, n2, n3⟩, q1, q2, q3, q4, q5, q6, q7⟩ := valid_parts hv
  have ht := h.tabP hv
  have hs := h.seated hv hL
  have hT := h.laid hv hu
  have f := h.full hv
  have hshape : shapeB W (tOf g) = true := by
    unfold shapeB
    rw [Bool.and_eq_true, decide_eq_true_iff, decide_eq_true_iff, h.h0, h.h2, h.h3, h.len]
    refine ⟨by omega, ?_⟩
    rw [show (topOf (gF g) : Int) * (topOf (gN g) : Int) = ((topOf (gF g) * topOf (gN g) : Nat) : Int) by rw [Int.natCast_mul]]
    generalize topOf (gF g) * topOf (gN g) = p
    omega
  have hb : 0 ≤ W.getD 2 0 ∧ 0 ≤ W.getD 3 0 := by rw [h.h2, h.h3]; omega
  have hg := (good_laid hN hb hs).2 hT
  have := (laid_read hN).1 (tOf g) ht (by omega) hshape hs hT
  rw [h.h0] at this
  refine ⟨this, ?_, hg⟩
  have hp := (good_parts.1 hg)
  exact hp.2.2.2.2.2.2
end
end PG
end Go.Proofs.Ytjmlfknogjaemaa
