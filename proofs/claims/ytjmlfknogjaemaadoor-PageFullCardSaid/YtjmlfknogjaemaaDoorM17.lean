/- Page: places, classes, Size; the document's table, keys, Size. -/
import Derived.Test.YtjmlfknogjaemaaDoorM15
import Derived.Test.YtjmlfknogjaemaaDoorM16
import Derived.Test.YtjmlfknogjaemaaDoorM4
import Derived.Test.YtjmlfknogjaemaaDoorProg
import Derived.KernelRfl
set_option linter.unusedVariables false
set_option linter.unusedSimpArgs false
set_option maxRecDepth 10000
namespace Go.Proofs.YtjmlfknogjaemaaDoor
open Go Go.Proofs.YtjmlfknogjaemaaDoor.Vc
namespace PG
open Vc.PG NI
theorem tab_stop {r t k : Nat} (hk : k ≤ 1000000) (ht : t = 2 ^ (31 - r)) (hr : r ≤ 30) (hlt : t < 2 * k) : 1 ≤ r ∧ 2 * t ≤ 4000000 ∧ 2 * t = 2 ^ (31 - (r - 1)) := by
  have h1 : 1 ≤ r := by
    rcases Nat.eq_zero_or_pos r with h | h
    · subst h; simp at ht; omega
    · exact h
  refine ⟨h1, by omega, ?_⟩
  rw [ht, show 31 - (r - 1) = 31 - r + 1 by omega, Nat.pow_succ]; omega
theorem placesC (w : World) (v : GV) {k : Nat} (hk : v.a.2.1 + v.s.2.1 + v.o.2.1 = k) (hb : k ≤ 1000000) : Calls Tryd.prog 26 #[v.v] w fun e w' => e = .returned (.int .i64 (tabN k : Int)) ∧ Fr [] w w' := by
  refine Calls.mono (f26.calls (R := fun u w' => u = .int .i64 (tabN k : Int) ∧ Fr [] w w') ?_) ?_
  · dsimp only [f26.VC]
    have hS := (St.start w).alloc v.cells 32
    generalize w.heap.size = b at *
    generalize World.alloc w (.cells v.cells 32) = w1 at *
    refine ⟨fun x w' r => w' = w1 ∧ ∃ t : Nat, x = (t : Int) ∧ r ≤ 30 ∧ t = 2 ^ (31 - r) ∧ tabGo r t k = tabN k, ⟨30, rfl, 2, rfl, by omega, rfl, rfl⟩, ?_⟩
    rintro d x w2 r ⟨rfl, t, rfl, hr, ht, hgo⟩
    refine ⟨_, _, _, (hS.blk 0 rfl).cell rfl, _, _, _, (hS.blk 0 rfl).cell rfl, _, _, _, (hS.blk 0 rfl).cell rfl, ?_⟩
    rw [i64_id (x := (v.a.2.1 : Int) + v.s.2.1) (by omega) (by omega), i64_id (x := (v.a.2.1 : Int) + v.s.2.1 + v.o.2.1) (by omega) (by omega), i64_id (x := 2 * _) (by omega) (by omega)]
    refine sel_of (fun hd => ?_) (fun hd => ?_)
    · have hlt : t < 2 * k := by have := of_decide_eq_true hd; omega
      obtain ⟨h1, h2, h3⟩ := tab_stop (by omega) ht hr hlt
      obtain ⟨r, rfl⟩ : ∃ r', r = r' + 1 := ⟨r - 1, by omega⟩
      rw [tabGo, if_pos hlt] at hgo
      have e : shlI .i64 (t : Int) 1 = ((2 * t : Nat) : Int) := by
        unfold shlI
        rw [show min ((1 : Int).toNat) (IntKind.bits .i64) = 1 from rfl, wr]
        omega
      rw [e]
      exact ⟨by omega, rfl, r, by omega, rfl, 2 * t, rfl, by omega, h3, hgo⟩
    · have hlt : ¬ t < 2 * k := by have := of_decide_eq_false hd; omega
      have e : tabGo r t k = t := by cases r <;> simp [tabGo, hlt]
      rw [← hgo, e]; exact ⟨rfl, hS.frame⟩
  · rintro e w' ⟨v, rfl, rfl, h⟩; exact ⟨rfl, h⟩
theorem classesC {w : World} {A : Option Addr} {n c : Nat} {l : List Int} (h : InW w A n l) (hn : n ≤ 1000000000) (hg : (great l 0).isSome = true) : Calls Tryd.prog 27 #[.slice A n c] w fun e w' => e = .returned (.int .i64 (topOf l : Int)) ∧ w' = w := by
  refine Calls.mono (f27.calls (R := fun u w' => u = .int .i64 (topOf l : Int) ∧ w' = w) ?_) ?_
  · dsimp only [f27.VC]
    have hl := h.1
    refine sel_of (fun hd => ?_) (fun hd => ?_)
    · have hd : (n : Int) = 0 := eq_of_beq hd
      have : l = [] := List.eq_nil_of_length_eq_zero (by omega)
      subst this
      exact ⟨rfl, rfl⟩
    · have hd : (n : Int) ≠ 0 := beq_eq_false_iff_ne.1 hd
      obtain ⟨m, hm⟩ := Option.isSome_iff_exists.1 hg
      refine Calls.mono (maxC h hn (by omega) hm) ?_
      rintro _ w1 ⟨rfl, rfl⟩
      refine ⟨_, rfl, ?_, rfl⟩
      unfold topOf
      rw [hm]; rfl
  · rintro e w' ⟨v, rfl, rfl, h⟩; exact ⟨rfl, h⟩
/-- What a valid graph is. -/
theorem valid_parts {g : Gd} (h : validP g = true) : ((gA g).length ≤ 16 ∧ (gS g).length ≤ 64 ∧ (gO g).length ≤ 64 ∧ (gF g).length = (gS g).length ∧ (gN g).length = (gO g).length) ∧ ((gA g).Nodup ∧ (gS g).Nodup ∧ (gO g).Nodup) ∧
    great (gF g) 0 = some (topOf (gF g)) ∧ great (gN g) 0 = some (topOf (gN g)) ∧ topOf (gF g) ≤ 64 ∧ topOf (gN g) ≤ 64 ∧ shapedB (gM g) (topOf (gF g)) (topOf (gN g)) (gA g).length = true ∧ (gM g).Nodup ∧ ((List.range (topOf (gN g))).map (col (gM g))).Nodup := by
  unfold validP at h
  rw [Bool.and_eq_true, Bool.and_eq_true, decide_eq_true_iff, decide_eq_true_iff] at h
  obtain ⟨⟨h1, h2⟩, h3⟩ := h
  split at h3
  · rename_i n m hn hm
    rw [Bool.and_eq_true, Bool.and_eq_true, decide_eq_true_iff, decide_eq_true_iff] at h3
    have e1 : topOf (gF g) = n := by unfold topOf; rw [hn]; rfl
    have e2 : topOf (gN g) = m := by unfold topOf; rw [hm]; rfl
    have := great_le _ _ _ hn
    have := great_le _ _ _ hm
    rw [e1, e2]
    exact ⟨h1, h2, hn, hm, by omega, by omega, h3.1.1, h3.1.2, h3.2⟩
  · cases h3
theorem names_len (g : Gd) : (names g).length = (gA g).length + (gS g).length + (gO g).length := by
  simp [names]; omega
theorem size_eq {t r c : Nat} (ht : t ≤ 512) (hr : r ≤ 64) (hc : c ≤ 64) : IntKind.i64.wrap (IntKind.i64.wrap (4 + IntKind.i64.wrap (2 * (t : Int))) + IntKind.i64.wrap ((r : Int) * (c : Int))) = ((4 + 2 * t + r * c : Nat) : Int) := by
  have h := Nat.mul_le_mul hr hc
  have e : (r : Int) * (c : Int) = ((r * c : Nat) : Int) := by simp
  rw [e]
  generalize r * c = p at *
  rw [i64_id (x := 2 * _) (by omega) (by omega), i64_id (x := (p : Int)) (by omega) (by omega), i64_id (x := 4 + _) (by omega) (by omega), i64_id (by omega) (by omega)]
  omega
theorem tOf_small {g : Gd} (h : validP g = true) : tOf g ≤ 512 ∧ powB (tOf g : Int) = true ∧ 2 * (names g).length ≤ tOf g ∧ (names g).length ≤ 144 := by
  obtain ⟨h1, _⟩ := valid_parts h
  have hl := names_len g
  obtain ⟨h2, h3⟩ := tabN_small ⟨(names g).length, by omega⟩
  exact ⟨h2, h3, (tabN_ge (by omega)).1, by omega⟩
theorem InG.lens {w : World} {v : GV} {g : Gd} (h : InG w v g) : v.a.2.1 + v.s.2.1 + v.o.2.1 = (names g).length := by
  rw [names_len, h.a.1.1, h.s.1.1, h.o.1.1]
theorem sizeC {w : World} {v : GV} {g : Gd} (h : InG w v g) (hbig : v.a.2.1 ≤ 1100000 ∧ v.s.2.1 ≤ 1100000 ∧ v.o.2.1 ≤ 1100000) : Calls Tryd.prog 19 #[v.v] w fun e w' => e = .returned (.int .i64 (sizeP g)) ∧ Fr [] w w' := by
  refine Calls.mono (f19.calls (R := fun u w' => u = .int .i64 (sizeP g) ∧ Fr [] w w') ?_) ?_
  · dsimp only [f19.VC]
    have hS := (St.start w).alloc v.cells 32
    generalize w.heap.size = b at *
    generalize World.alloc w (.cells v.cells 32) = w1 at *
    refine ⟨_, _, _, (hS.blk 0 rfl).cell rfl, _, _, _, (hS.blk 0 rfl).cell rfl, _, _, _, (hS.blk 0 rfl).cell rfl, _, _, _, (hS.blk 0 rfl).cell rfl, _, _, _, (hS.blk 0 rfl).cell rfl, _, _, _, (hS.blk 0 rfl).cell rfl, ?_⟩
    refine Calls.mono (hS.step0 (validC (h.fr hS.frame) hbig)) ?_
    rintro _ w2 ⟨rfl, hS⟩
    refine ⟨_, rfl, sel_of (fun hv => ?_) (fun hv => ?_)⟩
    · have hv : validP g = false := by simpa using hv
      exact ⟨by unfold sizeP; rw [hv]; rfl, hS.frame⟩
    · have hv : validP g = true := by simpa using hv
      obtain ⟨p1, p2, p3, p4, p5, p6, p7⟩ := valid_parts hv
      obtain ⟨q1, q2, q3, q4⟩ := tOf_small hv
      have efin : sizeP g = ((4 + 2 * tOf g + topOf (gF g) * topOf (gN g) : Nat) : Int) := by unfold sizeP; rw [if_pos hv]
      have hfin := size_eq q1 p5 p6
      rw [efin]
      have hd := hS.drew
      have hlen := h.lens
      have lf := h.f.1.1
      have ln := h.n.1.1
      have bf : v.f.2.1 ≤ 1000000000 := by omega
      have bn : v.n.2.1 ≤ 1000000000 := by omega
      have gf : (great (gF g) 0).isSome = true := by rw [p3]; rfl
      have gn : (great (gN g) 0).isSome = true := by rw [p4]; rfl
      have hn1 : (names g).length ≤ 1000000 := by omega
      refine ⟨_, _, _, (hS.blk 0 rfl).cell rfl, _, _, _, (hS.blk 0 rfl).cell rfl, _, _, _, (hS.blk 0 rfl).cell rfl, _, _, _, (hS.blk 0 rfl).cell rfl, _, _, _, (hS.blk 0 rfl).cell rfl, _, _, _, (hS.blk 0 rfl).cell rfl, ?_⟩
      repeat' (first
        | exact trivial
        | exact ⟨by rw [← hfin]; rfl, St.frame (L := [Chunk.blk b v.cells 32]) (by assumption)⟩
        | refine ⟨_, _, _, Blk.cell (St.blk (S := []) (w0 := w) (L := [Chunk.blk b v.cells 32]) (by assumption) 0 rfl) rfl, ?_⟩
        | (refine Calls.mono (placesC _ v hlen hn1) ?_
           rintro _ wn ⟨rfl, hf⟩
           have hnew := St.go (S := []) (w0 := w) (L := [Chunk.blk b v.cells 32]) (by assumption) hf
           clear hf
           refine ⟨_, rfl, ?_⟩)
        | (refine Calls.mono (classesC (h.fr (St.frame (S := []) (w0 := w) (L := [Chunk.blk b v.cells 32]) (by assumption))).f.1 bf gf) ?_
           rintro _ _ ⟨rfl, rfl⟩
           refine ⟨_, rfl, ?_⟩)
        | (refine Calls.mono (classesC (h.fr (St.frame (S := []) (w0 := w) (L := [Chunk.blk b v.cells 32]) (by assumption))).n.1 bn gn) ?_
           rintro _ _ ⟨rfl, rfl⟩
           refine ⟨_, rfl, ?_⟩)
        | refine And.intro ?_ ?_
        | fail)
  · rintro e w' ⟨v, rfl, rfl, h⟩; exact ⟨rfl, h⟩
end PG
end Go.Proofs.YtjmlfknogjaemaaDoor
/- Page: room for names: the program's and the document's count; the document's table. -/
set_option linter.unusedVariables false
set_option linter.unusedSimpArgs false
set_option maxRecDepth 10000
namespace Go.Proofs.YtjmlfknogjaemaaDoor
open Go Go.Proofs.YtjmlfknogjaemaaDoor.Vc
namespace PG
open Vc.PG NI
/-- An index that is there. -/
def IdxAt (w : World) (x : Nat) (l : List ByteArray) : Prop := ∃ F, (idxC x l).holds w F
def RefAt (w : World) (x : Nat) (l : List ByteArray) : Prop := ∃ F, (refI 81 x l).holds w F
theorem IdxAt.fr {w w' : World} {x : Nat} {l : List ByteArray} (h : IdxAt w x l) (hf : Fr [] w w') : IdxAt w' x l := by
  obtain ⟨F, hF⟩ := h
  exact ⟨F, (idxC x l).fr hF hf (by simp)⟩
theorem RefAt.fr {w w' : World} {x : Nat} {l : List ByteArray} (h : RefAt w x l) (hf : Fr [] w w') : RefAt w' x l := by
  obtain ⟨F, hF⟩ := h
  exact ⟨F, (refI 81 x l).fr hF hf (by simp)⟩
theorem findE {w : World} {x : Nat} {l : List ByteArray} (h : IdxAt w x l) (s : ByteArray) : Calls Tryd.prog 10 #[.pointer (some ⟨x, 0, none⟩), .string s] w fun e w' => e = .returned (.tuple #[.int .i64 (IX.num l s : Int), .bool (decide (IX.num l s ≠ 0))]) ∧ w' = w := by
  obtain ⟨F, hF⟩ := h
  obtain ⟨y, hS⟩ := openI (St.start1 hF)
  refine Calls.mono (f10.calls (R := fun v w' => v = .tuple #[.int .i64 (IX.num l s : Int), .bool (decide (IX.num l s ≠ 0))] ∧ w' = w) ⟨_, (hS.blk 0 rfl).cell rfl, _, _, _, lookI (hS.mapIs 1 rfl) s, rfl, rfl⟩) ?_
  rintro e w' ⟨v, rfl, rfl, rfl⟩; exact ⟨rfl, rfl⟩
theorem lenE {w : World} {x : Nat} {l : List ByteArray} (h : IdxAt w x l) : Calls Tryd.prog 11 #[.pointer (some ⟨x, 0, none⟩)] w fun e w' => e = .returned (.int .i64 (l.length : Int)) ∧ w' = w := by
  obtain ⟨F, hF⟩ := h
  obtain ⟨y, hS⟩ := openI (St.start1 hF)
  have hn := hS.slLen 2 rfl
  rw [List.length_map] at hn
  refine Calls.mono (f11.calls (R := fun v w' => v = .int .i64 (l.length : Int) ∧ w' = w) ⟨_, _, _, (hS.blk 0 rfl).cell rfl, by rw [← hn], rfl⟩) ?_
  rintro e w' ⟨v, rfl, rfl, rfl⟩; exact ⟨rfl, rfl⟩
theorem keysB {K V : Type} [DecidableEq K] {l : List (K × V)} {k : K} {v : V} : (GM.put l k v).map (·.1) = if memB (l.map (·.1)) k = true then l.map (·.1) else l.map (·.1) ++ [k] := by
  unfold GM.put
  cases hx : GM.idx l k with
  | some j =>
    unfold GM.idx at hx
    obtain ⟨hj, hk, _⟩ := List.findIdx?_eq_some_iff_getElem.mp hx
    have hk : (l.map (·.1))[j] = k := by simpa using hk
    rw [if_pos ((memB_iff _ _).2 (by rw [← hk]; exact List.getElem_mem hj))]
    dsimp only
    rw [List.map_set]
    apply List.ext_getElem (by simp)
    intro q h1 h2
    rw [List.getElem_set]
    split
    · rename_i h; subst h; exact hk.symm
    · rfl
  | none =>
    unfold GM.idx at hx
    rw [List.findIdx?_eq_none_iff] at hx
    rw [if_neg (fun hm => by have := hx k ((memB_iff _ _).1 hm); simp at this)]
    simp
theorem wantGo_app (l : List ByteArray) : ∀ (a b acc : List ByteArray), wantGo l (a ++ b) acc = wantGo l b (wantGo l a acc)
  | [], b, acc => rfl
  | s :: a, b, acc => by
    rw [List.cons_append, wantGo, wantGo]
    split
    · exact wantGo_app l a b _
    · exact wantGo_app l a b _
theorem wantGo_len (l : List ByteArray) : ∀ (ns acc : List ByteArray), (wantGo l ns acc).length ≤ acc.length + ns.length
  | [], acc => by simp [wantGo]
  | s :: ns, acc => by
    rw [wantGo]
    split
    · have := wantGo_len l ns (acc ++ [s]); simp at this ⊢; omega
    · have := wantGo_len l ns acc; simp; omega
theorem wantGo_mem (l : List ByteArray) (s : ByteArray) : ∀ (ns acc : List ByteArray), s ∈ wantGo l ns acc ↔ s ∈ acc ∨ (s ∈ ns ∧ IX.num l s = 0)
  | [], acc => by simp [wantGo]
  | t :: ns, acc => by
    rw [wantGo]
    split
    · rename_i h
      rw [wantGo_mem l s ns, List.mem_append, List.mem_singleton, List.mem_cons]
      constructor
      · rintro ((h1 | h1) | h1)
        · exact .inl h1
        · exact .inr ⟨.inl h1, by rw [h1]; exact h.1⟩
        · exact .inr ⟨.inr h1.1, h1.2⟩
      · rintro (h1 | ⟨h1 | h1, h2⟩)
        · exact .inl (.inl h1)
        · exact .inl (.inr h1)
        · exact .inr ⟨h1, h2⟩
    · rename_i h
      rw [wantGo_mem l s ns, List.mem_cons]
      constructor
      · rintro (h1 | h1)
        · exact .inl h1
        · exact .inr ⟨.inr h1.1, h1.2⟩
      · rintro (h1 | ⟨h1 | h1, h2⟩)
        · exact .inl h1
        · subst h1
          refine .inl (Classical.byContradiction fun hn => h ⟨h2, ?_⟩)
          cases hm : memB acc s with
          | false => rfl
          | true => exact absurd ((memB_iff _ _).1 hm) hn
        · exact .inr ⟨h1, h2⟩
def preN (g : Gd) : Nat → List ByteArray
  | 0 => []
  | 1 => gA g
  | 2 => gA g ++ gS g
  | _ => names g
theorem index136 (x y z : Value) (w : World) : (Instr.index 91 (.agg #[x, y, z]) (.int .i64 0)).run Tryd.prog w = .ok x w ∧ (Instr.index 91 (.agg #[x, y, z]) (.int .i64 1)).run Tryd.prog w = .ok y w ∧ (Instr.index 91 (.agg #[x, y, z]) (.int .i64 2)).run Tryd.prog w = .ok z w := by
  refine ⟨?_, ?_, ?_⟩ <;> kernel_rfl
abbrev mpS (r : Nat) (l : List (ByteArray × Int)) : Chunk := Chunk.map encS encN r l
theorem roomC {w : World} {v : GV} {g : Gd} {x : Nat} {l : List ByteArray} (h : InG w v g) (hI : IdxAt w x l) (hl : l.length ≤ 1048576) (hbig : v.a.2.1 ≤ 1100000 ∧ v.s.2.1 ≤ 1100000 ∧ v.o.2.1 ≤ 1100000) :
    Calls Tryd.prog 25 #[v.v, .pointer (some ⟨x, 0, none⟩)] w fun e w' => e = .returned (.bool (decide (l.length + freshN l g ≤ 1048576))) ∧ Fr [] w w' := by
  refine Calls.mono (f25.calls (R := fun u w' => u = .bool (decide (l.length + freshN l g ≤ 1048576)) ∧ Fr [] w w') ?_) ?_
  · dsimp only [f25.VC]
    have hS := ((St.start w).alloc v.cells 32).mapNew (encK := encS) (encV := encN)
    generalize (World.alloc w (.cells v.cells 32)).heap.size = mp at *
    generalize World.alloc (World.alloc w (.cells v.cells 32)) (.map #[] 0) = w1 at *
    generalize w.heap.size = b at *
    have la := h.a.1.1
    have ls := h.s.1.1
    have lo := h.o.1.1
    refine ⟨_, _, _, (hS.blk 1 rfl).cell rfl, _, _, _, (hS.blk 1 rfl).cell rfl, _, _, _, (hS.blk 1 rfl).cell rfl, fun y w' r => ∃ i : Nat, y = (i : Int) ∧ i + r = 3 ∧ ∃ m, St [] w w' [mpS mp m, Chunk.blk b v.cells 32] ∧ m.map (·.1) = wantGo l (preN g i) [], ⟨3, 0, rfl, rfl, [], hS, rfl⟩, ?_⟩
    rintro d y w2 r ⟨i, rfl, hir, m, hS, hm⟩
    refine sel_of (fun hd => ?_) (fun hd => ?_)
    · have hi : i < 3 := by have := of_decide_eq_true hd; omega
      obtain ⟨A, n, c, li, hX, hn, hidx, hpre⟩ : ∃ (A : Option Addr) (n c : Nat) (li : List ByteArray), InX w A n li ∧ n ≤ 1100000 ∧ (∀ w', (Instr.index 91 (.agg #[v.a.v, v.s.v, v.o.v]) (.int .i64 (i : Int))).run Tryd.prog w' = .ok (.slice A n c) w') ∧ preN g (i + 1) = preN g i ++ li := by
        obtain rfl | rfl | rfl : i = 0 ∨ i = 1 ∨ i = 2 := by omega
        · exact ⟨_, _, _, _, h.a.1, by omega, fun w' => (index136 _ _ _ w').1, rfl⟩
        · exact ⟨_, _, _, _, h.s.1, by omega, fun w' => (index136 _ _ _ w').2.1, rfl⟩
        · exact ⟨_, _, _, _, h.o.1, by omega, fun w' => (index136 _ _ _ w').2.2, rfl⟩
      have hnl := hX.1
      refine ⟨_, _, _, hidx, fun y w' q => ∃ j : Nat, y = (j : Int) ∧ j + q = n ∧ ∃ m, St [] w w' [mpS mp m, Chunk.blk b v.cells 32] ∧ m.map (·.1) = wantGo l (preN g i ++ li.take j) [], ⟨n, 0, rfl, by omega, m, hS, by rw [List.take_zero, List.append_nil]; exact hm⟩, ?_⟩
      rintro d y w3 q ⟨j, rfl, hjq, m, hS, hm⟩
      refine sel_of (fun hd => ?_) (fun hd => ?_)
      · have hj : j < n := by have := of_decide_eq_true hd; omega
        refine ⟨by omega, by omega, InX.need (hX.fr hS.frame) rfl hj ?_⟩
        refine Calls.mono (findE (hI.fr hS.frame) _) ?_
        rintro _ w4 ⟨rfl, e4⟩
        rw [e4, inc j 1100000 (by omega) (by omega)]
        have et : li.take (j + 1) = li.take j ++ [li.getD j ByteArray.empty] := by
          rw [List.take_succ_eq_append_getElem (by omega)]; simp [List.getD_eq_getElem?_getD, show j < li.length by omega]
        have eg : wantGo l (preN g i ++ li.take (j + 1)) [] = if IX.num l (li.getD j ByteArray.empty) = 0 ∧ memB (wantGo l (preN g i ++ li.take j) []) (li.getD j ByteArray.empty) = false then wantGo l (preN g i ++ li.take j) [] ++ [li.getD j ByteArray.empty] else wantGo l (preN g i ++ li.take j) [] := by
          rw [et, ← List.append_assoc, wantGo_app, wantGo]; rfl
        generalize li.getD j ByteArray.empty = s at *
        refine ⟨_, _, rfl, sel_of (fun h0 => ?_) (fun h0 => ?_)⟩
        · have h0 : IX.num l s = 0 := by simpa using h0
          obtain ⟨ti, i1, i2, i3, i4⟩ := info3
          have hlk := GM.look (d := (0 : Int)) under120 keyS i1 i2 (hS.mapIs 0 rfl) s false
          obtain ⟨w7, hup, hS7⟩ := hS.mapUpd 0 rfl under120 keyS s (IntKind.i64.wrap (GM.get 0 m s + 1))
          refine ⟨_, _, hlk, _, hup, rfl, q - 1, by omega, j + 1, rfl, by omega, _, hS7, ?_⟩
          rw [keysB, eg, ← hm]
          cases hmb : memB (m.map (·.1)) s with
          | false => rw [if_neg (by simp), if_pos ⟨h0, rfl⟩]
          | true => rw [if_pos rfl, if_neg (by simp)]
        · have h0 : IX.num l s ≠ 0 := by simpa using h0
          refine ⟨rfl, q - 1, by omega, j + 1, rfl, by omega, _, hS, ?_⟩
          rw [eg, if_neg (fun hh => h0 hh.1), hm]
      · have hj : j = n := by have := of_decide_eq_false hd; omega
        rw [inc i 100 (by omega) (by omega)]
        rw [List.take_of_length_le (by omega)] at hm
        exact ⟨rfl, r - 1, by omega, i + 1, rfl, by omega, _, hS, by rw [hpre]; exact hm⟩
    · have hi : i = 3 := by have := of_decide_eq_false hd; omega
      subst hi
      refine ⟨_, _, GM.len under120 (hS.mapIs 0 rfl), ?_⟩
      refine Calls.mono (lenE (hI.fr hS.frame)) ?_
      rintro _ w3 ⟨rfl, e3⟩
      rw [e3]
      refine ⟨_, rfl, ?_, hS.frame⟩
      rw [i64_id (by omega) (by omega)]
      have e : m.length = freshN l g := by
        have := congrArg List.length hm
        rw [List.length_map] at this
        exact this
      rw [e]
      congr 1
      rw [Bool.eq_iff_iff, decide_eq_true_iff, decide_eq_true_iff]
      omega
  · rintro e w' ⟨v, rfl, rfl, h⟩; exact ⟨rfl, h⟩
abbrev txs (v : Value) (l : List ByteArray) : Chunk := Chunk.ls encS 9 v l
end PG
end Go.Proofs.YtjmlfknogjaemaaDoor
/- The plain statements of some functions, printed by vcgen.py. -/
set_option maxRecDepth 100000
set_option linter.unusedVariables false
namespace Go.Proofs.YtjmlfknogjaemaaDoor
open Go Go.Proofs.YtjmlfknogjaemaaDoor.Vc
theorem W10.mixed : Tryd.prog.follows .mixedOrders = true := by kernel_rfl
/-- gatehouse/page.Lay$1 -/
def f28.AL : Nat → Option Ann := fun r => match r with | 1 => some ⟨[(15, .int .i64)], [1, 2, 3, 4, 5, 13, 14]⟩ | 5 => some ⟨[(12, .int .i64)], [1, 2, 3, 4, 5, 9, 11, 13, 14, 15]⟩ | _ => none
def f28.AC : Nat → Option Ann := fun _ => none
def f28.VC (Aa0 : Option Addr) (na0 ca0 : Nat) (xa1 : Int) (a2 : Nat) (cap2 : Array Value) (a3 : Nat) (a4 : Nat) (a5 : Nat) (w : World) (R : Value → World → Prop) : Prop :=
  ∃ I : Int → World → Nat → Prop,
  (∃ n, I 0 w n) ∧
  ∀ d : Env, ∀ (x15 : Int) (w_1 : World) (r : Nat), I x15 w_1 r →
  sel (decide ((x15 : Int) < ((na0 : Int) : Int))) (
  (0 : Int) ≤ x15 ∧ x15 < (na0 : Int) ∧
  needPtr Aa0 fun b18 o18 =>
  ∃ (s19 : ByteArray),
  w_1.cell? ⟨b18, o18 + x15.toNat * 1, none⟩ = some (.string s19) ∧
  ∃ (p20 : Option Addr),
  w_1.cell? ⟨a3, 0, none⟩ = some (.pointer p20) ∧
  Calls Tryd.prog 7 #[.pointer p20, .string s19] w_1 fun e_1 w_2 =>
  ∃ (x22 : Int),
  e_1 = .returned (.int .i64 x22) ∧
  (0 : Int) ≤ 2 ∧
  let i23 : Int := shlI .i64 x22 2;
  let i25 : Int := bitsI .or .i64 i23 xa1;
  ∃ (x27 : Int),
  w_2.cell? ⟨a4, 0, none⟩ = some (.int .i64 x27) ∧
  Calls Tryd.prog 22 #[.int .i64 i25, .int .i64 x27] w_2 fun e_2 w_3 =>
  ∃ (x28 : Int),
  e_2 = .returned (.int .i64 x28) ∧
  ∃ I_1 : Int → World → Nat → Prop,
  (∃ n, I_1 x28 w_3 n) ∧
  ∀ d_1 : Env, ∀ (x12 : Int) (w_4 : World) (r_1 : Nat), I_1 x12 w_4 r_1 →
  ∃ (A29 : Option Addr) (n29 c29 : Nat),
  w_4.cell? ⟨a5, 0, none⟩ = some (.slice A29 n29 c29) ∧
  let i31 : Int := IntKind.i64.wrap (2 * x12);
  let i32 : Int := IntKind.i64.wrap (4 + i31);
  (0 : Int) ≤ i32 ∧ i32 < (n29 : Int) ∧
  needPtr A29 fun b33 o33 =>
  ∃ (x34 : Int),
  w_4.cell? ⟨b33, o33 + i32.toNat * 1, none⟩ = some (.int .i64 x34) ∧
  sel ((x34 : Int) != (0 : Int)) (
  let i37 : Int := IntKind.i64.wrap (x12 + 1);
  ∃ (x38 : Int),
  w_4.cell? ⟨a4, 0, none⟩ = some (.int .i64 x38) ∧
  let i39 : Int := IntKind.i64.wrap (x38 - 1);
  let i40 : Int := bitsI .and .i64 i37 i39;
  ([.int .i64 xa1, .func (.func a2) #[] cap2, .pointer (some ⟨a3, 0, none⟩), .pointer (some ⟨a4, 0, none⟩), .pointer (some ⟨a5, 0, none⟩), .int .i64 x15, .int .i64 i25, .slice Aa0 na0 ca0, .int .i64 (na0 : Int), .int .i64 x15] : List Value) = ([.int .i64 xa1, .func (.func a2) #[] cap2, .pointer (some ⟨a3, 0, none⟩), .pointer (some ⟨a4, 0, none⟩), .pointer (some ⟨a5, 0, none⟩), .int .i64 x15, .int .i64 i25, .slice Aa0 na0 ca0, .int .i64 (na0 : Int), .int .i64 x15] : List Value) ∧ ∃ m, m < r_1 ∧ I_1 i40 w_4 m) (
  let i43 : Int := IntKind.i64.wrap (2 * x12);
  let i44 : Int := IntKind.i64.wrap (4 + i43);
  let i47 : Int := IntKind.i64.wrap (2 * x12);
  let i48 : Int := IntKind.i64.wrap (4 + i47);
  let i49 : Int := IntKind.i64.wrap (i48 + 1);
  (∃ (A41 : Option Addr) (n41 c41 : Nat),
  w_4.cell? ⟨a5, 0, none⟩ = some (.slice A41 n41 c41) ∧
  (∃ (A45 : Option Addr) (n45 c45 : Nat),
  w_4.cell? ⟨a5, 0, none⟩ = some (.slice A45 n45 c45) ∧
  callT Tryd.prog (.func (.func a2) #[] cap2) #[.int .i64 x15] w_4.drew fun e_3 w_5 =>
  ∃ (x53 : Int),
  e_3 = .returned (.int .i64 x53) ∧
  (0 : Int) ≤ i44 ∧ i44 < (n41 : Int) ∧
  needPtr A41 fun b54 o54 =>
  canStore w_5 b54 (o54 + i44.toNat * 1) 1 ∧
  let w_6 : World := setCs w_5 b54 (o54 + i44.toNat * 1) [.int .i64 i25];
  (0 : Int) ≤ i49 ∧ i49 < (n45 : Int) ∧
  needPtr A45 fun b55 o55 =>
  canStore w_6 b55 (o55 + i49.toNat * 1) 1 ∧
  let w_7 : World := setCs w_6 b55 (o55 + i49.toNat * 1) [.int .i64 x53];
  let i56 : Int := IntKind.i64.wrap (x15 + 1);
  ([.int .i64 xa1, .func (.func a2) #[] cap2, .pointer (some ⟨a3, 0, none⟩), .pointer (some ⟨a4, 0, none⟩), .pointer (some ⟨a5, 0, none⟩), .slice Aa0 na0 ca0, .int .i64 (na0 : Int)] : List Value) = ([.int .i64 xa1, .func (.func a2) #[] cap2, .pointer (some ⟨a3, 0, none⟩), .pointer (some ⟨a4, 0, none⟩), .pointer (some ⟨a5, 0, none⟩), .slice Aa0 na0 ca0, .int .i64 (na0 : Int)] : List Value) ∧ ∃ m, m < r ∧ I i56 w_7 m) ∧
  (callT Tryd.prog (.func (.func a2) #[] cap2) #[.int .i64 x15] w_4.drew fun e_4 w_8 =>
  ∃ (x53_1 : Int),
  e_4 = .returned (.int .i64 x53_1) ∧
  (0 : Int) ≤ i44 ∧ i44 < (n41 : Int) ∧
  needPtr A41 fun b54_1 o54_1 =>
  (∃ (A45_1 : Option Addr) (n45_1 c45_1 : Nat),
  w_8.cell? ⟨a5, 0, none⟩ = some (.slice A45_1 n45_1 c45_1) ∧
  canStore w_8 b54_1 (o54_1 + i44.toNat * 1) 1 ∧
  let w_9 : World := setCs w_8 b54_1 (o54_1 + i44.toNat * 1) [.int .i64 i25];
  (0 : Int) ≤ i49 ∧ i49 < (n45_1 : Int) ∧
  needPtr A45_1 fun b55_1 o55_1 =>
  canStore w_9 b55_1 (o55_1 + i49.toNat * 1) 1 ∧
  let w_10 : World := setCs w_9 b55_1 (o55_1 + i49.toNat * 1) [.int .i64 x53_1];
  let i56_1 : Int := IntKind.i64.wrap (x15 + 1);
  ([.int .i64 xa1, .func (.func a2) #[] cap2, .pointer (some ⟨a3, 0, none⟩), .pointer (some ⟨a4, 0, none⟩), .pointer (some ⟨a5, 0, none⟩), .slice Aa0 na0 ca0, .int .i64 (na0 : Int)] : List Value) = ([.int .i64 xa1, .func (.func a2) #[] cap2, .pointer (some ⟨a3, 0, none⟩), .pointer (some ⟨a4, 0, none⟩), .pointer (some ⟨a5, 0, none⟩), .slice Aa0 na0 ca0, .int .i64 (na0 : Int)] : List Value) ∧ ∃ m, m < r ∧ I i56_1 w_10 m) ∧
  (canStore w_8 b54_1 (o54_1 + i44.toNat * 1) 1 ∧
  let w_11 : World := setCs w_8 b54_1 (o54_1 + i44.toNat * 1) [.int .i64 i25];
  ∃ (A45_2 : Option Addr) (n45_2 c45_2 : Nat),
  w_11.cell? ⟨a5, 0, none⟩ = some (.slice A45_2 n45_2 c45_2) ∧
  (0 : Int) ≤ i49 ∧ i49 < (n45_2 : Int) ∧
  needPtr A45_2 fun b55_2 o55_2 =>
  canStore w_11 b55_2 (o55_2 + i49.toNat * 1) 1 ∧
  let w_12 : World := setCs w_11 b55_2 (o55_2 + i49.toNat * 1) [.int .i64 x53_1];
  let i56_2 : Int := IntKind.i64.wrap (x15 + 1);
  ([.int .i64 xa1, .func (.func a2) #[] cap2, .pointer (some ⟨a3, 0, none⟩), .pointer (some ⟨a4, 0, none⟩), .pointer (some ⟨a5, 0, none⟩), .slice Aa0 na0 ca0, .int .i64 (na0 : Int)] : List Value) = ([.int .i64 xa1, .func (.func a2) #[] cap2, .pointer (some ⟨a3, 0, none⟩), .pointer (some ⟨a4, 0, none⟩), .pointer (some ⟨a5, 0, none⟩), .slice Aa0 na0 ca0, .int .i64 (na0 : Int)] : List Value) ∧ ∃ m, m < r ∧ I i56_2 w_12 m) ∧ True) ∧ True) ∧
  (∃ (A45_3 : Option Addr) (n45_3 c45_3 : Nat),
  w_4.cell? ⟨a5, 0, none⟩ = some (.slice A45_3 n45_3 c45_3) ∧
  (∃ (A41_1 : Option Addr) (n41_1 c41_1 : Nat),
  w_4.cell? ⟨a5, 0, none⟩ = some (.slice A41_1 n41_1 c41_1) ∧
  callT Tryd.prog (.func (.func a2) #[] cap2) #[.int .i64 x15] w_4.drew fun e_5 w_13 =>
  ∃ (x53_2 : Int),
  e_5 = .returned (.int .i64 x53_2) ∧
  (0 : Int) ≤ i44 ∧ i44 < (n41_1 : Int) ∧
  needPtr A41_1 fun b54_2 o54_2 =>
  canStore w_13 b54_2 (o54_2 + i44.toNat * 1) 1 ∧
  let w_14 : World := setCs w_13 b54_2 (o54_2 + i44.toNat * 1) [.int .i64 i25];
  (0 : Int) ≤ i49 ∧ i49 < (n45_3 : Int) ∧
  needPtr A45_3 fun b55_3 o55_3 =>
  canStore w_14 b55_3 (o55_3 + i49.toNat * 1) 1 ∧
  let w_15 : World := setCs w_14 b55_3 (o55_3 + i49.toNat * 1) [.int .i64 x53_2];
  let i56_3 : Int := IntKind.i64.wrap (x15 + 1);
  ([.int .i64 xa1, .func (.func a2) #[] cap2, .pointer (some ⟨a3, 0, none⟩), .pointer (some ⟨a4, 0, none⟩), .pointer (some ⟨a5, 0, none⟩), .slice Aa0 na0 ca0, .int .i64 (na0 : Int)] : List Value) = ([.int .i64 xa1, .func (.func a2) #[] cap2, .pointer (some ⟨a3, 0, none⟩), .pointer (some ⟨a4, 0, none⟩), .pointer (some ⟨a5, 0, none⟩), .slice Aa0 na0 ca0, .int .i64 (na0 : Int)] : List Value) ∧ ∃ m, m < r ∧ I i56_3 w_15 m) ∧
  (callT Tryd.prog (.func (.func a2) #[] cap2) #[.int .i64 x15] w_4.drew fun e_6 w_16 =>
  ∃ (x53_3 : Int),
  e_6 = .returned (.int .i64 x53_3) ∧
  ∃ (A41_2 : Option Addr) (n41_2 c41_2 : Nat),
  w_16.cell? ⟨a5, 0, none⟩ = some (.slice A41_2 n41_2 c41_2) ∧
  (0 : Int) ≤ i44 ∧ i44 < (n41_2 : Int) ∧
  needPtr A41_2 fun b54_3 o54_3 =>
  canStore w_16 b54_3 (o54_3 + i44.toNat * 1) 1 ∧
  let w_17 : World := setCs w_16 b54_3 (o54_3 + i44.toNat * 1) [.int .i64 i25];
  (0 : Int) ≤ i49 ∧ i49 < (n45_3 : Int) ∧
  needPtr A45_3 fun b55_4 o55_4 =>
  canStore w_17 b55_4 (o55_4 + i49.toNat * 1) 1 ∧
  let w_18 : World := setCs w_17 b55_4 (o55_4 + i49.toNat * 1) [.int .i64 x53_3];
  let i56_4 : Int := IntKind.i64.wrap (x15 + 1);
  ([.int .i64 xa1, .func (.func a2) #[] cap2, .pointer (some ⟨a3, 0, none⟩), .pointer (some ⟨a4, 0, none⟩), .pointer (some ⟨a5, 0, none⟩), .slice Aa0 na0 ca0, .int .i64 (na0 : Int)] : List Value) = ([.int .i64 xa1, .func (.func a2) #[] cap2, .pointer (some ⟨a3, 0, none⟩), .pointer (some ⟨a4, 0, none⟩), .pointer (some ⟨a5, 0, none⟩), .slice Aa0 na0 ca0, .int .i64 (na0 : Int)] : List Value) ∧ ∃ m, m < r ∧ I i56_4 w_18 m) ∧ True) ∧
  (callT Tryd.prog (.func (.func a2) #[] cap2) #[.int .i64 x15] w_4.drew fun e_7 w_19 =>
  ∃ (x53_4 : Int),
  e_7 = .returned (.int .i64 x53_4) ∧
  ∃ (A41_3 : Option Addr) (n41_3 c41_3 : Nat),
  w_19.cell? ⟨a5, 0, none⟩ = some (.slice A41_3 n41_3 c41_3) ∧
  (0 : Int) ≤ i44 ∧ i44 < (n41_3 : Int) ∧
  needPtr A41_3 fun b54_4 o54_4 =>
  (∃ (A45_4 : Option Addr) (n45_4 c45_4 : Nat),
  w_19.cell? ⟨a5, 0, none⟩ = some (.slice A45_4 n45_4 c45_4) ∧
  canStore w_19 b54_4 (o54_4 + i44.toNat * 1) 1 ∧
  let w_20 : World := setCs w_19 b54_4 (o54_4 + i44.toNat * 1) [.int .i64 i25];
  (0 : Int) ≤ i49 ∧ i49 < (n45_4 : Int) ∧
  needPtr A45_4 fun b55_5 o55_5 =>
  canStore w_20 b55_5 (o55_5 + i49.toNat * 1) 1 ∧
  let w_21 : World := setCs w_20 b55_5 (o55_5 + i49.toNat * 1) [.int .i64 x53_4];
  let i56_5 : Int := IntKind.i64.wrap (x15 + 1);
  ([.int .i64 xa1, .func (.func a2) #[] cap2, .pointer (some ⟨a3, 0, none⟩), .pointer (some ⟨a4, 0, none⟩), .pointer (some ⟨a5, 0, none⟩), .slice Aa0 na0 ca0, .int .i64 (na0 : Int)] : List Value) = ([.int .i64 xa1, .func (.func a2) #[] cap2, .pointer (some ⟨a3, 0, none⟩), .pointer (some ⟨a4, 0, none⟩), .pointer (some ⟨a5, 0, none⟩), .slice Aa0 na0 ca0, .int .i64 (na0 : Int)] : List Value) ∧ ∃ m, m < r ∧ I i56_5 w_21 m) ∧
  (canStore w_19 b54_4 (o54_4 + i44.toNat * 1) 1 ∧
  let w_22 : World := setCs w_19 b54_4 (o54_4 + i44.toNat * 1) [.int .i64 i25];
  ∃ (A45_5 : Option Addr) (n45_5 c45_5 : Nat),
  w_22.cell? ⟨a5, 0, none⟩ = some (.slice A45_5 n45_5 c45_5) ∧
  (0 : Int) ≤ i49 ∧ i49 < (n45_5 : Int) ∧
  needPtr A45_5 fun b55_6 o55_6 =>
  canStore w_22 b55_6 (o55_6 + i49.toNat * 1) 1 ∧
  let w_23 : World := setCs w_22 b55_6 (o55_6 + i49.toNat * 1) [.int .i64 x53_4];
  let i56_6 : Int := IntKind.i64.wrap (x15 + 1);
  ([.int .i64 xa1, .func (.func a2) #[] cap2, .pointer (some ⟨a3, 0, none⟩), .pointer (some ⟨a4, 0, none⟩), .pointer (some ⟨a5, 0, none⟩), .slice Aa0 na0 ca0, .int .i64 (na0 : Int)] : List Value) = ([.int .i64 xa1, .func (.func a2) #[] cap2, .pointer (some ⟨a3, 0, none⟩), .pointer (some ⟨a4, 0, none⟩), .pointer (some ⟨a5, 0, none⟩), .slice Aa0 na0 ca0, .int .i64 (na0 : Int)] : List Value) ∧ ∃ m, m < r ∧ I i56_6 w_23 m) ∧ True) ∧ True)) (
  R (.tuple #[]) w_1)
theorem f28.eq (Aa0 : Option Addr) (na0 ca0 : Nat) (xa1 : Int) (a2 : Nat) (cap2 : Array Value) (a3 : Nat) (a4 : Nat) (a5 : Nat) (w : World) (R : Value → World → Prop) : f28.VC Aa0 na0 ca0 xa1 a2 cap2 a3 a4 a5 w R = funV Tryd.prog Tryd.f28 f28.AL f28.AC #[.slice Aa0 na0 ca0, .int .i64 xa1, .func (.func a2) #[] cap2, .pointer (some ⟨a3, 0, none⟩), .pointer (some ⟨a4, 0, none⟩), .pointer (some ⟨a5, 0, none⟩)] w R := by kernel_rfl
theorem f28.calls {Aa0 : Option Addr} {na0 ca0 : Nat} {xa1 : Int} {a2 : Nat} {cap2 : Array Value} {a3 : Nat} {a4 : Nat} {a5 : Nat} {w : World} {R : Value → World → Prop} (h : f28.VC Aa0 na0 ca0 xa1 a2 cap2 a3 a4 a5 w R) : Calls Tryd.prog 28 #[.slice Aa0 na0 ca0, .int .i64 xa1, .func (.func a2) #[] cap2, .pointer (some ⟨a3, 0, none⟩), .pointer (some ⟨a4, 0, none⟩), .pointer (some ⟨a5, 0, none⟩)] w fun e w' => ∃ v, e = .returned v ∧ R v w' :=
  funV_sound (fn := Tryd.f28) (AL := f28.AL) (AC := f28.AC) W10.mixed (by kernel_rfl) (by rw [← f28.eq Aa0 na0 ca0 xa1 a2 cap2 a3 a4 a5]; exact h)

end Go.Proofs.YtjmlfknogjaemaaDoor
