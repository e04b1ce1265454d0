/- Page: which graphs the program calls valid. -/
import Derived.Test.YtjmlfknogjaemaaDoorM14
import Derived.Laws.MakeOwn
import Derived.Test.YtjmlfknogjaemaaDoorM8
set_option linter.unusedVariables false
set_option linter.unusedSimpArgs false
set_option maxRecDepth 10000
namespace Go.Proofs.YtjmlfknogjaemaaDoor
open Go Go.Proofs.YtjmlfknogjaemaaDoor.Vc
namespace PG
open Vc.PG NI
abbrev blkU (g : Nat) (L : List Int) : Chunk := Chunk.blk g (L.map encU).toArray 89
theorem under123 : Tryd.prog.underlying 87 = some (.slice 89) := by kernel_rfl
theorem info125 : ∃ i z, Tryd.prog.info? 89 = some i ∧ i.zero = some z ∧ z.cells = ((List.replicate 64 (0 : Int)).map encU).toArray ∧ i.size = 64 ∧ i.bytes = 128 := ⟨Tryd.prog.types[89]!, ((Tryd.prog.types[89]!).zero).get!, by kernel_rfl, by kernel_rfl, by kernel_rfl, by kernel_rfl, by kernel_rfl⟩
theorem made_rep (z : Value) (k n : Nat) (hk : 0 < k) : madeCells (List.replicate k z).toArray n = (List.replicate n z).toArray := by
  apply Array.ext (by simp [size_madeCells])
  intro i h1 h2
  simp [madeCells, Nat.mod_lt i hk]
theorem made_zero (n : Nat) : madeCells ((List.replicate 64 (0 : Int)).map encU).toArray (n * 64) = ((List.replicate (n * 64) (0 : Int)).map encU).toArray := by
  rw [List.map_replicate, List.map_replicate]
  exact made_rep _ _ _ (by omega)
theorem InM.need0 {w0 w : World} {A : Option Addr} {n : Nat} {M : List (List Int)} (h : InM w0 A n M) (hf : Fr [] w0 w) {i : Int} {q : Nat} (h0 : i = (q : Int)) (h1 : q < n) {K : Option Addr → Nat → Nat → Prop} (hk : ∀ B k c, InU w0 B k (M.getD q []) → K B k c) :
    needPtr A fun b o => ∃ B k c, w.cell? ⟨b, o + i.toNat * 1, none⟩ = some (.slice B k c) ∧ K B k c := by
  obtain ⟨b, o, rfl, h2⟩ := h.2 (by omega)
  obtain ⟨B, k, c, h3, h4⟩ := h2 q h1
  refine needPtr_of rfl ⟨B, k, c, ?_, hk B k c h4⟩
  rw [Nat.mul_one, h0, Int.toNat_natCast]
  exact hf.cell h3
theorem inA {S : List Nat} {w0 w : World} {L : List Chunk} (h : St S w0 w L) (i : Nat) {g n : Nat} {Lr : List Int} (hi : L[i]? = some (blkU g Lr)) (hl : Lr.length = n * 64) : InA w (some ⟨g, 0, none⟩) n ((List.range n).map (rowL Lr)) := by
  refine ⟨by simp, fun r hr => ?_, fun hn => ⟨g, 0, rfl, fun a ha c hc => ?_⟩⟩
  · obtain ⟨a, _, rfl⟩ := List.mem_map.1 hr
    exact rowL_len _ _
  · have e : (((List.range n).map (rowL Lr)).getD a []) = rowL Lr a := by simp [List.getD_eq_getElem?_getD, ha]
    rw [e, rowL_getD _ _ _ hc]
    refine (h.blk i hi).cell ?_
    have : a * 64 + c < Lr.length := by omega
    simp [List.getD_eq_getElem?_getD, this]
theorem make64 (w : World) (n : Nat) (hn : n ≤ 1000) : (Instr.makeSlice 87 (.int .i64 (n : Int)) (.int .i64 (n : Int))).run Tryd.prog w = .ok (.slice (some ⟨w.heap.size, 0, none⟩) n n) (w.alloc (.cells ((List.replicate (n * 64) (0 : Int)).map encU).toArray 89)) := by
  obtain ⟨i, z, h1, h2, h3, h4, h5⟩ := info125
  have := run_make w (P := Tryd.prog) 87 89 i z under123 h1 h2 .i64 .i64 (n : Int) (n : Int) (by omega) (Int.le_refl _) (by rw [h5]; omega) (by omega)
  rw [h3, h4, Int.toNat_natCast, made_zero] at this
  exact this
theorem set_u (L : List Int) (p : Nat) (x : Int) : putA (L.map encU).toArray p [encU x] = ((L.set p x).map encU).toArray := by
  simp [putA, List.map_set]
theorem fillC {w w8 : World} {v : GV} {g : Gd} {n m b gr gc : Nat} (h : InG w v g) (hMl : (gM g).length = n) (hlens : (gA g).length ≤ 16 ∧ (gS g).length ≤ 64 ∧ (gO g).length ≤ 64 ∧ (gF g).length = (gS g).length ∧ (gN g).length = (gO g).length) (hn : n ≤ 64) (hm : m ≤ 64)
    (hM : St [] w w8 [blkU gr (List.replicate (n * 64) 0), blkU gc (List.replicate (m * 64) 0), Chunk.blk b v.cells 32]) {R : Value → World → Prop}
    (hR : ∀ w', Fr [] w w' → R (.bool (shapedB (gM g) n m (gA g).length && decide ((gM g).Nodup) && decide (((List.range m).map (col (gM g))).Nodup))) w') :
    ∃ I : Int → World → Nat → Prop,
    (∃ n, I 0 w8 n) ∧
    ∀ d : Env, ∀ (x95 : Int) (w_9 : World) (r : Nat), I x95 w_9 r →
    sel (decide ((x95 : Int) < ((v.m.2.1 : Int) : Int))) (
    (0 : Int) ≤ x95 ∧ x95 < (v.m.2.1 : Int) ∧
    needPtr v.m.1 fun b98 o98 =>
    ∃ (A99 : Option Addr) (n99 c99 : Nat),
    w_9.cell? ⟨b98, o98 + x95.toNat * 1, none⟩ = some (.slice A99 n99 c99) ∧
    sel (((n99 : Int) : Int) != ((m : Int) : Int)) (
    R (.bool false) w_9) (
    ∃ I_1 : Int → World → Nat → Prop,
    (∃ n, I_1 0 w_9 n) ∧
    ∀ d_1 : Env, ∀ (x106 : Int) (w_10 : World) (r_1 : Nat), I_1 x106 w_10 r_1 →
    sel (decide ((x106 : Int) < ((n99 : Int) : Int))) (
    (0 : Int) ≤ x106 ∧ x106 < (n99 : Int) ∧
    needPtr A99 fun b109 o109 =>
    ∃ (x110 : Int),
    w_10.cell? ⟨b109, o109 + x106.toNat * 1, none⟩ = some (.int .u16 x110) ∧
    let i112 : Int := IntKind.i64.wrap x110;
    ∃ (A114 : Option Addr) (n114 c114 : Nat),
    w_10.cell? ⟨b, 0, none⟩ = some (.slice A114 n114 c114) ∧
    (0 : Int) ≤ (n114 : Int) ∧
    let i116 : Int := shrI .i64 i112 (n114 : Int);
    sel ((i116 : Int) != (0 : Int)) (
    R (.bool false) w_10) (
    (0 : Int) ≤ x95 ∧ x95 < (n : Int) ∧
    needPtr (some ⟨gr, 0, none⟩) fun b126 o126 =>
    (0 : Int) ≤ x106 ∧ x106 < (64 : Int) ∧
    (0 : Int) ≤ x106 ∧ x106 < (m : Int) ∧
    needPtr (some ⟨gc, 0, none⟩) fun b128 o128 =>
    canStore w_10 b126 (o126 + x95.toNat * 64 + x106.toNat * 1) 1 ∧
    let w_11 : World := setCs w_10.drew b126 (o126 + x95.toNat * 64 + x106.toNat * 1) [.int .u16 x110];
    (0 : Int) ≤ x95 ∧ x95 < (64 : Int) ∧
    canStore w_11 b128 (o128 + x106.toNat * 64 + x95.toNat * 1) 1 ∧
    let w_12 : World := setCs w_11 b128 (o128 + x106.toNat * 64 + x95.toNat * 1) [.int .u16 x110];
    let i130 : Int := IntKind.i64.wrap (x106 + 1);
    ([.pointer (some ⟨b, 0, none⟩), .int .i64 (m : Int), .slice (some ⟨gr, 0, none⟩) n n, .slice (some ⟨gc, 0, none⟩) m m, .int .i64 x95, .slice v.m.1 v.m.2.1 v.m.2.2, .int .i64 (v.m.2.1 : Int), .int .i64 x95, .slice A99 n99 c99, .int .i64 (n99 : Int)] : List Value) = ([.pointer (some ⟨b, 0, none⟩), .int .i64 (m : Int), .slice (some ⟨gr, 0, none⟩) n n, .slice (some ⟨gc, 0, none⟩) m m, .int .i64 x95, .slice v.m.1 v.m.2.1 v.m.2.2, .int .i64 (v.m.2.1 : Int), .int .i64 x95, .slice A99 n99 c99, .int .i64 (n99 : Int)] : List Value) ∧ ∃ m, m < r_1 ∧ I_1 i130 w_12 m)) (
    let i131 : Int := IntKind.i64.wrap (x95 + 1);
    ([.pointer (some ⟨b, 0, none⟩), .int .i64 (m : Int), .slice (some ⟨gr, 0, none⟩) n n, .slice (some ⟨gc, 0, none⟩) m m, .slice v.m.1 v.m.2.1 v.m.2.2, .int .i64 (v.m.2.1 : Int)] : List Value) = ([.pointer (some ⟨b, 0, none⟩), .int .i64 (m : Int), .slice (some ⟨gr, 0, none⟩) n n, .slice (some ⟨gc, 0, none⟩) m m, .slice v.m.1 v.m.2.1 v.m.2.2, .int .i64 (v.m.2.1 : Int)] : List Value) ∧ ∃ m, m < r ∧ I i131 w_10 m))) (
    Calls Tryd.prog 51 #[.slice (some ⟨gr, 0, none⟩) n n] w_9 fun e_6 w_13 =>
    ∃ (b133 : Bool),
    e_6 = .returned (.bool b133) ∧
    sel b133 (
    Calls Tryd.prog 51 #[.slice (some ⟨gc, 0, none⟩) m m] w_13 fun e_7 w_14 =>
    ∃ (b136 : Bool),
    e_7 = .returned (.bool b136) ∧
    R (.bool b136) w_14) (
    R (.bool false) w_13)) := by
  dsimp only
  have lm := h.m.1.1
  have hfalse : shapedB (gM g) n m (gA g).length = false → ∀ w', Fr [] w w' → R (.bool false) w' := by
    intro hh w' hf
    have := hR w' hf
    rw [hh] at this
    exact this
  refine ⟨fun x w' r => ∃ i : Nat, x = (i : Int) ∧ i + r = n ∧ ∃ Lr Lc, St [] w w' [blkU gr Lr, blkU gc Lc, Chunk.blk b v.cells 32] ∧ Lr.length = n * 64 ∧ Lc.length = m * 64 ∧ Fill (gM g) n m i 0 Lr Lc ∧ ∀ a, a < i → ((gM g).getD a []).length = m ∧ ∀ q, q < m → ((gM g).getD a []).getD q 0 < 2 ^ (gA g).length, ⟨n, 0, rfl, by omega, _, _, hM, by simp, by simp, Fill.zero _ _ _ _ _, fun a ha => by omega⟩, ?_⟩
  rintro d x w9 r ⟨i, rfl, hir, Lr, Lc, hS, hrl, hcl, hfill, hok⟩
  refine sel_of (fun hd => ?_) (fun hd => ?_)
  · have hi : i < n := by have := of_decide_eq_true hd; omega
    refine ⟨by omega, by omega, InM.need0 h.m.1 hS.frame rfl (by omega) fun B k c hU => sel_of (fun h2 => ?_) (fun h2 => ?_)⟩
    · have h2 : (k : Int) ≠ (m : Int) := bne_iff_ne.1 h2
      refine hfalse ?_ _ hS.frame
      cases hh : shapedB (gM g) n m (gA g).length with
      | false => rfl
      | true => have := (((shaped_iff _ _ _ _).1 hh).2 i hi).1; have := hU.1; omega
    · have h2 : (k : Int) = (m : Int) := bne_eq_false_iff_eq.1 h2
      have hk := hU.1
      refine ⟨fun x w' q => Fr [] w9 w9 ∧ ∃ j : Nat, x = (j : Int) ∧ j + q = m ∧ ∃ Lr Lc, St [] w w' [blkU gr Lr, blkU gc Lc, Chunk.blk b v.cells 32] ∧ Lr.length = n * 64 ∧ Lc.length = m * 64 ∧ Fill (gM g) n m i j Lr Lc ∧ ∀ q, q < j → ((gM g).getD i []).getD q 0 < 2 ^ (gA g).length, ⟨m, Fr.refl _ _, 0, rfl, by omega, _, _, hS, hrl, hcl, hfill, fun a ha => by omega⟩, ?_⟩
      rintro d x w10 q ⟨_, j, rfl, hjq, Lr, Lc, hS, hrl, hcl, hfill, hok2⟩
      refine sel_of (fun hd => ?_) (fun hd => ?_)
      · have hj : j < m := by have := of_decide_eq_true hd; omega
        have hu : 0 ≤ ((gM g).getD i []).getD j 0 ∧ ((gM g).getD i []).getD j 0 < 65536 := by
          refine h.u ((gM g).getD i []) ?_ _ ?_
          · exact (mem_getD [] _ _).2 ⟨i, by omega, rfl⟩
          · exact (mem_getD 0 _ _).2 ⟨j, by omega, rfl⟩
        refine ⟨by omega, by omega, (hU.fr hS.frame).need rfl (by omega) ⟨_, _, _, (hS.blk 2 rfl).cell rfl, by omega, ?_⟩⟩
        rw [i64_id (x := ((gM g).getD i []).getD j 0) (by omega) (by omega), show (v.a.2.1 : Int) = ((gA g).length : Int) by rw [h.a.1.1], shr_ne hu.1 hlens.1]
        refine sel_of (fun h3 => ?_) (fun h3 => ?_)
        · have h3 : ¬ ((gM g).getD i []).getD j 0 < 2 ^ (gA g).length := by simpa using h3
          refine hfalse ?_ _ hS.frame
          cases hh : shapedB (gM g) n m (gA g).length with
          | false => rfl
          | true => exact absurd ((((shaped_iff _ _ _ _).1 hh).2 i hi).2 j hj) h3
        · have h3 : ((gM g).getD i []).getD j 0 < 2 ^ (gA g).length := by simpa using h3
          have e1 : 0 + (i : Int).toNat * 64 + (j : Int).toNat * 1 = i * 64 + j := by simp
          have e2 : 0 + (j : Int).toNat * 64 + (i : Int).toNat * 1 = j * 64 + i := by simp
          have hS1 := hS.drew.set 0 rfl (i * 64 + j) [encU (((gM g).getD i []).getD j 0)]
          rw [set_u] at hS1
          have hS2 := hS1.set 1 rfl (j * 64 + i) [encU (((gM g).getD i []).getD j 0)]
          rw [set_u] at hS2
          refine ⟨by omega, by omega, needPtr_of rfl ⟨by omega, by omega, by omega, by omega, needPtr_of rfl ?_⟩⟩
          rw [e1, e2, inc j 100 (by omega) (by omega)]
          refine ⟨(hS.blk 0 rfl).can (by simp; omega), by omega, by omega, (hS1.blk 1 rfl).can (by simp; omega), rfl, q - 1, by omega, Fr.refl _ _, j + 1, rfl, by omega, _, _, hS2, by simp [hrl], by simp [hcl], hfill.step hrl hcl hi hj hn hm, fun a ha => ?_⟩
          rcases Nat.lt_or_ge a j with h1 | h1
          · exact hok2 a h1
          · have : a = j := by omega
            subst this; exact h3
      · have hj : j = m := by have := of_decide_eq_false hd; omega
        subst hj
        rw [inc i 100 (by omega) (by omega)]
        refine ⟨rfl, r - 1, by omega, i + 1, rfl, by omega, _, _, hS, hrl, hcl, hfill.row, fun a ha => ?_⟩
        rcases Nat.lt_or_ge a i with h1 | h1
        · exact hok a h1
        · have : a = i := by omega
          subst this; exact ⟨by omega, hok2⟩
  · have hi : i = n := by have := of_decide_eq_false hd; omega
    subst hi
    have hsh : shapedB (gM g) i m (gA g).length = true := (shaped_iff _ _ _ _).2 ⟨hMl, hok⟩
    rw [hsh, Bool.true_and] at hR
    refine Calls.mono (hS.step0 (differC (inA hS 0 rfl hrl) (by omega))) ?_
    rintro _ w13 ⟨rfl, hS⟩
    rw [decide_eq_decide.2 (hfill.rows hMl hm fun a ha => (hok a ha).1)]
    refine ⟨_, rfl, sel_of (fun hb => ?_) (fun hb => ?_)⟩
    · refine Calls.mono (hS.step0 (differC (inA hS 1 rfl hcl) (by omega))) ?_
      rintro _ w14 ⟨rfl, hS⟩
      rw [decide_eq_decide.2 (hfill.cols hMl hn)]
      have := hR w14 hS.frame
      rw [hb, Bool.true_and] at this
      exact ⟨_, rfl, this⟩
    · have := hR w13 hS.frame
      rw [hb, Bool.false_and] at this
      exact this
theorem validC {w : World} {v : GV} {g : Gd} (h : InG w v g) (hbig : v.a.2.1 ≤ 1100000 ∧ v.s.2.1 ≤ 1100000 ∧ v.o.2.1 ≤ 1100000) :
    Calls Tryd.prog 24 #[v.v] w fun e w' => e = .returned (.bool (validP g)) ∧ Fr [] w w' := by
  refine Calls.mono (f24.calls (R := fun v w' => v = .bool (validP g) ∧ Fr [] w w') ?_) ?_
  · dsimp only [f24.VC]
    have hS := (St.start w).alloc v.cells 32
    have hg := h.fr hS.frame
    generalize hbb : w.heap.size = b at *
    generalize World.alloc w (.cells v.cells 32) = w1 at *
    have la := h.a.1.1
    have ls := h.s.1.1
    have lo := h.o.1.1
    have lf := h.f.1.1
    have ln := h.n.1.1
    have lm := h.m.1.1
    refine ⟨_, _, _, (hS.blk 0 rfl).cell rfl, sel_of (fun h1 => ⟨?_, hS.frame⟩) (fun h1 => ⟨_, _, _, (hS.blk 0 rfl).cell rfl, sel_of (fun h2 => ⟨?_, hS.frame⟩) (fun h2 => ⟨_, _, _, (hS.blk 0 rfl).cell rfl, sel_of (fun h3 => ⟨?_, hS.frame⟩) (fun h3 => ⟨_, _, _, (hS.blk 0 rfl).cell rfl, ?_⟩)⟩)⟩)⟩
    · have h1 := of_decide_eq_true h1
      rw [valid_lens (by omega)]
    · have h2 := of_decide_eq_true h2
      rw [valid_lens (by omega)]
    · have h3 := of_decide_eq_true h3
      rw [valid_lens (by omega)]
    have h1 := of_decide_eq_false h1
    have h2 := of_decide_eq_false h2
    have h3 := of_decide_eq_false h3
    refine Calls.mono (onceC hg.a.1 hg.a.2 (by omega)) ?_
    rintro _ w2 ⟨rfl, e2⟩
    rw [e2]
    refine ⟨_, rfl, sel_of (fun t1 => ⟨?_, hS.frame⟩) (fun t1 => ⟨_, _, _, (hS.blk 0 rfl).cell rfl, ?_⟩)⟩
    · have t1 : ¬ (gA g).Nodup := by simpa using t1
      rw [valid_twice (fun hh => t1 hh.1)]
    refine Calls.mono (onceC hg.s.1 hg.s.2 (by omega)) ?_
    rintro _ w3 ⟨rfl, e3⟩
    rw [e3]
    refine ⟨_, rfl, sel_of (fun t2 => ⟨?_, hS.frame⟩) (fun t2 => ⟨_, _, _, (hS.blk 0 rfl).cell rfl, ?_⟩)⟩
    · have t2 : ¬ (gS g).Nodup := by simpa using t2
      rw [valid_twice (fun hh => t2 hh.2.1)]
    refine Calls.mono (onceC hg.o.1 hg.o.2 (by omega)) ?_
    rintro _ w4 ⟨rfl, e4⟩
    rw [e4]
    refine ⟨_, rfl, sel_of (fun t3 => ⟨?_, hS.frame⟩) (fun t3 => ⟨_, _, _, (hS.blk 0 rfl).cell rfl, _, _, _, (hS.blk 0 rfl).cell rfl, sel_of (fun h4 => ⟨?_, hS.frame⟩) (fun h4 => ⟨_, _, _, (hS.blk 0 rfl).cell rfl, _, _, _, (hS.blk 0 rfl).cell rfl, sel_of (fun h5 => ⟨?_, hS.frame⟩) (fun h5 => ⟨_, _, _, (hS.blk 0 rfl).cell rfl, ?_⟩)⟩)⟩)⟩
    · have t3 : ¬ (gO g).Nodup := by simpa using t3
      rw [valid_twice (fun hh => t3 hh.2.2)]
    · have h4 : (v.f.2.1 : Int) ≠ (v.s.2.1 : Int) := bne_iff_ne.1 h4
      rw [valid_lens (by omega)]
    · have h5 : (v.n.2.1 : Int) ≠ (v.o.2.1 : Int) := bne_iff_ne.1 h5
      rw [valid_lens (by omega)]
    have t1 : (gA g).Nodup := by simpa using t1
    have t2 : (gS g).Nodup := by simpa using t2
    have t3 : (gO g).Nodup := by simpa using t3
    have h4 : (v.f.2.1 : Int) = (v.s.2.1 : Int) := bne_eq_false_iff_eq.1 h4
    have h5 : (v.n.2.1 : Int) = (v.o.2.1 : Int) := bne_eq_false_iff_eq.1 h5
    have hlens : (gA g).length ≤ 16 ∧ (gS g).length ≤ 64 ∧ (gO g).length ≤ 64 ∧ (gF g).length = (gS g).length ∧ (gN g).length = (gO g).length := by omega
    refine Calls.mono (countC hg.f.1 (by omega)) ?_
    rintro _ w5 ⟨rfl, e5⟩
    rw [e5]
    refine ⟨_, _, rfl, _, _, _, (hS.blk 0 rfl).cell rfl, ?_⟩
    refine Calls.mono (countC hg.n.1 (by omega)) ?_
    rintro _ w6 ⟨rfl, e6⟩
    rw [e6]
    clear e2 e3 e4 e5 e6 w2 w3 w4 w5 w6
    refine ⟨_, _, rfl, sel_of (fun t4 => ⟨?_, hS.frame⟩) (fun t4 => sel_of (fun t5 => ⟨?_, hS.frame⟩) (fun t5 => ⟨_, _, _, (hS.blk 0 rfl).cell rfl, ?_⟩))⟩
    · rw [valid_none (.inl (by simpa using t4))]
    · rw [valid_none (.inr (by simpa using t5))]
    obtain ⟨n, hn⟩ : ∃ n, great (gF g) 0 = some n := Option.isSome_iff_exists.1 (by simpa using t4)
    obtain ⟨m, hm⟩ : ∃ m, great (gN g) 0 = some m := Option.isSome_iff_exists.1 (by simpa using t5)
    have hnl := great_le _ _ _ hn
    have hml := great_le _ _ _ hm
    rw [valid_eq hlens ⟨t1, t2, t3⟩ hn hm, hn, hm]
    clear t4 t5
    dsimp only [Option.getD_some]
    refine sel_of (fun h6 => ⟨?_, hS.frame⟩) (fun h6 => ?_)
    · have h6 : (v.m.2.1 : Int) ≠ (n : Int) := bne_iff_ne.1 h6
      rw [show shapedB (gM g) n m (gA g).length = false by
        cases hh : shapedB (gM g) n m (gA g).length with
        | false => rfl
        | true => have := ((shaped_iff _ _ _ _).1 hh).1; omega]
      rfl
    have h6 : (v.m.2.1 : Int) = (n : Int) := bne_eq_false_iff_eq.1 h6
    have m1 := make64 w1.drew n (by omega)
    have m2 := make64 (w1.drew.alloc (.cells ((List.replicate (n * 64) (0 : Int)).map encU).toArray 89)) m (by omega)
    have m3 := make64 w1.drew m (by omega)
    have m4 := make64 (w1.drew.alloc (.cells ((List.replicate (m * 64) (0 : Int)).map encU).toArray 89)) n (by omega)
    have S1 := ((hS.drew.alloc ((List.replicate (n * 64) (0 : Int)).map encU).toArray 89).alloc ((List.replicate (m * 64) (0 : Int)).map encU).toArray 89).perm (List.Perm.swap _ _ _)
    have S2 := (hS.drew.alloc ((List.replicate (m * 64) (0 : Int)).map encU).toArray 89).alloc ((List.replicate (n * 64) (0 : Int)).map encU).toArray 89
    have hMl : (gM g).length = n := by omega
    refine ⟨⟨_, _, _, _, m1, _, _, _, _, m2, ?_⟩, ⟨_, _, _, _, m3, _, _, _, _, m4, ?_⟩, trivial⟩
    · generalize (w1.drew.alloc (.cells ((List.replicate (n * 64) (0 : Int)).map encU).toArray 89)).heap.size = gc at *
      generalize (w1.drew.alloc (.cells ((List.replicate (n * 64) (0 : Int)).map encU).toArray 89)).alloc (.cells ((List.replicate (m * 64) (0 : Int)).map encU).toArray 89) = w8 at *
      generalize w1.drew.heap.size = gr at *
      clear S2 m1 m2 m3 m4
      refine ⟨_, _, _, (S1.blk 2 rfl).cell rfl, ?_⟩
      exact fillC (R := fun u w' => u = .bool (shapedB (gM g) n m (gA g).length && decide ((gM g).Nodup) && decide (((List.range m).map (col (gM g))).Nodup)) ∧ Fr [] w w') h hMl hlens (by omega) (by omega) S1 (fun w' hf => ⟨rfl, hf⟩)
    · generalize (w1.drew.alloc (.cells ((List.replicate (m * 64) (0 : Int)).map encU).toArray 89)).heap.size = gr at *
      generalize (w1.drew.alloc (.cells ((List.replicate (m * 64) (0 : Int)).map encU).toArray 89)).alloc (.cells ((List.replicate (n * 64) (0 : Int)).map encU).toArray 89) = w8 at *
      generalize w1.drew.heap.size = gc at *
      clear S1 m1 m2 m3 m4
      refine ⟨_, _, _, (S2.blk 2 rfl).cell rfl, ?_⟩
      exact fillC (R := fun u w' => u = .bool (shapedB (gM g) n m (gA g).length && decide ((gM g).Nodup) && decide (((List.range m).map (col (gM g))).Nodup)) ∧ Fr [] w w') h hMl hlens (by omega) (by omega) S2 (fun w' hf => ⟨rfl, hf⟩)
  · rintro e w' ⟨v, rfl, rfl, h⟩; exact ⟨rfl, h⟩
end PG
end Go.Proofs.YtjmlfknogjaemaaDoor
/- Page: how a page is laid: the plain law. -/
set_option linter.unusedVariables false
set_option linter.unusedSimpArgs false
set_option maxRecDepth 100000
namespace Go.Proofs.YtjmlfknogjaemaaDoor.Vc
open Go
namespace PG
/-- How many places a table for k keys has. -/
def tabGo : Nat → Nat → Nat → Nat
  | 0, t, _ => t
  | f + 1, t, k => if t < 2 * k then tabGo f (2 * t) k else t
def tabN (k : Nat) : Nat := tabGo 30 2 k
theorem tabGo_ge : ∀ (f t k : Nat), 0 < t → 2 * k ≤ t * 2 ^ f → 2 * k ≤ tabGo f t k ∧ t ≤ tabGo f t k
  | 0, t, k, h0, h => by simp [tabGo]; omega
  | f + 1, t, k, h0, h => by
    rw [tabGo]
    split
    · have := tabGo_ge f (2 * t) k (by omega) (by rw [Nat.pow_succ] at h; rw [show 2 * t * 2 ^ f = t * (2 ^ f * 2) by rw [Nat.mul_comm (2 ^ f) 2, ← Nat.mul_assoc, Nat.mul_comm t 2]]; exact h)
      omega
    · omega
theorem tabN_ge {k : Nat} (h : k ≤ 1000000) : 2 * k ≤ tabN k ∧ 2 ≤ tabN k := tabGo_ge 30 2 k (by omega) (by omega)
theorem tabN_small : ∀ k : Fin 145, tabN k.1 ≤ 512 ∧ powB (tabN k.1 : Int) = true := by decide +kernel
theorem and_mask : ∀ k : Fin 9, ∀ a : Fin 513, a.1 ≤ 2 ^ (k.1 + 1) → bitsI .and .i64 (a.1 : Int) ((2 : Int) ^ (k.1 + 1) - 1) = ((a.1 % 2 ^ (k.1 + 1) : Nat) : Int) := by decide +kernel
theorem and_pow {t a : Nat} (hp : powB (t : Int) = true) (ht : t ≤ 512) (ha : a ≤ t) : bitsI .and .i64 (a : Int) ((t : Int) - 1) = ((a % t : Nat) : Int) := by
  have : t = 2 ∨ t = 4 ∨ t = 8 ∨ t = 16 ∨ t = 32 ∨ t = 64 ∨ t = 128 ∨ t = 256 ∨ t = 512 := by
    simp [powB] at hp
    omega
  rcases this with rfl | rfl | rfl | rfl | rfl | rfl | rfl | rfl | rfl
  · exact and_mask 0 ⟨a, by omega⟩ ha
  · exact and_mask 1 ⟨a, by omega⟩ ha
  · exact and_mask 2 ⟨a, by omega⟩ ha
  · exact and_mask 3 ⟨a, by omega⟩ ha
  · exact and_mask 4 ⟨a, by omega⟩ ha
  · exact and_mask 5 ⟨a, by omega⟩ ha
  · exact and_mask 6 ⟨a, by omega⟩ ha
  · exact and_mask 7 ⟨a, by omega⟩ ha
  · exact and_mask 8 ⟨a, by omega⟩ ha
/-- A key, as the program makes it. -/
theorem key_or {n k : Nat} (hn : n ≤ 1048576) (hk : k < 4) : bitsI .or .i64 (shlI .i64 (n : Int) 2) (k : Int) = ((n * 4 + k : Nat) : Int) := by
  have e1 : shlI .i64 (n : Int) 2 = ((n * 4 : Nat) : Int) := by
    unfold shlI
    rw [show min ((2 : Int).toNat) (IntKind.bits .i64) = 2 from rfl, wr]
    omega
  rw [e1]
  have e2 : (BitVec.ofInt 64 ((n * 4 : Nat) : Int) ||| BitVec.ofInt 64 (k : Int)).toNat = n * 4 + k := by
    rw [BitVec.toNat_or]
    have a1 : (BitVec.ofInt 64 ((n * 4 : Nat) : Int)).toNat = n * 4 := by
      rw [BitVec.toNat_ofInt]; omega
    have a2 : (BitVec.ofInt 64 (k : Int)).toNat = k := by
      rw [BitVec.toNat_ofInt]; omega
    rw [a1, a2]
    have := Nat.two_pow_add_eq_or_of_lt (i := 2) (b := k) (by omega) n
    rw [show 2 ^ 2 * n = n * 4 by omega] at this
    exact this.symm
  show IntKind.wrap .i64 (((BitVec.ofInt 64 ((n * 4 : Nat) : Int) ||| BitVec.ofInt 64 (k : Int)).toNat : Nat) : Int) = _
  rw [e2, wr]
  omega
/-! ### The table -/
abbrev Pz := Int × Int
abbrev pz0 : Pz := (0, 0)
/-- The first empty place that a search from f on meets. -/
def freeAt (Z : List Pz) (f : Nat) : Nat → Nat → Nat
  | n, 0 => (f + n) % Z.length
  | n, r + 1 => if (Z.getD ((f + n) % Z.length) pz0).1 = 0 then (f + n) % Z.length else freeAt Z f (n + 1) r
def placeZ (Z : List Pz) (key : Int) : Nat := freeAt Z (kfirst key Z.length) 0 Z.length
def putZ (Z : List Pz) (key num : Int) : List Pz := Z.set (placeZ Z key) (key, num)
theorem freeAt_lt (Z : List Pz) (f : Nat) (h : 0 < Z.length) : ∀ r n, freeAt Z f n r < Z.length
  | 0, n => Nat.mod_lt _ h
  | r + 1, n => by
    rw [freeAt]
    split
    · exact Nat.mod_lt _ h
    · exact freeAt_lt Z f h r (n + 1)
def fullN (Z : List Pz) : Nat := Z.countP fun p => decide (p.1 ≠ 0)
/-- There is an empty place: the search ends. -/
theorem empty_of {Z : List Pz} (h : fullN Z < Z.length) (f : Nat) : ∃ n, n < Z.length ∧ (Z.getD ((f + n) % Z.length) pz0).1 = 0 := by
  have : ∃ p ∈ Z, ¬ p.1 ≠ 0 := by
    refine Classical.byContradiction fun hno => ?_
    have : Z.countP (fun p => decide (p.1 ≠ 0)) = Z.length := by
      rw [List.countP_eq_length]
      intro p hp
      refine decide_eq_true (fun h0 => hno ⟨p, hp, fun h1 => h1 h0⟩)
    unfold fullN at h
    omega
  obtain ⟨p, hp, hz⟩ := this
  obtain ⟨i, hi, rfl⟩ := (mem_getD pz0 _ _).1 hp
  refine ⟨(i + (Z.length - f % Z.length)) % Z.length, Nat.mod_lt _ (by omega), ?_⟩
  have e : (f + (i + (Z.length - f % Z.length)) % Z.length) % Z.length = i := by
    have hf := Nat.mod_lt f (show 0 < Z.length by omega)
    rw [Nat.add_mod, Nat.mod_mod, ← Nat.add_mod, Nat.add_mod, Nat.add_mod i]
    have : (f % Z.length + (i + (Z.length - f % Z.length))) % Z.length = i := by
      rw [show f % Z.length + (i + (Z.length - f % Z.length)) = i + Z.length by omega, Nat.add_mod_right, Nat.mod_eq_of_lt hi]
    rw [← Nat.add_mod i, Nat.mod_add_mod, Nat.add_mod_mod] at *
    rw [Nat.add_mod, ← Nat.mod_mod f] at *
    simpa [Nat.add_mod, Nat.mod_mod] using this
  rw [e]
  exact Classical.byContradiction hz
/-- The words of a table. -/
def flatZ (Z : List Pz) : List Int := Z.flatMap fun p => [p.1, p.2]
theorem flatZ_len : ∀ Z : List Pz, (flatZ Z).length = 2 * Z.length
  | [] => rfl
  | p :: Z => by
    have := flatZ_len Z
    simp only [flatZ, List.flatMap_cons, List.length_append, List.length_cons, List.length_nil] at *
    omega
theorem flatZ_cons (p : Pz) (Z : List Pz) : flatZ (p :: Z) = p.1 :: p.2 :: flatZ Z := rfl
theorem flatZ_fst : ∀ (Z : List Pz) (i : Nat), i < Z.length → (flatZ Z).getD (2 * i) 0 = (Z.getD i pz0).1
  | p :: Z, 0, _ => rfl
  | p :: Z, i + 1, h => by
    rw [flatZ_cons, show 2 * (i + 1) = 2 * i + 1 + 1 by omega]
    simpa using flatZ_fst Z i (by simpa using h)
theorem flatZ_snd : ∀ (Z : List Pz) (i : Nat), i < Z.length → (flatZ Z).getD (2 * i + 1) 0 = (Z.getD i pz0).2
  | p :: Z, 0, _ => rfl
  | p :: Z, i + 1, h => by
    rw [flatZ_cons, show 2 * (i + 1) + 1 = 2 * i + 1 + 1 + 1 by omega]
    simpa using flatZ_snd Z i (by simpa using h)
theorem flatZ_set : ∀ (Z : List Pz) (i : Nat) (p : Pz), ((flatZ Z).set (2 * i) p.1).set (2 * i + 1) p.2 = flatZ (Z.set i p)
  | [], i, p => rfl
  | q :: Z, 0, p => rfl
  | q :: Z, i + 1, p => by
    rw [flatZ_cons, show 2 * (i + 1) + 1 = 2 * i + 1 + 1 + 1 by omega, show 2 * (i + 1) = 2 * i + 1 + 1 by omega]
    simp only [List.set_cons_succ, flatZ_cons]
    rw [flatZ_set Z i p]
def pageZ (hd : List Int) (Z : List Pz) : List Int := hd ++ flatZ Z
theorem pageZ_len {hd : List Int} (h : hd.length = 4) (Z : List Pz) : (pageZ hd Z).length = 4 + 2 * Z.length := by
  simp [pageZ, h, flatZ_len]
theorem getD_app {hd l : List Int} (h : hd.length = 4) (i : Nat) : (hd ++ l).getD (4 + i) 0 = l.getD i 0 := by
  rw [List.getD_eq_getElem?_getD, List.getElem?_append_right (by omega), h, List.getD_eq_getElem?_getD]
  congr 2; omega
theorem pageZ_fst {hd : List Int} (h : hd.length = 4) {Z : List Pz} {i : Nat} (hi : i < Z.length) : (pageZ hd Z).getD (4 + 2 * i) 0 = (Z.getD i pz0).1 := by
  rw [pageZ, getD_app h, flatZ_fst _ _ hi]
theorem pageZ_snd {hd : List Int} (h : hd.length = 4) {Z : List Pz} {i : Nat} (hi : i < Z.length) : (pageZ hd Z).getD (4 + 2 * i + 1) 0 = (Z.getD i pz0).2 := by
  rw [pageZ, Nat.add_assoc, getD_app h, flatZ_snd _ _ hi]
theorem pageZ_set {hd : List Int} (h : hd.length = 4) (Z : List Pz) (i : Nat) (p : Pz) : ((pageZ hd Z).set (4 + 2 * i) p.1).set (4 + 2 * i + 1) p.2 = pageZ hd (Z.set i p) := by
  unfold pageZ
  rw [List.set_append_right _ _ (by omega), List.set_append_right _ _ (by omega), h, ← flatZ_set]
  congr 3 <;> omega
theorem putZ_len (Z : List Pz) (k n : Int) : (putZ Z k n).length = Z.length := by simp [putZ]
/-- The place that is found is empty. -/
theorem free_empty (Z : List Pz) (f : Nat) : ∀ r n, (∃ m, n ≤ m ∧ m < n + r ∧ (Z.getD ((f + m) % Z.length) pz0).1 = 0) → (Z.getD (freeAt Z f n r) pz0).1 = 0
  | 0, n, ⟨m, h1, h2, _⟩ => by omega
  | r + 1, n, ⟨m, h1, h2, h3⟩ => by
    rw [freeAt]
    split
    · assumption
    · rename_i hne
      refine free_empty Z f r (n + 1) ⟨m, ?_, by omega, h3⟩
      rcases Nat.eq_or_lt_of_le h1 with h | h
      · subst h; exact absurd h3 hne
      · exact h
theorem place_empty {Z : List Pz} (h : fullN Z < Z.length) (key : Int) : placeZ Z key < Z.length ∧ (Z.getD (placeZ Z key) pz0).1 = 0 := by
  obtain ⟨n, hn, he⟩ := empty_of h (kfirst key Z.length)
  exact ⟨freeAt_lt _ _ (by omega) _ _, free_empty _ _ _ _ ⟨n, by omega, by omega, he⟩⟩
theorem countP_set {Z : List Pz} {i : Nat} {p : Pz} (hi : i < Z.length) (h0 : (Z.getD i pz0).1 = 0) (hp : p.1 ≠ 0) : fullN (Z.set i p) = fullN Z + 1 := by
  induction Z generalizing i with
  | nil => simp at hi
  | cons q Z ih =>
    cases i with
    | zero =>
      have h0 : q.1 = 0 := h0
      simp only [fullN, List.set_cons_zero, List.countP_cons]
      simp [h0, hp]
    | succ i =>
      have := ih (i := i) (by simpa using hi) (by simpa using h0)
      simp only [fullN, List.set_cons_succ, List.countP_cons] at *
      omega
theorem putZ_full {Z : List Pz} (h : fullN Z < Z.length) {key : Int} (hk : key ≠ 0) (num : Int) : fullN (putZ Z key num) = fullN Z + 1 := by
  obtain ⟨h1, h2⟩ := place_empty h key
  exact countP_set h1 h2 hk
theorem full_zero (t : Nat) : fullN (List.replicate t pz0) = 0 := by
  unfold fullN
  rw [List.countP_eq_zero]
  intro p hp
  rw [List.eq_of_mem_replicate hp]; simp
/-! ### Laying -/
abbrev En := ByteArray × Int × Int
/-- A name is asked for, and its key is put down. -/
def layStep (s : List ByteArray × List Pz) (e : En) : List ByteArray × List Pz := (IX.of s.1 e.1, putZ s.2 ((IX.ofN s.1 e.1 : Int) * 4 + e.2.1) e.2.2)
def layGo (es : List En) (s : List ByteArray × List Pz) : List ByteArray × List Pz := es.foldl layStep s
def ensOf (l : List ByteArray) (k : Int) (n : List Int) : List En := (l.zip n).map fun p => (p.1, k, p.2)
def upTo (n : Nat) : List Int := (List.range n).map fun i => ((i + 1 : Nat) : Int)
def names (g : Gd) : List ByteArray := gA g ++ gS g ++ gO g
/-- The names that have no number yet, each once. -/
def wantGo (l : List ByteArray) : List ByteArray → List ByteArray → List ByteArray
  | [], acc => acc
  | s :: ns, acc => if IX.num l s = 0 ∧ memB acc s = false then wantGo l ns (acc ++ [s]) else wantGo l ns acc
def freshN (l : List ByteArray) (g : Gd) : Nat := (wantGo l (names g) []).length
def topOf (l : List Int) : Nat := (great l 0).getD 0
def tOf (g : Gd) : Nat := tabN (names g).length
def ens (g : Gd) : List En := ensOf (gA g) 3 (upTo (gA g).length) ++ ensOf (gS g) 1 (gF g) ++ ensOf (gO g) 2 (gN g)
def layZ (g : Gd) (l : List ByteArray) : List ByteArray × List Pz := layGo (ens g) (l, List.replicate (tOf g) pz0)
def headP (v : Int) (g : Gd) : List Int := [v, (tOf g : Int), (topOf (gF g) : Int), (topOf (gN g) : Int)]
/-- A page, the error, and the index' names then. -/
def layP (v : Int) (g : Gd) (l : List ByteArray) : List Int × Int × List ByteArray :=
  if v < 1 ∨ 2147483647 < v then ([], 3, l)
  else if validP g = false then ([], 120, l)
  else if 1048576 < l.length + freshN l g then ([], 4, l)
  else (pageZ (headP v g) (layZ g l).2 ++ (gM g).flatten, 0, (layZ g l).1)
def sizeP (g : Gd) : Int := if validP g = true then ((4 + 2 * tOf g + topOf (gF g) * topOf (gN g) : Nat) : Int) else 0
end PG
end Go.Proofs.YtjmlfknogjaemaaDoor.Vc
