import Derived.Test.YtebahglmdifmpaaV2
import Derived.Test.YtebahglmdifmpaaVcM
import Derived.Test.YtebahglmdifmpaaHeapPlain
set_option linter.unusedVariables false
set_option linter.unusedSimpArgs false
set_option maxRecDepth 10000
namespace Go.Proofs.Ytebahglmdifmpaa
open Go Go.Proofs.Ytebahglmdifmpaa.Vc
namespace HI
def enc (x : Int × Int) : List Value := [.int .i64 x.1, .int .i64 x.2]
abbrev d : Int × Int := (0, 0)
abbrev At := HeapAt (α := Int) 128 130 2 enc
abbrev Less := LessOK (α := Int) Try.prog (fun x => .int .i64 x)

theorem ahead {w : World} {F : List Nat} {a : Nat} {less : Value} {es : List (Int × Int)} {came : Int} {lt : Int → Int → Bool} {Inv : World → Prop} {C : List Nat}
    (hr : Rests C Inv) (hl : Less lt Inv less) (hI : Inv w) (h : At w F a less es came) {i j : Nat} (hi : i < es.length) (hj : j < es.length) :
    Calls Try.prog 66 #[.pointer (some ⟨a, 0, none⟩), .int .i64 (i : Int), .int .i64 (j : Int)] w fun e w' => e = .returned (.bool (HeapPlain.ahead lt (es.getD i d) (es.getD j d))) ∧ Fr [] w w' := by
  obtain ⟨g, cap, hA, rfl, hg, hR, he⟩ := h.row (by omega)
  have c1 : w.cell? ⟨a, 1, none⟩ = some (.slice (some ⟨g, 0, none⟩) es.length cap) := hA.cell rfl
  have c0 : w.cell? ⟨a, 0, none⟩ = some less := hA.cell rfl
  have e1 : w.cell? ⟨g, 0 + (i : Int).toNat * 2, none⟩ = some (.int .i64 (es.getD i d).1) := hR.ent (d := d) hi (j := 0) (by decide) (by simp) rfl
  have e2 : w.cell? ⟨g, 0 + (i : Int).toNat * 2 + 1, none⟩ = some (.int .i64 (es.getD i d).2) := hR.ent (d := d) hi (j := 1) (by decide) (by simp) rfl
  have e3 : w.cell? ⟨g, 0 + (j : Int).toNat * 2, none⟩ = some (.int .i64 (es.getD j d).1) := hR.ent (d := d) hj (j := 0) (by decide) (by simp) rfl
  have e4 : w.cell? ⟨g, 0 + (j : Int).toNat * 2 + 1, none⟩ = some (.int .i64 (es.getD j d).2) := hR.ent (d := d) hj (j := 1) (by decide) (by simp) rfl
  have i0 : (0 : Int) ≤ (i : Int) := by omega
  have j0 : (0 : Int) ≤ (j : Int) := by omega
  have i1 : (i : Int) < (es.length : Int) := by omega
  have j1 : (j : Int) < (es.length : Int) := by omega
  generalize es.getD i d = x at *
  generalize es.getD j d = y at *
  refine Calls.mono (f66.calls (R := fun v w' => v = .bool (HeapPlain.ahead lt x y) ∧ Fr [] w w') ?_) ?_
  · dsimp only [f66.VC]
    refine ⟨fun b7 o7 b8 o8 w' => o7 = 0 ∧ o8 = 0 ∧ Fr [] w w' ∧ Blk w' b7 #[.int .i64 x.1, .int .i64 x.2] 130 ∧ Blk w' b8 #[.int .i64 y.1, .int .i64 y.2] 130, ?_, ?_⟩
    · refine ⟨_, _, _, c1, i0, i1, needPtr_of rfl ⟨_, e1, _, e2, ?_⟩⟩
      dsimp only
      repeat' (first
        | exact trivial
        | with_reducible exact Nat.le_refl _
        | with_reducible rfl
        | with_reducible exact Fr.refl _ _
        | with_reducible exact Blk.new
        | with_reducible exact Blk.newd
        | with_reducible refine ⟨_, _, _, Fr.cell ?_ c1, j0, j1, needPtr_of rfl ?_⟩
        | with_reducible refine ⟨_, Fr.cell ?_ e3, _, Fr.cell ?_ e4, ?_⟩
        | with_reducible refine Fr.alloc ?_
        | with_reducible refine Fr.drew ?_
        | with_reducible refine Fr.set ?_ (.inr ?_)
        | with_reducible apply Blk.can
        | with_reducible apply Blk.whole
        | with_reducible apply Blk.set_ne
        | with_reducible apply Blk.alloc
        | with_reducible refine And.intro ?_ ?_
        | (simp only [size_alloc, size_drew, size_set]; omega)
        | exact Nat.le_refl 2
        | exact rfl)
    · rintro _ b7 o7 b8 o8 w' ⟨rfl, rfl, hF, hB7, hB8⟩
      refine ⟨_, Fr.cell hF c0, _, hB7.cell rfl, _, hB8.cell rfl, callT_mono (hl _ _ _ (hr [] _ _ hF.drew (by simp) hI)) ?_⟩
      rintro _ w2 ⟨rfl, hF2⟩
      have hF3 : Fr [] w w2 := hF.drew.trans hF2
      refine ⟨_, rfl, ?_⟩
      cases h1 : lt x.1 y.1 with
      | true => exact ⟨by simp [HeapPlain.ahead, h1], hF3⟩
      | false =>
        refine ⟨_, Fr.cell hF3 c0, _, (hF2.blk hB8 (by simp)).cell rfl, _, (hF2.blk hB7 (by simp)).cell rfl, callT_mono (hl _ _ _ (hr [] _ _ hF3.drew (by simp) hI)) ?_⟩
        rintro _ w3 ⟨rfl, hF4⟩
        have hF5 : Fr [] w w3 := hF3.drew.trans hF4
        refine ⟨_, rfl, ?_⟩
        cases h2 : lt y.1 x.1 with
        | true => exact ⟨by simp [HeapPlain.ahead, h1, h2], hF5⟩
        | false => exact ⟨_, (hF4.blk (hF2.blk hB7 (by simp)) (by simp)).cell rfl, _, (hF4.blk (hF2.blk hB8 (by simp)) (by simp)).cell rfl, by simp [HeapPlain.ahead, h1, h2], hF5⟩
  · rintro e w' ⟨v, rfl, rfl, h⟩
    exact ⟨rfl, h⟩
theorem info : ∃ i, Try.prog.info? 130 = some i ∧ i.zero = some (.agg #[.int .i64 0, .int .i64 0]) ∧ i.size = 2 ∧ i.bytes = 16 := ⟨Try.prog.types[130]!, by kernel_rfl, by kernel_rfl, by kernel_rfl, by kernel_rfl⟩
theorem under : Try.prog.underlying 126 = some (.slice 130) := by kernel_rfl

theorem push {w : World} {F : List Nat} {a : Nat} {less : Value} {es : List (Int × Int)} {came : Int} {lt : Int → Int → Bool} {Inv : World → Prop} {C : List Nat}
    (hr : Rests C Inv) (hl : Less lt Inv less) (hI : Inv w) (hC : ∀ x ∈ C, x ∉ F) (h : At w F a less es came) (hn : es.length ≤ 4000000) (hc0 : 0 ≤ came) (hc1 : came ≤ 4611686018427387904) (x : Int) :
    Calls Try.prog 34 #[.pointer (some ⟨a, 0, none⟩), .int .i64 x] w fun e w' => e = .returned (.tuple #[]) ∧
      ∃ F', At w' F' a less (HeapPlain.push d (HeapPlain.ahead lt) es (x, came)) (came + 1) ∧ Fr F w w' ∧ ∀ b ∈ F', b ∈ F ∨ w.heap.size ≤ b := by
  have haF := h.mem
  obtain ⟨v, hA, he, hv⟩ := h
  obtain ⟨A0, c0, rfl⟩ : ∃ A c, v = .slice A es.length c := by
    rcases hv with ⟨rfl, rfl, _⟩ | ⟨g, cap, rfl, _⟩
    · exact ⟨none, 0, rfl⟩
    · exact ⟨_, _, rfl⟩
  have hob : ∀ b, (Value.slice A0 es.length c0).ownBlock = some b → b ∈ F ∧ b ≠ a := by
    intro b hb
    rcases hv with ⟨h1, _, _⟩ | ⟨g, cap, h1, rfl, h3, _⟩
    · rw [h1] at hb; cases hb
    · rw [h1] at hb
      injection hb with hb
      subst hb
      exact ⟨by simp, h3⟩
  have ha2 : a ∉ (Value.slice A0 es.length c0).ownBlock.toList := fun hx => (hob a (by simpa using hx)).2 rfl
  refine Calls.mono (f34.calls (R := fun v w' => v = .tuple #[] ∧ ∃ F', At w' F' a less (HeapPlain.push d (HeapPlain.ahead lt) es (x, came)) (came + 1) ∧ Fr F w w' ∧ ∀ b ∈ F', b ∈ F ∨ w.heap.size ≤ b) ?_) ?_
  · dsimp only [f34.VC]
    refine ⟨fun w4 => ∃ g' cap', Blk w4 a #[less, .slice (some ⟨g', 0, none⟩) (es.length + 1) cap', .int .i64 came] 128 ∧ Row w4 130 2 g' cap' ((es ++ [(x, came)]).map enc) ∧ g' ≠ a ∧ Fr F w w4 ∧ (g' ∈ F ∨ w.heap.size ≤ g'), ?_, ?_⟩
    · obtain ⟨i, i1, i2, i3, i4⟩ := info
      have hA1 : Blk (World.alloc w.drew (.cells #[.int .i64 x, .int .i64 came] 130)) a _ _ := hA.drew.alloc
      obtain ⟨g', cap', w2, hrun, hR2, hF2, hg2⟩ := append_row (P := Try.prog) (w := World.alloc w.drew (.cells #[.int .i64 x, .int .i64 came] 130)) (ty := 126) (rs := es.map enc) (r := [.int .i64 x, .int .i64 came]) (v := .slice A0 es.length c0) (b := w.heap.size) (T' := 130)
        under i1 i2 i3 rfl (by decide) (by
          rcases hv with ⟨h1, h2, _⟩ | ⟨g, cap, h1, h2, h3, h4⟩
          · exact .inl ⟨h1, by simp [h2]⟩
          · exact .inr ⟨g, cap, by rw [List.length_map]; exact h1, Row.fr h4 (((Fr.refl [] w).drew).alloc) (by simp)⟩)
        Blk.newd rfl (by simp [Value.oneCell']) (by intro r hr; obtain ⟨y, _, rfl⟩ := List.mem_map.mp hr; exact he y) (by rw [i4, List.length_map]; omega) (by rw [List.length_map]; simp only [maxLen]; omega)
      rw [List.length_map] at hrun
      have hA2 := hF2.blk hA1 ha2
      have hFw : Fr F w w2 := ((Fr.refl F w).drew.alloc).trans' (hF2.mono (S' := F) fun b hb => (hob b (by simpa using hb)).1) (fun x hx _ => hx)
      have hgF : g' ∈ F ∨ w.heap.size ≤ g' := by
        rcases hg2 with hg2 | hg2
        · exact .inl (hob _ hg2).1
        · rw [size_alloc, size_drew] at hg2; exact .inr (by omega)
      have hga : g' ≠ a := by
        rcases hg2 with hg2 | hg2
        · exact (hob _ hg2).2
        · have := hA1.lt; omega
      refine ⟨_, _, _, hA.cell rfl, _, hA.cell rfl, _, _, _, _, hrun, hA2.can (by simp), rfl, g', cap', hA2.set [_] 1, ?_, hga, hFw.set (.inl haF), hgF⟩
      rw [List.map_append]
      exact hR2.set_ne hga
    · rintro _ w4 ⟨g, cap, hA4, hR4, hga, hF4, hgF⟩
      have hw1 : IntKind.i64.wrap (came + 1) = came + 1 := i64_id (by omega) (by omega)
      have hw2 : IntKind.i64.wrap (((es.length + 1 : Nat) : Int) - 1) = (es.length : Int) := by rw [i64_id (by omega) (by omega)]; omega
      refine ⟨_, hA4.cell rfl, hA4.can (by simp), _, _, _, (hA4.set [_] 2).cell rfl, ?_⟩
      rw [hw1, hw2]
      have hA5 : Blk (setCs w4 a 2 [.int .i64 (came + 1)]) a #[less, .slice (some ⟨g, 0, none⟩) (es.length + 1) cap, .int .i64 (came + 1)] 128 := hA4.set [_] 2
      refine ⟨fun x4 w' r => x4 = (r : Int) ∧ ∃ cur k, r ≤ k ∧ r < cur.length ∧ cur.length = es.length + 1 ∧ HeapPlain.up d (HeapPlain.ahead lt) k r cur = HeapPlain.push d (HeapPlain.ahead lt) es (x, came) ∧
        Blk w' a #[less, .slice (some ⟨g, 0, none⟩) (es.length + 1) cap, .int .i64 (came + 1)] 128 ∧ Row w' 130 2 g cap (cur.map enc) ∧ Fr F w w', ?_, ?_⟩
      · exact ⟨es.length, rfl, es ++ [(x, came)], es.length, Nat.le_refl _, by simp, by simp, rfl, hA5, hR4.set_ne hga, hF4.set (.inl haF)⟩
      · rintro _ _ w6 r ⟨rfl, cur, k, hrk, hrc, hcl, hup, hA6, hR6, hF6⟩
        have done : ∀ w', Fr [] w6 w' → HeapPlain.up d (HeapPlain.ahead lt) k r cur = cur → (Value.tuple #[] = Value.tuple #[] ∧ ∃ F', At w' F' a less (HeapPlain.push d (HeapPlain.ahead lt) es (x, came)) (came + 1) ∧ Fr F w w' ∧ ∀ b ∈ F', b ∈ F ∨ w.heap.size ≤ b) := by
          intro w' hf hc
          refine ⟨rfl, [a, g], ?_, hF6.trans' hf (by simp), ?_⟩
          · rw [← hup, hc]
            refine HeapAt.of (cap := cap) ?_ hga (hR6.fr hf (by simp)) he
            rw [hcl]
            exact hf.blk hA6 (by simp)
          · intro b hb
            simp at hb
            rcases hb with rfl | rfl
            · exact .inl haF
            · exact hgF
        refine sel_of ?_ ?_
        · intro hd
          have hr0 : 0 < r := by simpa using hd
          have hw3 : IntKind.i64.wrap ((r : Int) - 1) = ((r - 1 : Nat) : Int) := by rw [i64_id (by omega) (by omega)]; omega
          have hw4 : IntKind.i64.wrap (Int.tdiv ((r - 1 : Nat) : Int) 2) = (((r - 1) / 2 : Nat) : Int) := by
            rw [show Int.tdiv ((r - 1 : Nat) : Int) 2 = (((r - 1) / 2 : Nat) : Int) from rfl, i64_id (by omega) (by omega)]
          rw [hw3, hw4]
          have hAt6 : At w6 [a, g] a less cur (came + 1) := HeapAt.of (cap := cap) (by rw [hcl]; exact hA6) hga hR6 he
          have hu : (r - 1) / 2 < cur.length := by omega
          obtain ⟨k, rfl⟩ : ∃ k', k = k' + 1 := ⟨k - 1, by omega⟩
          rw [HeapPlain.up, if_neg (by omega)] at hup done
          refine ⟨by decide, Calls.mono (ahead hr hl (hr F _ _ hF6 hC hI) hAt6 hrc hu) ?_⟩
          rintro _ w8 ⟨rfl, hF8⟩
          refine ⟨_, rfl, ?_⟩
          cases hah : HeapPlain.ahead lt (cur.getD r d) (cur.getD ((r - 1) / 2) d) with
          | false =>
            rw [hah] at done
            exact done w8 hF8 (by simp)
          | true =>
            rw [hah, if_pos rfl] at hup
            have hA8 := hF8.blk hA6 (by simp)
            have hR8 := hR6.fr hF8 (by simp)
            have c1 : w8.cell? ⟨a, 1, none⟩ = some (.slice (some ⟨g, 0, none⟩) (es.length + 1) cap) := hA8.cell rfl
            have i0 : (0 : Int) ≤ (((r - 1) / 2 : Nat) : Int) := by omega
            have i1 : (((r - 1) / 2 : Nat) : Int) < ((es.length + 1 : Nat) : Int) := by omega
            have j0 : (0 : Int) ≤ (r : Int) := by omega
            have j1 : (r : Int) < ((es.length + 1 : Nat) : Int) := by omega
            have hS1 := hR8.set (i := r) (k := 0 + (r : Int).toNat * 2) (by simpa using hrc) (by rw [Int.toNat_natCast, Nat.zero_add]; try rfl) (r := enc (cur.getD ((r - 1) / 2) d)) rfl
            have hS2 := hS1.set (i := (r - 1) / 2) (k := 0 + (((r - 1) / 2 : Nat) : Int).toNat * 2) (by simpa using hu) (by rw [Int.toNat_natCast, Nat.zero_add]; try rfl) (r := enc (cur.getD r d)) rfl
            refine ⟨_, _, _, c1, _, _, _, c1, _, _, _, c1, i0, i1, needPtr_of rfl ⟨_, hR8.ent (d := d) hu (j := 0) (by decide) (by rw [Int.toNat_natCast, Nat.zero_add]; try rfl) rfl, _, hR8.ent (d := d) hu (j := 1) (by decide) (by rw [Int.toNat_natCast, Nat.zero_add]; try rfl) rfl, _, _, _, c1, j0, j1,
              needPtr_of rfl ⟨_, hR8.ent (d := d) hrc (j := 0) (by decide) (by rw [Int.toNat_natCast, Nat.zero_add]; try rfl) rfl, _, hR8.ent (d := d) hrc (j := 1) (by decide) (by rw [Int.toNat_natCast, Nat.zero_add]; try rfl) rfl, j0, j1, needPtr_of rfl ⟨hR8.can (i := r) (by simpa using hrc) (by rw [Int.toNat_natCast, Nat.zero_add]; try rfl), i0, i1,
              needPtr_of rfl ⟨hS1.can (i := (r - 1) / 2) (by simpa using hu) (by rw [Int.toNat_natCast, Nat.zero_add]; try rfl), rfl, (r - 1) / 2, by omega, rfl, HeapPlain.swap d cur r ((r - 1) / 2), k, by omega, by rw [HeapPlain.swap_length]; exact hu, by rw [HeapPlain.swap_length]; exact hcl, hup, ?_, ?_, ?_⟩⟩⟩⟩⟩
            · exact (hA8.drew.set_ne (Ne.symm hga)).set_ne (Ne.symm hga)
            · unfold HeapPlain.swap
              rw [List.map_set, List.map_set]
              exact hS2
            · exact ((hF6.trans' hF8 (by simp)).drew.set (hgF)).set hgF
        · intro hd
          have hr0 : r = 0 := by simp at hd; omega
          subst hr0
          refine done w6 (Fr.refl _ _) ?_
          cases k with
          | zero => rfl
          | succ k => rw [HeapPlain.up, if_pos rfl]
  · rintro e w' ⟨v, rfl, rfl, h⟩
    exact ⟨rfl, h⟩
theorem pop {w : World} {F : List Nat} {a : Nat} {less : Value} {es : List (Int × Int)} {came : Int} {lt : Int → Int → Bool} {Inv : World → Prop} {C : List Nat}
    (hr : Rests C Inv) (hl : Less lt Inv less) (hI : Inv w) (hC : ∀ x ∈ C, x ∉ F) (h : At w F a less es came) (hn : es.length ≤ 4000000) :
    Calls Try.prog 36 #[.pointer (some ⟨a, 0, none⟩)] w fun e w' => e = .returned (.tuple #[.int .i64 (es.getD 0 d).1, .bool (decide (0 < es.length))]) ∧
      ∃ F', At w' F' a less (HeapPlain.popped d (HeapPlain.ahead lt) es) came ∧ Fr F w w' ∧ ∀ b ∈ F', b ∈ F ∨ w.heap.size ≤ b := by
  have haF := h.mem
  refine Calls.mono (f36.calls (R := fun v w' => v = .tuple #[.int .i64 (es.getD 0 d).1, .bool (decide (0 < es.length))] ∧ ∃ F', At w' F' a less (HeapPlain.popped d (HeapPlain.ahead lt) es) came ∧ Fr F w w' ∧ ∀ b ∈ F', b ∈ F ∨ w.heap.size ≤ b) ?_) ?_
  · dsimp only [f36.VC]
    by_cases he0 : es = []
    · have h' := h
      obtain ⟨v, hA, he, hv⟩ := h'
      rcases hv with ⟨rfl, _, _⟩ | ⟨g, cap, rfl, _⟩
      · refine ⟨_, _, _, hA.cell rfl, ?_⟩
        refine sel_true (by decide) ?_
        subst he0
        exact ⟨rfl, F, h, Fr.refl _ _, fun b hb => .inl hb⟩
      · refine ⟨_, _, _, hA.cell rfl, ?_⟩
        subst he0
        refine sel_true (by simp [i64_id]) ?_
        exact ⟨rfl, F, h, Fr.refl _ _, fun b hb => .inl hb⟩
    · have hpos : 0 < es.length := List.length_pos_iff.mpr he0
      obtain ⟨g, cap, hA, rfl, hga, hR, he⟩ := h.row hpos
      have c1 : w.cell? ⟨a, 1, none⟩ = some (.slice (some ⟨g, 0, none⟩) es.length cap) := hA.cell rfl
      obtain ⟨N, hN⟩ : ∃ N, es.length = N + 1 := ⟨es.length - 1, by omega⟩
      have hw1 : IntKind.i64.wrap ((es.length : Int) - 1) = (N : Int) := by rw [i64_id (by omega) (by omega)]; omega
      refine ⟨_, _, _, c1, ?_⟩
      rw [hw1]
      refine sel_false (by simp <;> omega) ?_
      have hNl : N < es.length := by omega
      have i0 : (0 : Int) ≤ (0 : Int) := by omega
      have i1 : (0 : Int) < (es.length : Int) := by omega
      have j0 : (0 : Int) ≤ (N : Int) := by omega
      have j1 : (N : Int) < (es.length : Int) := by omega
      have hS1 := hR.set (i := 0) (k := 0) (by simpa using hpos) (by simp) (r := enc (es.getD N d)) rfl
      have hS2 := hS1.set (i := N) (k := 0 + (N : Int).toNat * 2) (by simpa using hNl) (by rw [Int.toNat_natCast, Nat.zero_add]; try rfl) (r := enc d) rfl
      have hA1 : Blk (setCs w.drew g 0 (enc (es.getD N d))) a _ _ := hA.drew.set_ne (Ne.symm hga)
      have hA2 : Blk (setCs (setCs w.drew g 0 (enc (es.getD N d))) g (0 + (N : Int).toNat * 2) (enc d)) a _ _ := hA1.set_ne (Ne.symm hga)
      have hA3 := hA2.set [.slice (some ⟨g, 0, none⟩) (N : Int).toNat cap] 1
      have hcut : ((((es.map enc).set 0 (enc (es.getD N d))).set N (enc d)).take N) = (HeapPlain.cut d es).map enc := by
        unfold HeapPlain.cut
        rw [hN, Nat.add_sub_cancel, List.map_take, List.map_set]
        apply List.ext_getElem?
        intro k
        simp only [List.getElem?_take]
        split
        · rw [List.getElem?_set_ne (by omega)]
        · rfl
      have hcl : (HeapPlain.cut d es).length = N := by rw [HeapPlain.cut_length]; omega
      have hR3 := ((hS2.take N).set_ne (b := a) (o := 1) (vs := [.slice (some ⟨g, 0, none⟩) (N : Int).toNat cap]) hga)
      rw [hcut] at hR3
      have hcap := hR.cap_le
      rw [List.length_map] at hcap
      refine ⟨_, _, _, c1, i0, i1, needPtr_of rfl ⟨_, hR.ent (d := d) hpos (j := 0) (by decide) (by simp) rfl, _, _, _, c1, _, _, _, c1, j0, j1,
        needPtr_of rfl ⟨_, hR.ent (d := d) hNl (j := 0) (by decide) (by rw [Int.toNat_natCast, Nat.zero_add]; try rfl) rfl, _, hR.ent (d := d) hNl (j := 1) (by decide) (by rw [Int.toNat_natCast, Nat.zero_add]; try rfl) rfl, i0, i1,
        needPtr_of rfl ⟨hR.can (i := 0) (by simpa using hpos) (by simp), _, _, _, hA1.cell rfl, j0, j1, needPtr_of rfl ⟨hS1.can (i := N) (by simpa using hNl) (by rw [Int.toNat_natCast, Nat.zero_add]; try rfl), _, _, _, hA2.cell rfl, j0, by omega, hA2.can (by simp), ?_⟩⟩⟩⟩⟩
      refine ⟨fun s2 x5 w' k => s2 = (es.getD 0 d).1 ∧ ∃ (i : Nat) (cur : List (Int × Int)), x5 = (i : Int) ∧ cur.length = N ∧ N ≤ k + i ∧ i ≤ N ∧ HeapPlain.down d (HeapPlain.ahead lt) k i cur = HeapPlain.popped d (HeapPlain.ahead lt) es ∧
        Blk w' a #[less, .slice (some ⟨g, 0, none⟩) N cap, .int .i64 came] 128 ∧ Row w' 130 2 g cap (cur.map enc) ∧ Fr [a, g] w w', ?_, ?_⟩
      · refine ⟨N, rfl, 0, HeapPlain.cut d es, rfl, hcl, by omega, by omega, ?_, hA3, hR3, ?_⟩
        · unfold HeapPlain.popped; rw [hN, Nat.add_sub_cancel]
        · exact (((Fr.refl _ w).drew.set (.inl (by simp))).set (.inl (by simp))).set (.inl (by simp))
      · rintro _ s2 x5 w4 k ⟨rfl, i, cur, rfl, hcl2, hki, hiN, hdn, hA4, hR4, hF4⟩
        have hw2 : IntKind.i64.wrap (2 * (i : Int)) = ((2 * i : Nat) : Int) := by rw [i64_id (by omega) (by omega)]; omega
        have hw3 : IntKind.i64.wrap (((2 * i : Nat) : Int) + 1) = ((2 * i + 1 : Nat) : Int) := by rw [i64_id (by omega) (by omega)]; omega
        have hw4 : IntKind.i64.wrap (((2 * i + 1 : Nat) : Int) + 1) = ((2 * i + 1 + 1 : Nat) : Int) := by rw [i64_id (by omega) (by omega)]; omega
        rw [hw2, hw3, hw4]
        have done : ∀ w', Fr [] w4 w' → HeapPlain.down d (HeapPlain.ahead lt) k i cur = cur → (Value.tuple #[.int .i64 (es.getD 0 d).1, .bool true] = Value.tuple #[.int .i64 (es.getD 0 d).1, .bool (decide (0 < es.length))] ∧
            ∃ F', At w' F' a less (HeapPlain.popped d (HeapPlain.ahead lt) es) came ∧ Fr [a, g] w w' ∧ ∀ b ∈ F', b ∈ [a, g] ∨ w.heap.size ≤ b) := by
          intro w' hf hc
          refine ⟨by rw [decide_eq_true hpos], [a, g], ?_, hF4.trans' hf (by simp), fun b hb => .inl hb⟩
          rw [← hdn, hc]
          refine HeapAt.of (cap := cap) ?_ hga (hR4.fr hf (by simp)) he
          rw [hcl2]
          exact hf.blk hA4 (by simp)
        refine sel_of ?_ ?_
        · intro hd
          have hle : N ≤ 2 * i + 1 := by simp at hd; omega
          refine done w4 (Fr.refl _ _) ?_
          cases k with
          | zero => rfl
          | succ k => rw [HeapPlain.down, if_pos (by omega)]
        · intro hd
          have hlt : 2 * i + 1 < N := by simp at hd; omega
          obtain ⟨k, rfl⟩ : ∃ k', k = k' + 1 := ⟨k - 1, by omega⟩
          rw [HeapPlain.down, if_neg (by omega)] at hdn done
          have hkid := HeapPlain.kid_lt d (HeapPlain.ahead lt) i cur (by omega)
          have hAt4 : At w4 [a, g] a less cur came := HeapAt.of (cap := cap) (by rw [hcl2]; exact hA4) hga hR4 he
          have hI4 : Inv w4 := hr _ _ _ hF4 hC hI
          refine ⟨fun x6 w' => x6 = ((HeapPlain.kid d (HeapPlain.ahead lt) i cur : Nat) : Int) ∧ Fr [] w4 w', ?_, ?_⟩
          · refine sel_of ?_ ?_
            · intro hd2
              have hlt2 : 2 * i + 1 + 1 < N := by simp at hd2; omega
              refine Calls.mono (ahead hr hl hI4 hAt4 (i := 2 * i + 1 + 1) (j := 2 * i + 1) (by omega) (by omega)) ?_
              rintro _ w5 ⟨rfl, hF5⟩
              refine ⟨_, rfl, ?_⟩
              cases hah : HeapPlain.ahead lt (cur.getD (2 * i + 1 + 1) d) (cur.getD (2 * i + 1) d) with
              | true => exact ⟨rfl, by rw [HeapPlain.kid, if_pos ⟨by omega, hah⟩], hF5⟩
              | false => exact ⟨rfl, by rw [HeapPlain.kid, if_neg (by rw [hah]; simp)], hF5⟩
            · intro hd2
              have hlt2 : ¬ 2 * i + 1 + 1 < N := by simp at hd2; omega
              exact ⟨rfl, by rw [HeapPlain.kid, if_neg (by omega)], Fr.refl _ _⟩
          · rintro _ x6 w6 ⟨rfl, hF6⟩
            generalize HeapPlain.kid d (HeapPlain.ahead lt) i cur = q at *
            obtain ⟨hq, hq2⟩ := hkid
            have hi : i < cur.length := by omega
            refine Calls.mono (ahead hr hl (hr [] _ _ hF6 (by simp) hI4) (hAt4.fr hF6 (by simp)) (i := q) (j := i) hq hi) ?_
            rintro _ w7 ⟨rfl, hF7⟩
            refine ⟨_, rfl, ?_⟩
            have hF8 := hF6.trans hF7
            cases hah : HeapPlain.ahead lt (cur.getD q d) (cur.getD i d) with
            | false =>
              rw [hah] at done
              exact done w7 hF8 (by simp)
            | true =>
              rw [hah, if_pos rfl] at hdn
              have hA8 := hF8.blk hA4 (by simp)
              have hR8 := hR4.fr hF8 (by simp)
              have c8 : w7.cell? ⟨a, 1, none⟩ = some (.slice (some ⟨g, 0, none⟩) N cap) := hA8.cell rfl
              have p0 : (0 : Int) ≤ (q : Int) := by omega
              have p1 : (q : Int) < (N : Int) := by omega
              have q0 : (0 : Int) ≤ (i : Int) := by omega
              have q1 : (i : Int) < (N : Int) := by omega
              have hT1 := hR8.set (i := i) (k := 0 + (i : Int).toNat * 2) (by simpa using hi) (by rw [Int.toNat_natCast, Nat.zero_add]; try rfl) (r := enc (cur.getD q d)) rfl
              have hT2 := hT1.set (i := q) (k := 0 + (q : Int).toNat * 2) (by simpa using hq) (by rw [Int.toNat_natCast, Nat.zero_add]; try rfl) (r := enc (cur.getD i d)) rfl
              refine ⟨_, _, _, c8, _, _, _, c8, _, _, _, c8, p0, p1, needPtr_of rfl ⟨_, hR8.ent (d := d) hq (j := 0) (by decide) (by rw [Int.toNat_natCast, Nat.zero_add]; try rfl) rfl, _, hR8.ent (d := d) hq (j := 1) (by decide) (by rw [Int.toNat_natCast, Nat.zero_add]; try rfl) rfl, _, _, _, c8, q0, q1,
                needPtr_of rfl ⟨_, hR8.ent (d := d) hi (j := 0) (by decide) (by rw [Int.toNat_natCast, Nat.zero_add]; try rfl) rfl, _, hR8.ent (d := d) hi (j := 1) (by decide) (by rw [Int.toNat_natCast, Nat.zero_add]; try rfl) rfl, q0, q1, needPtr_of rfl ⟨hR8.can (i := i) (by simpa using hi) (by rw [Int.toNat_natCast, Nat.zero_add]; try rfl), p0, p1,
                needPtr_of rfl ⟨hT1.can (i := q) (by simpa using hq) (by rw [Int.toNat_natCast, Nat.zero_add]; try rfl), rfl, k, by omega, rfl, q, HeapPlain.swap d cur i q, rfl, by rw [HeapPlain.swap_length]; exact hcl2, by omega, by omega, hdn, ?_, ?_, ?_⟩⟩⟩⟩⟩
              · exact (hA8.drew.set_ne (Ne.symm hga)).set_ne (Ne.symm hga)
              · unfold HeapPlain.swap
                rw [List.map_set, List.map_set]
                exact hT2
              · exact ((hF4.trans' hF8 (by simp)).drew.set (.inl (by simp))).set (.inl (by simp))
  · rintro e w' ⟨v, rfl, rfl, h⟩
    exact ⟨rfl, h⟩

theorem len {w : World} {F : List Nat} {a : Nat} {less : Value} {es : List (Int × Int)} {came : Int} (h : At w F a less es came) :
    Calls Try.prog 29 #[.pointer (some ⟨a, 0, none⟩)] w fun e w' => e = .returned (.int .i64 (es.length : Int)) ∧ Fr [] w w' := by
  refine Calls.mono (f29.calls (R := fun v w' => v = .int .i64 (es.length : Int) ∧ Fr [] w w') ?_) ?_
  · obtain ⟨v, hA, he, hv⟩ := h
    rcases hv with ⟨rfl, rfl, _⟩ | ⟨g, cap, rfl, _⟩
    · exact ⟨_, _, _, hA.cell rfl, rfl, Fr.refl _ _⟩
    · exact ⟨_, _, _, hA.cell rfl, rfl, Fr.refl _ _⟩
  · rintro e w' ⟨v, rfl, rfl, h⟩
    exact ⟨rfl, h⟩
end HI
end Go.Proofs.Ytebahglmdifmpaa
