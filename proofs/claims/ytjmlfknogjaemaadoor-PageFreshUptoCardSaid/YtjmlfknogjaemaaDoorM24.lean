/- Page: sorted, the walk. -/
import Derived.Test.YtjmlfknogjaemaaDoorM23
import Derived.Test.YtjmlfknogjaemaaDoorM19
import Derived.Test.YtjmlfknogjaemaaDoorM9
set_option linter.unusedVariables false
set_option linter.unusedSimpArgs false
set_option maxRecDepth 10000
namespace Go.Proofs.YtjmlfknogjaemaaDoor
open Go Go.Proofs.YtjmlfknogjaemaaDoor.Vc
namespace PG
open Vc.PG NI
/-- A list that is nil where nothing is in it. -/
def nn (V : Sl) : Prop := V.2.1 = 0 → V.1 = none
theorem i8k {k : Int} (h : 1 ≤ k ∧ k ≤ 3) : IntKind.i8.wrap k = k := by
  rcases (show k = 1 ∨ k = 2 ∨ k = 3 by omega) with rfl | rfl | rfl <;> decide
def srPost (S : List Nat) (w0 : World) (W : List Int) (t : Nat) (l : List ByteArray) (K : List Chunk) (v : Value) (w' : World) : Prop :=
    ∃ (V1 V2 V3 : Sl) (s1 s2 s3 : List Se), v = .tuple #[.agg #[.slice none 0 0, V1.v, V2.v, V3.v], .bool (seatedB W t l)] ∧
      St S w0 w' (ses V1.v s1 :: ses V2.v s2 :: ses V3.v s3 :: K) ∧ nn V1 ∧ nn V2 ∧ nn V3 ∧ (s1.length ≤ t ∧ s2.length ≤ t ∧ s3.length ≤ t) ∧ (seatedB W t l = true → s1 = seatsP W 1 t ∧ s2 = seatsP W 2 t ∧ s3 = seatsP W 3 t)
theorem sortedC {S : List Nat} {w0 w : World} {K : List Chunk} (h : St S w0 w K) {A : Option Addr} {n c : Nat} {W : List Int} {x : Nat} {l : List ByteArray} {t : Nat} (hW : ∀ w', Fr S w0 w' → InW w' A n W) (hX : ∀ w', Fr S w0 w' → IdxAt w' x l) (hl : l.length ≤ 1048576) (hn : n ≤ 1000000000)
    (hr : ∀ i, W.getD i 0 ≤ 9223372036854775807) (ht : tabP W = (t : Int)) (h0 : 0 < t) :
    Calls Tryd.prog 39 #[.slice A n c, .int .i64 (t : Int), .pointer (some ⟨x, 0, none⟩)] w fun e w' => ∃ (V1 V2 V3 : Sl) (s1 s2 s3 : List Se), e = .returned (.tuple #[.agg #[.slice none 0 0, V1.v, V2.v, V3.v], .bool (seatedB W t l)]) ∧
      St S w0 w' (ses V1.v s1 :: ses V2.v s2 :: ses V3.v s3 :: K) ∧ nn V1 ∧ nn V2 ∧ nn V3 ∧ (s1.length ≤ t ∧ s2.length ≤ t ∧ s3.length ≤ t) ∧ (seatedB W t l = true → s1 = seatsP W 1 t ∧ s2 = seatsP W 2 t ∧ s3 = seatsP W 3 t) := by
  have hT := tabP_range W
  have hl2 : n = W.length := (hW w h.frame).1
  refine Calls.mono (f39.calls (R := srPost S w0 W t l K) ?_) ?_
  · dsimp only [f39.VC]
    have hSa := ((h.nil 98 2).nil 98 2).nil 98 2
    have hSb := hSa.alloc #[.slice none 0 0, .slice none 0 0, .slice none 0 0, .slice none 0 0] 68
    generalize w.heap.size = b1 at *
    generalize World.alloc w (.cells #[.slice none 0 0, .slice none 0 0, .slice none 0 0, .slice none 0 0] 68) = wa at *
    have hSc := hSb.alloc #[.slice none 0 0, .slice none 0 0, .slice none 0 0, .slice none 0 0] 68
    generalize wa.heap.size = b2 at *
    generalize World.alloc wa (.cells #[.slice none 0 0, .slice none 0 0, .slice none 0 0, .slice none 0 0] 68) = wb at *
    have hSd := hSc.swap 0 1 rfl rfl
    refine ⟨fun z w' r => ∃ (i : Nat) (V1 V2 V3 : Sl), z = (i : Int) ∧ i + r = t ∧ (∀ j, j < i → okAt W t l j = true) ∧ nn V1 ∧ nn V2 ∧ nn V3 ∧ St S w0 w' (srK b1 b2 #[.slice none 0 0, .slice none 0 0, .slice none 0 0, .slice none 0 0] V1 V2 V3 (rawS W 1 i) (rawS W 2 i) (rawS W 3 i) K),
      ⟨t, 0, (none, 0, 0), (none, 0, 0), (none, 0, 0), rfl, by omega, fun j hj => by omega, fun _ => rfl, fun _ => rfl, fun _ => rfl, hSd⟩, ?_⟩
    clear hSa hSb hSc hSd
    rintro d z w1 r ⟨i, V1, V2, V3, rfl, hir, hok, v1, v2, v3, hS⟩
    refine sel_of (fun hd => ?_) (fun hd => ?_)
    · have hi : i < t := by have := of_decide_eq_true hd; omega
      have hno : okAt W t l i = false → seatedB W t l = false := by
        intro hh
        unfold seatedB
        rw [Bool.eq_false_iff]
        intro hall
        rw [List.all_eq_true] at hall
        rw [hall i (List.mem_range.2 hi)] at hh
        cases hh
      have r1 := rawS_len W 1 i
      have r2 := rawS_len W 2 i
      have r3 := rawS_len W 3 i
      have hbad : okAt W t l i = false → ∀ w', St S w0 w' (ses V1.v (rawS W 1 i) :: ses V2.v (rawS W 2 i) :: ses V3.v (rawS W 3 i) :: K) → srPost S w0 W t l K (.tuple #[.agg #[.slice none 0 0, V1.v, V2.v, V3.v], .bool false]) w' := by
        intro hf w' hS'
        refine ⟨V1, V2, V3, _, _, _, by rw [hno hf], hS', v1, v2, v3, ⟨by omega, by omega, by omega⟩, fun hh => ?_⟩
        rw [hno hf] at hh; cases hh
      have e1 : IntKind.i64.wrap (4 + IntKind.i64.wrap (2 * (i : Int))) = ((4 + 2 * i : Nat) : Int) := by rw [i64_id (x := 2 * _) (by omega) (by omega), i64_id (by omega) (by omega)]; omega
      have e2 : IntKind.i64.wrap (((4 + 2 * i : Nat) : Int) + 1) = ((4 + 2 * i + 1 : Nat) : Int) := by rw [i64_id (by omega) (by omega)]; omega
      have er : IntKind.i64.wrap ((i : Int) + 1) = ((i + 1 : Nat) : Int) := inc i t (by omega) (by omega)
      rw [e1, e2, er]
      obtain ⟨b, o, rfl, hc⟩ := (hW w1 hS.frame).2 (by omega)
      have hk1 : 4 + 2 * i < n := by omega
      have hk2 : 4 + 2 * i + 1 < n := by omega
      have hkr := hr (4 + 2 * i)
      have okE : okAt W t l i = ((decide (W.getD (4 + 2 * i) 0 = 0) && decide (W.getD (4 + 2 * i + 1) 0 = 0)) || (decide (0 < W.getD (4 + 2 * i) 0) && decide (W.getD (4 + 2 * i) 0 % 4 ≠ 0) && (thing l (W.getD (4 + 2 * i) 0 / 4)).2 && decide ((pgHash (W.getD (4 + 2 * i) 0) t + (lookP W (W.getD (4 + 2 * i) 0 / 4) (W.getD (4 + 2 * i) 0 % 4)).2 - 1) % t = i))) := rfl
      have ra : ∀ k, rawS W k (i + 1) = rawS W k i ++ if 0 < W.getD (4 + 2 * i) 0 ∧ W.getD (4 + 2 * i) 0 % 4 = k then [(W.getD (4 + 2 * i) 0 / 4, W.getD (4 + 2 * i + 1) 0)] else [] := fun k => rawS_succ W k i
      refine ⟨by omega, by omega, needPtr_of rfl ⟨by omega, by omega, needPtr_of rfl ⟨_, by rw [Int.toNat_natCast, Nat.mul_one]; exact hc _ hk1, _, by rw [Int.toNat_natCast, Nat.mul_one]; exact hc _ hk2, ?_⟩⟩⟩
      have hIW := hW
      generalize W.getD (4 + 2 * i) 0 = key at *
      generalize W.getD (4 + 2 * i + 1) 0 = num at *
      have hfalse1 : key ≤ 0 → ¬ (key = 0 ∧ num = 0) → okAt W t l i = false := by
        intro h1 h2
        rw [okE]
        rw [Bool.or_eq_false_iff]
        refine ⟨?_, ?_⟩
        · rw [Bool.and_eq_false_iff]
          by_cases hh : key = 0
          · right; exact decide_eq_false fun hn => h2 ⟨hh, hn⟩
          · left; exact decide_eq_false hh
        · rw [decide_eq_false (show ¬ 0 < key by omega)]; simp
      refine sel_of (fun hz => sel_of (fun hz2 => ?_) (fun hz2 => sel_of (fun hz3 => ?_) (fun hz3 => ?_))) (fun hz => sel_of (fun hz3 => ?_) (fun hz3 => ⟨by decide, sel_of (fun hz4 => ?_) (fun hz4 => ?_)⟩))
      · have hz : key = 0 := eq_of_beq hz
        have hz2 : num = 0 := eq_of_beq hz2
        refine ⟨rfl, r - 1, by omega, i + 1, V1, V2, V3, rfl, by omega, fun j hj => ?_, v1, v2, v3, ?_⟩
        · rcases Nat.lt_or_ge j i with h1 | h1
          · exact hok j h1
          · have : j = i := by omega
            subst this
            rw [okE, hz, hz2]; rfl
        · rw [ra, ra, ra, if_neg (by omega), if_neg (by omega), if_neg (by omega), List.append_nil, List.append_nil, List.append_nil]
          exact hS.drew
      · have hz : key = 0 := eq_of_beq hz
        have hz2 : num ≠ 0 := beq_eq_false_iff_ne.1 hz2
        exact endS (R := srPost S w0 W t l K) rfl hS hS.drew (hbad (hfalse1 (by omega) (by omega)))
      · have hz : key = 0 := eq_of_beq hz
        have hz3 := of_decide_eq_false hz3
        omega
      · have hz : key ≠ 0 := beq_eq_false_iff_ne.1 hz
        have hz3 := of_decide_eq_true hz3
        exact endS (R := srPost S w0 W t l K) rfl hS hS.drew (hbad (hfalse1 (by omega) (by omega)))
      · have hz4 : Int.tmod key 4 = 0 := eq_of_beq hz4
        have hz3 := of_decide_eq_false hz3
        rw [tmod_pos (by omega)] at hz4
        refine endS (R := srPost S w0 W t l K) rfl hS hS.drew (hbad ?_)
        rw [okE, decide_eq_false (show ¬ key = 0 by omega), hz4]; simp
      · have hz4 : Int.tmod key 4 ≠ 0 := beq_eq_false_iff_ne.1 hz4
        have hz3 := of_decide_eq_false hz3
        rw [tmod_pos (by omega)] at hz4
        have et : Int.tmod key 4 = key % 4 := tmod_pos (by omega)
        have ed : Int.tdiv key 4 = key / 4 := Int.tdiv_eq_ediv_of_nonneg (by omega)
        rw [et, ed, i64_id (x := key / 4) (by omega) (by omega), i8k (by omega)]
        have ek : key ≠ 0 := by omega
        rw [decide_eq_false ek, decide_eq_true (show 0 < key by omega), decide_eq_true hz4, Bool.false_and, Bool.false_or, Bool.true_and, Bool.true_and] at okE
        have hSd := hS.drew
        refine ⟨by decide, Calls.mono (hSd.step0 (atE0 (hX _ hSd.frame) hl _)) ?_⟩
        rintro _ w2 ⟨rfl, hS2⟩
        refine ⟨_, _, rfl, sel_of (fun hb => ?_) (fun hb => ⟨by decide, by decide, ?_⟩)⟩
        · refine endS (R := srPost S w0 W t l K) rfl hS2 hS2 (hbad ?_)
          have hb : (thing l (key / 4)).2 = false := by simpa using hb
          rw [okE, hb]; rfl
        · have hb : (thing l (key / 4)).2 = true := by simpa using hb
          rw [hb, Bool.true_and] at okE
          have hlr := lookP_range ht h0 (s := key / 4) (k := key % 4) (by omega)
          refine Calls.mono (hS2.step0 (lookC (hIW _ hS2.frame) hn (key / 4) (key % 4))) ?_
          rintro _ w3 ⟨rfl, hS3⟩
          refine ⟨_, _, rfl, Calls.mono (hS3.step0 (hashP w3 key t (by omega))) ?_⟩
          rintro _ w4 ⟨rfl, hS4⟩
          have hh := pgHash_range key (size := (t : Int))
          generalize pgHash key t = hp at *
          generalize (lookP W (key / 4) (key % 4)).2 = lp at *
          refine ⟨_, rfl, ?_⟩
          rw [i64_id (x := hp + (lp : Int)) (by omega) (by omega), i64_id (x := hp + (lp : Int) - 1) (by omega) (by omega), tmod_pos (by omega)]
          refine ⟨by omega, sel_of (fun hm => ?_) (fun hm => ?_)⟩
          · refine endS (R := srPost S w0 W t l K) rfl hS4 hS4 (hbad ?_)
            have hm : (hp + (lp : Int) - 1) % (t : Int) ≠ i := by simpa using hm
            rw [okE]
            exact decide_eq_false hm
          · have hm : (hp + (lp : Int) - 1) % (t : Int) = i := by simpa using hm
            rw [decide_eq_true hm] at okE
            have hok2 : ∀ j, j < i + 1 → okAt W t l j = true := by
              intro j hj
              rcases Nat.lt_or_ge j i with h1 | h1
              · exact hok j h1
              · have : j = i := by omega
                subst this; exact okE
            obtain ⟨A1, n1, c1⟩ := V1
            obtain ⟨A2, n2, c2⟩ := V2
            obtain ⟨A3, n3, c3⟩ := V3
            have r1 := rawS_len W 1 i
            have r2 := rawS_len W 2 i
            have r3 := rawS_len W 3 i
            rcases (show key % 4 = 1 ∨ key % 4 = 2 ∨ key % 4 = 3 by omega) with hk | hk | hk
            · obtain ⟨A', n', c', w5, q1, hS5, en⟩ := appE hS4 2 rfl (key / 4, num) (by omega)
              have hS6 := hS5.set 1 rfl 1 [.slice A' n' c']
              rw [hk]
              refine ⟨by decide, by decide, by decide, by decide, _, _, _, (hS4.blk 1 rfl).cell rfl, by decide, _, _, _, w5, q1, by decide, by decide, (hS5.blk 1 rfl).can (by simp), rfl, r - 1, by omega, i + 1, (A', n', c'), (A2, n2, c2), (A3, n3, c3), rfl, by omega, hok2, fun hn0 => by simp only at hn0; omega, v2, v3, ?_⟩
              rw [ra, ra, ra, if_pos (by omega), if_neg (by omega), if_neg (by omega), List.append_nil, List.append_nil]
              exact hS6
            · obtain ⟨A', n', c', w5, q1, hS5, en⟩ := appE hS4 3 rfl (key / 4, num) (by omega)
              have hS6 := hS5.set 1 rfl 2 [.slice A' n' c']
              rw [hk]
              refine ⟨by decide, by decide, by decide, by decide, _, _, _, (hS4.blk 1 rfl).cell rfl, by decide, _, _, _, w5, q1, by decide, by decide, (hS5.blk 1 rfl).can (by simp), rfl, r - 1, by omega, i + 1, (A1, n1, c1), (A', n', c'), (A3, n3, c3), rfl, by omega, hok2, v1, fun hn0 => by simp only at hn0; omega, v3, ?_⟩
              rw [ra, ra, ra, if_neg (by omega), if_pos (by omega), if_neg (by omega), List.append_nil, List.append_nil]
              exact hS6
            · obtain ⟨A', n', c', w5, q1, hS5, en⟩ := appE hS4 4 rfl (key / 4, num) (by omega)
              have hS6 := hS5.set 1 rfl 3 [.slice A' n' c']
              rw [hk]
              refine ⟨by decide, by decide, by decide, by decide, _, _, _, (hS4.blk 1 rfl).cell rfl, by decide, _, _, _, w5, q1, by decide, by decide, (hS5.blk 1 rfl).can (by simp), rfl, r - 1, by omega, i + 1, (A1, n1, c1), (A2, n2, c2), (A', n', c'), rfl, by omega, hok2, v1, v2, fun hn0 => by simp only at hn0; omega, ?_⟩
              rw [ra, ra, ra, if_neg (by omega), if_neg (by omega), if_pos (by omega), List.append_nil, List.append_nil]
              exact hS6
    · have hi : i = t := by have := of_decide_eq_false hd; omega
      subst hi
      have hB : seatedB W i l = true := by
        unfold seatedB
        rw [List.all_eq_true]
        exact fun j hj => hok j (List.mem_range.1 hj)
      have a1 := rawS_apart (k := 1) hok
      have a2 := rawS_apart (k := 2) hok
      have a3 := rawS_apart (k := 3) hok
      have r1 := rawS_len W 1 i
      have r2 := rawS_len W 2 i
      have r3 := rawS_len W 3 i
      refine ⟨_, _, _, (hS.blk 1 rfl).cell rfl, _, _, _, (hS.blk 1 rfl).cell rfl, _, _, _, (hS.blk 1 rfl).cell rfl, _, _, _, (hS.blk 1 rfl).cell rfl, ?_⟩
      refine ⟨fun z w' q => ∃ (j : Nat) (s1 s2 s3 : List Se), z = (j : Int) ∧ j + q = 4 ∧ s1.Perm (rawS W 1 i) ∧ s2.Perm (rawS W 2 i) ∧ s3.Perm (rawS W 3 i) ∧ (1 < j → s1.Pairwise (fun x y => x.1 ≤ y.1)) ∧ (2 < j → s2.Pairwise (fun x y => x.1 ≤ y.1)) ∧ (3 < j → s3.Pairwise (fun x y => x.1 ≤ y.1)) ∧ St S w0 w' (srK b1 b2 #[.slice none 0 0, .slice none 0 0, .slice none 0 0, .slice none 0 0] V1 V2 V3 s1 s2 s3 K),
        ⟨4, 0, _, _, _, rfl, by omega, List.Perm.refl _, List.Perm.refl _, List.Perm.refl _, fun h => by omega, fun h => by omega, fun h => by omega, hS⟩, ?_⟩
      clear hS
      rintro d z w2 q ⟨j, s1, s2, s3, rfl, hjq, p1, p2, p3, o1, o2, o3, hS⟩
      have g1 := hS.lrLen 2 rfl
      have g2 := hS.lrLen 3 rfl
      have g3 := hS.lrLen 4 rfl
      have l1 := p1.length_eq
      have l2 := p2.length_eq
      have l3 := p3.length_eq
      refine sel_of (fun hd => ?_) (fun hd => ?_)
      · have hj : j < 4 := by have := of_decide_eq_true hd; omega
        rcases (show j = 0 ∨ j = 1 ∨ j = 2 ∨ j = 3 by omega) with rfl | rfl | rfl | rfl
        · refine ⟨none, 0, 0, fun w => (index110 _ _ _ _ w).1, ?_⟩
          refine Calls.mono (sortS (l := []) (·.1) 56 enters90 cmp90 (hS.nil 98 2) 0 rfl (by omega)) ?_
          rintro _ w3 ⟨rfl, m, _, _, hS3⟩
          exact ⟨rfl, rfl, q - 1, by omega, 1, s1, s2, s3, rfl, by omega, p1, p2, p3, fun h => by omega, fun h => by omega, fun h => by omega, hS3.tail⟩
        · refine ⟨V1.1, V1.2.1, V1.2.2, fun w => (index110 _ _ _ _ w).2.1, ?_⟩
          refine Calls.mono (sortS (·.1) 56 enters90 cmp90 hS 2 rfl (by omega)) ?_
          rintro _ w3 ⟨rfl, m, m1, m2, hS3⟩
          exact ⟨rfl, rfl, q - 1, by omega, 2, m, s2, s3, rfl, by omega, m1.trans p1, p2, p3, fun _ => m2, fun h => by omega, fun h => by omega, hS3⟩
        · refine ⟨V2.1, V2.2.1, V2.2.2, fun w => (index110 _ _ _ _ w).2.2.1, ?_⟩
          refine Calls.mono (sortS (·.1) 56 enters90 cmp90 hS 3 rfl (by omega)) ?_
          rintro _ w3 ⟨rfl, m, m1, m2, hS3⟩
          exact ⟨rfl, rfl, q - 1, by omega, 3, s1, m, s3, rfl, by omega, p1, m1.trans p2, p3, fun _ => o1 (by omega), fun _ => m2, fun h => by omega, hS3⟩
        · refine ⟨V3.1, V3.2.1, V3.2.2, fun w => (index110 _ _ _ _ w).2.2.2, ?_⟩
          refine Calls.mono (sortS (·.1) 56 enters90 cmp90 hS 4 rfl (by omega)) ?_
          rintro _ w3 ⟨rfl, m, m1, m2, hS3⟩
          exact ⟨rfl, rfl, q - 1, by omega, 4, s1, s2, m, rfl, by omega, p1, p2, m1.trans p3, fun _ => o1 (by omega), fun _ => o2 (by omega), fun _ => m2, hS3⟩
      · have hj : j = 4 := by have := of_decide_eq_false hd; omega
        refine endS (R := srPost S w0 W i l K) rfl hS hS (fun w' hS' => ?_)
        refine ⟨V1, V2, V3, s1, s2, s3, by rw [hB], hS', v1, v2, v3, ⟨by omega, by omega, by omega⟩, fun _ => ⟨?_, ?_, ?_⟩⟩
        · exact srt_eq p1 (o1 (by omega)) a1
        · exact srt_eq p2 (o2 (by omega)) a2
        · exact srt_eq p3 (o3 (by omega)) a3
  · rintro e w' ⟨v, rfl, V1, V2, V3, s1, s2, s3, rfl, h⟩; exact ⟨V1, V2, V3, s1, s2, s3, rfl, h⟩
end PG
end Go.Proofs.YtjmlfknogjaemaaDoor
/- A piece of which only what it says is kept. -/
set_option linter.unusedVariables false
set_option linter.unusedSimpArgs false
namespace Go.Proofs.YtjmlfknogjaemaaDoor.Vc
open Go
/-- Some blocks that nobody else has, and what they say. -/
def Chunk.keep (p : World → Prop) : Chunk where
  holds w F := (∀ S w', Fr S w w' → (∀ x ∈ F, x ∉ S) → p w') ∧ ∀ x ∈ F, x < w.heap.size
  fr := by
    intro S w w' F h hf hS
    refine ⟨fun S2 w2 k hS2 => h.1 (S ++ S2) w2 ((hf.mono (by intro x hx; simp [hx])).trans (k.mono (by intro x hx; simp [hx]))) ?_, fun x hx => Nat.lt_of_lt_of_le (h.2 x hx) hf.1⟩
    intro x hx hm
    rcases List.mem_append.1 hm with h1 | h1
    · exact hS x hx h1
    · exact hS2 x hx h1
  lt := by intro w F h x hx; exact h.2 x hx
theorem Chunk.kept {c : Chunk} {p : World → Prop} (hp : ∀ F w, c.holds w F → p w) {w : World} {F : List Nat} (h : c.holds w F) : (Chunk.keep p).holds w F :=
  ⟨fun S w' k hS => hp F w' (c.fr h k hS), c.lt h⟩
theorem Chunk.keep_says {p : World → Prop} {w : World} {F : List Nat} (h : (Chunk.keep p).holds w F) : p w := h.1 [] w (Fr.refl _ _) (by simp)
theorem St.keep {S : List Nat} {w0 w : World} {L : List Chunk} (h : St S w0 w L) (i : Nat) {c : Chunk} (hi : L[i]? = some c) (p : World → Prop) (hp : ∀ F w, c.holds w F → p w) : St S w0 w (L.set i (Chunk.keep p)) :=
  h.as i hi _ fun F hF => Chunk.kept hp hF
theorem St.says {S : List Nat} {w0 w : World} {L : List Chunk} (h : St S w0 w L) (i : Nat) {p : World → Prop} (hi : L[i]? = some (Chunk.keep p)) : p w := by
  obtain ⟨F, hF, _⟩ := h.at i hi
  exact Chunk.keep_says hF
/-- A list of things of one cell: what is in it. -/
theorem Chunk.ls_says {α : Type} (d : α) {enc : α → Value} {e : TypeId} {A : Option Addr} {n c : Nat} {l : List α} {w : World} {F : List Nat} (h : (Chunk.ls enc e (.slice A n c) l).holds w F) :
    n = l.length ∧ n ≤ c ∧ (0 < n → ∃ b o, A = some ⟨b, o, Option.none⟩ ∧ ∀ i, i < n → w.cell? ⟨b, o + i, Option.none⟩ = some (enc (l.getD i d))) := by
  have hS := St.start1 h
  refine ⟨hS.lsLen 0 rfl, ?_, fun h0 => ?_⟩
  · rcases h with ⟨h1, h2, _⟩ | ⟨g, cap, h1, _, h2⟩
    · injection h1 with _ e1 e2; omega
    · injection h1 with _ e1 e2
      obtain ⟨_, _, _, h5, _⟩ := h2
      omega
  · obtain ⟨g, hg, hc⟩ := hS.lsGet d 0 rfl h0
    exact ⟨g, 0, hg, fun i hi => by rw [Nat.zero_add]; exact hc i hi⟩
/-- One piece is worked on, beside the others. -/
theorem St.graftN {S : List Nat} {w0 w : World} {K : List Chunk} (h : St S w0 w K) (i : Nat) {c : Chunk} (hi : K[i]? = some c) : ∃ F, c.holds w F ∧ (∀ x ∈ F, x ∈ S ∨ w0.heap.size ≤ x) ∧ (∀ j d, j ≠ i → K[j]? = some d → ∃ G, d.holds w G ∧ ∀ x ∈ G, x ∉ F) ∧ ∀ {w' : World} {c' : Chunk} {M : List Chunk}, St F w w' (c' :: M) → St S w0 w' (M ++ K.set i c') := by
  obtain ⟨h1, Fs, h2, h3⟩ := h
  have hil : i < K.length := by
    rcases Nat.lt_or_ge i K.length with h | h
    · exact h
    · rw [List.getElem?_eq_none h] at hi; cases hi
  have hlt : ∀ j, j < K.length → ∀ x ∈ Fs j, x < w.heap.size := by
    intro j hj x hx
    exact (K[j]).lt (h2 j K[j] (List.getElem?_eq_getElem hj)).1 x hx
  refine ⟨Fs i, (h2 i c hi).1, (h2 i c hi).2, fun j d hij hd => ⟨Fs j, (h2 j d hd).1, h3 j i (List.getElem?_eq_some_iff.1 hd).1 hil hij⟩, ?_⟩
  rintro w' c' M ⟨g1, Gs, g2, g3⟩
  have hS : ∀ x, (x ∈ Fs i ∨ w.heap.size ≤ x) → x ∈ S ∨ w0.heap.size ≤ x := by
    intro x hx
    rcases hx with hx | hx
    · exact (h2 i c hi).2 x hx
    · exact .inr (Nat.le_trans h1.1 hx)
  have hG : ∀ q, q < (c' :: M).length → ∀ x ∈ Gs q, x ∈ Fs i ∨ w.heap.size ≤ x := by
    intro q hq x hx
    exact (g2 q _ (List.getElem?_eq_getElem hq)).2 x hx
  refine ⟨h1.trans' g1 (fun x hx hl => (hS x (.inl hx)).resolve_right (by omega)), fun j => if j < M.length then Gs (j + 1) else if j - M.length = i then Gs 0 else Fs (j - M.length), ?_, ?_⟩
  · intro j d hd
    dsimp only
    by_cases hj : j < M.length
    · rw [if_pos hj]
      rw [List.getElem?_append_left hj] at hd
      have := g2 (j + 1) d (by simpa using hd)
      exact ⟨this.1, fun x hx => hS x (this.2 x hx)⟩
    · rw [if_neg hj]
      rw [List.getElem?_append_right (by omega)] at hd
      by_cases hq : j - M.length = i
      · rw [if_pos hq]
        rw [hq, List.getElem?_set_self hil] at hd
        injection hd with hd
        subst hd
        have := g2 0 c' rfl
        exact ⟨this.1, fun x hx => hS x (this.2 x hx)⟩
      · rw [if_neg hq]
        rw [List.getElem?_set_ne (Ne.symm hq)] at hd
        have hql : j - M.length < K.length := (List.getElem?_eq_some_iff.1 hd).1
        exact ⟨d.fr (h2 _ d hd).1 g1 (fun x hx hx2 => h3 _ i hql hil hq x hx hx2), (h2 _ d hd).2⟩
  · have out : ∀ p q, p < (c' :: M).length → q < K.length → q ≠ i → ∀ x ∈ Gs p, x ∉ Fs q := by
      intro p q hp hq hqi x hx hx2
      rcases hG p hp x hx with h | h
      · exact h3 q i hq hil hqi x hx2 h
      · have := hlt q hq x hx2; omega
    intro j k hj hk hjk x hx hx2
    dsimp only at hx hx2
    simp only [List.length_append, List.length_set] at hj hk
    by_cases ej : j < M.length
    · rw [if_pos ej] at hx
      by_cases ek : k < M.length
      · rw [if_pos ek] at hx2
        exact g3 (j + 1) (k + 1) (by simp; omega) (by simp; omega) (by omega) x hx hx2
      · rw [if_neg ek] at hx2
        by_cases eq : k - M.length = i
        · rw [if_pos eq] at hx2
          exact g3 (j + 1) 0 (by simp; omega) (by simp) (by omega) x hx hx2
        · rw [if_neg eq] at hx2
          exact out (j + 1) _ (by simp; omega) (by omega) eq x hx hx2
    · rw [if_neg ej] at hx
      by_cases ek : k < M.length
      · rw [if_pos ek] at hx2
        by_cases eq : j - M.length = i
        · rw [if_pos eq] at hx
          exact g3 0 (k + 1) (by simp) (by simp; omega) (by omega) x hx hx2
        · rw [if_neg eq] at hx
          exact out (k + 1) _ (by simp; omega) (by omega) eq x hx2 hx
      · rw [if_neg ek] at hx2
        by_cases eq : j - M.length = i
        · rw [if_pos eq] at hx
          by_cases eq2 : k - M.length = i
          · omega
          · rw [if_neg eq2] at hx2
            exact out 0 _ (by simp) (by omega) eq2 x hx hx2
        · rw [if_neg eq] at hx
          by_cases eq2 : k - M.length = i
          · rw [if_pos eq2] at hx2
            exact out 0 _ (by simp) (by omega) eq x hx2 hx
          · rw [if_neg eq2] at hx2
            exact h3 _ _ (by omega) (by omega) (by omega) x hx hx2

theorem St.graftW {S : List Nat} {w0 w : World} {K : List Chunk} (h : St S w0 w K) (i : Nat) {c : Chunk} (hi : K[i]? = some c) : ∃ F, c.holds w F ∧ (∀ j d, j ≠ i → K[j]? = some d → ∃ G, d.holds w G ∧ ∀ x ∈ G, x ∉ F) ∧ ∀ {w' : World} {c' : Chunk} {M : List Chunk}, St F w w' (c' :: M) → St S w0 w' (M ++ K.set i c') := by
  obtain ⟨F, h1, _, h2, h3⟩ := h.graftN i hi
  exact ⟨F, h1, h2, h3⟩
end Go.Proofs.YtjmlfknogjaemaaDoor.Vc
/- Page: Read: what the walk wants. -/
set_option linter.unusedVariables false
set_option linter.unusedSimpArgs false
set_option maxRecDepth 10000
namespace Go.Proofs.YtjmlfknogjaemaaDoor
open Go Go.Proofs.YtjmlfknogjaemaaDoor.Vc
namespace PG
open Vc.PG NI
abbrev nilS : Sl := (none, 0, 0)
abbrev nilG : GV := ⟨nilS, nilS, nilS, nilS, nilS, nilS⟩
def gC (v : GV) (g : Gd) : Chunk := Chunk.keep fun w => InG w v g
/-- What Read answers. -/
def rdPost (r : Int × Gd × Int) (w : World) (v : Value) (w' : World) : Prop := ∃ g : GV, v = .tuple #[.int .i64 r.1, g.v, .int .i64 r.2.2] ∧ St [] w w' [gC g r.2.1]
theorem inNil (w : World) : InG w nilG emptyG :=
  ⟨⟨⟨rfl, fun h => by simp at h⟩, Nat.le_refl _⟩, ⟨⟨rfl, fun h => by simp at h⟩, Nat.le_refl _⟩, ⟨⟨rfl, fun h => by simp at h⟩, Nat.le_refl _⟩, ⟨⟨rfl, fun h => by simp at h⟩, Nat.le_refl _⟩, ⟨⟨rfl, fun h => by simp at h⟩, Nat.le_refl _⟩, ⟨⟨rfl, fun h => by simp at h⟩, Nat.le_refl _⟩, fun r hr => by simp [emptyG, gM] at hr⟩
theorem rd_bad {r : Int × Gd × Int} (hr : r = (0, emptyG, 120)) {w w' : World} (hf : Fr [] w w') : rdPost r w (.tuple #[.int .i64 0, nilG.v, .int .i64 120]) w' := by
  subst hr
  refine ⟨nilG, rfl, ?_⟩
  exact ((St.start w).go hf).new (Fr.refl _ _) (c := gC nilG emptyG) (F := []) ⟨fun S w' _ _ => inNil w', by simp⟩ (by simp)
theorem endE {w0 w : World} {b0 : Nat} {Z : Array Value} {L : List Chunk} {R : Value → World → Prop} (hZ : Z.size = 6) (hS : St [] w0 w L) (i : Nat) (hi : L[i]? = some (Chunk.blk b0 Z 32))
    (hR : ∀ w', Fr [] w0 w' → R (.tuple #[.int .i64 0, nilG.v, .int .i64 120]) w') :
    canStore w b0 0 6 ∧ let w6 : World := setCs w b0 0 [.slice none 0 0, .slice none 0 0, .slice none 0 0, .slice none 0 0, .slice none 0 0, .slice none 0 0]
      ∃ (A0 : Option Addr) (n0 c0 : Nat), w6.cell? ⟨b0, 0, none⟩ = some (.slice A0 n0 c0) ∧ ∃ (A1 : Option Addr) (n1 c1 : Nat), w6.cell? ⟨b0, 1, none⟩ = some (.slice A1 n1 c1) ∧
      ∃ (A2 : Option Addr) (n2 c2 : Nat), w6.cell? ⟨b0, 2, none⟩ = some (.slice A2 n2 c2) ∧ ∃ (A3 : Option Addr) (n3 c3 : Nat), w6.cell? ⟨b0, 3, none⟩ = some (.slice A3 n3 c3) ∧
      ∃ (A4 : Option Addr) (n4 c4 : Nat), w6.cell? ⟨b0, 4, none⟩ = some (.slice A4 n4 c4) ∧ ∃ (A5 : Option Addr) (n5 c5 : Nat), w6.cell? ⟨b0, 5, none⟩ = some (.slice A5 n5 c5) ∧
      R (.tuple #[.int .i64 0, .agg #[.slice A0 n0 c0, .slice A1 n1 c1, .slice A2 n2 c2, .slice A3 n3 c3, .slice A4 n4 c4, .slice A5 n5 c5], .int .i64 120]) w6 := by
  have h6 := hS.over i hi [.slice none 0 0, .slice none 0 0, .slice none 0 0, .slice none 0 0, .slice none 0 0, .slice none 0 0] (by simp [hZ])
  have hil : i < L.length := (List.getElem?_eq_some_iff.1 hi).1
  have hb := h6.blk i (List.getElem?_set_self hil)
  refine ⟨(hS.blk i hi).can (by simp [hZ]), ?_⟩
  exact ⟨_, _, _, hb.cell rfl, _, _, _, hb.cell rfl, _, _, _, hb.cell rfl, _, _, _, hb.cell rfl, _, _, _, hb.cell rfl, _, _, _, hb.cell rfl, hR _ h6.frame⟩
theorem makeS (w : World) (n : Nat) (hm : n ≤ 1000000) : (Instr.makeSlice 27 (.int .i64 (n : Int)) (.int .i64 (n : Int))).run Tryd.prog w = .ok (.slice (some ⟨w.heap.size, 0, none⟩) n n) (w.alloc (.cells ((List.replicate n (⟨#[]⟩ : ByteArray)).map encS).toArray 9)) := by
  obtain ⟨i, h1, h2, h3, h4⟩ := info9
  have := run_make w (P := Tryd.prog) 27 9 i (.string ⟨#[]⟩) under25 h1 h2 .i64 .i64 (n : Int) (n : Int) (by omega) (by omega) (by rw [h4]; omega) (by omega)
  rw [h3, Int.toNat_natCast, Nat.mul_one] at this
  rw [this]
  congr 4
  rw [List.map_replicate]
  exact made_rep _ 1 n (by omega)
theorem makeU (w : World) (m : Nat) (hm : m ≤ 1000000) : (Instr.makeSlice 29 (.int .i64 0) (.int .i64 (m : Int))).run Tryd.prog w = .ok (.slice (some ⟨w.heap.size, 0, none⟩) 0 m) (w.alloc (.cells ((List.replicate m (0 : Int)).map encU).toArray 59)) := by
  obtain ⟨i, h1, h2, h3, h4⟩ := info79
  have := run_make w (P := Tryd.prog) 29 59 i (.int .u16 0) under82 h1 h2 .i64 .i64 0 (m : Int) (by omega) (by omega) (by rw [h4]; omega) (by omega)
  rw [h3, Int.toNat_natCast, Nat.mul_one] at this
  rw [this]
  congr 4
  rw [List.map_replicate]
  exact made_rep _ 1 m (by omega)
theorem lu_of_made {b m : Nat} (hm : m ≤ 1000000) {w : World} {F : List Nat} (h : (Chunk.blk b ((List.replicate m (0 : Int)).map encU).toArray 59).holds w F) : (slU (.slice (some ⟨b, 0, none⟩) 0 m) []).holds w F :=
  .inr ⟨b, m, by simp, h.1, _, h.2, by simp, by simp, by simp [maxLen]; omega, by simp, fun i hi j hj => by simp at hi⟩
abbrev encL (x : Sl) : Value := x.v
theorem under27 : Tryd.prog.underlying 30 = some (.slice 29) := by kernel_rfl
theorem info82 : ∃ i, Tryd.prog.info? 29 = some i ∧ i.zero = some (.slice none 0 0) ∧ i.size = 1 ∧ i.bytes = 24 := ⟨Tryd.prog.types[29]!, by kernel_rfl, by kernel_rfl, by kernel_rfl, by kernel_rfl⟩
theorem appL {S : List Nat} {w0 w : World} {L : List Chunk} (h : St S w0 w L) (i : Nat) {A : Option Addr} {n c : Nat} {l : List Sl} (hi : L[i]? = some (Chunk.ls encL 29 (.slice A n c) l)) (a : Sl) (hl : l.length ≤ 4000000) :
    ∃ A' n' c' w', (Builtin.append_ #[30, 30] 30 #[.slice A n c, .slice (some ⟨w.heap.size, 0, Option.none⟩) 1 1]).run Tryd.prog (World.alloc w (.cells #[a.v] 29)) = .ok (.slice A' n' c') w' ∧ St S w0 w' (L.set i (Chunk.ls encL 29 (.slice A' n' c') (l ++ [a]))) := by
  obtain ⟨ti, i1, i2, i3, i4⟩ := info82
  obtain ⟨g', cap', w', h1, h2⟩ := h.app (enc := encL) (P := Tryd.prog) (t := 30) (ty := 30) (fun _ => rfl) under27 i1 i2 i3 rfl (by omega) i hi a (by omega)
  exact ⟨_, _, _, w', h1, h2⟩
theorem appU {S : List Nat} {w0 w : World} {L : List Chunk} (h : St S w0 w L) (i : Nat) {A : Option Addr} {n c : Nat} {l : List Int} (hi : L[i]? = some (slU (.slice A n c) l)) (a : Int) (hl : l.length ≤ 4000000) :
    ∃ A' n' c' w', (Builtin.append_ #[29, 29] 29 #[.slice A n c, .slice (some ⟨w.heap.size, 0, Option.none⟩) 1 1]).run Tryd.prog (World.alloc w (.cells #[.int .u16 a] 59)) = .ok (.slice A' n' c') w' ∧ St S w0 w' (L.set i (slU (.slice A' n' c') (l ++ [a]))) := by
  obtain ⟨ti, i1, i2, i3, i4⟩ := info79
  obtain ⟨g', cap', w', h1, h2⟩ := h.app (enc := encU) (P := Tryd.prog) (t := 29) (ty := 29) (fun _ => rfl) under82 i1 i2 i3 rfl (by omega) i hi a (by omega)
  exact ⟨_, _, _, w', h1, h2⟩
/-- The rows of masks that are there. -/
def InRs (vals : List Sl) (M : List (List Int)) (w : World) : Prop := vals.length = M.length ∧ ∀ i, i < vals.length → InU w (vals.getD i nilS).1 (vals.getD i nilS).2.1 (M.getD i [])
theorem InRs.snoc {vals : List Sl} {M : List (List Int)} {V : Sl} {R : List Int} {w : World} (h : InRs vals M w) (hV : InU w V.1 V.2.1 R) : InRs (vals ++ [V]) (M ++ [R]) w := by
  have hl := h.1
  refine ⟨by simp [hl], fun i hi => ?_⟩
  simp only [List.length_append, List.length_singleton] at hi
  rcases Nat.lt_or_ge i vals.length with h1 | h1
  · have e1 : (vals ++ [V]).getD i nilS = vals.getD i nilS := by simp [List.getD_eq_getElem?_getD, List.getElem?_append_left, h1]
    have e2 : (M ++ [R]).getD i [] = M.getD i [] := by simp [List.getD_eq_getElem?_getD, List.getElem?_append_left, show i < M.length by omega]
    rw [e1, e2]; exact h.2 i h1
  · have : i = vals.length := by omega
    subst this
    have e1 : (vals ++ [V]).getD vals.length nilS = V := by simp [List.getD_eq_getElem?_getD]
    have e2 : (M ++ [R]).getD vals.length [] = R := by simp [List.getD_eq_getElem?_getD, hl]
    rw [e1, e2]; exact hV
theorem slU_in {A : Option Addr} {n c : Nat} {l : List Int} {w : World} {F : List Nat} (h : (slU (.slice A n c) l).holds w F) : InU w A n l := by
  obtain ⟨h1, _, h2⟩ := Chunk.ls_says 0 h
  exact ⟨h1, h2⟩
theorem rs_inM {vals : List Sl} {M : List (List Int)} {w : World} {V : Sl} {F : List Nat} (h : InRs vals M w) (hV : (Chunk.ls encL 29 V.v vals).holds w F) : InM w V.1 V.2.1 M ∧ V.2.1 ≤ V.2.2 := by
  obtain ⟨h1, h2, h3⟩ := Chunk.ls_says nilS hV
  refine ⟨⟨by rw [h1, h.1], fun h0 => ?_⟩, h2⟩
  obtain ⟨b, o, hb, hc⟩ := h3 h0
  refine ⟨b, o, hb, fun i hi => ⟨_, _, _, hc i hi, h.2 i (by omega)⟩⟩
theorem keepRow {S : List Nat} {w0 w : World} {L : List Chunk} {A : Option Addr} {n c : Nat} {R : List Int} {vals : List Sl} {M : List (List Int)} (h : St S w0 w (slU (.slice A n c) R :: Chunk.keep (InRs vals M) :: L)) :
    St S w0 w (Chunk.keep (InRs (vals ++ [(A, n, c)]) (M ++ [R])) :: L) := by
  refine h.join.keep 0 rfl _ ?_
  rintro F w ⟨F1, F2, rfl, h1, h2, _⟩
  exact (Chunk.keep_says h2).snoc (V := (A, n, c)) (slU_in h1)
end PG
end Go.Proofs.YtjmlfknogjaemaaDoor
/- Page: Read, the walk. -/
set_option linter.unusedVariables false
set_option linter.unusedSimpArgs false
set_option maxRecDepth 10000
namespace Go.Proofs.YtjmlfknogjaemaaDoor
open Go Go.Proofs.YtjmlfknogjaemaaDoor.Vc
namespace PG
open Vc.PG NI
theorem readP_bad {W : List Int} {l : List ByteArray} {t : Nat} (ht : tabP W = (t : Int)) (h : ¬ (t ≠ 0 ∧ shapeB W t = true ∧ goodB W t l = true)) : readP W l = (0, emptyG, 120) := by
  unfold readP
  rw [ht, Int.toNat_natCast, if_neg (fun hh => h ⟨by omega, hh.2⟩)]
theorem readP_good {W : List Int} {l : List ByteArray} {t : Nat} (ht : tabP W = (t : Int)) (h0 : t ≠ 0) (h1 : shapeB W t = true) (h2 : goodB W t l = true) : readP W l = (W.getD 0 0, graphP W t l, 0) := by
  unfold readP
  rw [ht, Int.toNat_natCast, if_pos ⟨by omega, h1, h2⟩]
abbrev rowsP (W : List Int) (t : Nat) (l : List ByteArray) : List Int := (namedP l (seatsP W 1 t)).2.2
abbrev colsP (W : List Int) (t : Nat) (l : List ByteArray) : List Int := (namedP l (seatsP W 2 t)).2.2
theorem good_parts {W : List Int} {t : Nat} {l : List ByteArray} : goodB W t l = true ↔ seatedB W t l = true ∧ tabN ((seatsP W 3 t).length + (seatsP W 1 t).length + (seatsP W 2 t).length) = t ∧ listedB (seatsP W 3 t) = true ∧ wholeB (rowsP W t l) (W.getD 2 0) = true ∧ wholeB (colsP W t l) (W.getD 3 0) = true ∧
    (∀ r ∈ rowsP W t l, ∀ y ∈ colsP W t l, 0 ≤ maskP W t (W.getD 3 0) r y ∧ maskP W t (W.getD 3 0) r y ≤ 65535) ∧ validP (graphP W t l) = true := by
  have hm : (gM (graphP W t l)) = masksP W t (W.getD 3 0) (rowsP W t l) (colsP W t l) := rfl
  have hall : ((gM (graphP W t l)).all fun r => r.all fun m => decide (0 ≤ m ∧ m ≤ 65535)) = true ↔ (∀ r ∈ rowsP W t l, ∀ y ∈ colsP W t l, 0 ≤ maskP W t (W.getD 3 0) r y ∧ maskP W t (W.getD 3 0) r y ≤ 65535) := by
    rw [hm, List.all_eq_true]
    unfold masksP
    constructor
    · intro h r hr y hy
      have h1 := h _ (List.mem_map.2 ⟨r, hr, rfl⟩)
      rw [List.all_eq_true] at h1
      exact of_decide_eq_true (h1 _ (List.mem_map.2 ⟨y, hy, rfl⟩))
    · intro h x hx
      obtain ⟨r, hr, rfl⟩ := List.mem_map.1 hx
      rw [List.all_eq_true]
      intro m hm
      obtain ⟨y, hy, rfl⟩ := List.mem_map.1 hm
      exact decide_eq_true (h r hr y hy)
  unfold goodB
  rw [Bool.and_eq_true, Bool.and_eq_true, Bool.and_eq_true, Bool.and_eq_true, Bool.and_eq_true, Bool.and_eq_true, decide_eq_true_iff]
  constructor
  · rintro ⟨⟨⟨⟨⟨⟨h1, h2⟩, h3⟩, h4⟩, h5⟩, h6⟩, h7⟩
    exact ⟨h1, h2, h3, h4, h5, hall.1 h6, h7⟩
  · rintro ⟨h1, h2, h3, h4, h5, h6, h7⟩
    exact ⟨⟨⟨⟨⟨⟨h1, h2⟩, h3⟩, h4⟩, h5⟩, hall.2 h6⟩, h7⟩
theorem whole_parts {o : List Int} {k : Int} (h : wholeB o k = true) : (∀ x ∈ o, 1 ≤ x ∧ x ≤ k) ∧ (o.length : Int) = k := by
  unfold wholeB at h
  rw [Bool.and_eq_true, List.all_eq_true] at h
  exact ⟨fun x hx => of_decide_eq_true (h.1 x hx), of_decide_eq_true h.2⟩
abbrev rdK (vals : List Sl) (M : List (List Int)) (VM XO YN ZC XS YF ZR XA : Sl) (W : List Int) (t : Nat) (l : List ByteArray) (bg bh b0 : Nat) : List Chunk :=
  [Chunk.keep (InRs vals M), Chunk.ls encL 29 VM.v vals, txs XO.v (namedP l (seatsP W 2 t)).1, ints YN.v (namedP l (seatsP W 2 t)).2.1, ints ZC.v (colsP W t l), txs XS.v (namedP l (seatsP W 1 t)).1, ints YF.v (namedP l (seatsP W 1 t)).2.1, ints ZR.v (rowsP W t l), txs XA.v (listedP l (seatsP W 3 t)),
    Chunk.blk bg #[XA.v, XS.v, XO.v, YF.v, YN.v, VM.v] 32, Chunk.blk bh #[.int .i64 (W.getD 0 0), .int .i64 (W.getD 1 0), .int .i64 (W.getD 2 0), .int .i64 (W.getD 3 0)] 66, Chunk.blk b0 #[.slice none 0 0, .slice none 0 0, .slice none 0 0, .slice none 0 0, .slice none 0 0, .slice none 0 0] 32]
theorem toG {S : List Nat} {w0 w : World} {vals : List Sl} {VM XO YN ZC XS YF ZR XA : Sl} {W : List Int} {t : Nat} {l : List ByteArray} {B1 B2 B3 : Chunk}
    (hu : ∀ r ∈ rowsP W t l, ∀ y ∈ colsP W t l, 0 ≤ maskP W t (W.getD 3 0) r y ∧ maskP W t (W.getD 3 0) r y ≤ 65535)
    (hS : St S w0 w [Chunk.keep (InRs vals (masksP W t (W.getD 3 0) (rowsP W t l) (colsP W t l))), Chunk.ls encL 29 VM.v vals, txs XO.v (namedP l (seatsP W 2 t)).1, ints YN.v (namedP l (seatsP W 2 t)).2.1, ints ZC.v (colsP W t l), txs XS.v (namedP l (seatsP W 1 t)).1, ints YF.v (namedP l (seatsP W 1 t)).2.1, ints ZR.v (rowsP W t l), txs XA.v (listedP l (seatsP W 3 t)), B1, B2, B3]) :
    St S w0 w [gC ⟨XA, XS, XO, YF, YN, VM⟩ (graphP W t l)] := by
  have h1 := hS.sel [0, 1, 2, 3, 5, 6, 8] (by decide) [Chunk.keep (InRs vals (masksP W t (W.getD 3 0) (rowsP W t l) (colsP W t l))), Chunk.ls encL 29 VM.v vals, txs XO.v (namedP l (seatsP W 2 t)).1, ints YN.v (namedP l (seatsP W 2 t)).2.1, txs XS.v (namedP l (seatsP W 1 t)).1, ints YF.v (namedP l (seatsP W 1 t)).2.1, txs XA.v (listedP l (seatsP W 3 t))] rfl
  refine h1.join.join.join.join.join.join.keep 0 rfl _ ?_
  rintro F w ⟨_, _, rfl, ⟨_, _, rfl, ⟨_, _, rfl, ⟨_, _, rfl, ⟨_, _, rfl, ⟨_, _, rfl, k1, k2, _⟩, k3, _⟩, k4, _⟩, k5, _⟩, k6, _⟩, k7, _⟩
  have e1 := Chunk.keep_says k1
  have e3 := Chunk.ls_says ByteArray.empty k3
  have e4 := Chunk.ls_says 0 k4
  have e5 := Chunk.ls_says ByteArray.empty k5
  have e6 := Chunk.ls_says 0 k6
  have e7 := Chunk.ls_says ByteArray.empty k7
  have em := rs_inM e1 k2
  refine ⟨⟨⟨e7.1, e7.2.2⟩, e7.2.1⟩, ⟨⟨e5.1, e5.2.2⟩, e5.2.1⟩, ⟨⟨e3.1, e3.2.2⟩, e3.2.1⟩, ⟨⟨e6.1, e6.2.2⟩, e6.2.1⟩, ⟨⟨e4.1, e4.2.2⟩, e4.2.1⟩, em, ?_⟩
  intro r hr x hx
  obtain ⟨r', hr', rfl⟩ := List.mem_map.1 hr
  obtain ⟨y, hy, rfl⟩ := List.mem_map.1 hx
  have := hu r' hr' y hy
  omega
end PG
end Go.Proofs.YtjmlfknogjaemaaDoor
