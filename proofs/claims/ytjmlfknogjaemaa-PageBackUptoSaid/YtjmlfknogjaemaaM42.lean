/- Page: the document's Read, its parts: seats, mask, named. -/
import Derived.Test.YtjmlfknogjaemaaM33
import Derived.Test.YtjmlfknogjaemaaM32
import Derived.Test.YtjmlfknogjaemaaM41
set_option linter.unusedVariables false
set_option linter.unusedSimpArgs false
set_option maxRecDepth 10000
namespace Go.Proofs.Ytjmlfknogjaemaa
open Go Go.Proofs.Ytjmlfknogjaemaa.Vc
namespace PG
open Vc.PG NI
abbrev sesR (v : Value) (l : List Se) : Chunk := Chunk.lr encE 104 2 v l
theorem under101 : Try.prog.underlying 101 = some (.slice 104) := by kernel_rfl
theorem info104 : ∃ i, Try.prog.info? 104 = some i ∧ i.zero = some (.agg #[.int .i64 0, .int .i64 0]) ∧ i.size = 2 ∧ i.bytes = 16 := ⟨Try.prog.types[104]!, by kernel_rfl, by kernel_rfl, by kernel_rfl, by kernel_rfl⟩
theorem St.inS {S : List Nat} {w0 w : World} {L : List Chunk} (h : St S w0 w L) (i : Nat) {A : Option Addr} {n c : Nat} {l : List Se} (hi : L[i]? = some (sesR (.slice A n c) l)) : InE w A n l := by
  refine ⟨h.lrLen i hi, fun h0 => ?_⟩
  obtain ⟨g, hg, hc⟩ := h.lrGet se0 i hi h0
  refine ⟨g, 0, hg, fun q hq => ⟨?_, ?_⟩⟩
  · have := hc q hq 0 _ (by decide) rfl
    rw [Nat.zero_add]; exact this
  · have := hc q hq 1 _ (by decide) rfl
    rw [Nat.zero_add]; exact this
theorem appS {S : List Nat} {w0 w : World} {L : List Chunk} (h : St S w0 w L) (i : Nat) {A : Option Addr} {n c : Nat} {l : List Se} (hi : L[i]? = some (sesR (.slice A n c) l)) (a : Se) (hl : l.length ≤ 1000000) :
    ∃ A' n' c' w', (Builtin.append_ #[101, 101] 101 #[.slice A n c, .slice (some ⟨w.heap.size, 0, Option.none⟩) 1 1]).run Try.prog (World.alloc w (.cells #[.int .i64 a.1, .int .i64 a.2] 104)) = .ok (.slice A' n' c') w' ∧ St S w0 w' (L.set i (sesR (.slice A' n' c') (l ++ [a]))) := by
  obtain ⟨ti, i1, i2, i3, i4⟩ := info104
  obtain ⟨A', n', c', w', h1, h2⟩ := h.appR (enc := encE) (s := 2) (P := Try.prog) (t := 101) (ty := 101) (by decide) (fun _ => rfl) encE1 under101 i1 i2 i3 rfl (by omega) i hi a (by omega)
  exact ⟨_, _, _, w', h1, h2⟩
theorem srt_snoc (l : List Se) (s : Se) : srt (l ++ [s]) = insP (srt l) s := by
  unfold srt; rw [List.foldl_append]; rfl
theorem seatsR {S : List Nat} {w0 w : World} {K : List Chunk} (h : St S w0 w K) {A : Option Addr} {n c : Nat} {W : List Int} {t : Nat} (hW : ∀ w', Fr S w0 w' → InW w' A n W) (hr : ∀ i, W.getD i 0 ≤ 9223372036854775807) (ht : W.getD 1 0 = (t : Int)) (htb : t ≤ 4096) (hn : 4 + 2 * t ≤ n) (k : Int) :
    Calls Try.prog 60 #[.slice A n c, .int .i64 k] w fun e w' => ∃ X : Sl, e = .returned X.v ∧ St S w0 w' (sesR X.v (seatsP W k t) :: K) := by
  refine Calls.mono (f60.calls (R := fun v w' => ∃ X : Sl, v = X.v ∧ St S w0 w' (sesR X.v (seatsP W k t) :: K)) ?_) ?_
  · dsimp only [f60.VC]
    refine ⟨fun A5 n5 c5 x w' r => ∃ i : Nat, x = (i : Int) ∧ i + r = t ∧ St S w0 w' (sesR (.slice A5 n5 c5) (srt (rawS W k i)) :: K), ⟨t, 0, rfl, by omega, h.nil 104 2⟩, ?_⟩
    rintro d A5 n5 c5 x w1 r ⟨i, rfl, hir, hS⟩
    obtain ⟨b, o, rfl, hc⟩ := (hW w1 hS.frame).2 (by omega)
    have hc1 := hc 1 (by omega)
    rw [ht] at hc1
    refine ⟨by omega, by omega, needPtr_of rfl ⟨_, hc1, sel_of (fun hd => ?_) (fun hd => ?_)⟩⟩
    · have hi : i < t := by have := of_decide_eq_true hd; omega
      have e1 : IntKind.i64.wrap (4 + IntKind.i64.wrap (2 * (i : Int))) = ((4 + 2 * i : Nat) : Int) := by rw [i64_id (x := 2 * _) (by omega) (by omega), i64_id (by omega) (by omega)]; omega
      have e2 : IntKind.i64.wrap (5 + IntKind.i64.wrap (2 * (i : Int))) = ((4 + 2 * i + 1 : Nat) : Int) := by rw [i64_id (x := 2 * _) (by omega) (by omega), i64_id (by omega) (by omega)]; omega
      have er : IntKind.i64.wrap ((i : Int) + 1) = ((i + 1 : Nat) : Int) := inc i t (by omega) (by omega)
      have ra : rawS W k (i + 1) = rawS W k i ++ if 0 < W.getD (4 + 2 * i) 0 ∧ W.getD (4 + 2 * i) 0 % 4 = k then [(W.getD (4 + 2 * i) 0 / 4, W.getD (4 + 2 * i + 1) 0)] else [] := rawS_succ W k i
      have hkr := hr (4 + 2 * i)
      have hcn := hc (4 + 2 * i + 1) (by omega)
      have hck := hc (4 + 2 * i) (by omega)
      rw [e1, e2, er]
      have hWs := hW
      generalize W.getD (4 + 2 * i) 0 = key at *
      generalize hnum : W.getD (4 + 2 * i + 1) 0 = num at *
      refine ⟨by omega, by omega, needPtr_of rfl ⟨_, by rw [Int.toNat_natCast, Nat.mul_one]; exact hck, sel_of (fun hz => ?_) (fun hz => ⟨by decide, sel_of (fun hz2 => ?_) (fun hz2 => ⟨by decide, by omega, by omega, needPtr_of rfl ⟨_, by rw [Int.toNat_natCast, Nat.mul_one]; exact hcn, ?_⟩⟩)⟩)⟩⟩
      · have hz := of_decide_eq_true hz
        refine ⟨rfl, r - 1, by omega, i + 1, rfl, by omega, ?_⟩
        rw [ra, if_neg (by omega), List.append_nil]
        exact hS
      · have hz := of_decide_eq_false hz
        rw [tmod_pos (by omega)] at hz2
        have hz2 : key % 4 ≠ k := by simpa using hz2
        refine ⟨rfl, r - 1, by omega, i + 1, rfl, by omega, ?_⟩
        rw [ra, if_neg (by omega), List.append_nil]
        exact hS
      · have hz := of_decide_eq_false hz
        rw [tmod_pos (by omega)] at hz2
        have hz2 : key % 4 = k := by simpa using hz2
        rw [if_pos ⟨by omega, hz2⟩] at ra
        have ed : Int.tdiv key 4 = key / 4 := Int.tdiv_eq_ediv_of_nonneg (by omega)
        rw [ed, i64_id (x := key / 4) (by omega) (by omega)]
        have hlr := rawS_len W k i
        have hsl := srt_len (rawS W k i)
        have hn5 := hS.lrLen 0 rfl
        have hS1 := hS.alloc #[.int .i64 0, .int .i64 0] 104
        have hS2 := hS1.over 0 rfl [.int .i64 (key / 4), .int .i64 num] rfl
        have hsn := srt_snoc (rawS W k i) (key / 4, num)
        rw [← ra] at hsn
        generalize srt (rawS W k i) = l at *
        refine ⟨(hS1.blk 0 rfl).can (by decide), fun A9 n9 c9 x w' q => ∃ j : Nat, x = (j : Int) ∧ j + q = n5 ∧ St S w0 w' (sesR (.slice A9 n9 c9) ((l.take j).filter fun x => decide (x.1 < key / 4)) :: Chunk.blk w1.heap.size #[.int .i64 (key / 4), .int .i64 num] 104 :: sesR (.slice A5 n5 c5) l :: K), ⟨n5, 0, rfl, by omega, hS2.nil 104 2⟩, ?_⟩
        clear hS1 hS2
        generalize w1.heap.size = br at *
        rintro d A9 n9 c9 x w4 q ⟨j, rfl, hjq, hS⟩
        refine sel_of (fun hd => ?_) (fun hd => ?_)
        · have hj : j < n5 := by have := of_decide_eq_true hd; omega
          have hE := St.inS hS 2 rfl
          obtain ⟨b2, o2, rfl, hc2⟩ := hE.2 (by omega)
          obtain ⟨d1, d2⟩ := hc2 j hj
          have hs := take_snoc se0 l j (by omega)
          have hfl : ((l.take j).filter fun x => decide (x.1 < key / 4)).length ≤ 1000000 := by
            refine Nat.le_trans (List.length_filter_le _ _) ?_
            rw [List.length_take]; omega
          rw [inc j n5 (by omega) (by omega)]
          refine ⟨by omega, by omega, needPtr_of rfl ⟨_, by rw [Int.toNat_natCast]; exact d1, _, (hS.blk 1 rfl).cell rfl, sel_of (fun hx => ⟨by omega, by omega, needPtr_of rfl ⟨_, by rw [Int.toNat_natCast]; exact d1, _, by rw [Int.toNat_natCast]; exact d2, ?_⟩⟩) (fun hx => ?_)⟩⟩
          · have hx := of_decide_eq_true hx
            obtain ⟨A', n', c', w5, r5, hS5⟩ := appS hS.drew 0 rfl (l.getD j se0) hfl
            refine ⟨_, _, _, w5, r5, rfl, q - 1, by omega, j + 1, rfl, by omega, ?_⟩
            rw [hs, List.filter_append, List.filter_cons, if_pos (decide_eq_true hx), List.filter_nil]
            exact hS5
          · have hx := of_decide_eq_false hx
            refine ⟨rfl, q - 1, by omega, j + 1, rfl, by omega, ?_⟩
            rw [hs, List.filter_append, List.filter_cons, if_neg (by simpa using hx), List.filter_nil, List.append_nil]
            exact hS.drew
        · have hj : j = n5 := by have := of_decide_eq_false hd; omega
          rw [List.take_of_length_le (by omega)] at hS
          have hfl : (l.filter fun x => decide (x.1 < key / 4)).length ≤ 4096 := by
            refine Nat.le_trans (List.length_filter_le _ _) ?_
            omega
          obtain ⟨A', n', c', w5, r5, hS5⟩ := appS hS 0 rfl (key / 4, num) (by omega)
          refine ⟨_, (hS.blk 1 rfl).cell rfl, _, (hS.blk 1 rfl).cell rfl, _, _, _, w5, r5, fun A9 n9 c9 x w' q => ∃ j : Nat, x = (j : Int) ∧ j + q = n5 ∧ St S w0 w' (sesR (.slice A9 n9 c9) ((l.filter fun x => decide (x.1 < key / 4)) ++ [(key / 4, num)] ++ (l.take j).filter fun x => decide (key / 4 ≤ x.1)) :: Chunk.blk br #[.int .i64 (key / 4), .int .i64 num] 104 :: sesR (.slice A5 n5 c5) l :: K), ⟨n5, 0, rfl, by omega, by simpa using hS5⟩, ?_⟩
          clear hS hS5 r5
          rintro d A9 n9 c9 x w6 q ⟨j, rfl, hjq, hS⟩
          refine sel_of (fun hd => ?_) (fun hd => ?_)
          · have hj : j < n5 := by have := of_decide_eq_true hd; omega
            have hE := St.inS hS 2 rfl
            obtain ⟨b2, o2, rfl, hc2⟩ := hE.2 (by omega)
            obtain ⟨d1, d2⟩ := hc2 j hj
            have hs := take_snoc se0 l j (by omega)
            have hfl2 : ((l.take j).filter fun x => decide (key / 4 ≤ x.1)).length ≤ 4096 := by
              refine Nat.le_trans (List.length_filter_le _ _) ?_
              rw [List.length_take]; omega
            rw [inc j n5 (by omega) (by omega)]
            refine ⟨by omega, by omega, needPtr_of rfl ⟨_, by rw [Int.toNat_natCast]; exact d1, _, (hS.blk 1 rfl).cell rfl, sel_of (fun hx => ⟨by omega, by omega, needPtr_of rfl ⟨_, by rw [Int.toNat_natCast]; exact d1, _, by rw [Int.toNat_natCast]; exact d2, ?_⟩⟩) (fun hx => ?_)⟩⟩
            · have hx := of_decide_eq_true hx
              obtain ⟨A', n', c', w7, r7, hS7⟩ := appS hS.drew 0 rfl (l.getD j se0) (by simp only [List.length_append, List.length_cons, List.length_nil]; omega)
              refine ⟨_, _, _, w7, r7, rfl, q - 1, by omega, j + 1, rfl, by omega, ?_⟩
              rw [hs, List.filter_append, List.filter_cons, if_pos (decide_eq_true hx), List.filter_nil, ← List.append_assoc]
              exact hS7
            · have hx := of_decide_eq_false hx
              refine ⟨rfl, q - 1, by omega, j + 1, rfl, by omega, ?_⟩
              rw [hs, List.filter_append, List.filter_cons, if_neg (by simpa using hx), List.filter_nil, List.append_nil]
              exact hS.drew
          · have hj : j = n5 := by have := of_decide_eq_false hd; omega
            rw [List.take_of_length_le (by omega)] at hS
            refine ⟨rfl, r - 1, by omega, i + 1, rfl, by omega, ?_⟩
            rw [hsn]
            exact (hS.swap 0 2 rfl rfl).tail.tail
    · have hi : i = t := by have := of_decide_eq_false hd; omega
      subst hi
      exact ⟨(A5, n5, c5), rfl, hS⟩
  · rintro e w' ⟨v, rfl, X, rfl, h⟩; exact ⟨X, rfl, h⟩
theorem pmaskR {w : World} {A : Option Addr} {n c : Nat} {W : List Int} {t : Nat} (hW : InW w A n W) (ht : W.getD 1 0 = (t : Int)) (htb : t ≤ 4096) (hb : 0 ≤ W.getD 2 0 ∧ W.getD 2 0 ≤ 64 ∧ 0 ≤ W.getD 3 0 ∧ W.getD 3 0 ≤ 64) (hlen : (n : Int) = 4 + 2 * t + W.getD 2 0 * W.getD 3 0) {x y : Int} (hx : 1 ≤ x ∧ x ≤ W.getD 2 0) (hy : 1 ≤ y ∧ y ≤ W.getD 3 0) :
    Calls Try.prog 63 #[.slice A n c, .int .i64 x, .int .i64 y] w fun e w' => e = .returned (.int .i64 (maskP W t (W.getD 3 0) x y)) ∧ Fr [] w w' := by
  refine Calls.mono (f63.calls (R := fun v w' => v = .int .i64 (maskP W t (W.getD 3 0) x y) ∧ Fr [] w w') ?_) ?_
  · dsimp only [f63.VC]
    have hP1 : W.getD 2 0 * W.getD 3 0 ≤ 64 * 64 := Int.mul_le_mul hb.2.1 hb.2.2.2 hb.2.2.1 (by decide)
    have hpm : 0 ≤ (x - 1) * W.getD 3 0 := Int.mul_nonneg (by omega) hb.2.2.1
    have hpm2 : (x - 1) * W.getD 3 0 ≤ (W.getD 2 0 - 1) * W.getD 3 0 := Int.mul_le_mul_of_nonneg_right (by omega) hb.2.2.1
    have hpm3 : (W.getD 2 0 - 1) * W.getD 3 0 = W.getD 2 0 * W.getD 3 0 - W.getD 3 0 := by rw [Int.sub_mul]; omega
    have hmp : maskP W t (W.getD 3 0) x y = W.getD (4 + 2 * (t : Int) + (x - 1) * W.getD 3 0 + (y - 1)).toNat 0 := rfl
    have hb1 : 0 ≤ 4 + 2 * (t : Int) + (x - 1) * W.getD 3 0 + (y - 1) := by omega
    have hb2 : 4 + 2 * (t : Int) + (x - 1) * W.getD 3 0 + (y - 1) < (n : Int) := by omega
    obtain ⟨b, o, rfl, hc⟩ := hW.2 (by omega)
    have c1 := hc 1 (by omega)
    have c3 := hc 3 (by omega)
    rw [ht] at c1
    have eI : IntKind.i64.wrap (IntKind.i64.wrap (IntKind.i64.wrap (4 + IntKind.i64.wrap (2 * (t : Int))) + IntKind.i64.wrap (IntKind.i64.wrap (x - 1) * W.getD 3 0)) + IntKind.i64.wrap (y - 1)) = 4 + 2 * (t : Int) + (x - 1) * W.getD 3 0 + (y - 1) := by
      rw [i64_id (x := x - 1) (by omega) (by omega)]
      generalize (x - 1) * W.getD 3 0 = p at *
      generalize W.getD 2 0 * W.getD 3 0 = pp at *
      rw [i64_id (x := 2 * _) (by omega) (by omega), i64_id (x := p) (by omega) (by omega), i64_id (x := 4 + _) (by omega) (by omega), i64_id (x := _ + p) (by omega) (by omega), i64_id (x := y - 1) (by omega) (by omega), i64_id (by omega) (by omega)]
    refine ⟨by omega, by omega, needPtr_of rfl ⟨by omega, by omega, needPtr_of rfl ⟨_, c1, _, c3, ?_⟩⟩⟩
    rw [eI, hmp]
    refine ⟨hb1, hb2, needPtr_of rfl ⟨_, by rw [Nat.mul_one]; exact hc _ (by omega), rfl, (Fr.refl [] w).drew⟩⟩
  · rintro e w' ⟨v, rfl, rfl, h⟩; exact ⟨rfl, h⟩
end PG
end Go.Proofs.Ytjmlfknogjaemaa
/- Page: the document's Read, its parts: named, seated, spans. -/
set_option linter.unusedVariables false
set_option linter.unusedSimpArgs false
set_option maxRecDepth 10000
namespace Go.Proofs.Ytjmlfknogjaemaa
open Go Go.Proofs.Ytjmlfknogjaemaa.Vc
namespace PG
open Vc.PG NI
theorem rAtE0 {w : World} {x : Nat} {l : List ByteArray} (h : RefAt w x l) (hl : l.length ≤ 1048576) (n : Int) : Calls Try.prog 61 #[.pointer (some ⟨x, 0, none⟩), .int .i64 n] w fun e w' => e = .returned (.tuple #[.string (thing l n).1, .bool (thing l n).2]) ∧ Fr [] w w' := by
  obtain ⟨F, hF⟩ := h
  obtain ⟨y, hS⟩ := openX (St.start1 hF)
  have hn := hS.slLen 1 rfl
  rw [List.length_map] at hn
  refine Calls.mono (f61.calls (R := fun v w' => v = .tuple #[.string (thing l n).1, .bool (thing l n).2] ∧ w' = w) ?_) ?_
  · dsimp only [f61.VC]
    refine sel_of (fun h1 => ?_) (fun h1 => ⟨_, _, _, (hS.blk 0 rfl).cell rfl, sel_of (fun h2 => ?_) (fun h2 => ?_)⟩)
    · have h1 : n < 1 := of_decide_eq_true h1
      exact ⟨by unfold thing; rw [if_pos (.inl h1)], rfl⟩
    · have h2 : (y.2.1 : Int) < n := of_decide_eq_true h2
      exact ⟨by unfold thing; rw [if_pos (.inr (by omega))], rfl⟩
    · have h1 : ¬ n < 1 := of_decide_eq_false h1
      have h2 : ¬ (y.2.1 : Int) < n := of_decide_eq_false h2
      have e : IntKind.i64.wrap (n - 1) = n - 1 := i64_id (by omega) (by omega)
      rw [e]
      have hj : (n - 1).toNat < l.length := by omega
      have e2 : thing l n = (l.getD (n - 1).toNat ⟨#[]⟩, true) := by unfold thing; rw [if_neg (by omega)]
      have hb1 : (0 : Int) ≤ n - 1 := by omega
      have hb2 : n - 1 < (y.2.1 : Int) := by omega
      generalize (n - 1).toNat = q at *
      obtain ⟨_, g, hg, hc⟩ := textAt hS 1 rfl hj
      exact ⟨_, _, _, (hS.blk 0 rfl).cell rfl, hb1, hb2, needPtr_of hg ⟨_, hc, by rw [e2], rfl⟩⟩
  · rintro e w' ⟨v, rfl, rfl, rfl⟩; exact ⟨rfl, Fr.refl _ _⟩
theorem namedStep_nodup (l : List ByteArray) (t : List ByteArray × List Int × List Int) (p : Se) (h : t.2.2.Nodup) : (namedStep l t p).2.2.Nodup := by
  unfold namedStep
  by_cases hx : idxI t.2.2 p.2 < 0
  · rw [if_pos hx]
    have hm : ¬ p.2 ∈ t.2.2 := by
      intro hm
      have := (memB_iff _ _).2 hm
      rw [← idxI_mem] at this
      have := of_decide_eq_true this
      omega
    rw [List.nodup_append]
    exact ⟨h, by simp, fun a ha b hb => by simp at hb; subst hb; rintro rfl; exact hm ha⟩
  · rw [if_neg hx]; exact h
theorem namedGo_nodup (l : List ByteArray) : ∀ (s : List Se) (t : List ByteArray × List Int × List Int), t.2.2.Nodup → (s.foldl (namedStep l) t).2.2.Nodup
  | [], t, h => h
  | p :: s, t, h => namedGo_nodup l s _ (namedStep_nodup l t p h)
theorem namedP_nodup (l : List ByteArray) (s : List Se) : (namedP l s).2.2.Nodup := namedGo_nodup l s _ (by simp)
theorem namedR {S : List Nat} {w0 w : World} {K : List Chunk} (h : St S w0 w K) (j : Nat) {A : Option Addr} {n c : Nat} {a : List Se} (hj : K[j]? = some (sesR (.slice A n c) a)) {x : Nat} {l : List ByteArray} (hX : ∀ w', Fr S w0 w' → RefAt w' x l) (hl : l.length ≤ 1048576) (hn : n ≤ 1000000) :
    Calls Try.prog 62 #[.slice A n c, .pointer (some ⟨x, 0, none⟩)] w fun e w' => ∃ X Y Z : Sl, e = .returned (.tuple #[X.v, Y.v, Z.v]) ∧ St S w0 w' (txs X.v (namedP l a).1 :: ints Y.v (namedP l a).2.1 :: ints Z.v (namedP l a).2.2 :: K) := by
  refine Calls.mono (f62.calls (R := fun v w' => ∃ X Y Z : Sl, v = .tuple #[X.v, Y.v, Z.v] ∧ St S w0 w' (txs X.v (namedP l a).1 :: ints Y.v (namedP l a).2.1 :: ints Z.v (namedP l a).2.2 :: K)) ?_) ?_
  · dsimp only [f62.VC]
    have hal : n = a.length := h.lrLen j hj
    refine ⟨fun A7 n7 c7 A8 n8 c8 A9 n9 c9 z w' r => ∃ i : Nat, z = (i : Int) ∧ i + r = n ∧ St S w0 w' (txs (.slice A7 n7 c7) (namedP l (a.take i)).1 :: ints (.slice A8 n8 c8) (namedP l (a.take i)).2.1 :: ints (.slice A9 n9 c9) (namedP l (a.take i)).2.2 :: K), ⟨n, 0, rfl, by omega, ((h.nil 3 1).nil 3 1).nil 9 1⟩, ?_⟩
    rintro d A7 n7 c7 A8 n8 c8 A9 n9 c9 z w1 r ⟨i, rfl, hir, hS⟩
    refine sel_of (fun hd => ?_) (fun hd => ?_)
    · have hi : i < n := by have := of_decide_eq_true hd; omega
      have hE : ∀ w', St S w0 w' (txs (.slice A7 n7 c7) (namedP l (a.take i)).1 :: ints (.slice A8 n8 c8) (namedP l (a.take i)).2.1 :: ints (.slice A9 n9 c9) (namedP l (a.take i)).2.2 :: K) → InE w' A n a := fun w' h' => St.inS h' (j + 3) (by simpa using hj)
      have hE1 := hE w1 hS
      obtain ⟨b, o, rfl, hc⟩ := hE1.2 (by omega)
      obtain ⟨c1, c2⟩ := hc i hi
      have hs := take_snoc se0 a i (by omega)
      have hlens := namedP_len l (a.take i)
      rw [List.length_take] at hlens
      have hnd := namedP_nodup l (a.take i)
      have hstep := namedP_snoc l (a.take i) (a.getD i se0)
      rw [← hs] at hstep
      generalize namedP l (a.take i) = t at *
      refine ⟨by omega, by omega, needPtr_of rfl ⟨_, by rw [Int.toNat_natCast]; exact c1, ?_⟩⟩
      refine Calls.mono (hS.step0 (rAtE0 (hX _ hS.frame) hl _)) ?_
      rintro _ w2 ⟨rfl, hS3⟩
      obtain ⟨A', n', c', w3, r3, hS4⟩ := appX hS3 0 rfl (thing l (a.getD i se0).1).1 (by omega)
      have hS4 : St S w0 w3 (txs (.slice A' n' c') (t.1 ++ [(thing l (a.getD i se0).1).1]) :: ints (.slice A8 n8 c8) t.2.1 :: ints (.slice A9 n9 c9) t.2.2 :: K) := hS4
      have h9 := hS4.lsLen 2 rfl
      have er : IntKind.i64.wrap ((i : Int) + 1) = ((i + 1 : Nat) : Int) := inc i n (by omega) (by omega)
      refine ⟨_, _, rfl, _, _, _, w3, r3, fun y z w' q => ∃ k : Nat, z = (k : Int) ∧ k + q = n9 ∧ St S w0 w' (txs (.slice A' n' c') (t.1 ++ [(thing l (a.getD i se0).1).1]) :: ints (.slice A8 n8 c8) t.2.1 :: ints (.slice A9 n9 c9) t.2.2 :: K) ∧ ((y = 0 ∧ ∀ u, u < k → t.2.2.getD u 0 ≠ (a.getD i se0).2) ∨ ∃ u : Nat, u < k ∧ t.2.2.getD u 0 = (a.getD i se0).2 ∧ y = ((u + 1 : Nat) : Int)), ⟨n9, 0, rfl, by omega, hS4, .inl ⟨rfl, fun u hu => by omega⟩⟩, ?_⟩
      clear hS hS3 hE1 r3
      rintro d y z w5 q ⟨k, rfl, hkq, hS5, hy⟩
      refine sel_of (fun hd => ?_) (fun hd => ?_)
      · have hk : k < n9 := by have := of_decide_eq_true hd; omega
        have hO := St.inI hS5 2 rfl
        have hE5 : InE w5 (some ⟨b, o, none⟩) n a := St.inS hS5 (j + 3) (by simpa using hj)
        obtain ⟨b2, o2, rfl, hc2⟩ := hO.2 (by omega)
        obtain ⟨b3, o3, hb3, hc3⟩ := hE5.2 (by omega)
        simp only [Option.some.injEq, Addr.mk.injEq, and_true] at hb3
        obtain ⟨rfl, rfl⟩ := hb3
        rw [inc k 1000000 (by omega) (by omega)]
        refine ⟨by omega, by omega, needPtr_of rfl ⟨by omega, by omega, needPtr_of rfl ⟨_, by rw [Int.toNat_natCast, Nat.mul_one]; exact hc2 k hk, _, by rw [Int.toNat_natCast]; exact (hc3 i hi).2, sel_of (fun hx => ?_) (fun hx => ?_)⟩⟩⟩
        · have hx : t.2.2.getD k 0 = (a.getD i se0).2 := eq_of_beq hx
          exact ⟨rfl, q - 1, by omega, k + 1, rfl, by omega, hS5.drew, .inr ⟨k, by omega, hx, rfl⟩⟩
        · have hx : t.2.2.getD k 0 ≠ (a.getD i se0).2 := beq_eq_false_iff_ne.1 hx
          refine ⟨rfl, q - 1, by omega, k + 1, rfl, by omega, hS5.drew, ?_⟩
          rcases hy with ⟨hy, hno⟩ | ⟨u, hu, h1, h2⟩
          · refine .inl ⟨hy, fun u hu => ?_⟩
            rcases Nat.lt_or_ge u k with h1 | h1
            · exact hno u h1
            · have : u = k := by omega
              subst this; exact hx
          · exact .inr ⟨u, by omega, h1, h2⟩
      · have hk : k = n9 := by have := of_decide_eq_false hd; omega
        have hE5 : InE w5 (some ⟨b, o, none⟩) n a := St.inS hS5 (j + 3) (by simpa using hj)
        obtain ⟨b3, o3, hb3, hc3⟩ := hE5.2 (by omega)
        simp only [Option.some.injEq, Addr.mk.injEq, and_true] at hb3
        obtain ⟨rfl, rfl⟩ := hb3
        rw [er]
        refine sel_of (fun hx => ?_) (fun hx => ?_)
        · have hx : y = 0 := eq_of_beq hx
          have hno : ∀ u, u < n9 → t.2.2.getD u 0 ≠ (a.getD i se0).2 := by
            rcases hy with ⟨_, hno⟩ | ⟨u, _, _, h2⟩
            · exact fun u hu => hno u (by omega)
            · omega
          have hidx : idxI t.2.2 (a.getD i se0).2 = -1 := idxI_none 0 fun u hu => hno u (by omega)
          obtain ⟨A5, n5, c5, w6, r6, hS6⟩ := appI hS5 2 rfl (a.getD i se0).2 (by omega)
          have hn5 := hS6.lsLen 2 rfl
          rw [List.length_append, List.length_singleton] at hn5
          subst hn5
          obtain ⟨A6, n6, c6, w7, r7, hS7⟩ := appI hS6 1 rfl ((t.2.2.length + 1 : Nat) : Int) (by omega)
          refine ⟨by omega, by omega, needPtr_of rfl ⟨_, by rw [Int.toNat_natCast]; exact (hc3 i hi).2, _, _, _, w6, r6, ?_⟩⟩
          refine ⟨_, _, _, w7, r7, rfl, r - 1, by omega, i + 1, rfl, by omega, ?_⟩
          rw [hstep]
          unfold namedStep
          rw [if_pos (by omega)]
          exact hS7
        · have hx : y ≠ 0 := beq_eq_false_iff_ne.1 hx
          rcases hy with ⟨hy, _⟩ | ⟨u, hu, h1, rfl⟩
          · exact absurd hy hx
          have hidx : idxI t.2.2 (a.getD i se0).2 = (u : Int) := by
            refine idxI_some 0 (by omega) (fun v hv hve => ?_) h1
            exact (nodup_getD 0 t.2.2).1 hnd v u hv (by omega) (hve.trans h1.symm)
          obtain ⟨A6, n6, c6, w7, r7, hS7⟩ := appI hS5 1 rfl (idxI t.2.2 (a.getD i se0).2 + 1) (by omega)
          rw [hidx] at r7
          refine ⟨_, _, _, w7, r7, rfl, r - 1, by omega, i + 1, rfl, by omega, ?_⟩
          rw [hstep]
          unfold namedStep
          rw [if_neg (by omega)]
          exact hS7
    · have hi : i = n := by have := of_decide_eq_false hd; omega
      rw [List.take_of_length_le (by omega)] at hS
      exact ⟨(A7, n7, c7), (A8, n8, c8), (A9, n9, c9), rfl, hS⟩
  · rintro e w' ⟨v, rfl, X, Y, Z, rfl, h⟩; exact ⟨X, Y, Z, rfl, h⟩
theorem okAt_eq (W : List Int) (t : Nat) (l : List ByteArray) (i : Nat) : okAt W t l i = ((decide (W.getD (4 + 2 * i) 0 = 0) && decide (W.getD (4 + 2 * i + 1) 0 = 0)) || (decide (0 < W.getD (4 + 2 * i) 0) && decide (W.getD (4 + 2 * i) 0 % 4 ≠ 0) && (thing l (W.getD (4 + 2 * i) 0 / 4)).2 && decide ((pgHash (W.getD (4 + 2 * i) 0) t + (lookP W (W.getD (4 + 2 * i) 0 / 4) (W.getD (4 + 2 * i) 0 % 4)).2 - 1) % t = i))) := rfl
theorem seatedR {w : World} {A : Option Addr} {n c : Nat} {W : List Int} {x : Nat} {l : List ByteArray} {t : Nat} (hW0 : InW w A n W) (hX0 : RefAt w x l) (hl : l.length ≤ 1048576) (hn : n ≤ 1000000000)
    (hr : ∀ i, W.getD i 0 ≤ 9223372036854775807) (ht : tabP W = (t : Int)) (h0 : 0 < t) :
    Calls Try.prog 86 #[.slice A n c, .pointer (some ⟨x, 0, none⟩)] w fun e w' => e = .returned (.bool (seatedB W t l)) ∧ Fr [] w w' := by
  have hT := tabP_range W
  have hl2 : n = W.length := hW0.1
  rw [ht] at hT
  have hT4 := hT.2.2 (by omega)
  refine Calls.mono (f86.calls (R := fun v w' => v = .bool (seatedB W t l) ∧ Fr [] w w') ?_) ?_
  · dsimp only [f86.VC]
    refine ⟨fun z w' r => Fr [] w w' ∧ ∃ i : Nat, z = (i : Int) ∧ i + r = t ∧ (∀ j, j < i → okAt W t l j = true), ⟨t, Fr.refl _ _, 0, rfl, by omega, fun j hj => by omega⟩, ?_⟩
    rintro d z w1 r ⟨hf, i, rfl, hir, hok⟩
    obtain ⟨b, o, rfl, hc0⟩ := hW0.2 (by omega)
    have hc : ∀ w', Fr [] w w' → ∀ q, q < n → w'.cell? ⟨b, o + q, none⟩ = some (.int .i64 (W.getD q 0)) := fun w' h q hq => h.cell (hc0 q hq)
    have hc1 : ∀ w', Fr [] w w' → w'.cell? ⟨b, o + 1, none⟩ = some (.int .i64 (t : Int)) := fun w' h => by rw [← hT4.2.2.1]; exact hc w' h 1 (by omega)
    refine ⟨by omega, by omega, needPtr_of rfl ⟨_, hc1 w1 hf, sel_of (fun hd => ?_) (fun hd => ?_)⟩⟩
    · have hi : i < t := by have := of_decide_eq_true hd; omega
      have hno : okAt W t l i = false → seatedB W t l = false := by
        intro hh
        unfold seatedB
        rw [Bool.eq_false_iff]
        intro hall
        rw [List.all_eq_true] at hall
        rw [hall i (List.mem_range.2 hi)] at hh
        cases hh
      have e1 : IntKind.i64.wrap (4 + IntKind.i64.wrap (2 * (i : Int))) = ((4 + 2 * i : Nat) : Int) := by rw [i64_id (x := 2 * _) (by omega) (by omega), i64_id (by omega) (by omega)]; omega
      have e2 : IntKind.i64.wrap (5 + IntKind.i64.wrap (2 * (i : Int))) = ((4 + 2 * i + 1 : Nat) : Int) := by rw [i64_id (x := 2 * _) (by omega) (by omega), i64_id (by omega) (by omega)]; omega
      have er : IntKind.i64.wrap ((i : Int) + 1) = ((i + 1 : Nat) : Int) := inc i t (by omega) (by omega)
      rw [e1, e2, er]
      have hk1 : 4 + 2 * i < n := by omega
      have hk2 : 4 + 2 * i + 1 < n := by omega
      have hkr := hr (4 + 2 * i)
      have okE := okAt_eq W t l i
      have ck1 := hc w1 hf _ hk1
      have ck2 := hc w1 hf _ hk2
      generalize W.getD (4 + 2 * i) 0 = key at *
      generalize W.getD (4 + 2 * i + 1) 0 = num at *
      have hbad : okAt W t l i = false → ∀ w', Fr [] w w' → (Value.bool false) = .bool (seatedB W t l) ∧ Fr [] w w' := fun hh w' hf' => ⟨by rw [hno hh], hf'⟩
      have hokn : okAt W t l i = true → ∀ j, j < i + 1 → okAt W t l j = true := by
        intro hh j hj
        rcases Nat.lt_or_ge j i with h1 | h1
        · exact hok j h1
        · have : j = i := by omega
          subst this; exact hh
      have hneg : ¬ (key = 0 ∧ num = 0) → key < 0 ∨ key % 4 = 0 → okAt W t l i = false := by
        intro h1 h2
        rw [okE, Bool.or_eq_false_iff]
        refine ⟨?_, ?_⟩
        · rw [Bool.and_eq_false_iff]
          by_cases hh : key = 0
          · right; exact decide_eq_false fun hn => h1 ⟨hh, hn⟩
          · left; exact decide_eq_false hh
        · rcases h2 with h2 | h2
          · rw [decide_eq_false (show ¬ 0 < key by omega)]; simp
          · rw [h2]; simp
      -- what follows a key that may stand there
      have core : ∀ w', Fr [] w w' → 0 < key → key % 4 ≠ 0 → True := fun _ _ _ _ => trivial
      refine ⟨by omega, by omega, needPtr_of rfl ⟨_, by rw [Int.toNat_natCast, Nat.mul_one]; exact ck1, sel_of (fun hz => ⟨by omega, by omega, needPtr_of rfl ⟨_, by rw [Int.toNat_natCast, Nat.mul_one]; exact ck2, sel_of (fun hz2 => ?_) (fun hz2 => sel_of (fun hz3 => ?_) (fun hz3 => ⟨by decide, sel_of (fun hz4 => ?_) (fun hz4 => ?_)⟩))⟩⟩) (fun hz => sel_of (fun hz3 => ?_) (fun hz3 => ⟨by decide, sel_of (fun hz4 => ?_) (fun hz4 => ?_)⟩))⟩⟩
      · have hz : key = 0 := eq_of_beq hz
        have hz2 : num = 0 := eq_of_beq hz2
        refine ⟨rfl, r - 1, by omega, hf, i + 1, rfl, by omega, hokn ?_⟩
        rw [okE, hz, hz2]; rfl
      · have hz : key = 0 := eq_of_beq hz
        have hz3 := of_decide_eq_true hz3
        omega
      · have hz : key = 0 := eq_of_beq hz
        have hz2 : num ≠ 0 := beq_eq_false_iff_ne.1 hz2
        exact hbad (hneg (by omega) (.inr (by omega))) _ hf
      · have hz : key = 0 := eq_of_beq hz
        subst hz
        exact absurd hz4 (by decide)
      · have hz : key ≠ 0 := beq_eq_false_iff_ne.1 hz
        have hz3 := of_decide_eq_true hz3
        exact hbad (hneg (by omega) (.inl hz3)) _ hf
      · have hz : key ≠ 0 := beq_eq_false_iff_ne.1 hz
        have hz3 := of_decide_eq_false hz3
        have hz4 : Int.tmod key 4 = 0 := eq_of_beq hz4
        rw [tmod_pos (by omega)] at hz4
        exact hbad (hneg (by omega) (.inr hz4)) _ hf
      · have hz : key ≠ 0 := beq_eq_false_iff_ne.1 hz
        have hz3 := of_decide_eq_false hz3
        have hz4 : Int.tmod key 4 ≠ 0 := beq_eq_false_iff_ne.1 hz4
        rw [tmod_pos (by omega)] at hz4
        have et : Int.tmod key 4 = key % 4 := tmod_pos (by omega)
        have ed : Int.tdiv key 4 = key / 4 := Int.tdiv_eq_ediv_of_nonneg (by omega)
        rw [et, ed, i64_id (x := key / 4) (by omega) (by omega), i8k (by omega)]
        rw [decide_eq_false hz, decide_eq_true (show 0 < key by omega), decide_eq_true hz4, Bool.false_and, Bool.false_or, Bool.true_and, Bool.true_and] at okE
        refine ⟨by decide, Calls.mono (rAtE0 (hX0.fr hf) hl _) ?_⟩
        rintro _ w2 ⟨rfl, f2⟩
        have hf2 := hf.trans f2
        refine ⟨_, _, rfl, by decide, by decide, Calls.mono (lookR (hW0.fr hf2) hn _ _) ?_⟩
        rintro _ w3 ⟨rfl, f3⟩
        have hf3 := hf2.trans f3
        have hlr := lookP_range ht h0 (s := key / 4) (k := key % 4) (by omega)
        have hh := pgHash_range key (size := (t : Int))
        have hp2 : ∀ w', Calls Try.prog 12 #[.int .i64 key, .int .i64 (t : Int)] w' fun e w'' => e = .returned (.int .i64 (pgHash key t)) ∧ Fr [] w' w'' := fun w' => hashR w' key t (by omega)
        generalize pgHash key t = hp at *
        generalize (lookP W (key / 4) (key % 4)).2 = lp at *
        have fin : ∀ w', Fr [] w w' → sel (!(thing l (key / 4)).2) ((Value.bool false) = .bool (seatedB W t l) ∧ Fr [] w w') (
            sel ((Int.tmod (IntKind.i64.wrap (IntKind.i64.wrap (hp + (lp : Int)) - 1)) (t : Int) : Int) != (i : Int)) ((Value.bool false) = .bool (seatedB W t l) ∧ Fr [] w w') (
              ([.slice (some ⟨b, o, none⟩) n c, .pointer (some ⟨x, 0, none⟩)] : List Value) = ([.slice (some ⟨b, o, none⟩) n c, .pointer (some ⟨x, 0, none⟩)] : List Value) ∧ ∃ m, m < r ∧ (Fr [] w w' ∧ ∃ i' : Nat, ((i + 1 : Nat) : Int) = (i' : Int) ∧ i' + m = t ∧ ∀ j, j < i' → okAt W t l j = true))) := by
          intro w' hf'
          rw [i64_id (x := hp + (lp : Int)) (by omega) (by omega), i64_id (x := hp + (lp : Int) - 1) (by omega) (by omega), tmod_pos (by omega)]
          refine sel_of (fun hb => hbad ?_ _ hf') (fun hb => sel_of (fun hm => hbad ?_ _ hf') (fun hm => ?_))
          · have hb : (thing l (key / 4)).2 = false := by simpa using hb
            rw [okE, hb]; rfl
          · have hm : (hp + (lp : Int) - 1) % (t : Int) ≠ i := by simpa using hm
            rw [okE, decide_eq_false hm, Bool.and_false]
          · have hb : (thing l (key / 4)).2 = true := by simpa using hb
            have hm : (hp + (lp : Int) - 1) % (t : Int) = i := by simpa using hm
            refine ⟨rfl, r - 1, by omega, hf', i + 1, rfl, by omega, hokn ?_⟩
            rw [okE, hb, decide_eq_true hm]; rfl
        refine ⟨_, _, rfl, by omega, by omega, needPtr_of rfl ⟨by omega, by omega, needPtr_of rfl ⟨_, hc1 w3 hf3, ?_, ?_, trivial⟩⟩⟩
        · refine Calls.mono (hp2 w3.drew) ?_
          rintro _ w4 ⟨rfl, f4⟩
          have hf4 := hf3.drew.trans f4
          exact ⟨_, rfl, _, hc1 w4 hf4, by omega, fin w4 hf4⟩
        · refine ⟨_, hc1 w3 hf3, Calls.mono (hp2 w3.drew) ?_⟩
          rintro _ w4 ⟨rfl, f4⟩
          have hf4 := hf3.drew.trans f4
          exact ⟨_, rfl, by omega, fin w4 hf4⟩
    · have hi : i = t := by have := of_decide_eq_false hd; omega
      subst hi
      refine ⟨?_, hf⟩
      have : seatedB W i l = true := by
        unfold seatedB
        rw [List.all_eq_true]
        exact fun j hj => hok j (List.mem_range.1 hj)
      rw [this]
  · rintro e w' ⟨v, rfl, rfl, h⟩; exact ⟨rfl, h⟩
end PG
end Go.Proofs.Ytjmlfknogjaemaa
