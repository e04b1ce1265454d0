/- Page: a key is put into a table: the document's and the program's. -/
import Derived.Test.YtjmlfknogjaemaaM20
import Derived.Test.YtjmlfknogjaemaaM4
import Derived.Test.YtjmlfknogjaemaaProg
import Derived.KernelRfl
set_option linter.unusedVariables false
set_option linter.unusedSimpArgs false
set_option maxRecDepth 10000
namespace Go.Proofs.Ytjmlfknogjaemaa
open Go Go.Proofs.Ytjmlfknogjaemaa.Vc
namespace PG
open Vc.PG NI
abbrev ints (v : Value) (l : List Int) : Chunk := Chunk.ls encN 3 v l
/-- A search for an empty place goes on. -/
theorem free_step {Z : List Pz} (h : fullN Z < Z.length) {f j r : Nat} (hjr : j + r = Z.length) (hno : ∀ n, n < j → (Z.getD ((f + n) % Z.length) pz0).1 ≠ 0) : 0 < r := by
  obtain ⟨n, hn, he⟩ := empty_of h f
  rcases Nat.eq_zero_or_pos r with h0 | h0
  · exact absurd he (hno n (by omega))
  · exact h0
theorem num_le (l : List ByteArray) (s : ByteArray) : IX.num l s ≤ l.length := by
  unfold IX.num
  cases hx : l.findIdx? (fun x => decide (x = s)) with
  | none => simp
  | some j =>
    obtain ⟨hj, _⟩ := List.findIdx?_eq_some_iff_getElem.mp hx
    exact hj
theorem ofN_le {l : List ByteArray} (h : l.length ≤ 1048576) (s : ByteArray) : IX.ofN l s ≤ 1048576 := by
  have := num_le l s
  unfold IX.ofN
  split
  · split
    · omega
    · omega
  · omega
theorem ens_take {l : List ByteArray} {k : Int} {n : List Int} (hl : l.length = n.length) {i : Nat} (hi : i < l.length) : (ensOf l k n).take (i + 1) = (ensOf l k n).take i ++ [(l.getD i ByteArray.empty, k, n.getD i 0)] := by
  have h1 : i < (ensOf l k n).length := by simp [ensOf]; omega
  rw [List.take_succ_eq_append_getElem h1]
  congr 2
  simp [ensOf, List.getD_eq_getElem?_getD, hi, show i < n.length by omega]
theorem layGo_snoc (es : List En) (e : En) (s : List ByteArray × List Pz) : layGo (es ++ [e]) s = layStep (layGo es s) e := by
  simp [layGo, List.foldl_append]
abbrev pgK (a5 a4 a3 x : Nat) (P : Sl) (t : Nat) (W : List Int) (l : List ByteArray) (L : List Chunk) : List Chunk :=
  Chunk.blk a5 #[P.v] 26 :: ints P.v W :: Chunk.blk a4 #[.int .i64 (t : Int)] 3 :: Chunk.blk a3 #[.pointer (some ⟨x, 0, none⟩)] 30 :: idxC x l :: L
theorem putC {S : List Nat} {w0 w : World} {L : List Chunk} {a5 a4 a3 x t f n c : Nat} {cap : Array Value} {P : Sl} {hd : List Int} {Z : List Pz} {l names : List ByteArray} {nums : List Int} {k : Nat} {A : Option Addr}
    (h : St S w0 w (pgK a5 a4 a3 x P t (pageZ hd Z) l L)) (hhd : hd.length = 4) (hZ : Z.length = t) (hp : powB (t : Int) = true) (ht : t ≤ 512) (hfull : fullN Z + names.length < t) (hl : l.length ≤ 1048576) (hk : 1 ≤ k ∧ k < 4)
    (hT : ∀ w', Fr S w0 w' → InX w' A n names) (hnl : names.length = nums.length)
    (hnum : ∀ w' l' W' i, St S w0 w' (pgK a5 a4 a3 x P t W' l' L) → i < n → callT Try.prog (.func (.func f) #[] cap) #[.int .i64 (i : Int)] w' fun e w'' => e = .returned (.int .i64 (nums.getD i 0)) ∧ w'' = w') :
    Calls Try.prog 49 #[.slice A n c, .int .i64 (k : Int), .func (.func f) #[] cap, .pointer (some ⟨a3, 0, none⟩), .pointer (some ⟨a4, 0, none⟩), .pointer (some ⟨a5, 0, none⟩)] w fun e w' => e = .returned (.tuple #[]) ∧
      St S w0 w' (pgK a5 a4 a3 x P t (pageZ hd (layGo (ensOf names k nums) (l, Z)).2) (layGo (ensOf names k nums) (l, Z)).1 L) := by
  refine Calls.mono (f49.calls (R := fun v w' => v = .tuple #[] ∧ St S w0 w' (pgK a5 a4 a3 x P t (pageZ hd (layGo (ensOf names k nums) (l, Z)).2) (layGo (ensOf names k nums) (l, Z)).1 L)) ?_) ?_
  · dsimp only [f49.VC]
    have hn := (hT w h.frame).1
    refine ⟨fun y w' r => ∃ i : Nat, y = (i : Int) ∧ i + r = n ∧ ∃ li Zi, layGo ((ensOf names k nums).take i) (l, Z) = (li, Zi) ∧ St S w0 w' (pgK a5 a4 a3 x P t (pageZ hd Zi) li L) ∧ Zi.length = t ∧ fullN Zi = fullN Z + i ∧ li.length ≤ 1048576, ⟨n, 0, rfl, by omega, l, Z, rfl, h, hZ, rfl, hl⟩, ?_⟩
    rintro d y w1 r ⟨i, rfl, hir, li, Zi, hgo, hS, hZi, hfi, hli⟩
    refine sel_of (fun hd' => ?_) (fun hd' => ?_)
    · have hi : i < n := by have := of_decide_eq_true hd'; omega
      have hst := layGo_snoc ((ensOf names k nums).take i) (names.getD i ByteArray.empty, (k : Int), nums.getD i 0) (l, Z)
      rw [← ens_take hnl (by omega), hgo] at hst
      refine ⟨by omega, by omega, InX.need (hT w1 hS.frame) rfl hi ?_⟩
      generalize names.getD i ByteArray.empty = s at *
      refine ⟨_, (hS.blk 3 rfl).cell rfl, ?_⟩
      refine Calls.mono (NI.of hS 4 rfl hli s) ?_
      rintro _ w2 ⟨rfl, hS⟩
      have hS : St S w0 w2 (pgK a5 a4 a3 x P t (pageZ hd Zi) (IX.of li s) L) := hS
      have hof := ofN_le hli s
      have hkey := key_or hof hk.2
      refine ⟨_, rfl, by omega, ?_⟩
      rw [hkey]
      unfold layStep at hst
      dsimp only at hst
      have hkz : ((IX.ofN li s * 4 + k : Nat) : Int) = (IX.ofN li s : Int) * 4 + (k : Int) := by omega
      rw [← hkz] at hst
      have hk0 : ((IX.ofN li s * 4 + k : Nat) : Int) ≠ 0 := by omega
      generalize ((IX.ofN li s * 4 + k : Nat) : Int) = key at *
      refine ⟨_, (hS.blk 2 rfl).cell rfl, ?_⟩
      refine Calls.mono (hashP w2 key t (by omega)) ?_
      rintro _ w3 ⟨rfl, hf3⟩
      have hS := hS.go hf3
      have hfl := kfirst_lt key (t := t) (by omega)
      have hfe := kfirst_eq key (t := t)
      have hfz : fullN Zi < Zi.length := by omega
      have hpl : placeZ Zi key = freeAt Zi (kfirst key t) 0 t := by unfold placeZ; rw [hZi]
      obtain ⟨hp1, hp2⟩ := place_empty hfz key
      rw [← hfe]
      generalize kfirst key t = ff at *
      have hPn := hS.lsLen 1 rfl
      rw [pageZ_len hhd, hZi] at hPn
      refine ⟨_, rfl, fun y w' r => w' = w3 ∧ ∃ j : Nat, y = (((ff + j) % t : Nat) : Int) ∧ j + r = t ∧ freeAt Zi ff j r = placeZ Zi key ∧ ∀ n, n < j → (Zi.getD ((ff + n) % t) pz0).1 ≠ 0, ⟨t, rfl, 0, by rw [Nat.add_zero, Nat.mod_eq_of_lt hfl], by omega, hpl.symm, fun n hn => by omega⟩, ?_⟩
      rintro d y w4 q ⟨rfl, j, rfl, hjq, hgo2, hno⟩
      have hq := free_step hfz (f := ff) (j := j) (r := q) (by omega) (by rw [hZi]; exact hno)
      obtain ⟨q, rfl⟩ : ∃ q', q = q' + 1 := ⟨q - 1, by omega⟩
      have hm : (ff + j) % t < t := Nat.mod_lt _ (by omega)
      rw [freeAt, hZi] at hgo2
      obtain ⟨g, hg, hc⟩ := hS.lsGet 0 1 rfl (by omega)
      have hcc := hc _ (show 4 + 2 * ((ff + j) % t) < P.2.1 by omega)
      rw [pageZ_fst hhd (by omega)] at hcc
      have e1 : IntKind.i64.wrap (4 + IntKind.i64.wrap (2 * (((ff + j) % t : Nat) : Int))) = ((4 + 2 * ((ff + j) % t) : Nat) : Int) := by rw [i64_id (x := 2 * _) (by omega) (by omega), i64_id (by omega) (by omega)]; omega
      have e2 : IntKind.i64.wrap (((4 + 2 * ((ff + j) % t) : Nat) : Int) + 1) = ((4 + 2 * ((ff + j) % t) + 1 : Nat) : Int) := by rw [i64_id (by omega) (by omega)]; omega
      rw [e1, e2]
      refine ⟨_, _, _, (hS.blk 0 rfl).cell rfl, by omega, by omega, needPtr_of hg ⟨_, by rw [Nat.mul_one, Int.toNat_natCast, Nat.zero_add]; exact hcc, sel_of (fun hd2 => ?_) (fun hd2 => ?_)⟩⟩
      · have hd2 : (Zi.getD ((ff + j) % t) pz0).1 ≠ 0 := bne_iff_ne.1 hd2
        rw [if_neg hd2] at hgo2
        have e3 : bitsI .and .i64 (IntKind.i64.wrap ((((ff + j) % t : Nat) : Int) + 1)) (IntKind.i64.wrap ((t : Int) - 1)) = (((ff + (j + 1)) % t : Nat) : Int) := by
          rw [i64_id (x := (((ff + j) % t : Nat) : Int) + 1) (by omega) (by omega), i64_id (x := (t : Int) - 1) (by omega) (by omega)]
          have := and_pow (t := t) (a := (ff + j) % t + 1) hp ht (by omega)
          rw [show (((ff + j) % t : Nat) : Int) + 1 = (((ff + j) % t + 1 : Nat) : Int) by omega, this]
          congr 1
          rw [show ff + (j + 1) = ff + j + 1 by omega, Nat.add_mod (ff + j) 1 t, Nat.add_mod ((ff + j) % t) 1 t, Nat.mod_mod]
        refine ⟨_, (hS.blk 2 rfl).cell rfl, ?_⟩
        rw [e3]
        refine ⟨rfl, q, by omega, rfl, j + 1, rfl, by omega, hgo2, fun n hn => ?_⟩
        rcases Nat.lt_or_ge n j with h1 | h1
        · exact hno n h1
        · have : n = j := by omega
          subst this; exact hd2
      · have hd2 : (Zi.getD ((ff + j) % t) pz0).1 = 0 := bne_eq_false_iff_eq.1 hd2
        rw [if_pos hd2] at hgo2
        rw [hgo2] at hm ⊢
        have hfull2 := putZ_full hfz hk0 (nums.getD i 0)
        have hcall := hnum w4.drew _ _ i hS.drew hi
        have hSd := hS.drew
        obtain ⟨g1, hg1, hc1, hS1⟩ := hSd.lsSet 1 rfl (k := 4 + 2 * placeZ Zi key) (by rw [pageZ_len hhd]; omega) key
        obtain ⟨g2, hg2, hc2, hS2⟩ := hS1.lsSet 1 rfl (k := 4 + 2 * placeZ Zi key + 1) (by rw [List.length_set, pageZ_len hhd]; omega) (nums.getD i 0)
        rw [hg1] at hg2
        injection hg2 with hg2
        injection hg2 with hg2 _ _
        subst hg2
        have hS2 : St S w0 (setCs (setCs w4.drew g1 (4 + 2 * placeZ Zi key) [encN key]) g1 (4 + 2 * placeZ Zi key + 1) [encN (nums.getD i 0)]) (pgK a5 a4 a3 x P t (((pageZ hd Zi).set (4 + 2 * placeZ Zi key) key).set (4 + 2 * placeZ Zi key + 1) (nums.getD i 0)) (IX.of li s) L) := hS2
        rw [show ((pageZ hd Zi).set (4 + 2 * placeZ Zi key) key).set (4 + 2 * placeZ Zi key + 1) (nums.getD i 0) = pageZ hd (putZ Zi key (nums.getD i 0)) from pageZ_set hhd Zi (placeZ Zi key) (key, nums.getD i 0)] at hS2
        have e3 : 0 + ((4 + 2 * placeZ Zi key : Nat) : Int).toNat * 1 = 4 + 2 * placeZ Zi key := by rw [Int.toNat_natCast]; omega
        have e4 : 0 + ((4 + 2 * placeZ Zi key + 1 : Nat) : Int).toNat * 1 = 4 + 2 * placeZ Zi key + 1 := by rw [Int.toNat_natCast]; omega
        have e5 := inc i 1000000 (by omega) (by omega)
        have b1 : (0 : Int) ≤ ((4 + 2 * placeZ Zi key : Nat) : Int) := by omega
        have b2 : ((4 + 2 * placeZ Zi key : Nat) : Int) < (P.2.1 : Int) := by omega
        have b3 : (0 : Int) ≤ ((4 + 2 * placeZ Zi key + 1 : Nat) : Int) := by omega
        have b4 : ((4 + 2 * placeZ Zi key + 1 : Nat) : Int) < (P.2.1 : Int) := by omega
        have hfin : ∃ m, m < r ∧ ∃ i' : Nat, IntKind.i64.wrap ((i : Int) + 1) = (i' : Int) ∧ i' + m = n ∧ ∃ li' Zi', layGo ((ensOf names k nums).take i') (l, Z) = (li', Zi') ∧ St S w0 (setCs (setCs w4.drew g1 (4 + 2 * placeZ Zi key) [encN key]) g1 (4 + 2 * placeZ Zi key + 1) [encN (nums.getD i 0)]) (pgK a5 a4 a3 x P t (pageZ hd Zi') li' L) ∧ Zi'.length = t ∧ fullN Zi' = fullN Z + i' ∧ li'.length ≤ 1048576 :=
          ⟨r - 1, by omega, i + 1, e5, by omega, _, _, hst, hS2, by rw [putZ_len, hZi], by omega, of_le hli s⟩
        have hloadP : w4.cell? ⟨a5, 0, none⟩ = some P.v := (hS.blk 0 rfl).cell rfl
        have hloadD : w4.drew.cell? ⟨a5, 0, none⟩ = some P.v := (hSd.blk 0 rfl).cell rfl
        have hload1 : (setCs w4.drew g1 (4 + 2 * placeZ Zi key) [encN key]).cell? ⟨a5, 0, none⟩ = some P.v := (hS1.blk 0 rfl).cell rfl
        repeat' (first
          | exact trivial
          | exact ⟨rfl, hfin⟩
          | refine ⟨_, _, _, hloadP, ?_⟩
          | refine ⟨_, _, _, hloadD, ?_⟩
          | refine ⟨_, _, _, hload1, ?_⟩
          | (refine callT_mono hcall ?_
             rintro _ _ ⟨rfl, rfl⟩
             refine ⟨_, rfl, ?_⟩)
          | refine ⟨b1, b2, needPtr_of hg1 ?_⟩
          | refine ⟨b3, b4, needPtr_of hg1 ?_⟩
          | (rw [e3]; refine ⟨hc1, ?_⟩)
          | (rw [e4]; refine ⟨hc2, ?_⟩)
          | refine And.intro ?_ ?_
          | fail)
    · have hi : i = n := by have := of_decide_eq_false hd'; omega
      rw [List.take_of_length_le (by simp [ensOf]; omega)] at hgo
      rw [hgo]
      exact ⟨rfl, hS⟩
  · rintro e w' ⟨v, rfl, rfl, h⟩; exact ⟨rfl, h⟩
end PG
end Go.Proofs.Ytjmlfknogjaemaa
/- The plain statements of some functions, printed by vcgen.py. -/
set_option maxRecDepth 100000
set_option linter.unusedVariables false
namespace Go.Proofs.Ytjmlfknogjaemaa
open Go Go.Proofs.Ytjmlfknogjaemaa.Vc
theorem W11.mixed : Try.prog.follows .mixedOrders = true := by kernel_rfl
/-- gatehouse/gatehouseref12.Lay -/
def f16.AL : Nat → Option Ann := fun r => match r with | 14 => some ⟨[(14, .int .i64)], [0, 2, 4, 9, 11, 13]⟩ | 19 => some ⟨[(15, .int .i64)], [0, 2, 4, 9, 11, 13]⟩ | 23 => some ⟨[(16, .int .i64)], [0, 2, 4, 9, 11, 13]⟩ | 27 => some ⟨[(17, .int .i64)], [0, 2, 4, 9, 11, 13]⟩ | 32 => some ⟨[(18, .slice), (19, .int .i64)], [4, 9, 11, 13]⟩ | 36 => some ⟨[(18, .slice), (20, .int .i64)], [4, 9, 11]⟩ | 39 => some ⟨[(18, .slice), (21, .int .i64)], [4, 9, 11, 20]⟩ | _ => none
def f16.AC : Nat → Option Ann := fun r => match r with | 10 => some ⟨[], [0, 2, 4]⟩ | 13 => some ⟨[(13, .ptr)], [0, 2, 4, 9, 11]⟩ | 18 => some ⟨[], [0, 2, 4, 9, 11, 13]⟩ | 22 => some ⟨[], [0, 2, 4, 9, 11, 13]⟩ | 26 => some ⟨[], [0, 2, 4, 9, 11, 13]⟩ | 30 => some ⟨[], [0, 4, 9, 11, 13]⟩ | 35 => some ⟨[(18, .slice)], [4, 9, 11]⟩ | _ => none
def f16.VC (xa0 : Int) (Aa1_0 : Option Addr) (na1_0 ca1_0 : Nat) (Aa1_1 : Option Addr) (na1_1 ca1_1 : Nat) (Aa1_2 : Option Addr) (na1_2 ca1_2 : Nat) (Aa1_3 : Option Addr) (na1_3 ca1_3 : Nat) (Aa1_4 : Option Addr) (na1_4 ca1_4 : Nat) (Aa1_5 : Option Addr) (na1_5 ca1_5 : Nat) (a2 : Nat) (w : World) (R : Value → World → Prop) : Prop :=
  let w_1 : World := World.alloc w (.cells #[.slice Aa1_0 na1_0 ca1_0, .slice Aa1_1 na1_1 ca1_1, .slice Aa1_2 na1_2 ca1_2, .slice Aa1_3 na1_3 ca1_3, .slice Aa1_4 na1_4 ca1_4, .slice Aa1_5 na1_5 ca1_5] 29);
  sel (decide ((xa0 : Int) < (1 : Int))) (
  R (.tuple #[.slice none 0 0, .int .i64 3]) w_1) (
  sel (decide ((2147483647 : Int) < (xa0 : Int))) (
  R (.tuple #[.slice none 0 0, .int .i64 3]) w_1) (
  ∃ (A30_0 : Option Addr) (n30_0 c30_0 : Nat),
  w_1.cell? ⟨w.heap.size, 0, none⟩ = some (.slice A30_0 n30_0 c30_0) ∧
  ∃ (A30_1 : Option Addr) (n30_1 c30_1 : Nat),
  w_1.cell? ⟨w.heap.size, 1, none⟩ = some (.slice A30_1 n30_1 c30_1) ∧
  ∃ (A30_2 : Option Addr) (n30_2 c30_2 : Nat),
  w_1.cell? ⟨w.heap.size, 2, none⟩ = some (.slice A30_2 n30_2 c30_2) ∧
  ∃ (A30_3 : Option Addr) (n30_3 c30_3 : Nat),
  w_1.cell? ⟨w.heap.size, 3, none⟩ = some (.slice A30_3 n30_3 c30_3) ∧
  ∃ (A30_4 : Option Addr) (n30_4 c30_4 : Nat),
  w_1.cell? ⟨w.heap.size, 4, none⟩ = some (.slice A30_4 n30_4 c30_4) ∧
  ∃ (A30_5 : Option Addr) (n30_5 c30_5 : Nat),
  w_1.cell? ⟨w.heap.size, 5, none⟩ = some (.slice A30_5 n30_5 c30_5) ∧
  Calls Try.prog 28 #[.agg #[.slice A30_0 n30_0 c30_0, .slice A30_1 n30_1 c30_1, .slice A30_2 n30_2 c30_2, .slice A30_3 n30_3 c30_3, .slice A30_4 n30_4 c30_4, .slice A30_5 n30_5 c30_5]] w_1 fun e_1 w_2 =>
  ∃ (b31 : Bool),
  e_1 = .returned (.bool b31) ∧
  sel (!b31) (
  R (.tuple #[.slice none 0 0, .int .i64 120]) w_2) (
  ∃ M : World → Prop,
  (∃ (A39_0 : Option Addr) (n39_0 c39_0 : Nat),
  w_2.cell? ⟨w.heap.size, 0, none⟩ = some (.slice A39_0 n39_0 c39_0) ∧
  ∃ (A39_1 : Option Addr) (n39_1 c39_1 : Nat),
  w_2.cell? ⟨w.heap.size, 1, none⟩ = some (.slice A39_1 n39_1 c39_1) ∧
  ∃ (A39_2 : Option Addr) (n39_2 c39_2 : Nat),
  w_2.cell? ⟨w.heap.size, 2, none⟩ = some (.slice A39_2 n39_2 c39_2) ∧
  ∃ (A39_3 : Option Addr) (n39_3 c39_3 : Nat),
  w_2.cell? ⟨w.heap.size, 3, none⟩ = some (.slice A39_3 n39_3 c39_3) ∧
  ∃ (A39_4 : Option Addr) (n39_4 c39_4 : Nat),
  w_2.cell? ⟨w.heap.size, 4, none⟩ = some (.slice A39_4 n39_4 c39_4) ∧
  ∃ (A39_5 : Option Addr) (n39_5 c39_5 : Nat),
  w_2.cell? ⟨w.heap.size, 5, none⟩ = some (.slice A39_5 n39_5 c39_5) ∧
  (∃ (A37 : Option Addr) (n37 c37 : Nat),
  w_2.cell? ⟨a2, 0, none⟩ = some (.slice A37 n37 c37) ∧
  Calls Try.prog 41 #[.agg #[.slice A39_0 n39_0 c39_0, .slice A39_1 n39_1 c39_1, .slice A39_2 n39_2 c39_2, .slice A39_3 n39_3 c39_3, .slice A39_4 n39_4 c39_4, .slice A39_5 n39_5 c39_5], .pointer (some ⟨a2, 0, none⟩)] w_2.drew fun e_2 w_3 =>
  ∃ (x41 : Int),
  e_2 = .returned (.int .i64 x41) ∧
  let i42 : Int := IntKind.i64.wrap ((n37 : Int) + x41);
  sel (decide ((1048576 : Int) < (i42 : Int))) (
  R (.tuple #[.slice none 0 0, .int .i64 4]) w_3) (
  ([.int .i64 xa0, .pointer (some ⟨a2, 0, none⟩), .pointer (some ⟨w.heap.size, 0, none⟩)] : List Value) = ([.int .i64 xa0, .pointer (some ⟨a2, 0, none⟩), .pointer (some ⟨w.heap.size, 0, none⟩)] : List Value) ∧ M w_3)) ∧
  (Calls Try.prog 41 #[.agg #[.slice A39_0 n39_0 c39_0, .slice A39_1 n39_1 c39_1, .slice A39_2 n39_2 c39_2, .slice A39_3 n39_3 c39_3, .slice A39_4 n39_4 c39_4, .slice A39_5 n39_5 c39_5], .pointer (some ⟨a2, 0, none⟩)] w_2.drew fun e_3 w_4 =>
  ∃ (x41_1 : Int),
  e_3 = .returned (.int .i64 x41_1) ∧
  ∃ (A37_1 : Option Addr) (n37_1 c37_1 : Nat),
  w_4.cell? ⟨a2, 0, none⟩ = some (.slice A37_1 n37_1 c37_1) ∧
  let i42_1 : Int := IntKind.i64.wrap ((n37_1 : Int) + x41_1);
  sel (decide ((1048576 : Int) < (i42_1 : Int))) (
  R (.tuple #[.slice none 0 0, .int .i64 4]) w_4) (
  ([.int .i64 xa0, .pointer (some ⟨a2, 0, none⟩), .pointer (some ⟨w.heap.size, 0, none⟩)] : List Value) = ([.int .i64 xa0, .pointer (some ⟨a2, 0, none⟩), .pointer (some ⟨w.heap.size, 0, none⟩)] : List Value) ∧ M w_4)) ∧ True) ∧
  ∀ d : Env, ∀  (w_5 : World), M w_5 →
  ∃ (A46 : Option Addr) (n46 c46 : Nat),
  w_5.cell? ⟨w.heap.size, 3, none⟩ = some (.slice A46 n46 c46) ∧
  Calls Try.prog 42 #[.slice A46 n46 c46] w_5 fun e_4 w_6 =>
  ∃ (x47_0 : Int) (b47_1 : Bool),
  e_4 = .returned (.tuple #[.int .i64 x47_0, .bool b47_1]) ∧
  ∃ (A52 : Option Addr) (n52 c52 : Nat),
  w_6.cell? ⟨w.heap.size, 4, none⟩ = some (.slice A52 n52 c52) ∧
  Calls Try.prog 42 #[.slice A52 n52 c52] w_6 fun e_5 w_7 =>
  ∃ (x53_0 : Int) (b53_1 : Bool),
  e_5 = .returned (.tuple #[.int .i64 x53_0, .bool b53_1]) ∧
  ∃ M_1 : Option Addr → World → Prop,
  (let w_8 : World := World.alloc w_7 (.cells #[.slice none 0 0, .slice none 0 0] 89);
  ([.int .i64 xa0, .pointer (some ⟨a2, 0, none⟩), .pointer (some ⟨w.heap.size, 0, none⟩), .int .i64 x47_0, .int .i64 x53_0] : List Value) = ([.int .i64 xa0, .pointer (some ⟨a2, 0, none⟩), .pointer (some ⟨w.heap.size, 0, none⟩), .int .i64 x47_0, .int .i64 x53_0] : List Value) ∧ M_1 (some ⟨w_7.heap.size, 0, none⟩) w_8) ∧
  ∀ d_1 : Env, ∀ (p13 : Option Addr) (w_9 : World), M_1 p13 w_9 →
  ∃ M_2 : World → Prop,
  (∃ I : Int → World → Nat → Prop,
  (∃ n, I 0 w_9 n) ∧
  ∀ d_2 : Env, ∀ (x14 : Int) (w_10 : World) (r : Nat), I x14 w_10 r →
  ∃ (A59_0 : Option Addr) (n59_0 c59_0 : Nat),
  w_10.cell? ⟨w.heap.size, 0, none⟩ = some (.slice A59_0 n59_0 c59_0) ∧
  ∃ (A59_1 : Option Addr) (n59_1 c59_1 : Nat),
  w_10.cell? ⟨w.heap.size, 1, none⟩ = some (.slice A59_1 n59_1 c59_1) ∧
  ∃ (A59_2 : Option Addr) (n59_2 c59_2 : Nat),
  w_10.cell? ⟨w.heap.size, 2, none⟩ = some (.slice A59_2 n59_2 c59_2) ∧
  ∃ (A59_3 : Option Addr) (n59_3 c59_3 : Nat),
  w_10.cell? ⟨w.heap.size, 3, none⟩ = some (.slice A59_3 n59_3 c59_3) ∧
  ∃ (A59_4 : Option Addr) (n59_4 c59_4 : Nat),
  w_10.cell? ⟨w.heap.size, 4, none⟩ = some (.slice A59_4 n59_4 c59_4) ∧
  ∃ (A59_5 : Option Addr) (n59_5 c59_5 : Nat),
  w_10.cell? ⟨w.heap.size, 5, none⟩ = some (.slice A59_5 n59_5 c59_5) ∧
  Calls Try.prog 44 #[.agg #[.slice A59_0 n59_0 c59_0, .slice A59_1 n59_1 c59_1, .slice A59_2 n59_2 c59_2, .slice A59_3 n59_3 c59_3, .slice A59_4 n59_4 c59_4, .slice A59_5 n59_5 c59_5]] w_10 fun e_6 w_11 =>
  ∃ (x60 : Int),
  e_6 = .returned (.int .i64 x60) ∧
  Calls Try.prog 43 #[.int .i64 x60] w_11 fun e_7 w_12 =>
  ∃ (x61 : Int),
  e_7 = .returned (.int .i64 x61) ∧
  sel (decide ((x14 : Int) < (x61 : Int))) (
  needPtr p13 fun b67 o67 =>
  ∃ (A69 : Option Addr) (n69 c69 : Nat),
  w_12.cell? ⟨b67, o67, none⟩ = some (.slice A69 n69 c69) ∧
  let w_13 : World := World.alloc w_12 (.cells #[.int .i64 0] 3);
  ∃ (A71 : Option Addr) (n71 c71 : Nat),
  ∃ w_14 : World, (Builtin.append_ #[26, 26] 26 #[.slice A69 n69 c69, .slice (some ⟨w_12.heap.size, 0, none⟩) 1 1]).run Try.prog w_13 = .ok (.slice A71 n71 c71) w_14 ∧
  needPtr p13 fun b72 o72 =>
  canStore w_14 b72 o72 1 ∧
  let w_15 : World := setCs w_14 b72 o72 [.slice A71 n71 c71];
  needPtr p13 fun b76 o76 =>
  ∃ (A78 : Option Addr) (n78 c78 : Nat),
  w_15.cell? ⟨b76, o76 + 1, none⟩ = some (.slice A78 n78 c78) ∧
  let w_16 : World := World.alloc w_15 (.cells #[.int .i64 0] 3);
  ∃ (A80 : Option Addr) (n80 c80 : Nat),
  ∃ w_17 : World, (Builtin.append_ #[26, 26] 26 #[.slice A78 n78 c78, .slice (some ⟨w_15.heap.size, 0, none⟩) 1 1]).run Try.prog w_16 = .ok (.slice A80 n80 c80) w_17 ∧
  needPtr p13 fun b81 o81 =>
  canStore w_17 b81 (o81 + 1) 1 ∧
  let w_18 : World := setCs w_17 b81 (o81 + 1) [.slice A80 n80 c80];
  let i64 : Int := IntKind.i64.wrap (x14 + 1);
  ([.int .i64 xa0, .pointer (some ⟨a2, 0, none⟩), .pointer (some ⟨w.heap.size, 0, none⟩), .int .i64 x47_0, .int .i64 x53_0, .pointer p13] : List Value) = ([.int .i64 xa0, .pointer (some ⟨a2, 0, none⟩), .pointer (some ⟨w.heap.size, 0, none⟩), .int .i64 x47_0, .int .i64 x53_0, .pointer p13] : List Value) ∧ ∃ m, m < r ∧ I i64 w_18 m) (
  ([.int .i64 xa0, .pointer (some ⟨a2, 0, none⟩), .pointer (some ⟨w.heap.size, 0, none⟩), .int .i64 x47_0, .int .i64 x53_0, .pointer p13] : List Value) = ([.int .i64 xa0, .pointer (some ⟨a2, 0, none⟩), .pointer (some ⟨w.heap.size, 0, none⟩), .int .i64 x47_0, .int .i64 x53_0, .pointer p13] : List Value) ∧ M_2 w_12)) ∧
  ∀ d_3 : Env, ∀  (w_19 : World), M_2 w_19 →
  ∃ M_3 : World → Prop,
  (∃ I_1 : Int → World → Nat → Prop,
  (∃ n, I_1 0 w_19 n) ∧
  ∀ d_4 : Env, ∀ (x15 : Int) (w_20 : World) (r_1 : Nat), I_1 x15 w_20 r_1 →
  ∃ (A85 : Option Addr) (n85 c85 : Nat),
  w_20.cell? ⟨w.heap.size, 0, none⟩ = some (.slice A85 n85 c85) ∧
  sel (decide ((x15 : Int) < ((n85 : Int) : Int))) (
  ∃ (A93 : Option Addr) (n93 c93 : Nat),
  w_20.cell? ⟨w.heap.size, 0, none⟩ = some (.slice A93 n93 c93) ∧
  (0 : Int) ≤ x15 ∧ x15 < (n93 : Int) ∧
  needPtr A93 fun b95 o95 =>
  ∃ (s96 : ByteArray),
  w_20.cell? ⟨b95, o95 + x15.toNat * 1, none⟩ = some (.string s96) ∧
  Calls Try.prog 39 #[.pointer (some ⟨a2, 0, none⟩), .string s96] w_20 fun e_8 w_21 =>
  ∃ (x97 : Int),
  e_8 = .returned (.int .i64 x97) ∧
  let i98 : Int := IntKind.i64.wrap (x97 * 4);
  let i99 : Int := IntKind.i64.wrap (i98 + 3);
  let i101 : Int := IntKind.i64.wrap (x15 + 1);
  Calls Try.prog 45 #[.pointer p13, .int .i64 i99, .int .i64 i101] w_21 fun e_9 w_22 =>
  e_9 = .returned (.tuple #[]) ∧
  let i89 : Int := IntKind.i64.wrap (x15 + 1);
  ([.int .i64 xa0, .pointer (some ⟨a2, 0, none⟩), .pointer (some ⟨w.heap.size, 0, none⟩), .int .i64 x47_0, .int .i64 x53_0, .pointer p13] : List Value) = ([.int .i64 xa0, .pointer (some ⟨a2, 0, none⟩), .pointer (some ⟨w.heap.size, 0, none⟩), .int .i64 x47_0, .int .i64 x53_0, .pointer p13] : List Value) ∧ ∃ m, m < r_1 ∧ I_1 i89 w_22 m) (
  ([.int .i64 xa0, .pointer (some ⟨a2, 0, none⟩), .pointer (some ⟨w.heap.size, 0, none⟩), .int .i64 x47_0, .int .i64 x53_0, .pointer p13] : List Value) = ([.int .i64 xa0, .pointer (some ⟨a2, 0, none⟩), .pointer (some ⟨w.heap.size, 0, none⟩), .int .i64 x47_0, .int .i64 x53_0, .pointer p13] : List Value) ∧ M_3 w_20)) ∧
  ∀ d_5 : Env, ∀  (w_23 : World), M_3 w_23 →
  ∃ M_4 : World → Prop,
  (∃ I_2 : Int → World → Nat → Prop,
  (∃ n, I_2 0 w_23 n) ∧
  ∀ d_6 : Env, ∀ (x16 : Int) (w_24 : World) (r_2 : Nat), I_2 x16 w_24 r_2 →
  ∃ (A105 : Option Addr) (n105 c105 : Nat),
  w_24.cell? ⟨w.heap.size, 1, none⟩ = some (.slice A105 n105 c105) ∧
  sel (decide ((x16 : Int) < ((n105 : Int) : Int))) (
  ∃ (A113 : Option Addr) (n113 c113 : Nat),
  w_24.cell? ⟨w.heap.size, 1, none⟩ = some (.slice A113 n113 c113) ∧
  (0 : Int) ≤ x16 ∧ x16 < (n113 : Int) ∧
  needPtr A113 fun b115 o115 =>
  ∃ (s116 : ByteArray),
  w_24.cell? ⟨b115, o115 + x16.toNat * 1, none⟩ = some (.string s116) ∧
  (Calls Try.prog 39 #[.pointer (some ⟨a2, 0, none⟩), .string s116] w_24.drew fun e_10 w_25 =>
  ∃ (x117 : Int),
  e_10 = .returned (.int .i64 x117) ∧
  let i118 : Int := IntKind.i64.wrap (x117 * 4);
  let i119 : Int := IntKind.i64.wrap (i118 + 1);
  ∃ (A121 : Option Addr) (n121 c121 : Nat),
  w_25.cell? ⟨w.heap.size, 3, none⟩ = some (.slice A121 n121 c121) ∧
  (0 : Int) ≤ x16 ∧ x16 < (n121 : Int) ∧
  needPtr A121 fun b123 o123 =>
  ∃ (x124 : Int),
  w_25.cell? ⟨b123, o123 + x16.toNat * 1, none⟩ = some (.int .i64 x124) ∧
  Calls Try.prog 45 #[.pointer p13, .int .i64 i119, .int .i64 x124] w_25 fun e_11 w_26 =>
  e_11 = .returned (.tuple #[]) ∧
  let i109 : Int := IntKind.i64.wrap (x16 + 1);
  ([.int .i64 xa0, .pointer (some ⟨a2, 0, none⟩), .pointer (some ⟨w.heap.size, 0, none⟩), .int .i64 x47_0, .int .i64 x53_0, .pointer p13] : List Value) = ([.int .i64 xa0, .pointer (some ⟨a2, 0, none⟩), .pointer (some ⟨w.heap.size, 0, none⟩), .int .i64 x47_0, .int .i64 x53_0, .pointer p13] : List Value) ∧ ∃ m, m < r_2 ∧ I_2 i109 w_26 m) ∧
  (∃ (A121_1 : Option Addr) (n121_1 c121_1 : Nat),
  w_24.cell? ⟨w.heap.size, 3, none⟩ = some (.slice A121_1 n121_1 c121_1) ∧
  (0 : Int) ≤ x16 ∧ x16 < (n121_1 : Int) ∧
  needPtr A121_1 fun b123_1 o123_1 =>
  (Calls Try.prog 39 #[.pointer (some ⟨a2, 0, none⟩), .string s116] w_24.drew fun e_12 w_27 =>
  ∃ (x117_1 : Int),
  e_12 = .returned (.int .i64 x117_1) ∧
  let i118_1 : Int := IntKind.i64.wrap (x117_1 * 4);
  let i119_1 : Int := IntKind.i64.wrap (i118_1 + 1);
  ∃ (x124_1 : Int),
  w_27.cell? ⟨b123_1, o123_1 + x16.toNat * 1, none⟩ = some (.int .i64 x124_1) ∧
  Calls Try.prog 45 #[.pointer p13, .int .i64 i119_1, .int .i64 x124_1] w_27 fun e_13 w_28 =>
  e_13 = .returned (.tuple #[]) ∧
  let i109_1 : Int := IntKind.i64.wrap (x16 + 1);
  ([.int .i64 xa0, .pointer (some ⟨a2, 0, none⟩), .pointer (some ⟨w.heap.size, 0, none⟩), .int .i64 x47_0, .int .i64 x53_0, .pointer p13] : List Value) = ([.int .i64 xa0, .pointer (some ⟨a2, 0, none⟩), .pointer (some ⟨w.heap.size, 0, none⟩), .int .i64 x47_0, .int .i64 x53_0, .pointer p13] : List Value) ∧ ∃ m, m < r_2 ∧ I_2 i109_1 w_28 m) ∧
  (∃ (x124_2 : Int),
  w_24.cell? ⟨b123_1, o123_1 + x16.toNat * 1, none⟩ = some (.int .i64 x124_2) ∧
  Calls Try.prog 39 #[.pointer (some ⟨a2, 0, none⟩), .string s116] w_24.drew fun e_14 w_29 =>
  ∃ (x117_2 : Int),
  e_14 = .returned (.int .i64 x117_2) ∧
  let i118_2 : Int := IntKind.i64.wrap (x117_2 * 4);
  let i119_2 : Int := IntKind.i64.wrap (i118_2 + 1);
  Calls Try.prog 45 #[.pointer p13, .int .i64 i119_2, .int .i64 x124_2] w_29 fun e_15 w_30 =>
  e_15 = .returned (.tuple #[]) ∧
  let i109_2 : Int := IntKind.i64.wrap (x16 + 1);
  ([.int .i64 xa0, .pointer (some ⟨a2, 0, none⟩), .pointer (some ⟨w.heap.size, 0, none⟩), .int .i64 x47_0, .int .i64 x53_0, .pointer p13] : List Value) = ([.int .i64 xa0, .pointer (some ⟨a2, 0, none⟩), .pointer (some ⟨w.heap.size, 0, none⟩), .int .i64 x47_0, .int .i64 x53_0, .pointer p13] : List Value) ∧ ∃ m, m < r_2 ∧ I_2 i109_2 w_30 m) ∧ True) ∧ True) (
  ([.int .i64 xa0, .pointer (some ⟨a2, 0, none⟩), .pointer (some ⟨w.heap.size, 0, none⟩), .int .i64 x47_0, .int .i64 x53_0, .pointer p13] : List Value) = ([.int .i64 xa0, .pointer (some ⟨a2, 0, none⟩), .pointer (some ⟨w.heap.size, 0, none⟩), .int .i64 x47_0, .int .i64 x53_0, .pointer p13] : List Value) ∧ M_4 w_24)) ∧
  ∀ d_7 : Env, ∀  (w_31 : World), M_4 w_31 →
  ∃ M_5 : World → Prop,
  (∃ I_3 : Int → World → Nat → Prop,
  (∃ n, I_3 0 w_31 n) ∧
  ∀ d_8 : Env, ∀ (x17 : Int) (w_32 : World) (r_3 : Nat), I_3 x17 w_32 r_3 →
  ∃ (A128 : Option Addr) (n128 c128 : Nat),
  w_32.cell? ⟨w.heap.size, 2, none⟩ = some (.slice A128 n128 c128) ∧
  sel (decide ((x17 : Int) < ((n128 : Int) : Int))) (
  ∃ (A136 : Option Addr) (n136 c136 : Nat),
  w_32.cell? ⟨w.heap.size, 2, none⟩ = some (.slice A136 n136 c136) ∧
  (0 : Int) ≤ x17 ∧ x17 < (n136 : Int) ∧
  needPtr A136 fun b138 o138 =>
  ∃ (s139 : ByteArray),
  w_32.cell? ⟨b138, o138 + x17.toNat * 1, none⟩ = some (.string s139) ∧
  (Calls Try.prog 39 #[.pointer (some ⟨a2, 0, none⟩), .string s139] w_32.drew fun e_16 w_33 =>
  ∃ (x140 : Int),
  e_16 = .returned (.int .i64 x140) ∧
  let i141 : Int := IntKind.i64.wrap (x140 * 4);
  let i142 : Int := IntKind.i64.wrap (i141 + 2);
  ∃ (A144 : Option Addr) (n144 c144 : Nat),
  w_33.cell? ⟨w.heap.size, 4, none⟩ = some (.slice A144 n144 c144) ∧
  (0 : Int) ≤ x17 ∧ x17 < (n144 : Int) ∧
  needPtr A144 fun b146 o146 =>
  ∃ (x147 : Int),
  w_33.cell? ⟨b146, o146 + x17.toNat * 1, none⟩ = some (.int .i64 x147) ∧
  Calls Try.prog 45 #[.pointer p13, .int .i64 i142, .int .i64 x147] w_33 fun e_17 w_34 =>
  e_17 = .returned (.tuple #[]) ∧
  let i132 : Int := IntKind.i64.wrap (x17 + 1);
  ([.int .i64 xa0, .pointer (some ⟨a2, 0, none⟩), .pointer (some ⟨w.heap.size, 0, none⟩), .int .i64 x47_0, .int .i64 x53_0, .pointer p13] : List Value) = ([.int .i64 xa0, .pointer (some ⟨a2, 0, none⟩), .pointer (some ⟨w.heap.size, 0, none⟩), .int .i64 x47_0, .int .i64 x53_0, .pointer p13] : List Value) ∧ ∃ m, m < r_3 ∧ I_3 i132 w_34 m) ∧
  (∃ (A144_1 : Option Addr) (n144_1 c144_1 : Nat),
  w_32.cell? ⟨w.heap.size, 4, none⟩ = some (.slice A144_1 n144_1 c144_1) ∧
  (0 : Int) ≤ x17 ∧ x17 < (n144_1 : Int) ∧
  needPtr A144_1 fun b146_1 o146_1 =>
  (Calls Try.prog 39 #[.pointer (some ⟨a2, 0, none⟩), .string s139] w_32.drew fun e_18 w_35 =>
  ∃ (x140_1 : Int),
  e_18 = .returned (.int .i64 x140_1) ∧
  let i141_1 : Int := IntKind.i64.wrap (x140_1 * 4);
  let i142_1 : Int := IntKind.i64.wrap (i141_1 + 2);
  ∃ (x147_1 : Int),
  w_35.cell? ⟨b146_1, o146_1 + x17.toNat * 1, none⟩ = some (.int .i64 x147_1) ∧
  Calls Try.prog 45 #[.pointer p13, .int .i64 i142_1, .int .i64 x147_1] w_35 fun e_19 w_36 =>
  e_19 = .returned (.tuple #[]) ∧
  let i132_1 : Int := IntKind.i64.wrap (x17 + 1);
  ([.int .i64 xa0, .pointer (some ⟨a2, 0, none⟩), .pointer (some ⟨w.heap.size, 0, none⟩), .int .i64 x47_0, .int .i64 x53_0, .pointer p13] : List Value) = ([.int .i64 xa0, .pointer (some ⟨a2, 0, none⟩), .pointer (some ⟨w.heap.size, 0, none⟩), .int .i64 x47_0, .int .i64 x53_0, .pointer p13] : List Value) ∧ ∃ m, m < r_3 ∧ I_3 i132_1 w_36 m) ∧
  (∃ (x147_2 : Int),
  w_32.cell? ⟨b146_1, o146_1 + x17.toNat * 1, none⟩ = some (.int .i64 x147_2) ∧
  Calls Try.prog 39 #[.pointer (some ⟨a2, 0, none⟩), .string s139] w_32.drew fun e_20 w_37 =>
  ∃ (x140_2 : Int),
  e_20 = .returned (.int .i64 x140_2) ∧
  let i141_2 : Int := IntKind.i64.wrap (x140_2 * 4);
  let i142_2 : Int := IntKind.i64.wrap (i141_2 + 2);
  Calls Try.prog 45 #[.pointer p13, .int .i64 i142_2, .int .i64 x147_2] w_37 fun e_21 w_38 =>
  e_21 = .returned (.tuple #[]) ∧
  let i132_2 : Int := IntKind.i64.wrap (x17 + 1);
  ([.int .i64 xa0, .pointer (some ⟨a2, 0, none⟩), .pointer (some ⟨w.heap.size, 0, none⟩), .int .i64 x47_0, .int .i64 x53_0, .pointer p13] : List Value) = ([.int .i64 xa0, .pointer (some ⟨a2, 0, none⟩), .pointer (some ⟨w.heap.size, 0, none⟩), .int .i64 x47_0, .int .i64 x53_0, .pointer p13] : List Value) ∧ ∃ m, m < r_3 ∧ I_3 i132_2 w_38 m) ∧ True) ∧ True) (
  ([.int .i64 xa0, .pointer (some ⟨w.heap.size, 0, none⟩), .int .i64 x47_0, .int .i64 x53_0, .pointer p13] : List Value) = ([.int .i64 xa0, .pointer (some ⟨w.heap.size, 0, none⟩), .int .i64 x47_0, .int .i64 x53_0, .pointer p13] : List Value) ∧ M_5 w_32)) ∧
  ∀ d_9 : Env, ∀  (w_39 : World), M_5 w_39 →
  needPtr p13 fun b151 o151 =>
  ∃ (A153 : Option Addr) (n153 c153 : Nat),
  w_39.cell? ⟨b151, o151, none⟩ = some (.slice A153 n153 c153) ∧
  let w_40 : World := World.alloc w_39 (.cells #[.int .i64 xa0, .int .i64 (n153 : Int), .int .i64 x47_0, .int .i64 x53_0] 3);
  ∃ M_6 : Option Addr → Nat → Nat → World → Prop,
  (∃ I_4 : Option Addr → Nat → Nat → Int → World → Nat → Prop,
  (∃ n, I_4 (some ⟨w_39.heap.size, 0, none⟩) 4 4 0 w_40 n) ∧
  ∀ d_10 : Env, ∀ (A18 : Option Addr) (n18 c18 : Nat) (x19 : Int) (w_41 : World) (r_4 : Nat), I_4 A18 n18 c18 x19 w_41 r_4 →
  needPtr p13 fun b160 o160 =>
  ∃ (A162 : Option Addr) (n162 c162 : Nat),
  w_41.cell? ⟨b160, o160, none⟩ = some (.slice A162 n162 c162) ∧
  sel (decide ((x19 : Int) < ((n162 : Int) : Int))) (
  needPtr p13 fun b169 o169 =>
  needPtr p13 fun b176 o176 =>
  ∃ (A171 : Option Addr) (n171 c171 : Nat),
  w_41.cell? ⟨b169, o169, none⟩ = some (.slice A171 n171 c171) ∧
  (0 : Int) ≤ x19 ∧ x19 < (n171 : Int) ∧
  needPtr A171 fun b173 o173 =>
  ∃ (x174 : Int),
  w_41.cell? ⟨b173, o173 + x19.toNat * 1, none⟩ = some (.int .i64 x174) ∧
  ∃ (A178 : Option Addr) (n178 c178 : Nat),
  w_41.cell? ⟨b176, o176 + 1, none⟩ = some (.slice A178 n178 c178) ∧
  (0 : Int) ≤ x19 ∧ x19 < (n178 : Int) ∧
  needPtr A178 fun b180 o180 =>
  ∃ (x181 : Int),
  w_41.cell? ⟨b180, o180 + x19.toNat * 1, none⟩ = some (.int .i64 x181) ∧
  let w_42 : World := World.alloc w_41.drew (.cells #[.int .i64 x174, .int .i64 x181] 3);
  ∃ (A183 : Option Addr) (n183 c183 : Nat),
  ∃ w_43 : World, (Builtin.append_ #[26, 26] 26 #[.slice A18 n18 c18, .slice (some ⟨w_41.heap.size, 0, none⟩) 2 2]).run Try.prog w_42 = .ok (.slice A183 n183 c183) w_43 ∧
  let i166 : Int := IntKind.i64.wrap (x19 + 1);
  ([.pointer (some ⟨w.heap.size, 0, none⟩), .int .i64 x47_0, .int .i64 x53_0, .pointer p13] : List Value) = ([.pointer (some ⟨w.heap.size, 0, none⟩), .int .i64 x47_0, .int .i64 x53_0, .pointer p13] : List Value) ∧ ∃ m, m < r_4 ∧ I_4 A183 n183 c183 i166 w_43 m) (
  ([.pointer (some ⟨w.heap.size, 0, none⟩), .int .i64 x47_0, .int .i64 x53_0] : List Value) = ([.pointer (some ⟨w.heap.size, 0, none⟩), .int .i64 x47_0, .int .i64 x53_0] : List Value) ∧ M_6 A18 n18 c18 w_41)) ∧
  ∀ d_11 : Env, ∀ (A18_1 : Option Addr) (n18_1 c18_1 : Nat) (w_44 : World), M_6 A18_1 n18_1 c18_1 w_44 →
  ∃ I_5 : Option Addr → Nat → Nat → Int → World → Nat → Prop,
  (∃ n, I_5 A18_1 n18_1 c18_1 0 w_44 n) ∧
  ∀ d_12 : Env, ∀ (A18_2 : Option Addr) (n18_2 c18_2 : Nat) (x20 : Int) (w_45 : World) (r_5 : Nat), I_5 A18_2 n18_2 c18_2 x20 w_45 r_5 →
  sel (decide ((x20 : Int) < (x47_0 : Int))) (
  ∃ I_6 : Option Addr → Nat → Nat → Int → World → Nat → Prop,
  (∃ n, I_6 A18_2 n18_2 c18_2 0 w_45 n) ∧
  ∀ d_13 : Env, ∀ (A18_3 : Option Addr) (n18_3 c18_3 : Nat) (x21 : Int) (w_46 : World) (r_6 : Nat), I_6 A18_3 n18_3 c18_3 x21 w_46 r_6 →
  sel (decide ((x21 : Int) < (x53_0 : Int))) (
  ∃ (A196 : Option Addr) (n196 c196 : Nat),
  w_46.cell? ⟨w.heap.size, 5, none⟩ = some (.slice A196 n196 c196) ∧
  (0 : Int) ≤ x20 ∧ x20 < (n196 : Int) ∧
  needPtr A196 fun b198 o198 =>
  ∃ (A199 : Option Addr) (n199 c199 : Nat),
  w_46.cell? ⟨b198, o198 + x20.toNat * 1, none⟩ = some (.slice A199 n199 c199) ∧
  (0 : Int) ≤ x21 ∧ x21 < (n199 : Int) ∧
  needPtr A199 fun b201 o201 =>
  ∃ (x202 : Int),
  w_46.cell? ⟨b201, o201 + x21.toNat * 1, none⟩ = some (.int .u16 x202) ∧
  let i203 : Int := IntKind.i64.wrap x202;
  let w_47 : World := World.alloc w_46 (.cells #[.int .i64 i203] 3);
  ∃ (A205 : Option Addr) (n205 c205 : Nat),
  ∃ w_48 : World, (Builtin.append_ #[26, 26] 26 #[.slice A18_3 n18_3 c18_3, .slice (some ⟨w_46.heap.size, 0, none⟩) 1 1]).run Try.prog w_47 = .ok (.slice A205 n205 c205) w_48 ∧
  let i193 : Int := IntKind.i64.wrap (x21 + 1);
  ([.pointer (some ⟨w.heap.size, 0, none⟩), .int .i64 x47_0, .int .i64 x53_0, .int .i64 x20] : List Value) = ([.pointer (some ⟨w.heap.size, 0, none⟩), .int .i64 x47_0, .int .i64 x53_0, .int .i64 x20] : List Value) ∧ ∃ m, m < r_6 ∧ I_6 A205 n205 c205 i193 w_48 m) (
  let i188 : Int := IntKind.i64.wrap (x20 + 1);
  ([.pointer (some ⟨w.heap.size, 0, none⟩), .int .i64 x47_0, .int .i64 x53_0] : List Value) = ([.pointer (some ⟨w.heap.size, 0, none⟩), .int .i64 x47_0, .int .i64 x53_0] : List Value) ∧ ∃ m, m < r_5 ∧ I_5 A18_3 n18_3 c18_3 i188 w_46 m)) (
  R (.tuple #[.slice A18_2 n18_2 c18_2, .int .i64 0]) w_45))))
theorem f16.eq (xa0 : Int) (Aa1_0 : Option Addr) (na1_0 ca1_0 : Nat) (Aa1_1 : Option Addr) (na1_1 ca1_1 : Nat) (Aa1_2 : Option Addr) (na1_2 ca1_2 : Nat) (Aa1_3 : Option Addr) (na1_3 ca1_3 : Nat) (Aa1_4 : Option Addr) (na1_4 ca1_4 : Nat) (Aa1_5 : Option Addr) (na1_5 ca1_5 : Nat) (a2 : Nat) (w : World) (R : Value → World → Prop) : f16.VC xa0 Aa1_0 na1_0 ca1_0 Aa1_1 na1_1 ca1_1 Aa1_2 na1_2 ca1_2 Aa1_3 na1_3 ca1_3 Aa1_4 na1_4 ca1_4 Aa1_5 na1_5 ca1_5 a2 w R = funV Try.prog Try.f16 f16.AL f16.AC #[.int .i64 xa0, .agg #[.slice Aa1_0 na1_0 ca1_0, .slice Aa1_1 na1_1 ca1_1, .slice Aa1_2 na1_2 ca1_2, .slice Aa1_3 na1_3 ca1_3, .slice Aa1_4 na1_4 ca1_4, .slice Aa1_5 na1_5 ca1_5], .pointer (some ⟨a2, 0, none⟩)] w R := by kernel_rfl
theorem f16.calls {xa0 : Int} {Aa1_0 : Option Addr} {na1_0 ca1_0 : Nat} {Aa1_1 : Option Addr} {na1_1 ca1_1 : Nat} {Aa1_2 : Option Addr} {na1_2 ca1_2 : Nat} {Aa1_3 : Option Addr} {na1_3 ca1_3 : Nat} {Aa1_4 : Option Addr} {na1_4 ca1_4 : Nat} {Aa1_5 : Option Addr} {na1_5 ca1_5 : Nat} {a2 : Nat} {w : World} {R : Value → World → Prop} (h : f16.VC xa0 Aa1_0 na1_0 ca1_0 Aa1_1 na1_1 ca1_1 Aa1_2 na1_2 ca1_2 Aa1_3 na1_3 ca1_3 Aa1_4 na1_4 ca1_4 Aa1_5 na1_5 ca1_5 a2 w R) : Calls Try.prog 16 #[.int .i64 xa0, .agg #[.slice Aa1_0 na1_0 ca1_0, .slice Aa1_1 na1_1 ca1_1, .slice Aa1_2 na1_2 ca1_2, .slice Aa1_3 na1_3 ca1_3, .slice Aa1_4 na1_4 ca1_4, .slice Aa1_5 na1_5 ca1_5], .pointer (some ⟨a2, 0, none⟩)] w fun e w' => ∃ v, e = .returned v ∧ R v w' :=
  funV_sound (fn := Try.f16) (AL := f16.AL) (AC := f16.AC) W11.mixed (by kernel_rfl) (by rw [← f16.eq xa0 Aa1_0 na1_0 ca1_0 Aa1_1 na1_1 ca1_1 Aa1_2 na1_2 ca1_2 Aa1_3 na1_3 ca1_3 Aa1_4 na1_4 ca1_4 Aa1_5 na1_5 ca1_5 a2]; exact h)

end Go.Proofs.Ytjmlfknogjaemaa
