/- Page: a key is put into a table: the document's and the program's. -/
import Derived.Test.YtjmlfknogjaemaaDoorM17
import Derived.Test.YtjmlfknogjaemaaDoorM4
import Derived.Test.YtjmlfknogjaemaaDoorProg
set_option linter.unusedVariables false
set_option linter.unusedSimpArgs false
set_option maxRecDepth 10000
namespace Go.Proofs.YtjmlfknogjaemaaDoor
open Go Go.Proofs.YtjmlfknogjaemaaDoor.Vc
namespace PG
open Vc.PG NI
abbrev ints (v : Value) (l : List Int) : Chunk := Chunk.ls encN 3 v l
/-- A search for an empty place goes on. -/
theorem free_step {Z : List Pz} (h : fullN Z < Z.length) {f j r : Nat} (hjr : j + r = Z.length) (hno : ∀ n, n < j → (Z.getD ((f + n) % Z.length) pz0).1 ≠ 0) : 0 < r := by
  obtain ⟨n, hn, he⟩ := empty_of h f
  rcases Nat.eq_zero_or_pos r with h0 | h0
  · exact absurd he (hno n (by omega))
  · exact h0
theorem num_le (l : List ByteArray) (s : ByteArray) : IX.num l s ≤ l.length := by
  unfold IX.num
  cases hx : l.findIdx? (fun x => decide (x = s)) with
  | none => simp
  | some j =>
    obtain ⟨hj, _⟩ := List.findIdx?_eq_some_iff_getElem.mp hx
    exact hj
theorem ofN_le {l : List ByteArray} (h : l.length ≤ 1048576) (s : ByteArray) : IX.ofN l s ≤ 1048576 := by
  have := num_le l s
  unfold IX.ofN
  split
  · split
    · omega
    · omega
  · omega
theorem ens_take {l : List ByteArray} {k : Int} {n : List Int} (hl : l.length = n.length) {i : Nat} (hi : i < l.length) : (ensOf l k n).take (i + 1) = (ensOf l k n).take i ++ [(l.getD i ByteArray.empty, k, n.getD i 0)] := by
  have h1 : i < (ensOf l k n).length := by simp [ensOf]; omega
  rw [List.take_succ_eq_append_getElem h1]
  congr 2
  simp [ensOf, List.getD_eq_getElem?_getD, hi, show i < n.length by omega]
theorem layGo_snoc (es : List En) (e : En) (s : List ByteArray × List Pz) : layGo (es ++ [e]) s = layStep (layGo es s) e := by
  simp [layGo, List.foldl_append]
abbrev pgK (a5 a4 a3 x : Nat) (P : Sl) (t : Nat) (W : List Int) (l : List ByteArray) (L : List Chunk) : List Chunk :=
  Chunk.blk a5 #[P.v] 28 :: ints P.v W :: Chunk.blk a4 #[.int .i64 (t : Int)] 3 :: Chunk.blk a3 #[.pointer (some ⟨x, 0, none⟩)] 23 :: idxC x l :: L
theorem putC {S : List Nat} {w0 w : World} {L : List Chunk} {a5 a4 a3 x t f n c : Nat} {cap : Array Value} {P : Sl} {hd : List Int} {Z : List Pz} {l names : List ByteArray} {nums : List Int} {k : Nat} {A : Option Addr}
    (h : St S w0 w (pgK a5 a4 a3 x P t (pageZ hd Z) l L)) (hhd : hd.length = 4) (hZ : Z.length = t) (hp : powB (t : Int) = true) (ht : t ≤ 512) (hfull : fullN Z + names.length < t) (hl : l.length ≤ 1048576) (hk : 1 ≤ k ∧ k < 4)
    (hT : ∀ w', Fr S w0 w' → InX w' A n names) (hnl : names.length = nums.length)
    (hnum : ∀ w' l' W' i, St S w0 w' (pgK a5 a4 a3 x P t W' l' L) → i < n → callT Tryd.prog (.func (.func f) #[] cap) #[.int .i64 (i : Int)] w' fun e w'' => e = .returned (.int .i64 (nums.getD i 0)) ∧ w'' = w') :
    Calls Tryd.prog 28 #[.slice A n c, .int .i64 (k : Int), .func (.func f) #[] cap, .pointer (some ⟨a3, 0, none⟩), .pointer (some ⟨a4, 0, none⟩), .pointer (some ⟨a5, 0, none⟩)] w fun e w' => e = .returned (.tuple #[]) ∧
      St S w0 w' (pgK a5 a4 a3 x P t (pageZ hd (layGo (ensOf names k nums) (l, Z)).2) (layGo (ensOf names k nums) (l, Z)).1 L) := by
  refine Calls.mono (f28.calls (R := fun v w' => v = .tuple #[] ∧ St S w0 w' (pgK a5 a4 a3 x P t (pageZ hd (layGo (ensOf names k nums) (l, Z)).2) (layGo (ensOf names k nums) (l, Z)).1 L)) ?_) ?_
  · dsimp only [f28.VC]
    have hn := (hT w h.frame).1
    refine ⟨fun y w' r => ∃ i : Nat, y = (i : Int) ∧ i + r = n ∧ ∃ li Zi, layGo ((ensOf names k nums).take i) (l, Z) = (li, Zi) ∧ St S w0 w' (pgK a5 a4 a3 x P t (pageZ hd Zi) li L) ∧ Zi.length = t ∧ fullN Zi = fullN Z + i ∧ li.length ≤ 1048576, ⟨n, 0, rfl, by omega, l, Z, rfl, h, hZ, rfl, hl⟩, ?_⟩
    rintro d y w1 r ⟨i, rfl, hir, li, Zi, hgo, hS, hZi, hfi, hli⟩
    refine sel_of (fun hd' => ?_) (fun hd' => ?_)
    · have hi : i < n := by have := of_decide_eq_true hd'; omega
      have hst := layGo_snoc ((ensOf names k nums).take i) (names.getD i ByteArray.empty, (k : Int), nums.getD i 0) (l, Z)
      rw [← ens_take hnl (by omega), hgo] at hst
      refine ⟨by omega, by omega, InX.need (hT w1 hS.frame) rfl hi ?_⟩
      generalize names.getD i ByteArray.empty = s at *
      refine ⟨_, (hS.blk 3 rfl).cell rfl, ?_⟩
      refine Calls.mono (NI.of hS 4 rfl hli s) ?_
      rintro _ w2 ⟨rfl, hS⟩
      have hS : St S w0 w2 (pgK a5 a4 a3 x P t (pageZ hd Zi) (IX.of li s) L) := hS
      have hof := ofN_le hli s
      have hkey := key_or hof hk.2
      refine ⟨_, rfl, by omega, ?_⟩
      rw [hkey]
      unfold layStep at hst
      dsimp only at hst
      have hkz : ((IX.ofN li s * 4 + k : Nat) : Int) = (IX.ofN li s : Int) * 4 + (k : Int) := by omega
      rw [← hkz] at hst
      have hk0 : ((IX.ofN li s * 4 + k : Nat) : Int) ≠ 0 := by omega
      generalize ((IX.ofN li s * 4 + k : Nat) : Int) = key at *
      refine ⟨_, (hS.blk 2 rfl).cell rfl, ?_⟩
      refine Calls.mono (hashP w2 key t (by omega)) ?_
      rintro _ w3 ⟨rfl, hf3⟩
      have hS := hS.go hf3
      have hfl := kfirst_lt key (t := t) (by omega)
      have hfe := kfirst_eq key (t := t)
      have hfz : fullN Zi < Zi.length := by omega
      have hpl : placeZ Zi key = freeAt Zi (kfirst key t) 0 t := by unfold placeZ; rw [hZi]
      obtain ⟨hp1, hp2⟩ := place_empty hfz key
      rw [← hfe]
      generalize kfirst key t = ff at *
      have hPn := hS.lsLen 1 rfl
      rw [pageZ_len hhd, hZi] at hPn
      refine ⟨_, rfl, fun y w' r => w' = w3 ∧ ∃ j : Nat, y = (((ff + j) % t : Nat) : Int) ∧ j + r = t ∧ freeAt Zi ff j r = placeZ Zi key ∧ ∀ n, n < j → (Zi.getD ((ff + n) % t) pz0).1 ≠ 0, ⟨t, rfl, 0, by rw [Nat.add_zero, Nat.mod_eq_of_lt hfl], by omega, hpl.symm, fun n hn => by omega⟩, ?_⟩
      rintro d y w4 q ⟨rfl, j, rfl, hjq, hgo2, hno⟩
      have hq := free_step hfz (f := ff) (j := j) (r := q) (by omega) (by rw [hZi]; exact hno)
      obtain ⟨q, rfl⟩ : ∃ q', q = q' + 1 := ⟨q - 1, by omega⟩
      have hm : (ff + j) % t < t := Nat.mod_lt _ (by omega)
      rw [freeAt, hZi] at hgo2
      obtain ⟨g, hg, hc⟩ := hS.lsGet 0 1 rfl (by omega)
      have hcc := hc _ (show 4 + 2 * ((ff + j) % t) < P.2.1 by omega)
      rw [pageZ_fst hhd (by omega)] at hcc
      have e1 : IntKind.i64.wrap (4 + IntKind.i64.wrap (2 * (((ff + j) % t : Nat) : Int))) = ((4 + 2 * ((ff + j) % t) : Nat) : Int) := by rw [i64_id (x := 2 * _) (by omega) (by omega), i64_id (by omega) (by omega)]; omega
      have e2 : IntKind.i64.wrap (((4 + 2 * ((ff + j) % t) : Nat) : Int) + 1) = ((4 + 2 * ((ff + j) % t) + 1 : Nat) : Int) := by rw [i64_id (by omega) (by omega)]; omega
      rw [e1, e2]
      refine ⟨_, _, _, (hS.blk 0 rfl).cell rfl, by omega, by omega, needPtr_of hg ⟨_, by rw [Nat.mul_one, Int.toNat_natCast, Nat.zero_add]; exact hcc, sel_of (fun hd2 => ?_) (fun hd2 => ?_)⟩⟩
      · have hd2 : (Zi.getD ((ff + j) % t) pz0).1 ≠ 0 := bne_iff_ne.1 hd2
        rw [if_neg hd2] at hgo2
        have e3 : bitsI .and .i64 (IntKind.i64.wrap ((((ff + j) % t : Nat) : Int) + 1)) (IntKind.i64.wrap ((t : Int) - 1)) = (((ff + (j + 1)) % t : Nat) : Int) := by
          rw [i64_id (x := (((ff + j) % t : Nat) : Int) + 1) (by omega) (by omega), i64_id (x := (t : Int) - 1) (by omega) (by omega)]
          have := and_pow (t := t) (a := (ff + j) % t + 1) hp ht (by omega)
          rw [show (((ff + j) % t : Nat) : Int) + 1 = (((ff + j) % t + 1 : Nat) : Int) by omega, this]
          congr 1
          rw [show ff + (j + 1) = ff + j + 1 by omega, Nat.add_mod (ff + j) 1 t, Nat.add_mod ((ff + j) % t) 1 t, Nat.mod_mod]
        refine ⟨_, (hS.blk 2 rfl).cell rfl, ?_⟩
        rw [e3]
        refine ⟨rfl, q, by omega, rfl, j + 1, rfl, by omega, hgo2, fun n hn => ?_⟩
        rcases Nat.lt_or_ge n j with h1 | h1
        · exact hno n h1
        · have : n = j := by omega
          subst this; exact hd2
      · have hd2 : (Zi.getD ((ff + j) % t) pz0).1 = 0 := bne_eq_false_iff_eq.1 hd2
        rw [if_pos hd2] at hgo2
        rw [hgo2] at hm ⊢
        have hfull2 := putZ_full hfz hk0 (nums.getD i 0)
        have hcall := hnum w4.drew _ _ i hS.drew hi
        have hSd := hS.drew
        obtain ⟨g1, hg1, hc1, hS1⟩ := hSd.lsSet 1 rfl (k := 4 + 2 * placeZ Zi key) (by rw [pageZ_len hhd]; omega) key
        obtain ⟨g2, hg2, hc2, hS2⟩ := hS1.lsSet 1 rfl (k := 4 + 2 * placeZ Zi key + 1) (by rw [List.length_set, pageZ_len hhd]; omega) (nums.getD i 0)
        rw [hg1] at hg2
        injection hg2 with hg2
        injection hg2 with hg2 _ _
        subst hg2
        have hS2 : St S w0 (setCs (setCs w4.drew g1 (4 + 2 * placeZ Zi key) [encN key]) g1 (4 + 2 * placeZ Zi key + 1) [encN (nums.getD i 0)]) (pgK a5 a4 a3 x P t (((pageZ hd Zi).set (4 + 2 * placeZ Zi key) key).set (4 + 2 * placeZ Zi key + 1) (nums.getD i 0)) (IX.of li s) L) := hS2
        rw [show ((pageZ hd Zi).set (4 + 2 * placeZ Zi key) key).set (4 + 2 * placeZ Zi key + 1) (nums.getD i 0) = pageZ hd (putZ Zi key (nums.getD i 0)) from pageZ_set hhd Zi (placeZ Zi key) (key, nums.getD i 0)] at hS2
        have e3 : 0 + ((4 + 2 * placeZ Zi key : Nat) : Int).toNat * 1 = 4 + 2 * placeZ Zi key := by rw [Int.toNat_natCast]; omega
        have e4 : 0 + ((4 + 2 * placeZ Zi key + 1 : Nat) : Int).toNat * 1 = 4 + 2 * placeZ Zi key + 1 := by rw [Int.toNat_natCast]; omega
        have e5 := inc i 1000000 (by omega) (by omega)
        have b1 : (0 : Int) ≤ ((4 + 2 * placeZ Zi key : Nat) : Int) := by omega
        have b2 : ((4 + 2 * placeZ Zi key : Nat) : Int) < (P.2.1 : Int) := by omega
        have b3 : (0 : Int) ≤ ((4 + 2 * placeZ Zi key + 1 : Nat) : Int) := by omega
        have b4 : ((4 + 2 * placeZ Zi key + 1 : Nat) : Int) < (P.2.1 : Int) := by omega
        have hfin : ∃ m, m < r ∧ ∃ i' : Nat, IntKind.i64.wrap ((i : Int) + 1) = (i' : Int) ∧ i' + m = n ∧ ∃ li' Zi', layGo ((ensOf names k nums).take i') (l, Z) = (li', Zi') ∧ St S w0 (setCs (setCs w4.drew g1 (4 + 2 * placeZ Zi key) [encN key]) g1 (4 + 2 * placeZ Zi key + 1) [encN (nums.getD i 0)]) (pgK a5 a4 a3 x P t (pageZ hd Zi') li' L) ∧ Zi'.length = t ∧ fullN Zi' = fullN Z + i' ∧ li'.length ≤ 1048576 :=
          ⟨r - 1, by omega, i + 1, e5, by omega, _, _, hst, hS2, by rw [putZ_len, hZi], by omega, of_le hli s⟩
        have hloadP : w4.cell? ⟨a5, 0, none⟩ = some P.v := (hS.blk 0 rfl).cell rfl
        have hloadD : w4.drew.cell? ⟨a5, 0, none⟩ = some P.v := (hSd.blk 0 rfl).cell rfl
        have hload1 : (setCs w4.drew g1 (4 + 2 * placeZ Zi key) [encN key]).cell? ⟨a5, 0, none⟩ = some P.v := (hS1.blk 0 rfl).cell rfl
        repeat' (first
          | exact trivial
          | exact ⟨rfl, hfin⟩
          | refine ⟨_, _, _, hloadP, ?_⟩
          | refine ⟨_, _, _, hloadD, ?_⟩
          | refine ⟨_, _, _, hload1, ?_⟩
          | (refine callT_mono hcall ?_
             rintro _ _ ⟨rfl, rfl⟩
             refine ⟨_, rfl, ?_⟩)
          | refine ⟨b1, b2, needPtr_of hg1 ?_⟩
          | refine ⟨b3, b4, needPtr_of hg1 ?_⟩
          | (rw [e3]; refine ⟨hc1, ?_⟩)
          | (rw [e4]; refine ⟨hc2, ?_⟩)
          | refine And.intro ?_ ?_
          | fail)
    · have hi : i = n := by have := of_decide_eq_false hd'; omega
      rw [List.take_of_length_le (by simp [ensOf]; omega)] at hgo
      rw [hgo]
      exact ⟨rfl, hS⟩
  · rintro e w' ⟨v, rfl, rfl, h⟩; exact ⟨rfl, h⟩
end PG
end Go.Proofs.YtjmlfknogjaemaaDoor

/- Page: Lay, as the document does it. -/
set_option linter.unusedVariables false
set_option linter.unusedSimpArgs false
set_option maxRecDepth 10000
namespace Go.Proofs.YtjmlfknogjaemaaDoor
open Go Go.Proofs.YtjmlfknogjaemaaDoor.Vc
namespace PG
open Vc.PG NI
theorem layStep_len (s : List ByteArray × List Pz) (e : En) : (layStep s e).2.length = s.2.length := putZ_len _ _ _
theorem layGo_inv : ∀ (es : List En) (s : List ByteArray × List Pz), (∀ e ∈ es, 1 ≤ e.2.1) → fullN s.2 + es.length ≤ s.2.length → s.1.length ≤ 1048576 →
    fullN (layGo es s).2 = fullN s.2 + es.length ∧ (layGo es s).2.length = s.2.length ∧ (layGo es s).1.length ≤ 1048576
  | [], s, _, _, h => ⟨rfl, rfl, h⟩
  | e :: es, s, hk, hf, hl => by
    have h1 : fullN (layStep s e).2 = fullN s.2 + 1 := by
      refine putZ_full ?_ ?_ _
      · simp at hf; omega
      · have := hk e (by simp); omega
    have h2 := layStep_len s e
    have h3 := layGo_inv es (layStep s e) (fun x hx => hk x (by simp [hx])) (by simp at hf; omega) (of_le hl e.1)
    have e0 : layGo (e :: es) s = layGo es (layStep s e) := rfl
    rw [e0]
    refine ⟨by rw [h3.1, h1]; simp; omega, by rw [h3.2.1, h2], h3.2.2⟩
theorem ens_kind {l : List ByteArray} {k : Int} {n : List Int} (hk : 1 ≤ k) : ∀ e ∈ ensOf l k n, 1 ≤ e.2.1 := by
  intro e he
  obtain ⟨p, _, rfl⟩ := List.mem_map.1 he
  exact hk
theorem ens_len {l : List ByteArray} {k : Int} {n : List Int} (h : l.length = n.length) : (ensOf l k n).length = l.length := by simp [ensOf, h]
theorem InW.cells {F : List Nat} {w : World} {A : Option Addr} {n : Nat} {W : List Int} (h : ∀ w', Fr F w w' → InW w' A n W) (h0 : 0 < n) : ∃ b o, A = some ⟨b, o, none⟩ ∧ ∀ w', Fr F w w' → ∀ i, i < n → w'.cell? ⟨b, o + (i : Int).toNat * 1, none⟩ = some (.int .i64 (W.getD i 0)) := by
  obtain ⟨b, o, hA, _⟩ := (h w (Fr.refl _ _)).2 h0
  refine ⟨b, o, hA, fun w' hf i hi => ?_⟩
  obtain ⟨b', o', hA', hc⟩ := (h w' hf).2 h0
  rw [hA] at hA'
  injection hA' with hA'
  injection hA' with e1 e2 _
  subst e1; subst e2
  rw [Int.toNat_natCast, Nat.mul_one]
  exact hc i hi
theorem under26 : Tryd.prog.underlying 28 = some (.slice 3) := by kernel_rfl
theorem appI {S : List Nat} {w0 w : World} {L : List Chunk} (h : St S w0 w L) (i : Nat) {A : Option Addr} {n c : Nat} {l : List Int} (hi : L[i]? = some (ints (.slice A n c) l)) (a : Int) (hl : l.length ≤ 4000000) :
    ∃ A' n' c' w', (Builtin.append_ #[28, 28] 28 #[.slice A n c, .slice (some ⟨w.heap.size, 0, Option.none⟩) 1 1]).run Tryd.prog (World.alloc w (.cells #[.int .i64 a] 3)) = .ok (.slice A' n' c') w' ∧ St S w0 w' (L.set i (ints (.slice A' n' c') (l ++ [a]))) := by
  obtain ⟨ti, i1, i2, i3, i4⟩ := info3
  obtain ⟨g', cap', w', h1, h2⟩ := h.app (enc := encN) (P := Tryd.prog) (t := 28) (ty := 28) (fun _ => rfl) under26 i1 i2 i3 rfl (by omega) i hi a hl
  exact ⟨_, _, _, w', h1, h2⟩
theorem ls_of_blk {α : Type} {enc : α → Value} {e : TypeId} {b : Nat} {l : List α} (hm : l.length ≤ maxLen) {w : World} {F : List Nat} (h : (Chunk.blk b (l.map enc).toArray e).holds w F) : (Chunk.ls enc e (.slice (some ⟨b, 0, none⟩) l.length l.length) l).holds w F := by
  refine .inr ⟨b, l.length, by simp, h.1, (l.map enc).toArray, h.2, by simp, by simp, hm, by simp, fun i hi j hj => ?_⟩
  have : j = 0 := by omega
  subst this
  simp at hi
  simp [List.getD_eq_getElem?_getD, hi]
theorem take_snoc {α : Type} (d : α) (l : List α) (j : Nat) (h : j < l.length) : l.take (j + 1) = l.take j ++ [l.getD j d] := by
  rw [List.take_succ_eq_append_getElem h]
  simp [List.getD_eq_getElem?_getD, h]
theorem row_len {g : Gd} (h : validP g = true) {i : Nat} (hi : i < topOf (gF g)) : ((gM g).getD i []).length = topOf (gN g) := by
  obtain ⟨p1, p2, p3, p4, p5, p6, p7, p8, p9⟩ := valid_parts h
  exact (((shaped_iff _ _ _ _).1 p7).2 i hi).1
end PG
end Go.Proofs.YtjmlfknogjaemaaDoor
