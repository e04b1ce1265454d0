/- Page: the document's Read. -/
import Derived.Test.YtjmlfknogjaemaaM43
set_option linter.unusedVariables false
set_option linter.unusedSimpArgs false
set_option maxRecDepth 10000
namespace Go.Proofs.Ytjmlfknogjaemaa
open Go Go.Proofs.Ytjmlfknogjaemaa.Vc
namespace PG
open Vc.PG NI
theorem namedGo_sub (l : List ByteArray) : ∀ (s : List Se) (t : List ByteArray × List Int × List Int) (x : Int), x ∈ (s.foldl (namedStep l) t).2.2 → x ∈ t.2.2 ∨ ∃ p ∈ s, p.2 = x
  | [], t, x, h => .inl h
  | p :: s, t, x, h => by
    rcases namedGo_sub l s _ x h with h1 | ⟨q, hq, he⟩
    · unfold namedStep at h1
      split at h1
      · simp only [List.mem_append, List.mem_singleton] at h1
        rcases h1 with h1 | h1
        · exact .inl h1
        · exact .inr ⟨p, List.mem_cons_self, h1.symm⟩
      · exact .inl h1
    · exact .inr ⟨q, List.mem_cons_of_mem _ hq, he⟩
theorem namedP_sub {l : List ByteArray} {s : List Se} {x : Int} (h : x ∈ (namedP l s).2.2) : ∃ p ∈ s, p.2 = x := by
  rcases namedGo_sub l s _ x h with h1 | h1
  · simp at h1
  · exact h1
theorem spans_rows {l : List ByteArray} {s : List Se} {N : Nat} {o : Bool} (h : SpansP s N o) : ∀ x ∈ (namedP l s).2.2, 1 ≤ x ∧ x ≤ N := by
  intro x hx
  obtain ⟨p, hp, rfl⟩ := namedP_sub hx
  obtain ⟨i, hi, rfl⟩ := (mem_getD se0 _ _).1 hp
  exact h.2 i hi
theorem spans_one {a : List Se} {N : Nat} (h : SpansP a N true) {k : Nat} (hk : k < N) : ∃ x, a.filter (fun p => decide (p.2 = ((k + 1 : Nat) : Int))) = [x] ∧ seatOf a ((k + 1 : Nat) : Int) = some x := by
  obtain ⟨h1, h2⟩ := h.1 k hk
  have h2 := h2 rfl
  unfold cnt at h1 h2
  have hl : (a.filter fun p => decide (p.2 = ((k + 1 : Nat) : Int))).length = 1 := by omega
  obtain ⟨x, hx⟩ := List.length_eq_one_iff.1 hl
  refine ⟨x, hx, ?_⟩
  unfold seatOf
  rw [← List.head?_filter, hx]; rfl
def nameK (l : List ByteArray) (a : List Se) (i : Nat) : ByteArray := (thing l ((seatOf a ((i + 1 : Nat) : Int)).getD se0).1).1
theorem listedP_nameK (l : List ByteArray) (a : List Se) : listedP l a = (List.range a.length).map (nameK l a) := rfl
abbrev rrK (vals : List Sl) (M : List (List Int)) (VM XO YN ZC XS YF ZR XA X1 : Sl) (W : List Int) (t : Nat) (l : List ByteArray) (bg b0 : Nat) : List Chunk :=
  [Chunk.keep (InRs vals M), Chunk.ls encL 82 VM.v vals, txs XO.v (namedP l (seatsP W 2 t)).1, ints YN.v (namedP l (seatsP W 2 t)).2.1, ints ZC.v (colsP W t l), txs XS.v (namedP l (seatsP W 1 t)).1, ints YF.v (namedP l (seatsP W 1 t)).2.1, ints ZR.v (rowsP W t l), txs XA.v (listedP l (seatsP W 3 t)),
    bgC bg XA XS XO YF YN VM, sesR X1.v (seatsP W 1 t), b0C b0]
theorem readR {w : World} {A : Option Addr} {n c : Nat} {W : List Int} {x : Nat} {l : List ByteArray} (hW0 : InW w A n W) (hX0 : RefAt w x l) (hl : l.length ≤ 1048576) (hn : n ≤ 1000000000) (hr : ∀ i, W.getD i 0 ≤ 9223372036854775807)
    (law : ∀ t : Nat, tabP W = (t : Int) → 0 < t → shapeB W t = true → seatedB W t l = true → LaidT W t → readP W l = (W.getD 0 0, graphP W t l, 0)) (law2 : ¬ LaidP W l → readP W l = (0, emptyG, 120)) :
    Calls Try.prog 26 #[.slice A n c, .pointer (some ⟨x, 0, none⟩)] w fun e w' => ∃ v, e = .returned v ∧ rdPost (readP W l) w v w' := by
  refine f26.calls (R := rdPost (readP W l) w) ?_
  dsimp only [f26.VC]
  have hW : ∀ w', Fr [] w w' → InW w' A n W := fun w' h => hW0.fr h
  have hX : ∀ w', Fr [] w w' → RefAt w' x l := fun w' h => hX0.fr h
  have hlen := hW0.1
  have hT := tabP_range W
  have hS1 := (St.start w).alloc #[.slice none 0 0, .slice none 0 0, .slice none 0 0, .slice none 0 0, .slice none 0 0, .slice none 0 0] 29
  generalize w.heap.size = b0 at *
  generalize World.alloc w (.cells #[.slice none 0 0, .slice none 0 0, .slice none 0 0, .slice none 0 0, .slice none 0 0, .slice none 0 0] 29) = w1 at *
  refine Calls.mono (laidR (hW _ hS1.frame) (hX _ hS1.frame) hl hn hr) ?_
  rintro _ w2 ⟨bl, rfl, hbl, f2⟩
  have hS2 := hS1.go f2
  refine ⟨_, rfl, sel_of (fun h => ?_) (fun h => ?_)⟩
  · have h : bl = false := by simpa using h
    exact endE rfl hS2 0 rfl (fun w' hf => rd_bad (law2 fun hh => by have := hbl.2 hh; rw [h] at this; cases this) hf)
  have h : bl = true := by simpa using h
  obtain ⟨t, ht, ht0, hshape, hseat, hLT⟩ := hbl.1 h
  have hans := law t ht ht0 hshape hseat hLT
  rw [ht] at hT
  have hT4 := hT.2.2 (by omega)
  have ht1 : W.getD 1 0 = (t : Int) := hT4.2.2.1
  have hsh : (1 ≤ W.getD 0 0 ∧ W.getD 0 0 ≤ 2147483647 ∧ 0 ≤ W.getD 2 0 ∧ W.getD 2 0 ≤ 64 ∧ 0 ≤ W.getD 3 0 ∧ W.getD 3 0 ≤ 64) ∧ (W.length : Int) = 4 + 2 * t + W.getD 2 0 * W.getD 3 0 := by
    unfold shapeB at hshape
    rw [Bool.and_eq_true, decide_eq_true_iff, decide_eq_true_iff] at hshape
    exact hshape
  obtain ⟨hsh1, hsh2⟩ := hsh
  obtain ⟨q1, q2, q3, q4, q5, q6, q7, q8⟩ := hLT
  obtain ⟨b, o, rfl, hc0⟩ := hW0.2 (by omega)
  clear hS1
  have hS3 := hS2.alloc #[.slice none 0 0, .slice none 0 0, .slice none 0 0, .slice none 0 0, .slice none 0 0, .slice none 0 0] 29
  generalize w2.heap.size = bg at *
  generalize World.alloc w2 (.cells #[.slice none 0 0, .slice none 0 0, .slice none 0 0, .slice none 0 0, .slice none 0 0, .slice none 0 0] 29) = w3 at *
  refine Calls.mono (seatsR hS3 hW hr ht1 (by omega) (by omega) 3) ?_
  rintro _ w4 ⟨⟨A33, n33, c33⟩, rfl, hS4⟩
  have g33 : n33 = (seatsP W 3 t).length := hS4.lrLen 0 rfl
  refine ⟨A33, n33, c33, rfl, ?_⟩
  clear hS2 hS3
  have hS5 : St [] w w4 [txs nilS.v ((List.range 0).map (nameK l (seatsP W 3 t))), sesR (.slice A33 n33 c33) (seatsP W 3 t), bgC bg nilS nilS nilS nilS nilS nilS, b0C b0] := hS4.nil 9 1
  clear hS4
  refine ⟨fun z w' r => ∃ (k : Nat) (VA : Sl), z = ((k + 1 : Nat) : Int) ∧ k + r = n33 ∧ St [] w w' [txs VA.v ((List.range k).map (nameK l (seatsP W 3 t))), sesR (.slice A33 n33 c33) (seatsP W 3 t), bgC bg VA nilS nilS nilS nilS nilS, b0C b0], ⟨n33, 0, nilS, rfl, by omega, hS5⟩, ?_⟩
  clear hS5
  rintro d z w5 r ⟨k, VA, rfl, hkr, hS⟩
  refine sel_of (fun hd => ?_) (fun hd => ?_)
  · have hk : k < n33 := by have := of_decide_eq_true hd; omega
    obtain ⟨y, hy1, hy2⟩ := spans_one q5 (k := k) (by omega)
    refine ⟨fun z w' q => ∃ (i : Nat) (VA : Sl), z = (i : Int) ∧ i + q = n33 ∧ St [] w w' [txs VA.v ((List.range k).map (nameK l (seatsP W 3 t)) ++ (((seatsP W 3 t).take i).filter fun p => decide (p.2 = ((k + 1 : Nat) : Int))).map fun s => (thing l s.1).1), sesR (.slice A33 n33 c33) (seatsP W 3 t), bgC bg VA nilS nilS nilS nilS nilS, b0C b0], ⟨n33, 0, VA, rfl, by omega, by simpa using hS⟩, ?_⟩
    clear hS
    rintro d z w6 q ⟨i, VA, rfl, hiq, hS⟩
    refine sel_of (fun hd => ?_) (fun hd => ?_)
    · have hi : i < n33 := by have := of_decide_eq_true hd; omega
      have hE := St.inS hS 1 rfl
      obtain ⟨b3, o3, rfl, hc3⟩ := hE.2 (by omega)
      obtain ⟨d1, d2⟩ := hc3 i hi
      have hs := take_snoc se0 (seatsP W 3 t) i (by omega)
      have hfl : ((((seatsP W 3 t).take i).filter fun p => decide (p.2 = ((k + 1 : Nat) : Int)))).length ≤ 4096 := by
        refine Nat.le_trans (List.length_filter_le _ _) ?_
        rw [List.length_take]; omega
      rw [inc i n33 (by omega) (by omega)]
      refine ⟨by omega, by omega, needPtr_of rfl ⟨_, by rw [Int.toNat_natCast]; exact d2, sel_of (fun hx => ⟨by omega, by omega, needPtr_of rfl ⟨_, by rw [Int.toNat_natCast]; exact d1, ?_⟩⟩) (fun hx => ?_)⟩⟩
      · have hx : ((seatsP W 3 t).getD i se0).2 = ((k + 1 : Nat) : Int) := eq_of_beq hx
        refine Calls.mono (hS.step0 (rAtE0 (hX _ hS.frame) hl _)) ?_
        rintro _ w7 ⟨rfl, hS7⟩
        obtain ⟨A', n', c', w8, r8, hS8⟩ := appX hS7 0 rfl (thing l ((seatsP W 3 t).getD i se0).1).1 (by simp only [List.length_append, List.length_map, List.length_range]; omega)
        have hS9 := hS8.set 2 rfl 0 [.slice A' n' c']
        refine ⟨_, _, rfl, _, _, _, (hS7.blk 2 rfl).cell rfl, _, _, _, w8, r8, (hS8.blk 2 rfl).can (by simp), rfl, q - 1, by omega, i + 1, (A', n', c'), rfl, by omega, ?_⟩
        rw [hs, List.filter_append, List.filter_cons, if_pos (decide_eq_true hx), List.filter_nil, List.map_append, ← List.append_assoc]
        exact hS9
      · have hx : ((seatsP W 3 t).getD i se0).2 ≠ ((k + 1 : Nat) : Int) := beq_eq_false_iff_ne.1 hx
        refine ⟨rfl, q - 1, by omega, i + 1, VA, rfl, by omega, ?_⟩
        rw [hs, List.filter_append, List.filter_cons, if_neg (by simpa using hx), List.filter_nil, List.append_nil]
        exact hS
    · have hi : i = n33 := by have := of_decide_eq_false hd; omega
      rw [List.take_of_length_le (by omega), hy1] at hS
      have ek : IntKind.i64.wrap (((k + 1 : Nat) : Int) + 1) = ((k + 1 + 1 : Nat) : Int) := by rw [i64_id (by omega) (by omega)]; omega
      rw [ek]
      refine ⟨rfl, r - 1, by omega, k + 1, VA, rfl, by omega, ?_⟩
      have en : (List.range (k + 1)).map (nameK l (seatsP W 3 t)) = (List.range k).map (nameK l (seatsP W 3 t)) ++ [(thing l y.1).1] := by
        rw [List.range_succ, List.map_append]
        congr 1
        unfold nameK
        rw [List.map_cons, hy2]; rfl
      rw [en]
      exact hS
  have hk : k = n33 := by have := of_decide_eq_false hd; omega
  have hS : St [] w w5 [txs VA.v (listedP l (seatsP W 3 t)), sesR (.slice A33 n33 c33) (seatsP W 3 t), bgC bg VA nilS nilS nilS nilS nilS, b0C b0] := by
    rw [hk] at hS
    rw [listedP_nameK, ← g33]
    exact hS
  refine Calls.mono (seatsR hS hW hr ht1 (by omega) (by omega) 1) ?_
  clear hS
  rintro _ w6 ⟨X1, rfl, hS⟩
  have g1 : X1.2.1 = (seatsP W 1 t).length := hS.lrLen 0 rfl
  refine ⟨_, _, _, rfl, Calls.mono (namedR hS 0 rfl hX hl (by omega)) ?_⟩
  clear hS
  rintro _ w7 ⟨XS, YF, ZR, rfl, hS⟩
  refine ⟨_, _, _, _, _, _, _, _, _, rfl, Calls.mono (seatsR hS hW hr ht1 (by omega) (by omega) 2) ?_⟩
  clear hS
  rintro _ w8 ⟨X2, rfl, hS⟩
  have g2 : X2.2.1 = (seatsP W 2 t).length := hS.lrLen 0 rfl
  refine ⟨_, _, _, rfl, Calls.mono (namedR hS 0 rfl hX hl (by omega)) ?_⟩
  clear hS
  rintro _ w9 ⟨XO, YN, ZC, rfl, hS⟩
  have hS0 : St [] w w9 [txs XO.v (namedP l (seatsP W 2 t)).1, ints YN.v (namedP l (seatsP W 2 t)).2.1, ints ZC.v (colsP W t l), sesR X2.v (seatsP W 2 t), txs XS.v (namedP l (seatsP W 1 t)).1, ints YF.v (namedP l (seatsP W 1 t)).2.1, ints ZR.v (rowsP W t l), sesR X1.v (seatsP W 1 t), txs VA.v (listedP l (seatsP W 3 t)), sesR (.slice A33 n33 c33) (seatsP W 3 t), bgC bg VA nilS nilS nilS nilS nilS, b0C b0] := hS
  have hSa : St [] w _ [txs XO.v (namedP l (seatsP W 2 t)).1, ints YN.v (namedP l (seatsP W 2 t)).2.1, ints ZC.v (colsP W t l), sesR X2.v (seatsP W 2 t), txs XS.v (namedP l (seatsP W 1 t)).1, ints YF.v (namedP l (seatsP W 1 t)).2.1, ints ZR.v (rowsP W t l), sesR X1.v (seatsP W 1 t), txs VA.v (listedP l (seatsP W 3 t)), sesR (.slice A33 n33 c33) (seatsP W 3 t), bgC bg VA XS nilS nilS nilS nilS, b0C b0] := hS0.set 10 rfl 1 [XS.v]
  have hSb : St [] w _ [txs XO.v (namedP l (seatsP W 2 t)).1, ints YN.v (namedP l (seatsP W 2 t)).2.1, ints ZC.v (colsP W t l), sesR X2.v (seatsP W 2 t), txs XS.v (namedP l (seatsP W 1 t)).1, ints YF.v (namedP l (seatsP W 1 t)).2.1, ints ZR.v (rowsP W t l), sesR X1.v (seatsP W 1 t), txs VA.v (listedP l (seatsP W 3 t)), sesR (.slice A33 n33 c33) (seatsP W 3 t), bgC bg VA XS nilS YF nilS nilS, b0C b0] := hSa.set 10 rfl 3 [YF.v]
  have hSc : St [] w _ [txs XO.v (namedP l (seatsP W 2 t)).1, ints YN.v (namedP l (seatsP W 2 t)).2.1, ints ZC.v (colsP W t l), sesR X2.v (seatsP W 2 t), txs XS.v (namedP l (seatsP W 1 t)).1, ints YF.v (namedP l (seatsP W 1 t)).2.1, ints ZR.v (rowsP W t l), sesR X1.v (seatsP W 1 t), txs VA.v (listedP l (seatsP W 3 t)), sesR (.slice A33 n33 c33) (seatsP W 3 t), bgC bg VA XS XO YF nilS nilS, b0C b0] := hSb.set 10 rfl 2 [XO.v]
  have hSd : St [] w _ [txs XO.v (namedP l (seatsP W 2 t)).1, ints YN.v (namedP l (seatsP W 2 t)).2.1, ints ZC.v (colsP W t l), sesR X2.v (seatsP W 2 t), txs XS.v (namedP l (seatsP W 1 t)).1, ints YF.v (namedP l (seatsP W 1 t)).2.1, ints ZR.v (rowsP W t l), sesR X1.v (seatsP W 1 t), txs VA.v (listedP l (seatsP W 3 t)), sesR (.slice A33 n33 c33) (seatsP W 3 t), bgC bg VA XS XO YF YN nilS, b0C b0] := hSc.set 10 rfl 4 [YN.v]
  refine ⟨_, _, _, _, _, _, _, _, _, rfl, (hS0.blk 10 rfl).can (by simp), (hSa.blk 10 rfl).can (by simp), (hSb.blk 10 rfl).can (by simp), (hSc.blk 10 rfl).can (by simp), ?_⟩
  generalize setCs w9 bg 1 [XS.v] = wa at *
  generalize setCs wa bg 3 [YF.v] = wb at *
  generalize setCs wb bg 2 [XO.v] = wc at *
  generalize setCs wc bg 4 [YN.v] = wd at *
  have hS : St [] w wd (rrK [] [] nilS XO YN ZC XS YF ZR VA X1 W t l bg b0) := ((hSd.nil 82 1).sel [0, 1, 2, 3, 5, 6, 7, 9, 11, 8, 12] (by decide) [Chunk.ls encL 82 nilS.v [], txs XO.v (namedP l (seatsP W 2 t)).1, ints YN.v (namedP l (seatsP W 2 t)).2.1, ints ZC.v (colsP W t l), txs XS.v (namedP l (seatsP W 1 t)).1, ints YF.v (namedP l (seatsP W 1 t)).2.1, ints ZR.v (rowsP W t l), txs VA.v (listedP l (seatsP W 3 t)),
    bgC bg VA XS XO YF YN nilS, sesR X1.v (seatsP W 1 t), b0C b0] rfl).new (Fr.refl _ _) (c := Chunk.keep (InRs [] [])) (F := []) ⟨fun S w' _ _ => ⟨rfl, fun i hi => by simp at hi⟩, by simp⟩ (by simp)
  clear hSa hSb hSc hSd hS0
  obtain ⟨k1, k2, k3⟩ := namedP_len l (seatsP W 1 t)
  obtain ⟨m1, m2, m3⟩ := namedP_len l (seatsP W 2 t)
  have k4 : (rowsP W t l).length ≤ (seatsP W 1 t).length := k3
  have m4 : (colsP W t l).length ≤ (seatsP W 2 t).length := m3
  have gR : ZR.2.1 = (rowsP W t l).length := hS.lsLen 7 rfl
  have gC' : ZC.2.1 = (colsP W t l).length := hS.lsLen 4 rfl
  obtain ⟨H2, h2⟩ : ∃ H2 : Nat, W.getD 2 0 = (H2 : Int) := ⟨(W.getD 2 0).toNat, by omega⟩
  obtain ⟨H3, h3⟩ : ∃ H3 : Nat, W.getD 3 0 = (H3 : Int) := ⟨(W.getD 3 0).toNat, by omega⟩
  have n2 : (W.getD 2 0).toNat = H2 := by omega
  have n3 : (W.getD 3 0).toNat = H3 := by omega
  rw [n2, n3] at q8
  rw [n2] at q6
  rw [n3] at q7
  have R1 : ∀ r ∈ rowsP W t l, 1 ≤ r ∧ r ≤ H2 := spans_rows q6
  have C1 : ∀ y ∈ colsP W t l, 1 ≤ y ∧ y ≤ H3 := spans_rows q7
  have hp16 : (2 : Int) ^ (seatsP W 3 t).length ≤ 65536 := pow_le (by omega)
  have hu : ∀ r ∈ rowsP W t l, ∀ y ∈ colsP W t l, 0 ≤ maskP W t (W.getD 3 0) r y ∧ maskP W t (W.getD 3 0) r y ≤ 65535 := by
    intro r hr' y hy
    have a1 := R1 r hr'
    have a2 := C1 y hy
    have := q8.1 (r - 1).toNat (by omega) (y - 1).toNat (by omega)
    unfold mskN at this
    rw [show (((r - 1).toNat + 1 : Nat) : Int) = r by omega, show (((y - 1).toNat + 1 : Nat) : Int) = y by omega] at this
    omega
  refine ⟨fun z w' r => ∃ (i : Nat) (VM : Sl) (vals : List Sl), z = (i : Int) ∧ i + r = ZR.2.1 ∧ St [] w w' (rrK vals (((rowsP W t l).take i).map fun r => (colsP W t l).map fun y => maskP W t (W.getD 3 0) r y) VM XO YN ZC XS YF ZR VA X1 W t l bg b0), ⟨ZR.2.1, 0, nilS, [], rfl, by omega, hS⟩, ?_⟩
  clear hS
  rintro d z w21 r ⟨i, VM, vals, rfl, hir, hS⟩
  have gV : vals.length = i := by
    have h1 := (hS.says 0 rfl).1
    rw [h1, List.length_map, List.length_take]; omega
  refine sel_of (fun hd => ?_) (fun hd => ?_)
  · have hi : i < ZR.2.1 := by have := of_decide_eq_true hd; omega
    have hiR : (rowsP W t l).getD i 0 ∈ rowsP W t l := (mem_getD 0 _ _).2 ⟨i, by omega, rfl⟩
    have hri := take_snoc 0 (rowsP W t l) i (by omega)
    refine ⟨fun A17 n17 c17 z w' q => ∃ j : Nat, z = (j : Int) ∧ j + q = ZC.2.1 ∧
      St [] w w' (slU (.slice A17 n17 c17) (((colsP W t l).take j).map fun y => maskP W t (W.getD 3 0) ((rowsP W t l).getD i 0) y) :: rrK vals (((rowsP W t l).take i).map fun r => (colsP W t l).map fun y => maskP W t (W.getD 3 0) r y) VM XO YN ZC XS YF ZR VA X1 W t l bg b0), ⟨ZC.2.1, 0, rfl, by omega, hS.nil 79 1⟩, ?_⟩
    clear hS
    rintro d A17 n17 c17 z w22 q ⟨j, rfl, hjq, hS⟩
    refine sel_of (fun hd => ?_) (fun hd => ?_)
    · have hj : j < ZC.2.1 := by have := of_decide_eq_true hd; omega
      have hjC : (colsP W t l).getD j 0 ∈ colsP W t l := (mem_getD 0 _ _).2 ⟨j, by omega, rfl⟩
      have hcj := take_snoc 0 (colsP W t l) j (by omega)
      have hIR := St.inI hS 8 rfl
      have hIC := St.inI hS 5 rfl
      obtain ⟨b4, o4, e4, hc4⟩ := hIR.2 (by omega)
      obtain ⟨b5, o5, e5, hc5⟩ := hIC.2 (by omega)
      have a1 := R1 _ hiR
      have a2 := C1 _ hjC
      have a3 := hu _ hiR _ hjC
      have hSd := hS.drew
      have hmk := pmaskR (c := c) (hW _ hSd.frame) ht1 (by omega) (by omega) (by omega) (x := (rowsP W t l).getD i 0) (y := (colsP W t l).getD j 0) (by omega) (by omega)
      have cR := hc4 i hi
      have cC := hc5 j hj
      generalize (rowsP W t l).getD i 0 = ri at *
      generalize (colsP W t l).getD j 0 = cj at *
      refine ⟨by omega, by omega, needPtr_of e4 ⟨by omega, by omega, needPtr_of e5 ⟨_, by rw [Int.toNat_natCast, Nat.mul_one]; exact cR, _, by rw [Int.toNat_natCast, Nat.mul_one]; exact cC, ?_⟩⟩⟩
      refine Calls.mono (hSd.step0 hmk) ?_
      rintro _ w23 ⟨rfl, hS3⟩
      generalize hmv : maskP W t (W.getD 3 0) ri cj = mv at *
      have e16 : IntKind.u16.wrap mv = mv := by rw [u16_wrap]; omega
      have gJ : (((colsP W t l).take j).map fun y => maskP W t (W.getD 3 0) ri y).length ≤ 4000000 := by simp; omega
      obtain ⟨A', n', c', w24, r1, hS4⟩ := appU hS3 0 rfl mv gJ
      refine ⟨_, rfl, ?_⟩
      rw [e16, inc j 1000000 (by omega) (by omega)]
      refine ⟨_, _, _, w24, r1, rfl, q - 1, by omega, j + 1, rfl, by omega, ?_⟩
      rw [hcj, List.map_append, List.map_cons, List.map_nil, hmv]
      exact hS4
    · have hj : j = ZC.2.1 := by have := of_decide_eq_false hd; omega
      rw [List.take_of_length_le (by omega)] at hS
      rw [inc i 1000000 (by omega) (by omega)]
      refine ⟨_, _, _, (hS.blk 10 rfl).cell rfl, ?_⟩
      obtain ⟨A', n', c', w23, r1, hS1⟩ := appL hS 2 rfl (A17, n17, c17) (by omega)
      have hS2 : St [] w w23 _ := keepRow hS1
      have hS3 := hS2.set 9 rfl 5 [.slice A' n' c']
      refine ⟨_, _, _, w23, r1, (hS2.blk 9 rfl).can (by simp), rfl, r - 1, by omega, i + 1, (A', n', c'), vals ++ [(A17, n17, c17)], rfl, by omega, ?_⟩
      rw [hri, List.map_append]
      exact hS3
  · have hi : i = ZR.2.1 := by have := of_decide_eq_false hd; omega
    rw [List.take_of_length_le (by omega)] at hS
    have hS : St [] w w21 (rrK vals (masksP W t (W.getD 3 0) (rowsP W t l) (colsP W t l)) VM XO YN ZC XS YF ZR VA X1 W t l bg b0) := hS
    have hS' := hS.drew.over 11 rfl [VA.v, XS.v, XO.v, YF.v, YN.v, VM.v] rfl
    have hcc : w21.cell? ⟨b, o, none⟩ = some (.int .i64 (W.getD 0 0)) := hS.frame.cell (hc0 0 (by omega))
    refine ⟨by omega, by omega, needPtr_of rfl ⟨_, hcc, _, _, _, (hS.blk 9 rfl).cell rfl, _, _, _, (hS.blk 9 rfl).cell rfl, _, _, _, (hS.blk 9 rfl).cell rfl, _, _, _, (hS.blk 9 rfl).cell rfl, _, _, _, (hS.blk 9 rfl).cell rfl, _, _, _, (hS.blk 9 rfl).cell rfl, (hS.blk 11 rfl).can (by simp), ?_⟩⟩
    refine ⟨_, _, _, (hS'.blk 11 rfl).cell rfl, _, _, _, (hS'.blk 11 rfl).cell rfl, _, _, _, (hS'.blk 11 rfl).cell rfl, _, _, _, (hS'.blk 11 rfl).cell rfl, _, _, _, (hS'.blk 11 rfl).cell rfl, _, _, _, (hS'.blk 11 rfl).cell rfl, ?_⟩
    have hfinG := toG hu (B3 := Chunk.blk b0 [VA.v, XS.v, XO.v, YF.v, YN.v, VM.v].toArray 29) hS'
    rw [hans]
    clear hS' hS hans hu law law2
    generalize graphP W t l = G at *
    exact ⟨⟨VA, XS, XO, YF, YN, VM⟩, rfl, hfinG⟩
end PG
end Go.Proofs.Ytjmlfknogjaemaa
