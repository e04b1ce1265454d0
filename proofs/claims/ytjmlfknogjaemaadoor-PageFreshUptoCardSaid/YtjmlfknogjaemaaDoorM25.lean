/- Page: Read, the walk. -/
import Derived.Test.YtjmlfknogjaemaaDoorM24
import Derived.Test.YtjmlfknogjaemaaDoorM5
import Derived.Test.YtjmlfknogjaemaaDoorProg
import Derived.KernelRfl
set_option linter.unusedVariables false
set_option linter.unusedSimpArgs false
set_option maxRecDepth 10000
namespace Go.Proofs.YtjmlfknogjaemaaDoor
open Go Go.Proofs.YtjmlfknogjaemaaDoor.Vc
namespace PG
open Vc.PG NI
abbrev bhC (bh : Nat) (W : List Int) : Chunk := Chunk.blk bh #[.int .i64 (W.getD 0 0), .int .i64 (W.getD 1 0), .int .i64 (W.getD 2 0), .int .i64 (W.getD 3 0)] 66
abbrev b0C (b0 : Nat) : Chunk := Chunk.blk b0 #[.slice none 0 0, .slice none 0 0, .slice none 0 0, .slice none 0 0, .slice none 0 0, .slice none 0 0] 32
abbrev bsC (bs : Nat) (V1 V2 V3 : Sl) : Chunk := Chunk.blk bs #[.slice none 0 0, V1.v, V2.v, V3.v] 68
abbrev bgC (bg : Nat) (a b c d e f : Sl) : Chunk := Chunk.blk bg #[a.v, b.v, c.v, d.v, e.v, f.v] 32
theorem readC {w : World} {A : Option Addr} {n c : Nat} {W : List Int} {x : Nat} {l : List ByteArray} (hW0 : InW w A n W) (hX0 : IdxAt w x l) (hl : l.length ≤ 1048576) (hn : n ≤ 1000000000) (hr : ∀ i, W.getD i 0 ≤ 9223372036854775807) :
    Calls Tryd.prog 16 #[.slice A n c, .pointer (some ⟨x, 0, none⟩)] w fun e w' => ∃ v, e = .returned v ∧ rdPost (readP W l) w v w' := by
  refine f16.calls (R := rdPost (readP W l) w) ?_
  dsimp only [f16.VC]
  have hW : ∀ w', Fr [] w w' → InW w' A n W := fun w' h => hW0.fr h
  have hX : ∀ w', Fr [] w w' → IdxAt w' x l := fun w' h => hX0.fr h
  have hlen := hW0.1
  have hT := tabP_range W
  have hS1 := (St.start w).alloc #[.slice none 0 0, .slice none 0 0, .slice none 0 0, .slice none 0 0, .slice none 0 0, .slice none 0 0] 32
  generalize w.heap.size = b0 at *
  generalize World.alloc w (.cells #[.slice none 0 0, .slice none 0 0, .slice none 0 0, .slice none 0 0, .slice none 0 0, .slice none 0 0] 32) = w1 at *
  refine Calls.mono (hS1.step0 (tableC (hW _ hS1.frame) hn)) ?_
  rintro _ w2 ⟨rfl, hS2⟩
  obtain ⟨t, ht⟩ : ∃ t : Nat, tabP W = t := ⟨(tabP W).toNat, by omega⟩
  rw [ht]
  rw [ht] at hT
  have hbad : ¬ (t ≠ 0 ∧ shapeB W t = true ∧ goodB W t l = true) → ∀ w', Fr [] w w' → rdPost (readP W l) w (.tuple #[.int .i64 0, nilG.v, .int .i64 120]) w' := fun h w' hf => rd_bad (readP_bad ht h) hf
  refine ⟨_, rfl, sel_of (fun h => ?_) (fun h => ?_)⟩
  · have h : (t : Int) = 0 := eq_of_beq h
    exact endE rfl hS2 0 rfl (hbad fun hh => by omega)
  have h : (t : Int) ≠ 0 := beq_eq_false_iff_ne.1 h
  have ht0 : 0 < t := by omega
  have hT4 := hT.2.2 h
  obtain ⟨b, o, rfl, hc⟩ := (hW w2 hS2.frame).2 (by omega)
  have hS3 := hS2.alloc #[.int .i64 0, .int .i64 0, .int .i64 0, .int .i64 0] 66
  have hS4 := hS3.over 0 rfl [.int .i64 (W.getD 0 0), .int .i64 (W.getD 1 0), .int .i64 (W.getD 2 0), .int .i64 (W.getD 3 0)] rfl
  refine ⟨by omega, needPtr_of rfl ⟨_, hc 0 (by omega), _, hc 1 (by omega), _, hc 2 (by omega), _, hc 3 (by omega), (hS3.blk 0 rfl).can (by decide), ?_⟩⟩
  generalize w2.heap.size = bh at *
  generalize World.alloc w2 (.cells #[.int .i64 0, .int .i64 0, .int .i64 0, .int .i64 0] 66) = w3 at *
  generalize setCs w3 bh 0 [.int .i64 (W.getD 0 0), .int .i64 (W.getD 1 0), .int .i64 (W.getD 2 0), .int .i64 (W.getD 3 0)] = w4 at *
  have hS4 : St [] w w4 [Chunk.blk bh #[.int .i64 (W.getD 0 0), .int .i64 (W.getD 1 0), .int .i64 (W.getD 2 0), .int .i64 (W.getD 3 0)] 66, Chunk.blk b0 #[.slice none 0 0, .slice none 0 0, .slice none 0 0, .slice none 0 0, .slice none 0 0, .slice none 0 0] 32] := hS4
  have hsh : shapeB W t = true ↔ (1 ≤ W.getD 0 0 ∧ W.getD 0 0 ≤ 2147483647 ∧ 0 ≤ W.getD 2 0 ∧ W.getD 2 0 ≤ 64 ∧ 0 ≤ W.getD 3 0 ∧ W.getD 3 0 ≤ 64) ∧ (W.length : Int) = 4 + 2 * t + W.getD 2 0 * W.getD 3 0 := by
    unfold shapeB
    rw [Bool.and_eq_true, decide_eq_true_iff, decide_eq_true_iff]
  have herr : ¬ (shapeB W t = true) → ∀ w', Fr [] w w' → rdPost (readP W l) w (.tuple #[.int .i64 0, nilG.v, .int .i64 120]) w' := fun hh => hbad fun k => hh k.2.1
  clear hS1 hS2 hS3
  refine ⟨by decide, by decide, _, (hS4.blk 0 rfl).cell rfl, sel_of (fun c1 => ?_) (fun c1 => endE rfl hS4 1 rfl (herr fun hh => by have := of_decide_eq_false c1; have := (hsh.1 hh).1; omega))⟩
  have c1 := of_decide_eq_true c1
  refine ⟨by decide, by decide, _, (hS4.blk 0 rfl).cell rfl, sel_of (fun c2 => ?_) (fun c2 => endE rfl hS4 1 rfl (herr fun hh => by have := of_decide_eq_false c2; have := (hsh.1 hh).1; omega))⟩
  have c2 := of_decide_eq_true c2
  refine ⟨by decide, by decide, _, (hS4.blk 0 rfl).cell rfl, sel_of (fun c3 => ?_) (fun c3 => endE rfl hS4 1 rfl (herr fun hh => by have := of_decide_eq_false c3; have := (hsh.1 hh).1; omega))⟩
  have c3 := of_decide_eq_true c3
  refine ⟨by decide, by decide, _, (hS4.blk 0 rfl).cell rfl, sel_of (fun c4 => ?_) (fun c4 => endE rfl hS4 1 rfl (herr fun hh => by have := of_decide_eq_false c4; have := (hsh.1 hh).1; omega))⟩
  have c4 := of_decide_eq_true c4
  refine ⟨by decide, by decide, _, (hS4.blk 0 rfl).cell rfl, sel_of (fun c5 => ?_) (fun c5 => endE rfl hS4 1 rfl (herr fun hh => by have := of_decide_eq_false c5; have := (hsh.1 hh).1; omega))⟩
  have c5 := of_decide_eq_true c5
  refine ⟨by decide, by decide, _, (hS4.blk 0 rfl).cell rfl, sel_of (fun c6 => endE rfl hS4 1 rfl (herr fun hh => by have c6 : ¬ (W.getD 3 0 ≤ 64) := (by simpa using c6); have := (hsh.1 hh).1; omega)) (fun c6 => ?_)⟩
  have c6 : W.getD 3 0 ≤ 64 := by simpa using c6
  have hP0 : 0 ≤ W.getD 2 0 * W.getD 3 0 := Int.mul_nonneg c3 c5
  have hP1 : W.getD 2 0 * W.getD 3 0 ≤ 64 * 64 := Int.mul_le_mul c4 c6 c5 (by decide)
  have eL : IntKind.i64.wrap (IntKind.i64.wrap (4 + IntKind.i64.wrap (2 * (t : Int))) + IntKind.i64.wrap (W.getD 2 0 * W.getD 3 0)) = 4 + 2 * t + W.getD 2 0 * W.getD 3 0 := by
    generalize W.getD 2 0 * W.getD 3 0 = p at *
    rw [i64_id (x := 2 * _) (by omega) (by omega), i64_id (x := p) (by omega) (by omega), i64_id (x := 4 + _) (by omega) (by omega), i64_id (by omega) (by omega)]
  refine ⟨by decide, by decide, _, (hS4.blk 0 rfl).cell rfl, by decide, by decide, _, (hS4.blk 0 rfl).cell rfl, ?_⟩
  rw [eL]
  refine sel_of (fun c7 => endE rfl hS4 1 rfl (herr fun hh => by have c7 : (n : Int) ≠ 4 + 2 * t + W.getD 2 0 * W.getD 3 0 := (by simpa using c7); have := (hsh.1 hh).2; omega)) (fun c7 => ?_)
  have c7 : (n : Int) = 4 + 2 * t + W.getD 2 0 * W.getD 3 0 := by simpa using c7
  have hshape : shapeB W t = true := hsh.2 ⟨⟨c1, c2, c3, c4, c5, c6⟩, by omega⟩
  clear hbad herr
  have hgood : ¬ (goodB W t l = true) → ∀ w', Fr [] w w' → rdPost (readP W l) w (.tuple #[.int .i64 0, nilG.v, .int .i64 120]) w' := fun hh w' hf => rd_bad (readP_bad ht fun k => hh k.2.2) hf
  refine Calls.mono (sortedC hS4 hW hX hl hn hr ht ht0) ?_
  rintro _ w5 ⟨V1, V2, V3, s1, s2, s3, rfl, hS5, v1, v2, v3, hsl, hs⟩
  have hS6 := hS5.alloc #[.slice none 0 0, .slice none 0 0, .slice none 0 0, .slice none 0 0] 68
  have hS7 := hS6.over 0 rfl [.slice none 0 0, V1.v, V2.v, V3.v] rfl
  refine ⟨_, _, _, _, _, _, _, _, _, _, _, _, _, rfl, (hS6.blk 0 rfl).can (by decide), ?_⟩
  generalize w5.heap.size = bs at *
  generalize World.alloc w5 (.cells #[.slice none 0 0, .slice none 0 0, .slice none 0 0, .slice none 0 0] 68) = w6 at *
  generalize setCs w6 bs 0 _ = w7 at *
  have hS7 : St [] w w7 (Chunk.blk bs #[.slice none 0 0, V1.v, V2.v, V3.v] 68 :: ses V1.v s1 :: ses V2.v s2 :: ses V3.v s3 :: [Chunk.blk bh #[.int .i64 (W.getD 0 0), .int .i64 (W.getD 1 0), .int .i64 (W.getD 2 0), .int .i64 (W.getD 3 0)] 66, Chunk.blk b0 #[.slice none 0 0, .slice none 0 0, .slice none 0 0, .slice none 0 0, .slice none 0 0, .slice none 0 0] 32]) := hS7
  refine sel_of (fun c8 => endE rfl hS7 5 rfl (hgood fun hh => by rw [(good_parts.1 hh).1] at c8; cases c8)) (fun c8 => ?_)
  have c8 : seatedB W t l = true := by simpa using c8
  obtain ⟨rfl, rfl, rfl⟩ := hs c8
  have g1 := hS7.lrLen 1 rfl
  have g2 := hS7.lrLen 2 rfl
  have g3 := hS7.lrLen 3 rfl
  clear hS4 hS5 hS6
  refine ⟨by decide, by decide, _, _, _, (hS7.blk 0 rfl).cell rfl, by decide, by decide, _, _, _, (hS7.blk 0 rfl).cell rfl, by decide, by decide, _, _, _, (hS7.blk 0 rfl).cell rfl, ?_⟩
  rw [i64_id (x := (V3.2.1 : Int) + V1.2.1) (by omega) (by omega), i64_id (x := (V3.2.1 : Int) + V1.2.1 + V2.2.1) (by omega) (by omega), show (V3.2.1 : Int) + V1.2.1 + V2.2.1 = (((V3.2.1 + V1.2.1 + V2.2.1 : Nat)) : Int) by omega]
  refine ⟨_, _, _, _, makeS w7 _ (by omega), ?_⟩
  have hS8 := hS7.go ((Fr.refl [] w7).alloc (cs := ((List.replicate (V3.2.1 + V1.2.1 + V2.2.1) (⟨#[]⟩ : ByteArray)).map encS).toArray) (T := 9))
  refine Calls.mono (hS8.step0 (placesC _ ⟨(some ⟨w7.heap.size, 0, none⟩, V3.2.1 + V1.2.1 + V2.2.1, V3.2.1 + V1.2.1 + V2.2.1), nilS, nilS, nilS, nilS, nilS⟩ (k := V3.2.1 + V1.2.1 + V2.2.1) rfl (by omega))) ?_
  rintro _ w9 ⟨rfl, hS9⟩
  refine ⟨_, rfl, sel_of (fun c9 => endE rfl hS9 5 rfl (hgood fun hh => by
    have h2 := (good_parts.1 hh).2.1
    have c9 : ((tabN (V3.2.1 + V1.2.1 + V2.2.1) : Nat) : Int) ≠ (t : Int) := (by simpa using c9)
    rw [g1, g2, g3, h2] at c9
    exact c9 rfl)) (fun c9 => ?_)⟩
  have c9 : tabN ((seatsP W 3 t).length + (seatsP W 1 t).length + (seatsP W 2 t).length) = t := by
    rw [g1, g2, g3] at c9
    have : ((tabN ((seatsP W 3 t).length + (seatsP W 1 t).length + (seatsP W 2 t).length) : Nat) : Int) = t := by simpa using c9
    omega
  have hS10 := hS9.alloc #[.slice none 0 0, .slice none 0 0, .slice none 0 0, .slice none 0 0, .slice none 0 0, .slice none 0 0] 32
  generalize w9.heap.size = bg at *
  generalize World.alloc w9 (.cells #[.slice none 0 0, .slice none 0 0, .slice none 0 0, .slice none 0 0, .slice none 0 0, .slice none 0 0] 32) = w10 at *
  clear hS7 hS8 hS9
  refine ⟨by decide, by decide, _, _, _, (hS10.blk 1 rfl).cell rfl, ?_⟩
  refine Calls.mono (listedC hS10 4 rfl v3 hX hl (by omega)) ?_
  rintro _ w11 ⟨XA, rfl, hS11⟩
  have hS12 : St [] w _ (txs XA.v (if listedB (seatsP W 3 t) = true then listedP l (seatsP W 3 t) else []) :: bgC bg XA nilS nilS nilS nilS nilS :: bsC bs V1 V2 V3 :: ses V1.v (seatsP W 1 t) :: ses V2.v (seatsP W 2 t) :: ses V3.v (seatsP W 3 t) :: [bhC bh W, b0C b0]) := hS11.set 1 rfl 0 [XA.v]
  refine ⟨_, _, _, _, rfl, (hS11.blk 1 rfl).can (by simp), ?_⟩
  generalize setCs w11 bg 0 [XA.v] = w12 at *
  refine sel_of (fun c10 => endE rfl hS12 7 rfl (hgood fun hh => by rw [(good_parts.1 hh).2.2.1] at c10; cases c10)) (fun c10 => ?_)
  have c10 : listedB (seatsP W 3 t) = true := by simpa using c10
  rw [if_pos c10] at hS12
  refine ⟨by decide, by decide, _, _, _, (hS12.blk 2 rfl).cell rfl, ?_⟩
  clear hS11
  refine Calls.mono (classedC hS12 3 rfl hX hl (by omega)) ?_
  rintro _ w13 ⟨XS, YF, ZR, rfl, hS13⟩
  have hS14 : St [] w _ (txs XS.v (namedP l (seatsP W 1 t)).1 :: ints YF.v (namedP l (seatsP W 1 t)).2.1 :: ints ZR.v (rowsP W t l) :: txs XA.v (listedP l (seatsP W 3 t)) :: bgC bg XA XS nilS nilS nilS nilS :: bsC bs V1 V2 V3 :: ses V1.v (seatsP W 1 t) :: ses V2.v (seatsP W 2 t) :: ses V3.v (seatsP W 3 t) :: [bhC bh W, b0C b0]) := hS13.set 4 rfl 1 [XS.v]
  have hS15 : St [] w _ (txs XS.v (namedP l (seatsP W 1 t)).1 :: ints YF.v (namedP l (seatsP W 1 t)).2.1 :: ints ZR.v (rowsP W t l) :: txs XA.v (listedP l (seatsP W 3 t)) :: bgC bg XA XS nilS YF nilS nilS :: bsC bs V1 V2 V3 :: ses V1.v (seatsP W 1 t) :: ses V2.v (seatsP W 2 t) :: ses V3.v (seatsP W 3 t) :: [bhC bh W, b0C b0]) := hS14.set 4 rfl 3 [YF.v]
  refine ⟨_, _, _, _, _, _, _, _, _, rfl, (hS13.blk 4 rfl).can (by simp), (hS14.blk 4 rfl).can (by simp), ?_⟩
  generalize setCs w13 bg 1 [XS.v] = w14 at *
  generalize setCs w14 bg 3 [YF.v] = w15 at *
  refine ⟨by decide, by decide, _, _, _, (hS15.blk 5 rfl).cell rfl, ?_⟩
  clear hS13 hS14
  refine Calls.mono (classedC hS15 7 rfl hX hl (by omega)) ?_
  rintro _ w16 ⟨XO, YN, ZC, rfl, hS16⟩
  have hS17 : St [] w _ (txs XO.v (namedP l (seatsP W 2 t)).1 :: ints YN.v (namedP l (seatsP W 2 t)).2.1 :: ints ZC.v (colsP W t l) :: txs XS.v (namedP l (seatsP W 1 t)).1 :: ints YF.v (namedP l (seatsP W 1 t)).2.1 :: ints ZR.v (rowsP W t l) :: txs XA.v (listedP l (seatsP W 3 t)) :: bgC bg XA XS XO YF nilS nilS :: bsC bs V1 V2 V3 :: ses V1.v (seatsP W 1 t) :: ses V2.v (seatsP W 2 t) :: ses V3.v (seatsP W 3 t) :: [bhC bh W, b0C b0]) := hS16.set 7 rfl 2 [XO.v]
  have hS18 : St [] w _ (txs XO.v (namedP l (seatsP W 2 t)).1 :: ints YN.v (namedP l (seatsP W 2 t)).2.1 :: ints ZC.v (colsP W t l) :: txs XS.v (namedP l (seatsP W 1 t)).1 :: ints YF.v (namedP l (seatsP W 1 t)).2.1 :: ints ZR.v (rowsP W t l) :: txs XA.v (listedP l (seatsP W 3 t)) :: bgC bg XA XS XO YF YN nilS :: bsC bs V1 V2 V3 :: ses V1.v (seatsP W 1 t) :: ses V2.v (seatsP W 2 t) :: ses V3.v (seatsP W 3 t) :: [bhC bh W, b0C b0]) := hS17.set 7 rfl 4 [YN.v]
  refine ⟨_, _, _, _, _, _, _, _, _, rfl, (hS16.blk 7 rfl).can (by simp), (hS17.blk 7 rfl).can (by simp), ?_⟩
  generalize setCs w16 bg 2 [XO.v] = w17 at *
  generalize setCs w17 bg 4 [YN.v] = w18 at *
  have hS19 := (((hS18.nil 29 1).sel [0, 1, 2, 3, 4, 5, 6, 7, 8, 13, 14] (by decide) [Chunk.ls encL 29 nilS.v [], txs XO.v (namedP l (seatsP W 2 t)).1, ints YN.v (namedP l (seatsP W 2 t)).2.1, ints ZC.v (colsP W t l), txs XS.v (namedP l (seatsP W 1 t)).1, ints YF.v (namedP l (seatsP W 1 t)).2.1, ints ZR.v (rowsP W t l), txs XA.v (listedP l (seatsP W 3 t)),
    Chunk.blk bg #[XA.v, XS.v, XO.v, YF.v, YN.v, nilS.v] 32, Chunk.blk bh #[.int .i64 (W.getD 0 0), .int .i64 (W.getD 1 0), .int .i64 (W.getD 2 0), .int .i64 (W.getD 3 0)] 66, Chunk.blk b0 #[.slice none 0 0, .slice none 0 0, .slice none 0 0, .slice none 0 0, .slice none 0 0, .slice none 0 0] 32] rfl).new (Fr.refl _ _) (c := Chunk.keep (InRs [] [])) (F := []) ⟨fun S w' _ _ => ⟨rfl, fun i hi => by simp at hi⟩, by simp⟩ (by simp))
  have hS : St [] w w18 (rdK [] [] nilS XO YN ZC XS YF ZR XA W t l bg bh b0) := hS19
  clear hS12 hS15 hS16 hS17 hS18 hS19
  obtain ⟨k1, k2, k3⟩ := namedP_len l (seatsP W 1 t)
  obtain ⟨m1, m2, m3⟩ := namedP_len l (seatsP W 2 t)
  have k4 : (rowsP W t l).length ≤ (seatsP W 1 t).length := k3
  have m4 : (colsP W t l).length ≤ (seatsP W 2 t).length := m3
  have gR : ZR.2.1 = (rowsP W t l).length := hS.lsLen 7 rfl
  have gC' : ZC.2.1 = (colsP W t l).length := hS.lsLen 4 rfl
  refine ⟨by decide, by decide, _, (hS.blk 10 rfl).cell rfl, ?_⟩
  refine Calls.mono (wholeC (St.inI hS 7 rfl) (by rw [gR]; omega) _) ?_
  rintro _ w19 ⟨rfl, rfl⟩
  refine ⟨_, rfl, sel_of (fun c11 => endE rfl hS 11 rfl (hgood fun hh => by rw [(good_parts.1 hh).2.2.2.1] at c11; cases c11)) (fun c11 => ?_)⟩
  have c11 : wholeB (rowsP W t l) (W.getD 2 0) = true := by simpa using c11
  refine ⟨by decide, by decide, _, (hS.blk 10 rfl).cell rfl, ?_⟩
  refine Calls.mono (wholeC (St.inI hS 4 rfl) (by rw [gC']; omega) _) ?_
  rintro _ w20 ⟨rfl, rfl⟩
  refine ⟨_, rfl, sel_of (fun c12 => endE rfl hS 11 rfl (hgood fun hh => by rw [(good_parts.1 hh).2.2.2.2.1] at c12; cases c12)) (fun c12 => ?_)⟩
  have c12 : wholeB (colsP W t l) (W.getD 3 0) = true := by simpa using c12
  obtain ⟨R1, R2⟩ := whole_parts c11
  obtain ⟨C1, C2⟩ := whole_parts c12
  have hmbad : ∀ r ∈ rowsP W t l, ∀ y ∈ colsP W t l, ¬ (0 ≤ maskP W t (W.getD 3 0) r y ∧ maskP W t (W.getD 3 0) r y ≤ 65535) → ∀ w', Fr [] w w' → rdPost (readP W l) w (.tuple #[.int .i64 0, nilG.v, .int .i64 120]) w' := fun r hr' y hy hno => hgood fun hh => hno ((good_parts.1 hh).2.2.2.2.2.1 r hr' y hy)
  refine ⟨fun z w' r => ∃ (i : Nat) (VM : Sl) (vals : List Sl), z = (i : Int) ∧ i + r = ZR.2.1 ∧ (∀ q, q < i → ∀ y ∈ colsP W t l, 0 ≤ maskP W t (W.getD 3 0) ((rowsP W t l).getD q 0) y ∧ maskP W t (W.getD 3 0) ((rowsP W t l).getD q 0) y ≤ 65535) ∧
    St [] w w' (rdK vals (((rowsP W t l).take i).map fun r => (colsP W t l).map fun y => maskP W t (W.getD 3 0) r y) VM XO YN ZC XS YF ZR XA W t l bg bh b0), ⟨ZR.2.1, 0, nilS, [], rfl, by omega, fun q hq => by omega, hS⟩, ?_⟩
  clear hS
  rintro d z w21 r ⟨i, VM, vals, rfl, hir, hyes, hS⟩
  have gV : vals.length = i := by
    have h1 := (hS.says 0 rfl).1
    rw [h1, List.length_map, List.length_take]; omega
  refine sel_of (fun hd => ?_) (fun hd => ?_)
  · have hi : i < ZR.2.1 := by have := of_decide_eq_true hd; omega
    have hiR : (rowsP W t l).getD i 0 ∈ rowsP W t l := (mem_getD 0 _ _).2 ⟨i, by omega, rfl⟩
    have hR := R1 _ hiR
    have hri := take_snoc 0 (rowsP W t l) i (by omega)
    have hIR := St.inI hS 7 rfl
    refine ⟨by omega, by omega, InW.need hIR (Fr.refl _ _) rfl hi ?_⟩
    generalize hgi : (rowsP W t l).getD i 0 = ri at *
    refine ⟨_, _, _, _, makeU w21 _ (by rw [gC']; omega), ?_⟩
    have hSa := hS.alloc ((List.replicate ZC.2.1 (0 : Int)).map encU).toArray 59
    have hSb := hSa.as 0 rfl _ (fun F hF => lu_of_made (by rw [gC']; omega) hF)
    refine ⟨fun A17 n17 c17 z w' q => ∃ j : Nat, z = (j : Int) ∧ j + q = ZC.2.1 ∧ (∀ u, u < j → 0 ≤ maskP W t (W.getD 3 0) ri ((colsP W t l).getD u 0) ∧ maskP W t (W.getD 3 0) ri ((colsP W t l).getD u 0) ≤ 65535) ∧
      St [] w w' (slU (.slice A17 n17 c17) (((colsP W t l).take j).map fun y => maskP W t (W.getD 3 0) ri y) :: rdK vals (((rowsP W t l).take i).map fun r => (colsP W t l).map fun y => maskP W t (W.getD 3 0) r y) VM XO YN ZC XS YF ZR XA W t l bg bh b0), ⟨ZC.2.1, 0, rfl, by omega, fun u hu => by omega, hSb⟩, ?_⟩
    clear hSa hSb hS
    rintro d A17 n17 c17 z w22 q ⟨j, rfl, hjq, hin, hS⟩
    refine sel_of (fun hd => ?_) (fun hd => ?_)
    · have hj : j < ZC.2.1 := by have := of_decide_eq_true hd; omega
      have hjC : (colsP W t l).getD j 0 ∈ colsP W t l := (mem_getD 0 _ _).2 ⟨j, by omega, rfl⟩
      have hC := C1 _ hjC
      have hcj := take_snoc 0 (colsP W t l) j (by omega)
      have hIC := St.inI hS 5 rfl
      refine ⟨by omega, by omega, InW.need hIC (Fr.refl _ _) rfl hj ?_⟩
      have hin2 : ∀ u, u < j + 1 → (0 ≤ maskP W t (W.getD 3 0) ri ((colsP W t l).getD j 0) ∧ maskP W t (W.getD 3 0) ri ((colsP W t l).getD j 0) ≤ 65535) → 0 ≤ maskP W t (W.getD 3 0) ri ((colsP W t l).getD u 0) ∧ maskP W t (W.getD 3 0) ri ((colsP W t l).getD u 0) ≤ 65535 := by
        intro u hu hh
        rcases Nat.lt_or_ge u j with h1 | h1
        · exact hin u h1
        · have : u = j := by omega
          subst this; exact hh
      generalize (colsP W t l).getD j 0 = cj at *
      have hpm : 0 ≤ (ri - 1) * W.getD 3 0 := Int.mul_nonneg (by omega) c5
      have hpm2 : (ri - 1) * W.getD 3 0 ≤ (W.getD 2 0 - 1) * W.getD 3 0 := Int.mul_le_mul_of_nonneg_right (by omega) c5
      have hpm3 : (W.getD 2 0 - 1) * W.getD 3 0 = W.getD 2 0 * W.getD 3 0 - W.getD 3 0 := by rw [Int.sub_mul]; omega
      have hmp : maskP W t (W.getD 3 0) ri cj = W.getD (4 + 2 * (t : Int) + (ri - 1) * W.getD 3 0 + (cj - 1)).toNat 0 := rfl
      have eI : IntKind.i64.wrap (IntKind.i64.wrap (IntKind.i64.wrap (IntKind.i64.wrap (4 + IntKind.i64.wrap (2 * (t : Int))) + IntKind.i64.wrap (IntKind.i64.wrap (ri - 1) * W.getD 3 0)) + cj) - 1) = 4 + 2 * (t : Int) + (ri - 1) * W.getD 3 0 + (cj - 1) := by
        rw [i64_id (x := ri - 1) (by omega) (by omega)]
        generalize (ri - 1) * W.getD 3 0 = p at *
        generalize W.getD 2 0 * W.getD 3 0 = pp at *
        rw [i64_id (x := 2 * _) (by omega) (by omega), i64_id (x := p) (by omega) (by omega), i64_id (x := 4 + _) (by omega) (by omega), i64_id (x := _ + p) (by omega) (by omega), i64_id (x := _ + cj) (by omega) (by omega), i64_id (by omega) (by omega)]
        omega
      refine ⟨by decide, by decide, _, (hS.blk 11 rfl).cell rfl, ?_⟩
      rw [eI]
      have hb1 : 0 ≤ 4 + 2 * (t : Int) + (ri - 1) * W.getD 3 0 + (cj - 1) := by omega
      have hb2 : 4 + 2 * (t : Int) + (ri - 1) * W.getD 3 0 + (cj - 1) < (n : Int) := by omega
      refine ⟨hb1, hb2, InW.need (hW _ hS.frame) (Fr.refl _ _) (q := (4 + 2 * (t : Int) + (ri - 1) * W.getD 3 0 + (cj - 1)).toNat) (by rw [Int.toNat_of_nonneg hb1]) (by omega) ?_⟩
      rw [← hmp]
      generalize hmv : maskP W t (W.getD 3 0) ri cj = mv at *
      refine sel_of (fun hz => endE rfl hS 12 rfl (hmbad ri hiR cj hjC (by rw [hmv]; have := of_decide_eq_true hz; omega))) (fun hz => sel_of (fun hz2 => endE rfl hS 12 rfl (hmbad ri hiR cj hjC (by rw [hmv]; have := of_decide_eq_true hz2; omega))) (fun hz2 => ?_))
      have hz := of_decide_eq_false hz
      have hz2 := of_decide_eq_false hz2
      have e16 : IntKind.u16.wrap mv = mv := by rw [u16_wrap]; omega
      rw [e16, inc j 1000000 (by omega) (by omega)]
      have gJ : (((colsP W t l).take j).map fun y => maskP W t (W.getD 3 0) ri y).length ≤ 4000000 := by simp; omega
      obtain ⟨A', n', c', w23, r1, hS1⟩ := appU hS 0 rfl mv gJ
      refine ⟨_, _, _, w23, r1, rfl, q - 1, by omega, j + 1, rfl, by omega, fun u hu => hin2 u hu (by omega), ?_⟩
      rw [hcj, List.map_append, List.map_cons, List.map_nil, hmv]
      exact hS1
    · have hj : j = ZC.2.1 := by have := of_decide_eq_false hd; omega
      rw [List.take_of_length_le (by omega)] at hS
      rw [inc i 1000000 (by omega) (by omega)]
      refine ⟨_, _, _, (hS.blk 10 rfl).cell rfl, ?_⟩
      obtain ⟨A', n', c', w23, r1, hS1⟩ := appL hS 2 rfl (A17, n17, c17) (by omega)
      have hS2 : St [] w w23 _ := keepRow hS1
      have hS3 := hS2.set 9 rfl 5 [.slice A' n' c']
      refine ⟨_, _, _, w23, r1, (hS2.blk 9 rfl).can (by simp), rfl, r - 1, by omega, i + 1, (A', n', c'), vals ++ [(A17, n17, c17)], rfl, by omega, fun q hq y hy => ?_, ?_⟩
      · rcases Nat.lt_or_ge q i with h1 | h1
        · exact hyes q h1 y hy
        · have : q = i := by omega
          subst this
          rw [hgi]
          obtain ⟨u, hu, rfl⟩ := (mem_getD 0 _ _).1 hy
          exact hin u (by omega)
      · rw [hri, List.map_append]
        exact hS3
  · have hi : i = ZR.2.1 := by have := of_decide_eq_false hd; omega
    rw [List.take_of_length_le (by omega)] at hS
    have hu : ∀ r ∈ rowsP W t l, ∀ y ∈ colsP W t l, 0 ≤ maskP W t (W.getD 3 0) r y ∧ maskP W t (W.getD 3 0) r y ≤ 65535 := by
      intro r hr' y hy
      obtain ⟨u, hu, rfl⟩ := (mem_getD 0 _ _).1 hr'
      exact hyes u (by omega) y hy
    have hS : St [] w w21 (rdK vals (masksP W t (W.getD 3 0) (rowsP W t l) (colsP W t l)) VM XO YN ZC XS YF ZR XA W t l bg bh b0) := hS
    have hG : InG w21 ⟨XA, XS, XO, YF, YN, VM⟩ (graphP W t l) := (toG hu hS).says 0 rfl
    have la : XA.2.1 = (gA (graphP W t l)).length := hG.a.1.1
    have ls : XS.2.1 = (gS (graphP W t l)).length := hG.s.1.1
    have lo : XO.2.1 = (gO (graphP W t l)).length := hG.o.1.1
    have ga : (gA (graphP W t l)).length = (seatsP W 3 t).length := by show (listedP l (seatsP W 3 t)).length = _; unfold listedP; simp
    have gs : (gS (graphP W t l)).length = (seatsP W 1 t).length := k1
    have go : (gO (graphP W t l)).length = (seatsP W 2 t).length := m1
    refine ⟨_, _, _, (hS.blk 9 rfl).cell rfl, _, _, _, (hS.blk 9 rfl).cell rfl, _, _, _, (hS.blk 9 rfl).cell rfl, _, _, _, (hS.blk 9 rfl).cell rfl, _, _, _, (hS.blk 9 rfl).cell rfl, _, _, _, (hS.blk 9 rfl).cell rfl, ?_⟩
    have hv := validC hG ⟨by show XA.2.1 ≤ _; omega, by show XS.2.1 ≤ _; omega, by show XO.2.1 ≤ _; omega⟩
    have hv2 := hS.step0 hv
    refine Calls.mono hv2 ?_
    rintro _ w22 ⟨rfl, hS⟩
    refine ⟨_, rfl, sel_of (fun c13 => endE rfl hS 11 rfl (hgood fun hh => by rw [(good_parts.1 hh).2.2.2.2.2.2] at c13; cases c13)) (fun c13 => ?_)⟩
    have c13 : validP (graphP W t l) = true := by simpa using c13
    have hgd : goodB W t l = true := good_parts.2 ⟨c8, c9, c10, c11, c12, hu, c13⟩
    have hfin := readP_good ht (by omega) hshape hgd
    have hS' := hS.drew.over 11 rfl [XA.v, XS.v, XO.v, YF.v, YN.v, VM.v] rfl
    refine ⟨by decide, by decide, _, (hS.blk 10 rfl).cell rfl, _, _, _, (hS.blk 9 rfl).cell rfl, _, _, _, (hS.blk 9 rfl).cell rfl, _, _, _, (hS.blk 9 rfl).cell rfl, _, _, _, (hS.blk 9 rfl).cell rfl, _, _, _, (hS.blk 9 rfl).cell rfl, _, _, _, (hS.blk 9 rfl).cell rfl, (hS.blk 11 rfl).can (by simp), ?_⟩
    refine ⟨_, _, _, (hS'.blk 11 rfl).cell rfl, _, _, _, (hS'.blk 11 rfl).cell rfl, _, _, _, (hS'.blk 11 rfl).cell rfl, _, _, _, (hS'.blk 11 rfl).cell rfl, _, _, _, (hS'.blk 11 rfl).cell rfl, _, _, _, (hS'.blk 11 rfl).cell rfl, ?_⟩
    rw [hfin]
    have hfinG := toG hu (B3 := Chunk.blk b0 [XA.v, XS.v, XO.v, YF.v, YN.v, VM.v].toArray 32) hS'
    clear hS' hS hfin hgd hG hgood hu
    generalize graphP W t l = G at *
    exact ⟨⟨XA, XS, XO, YF, YN, VM⟩, rfl, hfinG⟩
end PG
end Go.Proofs.YtjmlfknogjaemaaDoor
/- The plain statements of some functions, printed by vcgen.py. -/
set_option maxRecDepth 100000
set_option maxHeartbeats 4000000
set_option linter.unusedVariables false
namespace Go.Proofs.YtjmlfknogjaemaaDoor
open Go Go.Proofs.YtjmlfknogjaemaaDoor.Vc
theorem W17.mixed : Tryd.prog.follows .mixedOrders = true := by kernel_rfl
/-- gatehouse/gatehouselaw12.small -/
def f20.AL : Nat → Option Ann := fun _ => none
def f20.AC : Nat → Option Ann := fun _ => none
def f20.VC  (w : World) (R : Value → World → Prop) : Prop :=
  let b0 := World.alloc w (.cells #[.slice none 0 0, .slice none 0 0, .slice none 0 0, .slice none 0 0, .slice none 0 0, .slice none 0 0] 32);
  let d0 := World.alloc b0 (.cells #[.string ⟨#[111, 112, 101, 110]⟩] 9);
  let g0 := World.alloc d0 (.cells #[.string ⟨#[97, 110, 110]⟩] 9);
  let h0 := World.alloc g0 (.cells #[.string ⟨#[100, 111, 111, 114]⟩] 9);
  let i0 := World.alloc h0 (.cells #[.int .i64 1] 3);
  let j0 := World.alloc i0 (.cells #[.int .i64 1] 3);
  let k0 := World.alloc j0 (.cells #[.int .u16 1] 59);
  let p0 := World.alloc k0 (.cells #[.slice (some ⟨j0.heap.size, 0, none⟩) 1 1] 29);
  canStore p0 w.heap.size 0 6 ∧
  let q0 := setCs p0 w.heap.size 0 [.slice (some ⟨b0.heap.size, 0, none⟩) 1 1, .slice (some ⟨d0.heap.size, 0, none⟩) 1 1, .slice (some ⟨g0.heap.size, 0, none⟩) 1 1, .slice (some ⟨h0.heap.size, 0, none⟩) 1 1, .slice (some ⟨i0.heap.size, 0, none⟩) 1 1, .slice (some ⟨k0.heap.size, 0, none⟩) 1 1];
  ∃ t0 u0 v0,
  q0.cell? ⟨w.heap.size, 0, none⟩ = some (.slice t0 u0 v0) ∧
  ∃ x0 y0 z0,
  q0.cell? ⟨w.heap.size, 1, none⟩ = some (.slice x0 y0 z0) ∧
  ∃ b1 d1 g1,
  q0.cell? ⟨w.heap.size, 2, none⟩ = some (.slice b1 d1 g1) ∧
  ∃ h1 i1 j1,
  q0.cell? ⟨w.heap.size, 3, none⟩ = some (.slice h1 i1 j1) ∧
  ∃ k1 p1 q1,
  q0.cell? ⟨w.heap.size, 4, none⟩ = some (.slice k1 p1 q1) ∧
  ∃ t1 u1 v1,
  q0.cell? ⟨w.heap.size, 5, none⟩ = some (.slice t1 u1 v1) ∧
  R (.agg #[.slice t0 u0 v0, .slice x0 y0 z0, .slice b1 d1 g1, .slice h1 i1 j1, .slice k1 p1 q1, .slice t1 u1 v1]) q0
theorem f20.eq  (w : World) (R : Value → World → Prop) : f20.VC  w R = funV Tryd.prog Tryd.f20 f20.AL f20.AC #[] w R := by kernel_rfl
theorem f20.calls {w : World} {R : Value → World → Prop} (h : f20.VC  w R) : Calls Tryd.prog 20 #[] w fun e w' => ∃ v, e = .returned v ∧ R v w' :=
  funV_sound (fn := Tryd.f20) (AL := f20.AL) (AC := f20.AC) W17.mixed (by kernel_rfl) (by rw [← f20.eq ]; exact h)

end Go.Proofs.YtjmlfknogjaemaaDoor
/- Page: small, sameInts, awake. -/
set_option linter.unusedVariables false
set_option linter.unusedSimpArgs false
set_option maxRecDepth 10000
namespace Go.Proofs.YtjmlfknogjaemaaDoor
open Go Go.Proofs.YtjmlfknogjaemaaDoor.Vc
namespace PG
open Vc.PG NI
/-- The document's example. -/
def exG : Gd := ([⟨#[111, 112, 101, 110]⟩], [⟨#[97, 110, 110]⟩], [⟨#[100, 111, 111, 114]⟩], [1], [1], [[1]], ())
def exW : List Int := [5, 8, 1, 1, 0, 0, 7, 1, 14, 1, 0, 0, 0, 0, 0, 0, 0, 0, 9, 1, 1]
def exL : List ByteArray := [⟨#[111, 112, 101, 110]⟩, ⟨#[97, 110, 110]⟩, ⟨#[100, 111, 111, 114]⟩]
theorem ex_size : sizeP exG = 21 := by kernel_rfl
theorem ex_lay : layP 5 exG [] = (exW, 0, exL) := by kernel_rfl
theorem ex_dec1 : decP exW 2 3 1 = (true, 9) := by kernel_rfl
theorem ex_dec2 : decP exW 2 3 2 = (false, 6) := by kernel_rfl
theorem ex_read : (readP exW exL).1 = 5 ∧ (readP exW exL).2.2 = 0 ∧ (gS (readP exW exL).2.1).length = 1 := by
  refine ⟨?_, ?_, ?_⟩ <;> kernel_rfl
theorem ex_hash : pgHash 9 8 = 7 := by kernel_rfl
theorem sameC {w : World} {A B : Option Addr} {n c m d : Nat} {l k : List Int} (h : InW w A n l) (h2 : InW w B m k) (hn : n ≤ 1000000000) : Calls Tryd.prog 15 #[.slice A n c, .slice B m d] w fun e w' => e = .returned (.bool (decide (l = k))) ∧ Fr [] w w' := by
  refine Calls.mono (f15.calls (R := fun v w' => v = .bool (decide (l = k)) ∧ Fr [] w w') ?_) ?_
  · dsimp only [f15.VC]
    have hl := h.1
    have hk := h2.1
    refine sel_of (fun hd => ?_) (fun hd => ?_)
    · have hd : (n : Int) ≠ m := by simpa using hd
      refine ⟨?_, Fr.refl _ _⟩
      rw [decide_eq_false]
      rintro rfl; omega
    · have hd : (n : Int) = m := by simpa using hd
      refine ⟨fun x w' r => Fr [] w w' ∧ ∃ i : Nat, x = (i : Int) ∧ i + r = n ∧ ∀ a, a < i → l.getD a 0 = k.getD a 0, ⟨n, Fr.refl _ _, 0, rfl, by omega, fun a ha => by omega⟩, ?_⟩
      rintro d x w1 r ⟨hf, i, rfl, hir, hno⟩
      refine sel_of (fun hd => ?_) (fun hd => ?_)
      · have hi : i < n := by have := of_decide_eq_true hd; omega
        obtain ⟨b, o, rfl, hc⟩ := h.2 (by omega)
        obtain ⟨b2, o2, rfl, hc2⟩ := h2.2 (by omega)
        refine ⟨by omega, by omega, needPtr_of rfl ⟨by omega, by omega, needPtr_of rfl ⟨_, by rw [Nat.mul_one, Int.toNat_natCast]; exact hf.cell (hc i (by omega)), _, by rw [Nat.mul_one, Int.toNat_natCast]; exact hf.cell (hc2 i (by omega)), sel_of (fun hs => ?_) (fun hs => ?_)⟩⟩⟩
        · have hs : l.getD i 0 ≠ k.getD i 0 := by simpa using hs
          refine ⟨?_, hf.drew⟩
          rw [decide_eq_false]
          rintro rfl; exact hs rfl
        · have hs : l.getD i 0 = k.getD i 0 := by simpa using hs
          rw [inc i n hn (by omega)]
          refine ⟨rfl, r - 1, by omega, hf.drew, i + 1, rfl, by omega, fun a ha => ?_⟩
          rcases Nat.lt_or_ge a i with h1 | h1
          · exact hno a h1
          · have : a = i := by omega
            subst this; exact hs
      · have hi : i = n := by have := of_decide_eq_false hd; omega
        refine ⟨?_, hf⟩
        rw [decide_eq_true]
        exact (ext_getD 0 _ _).2 ⟨by omega, fun q hq => hno q (by omega)⟩
  · rintro e w' ⟨v, rfl, rfl, h⟩; exact ⟨rfl, h⟩
theorem blk_in {α : Type} (d : α) {enc : α → Value} {e : TypeId} {b : Nat} {l : List α} {w : World} {F : List Nat} (hm : l.length ≤ maxLen) (h : (Chunk.blk b (l.map enc).toArray e).holds w F) :
    0 < l.length → ∃ b' o, some (⟨b, 0, none⟩ : Addr) = some ⟨b', o, none⟩ ∧ ∀ i, i < l.length → w.cell? ⟨b', o + i, none⟩ = some (enc (l.getD i d)) :=
  (Chunk.ls_says d (ls_of_blk hm h)).2.2
theorem smallC {S : List Nat} {w0 w : World} {K : List Chunk} (h : St S w0 w K) : Calls Tryd.prog 20 #[] w fun e w' => ∃ v : GV, e = .returned v.v ∧ (v.a.2.1 = 1 ∧ v.s.2.1 = 1 ∧ v.o.2.1 = 1) ∧ St S w0 w' (gC v exG :: K) := by
  refine Calls.mono (f20.calls (R := fun u w' => ∃ v : GV, u = v.v ∧ (v.a.2.1 = 1 ∧ v.s.2.1 = 1 ∧ v.o.2.1 = 1) ∧ St S w0 w' (gC v exG :: K)) ?_) ?_
  · dsimp only [f20.VC]
    have h1 := h.alloc #[.slice none 0 0, .slice none 0 0, .slice none 0 0, .slice none 0 0, .slice none 0 0, .slice none 0 0] 32
    generalize w.heap.size = b0 at *
    generalize World.alloc w _ = w1 at *
    have h2 := h1.alloc #[.string ⟨#[111, 112, 101, 110]⟩] 9
    generalize w1.heap.size = b1 at *
    generalize World.alloc w1 _ = w2 at *
    have h3 := h2.alloc #[.string ⟨#[97, 110, 110]⟩] 9
    generalize w2.heap.size = b2 at *
    generalize World.alloc w2 _ = w3 at *
    have h4 := h3.alloc #[.string ⟨#[100, 111, 111, 114]⟩] 9
    generalize w3.heap.size = b3 at *
    generalize World.alloc w3 _ = w4 at *
    have h5 := h4.alloc #[.int .i64 1] 3
    generalize w4.heap.size = b4 at *
    generalize World.alloc w4 _ = w5 at *
    have h6 := h5.alloc #[.int .i64 1] 3
    generalize w5.heap.size = b5 at *
    generalize World.alloc w5 _ = w6 at *
    have h7 := h6.alloc #[.int .u16 1] 59
    generalize w6.heap.size = b6 at *
    generalize World.alloc w6 _ = w7 at *
    have h8 := h7.alloc #[.slice (some ⟨b6, 0, none⟩) 1 1] 29
    generalize w7.heap.size = b7 at *
    generalize World.alloc w7 _ = w8 at *
    have h9 := h8.over 7 rfl [.slice (some ⟨b1, 0, none⟩) 1 1, .slice (some ⟨b2, 0, none⟩) 1 1, .slice (some ⟨b3, 0, none⟩) 1 1, .slice (some ⟨b4, 0, none⟩) 1 1, .slice (some ⟨b5, 0, none⟩) 1 1, .slice (some ⟨b7, 0, none⟩) 1 1] rfl
    refine ⟨(h8.blk 7 rfl).can (by simp), _, _, _, (h9.blk 7 rfl).cell rfl, _, _, _, (h9.blk 7 rfl).cell rfl, _, _, _, (h9.blk 7 rfl).cell rfl, _, _, _, (h9.blk 7 rfl).cell rfl, _, _, _, (h9.blk 7 rfl).cell rfl, _, _, _, (h9.blk 7 rfl).cell rfl, ?_⟩
    have h10 : St S w0 _ (Chunk.blk b7 (([(some ⟨b6, 0, none⟩, 1, 1)] : List Sl).map encL).toArray 29 :: Chunk.blk b6 (([1] : List Int).map encU).toArray 59 :: Chunk.blk b5 (([1] : List Int).map encN).toArray 3 :: Chunk.blk b4 (([1] : List Int).map encN).toArray 3 ::
      Chunk.blk b3 (([⟨#[100, 111, 111, 114]⟩] : List ByteArray).map encS).toArray 9 :: Chunk.blk b2 (([⟨#[97, 110, 110]⟩] : List ByteArray).map encS).toArray 9 :: Chunk.blk b1 (([⟨#[111, 112, 101, 110]⟩] : List ByteArray).map encS).toArray 9 :: Chunk.blk b0 _ 32 :: K) := h9
    refine ⟨⟨(some ⟨b1, 0, none⟩, 1, 1), (some ⟨b2, 0, none⟩, 1, 1), (some ⟨b3, 0, none⟩, 1, 1), (some ⟨b4, 0, none⟩, 1, 1), (some ⟨b5, 0, none⟩, 1, 1), (some ⟨b7, 0, none⟩, 1, 1)⟩, rfl, ⟨rfl, rfl, rfl⟩, ?_⟩
    refine h10.join.join.join.join.join.join.join.keep 0 rfl _ ?_
    rintro F w ⟨_, _, rfl, ⟨_, _, rfl, ⟨_, _, rfl, ⟨_, _, rfl, ⟨_, _, rfl, ⟨_, _, rfl, ⟨_, _, rfl, k1, k2, _⟩, k3, _⟩, k4, _⟩, k5, _⟩, k6, _⟩, k7, _⟩, k8, _⟩
    have hm : (1 : Nat) ≤ maxLen := by decide
    have e2 := blk_in 0 (l := [1]) hm k2
    have e3 := blk_in 0 (l := [1]) hm k3
    have e4 := blk_in 0 (l := [1]) hm k4
    have e5 := blk_in ByteArray.empty (l := [⟨#[100, 111, 111, 114]⟩]) hm k5
    have e6 := blk_in ByteArray.empty (l := [⟨#[97, 110, 110]⟩]) hm k6
    have e7 := blk_in ByteArray.empty (l := [⟨#[111, 112, 101, 110]⟩]) hm k7
    have em := rs_inM (vals := [(some ⟨b6, 0, none⟩, 1, 1)]) (M := [[1]]) (V := (some ⟨b7, 0, none⟩, 1, 1)) (w := w) ⟨rfl, fun i hi => by
      have : i = 0 := by simp at hi; omega
      subst this
      exact ⟨rfl, fun _ => e2 (by decide)⟩⟩ (ls_of_blk (l := [((some ⟨b6, 0, none⟩, 1, 1) : Sl)]) hm k1)
    refine ⟨⟨⟨rfl, fun _ => e7 (by decide)⟩, Nat.le_refl _⟩, ⟨⟨rfl, fun _ => e6 (by decide)⟩, Nat.le_refl _⟩, ⟨⟨rfl, fun _ => e5 (by decide)⟩, Nat.le_refl _⟩, ⟨⟨rfl, fun _ => e4 (by decide)⟩, Nat.le_refl _⟩, ⟨⟨rfl, fun _ => e3 (by decide)⟩, Nat.le_refl _⟩, em, ?_⟩
    intro r hr x hx
    simp [exG, gM] at hr
    subst hr
    simp at hx
    omega
  · rintro e w' ⟨v, rfl, u, rfl, h⟩; exact ⟨u, rfl, h⟩
end PG
end Go.Proofs.YtjmlfknogjaemaaDoor
