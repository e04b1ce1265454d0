/- Page: Read, the walk once more: what it answers is owned, list by list (printed by gen_z10.py). -/
import Derived.Test.YtjmlfknogjaemaaDoorM25
import Derived.Test.YtjmlfknogjaemaaDoorM30
set_option linter.unusedVariables false
set_option linter.unusedSimpArgs false
set_option maxRecDepth 10000
namespace Go.Proofs.YtjmlfknogjaemaaDoor
open Go Go.Proofs.YtjmlfknogjaemaaDoor.Vc
namespace PG
open Vc.PG NI
/-- Rows of masks, owned, as one piece. -/
def rowsK (vals : List Sl) (M : List (List Int)) : Chunk where
  holds w F := vals.length = M.length ∧ ∃ Fs : Nat → List Nat, (∀ i, i < vals.length → (slU (vals.getD i nilS).v (M.getD i [])).holds w (Fs i)) ∧ (∀ i j, i < vals.length → j < vals.length → i ≠ j → ∀ x ∈ Fs i, x ∉ Fs j) ∧ ∀ x, x ∈ F ↔ ∃ i, i < vals.length ∧ x ∈ Fs i
  fr := by
    rintro S w w' F ⟨h0, Fs, h1, h2, h3⟩ hf hS
    exact ⟨h0, Fs, fun i hi => (slU _ _).fr (h1 i hi) hf (fun x hx => hS x ((h3 x).2 ⟨i, hi, hx⟩)), h2, h3⟩
  lt := by
    rintro w F ⟨h0, Fs, h1, h2, h3⟩ x hx
    obtain ⟨i, hi, hxi⟩ := (h3 x).1 hx
    exact (slU _ _).lt (h1 i hi) x hxi
theorem rowsK_nil {w : World} : (rowsK [] []).holds w [] := ⟨rfl, fun _ => [], fun i hi => by simp at hi, fun i j hi => by simp at hi, fun x => by simp⟩
theorem rowsK_says {vals : List Sl} {M : List (List Int)} {w : World} {F : List Nat} (h : (rowsK vals M).holds w F) : InRs vals M w := by
  obtain ⟨h0, Fs, h1, _, _⟩ := h
  exact ⟨h0, fun i hi => slU_in (h1 i hi)⟩
theorem keepRowO {S : List Nat} {w0 w : World} {L : List Chunk} {A : Option Addr} {n c : Nat} {R : List Int} {vals : List Sl} {M : List (List Int)} (h : St S w0 w (slU (.slice A n c) R :: rowsK vals M :: L)) :
    St S w0 w (rowsK (vals ++ [(A, n, c)]) (M ++ [R]) :: L) := by
  refine h.join.as 0 rfl _ ?_
  rintro F ⟨F1, F2, rfl, h1, ⟨h0, Fs, h2, h3, h4⟩, h5⟩
  have hl : (vals ++ [((A, n, c) : Sl)]).length = vals.length + 1 := by simp
  have e1 : ∀ i, i < vals.length → (vals ++ [((A, n, c) : Sl)]).getD i nilS = vals.getD i nilS ∧ (M ++ [R]).getD i [] = M.getD i [] := fun i hi =>
    ⟨by simp [List.getD_eq_getElem?_getD, List.getElem?_append_left, hi], by simp [List.getD_eq_getElem?_getD, List.getElem?_append_left, show i < M.length by omega]⟩
  have e2 : (vals ++ [((A, n, c) : Sl)]).getD vals.length nilS = (A, n, c) ∧ (M ++ [R]).getD vals.length [] = R := ⟨by simp [List.getD_eq_getElem?_getD], by simp [List.getD_eq_getElem?_getD, h0]⟩
  refine ⟨by simp [h0], fun i => if i = vals.length then F1 else Fs i, fun i hi => ?_, fun i j hi hj hij x hx hx2 => ?_, fun x => ?_⟩
  · dsimp only
    by_cases hi2 : i = vals.length
    · subst hi2
      rw [if_pos rfl, e2.1, e2.2]; exact h1
    · rw [if_neg hi2, (e1 i (by omega)).1, (e1 i (by omega)).2]; exact h2 i (by omega)
  · dsimp only at hx hx2
    by_cases a : i = vals.length <;> by_cases b : j = vals.length
    · omega
    · rw [if_pos a] at hx; rw [if_neg b] at hx2
      exact h5 x hx ((h4 x).2 ⟨j, by omega, hx2⟩)
    · rw [if_neg a] at hx; rw [if_pos b] at hx2
      exact h5 x hx2 ((h4 x).2 ⟨i, by omega, hx⟩)
    · rw [if_neg a] at hx; rw [if_neg b] at hx2
      exact h3 i j (by omega) (by omega) hij x hx hx2
  · rw [List.mem_append, h4 x]
    constructor
    · rintro (hx | ⟨i, hi, hx⟩)
      · exact ⟨vals.length, by omega, by dsimp only; rw [if_pos rfl]; exact hx⟩
      · exact ⟨i, by omega, by dsimp only; rw [if_neg (by omega)]; exact hx⟩
    · rintro ⟨i, hi, hx⟩
      dsimp only at hx
      by_cases hi2 : i = vals.length
      · rw [if_pos hi2] at hx; exact .inl hx
      · rw [if_neg hi2] at hx; exact .inr ⟨i, by omega, hx⟩
theorem rowsO_get {vals : List Sl} {M : List (List Int)} (h0 : vals.length = M.length) {i : Nat} (hi : i < vals.length) : (rowsL vals M)[i]? = some (slU (vals.getD i nilS).v (M.getD i [])) := by
  unfold rowsL
  rw [List.getElem?_zipWith, List.getElem?_eq_getElem hi, List.getElem?_eq_getElem (show i < M.length by omega)]
  simp [List.getD_eq_getElem?_getD, hi, show i < M.length by omega]
theorem rowsO_len {vals : List Sl} {M : List (List Int)} (h0 : vals.length = M.length) : (rowsL vals M).length = vals.length := by simp [rowsL, h0]
/-- The rows, piece by piece. -/
theorem rows_out {S : List Nat} {w0 w : World} {L : List Chunk} {vals : List Sl} {M : List (List Int)} (h : St S w0 w (rowsK vals M :: L)) : vals.length = M.length ∧ St S w0 w (rowsL vals M ++ L) := by
  obtain ⟨hf, Gs, h1, h2⟩ := h
  obtain ⟨⟨h0, Fs, k1, k2, k3⟩, k4⟩ := h1 0 _ rfl
  have hlen := rowsO_len h0
  have sub : ∀ i, i < vals.length → ∀ x ∈ Fs i, x ∈ Gs 0 := fun i hi x hx => (k3 x).2 ⟨i, hi, hx⟩
  refine ⟨h0, hf, fun i => if i < vals.length then Fs i else Gs (i - vals.length + 1), fun i c hc => ?_, fun i j hi hj hij x hx hx2 => ?_⟩
  · dsimp only
    by_cases hi : i < vals.length
    · rw [List.getElem?_append_left (by omega), rowsO_get h0 hi] at hc
      injection hc with hc
      subst hc
      rw [if_pos hi]
      exact ⟨k1 i hi, fun x hx => k4 x (sub i hi x hx)⟩
    · rw [List.getElem?_append_right (by omega), hlen] at hc
      rw [if_neg hi]
      exact h1 (i - vals.length + 1) c (by simpa using hc)
  · simp only [List.length_append, hlen] at hi hj
    dsimp only at hx hx2
    by_cases a : i < vals.length <;> by_cases b : j < vals.length
    · rw [if_pos a] at hx; rw [if_pos b] at hx2; exact k2 i j a b hij x hx hx2
    · rw [if_pos a] at hx; rw [if_neg b] at hx2
      exact h2 0 (j - vals.length + 1) (by simp) (by simp; omega) (by omega) x (sub i a x hx) hx2
    · rw [if_neg a] at hx; rw [if_pos b] at hx2
      exact h2 0 (i - vals.length + 1) (by simp) (by simp; omega) (by omega) x (sub j b x hx2) hx
    · rw [if_neg a] at hx; rw [if_neg b] at hx2
      exact h2 (i - vals.length + 1) (j - vals.length + 1) (by simp; omega) (by simp; omega) (by omega) x hx hx2
/-- A graph, list by list. -/
abbrev ownG (g : GV) (vals : List Sl) (k : Gd) : List Chunk := [txs g.a.v (gA k), txs g.s.v (gS k), txs g.o.v (gO k), ints g.f.v (gF k), ints g.n.v (gN k), Chunk.ls encL 29 g.m.v vals] ++ rowsL vals (gM k)
def rdPostO (r : Int × Gd × Int) (w : World) (v : Value) (w' : World) : Prop := ∃ (g : GV) (vals : List Sl), v = .tuple #[.int .i64 r.1, g.v, .int .i64 r.2.2] ∧ vals.length = (gM r.2.1).length ∧ St [] w w' (ownG g vals r.2.1)
theorem rd_badO {r : Int × Gd × Int} (hr : r = (0, emptyG, 120)) {w w' : World} (hf : Fr [] w w') : rdPostO r w (.tuple #[.int .i64 0, nilG.v, .int .i64 120]) w' := by
  subst hr
  exact ⟨nilG, [], rfl, rfl, ((((((((St.start w).go hf).nil 29 1).nil 3 1).nil 3 1).nil 9 1).nil 9 1).nil 9 1)⟩
abbrev rdKO (vals : List Sl) (M : List (List Int)) (VM XO YN ZC XS YF ZR XA : Sl) (W : List Int) (t : Nat) (l : List ByteArray) (bg bh b0 : Nat) : List Chunk :=
  [rowsK vals M, Chunk.ls encL 29 VM.v vals, txs XO.v (namedP l (seatsP W 2 t)).1, ints YN.v (namedP l (seatsP W 2 t)).2.1, ints ZC.v (colsP W t l), txs XS.v (namedP l (seatsP W 1 t)).1, ints YF.v (namedP l (seatsP W 1 t)).2.1, ints ZR.v (rowsP W t l), txs XA.v (listedP l (seatsP W 3 t)),
    Chunk.blk bg #[XA.v, XS.v, XO.v, YF.v, YN.v, VM.v] 32, Chunk.blk bh #[.int .i64 (W.getD 0 0), .int .i64 (W.getD 1 0), .int .i64 (W.getD 2 0), .int .i64 (W.getD 3 0)] 66, Chunk.blk b0 #[.slice none 0 0, .slice none 0 0, .slice none 0 0, .slice none 0 0, .slice none 0 0, .slice none 0 0] 32]
theorem readO {w : World} {A : Option Addr} {n c : Nat} {W : List Int} {x : Nat} {l : List ByteArray} (hW0 : InW w A n W) (hX0 : IdxAt w x l) (hl : l.length ≤ 1048576) (hn : n ≤ 1000000000) (hr : ∀ i, W.getD i 0 ≤ 9223372036854775807) :
    Calls Tryd.prog 16 #[.slice A n c, .pointer (some ⟨x, 0, none⟩)] w fun e w' => ∃ v, e = .returned v ∧ rdPostO (readP W l) w v w' := by
  refine f16.calls (R := rdPostO (readP W l) w) ?_
  dsimp only [f16.VC]
  have hW : ∀ w', Fr [] w w' → InW w' A n W := fun w' h => hW0.fr h
  have hX : ∀ w', Fr [] w w' → IdxAt w' x l := fun w' h => hX0.fr h
  have hlen := hW0.1
  have hT := tabP_range W
  have hS1 := (St.start w).alloc #[.slice none 0 0, .slice none 0 0, .slice none 0 0, .slice none 0 0, .slice none 0 0, .slice none 0 0] 32
  generalize w.heap.size = b0 at *
  generalize World.alloc w (.cells #[.slice none 0 0, .slice none 0 0, .slice none 0 0, .slice none 0 0, .slice none 0 0, .slice none 0 0] 32) = w1 at *
  refine Calls.mono (hS1.step0 (tableC (hW _ hS1.frame) hn)) ?_
  rintro _ w2 ⟨rfl, hS2⟩
  obtain ⟨t, ht⟩ : ∃ t : Nat, tabP W = t := ⟨(tabP W).toNat, by omega⟩
  rw [ht]
  rw [ht] at hT
  have hbad : ¬ (t ≠ 0 ∧ shapeB W t = true ∧ goodB W t l = true) → ∀ w', Fr [] w w' → rdPostO (readP W l) w (.tuple #[.int .i64 0, nilG.v, .int .i64 120]) w' := fun h w' hf => rd_badO (readP_bad ht h) hf
  refine ⟨_, rfl, sel_of (fun h => ?_) (fun h => ?_)⟩
  · have h : (t : Int) = 0 := eq_of_beq h
    exact endE rfl hS2 0 rfl (hbad fun hh => by omega)
  have h : (t : Int) ≠ 0 := beq_eq_false_iff_ne.1 h
  have ht0 : 0 < t := by omega
  have hT4 := hT.2.2 h
  obtain ⟨b, o, rfl, hc⟩ := (hW w2 hS2.frame).2 (by omega)
  have hS3 := hS2.alloc #[.int .i64 0, .int .i64 0, .int .i64 0, .int .i64 0] 66
  have hS4 := hS3.over 0 rfl [.int .i64 (W.getD 0 0), .int .i64 (W.getD 1 0), .int .i64 (W.getD 2 0), .int .i64 (W.getD 3 0)] rfl
  refine ⟨by omega, needPtr_of rfl ⟨_, hc 0 (by omega), _, hc 1 (by omega), _, hc 2 (by omega), _, hc 3 (by omega), (hS3.blk 0 rfl).can (by decide), ?_⟩⟩
  generalize w2.heap.size = bh at *
  generalize World.alloc w2 (.cells #[.int .i64 0, .int .i64 0, .int .i64 0, .int .i64 0] 66) = w3 at *
  generalize setCs w3 bh 0 [.int .i64 (W.getD 0 0), .int .i64 (W.getD 1 0), .int .i64 (W.getD 2 0), .int .i64 (W.getD 3 0)] = w4 at *
  have hS4 : St [] w w4 [Chunk.blk bh #[.int .i64 (W.getD 0 0), .int .i64 (W.getD 1 0), .int .i64 (W.getD 2 0), .int .i64 (W.getD 3 0)] 66, Chunk.blk b0 #[.slice none 0 0, .slice none 0 0, .slice none 0 0, .slice none 0 0, .slice none 0 0, .slice none 0 0] 32] := hS4
  have hsh : shapeB W t = true ↔ (1 ≤ W.getD 0 0 ∧ W.getD 0 0 ≤ 2147483647 ∧ 0 ≤ W.getD 2 0 ∧ W.getD 2 0 ≤ 64 ∧ 0 ≤ W.getD 3 0 ∧ W.getD 3 0 ≤ 64) ∧ (W.length : Int) = 4 + 2 * t + W.getD 2 0 * W.getD 3 0 := by
    unfold shapeB
    rw [Bool.and_eq_true, decide_eq_true_iff, decide_eq_true_iff]
  have herr : ¬ (shapeB W t = true) → ∀ w', Fr [] w w' → rdPostO (readP W l) w (.tuple #[.int .i64 0, nilG.v, .int .i64 120]) w' := fun hh => hbad fun k => hh k.2.1
  clear hS1 hS2 hS3
  refine ⟨by decide, by decide, _, (hS4.blk 0 rfl).cell rfl, sel_of (fun c1 => ?_) (fun c1 => endE rfl hS4 1 rfl (herr fun hh => by have := of_decide_eq_false c1; have := (hsh.1 hh).1; omega))⟩
  have c1 := of_decide_eq_true c1
  refine ⟨by decide, by decide, _, (hS4.blk 0 rfl).cell rfl, sel_of (fun c2 => ?_) (fun c2 => endE rfl hS4 1 rfl (herr fun hh => by have := of_decide_eq_false c2; have := (hsh.1 hh).1; omega))⟩
  have c2 := of_decide_eq_true c2
  refine ⟨by decide, by decide, _, (hS4.blk 0 rfl).cell rfl, sel_of (fun c3 => ?_) (fun c3 => endE rfl hS4 1 rfl (herr fun hh => by have := of_decide_eq_false c3; have := (hsh.1 hh).1; omega))⟩
  have c3 := of_decide_eq_true c3
  refine ⟨by decide, by decide, _, (hS4.blk 0 rfl).cell rfl, sel_of (fun c4 => ?_) (fun c4 => endE rfl hS4 1 rfl (herr fun hh => by have := of_decide_eq_false c4; have := (hsh.1 hh).1; omega))⟩
  have c4 := of_decide_eq_true c4
  refine ⟨by decide, by decide, _, (hS4.blk 0 rfl).cell rfl, sel_of (fun c5 => ?_) (fun c5 => endE rfl hS4 1 rfl (herr fun hh => by have := of_decide_eq_false c5; have := (hsh.1 hh).1; omega))⟩
  have c5 := of_decide_eq_true c5
  refine ⟨by decide, by decide, _, (hS4.blk 0 rfl).cell rfl, sel_of (fun c6 => endE rfl hS4 1 rfl (herr fun hh => by have c6 : ¬ (W.getD 3 0 ≤ 64) := (by simpa using c6); have := (hsh.1 hh).1; omega)) (fun c6 => ?_)⟩
  have c6 : W.getD 3 0 ≤ 64 := by simpa using c6
  have hP0 : 0 ≤ W.getD 2 0 * W.getD 3 0 := Int.mul_nonneg c3 c5
  have hP1 : W.getD 2 0 * W.getD 3 0 ≤ 64 * 64 := Int.mul_le_mul c4 c6 c5 (by decide)
  have eL : IntKind.i64.wrap (IntKind.i64.wrap (4 + IntKind.i64.wrap (2 * (t : Int))) + IntKind.i64.wrap (W.getD 2 0 * W.getD 3 0)) = 4 + 2 * t + W.getD 2 0 * W.getD 3 0 := by
    generalize W.getD 2 0 * W.getD 3 0 = p at *
    rw [i64_id (x := 2 * _) (by omega) (by omega), i64_id (x := p) (by omega) (by omega), i64_id (x := 4 + _) (by omega) (by omega), i64_id (by omega) (by omega)]
  refine ⟨by decide, by decide, _, (hS4.blk 0 rfl).cell rfl, by decide, by decide, _, (hS4.blk 0 rfl).cell rfl, ?_⟩
  rw [eL]
  refine sel_of (fun c7 => endE rfl hS4 1 rfl (herr fun hh => by have c7 : (n : Int) ≠ 4 + 2 * t + W.getD 2 0 * W.getD 3 0 := (by simpa using c7); have := (hsh.1 hh).2; omega)) (fun c7 => ?_)
  have c7 : (n : Int) = 4 + 2 * t + W.getD 2 0 * W.getD 3 0 := by simpa using c7
  have hshape : shapeB W t = true := hsh.2 ⟨⟨c1, c2, c3, c4, c5, c6⟩, by omega⟩
  clear hbad herr
  have hgood : ¬ (goodB W t l = true) → ∀ w', Fr [] w w' → rdPostO (readP W l) w (.tuple #[.int .i64 0, nilG.v, .int .i64 120]) w' := fun hh w' hf => rd_badO (readP_bad ht fun k => hh k.2.2) hf
  refine Calls.mono (sortedC hS4 hW hX hl hn hr ht ht0) ?_
  rintro _ w5 ⟨V1, V2, V3, s1, s2, s3, rfl, hS5, v1, v2, v3, hsl, hs⟩
  have hS6 := hS5.alloc #[.slice none 0 0, .slice none 0 0, .slice none 0 0, .slice none 0 0] 68
  have hS7 := hS6.over 0 rfl [.slice none 0 0, V1.v, V2.v, V3.v] rfl
  refine ⟨_, _, _, _, _, _, _, _, _, _, _, _, _, rfl, (hS6.blk 0 rfl).can (by decide), ?_⟩
  generalize w5.heap.size = bs at *
  generalize World.alloc w5 (.cells #[.slice none 0 0, .slice none 0 0, .slice none 0 0, .slice none 0 0] 68) = w6 at *
  generalize setCs w6 bs 0 _ = w7 at *
  have hS7 : St [] w w7 (Chunk.blk bs #[.slice none 0 0, V1.v, V2.v, V3.v] 68 :: ses V1.v s1 :: ses V2.v s2 :: ses V3.v s3 :: [Chunk.blk bh #[.int .i64 (W.getD 0 0), .int .i64 (W.getD 1 0), .int .i64 (W.getD 2 0), .int .i64 (W.getD 3 0)] 66, Chunk.blk b0 #[.slice none 0 0, .slice none 0 0, .slice none 0 0, .slice none 0 0, .slice none 0 0, .slice none 0 0] 32]) := hS7
  refine sel_of (fun c8 => endE rfl hS7 5 rfl (hgood fun hh => by rw [(good_parts.1 hh).1] at c8; cases c8)) (fun c8 => ?_)
  have c8 : seatedB W t l = true := by simpa using c8
  obtain ⟨rfl, rfl, rfl⟩ := hs c8
  have g1 := hS7.lrLen 1 rfl
  have g2 := hS7.lrLen 2 rfl
  have g3 := hS7.lrLen 3 rfl
  clear hS4 hS5 hS6
  refine ⟨by decide, by decide, _, _, _, (hS7.blk 0 rfl).cell rfl, by decide, by decide, _, _, _, (hS7.blk 0 rfl).cell rfl, by decide, by decide, _, _, _, (hS7.blk 0 rfl).cell rfl, ?_⟩
  rw [i64_id (x := (V3.2.1 : Int) + V1.2.1) (by omega) (by omega), i64_id (x := (V3.2.1 : Int) + V1.2.1 + V2.2.1) (by omega) (by omega), show (V3.2.1 : Int) + V1.2.1 + V2.2.1 = (((V3.2.1 + V1.2.1 + V2.2.1 : Nat)) : Int) by omega]
  refine ⟨_, _, _, _, makeS w7 _ (by omega), ?_⟩
  have hS8 := hS7.go ((Fr.refl [] w7).alloc (cs := ((List.replicate (V3.2.1 + V1.2.1 + V2.2.1) (⟨#[]⟩ : ByteArray)).map encS).toArray) (T := 9))
  refine Calls.mono (hS8.step0 (placesC _ ⟨(some ⟨w7.heap.size, 0, none⟩, V3.2.1 + V1.2.1 + V2.2.1, V3.2.1 + V1.2.1 + V2.2.1), nilS, nilS, nilS, nilS, nilS⟩ (k := V3.2.1 + V1.2.1 + V2.2.1) rfl (by omega))) ?_
  rintro _ w9 ⟨rfl, hS9⟩
  refine ⟨_, rfl, sel_of (fun c9 => endE rfl hS9 5 rfl (hgood fun hh => by
    have h2 := (good_parts.1 hh).2.1
    have c9 : ((tabN (V3.2.1 + V1.2.1 + V2.2.1) : Nat) : Int) ≠ (t : Int) := (by simpa using c9)
    rw [g1, g2, g3, h2] at c9
    exact c9 rfl)) (fun c9 => ?_)⟩
  have c9 : tabN ((seatsP W 3 t).length + (seatsP W 1 t).length + (seatsP W 2 t).length) = t := by
    rw [g1, g2, g3] at c9
    have : ((tabN ((seatsP W 3 t).length + (seatsP W 1 t).length + (seatsP W 2 t).length) : Nat) : Int) = t := by simpa using c9
    omega
  have hS10 := hS9.alloc #[.slice none 0 0, .slice none 0 0, .slice none 0 0, .slice none 0 0, .slice none 0 0, .slice none 0 0] 32
  generalize w9.heap.size = bg at *
  generalize World.alloc w9 (.cells #[.slice none 0 0, .slice none 0 0, .slice none 0 0, .slice none 0 0, .slice none 0 0, .slice none 0 0] 32) = w10 at *
  clear hS7 hS8 hS9
  refine ⟨by decide, by decide, _, _, _, (hS10.blk 1 rfl).cell rfl, ?_⟩
  refine Calls.mono (listedC hS10 4 rfl v3 hX hl (by omega)) ?_
  rintro _ w11 ⟨XA, rfl, hS11⟩
  have hS12 : St [] w _ (txs XA.v (if listedB (seatsP W 3 t) = true then listedP l (seatsP W 3 t) else []) :: bgC bg XA nilS nilS nilS nilS nilS :: bsC bs V1 V2 V3 :: ses V1.v (seatsP W 1 t) :: ses V2.v (seatsP W 2 t) :: ses V3.v (seatsP W 3 t) :: [bhC bh W, b0C b0]) := hS11.set 1 rfl 0 [XA.v]
  refine ⟨_, _, _, _, rfl, (hS11.blk 1 rfl).can (by simp), ?_⟩
  generalize setCs w11 bg 0 [XA.v] = w12 at *
  refine sel_of (fun c10 => endE rfl hS12 7 rfl (hgood fun hh => by rw [(good_parts.1 hh).2.2.1] at c10; cases c10)) (fun c10 => ?_)
  have c10 : listedB (seatsP W 3 t) = true := by simpa using c10
  rw [if_pos c10] at hS12
  refine ⟨by decide, by decide, _, _, _, (hS12.blk 2 rfl).cell rfl, ?_⟩
  clear hS11
  refine Calls.mono (classedC hS12 3 rfl hX hl (by omega)) ?_
  rintro _ w13 ⟨XS, YF, ZR, rfl, hS13⟩
  have hS14 : St [] w _ (txs XS.v (namedP l (seatsP W 1 t)).1 :: ints YF.v (namedP l (seatsP W 1 t)).2.1 :: ints ZR.v (rowsP W t l) :: txs XA.v (listedP l (seatsP W 3 t)) :: bgC bg XA XS nilS nilS nilS nilS :: bsC bs V1 V2 V3 :: ses V1.v (seatsP W 1 t) :: ses V2.v (seatsP W 2 t) :: ses V3.v (seatsP W 3 t) :: [bhC bh W, b0C b0]) := hS13.set 4 rfl 1 [XS.v]
  have hS15 : St [] w _ (txs XS.v (namedP l (seatsP W 1 t)).1 :: ints YF.v (namedP l (seatsP W 1 t)).2.1 :: ints ZR.v (rowsP W t l) :: txs XA.v (listedP l (seatsP W 3 t)) :: bgC bg XA XS nilS YF nilS nilS :: bsC bs V1 V2 V3 :: ses V1.v (seatsP W 1 t) :: ses V2.v (seatsP W 2 t) :: ses V3.v (seatsP W 3 t) :: [bhC bh W, b0C b0]) := hS14.set 4 rfl 3 [YF.v]
  refine ⟨_, _, _, _, _, _, _, _, _, rfl, (hS13.blk 4 rfl).can (by simp), (hS14.blk 4 rfl).can (by simp), ?_⟩
  generalize setCs w13 bg 1 [XS.v] = w14 at *
  generalize setCs w14 bg 3 [YF.v] = w15 at *
  refine ⟨by decide, by decide, _, _, _, (hS15.blk 5 rfl).cell rfl, ?_⟩
  clear hS13 hS14
  refine Calls.mono (classedC hS15 7 rfl hX hl (by omega)) ?_
  rintro _ w16 ⟨XO, YN, ZC, rfl, hS16⟩
  have hS17 : St [] w _ (txs XO.v (namedP l (seatsP W 2 t)).1 :: ints YN.v (namedP l (seatsP W 2 t)).2.1 :: ints ZC.v (colsP W t l) :: txs XS.v (namedP l (seatsP W 1 t)).1 :: ints YF.v (namedP l (seatsP W 1 t)).2.1 :: ints ZR.v (rowsP W t l) :: txs XA.v (listedP l (seatsP W 3 t)) :: bgC bg XA XS XO YF nilS nilS :: bsC bs V1 V2 V3 :: ses V1.v (seatsP W 1 t) :: ses V2.v (seatsP W 2 t) :: ses V3.v (seatsP W 3 t) :: [bhC bh W, b0C b0]) := hS16.set 7 rfl 2 [XO.v]
  have hS18 : St [] w _ (txs XO.v (namedP l (seatsP W 2 t)).1 :: ints YN.v (namedP l (seatsP W 2 t)).2.1 :: ints ZC.v (colsP W t l) :: txs XS.v (namedP l (seatsP W 1 t)).1 :: ints YF.v (namedP l (seatsP W 1 t)).2.1 :: ints ZR.v (rowsP W t l) :: txs XA.v (listedP l (seatsP W 3 t)) :: bgC bg XA XS XO YF YN nilS :: bsC bs V1 V2 V3 :: ses V1.v (seatsP W 1 t) :: ses V2.v (seatsP W 2 t) :: ses V3.v (seatsP W 3 t) :: [bhC bh W, b0C b0]) := hS17.set 7 rfl 4 [YN.v]
  refine ⟨_, _, _, _, _, _, _, _, _, rfl, (hS16.blk 7 rfl).can (by simp), (hS17.blk 7 rfl).can (by simp), ?_⟩
  generalize setCs w16 bg 2 [XO.v] = w17 at *
  generalize setCs w17 bg 4 [YN.v] = w18 at *
  have hS19 := (((hS18.nil 29 1).sel [0, 1, 2, 3, 4, 5, 6, 7, 8, 13, 14] (by decide) [Chunk.ls encL 29 nilS.v [], txs XO.v (namedP l (seatsP W 2 t)).1, ints YN.v (namedP l (seatsP W 2 t)).2.1, ints ZC.v (colsP W t l), txs XS.v (namedP l (seatsP W 1 t)).1, ints YF.v (namedP l (seatsP W 1 t)).2.1, ints ZR.v (rowsP W t l), txs XA.v (listedP l (seatsP W 3 t)),
    Chunk.blk bg #[XA.v, XS.v, XO.v, YF.v, YN.v, nilS.v] 32, Chunk.blk bh #[.int .i64 (W.getD 0 0), .int .i64 (W.getD 1 0), .int .i64 (W.getD 2 0), .int .i64 (W.getD 3 0)] 66, Chunk.blk b0 #[.slice none 0 0, .slice none 0 0, .slice none 0 0, .slice none 0 0, .slice none 0 0, .slice none 0 0] 32] rfl).new (Fr.refl _ _) (c := rowsK [] []) (F := []) rowsK_nil (by simp))
  have hS : St [] w w18 (rdKO [] [] nilS XO YN ZC XS YF ZR XA W t l bg bh b0) := hS19
  clear hS12 hS15 hS16 hS17 hS18 hS19
  obtain ⟨k1, k2, k3⟩ := namedP_len l (seatsP W 1 t)
  obtain ⟨m1, m2, m3⟩ := namedP_len l (seatsP W 2 t)
  have k4 : (rowsP W t l).length ≤ (seatsP W 1 t).length := k3
  have m4 : (colsP W t l).length ≤ (seatsP W 2 t).length := m3
  have gR : ZR.2.1 = (rowsP W t l).length := hS.lsLen 7 rfl
  have gC' : ZC.2.1 = (colsP W t l).length := hS.lsLen 4 rfl
  refine ⟨by decide, by decide, _, (hS.blk 10 rfl).cell rfl, ?_⟩
  refine Calls.mono (wholeC (St.inI hS 7 rfl) (by rw [gR]; omega) _) ?_
  rintro _ w19 ⟨rfl, rfl⟩
  refine ⟨_, rfl, sel_of (fun c11 => endE rfl hS 11 rfl (hgood fun hh => by rw [(good_parts.1 hh).2.2.2.1] at c11; cases c11)) (fun c11 => ?_)⟩
  have c11 : wholeB (rowsP W t l) (W.getD 2 0) = true := by simpa using c11
  refine ⟨by decide, by decide, _, (hS.blk 10 rfl).cell rfl, ?_⟩
  refine Calls.mono (wholeC (St.inI hS 4 rfl) (by rw [gC']; omega) _) ?_
  rintro _ w20 ⟨rfl, rfl⟩
  refine ⟨_, rfl, sel_of (fun c12 => endE rfl hS 11 rfl (hgood fun hh => by rw [(good_parts.1 hh).2.2.2.2.1] at c12; cases c12)) (fun c12 => ?_)⟩
  have c12 : wholeB (colsP W t l) (W.getD 3 0) = true := by simpa using c12
  obtain ⟨R1, R2⟩ := whole_parts c11
  obtain ⟨C1, C2⟩ := whole_parts c12
  have hmbad : ∀ r ∈ rowsP W t l, ∀ y ∈ colsP W t l, ¬ (0 ≤ maskP W t (W.getD 3 0) r y ∧ maskP W t (W.getD 3 0) r y ≤ 65535) → ∀ w', Fr [] w w' → rdPostO (readP W l) w (.tuple #[.int .i64 0, nilG.v, .int .i64 120]) w' := fun r hr' y hy hno => hgood fun hh => hno ((good_parts.1 hh).2.2.2.2.2.1 r hr' y hy)
  refine ⟨fun z w' r => ∃ (i : Nat) (VM : Sl) (vals : List Sl), z = (i : Int) ∧ i + r = ZR.2.1 ∧ (∀ q, q < i → ∀ y ∈ colsP W t l, 0 ≤ maskP W t (W.getD 3 0) ((rowsP W t l).getD q 0) y ∧ maskP W t (W.getD 3 0) ((rowsP W t l).getD q 0) y ≤ 65535) ∧
    St [] w w' (rdKO vals (((rowsP W t l).take i).map fun r => (colsP W t l).map fun y => maskP W t (W.getD 3 0) r y) VM XO YN ZC XS YF ZR XA W t l bg bh b0), ⟨ZR.2.1, 0, nilS, [], rfl, by omega, fun q hq => by omega, hS⟩, ?_⟩
  clear hS
  rintro d z w21 r ⟨i, VM, vals, rfl, hir, hyes, hS⟩
  have gV : vals.length = i := by
    have h1 := (hS.at 0 rfl).choose_spec.1.1
    rw [h1, List.length_map, List.length_take]; omega
  refine sel_of (fun hd => ?_) (fun hd => ?_)
  · have hi : i < ZR.2.1 := by have := of_decide_eq_true hd; omega
    have hiR : (rowsP W t l).getD i 0 ∈ rowsP W t l := (mem_getD 0 _ _).2 ⟨i, by omega, rfl⟩
    have hR := R1 _ hiR
    have hri := take_snoc 0 (rowsP W t l) i (by omega)
    have hIR := St.inI hS 7 rfl
    refine ⟨by omega, by omega, InW.need hIR (Fr.refl _ _) rfl hi ?_⟩
    generalize hgi : (rowsP W t l).getD i 0 = ri at *
    refine ⟨_, _, _, _, makeU w21 _ (by rw [gC']; omega), ?_⟩
    have hSa := hS.alloc ((List.replicate ZC.2.1 (0 : Int)).map encU).toArray 59
    have hSb := hSa.as 0 rfl _ (fun F hF => lu_of_made (by rw [gC']; omega) hF)
    refine ⟨fun A17 n17 c17 z w' q => ∃ j : Nat, z = (j : Int) ∧ j + q = ZC.2.1 ∧ (∀ u, u < j → 0 ≤ maskP W t (W.getD 3 0) ri ((colsP W t l).getD u 0) ∧ maskP W t (W.getD 3 0) ri ((colsP W t l).getD u 0) ≤ 65535) ∧
      St [] w w' (slU (.slice A17 n17 c17) (((colsP W t l).take j).map fun y => maskP W t (W.getD 3 0) ri y) :: rdKO vals (((rowsP W t l).take i).map fun r => (colsP W t l).map fun y => maskP W t (W.getD 3 0) r y) VM XO YN ZC XS YF ZR XA W t l bg bh b0), ⟨ZC.2.1, 0, rfl, by omega, fun u hu => by omega, hSb⟩, ?_⟩
    clear hSa hSb hS
    rintro d A17 n17 c17 z w22 q ⟨j, rfl, hjq, hin, hS⟩
    refine sel_of (fun hd => ?_) (fun hd => ?_)
    · have hj : j < ZC.2.1 := by have := of_decide_eq_true hd; omega
      have hjC : (colsP W t l).getD j 0 ∈ colsP W t l := (mem_getD 0 _ _).2 ⟨j, by omega, rfl⟩
      have hC := C1 _ hjC
      have hcj := take_snoc 0 (colsP W t l) j (by omega)
      have hIC := St.inI hS 5 rfl
      refine ⟨by omega, by omega, InW.need hIC (Fr.refl _ _) rfl hj ?_⟩
      have hin2 : ∀ u, u < j + 1 → (0 ≤ maskP W t (W.getD 3 0) ri ((colsP W t l).getD j 0) ∧ maskP W t (W.getD 3 0) ri ((colsP W t l).getD j 0) ≤ 65535) → 0 ≤ maskP W t (W.getD 3 0) ri ((colsP W t l).getD u 0) ∧ maskP W t (W.getD 3 0) ri ((colsP W t l).getD u 0) ≤ 65535 := by
        intro u hu hh
        rcases Nat.lt_or_ge u j with h1 | h1
        · exact hin u h1
        · have : u = j := by omega
          subst this; exact hh
      generalize (colsP W t l).getD j 0 = cj at *
      have hpm : 0 ≤ (ri - 1) * W.getD 3 0 := Int.mul_nonneg (by omega) c5
      have hpm2 : (ri - 1) * W.getD 3 0 ≤ (W.getD 2 0 - 1) * W.getD 3 0 := Int.mul_le_mul_of_nonneg_right (by omega) c5
      have hpm3 : (W.getD 2 0 - 1) * W.getD 3 0 = W.getD 2 0 * W.getD 3 0 - W.getD 3 0 := by rw [Int.sub_mul]; omega
      have hmp : maskP W t (W.getD 3 0) ri cj = W.getD (4 + 2 * (t : Int) + (ri - 1) * W.getD 3 0 + (cj - 1)).toNat 0 := rfl
      have eI : IntKind.i64.wrap (IntKind.i64.wrap (IntKind.i64.wrap (IntKind.i64.wrap (4 + IntKind.i64.wrap (2 * (t : Int))) + IntKind.i64.wrap (IntKind.i64.wrap (ri - 1) * W.getD 3 0)) + cj) - 1) = 4 + 2 * (t : Int) + (ri - 1) * W.getD 3 0 + (cj - 1) := by
        rw [i64_id (x := ri - 1) (by omega) (by omega)]
        generalize (ri - 1) * W.getD 3 0 = p at *
        generalize W.getD 2 0 * W.getD 3 0 = pp at *
        rw [i64_id (x := 2 * _) (by omega) (by omega), i64_id (x := p) (by omega) (by omega), i64_id (x := 4 + _) (by omega) (by omega), i64_id (x := _ + p) (by omega) (by omega), i64_id (x := _ + cj) (by omega) (by omega), i64_id (by omega) (by omega)]
        omega
      refine ⟨by decide, by decide, _, (hS.blk 11 rfl).cell rfl, ?_⟩
      rw [eI]
      have hb1 : 0 ≤ 4 + 2 * (t : Int) + (ri - 1) * W.getD 3 0 + (cj - 1) := by omega
      have hb2 : 4 + 2 * (t : Int) + (ri - 1) * W.getD 3 0 + (cj - 1) < (n : Int) := by omega
      refine ⟨hb1, hb2, InW.need (hW _ hS.frame) (Fr.refl _ _) (q := (4 + 2 * (t : Int) + (ri - 1) * W.getD 3 0 + (cj - 1)).toNat) (by rw [Int.toNat_of_nonneg hb1]) (by omega) ?_⟩
      rw [← hmp]
      generalize hmv : maskP W t (W.getD 3 0) ri cj = mv at *
      refine sel_of (fun hz => endE rfl hS 12 rfl (hmbad ri hiR cj hjC (by rw [hmv]; have := of_decide_eq_true hz; omega))) (fun hz => sel_of (fun hz2 => endE rfl hS 12 rfl (hmbad ri hiR cj hjC (by rw [hmv]; have := of_decide_eq_true hz2; omega))) (fun hz2 => ?_))
      have hz := of_decide_eq_false hz
      have hz2 := of_decide_eq_false hz2
      have e16 : IntKind.u16.wrap mv = mv := by rw [u16_wrap]; omega
      rw [e16, inc j 1000000 (by omega) (by omega)]
      have gJ : (((colsP W t l).take j).map fun y => maskP W t (W.getD 3 0) ri y).length ≤ 4000000 := by simp; omega
      obtain ⟨A', n', c', w23, r1, hS1⟩ := appU hS 0 rfl mv gJ
      refine ⟨_, _, _, w23, r1, rfl, q - 1, by omega, j + 1, rfl, by omega, fun u hu => hin2 u hu (by omega), ?_⟩
      rw [hcj, List.map_append, List.map_cons, List.map_nil, hmv]
      exact hS1
    · have hj : j = ZC.2.1 := by have := of_decide_eq_false hd; omega
      rw [List.take_of_length_le (by omega)] at hS
      rw [inc i 1000000 (by omega) (by omega)]
      refine ⟨_, _, _, (hS.blk 10 rfl).cell rfl, ?_⟩
      obtain ⟨A', n', c', w23, r1, hS1⟩ := appL hS 2 rfl (A17, n17, c17) (by omega)
      have hS2 : St [] w w23 _ := keepRowO hS1
      have hS3 := hS2.set 9 rfl 5 [.slice A' n' c']
      refine ⟨_, _, _, w23, r1, (hS2.blk 9 rfl).can (by simp), rfl, r - 1, by omega, i + 1, (A', n', c'), vals ++ [(A17, n17, c17)], rfl, by omega, fun q hq y hy => ?_, ?_⟩
      · rcases Nat.lt_or_ge q i with h1 | h1
        · exact hyes q h1 y hy
        · have : q = i := by omega
          subst this
          rw [hgi]
          obtain ⟨u, hu, rfl⟩ := (mem_getD 0 _ _).1 hy
          exact hin u (by omega)
      · rw [hri, List.map_append]
        exact hS3
  · have hi : i = ZR.2.1 := by have := of_decide_eq_false hd; omega
    rw [List.take_of_length_le (by omega)] at hS
    have hu : ∀ r ∈ rowsP W t l, ∀ y ∈ colsP W t l, 0 ≤ maskP W t (W.getD 3 0) r y ∧ maskP W t (W.getD 3 0) r y ≤ 65535 := by
      intro r hr' y hy
      obtain ⟨u, hu, rfl⟩ := (mem_getD 0 _ _).1 hr'
      exact hyes u (by omega) y hy
    have hS : St [] w w21 (rdKO vals (masksP W t (W.getD 3 0) (rowsP W t l) (colsP W t l)) VM XO YN ZC XS YF ZR XA W t l bg bh b0) := hS
    have hG : InG w21 ⟨XA, XS, XO, YF, YN, VM⟩ (graphP W t l) := (toG hu (hS.keep 0 rfl _ (fun F w h => rowsK_says h))).says 0 rfl
    have la : XA.2.1 = (gA (graphP W t l)).length := hG.a.1.1
    have ls : XS.2.1 = (gS (graphP W t l)).length := hG.s.1.1
    have lo : XO.2.1 = (gO (graphP W t l)).length := hG.o.1.1
    have ga : (gA (graphP W t l)).length = (seatsP W 3 t).length := by show (listedP l (seatsP W 3 t)).length = _; unfold listedP; simp
    have gs : (gS (graphP W t l)).length = (seatsP W 1 t).length := k1
    have go : (gO (graphP W t l)).length = (seatsP W 2 t).length := m1
    refine ⟨_, _, _, (hS.blk 9 rfl).cell rfl, _, _, _, (hS.blk 9 rfl).cell rfl, _, _, _, (hS.blk 9 rfl).cell rfl, _, _, _, (hS.blk 9 rfl).cell rfl, _, _, _, (hS.blk 9 rfl).cell rfl, _, _, _, (hS.blk 9 rfl).cell rfl, ?_⟩
    have hv := validC hG ⟨by show XA.2.1 ≤ _; omega, by show XS.2.1 ≤ _; omega, by show XO.2.1 ≤ _; omega⟩
    have hv2 := hS.step0 hv
    refine Calls.mono hv2 ?_
    rintro _ w22 ⟨rfl, hS⟩
    refine ⟨_, rfl, sel_of (fun c13 => endE rfl hS 11 rfl (hgood fun hh => by rw [(good_parts.1 hh).2.2.2.2.2.2] at c13; cases c13)) (fun c13 => ?_)⟩
    have c13 : validP (graphP W t l) = true := by simpa using c13
    have hgd : goodB W t l = true := good_parts.2 ⟨c8, c9, c10, c11, c12, hu, c13⟩
    have hfin := readP_good ht (by omega) hshape hgd
    have hS' := hS.drew.over 11 rfl [XA.v, XS.v, XO.v, YF.v, YN.v, VM.v] rfl
    refine ⟨by decide, by decide, _, (hS.blk 10 rfl).cell rfl, _, _, _, (hS.blk 9 rfl).cell rfl, _, _, _, (hS.blk 9 rfl).cell rfl, _, _, _, (hS.blk 9 rfl).cell rfl, _, _, _, (hS.blk 9 rfl).cell rfl, _, _, _, (hS.blk 9 rfl).cell rfl, _, _, _, (hS.blk 9 rfl).cell rfl, (hS.blk 11 rfl).can (by simp), ?_⟩
    refine ⟨_, _, _, (hS'.blk 11 rfl).cell rfl, _, _, _, (hS'.blk 11 rfl).cell rfl, _, _, _, (hS'.blk 11 rfl).cell rfl, _, _, _, (hS'.blk 11 rfl).cell rfl, _, _, _, (hS'.blk 11 rfl).cell rfl, _, _, _, (hS'.blk 11 rfl).cell rfl, ?_⟩
    rw [hfin]
    have hfinG := (hS'.sel [0, 8, 5, 2, 6, 3, 1] (by decide) [rowsK vals (masksP W t (W.getD 3 0) (rowsP W t l) (colsP W t l)), txs XA.v (gA (graphP W t l)), txs XS.v (gS (graphP W t l)), txs XO.v (gO (graphP W t l)), ints YF.v (gF (graphP W t l)), ints YN.v (gN (graphP W t l)), Chunk.ls encL 29 VM.v vals] rfl)
    obtain ⟨e1, e2⟩ := rows_out hfinG
    exact ⟨⟨XA, XS, XO, YF, YN, VM⟩, vals, rfl, e1, e2.perm List.perm_append_comm⟩
end PG
end Go.Proofs.YtjmlfknogjaemaaDoor
