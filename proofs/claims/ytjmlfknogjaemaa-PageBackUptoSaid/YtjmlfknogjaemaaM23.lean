/- Page: Lay, as the document does it. -/
import Derived.Test.YtjmlfknogjaemaaM21
import Derived.Test.YtjmlfknogjaemaaM22
set_option linter.unusedVariables false
set_option linter.unusedSimpArgs false
set_option maxRecDepth 10000
namespace Go.Proofs.Ytjmlfknogjaemaa
open Go Go.Proofs.Ytjmlfknogjaemaa.Vc
namespace PG
open Vc.PG NI
theorem layStep_len (s : List ByteArray × List Pz) (e : En) : (layStep s e).2.length = s.2.length := putZ_len _ _ _
theorem layGo_inv : ∀ (es : List En) (s : List ByteArray × List Pz), (∀ e ∈ es, 1 ≤ e.2.1) → fullN s.2 + es.length ≤ s.2.length → s.1.length ≤ 1048576 →
    fullN (layGo es s).2 = fullN s.2 + es.length ∧ (layGo es s).2.length = s.2.length ∧ (layGo es s).1.length ≤ 1048576
  | [], s, _, _, h => ⟨rfl, rfl, h⟩
  | e :: es, s, hk, hf, hl => by
    have h1 : fullN (layStep s e).2 = fullN s.2 + 1 := by
      refine putZ_full ?_ ?_ _
      · simp at hf; omega
      · have := hk e (by simp); omega
    have h2 := layStep_len s e
    have h3 := layGo_inv es (layStep s e) (fun x hx => hk x (by simp [hx])) (by simp at hf; omega) (of_le hl e.1)
    have e0 : layGo (e :: es) s = layGo es (layStep s e) := rfl
    rw [e0]
    refine ⟨by rw [h3.1, h1]; simp; omega, by rw [h3.2.1, h2], h3.2.2⟩
theorem ens_kind {l : List ByteArray} {k : Int} {n : List Int} (hk : 1 ≤ k) : ∀ e ∈ ensOf l k n, 1 ≤ e.2.1 := by
  intro e he
  obtain ⟨p, _, rfl⟩ := List.mem_map.1 he
  exact hk
theorem ens_len {l : List ByteArray} {k : Int} {n : List Int} (h : l.length = n.length) : (ensOf l k n).length = l.length := by simp [ensOf, h]
theorem key_mul {n : Nat} (hn : n ≤ 1048576) (k : Int) (hk : 0 ≤ k ∧ k ≤ 3) : IntKind.i64.wrap (IntKind.i64.wrap ((n : Int) * 4) + k) = (n : Int) * 4 + k := by
  rw [i64_id (x := (n : Int) * 4) (by omega) (by omega), i64_id (by omega) (by omega)]
theorem InW.cells {F : List Nat} {w : World} {A : Option Addr} {n : Nat} {W : List Int} (h : ∀ w', Fr F w w' → InW w' A n W) (h0 : 0 < n) : ∃ b o, A = some ⟨b, o, none⟩ ∧ ∀ w', Fr F w w' → ∀ i, i < n → w'.cell? ⟨b, o + (i : Int).toNat * 1, none⟩ = some (.int .i64 (W.getD i 0)) := by
  obtain ⟨b, o, hA, _⟩ := (h w (Fr.refl _ _)).2 h0
  refine ⟨b, o, hA, fun w' hf i hi => ?_⟩
  obtain ⟨b', o', hA', hc⟩ := (h w' hf).2 h0
  rw [hA] at hA'
  injection hA' with hA'
  injection hA' with e1 e2 _
  subst e1; subst e2
  rw [Int.toNat_natCast, Nat.mul_one]
  exact hc i hi
theorem refAt {S : List Nat} {w0 w : World} {L : List Chunk} (h : St S w0 w L) (i : Nat) {x : Nat} {l : List ByteArray} (hi : L[i]? = some (refI 81 x l)) : RefAt w x l := by
  obtain ⟨F, hF, _⟩ := h.at i hi
  exact ⟨F, hF⟩
theorem RefAt.len {w : World} {x : Nat} {l : List ByteArray} (h : RefAt w x l) : ∃ A c, w.cell? ⟨x, 0, none⟩ = some (.slice A l.length c) := by
  obtain ⟨F, hF⟩ := h
  obtain ⟨y, hS⟩ := openX (St.start1 hF)
  have hn := hS.slLen 1 rfl
  rw [List.length_map] at hn
  exact ⟨y.1, y.2.2, by rw [← hn]; exact (hS.blk 0 rfl).cell rfl⟩
abbrev rsK (t x b : Nat) (v : GV) (K N : Sl) (s : List ByteArray × List Pz) : List Chunk := [tabB t K N, ints K.v (s.2.map (·.1)), ints N.v (s.2.map (·.2)), refI 81 x s.1, Chunk.blk b v.cells 29]
theorem under26 : Try.prog.underlying 26 = some (.slice 3) := by kernel_rfl
theorem appI {S : List Nat} {w0 w : World} {L : List Chunk} (h : St S w0 w L) (i : Nat) {A : Option Addr} {n c : Nat} {l : List Int} (hi : L[i]? = some (ints (.slice A n c) l)) (a : Int) (hl : l.length ≤ 4000000) :
    ∃ A' n' c' w', (Builtin.append_ #[26, 26] 26 #[.slice A n c, .slice (some ⟨w.heap.size, 0, Option.none⟩) 1 1]).run Try.prog (World.alloc w (.cells #[.int .i64 a] 3)) = .ok (.slice A' n' c') w' ∧ St S w0 w' (L.set i (ints (.slice A' n' c') (l ++ [a]))) := by
  obtain ⟨ti, i1, i2, i3, i4⟩ := info3
  obtain ⟨g', cap', w', h1, h2⟩ := h.app (enc := encN) (P := Try.prog) (t := 26) (ty := 26) (fun _ => rfl) under26 i1 i2 i3 rfl (by omega) i hi a hl
  exact ⟨_, _, _, w', h1, h2⟩
theorem ls_of_blk {α : Type} {enc : α → Value} {e : TypeId} {b : Nat} {l : List α} (hm : l.length ≤ maxLen) {w : World} {F : List Nat} (h : (Chunk.blk b (l.map enc).toArray e).holds w F) : (Chunk.ls enc e (.slice (some ⟨b, 0, none⟩) l.length l.length) l).holds w F := by
  refine .inr ⟨b, l.length, by simp, h.1, (l.map enc).toArray, h.2, by simp, by simp, hm, by simp, fun i hi j hj => ?_⟩
  have : j = 0 := by omega
  subst this
  simp at hi
  simp [List.getD_eq_getElem?_getD, hi]
theorem take_snoc {α : Type} (d : α) (l : List α) (j : Nat) (h : j < l.length) : l.take (j + 1) = l.take j ++ [l.getD j d] := by
  rw [List.take_succ_eq_append_getElem h]
  simp [List.getD_eq_getElem?_getD, h]
theorem flatZ_snoc (Z : List Pz) (p : Pz) : flatZ (Z ++ [p]) = flatZ Z ++ [p.1, p.2] := by simp [flatZ]
theorem row_len {g : Gd} (h : validP g = true) {i : Nat} (hi : i < topOf (gF g)) : ((gM g).getD i []).length = topOf (gN g) := by
  obtain ⟨p1, p2, p3, p4, p5, p6, p7, p8, p9⟩ := valid_parts h
  exact (((shaped_iff _ _ _ _).1 p7).2 i hi).1
theorem layR {F : List Nat} {w : World} {v : GV} {g : Gd} {x : Nat} {l : List ByteArray} (hI : St F w w [refI 81 x l]) (hg : ∀ w', Fr F w w' → InG w' v g) (hl : l.length ≤ 1048576) (hbig : v.a.2.1 ≤ 1100000 ∧ v.s.2.1 ≤ 1100000 ∧ v.o.2.1 ≤ 1100000) (ver : Int) :
    Calls Try.prog 16 #[.int .i64 ver, v.v, .pointer (some ⟨x, 0, none⟩)] w fun e w' => ∃ A n c, e = .returned (.tuple #[.slice A n c, .int .i64 (layP ver g l).2.1]) ∧ St F w w' [ints (.slice A n c) (layP ver g l).1, refI 81 x (layP ver g l).2.2] := by
  refine Calls.mono (f16.calls (R := fun u w' => ∃ A n c, u = .tuple #[.slice A n c, .int .i64 (layP ver g l).2.1] ∧ St F w w' [ints (.slice A n c) (layP ver g l).1, refI 81 x (layP ver g l).2.2]) ?_) ?_
  · dsimp only [f16.VC]
    have hS := hI.alloc v.cells 29
    generalize w.heap.size = b at *
    generalize World.alloc w (.cells v.cells 29) = w1 at *
    have bad : ∀ (er : Int) w', St F w w' [Chunk.blk b v.cells 29, refI 81 x l] → layP ver g l = ([], er, l) → ∃ A n c, Value.tuple #[.slice none 0 0, .int .i64 er] = .tuple #[.slice A n c, .int .i64 (layP ver g l).2.1] ∧ St F w w' [ints (.slice A n c) (layP ver g l).1, refI 81 x (layP ver g l).2.2] := by
      intro er w' hS he
      rw [he]
      exact ⟨none, 0, 0, rfl, (hS.tail.nil 3 1)⟩
    refine sel_of (fun h1 => bad 3 _ hS ?_) (fun h1 => sel_of (fun h2 => bad 3 _ hS ?_) (fun h2 => ?_))
    · unfold layP; rw [if_pos (.inl (of_decide_eq_true h1))]
    · unfold layP; rw [if_pos (.inr (of_decide_eq_true h2))]
    have h1 := of_decide_eq_false h1
    have h2 := of_decide_eq_false h2
    refine ⟨_, _, _, (hS.blk 0 rfl).cell rfl, _, _, _, (hS.blk 0 rfl).cell rfl, _, _, _, (hS.blk 0 rfl).cell rfl, _, _, _, (hS.blk 0 rfl).cell rfl, _, _, _, (hS.blk 0 rfl).cell rfl, _, _, _, (hS.blk 0 rfl).cell rfl, ?_⟩
    refine Calls.mono (hS.step0 (validR (hg _ hS.frame) hbig)) ?_
    rintro _ w2 ⟨rfl, hS⟩
    refine ⟨_, rfl, sel_of (fun hv => bad 120 _ hS ?_) (fun hv => ?_)⟩
    · have hv : validP g = false := by simpa using hv
      unfold layP; rw [if_neg (by omega), if_pos hv]
    have hv : validP g = true := by simpa using hv
    obtain ⟨p1, p2, p3, p4, p5, p6, p7, p8, p9⟩ := valid_parts hv
    obtain ⟨q1, q2, q3, q4⟩ := tOf_small hv
    have q5 : 2 ≤ tOf g := (tabN_ge (by omega)).2
    have hfl : freshN l g ≤ 144 := by
      have := wantGo_len l (names g) []
      unfold freshN
      simp at this; omega
    refine ⟨fun w' => St F w w' [Chunk.blk b v.cells 29, refI 81 x l] ∧ l.length + freshN l g ≤ 1048576, ?_, ?_⟩
    · refine ⟨_, _, _, (hS.blk 0 rfl).cell rfl, _, _, _, (hS.blk 0 rfl).cell rfl, _, _, _, (hS.blk 0 rfl).cell rfl, _, _, _, (hS.blk 0 rfl).cell rfl, _, _, _, (hS.blk 0 rfl).cell rfl, _, _, _, (hS.blk 0 rfl).cell rfl, ?_⟩
      have fin : ∀ w', St F w w' [Chunk.blk b v.cells 29, refI 81 x l] → sel (decide ((1048576 : Int) < IntKind.i64.wrap ((l.length : Int) + (freshN l g : Int)))) (∃ A n c, Value.tuple #[.slice none 0 0, .int .i64 4] = .tuple #[.slice A n c, .int .i64 (layP ver g l).2.1] ∧ St F w w' [ints (.slice A n c) (layP ver g l).1, refI 81 x (layP ver g l).2.2])
          (([.int .i64 ver, .pointer (some ⟨x, 0, none⟩), .pointer (some ⟨b, 0, none⟩)] : List Value) = [.int .i64 ver, .pointer (some ⟨x, 0, none⟩), .pointer (some ⟨b, 0, none⟩)] ∧ St F w w' [Chunk.blk b v.cells 29, refI 81 x l] ∧ l.length + freshN l g ≤ 1048576) := by
        intro w' hS
        rw [i64_id (by omega) (by omega)]
        refine sel_of (fun h3 => bad 4 _ hS ?_) (fun h3 => ⟨rfl, hS, ?_⟩)
        · have h3 := of_decide_eq_true h3
          unfold layP; rw [if_neg (by omega), if_neg (by rw [hv]; simp), if_pos (by omega)]
        · have h3 := of_decide_eq_false h3
          omega
      refine ⟨?_, ?_, trivial⟩
      · obtain ⟨A, c, hc⟩ := (refAt hS 1 rfl).len
        refine ⟨_, _, _, hc, ?_⟩
        refine Calls.mono (hS.drew.step0 (freshR (hg _ hS.drew.frame) (refAt hS.drew 1 rfl) hl hbig)) ?_
        rintro _ w3 ⟨rfl, hS⟩
        exact ⟨_, rfl, fin _ hS⟩
      · refine Calls.mono (hS.drew.step0 (freshR (hg _ hS.drew.frame) (refAt hS.drew 1 rfl) hl hbig)) ?_
        rintro _ w3 ⟨rfl, hS⟩
        obtain ⟨A, c, hc⟩ := (refAt hS 1 rfl).len
        exact ⟨_, rfl, _, _, _, hc, fin _ hS⟩
    rintro d w5 ⟨hS, hroom⟩
    have elay : layP ver g l = (pageZ (headP ver g) (layZ g l).2 ++ (gM g).flatten, 0, (layZ g l).1) := by
      unfold layP; rw [if_neg (by omega), if_neg (by rw [hv]; simp), if_neg (by omega)]
    rw [elay]
    clear bad
    refine ⟨_, _, _, (hS.blk 0 rfl).cell rfl, ?_⟩
    refine Calls.mono (greatR (hg _ hS.frame).f.1 (by have := (hg _ hS.frame).f.1.1; omega)) ?_
    rintro _ w6 ⟨rfl, e6⟩
    rw [e6]
    refine ⟨_, _, rfl, _, _, _, (hS.blk 0 rfl).cell rfl, ?_⟩
    refine Calls.mono (greatR (hg _ hS.frame).n.1 (by have := (hg _ hS.frame).n.1.1; omega)) ?_
    rintro _ w7 ⟨rfl, e7⟩
    rw [e7]
    clear e6 e7 w6 w7
    have eF : (great (gF g) 0).getD 0 = topOf (gF g) := rfl
    have eN : (great (gN g) 0).getD 0 = topOf (gN g) := rfl
    rw [eF, eN]
    have hT := (hS.nil 3 1).nil 3 1
    have hT := hT.alloc #[.slice none 0 0, .slice none 0 0] 89
    generalize ht : w5.heap.size = t at *
    generalize World.alloc w5 (.cells #[.slice none 0 0, .slice none 0 0] 89) = w8 at *
    refine ⟨_, _, rfl, fun p w' => p = some ⟨t, 0, none⟩ ∧ w' = w8, ⟨rfl, rfl, rfl⟩, ?_⟩
    rintro d p w9 ⟨rfl, rfl⟩
    have hT0 : St F w w9 (rsK t x b v (none, 0, 0) (none, 0, 0) (l, [])) := hT.perm ((((List.Perm.swap _ _ _).cons _).cons _).cons _)
    have hnm := (hg w (Fr.refl _ _)).lens
    have la := (hg w (Fr.refl _ _)).a.1.1
    have ls := (hg w (Fr.refl _ _)).s.1.1
    have lo := (hg w (Fr.refl _ _)).o.1.1
    have lf := (hg w (Fr.refl _ _)).f.1.1
    have ln := (hg w (Fr.refl _ _)).n.1.1
    have lm := (hg w (Fr.refl _ _)).m.1.1
    clear hT
    refine ⟨fun w' => ∃ K N, St F w w' (rsK t x b v K N (l, List.replicate (tOf g) pz0)), ⟨fun y w' r => ∃ i : Nat, y = (i : Int) ∧ i + r = tOf g ∧ ∃ K N, St F w w' (rsK t x b v K N (l, List.replicate i pz0)), ⟨tOf g, 0, rfl, by omega, _, _, hT0⟩, ?_⟩, ?_⟩
    · rintro d y w10 r ⟨i, rfl, hir, K, N, hS⟩
      refine ⟨_, _, _, (hS.blk 4 rfl).cell rfl, _, _, _, (hS.blk 4 rfl).cell rfl, _, _, _, (hS.blk 4 rfl).cell rfl, _, _, _, (hS.blk 4 rfl).cell rfl, _, _, _, (hS.blk 4 rfl).cell rfl, _, _, _, (hS.blk 4 rfl).cell rfl, ?_⟩
      refine Calls.mono (hS.step0 (keysR _ v hbig)) ?_
      rintro _ w11 ⟨rfl, hS⟩
      refine ⟨_, rfl, ?_⟩
      rw [hnm]
      refine Calls.mono (tableR w11 _ (by omega)) ?_
      rintro _ w12 ⟨rfl, e12⟩
      rw [e12]
      refine ⟨_, rfl, sel_of (fun hd => ?_) (fun hd => ?_)⟩
      · have hi : i < tOf g := by have := of_decide_eq_true hd; unfold tOf; omega
        obtain ⟨A1, n1, c1, w14, r1, hS1⟩ := appI hS 1 rfl 0 (by simp; omega)
        have hS1 : St F w w14 [tabB t K N, ints (.slice A1 n1 c1) (((List.replicate i pz0).map (·.1)) ++ [0]), ints N.v ((List.replicate i pz0).map (·.2)), refI 81 x l, Chunk.blk b v.cells 29] := hS1
        have hS2 := hS1.set 0 rfl 0 [.slice A1 n1 c1]
        have hS2 : St F w (setCs w14 t 0 [.slice A1 n1 c1]) [tabB t (A1, n1, c1) N, ints (.slice A1 n1 c1) (((List.replicate i pz0).map (·.1)) ++ [0]), ints N.v ((List.replicate i pz0).map (·.2)), refI 81 x l, Chunk.blk b v.cells 29] := hS2
        obtain ⟨A2, n2, c2, w17, r2, hS3⟩ := appI hS2 2 rfl 0 (by simp; omega)
        have hS3 : St F w w17 [tabB t (A1, n1, c1) N, ints (.slice A1 n1 c1) (((List.replicate i pz0).map (·.1)) ++ [0]), ints (.slice A2 n2 c2) (((List.replicate i pz0).map (·.2)) ++ [0]), refI 81 x l, Chunk.blk b v.cells 29] := hS3
        have hS4 := hS3.set 0 rfl 1 [.slice A2 n2 c2]
        have er : List.replicate (i + 1) pz0 = List.replicate i pz0 ++ [pz0] := by rw [List.replicate_succ']
        have hS4 : St F w (setCs w17 t 1 [.slice A2 n2 c2]) (rsK t x b v (A1, n1, c1) (A2, n2, c2) (l, List.replicate (i + 1) pz0)) := by
          rw [er]
          simp only [rsK, List.map_append]
          exact hS4
        rw [inc i 1000 (by omega) (by omega)]
        refine needPtr_of rfl ⟨_, _, _, (hS.blk 0 rfl).cell rfl, _, _, _, _, r1, needPtr_of rfl ⟨(hS1.blk 0 rfl).can (by simp), needPtr_of rfl ⟨_, _, _, (hS2.blk 0 rfl).cell rfl, _, _, _, _, r2, needPtr_of rfl ⟨(hS3.blk 0 rfl).can (by simp), rfl, r - 1, by omega, i + 1, rfl, by omega, _, _, hS4⟩⟩⟩⟩
      · have hi : i = tOf g := by have := of_decide_eq_false hd; unfold tOf at *; omega
        subst hi
        exact ⟨rfl, _, _, hS⟩
    rintro d w19 ⟨K, N, hS⟩
    have hk1 := ens_kind (l := gA g) (n := upTo (gA g).length) (k := 3) (by omega)
    have hk2 := ens_kind (l := gS g) (n := gF g) (k := 1) (by omega)
    have hk3 := ens_kind (l := gO g) (n := gN g) (k := 2) (by omega)
    have hu : (gA g).length = (upTo (gA g).length).length := by simp [upTo]
    have he1 := ens_len (k := 3) hu
    have he2 := ens_len (l := gS g) (n := gF g) (k := 1) (by omega)
    have he3 := ens_len (l := gO g) (n := gN g) (k := 2) (by omega)
    have hnl := names_len g
    have hz0 := full_zero (tOf g)
    have hinv : ∀ (es : List En) (s : List ByteArray × List Pz) (i : Nat), (∀ e ∈ es, 1 ≤ e.2.1) → fullN s.2 + es.length < tOf g → s.2.length = tOf g → s.1.length ≤ 1048576 → i ≤ es.length →
        fullN (layGo (es.take i) s).2 < (layGo (es.take i) s).2.length ∧ (layGo (es.take i) s).2.length = tOf g ∧ (layGo (es.take i) s).1.length ≤ 1048576 ∧ fullN (layGo (es.take i) s).2 = fullN s.2 + i := by
      intro es s i hk hf hlen hl hi
      obtain ⟨a1, a2, a3⟩ := layGo_inv (es.take i) s (fun e he => hk e (List.mem_of_mem_take he)) (by rw [List.length_take]; omega) hl
      rw [List.length_take] at a1
      exact ⟨by omega, by omega, a3, by omega⟩
    generalize hs0 : (l, List.replicate (tOf g) pz0) = s0 at *
    have f0 : fullN s0.2 = 0 ∧ s0.2.length = tOf g ∧ s0.1.length ≤ 1048576 := by rw [← hs0]; exact ⟨hz0, by simp, hl⟩
    generalize hE1 : ensOf (gA g) 3 (upTo (gA g).length) = E1 at *
    generalize hE2 : ensOf (gS g) 1 (gF g) = E2 at *
    generalize hE3 : ensOf (gO g) 2 (gN g) = E3 at *
    have i1 := hinv E1 s0 E1.length hk1 (by omega) f0.2.1 f0.2.2 (Nat.le_refl _)
    rw [List.take_length] at i1
    have i2 := hinv E2 (layGo E1 s0) E2.length hk2 (by omega) i1.2.1 i1.2.2.1 (Nat.le_refl _)
    rw [List.take_length] at i2
    have i3 := hinv E3 (layGo E2 (layGo E1 s0)) E3.length hk3 (by omega) i2.2.1 i2.2.2.1 (Nat.le_refl _)
    rw [List.take_length] at i3
    have efin : layZ g l = layGo E3 (layGo E2 (layGo E1 s0)) := by
      unfold layZ ens
      rw [hE1, hE2, hE3, hs0]
      simp only [layGo, List.foldl_append]
    refine ⟨fun w' => ∃ K N, St F w w' (rsK t x b v K N (layGo E1 s0)), ⟨fun y w' r => ∃ i : Nat, y = (i : Int) ∧ i + r = (gA g).length ∧ ∃ K N, St F w w' (rsK t x b v K N (layGo (E1.take i) s0)), ⟨(gA g).length, 0, rfl, by omega, _, _, hS⟩, ?_⟩, ?_⟩
    · rintro d y w20 r ⟨i, rfl, hir, K, N, hS⟩
      refine ⟨_, _, _, (hS.blk 4 rfl).cell rfl, sel_of (fun hd => ?_) (fun hd => ?_)⟩
      · have hi : i < (gA g).length := by have := of_decide_eq_true hd; omega
        obtain ⟨b1, b2, b3, b4⟩ := hinv E1 s0 i hk1 (by omega) f0.2.1 f0.2.2 (by omega)
        have hst := layGo_snoc (E1.take i) ((gA g).getD i ByteArray.empty, 3, (upTo (gA g).length).getD i 0) s0
        have het := ens_take (k := 3) hu hi
        rw [hE1] at het
        rw [← het] at hst
        have hui : (upTo (gA g).length).getD i 0 = ((i + 1 : Nat) : Int) := by simp [upTo, List.getD_eq_getElem?_getD, hi]
        rw [hui] at hst
        generalize layGo (E1.take i) s0 = s at *
        refine ⟨_, _, _, (hS.blk 4 rfl).cell rfl, by omega, by omega, InX.need (hg _ hS.frame).a.1 rfl (by omega) ?_⟩
        generalize (gA g).getD i ByteArray.empty = nm at *
        refine Calls.mono (NI.rOf hS 3 rfl b3 nm) ?_
        rintro _ w21 ⟨rfl, hS⟩
        have hS : St F w w21 (rsK t x b v K N (IX.of s.1 nm, s.2)) := hS
        refine ⟨_, rfl, ?_⟩
        rw [key_mul (ofN_le b3 nm) 3 (by omega), inc i 1000 (by omega) (by omega)]
        refine Calls.mono (putR hS b1 (show s.2.length ≤ 4096 by omega) _ _) ?_
        rintro _ w22 ⟨rfl, hS⟩
        refine ⟨rfl, rfl, r - 1, by omega, i + 1, rfl, by omega, K, N, ?_⟩
        rw [hst]
        exact hS
      · have hi : i = (gA g).length := by have := of_decide_eq_false hd; omega
        rw [List.take_of_length_le (by omega)] at hS
        exact ⟨rfl, _, _, hS⟩
    rintro d w23 ⟨K, N, hS⟩
    refine ⟨fun w' => ∃ K N, St F w w' (rsK t x b v K N (layGo E2 (layGo E1 s0))), ⟨fun y w' r => ∃ i : Nat, y = (i : Int) ∧ i + r = (gS g).length ∧ ∃ K N, St F w w' (rsK t x b v K N (layGo (E2.take i) (layGo E1 s0))), ⟨(gS g).length, 0, rfl, by omega, _, _, hS⟩, ?_⟩, ?_⟩
    · rintro d y w20 r ⟨i, rfl, hir, K, N, hS⟩
      refine ⟨_, _, _, (hS.blk 4 rfl).cell rfl, sel_of (fun hd => ?_) (fun hd => ?_)⟩
      · have hi : i < (gS g).length := by have := of_decide_eq_true hd; omega
        obtain ⟨b1, b2, b3, b4⟩ := hinv E2 (layGo E1 s0) i hk2 (by omega) i1.2.1 i1.2.2.1 (by omega)
        have hst := layGo_snoc (E2.take i) ((gS g).getD i ByteArray.empty, 1, (gF g).getD i 0) ((layGo E1 s0))
        have het := ens_take (k := 1) (l := gS g) (n := gF g) (by omega) hi
        rw [hE2] at het
        rw [← het] at hst
        obtain ⟨bf, of', hA, hcell⟩ := InW.cells (fun w' hf => (hg w' hf).f.1) (show 0 < v.f.2.1 by omega)
        generalize layGo (E2.take i) ((layGo E1 s0)) = s at *
        refine ⟨_, _, _, (hS.blk 4 rfl).cell rfl, by omega, by omega, InX.need (hg _ hS.frame).s.1 rfl (by omega) ?_⟩
        generalize (gS g).getD i ByteArray.empty = nm at *
        have hkey := key_mul (ofN_le b3 nm) 1 (by omega)
        have hSd := hS.drew
        have e5 := inc i 1000 (by omega) (by omega)
        have z1 : (0 : Int) ≤ (i : Int) := by omega
        have z2 : (i : Int) < (v.f.2.1 : Int) := by omega
        have z3 : i < v.f.2.1 := by omega
        have z4 : s.2.length ≤ 4096 := by omega
        have fin : ∀ w', St F w w' (rsK t x b v K N (IX.of s.1 nm, putZ s.2 (IntKind.i64.wrap (IntKind.i64.wrap ((IX.ofN s.1 nm : Int) * 4) + 1)) ((gF g).getD i 0))) → ∃ m, m < r ∧ ∃ i' : Nat, IntKind.i64.wrap ((i : Int) + 1) = (i' : Int) ∧ i' + m = (gS g).length ∧ ∃ K N, St F w w' (rsK t x b v K N (layGo (E2.take i') ((layGo E1 s0)))) := by
          intro w' hS
          refine ⟨r - 1, by omega, i + 1, e5, by omega, K, N, ?_⟩
          rw [hst]
          rw [hkey] at hS
          exact hS
        repeat' (first
          | exact trivial
          | refine ⟨_, _, _, Blk.cell (St.blk (S := F) (w0 := w) (L := rsK t x b v K N s) (by assumption) 4 rfl) rfl, ?_⟩
          | refine ⟨_, _, _, Blk.cell (St.blk (S := F) (w0 := w) (L := rsK t x b v K N (IX.of s.1 nm, s.2)) (by assumption) 4 rfl) rfl, ?_⟩
          | refine ⟨_, hcell _ (St.frame (S := F) (w0 := w) (L := rsK t x b v K N s) (by assumption)) i z3, ?_⟩
          | refine ⟨_, hcell _ (St.frame (S := F) (w0 := w) (L := rsK t x b v K N (IX.of s.1 nm, s.2)) (by assumption)) i z3, ?_⟩
          | refine ⟨z1, z2, needPtr_of hA ?_⟩
          | (refine Calls.mono (NI.rOf hSd 3 rfl b3 nm) ?_
             rintro _ w21 ⟨rfl, hS⟩
             have hS : St F w w21 (rsK t x b v K N (IX.of s.1 nm, s.2)) := hS
             refine ⟨_, rfl, ?_⟩)
          | (refine Calls.mono (putR (Z := s.2) (L := [refI 81 x (IX.of s.1 nm), Chunk.blk b v.cells 29]) (by assumption) b1 z4 _ _) ?_
             rintro _ w22 ⟨rfl, hS⟩
             exact ⟨rfl, rfl, fin _ hS⟩)
          | refine And.intro ?_ ?_
          | fail)
      · have hi : i = (gS g).length := by have := of_decide_eq_false hd; omega
        rw [List.take_of_length_le (by omega)] at hS
        exact ⟨rfl, _, _, hS⟩
    rintro d w23 ⟨K, N, hS⟩
    refine ⟨fun w' => ∃ K N, St F w w' (rsK t x b v K N (layGo E3 (layGo E2 (layGo E1 s0)))), ⟨fun y w' r => ∃ i : Nat, y = (i : Int) ∧ i + r = (gO g).length ∧ ∃ K N, St F w w' (rsK t x b v K N (layGo (E3.take i) (layGo E2 (layGo E1 s0)))), ⟨(gO g).length, 0, rfl, by omega, _, _, hS⟩, ?_⟩, ?_⟩
    · rintro d y w20 r ⟨i, rfl, hir, K, N, hS⟩
      refine ⟨_, _, _, (hS.blk 4 rfl).cell rfl, sel_of (fun hd => ?_) (fun hd => ?_)⟩
      · have hi : i < (gO g).length := by have := of_decide_eq_true hd; omega
        obtain ⟨b1, b2, b3, b4⟩ := hinv E3 (layGo E2 (layGo E1 s0)) i hk3 (by omega) i2.2.1 i2.2.2.1 (by omega)
        have hst := layGo_snoc (E3.take i) ((gO g).getD i ByteArray.empty, 2, (gN g).getD i 0) ((layGo E2 (layGo E1 s0)))
        have het := ens_take (k := 2) (l := gO g) (n := gN g) (by omega) hi
        rw [hE3] at het
        rw [← het] at hst
        obtain ⟨bf, of', hA, hcell⟩ := InW.cells (fun w' hf => (hg w' hf).n.1) (show 0 < v.n.2.1 by omega)
        generalize layGo (E3.take i) ((layGo E2 (layGo E1 s0))) = s at *
        refine ⟨_, _, _, (hS.blk 4 rfl).cell rfl, by omega, by omega, InX.need (hg _ hS.frame).o.1 rfl (by omega) ?_⟩
        generalize (gO g).getD i ByteArray.empty = nm at *
        have hkey := key_mul (ofN_le b3 nm) 2 (by omega)
        have hSd := hS.drew
        have e5 := inc i 1000 (by omega) (by omega)
        have z1 : (0 : Int) ≤ (i : Int) := by omega
        have z2 : (i : Int) < (v.n.2.1 : Int) := by omega
        have z3 : i < v.n.2.1 := by omega
        have z4 : s.2.length ≤ 4096 := by omega
        have fin : ∀ w', St F w w' (rsK t x b v K N (IX.of s.1 nm, putZ s.2 (IntKind.i64.wrap (IntKind.i64.wrap ((IX.ofN s.1 nm : Int) * 4) + 2)) ((gN g).getD i 0))) → ∃ m, m < r ∧ ∃ i' : Nat, IntKind.i64.wrap ((i : Int) + 1) = (i' : Int) ∧ i' + m = (gO g).length ∧ ∃ K N, St F w w' (rsK t x b v K N (layGo (E3.take i') ((layGo E2 (layGo E1 s0))))) := by
          intro w' hS
          refine ⟨r - 1, by omega, i + 1, e5, by omega, K, N, ?_⟩
          rw [hst]
          rw [hkey] at hS
          exact hS
        repeat' (first
          | exact trivial
          | refine ⟨_, _, _, Blk.cell (St.blk (S := F) (w0 := w) (L := rsK t x b v K N s) (by assumption) 4 rfl) rfl, ?_⟩
          | refine ⟨_, _, _, Blk.cell (St.blk (S := F) (w0 := w) (L := rsK t x b v K N (IX.of s.1 nm, s.2)) (by assumption) 4 rfl) rfl, ?_⟩
          | refine ⟨_, hcell _ (St.frame (S := F) (w0 := w) (L := rsK t x b v K N s) (by assumption)) i z3, ?_⟩
          | refine ⟨_, hcell _ (St.frame (S := F) (w0 := w) (L := rsK t x b v K N (IX.of s.1 nm, s.2)) (by assumption)) i z3, ?_⟩
          | refine ⟨z1, z2, needPtr_of hA ?_⟩
          | (refine Calls.mono (NI.rOf hSd 3 rfl b3 nm) ?_
             rintro _ w21 ⟨rfl, hS⟩
             have hS : St F w w21 (rsK t x b v K N (IX.of s.1 nm, s.2)) := hS
             refine ⟨_, rfl, ?_⟩)
          | (refine Calls.mono (putR (Z := s.2) (L := [refI 81 x (IX.of s.1 nm), Chunk.blk b v.cells 29]) (by assumption) b1 z4 _ _) ?_
             rintro _ w22 ⟨rfl, hS⟩
             exact ⟨rfl, rfl, fin _ hS⟩)
          | refine And.intro ?_ ?_
          | fail)
      · have hi : i = (gO g).length := by have := of_decide_eq_false hd; omega
        rw [List.take_of_length_le (by omega)] at hS
        exact ⟨rfl, _, _, hS⟩
    rintro d w23 ⟨K, N, hS⟩
    rw [← efin] at hS
    have b2 : (layZ g l).2.length = tOf g := by rw [efin]; exact i3.2.1
    have bl : (layZ g l).1.length ≤ 1048576 := by rw [efin]; exact i3.2.2.1
    generalize layZ g l = s at *
    clear hinv hs0 f0 hE1 hE2 hE3 i1 i2 i3 efin hk1 hk2 hk3 he1 he2 he3
    have hKn := hS.lsLen 1 rfl
    have hNn := hS.lsLen 2 rfl
    rw [List.length_map] at hKn hNn
    have hhead : headP ver g = [ver, ((K.2.1 : Nat) : Int), (topOf (gF g) : Int), (topOf (gN g) : Int)] := by unfold headP; rw [hKn, b2]
    have hA := hS.alloc #[.int .i64 ver, .int .i64 ((K.2.1 : Nat) : Int), .int .i64 (topOf (gF g) : Int), .int .i64 (topOf (gN g) : Int)] 3
    have hP : St F w _ (ints (.slice (some ⟨w23.heap.size, 0, none⟩) 4 4) (headP ver g) :: rsK t x b v K N s) := hA.as 0 rfl (ints (.slice (some ⟨w23.heap.size, 0, none⟩) 4 4) (headP ver g)) (fun F' hF => by
      have := ls_of_blk (enc := encN) (l := headP ver g) (by rw [hhead]; simp [maxLen]) (w := _) (F := F') (b := w23.heap.size) (e := 3) (by rw [hhead]; exact hF)
      rw [hhead] at this ⊢
      exact this)
    refine needPtr_of rfl ⟨_, _, _, (hS.blk 0 rfl).cell rfl, ?_⟩
    have hm4 : (gM g).length = topOf (gF g) := ((shaped_iff _ _ _ _).1 p7).1
    refine ⟨fun A n c w' => St F w w' (ints (.slice A n c) (pageZ (headP ver g) s.2) :: rsK t x b v K N s), ⟨fun A n c y w' r => ∃ i : Nat, y = (i : Int) ∧ i + r = tOf g ∧ St F w w' (ints (.slice A n c) (pageZ (headP ver g) (s.2.take i)) :: rsK t x b v K N s), ⟨tOf g, 0, rfl, by omega, by rw [List.take_zero]; simpa [pageZ, flatZ] using hP⟩, ?_⟩, ?_⟩
    · rintro d A n c y w41 r ⟨i, rfl, hir, hS⟩
      refine needPtr_of rfl ⟨_, _, _, (hS.blk 1 rfl).cell rfl, sel_of (fun hd => ?_) (fun hd => ?_)⟩
      · have hi : i < tOf g := by have := of_decide_eq_true hd; omega
        obtain ⟨gk, hgk, hck⟩ := hS.lsGet 0 2 rfl (by omega)
        obtain ⟨gn, hgn, hcn⟩ := hS.lsGet 0 3 rfl (by omega)
        have ck := hck i (by omega)
        have cn := hcn i (by omega)
        have hB := hS.drew.alloc #[.int .i64 ((s.2.map (·.1)).getD i 0), .int .i64 ((s.2.map (·.2)).getD i 0)] 3
        obtain ⟨ti, j1, j2, j3, j4⟩ := info3
        obtain ⟨A', n', c', w43, r1, hS1⟩ := St.appMany (ty := 26) (0 : Int) (enc := encN) (fun _ => rfl) under26 j1 j2 j3 rfl (by omega) hB 1 (l := pageZ (headP ver g) (s.2.take i)) rfl (n2 := 2) (A2 := some ⟨w41.heap.size, 0, none⟩) (c2 := 2) (k := [(s.2.map (·.1)).getD i 0, (s.2.map (·.2)).getD i 0]) rfl
          (fun _ => ⟨w41.heap.size, 0, rfl, fun q hq => by
            obtain rfl | rfl : q = 0 ∨ q = 1 := by omega
            · exact (hB.blk 0 rfl).cell rfl
            · exact (hB.blk 0 rfl).cell rfl⟩) (by rw [pageZ_len (by rw [hhead]; rfl)]; simp; omega)
        have hS1 := hS1.tail
        have e1 : pageZ (headP ver g) (s.2.take i) ++ [(s.2.map (·.1)).getD i 0, (s.2.map (·.2)).getD i 0] = pageZ (headP ver g) (s.2.take (i + 1)) := by
          have : i < s.2.length := by omega
          unfold pageZ
          rw [List.take_succ_eq_append_getElem this, flatZ_snoc]
          simp [List.getD_eq_getElem?_getD, this]
        rw [e1] at hS1
        rw [inc i 1000 (by omega) (by omega)]
        refine needPtr_of rfl (needPtr_of rfl ⟨_, _, _, (hS.blk 1 rfl).cell rfl, by omega, by omega, needPtr_of hgk ⟨_, by rw [Int.toNat_natCast, Nat.mul_one, Nat.zero_add]; exact ck, _, _, _, (hS.blk 1 rfl).cell rfl, by omega, by omega, needPtr_of hgn ⟨_, by rw [Int.toNat_natCast, Nat.mul_one, Nat.zero_add]; exact cn, _, _, _, _, r1, rfl, r - 1, by omega, i + 1, rfl, by omega, hS1⟩⟩⟩)
      · have hi : i = tOf g := by have := of_decide_eq_false hd; omega
        rw [List.take_of_length_le (by omega)] at hS
        exact ⟨rfl, hS⟩
    rintro d A n c w44 hS
    have hlp := pageZ_len (hd := headP ver g) (by rw [hhead]; rfl) s.2
    generalize pageZ (headP ver g) s.2 = PZ at *
    have hml : ∀ i, i ≤ topOf (gF g) → ((gM g).take i).flatten.length = i * topOf (gN g) := by
      intro i hi
      have : ∀ r ∈ (gM g).take i, r.length = topOf (gN g) := fun r hr => by
        obtain ⟨a, ha, rfl⟩ := (mem_getD [] _ _).1 (List.mem_of_mem_take hr)
        exact row_len hv (by omega)
      rw [List.length_flatten]
      have e : ((gM g).take i).map List.length = List.replicate i (topOf (gN g)) := by
        apply List.ext_getElem (by simp; omega)
        intro q h1 h2
        simp at h1
        simp only [List.getElem_map, List.getElem_replicate]
        exact this _ (List.getElem_mem _)
      rw [e]; simp
    have hmul := Nat.mul_le_mul p5 p6
    refine ⟨fun A n c y w' r => ∃ i : Nat, y = (i : Int) ∧ i + r = topOf (gF g) ∧ St F w w' (ints (.slice A n c) (PZ ++ ((gM g).take i).flatten) :: rsK t x b v K N s), ⟨topOf (gF g), 0, rfl, by omega, by rw [List.take_zero, List.flatten_nil, List.append_nil]; exact hS⟩, ?_⟩
    rintro d A n c y w45 r ⟨i, rfl, hir, hS⟩
    refine sel_of (fun hd => ?_) (fun hd => ?_)
    · have hi : i < topOf (gF g) := by have := of_decide_eq_true hd; omega
      have hrl := row_len hv hi
      have hlen := hml i (by omega)
      have hmi : i * topOf (gN g) ≤ 4096 := by
        have := Nat.mul_le_mul (show i ≤ 64 by omega) p6
        omega
      refine ⟨fun A n c y w' q => ∃ j : Nat, y = (j : Int) ∧ j + q = topOf (gN g) ∧ St F w w' (ints (.slice A n c) (PZ ++ ((gM g).take i).flatten ++ ((gM g).getD i []).take j) :: rsK t x b v K N s), ⟨topOf (gN g), 0, rfl, by omega, by rw [List.take_zero, List.append_nil]; exact hS⟩, ?_⟩
      rintro d A n c y w46 q ⟨j, rfl, hjq, hS⟩
      refine sel_of (fun hd => ?_) (fun hd => ?_)
      · have hj : j < topOf (gN g) := by have := of_decide_eq_true hd; omega
        have hu : 0 ≤ ((gM g).getD i []).getD j 0 ∧ ((gM g).getD i []).getD j 0 < 65536 := by
          refine (hg w (Fr.refl _ _)).u ((gM g).getD i []) ?_ _ ?_
          · exact (mem_getD [] _ _).2 ⟨i, by omega, rfl⟩
          · exact (mem_getD 0 _ _).2 ⟨j, by omega, rfl⟩
        obtain ⟨A', n', c', w48, r1, hS1⟩ := appI hS 0 rfl (((gM g).getD i []).getD j 0) (by simp only [List.length_append, List.length_take]; omega)
        refine ⟨_, _, _, (hS.blk 5 rfl).cell rfl, by omega, by omega, InM.need (hg _ hS.frame).m.1 rfl (by omega) fun B k' c'' hU => ⟨by omega, by have := hU.1; omega, hU.need rfl (by have := hU.1; omega) ?_⟩⟩
        rw [i64_id (x := ((gM g).getD i []).getD j 0) (by omega) (by omega), inc j 1000 (by omega) (by omega)]
        refine ⟨_, _, _, _, r1, rfl, q - 1, by omega, j + 1, rfl, by omega, ?_⟩
        have e1 : PZ ++ ((gM g).take i).flatten ++ ((gM g).getD i []).take (j + 1) = PZ ++ ((gM g).take i).flatten ++ ((gM g).getD i []).take j ++ [((gM g).getD i []).getD j 0] := by
          rw [take_snoc 0 _ j (by omega), ← List.append_assoc]
        rw [e1]
        exact hS1
      · have hj : j = topOf (gN g) := by have := of_decide_eq_false hd; omega
        rw [inc i 1000 (by omega) (by omega)]
        refine ⟨rfl, r - 1, by omega, i + 1, rfl, by omega, ?_⟩
        rw [List.take_of_length_le (l := (gM g).getD i []) (by omega)] at hS
        have e1 : PZ ++ ((gM g).take (i + 1)).flatten = PZ ++ ((gM g).take i).flatten ++ (gM g).getD i [] := by
          rw [take_snoc [] (gM g) i (by omega), List.flatten_append, ← List.append_assoc]
          simp
        rw [e1]
        exact hS
    · have hi : i = topOf (gF g) := by have := of_decide_eq_false hd; omega
      rw [List.take_of_length_le (by omega)] at hS
      exact ⟨_, _, _, rfl, hS.sel [0, 4] (by decide) _ rfl⟩
  · rintro e w' ⟨v, rfl, A, n, c, rfl, h⟩; exact ⟨_, _, _, rfl, h⟩
end PG
end Go.Proofs.Ytjmlfknogjaemaa
