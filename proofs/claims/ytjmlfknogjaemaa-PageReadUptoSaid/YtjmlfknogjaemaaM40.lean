/- Page: the law PageRead, the walk. -/
import Derived.Test.YtjmlfknogjaemaaM38
import Derived.Test.YtjmlfknogjaemaaM39
set_option linter.unusedVariables false
set_option linter.unusedSimpArgs false
set_option maxRecDepth 10000
namespace Go.Proofs.Ytjmlfknogjaemaa
open Go Go.Proofs.Ytjmlfknogjaemaa.Vc
namespace PG
open Vc.PG NI
theorem of_nodup {l : List ByteArray} (h : l.Nodup) (s : ByteArray) : (IX.of l s).Nodup := by
  unfold IX.of
  split
  · rename_i h0
    split
    · exact h
    · have hm : ¬ s ∈ l := by
        intro hm
        unfold IX.num at h0
        split at h0
        · omega
        · rename_i hf
          have := List.findIdx?_eq_none_iff.1 hf s hm
          simp at this
      rw [List.nodup_append]
      exact ⟨h, by simp, fun a ha b hb => by simp at hb; subst hb; rintro rfl; exact hm ha⟩
  · exact h
theorem of_small {l : List ByteArray} (h : l.length ≤ 1048576) (s : ByteArray) : (IX.of l s).length ≤ 1048576 := by
  unfold IX.of
  split
  · split
    · exact h
    · simp; omega
  · exact h
theorem all_good : ∀ (known l : List ByteArray), l.Nodup → l.length ≤ 1048576 → (all l known).Nodup ∧ (all l known).length ≤ 1048576
  | [], l, h1, h2 => ⟨h1, h2⟩
  | s :: known, l, h1, h2 => all_good known (IX.of l s) (of_nodup h1 s) (of_small h2 s)
theorem readNil {w : World} {A : Option Addr} {n c : Nat} : Calls Try.prog 27 #[.slice A n c, .pointer none] w fun e w' => e = .returned (.tuple #[.int .i64 0, nilG.v, .int .i64 2]) ∧ Fr [] w w' := by
  refine Calls.mono (f27n.calls (R := fun v w' => v = .tuple #[.int .i64 0, nilG.v, .int .i64 2] ∧ Fr [] w w') ?_) ?_
  · dsimp only [f27n.VC]
    have hS := (St.start w).alloc #[.slice none 0 0, .slice none 0 0, .slice none 0 0, .slice none 0 0, .slice none 0 0, .slice none 0 0] 29
    have h6 := hS.over 0 rfl [.slice none 0 0, .slice none 0 0, .slice none 0 0, .slice none 0 0, .slice none 0 0, .slice none 0 0] rfl
    refine sel_true rfl ⟨(hS.blk 0 rfl).can (by simp), ?_⟩
    exact ⟨_, _, _, (h6.blk 0 rfl).cell rfl, _, _, _, (h6.blk 0 rfl).cell rfl, _, _, _, (h6.blk 0 rfl).cell rfl, _, _, _, (h6.blk 0 rfl).cell rfl, _, _, _, (h6.blk 0 rfl).cell rfl, _, _, _, (h6.blk 0 rfl).cell rfl, rfl, h6.frame⟩
  · rintro e w' ⟨v, rfl, rfl, h⟩; exact ⟨rfl, h⟩
theorem readP_small (W : List Int) (l : List ByteArray) : ((gA (readP W l).2.1).length ≤ 4096 ∧ (gS (readP W l).2.1).length ≤ 4096 ∧ (gO (readP W l).2.1).length ≤ 4096 ∧ (gF (readP W l).2.1).length ≤ 4096 ∧ (gN (readP W l).2.1).length ≤ 4096 ∧ (gM (readP W l).2.1).length ≤ 4096) ∧ ∀ r ∈ gM (readP W l).2.1, r.length ≤ 4096 := by
  have hT := tabP_range W
  unfold readP
  split
  · have hk : ∀ k, (seatsP W k (tabP W).toNat).length ≤ 4096 := fun k => by
      unfold seatsP; rw [srt_len]
      have := rawS_len W k (tabP W).toNat
      omega
    have h1 := hk 1
    have h2 := hk 2
    have h3 := hk 3
    generalize (tabP W).toNat = t at *
    have n1 := namedP_len l (seatsP W 1 t)
    have n2 := namedP_len l (seatsP W 2 t)
    have ea : (listedP l (seatsP W 3 t)).length = (seatsP W 3 t).length := by unfold listedP; simp
    refine ⟨⟨?_, ?_, ?_, ?_, ?_, ?_⟩, ?_⟩
    · show (listedP l (seatsP W 3 t)).length ≤ _; omega
    · show (namedP l (seatsP W 1 t)).1.length ≤ _; omega
    · show (namedP l (seatsP W 2 t)).1.length ≤ _; omega
    · show (namedP l (seatsP W 1 t)).2.1.length ≤ _; omega
    · show (namedP l (seatsP W 2 t)).2.1.length ≤ _; omega
    · show (masksP W t (W.getD 3 0) (namedP l (seatsP W 1 t)).2.2 (namedP l (seatsP W 2 t)).2.2).length ≤ _
      unfold masksP; rw [List.length_map]; omega
    · intro r hr
      obtain ⟨r', _, rfl⟩ := List.mem_map.1 hr
      rw [List.length_map]; omega
  · exact ⟨⟨by simp [emptyG, gA], by simp [emptyG, gS], by simp [emptyG, gO], by simp [emptyG, gF], by simp [emptyG, gN], by simp [emptyG, gM]⟩, fun r hr => by simp [emptyG, gM] at hr⟩
theorem sameR {w : World} {u v : GV} {W : List Int} {l : List ByteArray} (hu : InG w u (readP W l).2.1) (hv : InG w v (readP W l).2.1) : Calls Try.prog 22 #[u.v, v.v] w fun e w' => e = .returned (.bool true) ∧ Fr [] w w' := by
  have hs := readP_small W l
  have h := sameGR hu hv ⟨⟨by rw [hu.a.1.1]; omega, by rw [hu.s.1.1]; omega, by rw [hu.o.1.1]; omega, by rw [hu.f.1.1]; omega, by rw [hu.n.1.1]; omega, by rw [hu.m.1.1]; omega⟩, fun r hr => by have := hs.2 r hr; omega⟩
  rw [sameG_refl] at h
  exact h
theorem getD_le {W : List Int} (h : ∀ z ∈ W, z ≤ 9223372036854775807) (q : Nat) : W.getD q 0 ≤ 9223372036854775807 := by
  rcases Nat.lt_or_ge q W.length with h1 | h1
  · exact h _ ((mem_getD 0 _ _).2 ⟨q, h1, rfl⟩)
  · rw [List.getD_eq_getElem?_getD, List.getElem?_eq_none h1]; decide
theorem lawRead {w : World} {A B : Option Addr} {n m c d : Nat} {W : List Int} {known : List ByteArray} (hW : InW w A n W) (hK : InX w B m known) (hn : n ≤ 1100000) (hm : m ≤ 1100000) (hr : ∀ i, W.getD i 0 ≤ 9223372036854775807) :
    Calls Try.prog 6 #[.slice A n c, .slice B m d] w fun e w' => e = .returned (.bool true) ∧ Fr [] w w' := by
  refine Calls.mono (f6.calls (R := fun v w' => v = .bool true ∧ Fr [] w w') ?_) ?_
  · dsimp only [f6.VC]
    have hl := hW.1
    refine Calls.mono (awake w) ?_
    rintro _ w1 ⟨rfl, f1⟩
    refine ⟨_, rfl, Calls.mono (NI.index (hK.fr f1) (by omega)) ?_⟩
    rintro _ w2 ⟨x, y, rfl, hS2⟩
    obtain ⟨hnd, hsm⟩ := all_good known [] (by simp) (by simp)
    have hS2 := ((St.start w).go f1).gone hS2
    generalize all [] known = l at *
    have hS2 : St [] w w2 [refI 81 y l, idxC x l] := hS2
    refine ⟨_, _, rfl, sel_of (fun h => by cases h) (fun _ => ?_)⟩
    refine Calls.mono (copiedC (k := 40) hS2 (hW.fr hS2.frame) (by omega) (by decide)) ?_
    rintro _ w3 ⟨⟨A28, n28, c28⟩, rfl, hS3⟩
    have hm40 := marksL_len 40
    have g28 : n28 = (W ++ marksL 40).length := hS3.lsLen 0 rfl
    have hcap : n28 ≤ c28 := by
      obtain ⟨F, hF, _⟩ := hS3.at 0 rfl
      exact (Chunk.ls_says 0 hF).2.1
    rw [List.length_append, hm40] at g28
    rw [Int.toNat_natCast]
    have htake : (W ++ marksL 40).take n = W := by rw [hl, List.take_left]
    refine ⟨A28, n28, c28, rfl, ?_⟩
    obtain ⟨law1, law2⟩ := laid_read (W := W) hnd
    refine Calls.mono (readR (hW.fr hS3.frame) (refAt hS3 1 rfl) hsm (by omega) hr law1 law2) ?_
    rintro _ w4 ⟨_, rfl, g, rfl, hG4⟩
    have hS4 := hS3.gone hG4
    have hS4 : St [] w w4 [gC g (readP W l).2.1, ints (.slice A28 n28 c28) (W ++ marksL 40), refI 81 y l, idxC x l] := hS4
    have hS5 := hS4.alloc #[.slice none 0 0, .slice none 0 0, .slice none 0 0, .slice none 0 0, .slice none 0 0, .slice none 0 0] 29
    have hS6 := hS5.over 0 rfl [g.a.v, g.s.v, g.o.v, g.f.v, g.n.v, g.m.v] rfl
    refine ⟨_, _, _, _, _, _, _, _, _, _, _, _, _, _, _, _, _, _, _, _, rfl, (hS5.blk 0 rfl).can (by decide), by omega, by omega, ?_⟩
    generalize w4.heap.size = bg1 at *
    generalize setCs (World.alloc w4 (.cells #[.slice none 0 0, .slice none 0 0, .slice none 0 0, .slice none 0 0, .slice none 0 0, .slice none 0 0] 29)) bg1 0 [g.a.v, g.s.v, g.o.v, g.f.v, g.n.v, g.m.v] = w6 at *
    have hS6 : St [] w w6 [Chunk.blk bg1 g.cells 29, gC g (readP W l).2.1, ints (.slice A28 n28 c28) (W ++ marksL 40), refI 81 y l, idxC x l] := hS6
    have hI := (St.inI hS6 2 rfl).take (q := n) (by omega)
    rw [htake] at hI
    refine Calls.mono (readC hI (idxAt hS6 4 rfl) hsm (by omega) hr) ?_
    rintro _ w7 ⟨_, rfl, u, rfl, hG7⟩
    have hS7 := hS6.gone hG7
    have hS7 : St [] w w7 [gC u (readP W l).2.1, Chunk.blk bg1 g.cells 29, gC g (readP W l).2.1, ints (.slice A28 n28 c28) (W ++ marksL 40), refI 81 y l, idxC x l] := hS7
    have hS8 := hS7.alloc #[.slice none 0 0, .slice none 0 0, .slice none 0 0, .slice none 0 0, .slice none 0 0, .slice none 0 0] 29
    have hS9 := hS8.over 0 rfl [u.a.v, u.s.v, u.o.v, u.f.v, u.n.v, u.m.v] rfl
    refine ⟨_, _, _, _, _, _, _, _, _, _, _, _, _, _, _, _, _, _, _, _, rfl, (hS8.blk 0 rfl).can (by decide), by omega, by omega, ?_⟩
    generalize w7.heap.size = bg2 at *
    generalize setCs (World.alloc w7 (.cells #[.slice none 0 0, .slice none 0 0, .slice none 0 0, .slice none 0 0, .slice none 0 0, .slice none 0 0] 29)) bg2 0 [u.a.v, u.s.v, u.o.v, u.f.v, u.n.v, u.m.v] = w9 at *
    have hS9 : St [] w w9 [Chunk.blk bg2 u.cells 29, gC u (readP W l).2.1, Chunk.blk bg1 g.cells 29, gC g (readP W l).2.1, ints (.slice A28 n28 c28) (W ++ marksL 40), refI 81 y l, idxC x l] := hS9
    clear hS2 hS3 hS4 hS5 hS6 hS7 hS8 hG4 hG7
    refine Calls.mono (hS9.step0 readNil) ?_
    rintro _ w10 ⟨rfl, hS10⟩
    have hS11 := hS10.alloc #[.slice none 0 0, .slice none 0 0, .slice none 0 0, .slice none 0 0, .slice none 0 0, .slice none 0 0] 29
    have hS12 := hS11.over 0 rfl [.slice none 0 0, .slice none 0 0, .slice none 0 0, .slice none 0 0, .slice none 0 0, .slice none 0 0] rfl
    refine ⟨_, _, _, _, _, _, _, _, _, _, _, _, _, _, _, _, _, _, _, _, rfl, (hS11.blk 0 rfl).can (by decide), sel_of (fun _ => ?_) (fun h => by simp at h)⟩
    refine ⟨_, _, _, (hS12.blk 0 rfl).cell rfl, _, _, _, (hS12.blk 0 rfl).cell rfl, _, _, _, (hS12.blk 0 rfl).cell rfl, _, _, _, (hS12.blk 0 rfl).cell rfl, _, _, _, (hS12.blk 0 rfl).cell rfl, _, _, _, (hS12.blk 0 rfl).cell rfl, ?_⟩
    have hsn := sameGR (inNil (setCs (World.alloc w10 (.cells #[.slice none 0 0, .slice none 0 0, .slice none 0 0, .slice none 0 0, .slice none 0 0, .slice none 0 0] 29)) w10.heap.size 0 [.slice none 0 0, .slice none 0 0, .slice none 0 0, .slice none 0 0, .slice none 0 0, .slice none 0 0])) (inNil _) ⟨⟨by decide, by decide, by decide, by decide, by decide, by decide⟩, fun r hr => by simp [emptyG, gM] at hr⟩
    rw [sameG_refl] at hsn
    refine Calls.mono (hS12.step0 hsn) ?_
    rintro _ w13 ⟨rfl, hS13⟩
    have hS13 : St [] w w13 [Chunk.blk w10.heap.size nilG.cells 29, Chunk.blk bg2 u.cells 29, gC u (readP W l).2.1, Chunk.blk bg1 g.cells 29, gC g (readP W l).2.1, ints (.slice A28 n28 c28) (W ++ marksL 40), refI 81 y l, idxC x l] := hS13
    refine ⟨_, rfl, sel_of (fun _ => sel_of (fun _ => sel_of (fun _ => sel_of (fun _ => sel_of (fun _ => ?_) (fun h => by simp at h)) (fun h => by simp at h)) (fun h => by simp at h)) (fun h => by simp at h)) (fun h => by simp at h)⟩
    refine ⟨_, _, _, (hS13.blk 3 rfl).cell rfl, _, _, _, (hS13.blk 3 rfl).cell rfl, _, _, _, (hS13.blk 3 rfl).cell rfl, _, _, _, (hS13.blk 3 rfl).cell rfl, _, _, _, (hS13.blk 3 rfl).cell rfl, _, _, _, (hS13.blk 3 rfl).cell rfl, ?_⟩
    refine ⟨_, _, _, (hS13.blk 1 rfl).cell rfl, _, _, _, (hS13.blk 1 rfl).cell rfl, _, _, _, (hS13.blk 1 rfl).cell rfl, _, _, _, (hS13.blk 1 rfl).cell rfl, _, _, _, (hS13.blk 1 rfl).cell rfl, _, _, _, (hS13.blk 1 rfl).cell rfl, ?_⟩
    have hgg : InG w13 g (readP W l).2.1 := hS13.says 4 rfl
    have huu : InG w13 u (readP W l).2.1 := hS13.says 2 rfl
    have hsr := sameR hgg huu
    have hsr2 := hS13.step0 hsr
    refine Calls.mono hsr2 ?_
    rintro _ w14 ⟨rfl, hS14⟩
    refine ⟨_, rfl, sel_of (fun _ => ?_) (fun h => by cases h)⟩
    refine Calls.mono (copiedC (k := 40) hS14 (hW.fr hS14.frame) (by omega) (by decide)) ?_
    rintro _ w15 ⟨X, rfl, hS15⟩
    refine ⟨_, _, _, rfl, ?_⟩
    refine Calls.mono (hS15.step0 (sameC (St.inI hS15 6 rfl) (St.inI hS15 0 rfl) (show n28 ≤ 1000000000 by omega))) ?_
    rintro _ w16 ⟨rfl, hS16⟩
    refine ⟨_, rfl, sel_of (fun _ => ?_) (fun h => by simp at h)⟩
    refine Calls.mono (hS16.step0 (sameIdx (idxAt hS16 8 rfl) (refAt hS16 7 rfl) hsm)) ?_
    rintro _ w17 ⟨rfl, hS17⟩
    exact ⟨_, rfl, by simp, hS17.frame⟩
  · rintro e w' ⟨v, rfl, rfl, h⟩; exact ⟨rfl, h⟩
end PG
end Go.Proofs.Ytjmlfknogjaemaa
