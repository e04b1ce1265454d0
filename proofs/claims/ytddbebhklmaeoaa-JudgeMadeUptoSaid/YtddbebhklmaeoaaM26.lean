/- What the statements begin with: the small histories, by the plain law. -/
import Derived.Test.YtddbebhklmaeoaaM25
import Derived.Test.YtddbebhklmaeoaaM22
set_option linter.unusedVariables false
set_option linter.unusedSimpArgs false
set_option maxRecDepth 10000
namespace Go.Proofs.Ytddbebhklmaeoaa
open Go Go.Proofs.Ytddbebhklmaeoaa.Vc
namespace JG
open Vc.PG JD
abbrev noT : TriD := (⟨#[]⟩, ⟨#[]⟩, ⟨#[]⟩, ())
abbrev cW : CalD := (0, 3, true, false, false, openP, noT, ())
abbrev cY : CalD := (1, 2, false, false, true, noP, entT, ())
abbrev cN : CalD := (4, 5, false, false, false, noP, entT, ())
theorem smallY : SmallC [cW, cY] := ⟨by simp, fun c hc => by
  rcases List.mem_cons.1 hc with rfl | hc
  · exact open_small
  · rw [List.mem_singleton.1 hc]; exact ⟨by decide, by decide, by decide, by decide, by decide, by decide, by decide, by decide, by decide, by decide, by decide, fun r hr => by cases hr⟩⟩
theorem smallN : SmallC [cW, cN] := ⟨by simp, fun c hc => by
  rcases List.mem_cons.1 hc with rfl | hc
  · exact open_small
  · rw [List.mem_singleton.1 hc]; exact ⟨by decide, by decide, by decide, by decide, by decide, by decide, by decide, by decide, by decide, by decide, by decide, fun r hr => by cases hr⟩⟩
theorem fitsY1 : (histOf shutP [cW, cY]).fits 0 1 = true := by
  show (allowsB geF ltF openP entT == true) = true
  rw [open_allows]; rfl
theorem fitsY2 : (histOf shutP [cW, cY]).fits (-1) 1 = false := by
  show (allowsB geF ltF shutP entT == true) = false
  rw [shut_allows]; rfl
theorem fitsN1 : (histOf shutP [cW, cN]).fits 0 1 = false := by
  show (allowsB geF ltF openP entT == false) = false
  rw [open_allows]; rfl
theorem two {k n : Nat} (hn : n = 2) (h : k < n) : k = 0 ∨ k = 1 := by omega
theorem ansY : ansP shutP [cW, cY] = some [0, 1] := by
  unfold ansP
  rw [if_pos (show fitE [cW, cY] = 0 from rfl)]
  have h1 : JL.step (histOf shutP [cW, cY]) (0, -1) 0 = some (1, 0) := rfl
  have h2 : JL.step (histOf shutP [cW, cY]) (1, 0) 1 = some (3, 0) := by
    unfold JL.step
    rw [if_neg (show ¬ (Nat.testBit 1 1 = true) by decide), if_neg (show ¬ (JL.late (histOf shutP [cW, cY]) (1, 0) 1 = true) by decide)]
    rw [if_neg (by rw [fitsY1]; simp)]
    rfl
  refine JL.path_first (k := 0) rfl (by show 0 < 2; decide) (fun i hi => absurd hi (Nat.not_lt_zero i)) h1 ?_
  refine JL.path_first (k := 1) rfl (by show 1 < 2; decide) (fun i hi z hz => ?_) h2 (JL.path_whole rfl)
  have : i = 0 := by omega
  subst this
  cases hz
theorem ansN : ansP shutP [cW, cN] = none := by
  unfold ansP
  rw [if_pos (show fitE [cW, cN] = 0 from rfl)]
  refine JL.path_none rfl fun k hk z hz => ?_
  rcases two rfl hk with rfl | rfl
  · have : z = (1, 0) := by
      have h1 : JL.step (histOf shutP [cW, cN]) (0, -1) 0 = some (1, 0) := rfl
      rw [h1] at hz; injection hz with hz; exact hz.symm
    subst this
    refine JL.path_none rfl fun k hk z hz => ?_
    rcases two rfl hk with rfl | rfl
    · cases hz
    · exfalso
      obtain ⟨_, _, h, _⟩ := JL.step_some hz
      rcases h with h | h
      · cases h
      · rw [show ((1, 0) : JL.State).2 = 0 from rfl, fitsN1] at h; cases h
  · cases hz
theorem folY {m : Bool} (h : Fol shutP [cW, cY] [0, 1] m) : m = true := by
  refine h.2 ⟨rfl, ?_, ?_, ?_⟩
  · intro i hi
    rcases two rfl hi with rfl | rfl
    · exact ⟨by decide, by decide, by decide, .inl rfl⟩
    · exact ⟨by decide, by decide, by decide, .inr fitsY1⟩
  · intro i hi j hj
    rcases two rfl hi with rfl | rfl
    · have : j = 0 := by omega
      subst this; decide
    · rcases two rfl (show j < 2 by omega) with rfl | rfl <;> decide
  · intro k hk _
    rcases two rfl hk with rfl | rfl <;> decide
theorem folN {m : Bool} (h : Fol shutP [cW, cY] [1, 0] m) : m = false := by
  cases m with
  | false => rfl
  | true =>
    obtain ⟨_, hr, _⟩ := h.1 rfl
    obtain ⟨_, _, _, h4⟩ := hr 0 (by decide)
    rcases h4 with h4 | h4
    · cases h4
    · have h4 : (histOf shutP [cW, cY]).fits (-1) 1 = true := h4
      rw [fitsY2] at h4; cases h4
theorem still_blk {w : World} {b : Nat} {T : TypeId} {vs : List Value} (h : Blk w b vs.toArray T) : stillC w b vs 0 := stillC_of fun i hi => by
  rw [List.getElem?_eq_getElem hi]
  exact h.cell (by simp [hi])
theorem calls_rd {w : World} {b : Nat} {u : PV} {c : CalD} {d : CalD} (hB : Blk w b (calV c u ++ calV d nilPV).toArray 39) (hu : InP w u (cPol c)) (hd : cPol d = noP) (w1 : (Lit.int .i64 c.1).wf = true) (w2 : (Lit.int .i64 c.2.1).wf = true) (w3 : (Lit.int .i64 d.1).wf = true) (w4 : (Lit.int .i64 d.2.1).wf = true) :
    RdL calT w (some ⟨b, 0, none⟩, 2, 2) [c, d] :=
  rdl_blk (e := calT) [calV c u, calV d nilPV] [c, d] (by simpa using hB) (fun r hr => by
    rcases List.mem_cons.1 hr with rfl | hr
    · rfl
    · rw [List.mem_singleton.1 hr]; rfl) rfl (by simp [maxLen]) (fun q hq => by
    rcases two rfl hq with rfl | rfl
    · exact rd_call.2 ⟨u, rfl, hu, w1, w2⟩
    · exact rd_call.2 ⟨nilPV, rfl, (show InP w nilPV (cPol d) by rw [hd]; exact nil_pol), w3, w4⟩)
theorem ints_rd {w : World} {b : Nat} {x y : Int} (hB : Blk w b #[.int .i64 x, .int .i64 y] 3) (w1 : (Lit.int .i64 x).wf = true) (w2 : (Lit.int .i64 y).wf = true) : RdL (.int .i64) w (some ⟨b, 0, none⟩, 2, 2) [x, y] :=
  rdl_blk (e := .int .i64) [[.int .i64 x], [.int .i64 y]] [x, y] (by simpa using hB) (fun r hr => by
    rcases List.mem_cons.1 hr with rfl | hr
    · rfl
    · rw [List.mem_singleton.1 hr]; rfl) rfl (by simp [maxLen]) (fun q hq => by
    rcases two rfl hq with rfl | rfl
    · exact ⟨rfl, w1⟩
    · exact ⟨rfl, w2⟩)
theorem putEv1 : Vc.putA (evC 0 false) 8 [.bool true] = evC 0 true := by kernel_rfl
theorem putEv2 : Vc.putA (evC 0 true) 6 [.int .i64 11] = evC 11 true := by kernel_rfl
end JG
end Go.Proofs.Ytddbebhklmaeoaa
