/- The document's search: the table, full, step. -/
import Derived.Test.YtddbebhklmaeoaaM27
set_option linter.unusedVariables false
set_option linter.unusedSimpArgs false
set_option maxRecDepth 10000
namespace Go.Proofs.Ytddbebhklmaeoaa
open Go Go.Proofs.Ytddbebhklmaeoaa.Vc
namespace JG
open Vc.PG JD
/-- What a table says: what the policy behind a write that counts answers a check. -/
noncomputable def tabB (p : PolD) (l : List CalD) (last : Int) (k : Nat) : Bool := !cWrite (l.getD k cd) && (decide (last < 0) || (cWrite (l.getD last.toNat cd) && !cFailed (l.getD last.toNat cd))) && ansI p l (last, (k : Int))
noncomputable def histT (p : PolD) (l : List CalD) : JL.Hist := { histOf p l with fits := fun last k => tabB p l last k == cAllowed (l.getD k cd) }
/-- The last write counts. -/
def VL (l : List CalD) (last : Int) : Prop := last < 0 ∨ (cWrite (l.getD last.toNat cd) && !cFailed (l.getD last.toNat cd)) = true
theorem stepT_eq {p : PolD} {l : List CalD} {s : JL.State} (h : VL l s.2) (k : Nat) : JL.step (histT p l) s k = JL.step (histOf p l) s k := by
  have e : (!(histT p l).write k && !(histT p l).fits s.2 k) = (!(histOf p l).write k && !(histOf p l).fits s.2 k) := by
    show (!cWrite (l.getD k cd) && !(tabB p l s.2 k == cAllowed (l.getD k cd))) = (!cWrite (l.getD k cd) && !(ansI p l (s.2, (k : Int)) == cAllowed (l.getD k cd)))
    unfold tabB
    cases hw : cWrite (l.getD k cd) with
    | true => rfl
    | false =>
      have : (decide (s.2 < 0) || (cWrite (l.getD s.2.toNat cd) && !cFailed (l.getD s.2.toNat cd))) = true := by
        rcases h with h | h
        · rw [decide_eq_true h]; rfl
        · rw [h, Bool.or_true]
      rw [this]; simp
  unfold JL.step
  rw [e]
  rfl
theorem VL.step {p : PolD} {l : List CalD} {s z : JL.State} {k : Nat} (h : VL l s.2) (hs : JL.step (histOf p l) s k = some z) : VL l z.2 := by
  obtain ⟨_, _, _, _, h2⟩ := JL.step_some hs
  rw [h2]
  cases hc : (histOf p l).counts k with
  | true => exact .inr hc
  | false => exact h
theorem findT_eq {p : PolD} {l : List CalD} : ∀ (m : Nat) {s : JL.State}, VL l s.2 → JL.find (histT p l) m s = JL.find (histOf p l) m s
  | 0, s, h => rfl
  | m + 1, s, h => by
    rw [JL.find, JL.find]
    show (if JL.whole (histOf p l) s = true then some [] else JL.firstOf _ (List.range l.length)) = (if JL.whole (histOf p l) s = true then some [] else JL.firstOf _ (List.range l.length))
    congr 1
    congr 1
    funext k
    rw [stepT_eq h k]
    cases hs : JL.step (histOf p l) s k with
    | none => rfl
    | some z => dsimp only; rw [findT_eq m (h.step hs)]
theorem pathT_eq {p : PolD} {l : List CalD} {s : JL.State} (h : VL l s.2) : JL.path (histT p l) s = JL.path (histOf p l) s := findT_eq _ h
noncomputable def tabP (p : PolD) (l : List CalD) : List (List Bool) := (List.range (l.length + 1)).map fun i : Nat => (List.range l.length).map (tabB p l ((i : Int) - 1))
theorem tabP_row {p : PolD} {l : List CalD} {i : Nat} (h : i < l.length + 1) : (tabP p l).getD i [] = (List.range l.length).map (tabB p l ((i : Int) - 1)) := by
  unfold tabP
  rw [List.getD_eq_getElem?_getD, List.getElem?_map, List.getElem?_range h]; rfl
theorem tabP_at {p : PolD} {l : List CalD} {last : Int} {k : Nat} (h1 : -1 ≤ last) (h2 : last < l.length) (hk : k < l.length) : ((tabP p l).getD (last + 1).toNat []).getD k false = tabB p l last k := by
  rw [tabP_row (by omega), List.getD_eq_getElem?_getD, List.getElem?_map, List.getElem?_range hk]
  show tabB p l _ k = _
  rw [show (((last + 1).toNat : Nat) : Int) - 1 = last by omega]
/-- A list of lists. -/
theorem RdL.lists {w : World} {e : Ty} {x : Sl} {l : List (List (Den e))} (h : RdL (.sl e) w x l) (hp : 0 < x.2.1) : ∃ b o, x.1 = some ⟨b, o, none⟩ ∧ ∀ q, q < x.2.1 → ∃ s : Sl, RdL e w s (l.getD q []) ∧ w.cell? ⟨b, o + q * 1, none⟩ = some s.v := by
  obtain ⟨b, o, h1, h2⟩ := h.2.2 hp
  refine ⟨b, o, h1, fun q hq => ?_⟩
  obtain ⟨es, h3, h4⟩ := h2 q hq
  obtain ⟨s, rfl, h5⟩ := rd_sl.1 h3
  exact ⟨s, h5, h4 0 _ rfl⟩
theorem RdL.bools {w : World} {x : Sl} {l : List Bool} (h : RdL .bool w x l) (hp : 0 < x.2.1) : ∃ b o, x.1 = some ⟨b, o, none⟩ ∧ ∀ q, q < x.2.1 → w.cell? ⟨b, o + q * 1, none⟩ = some (.bool (l.getD q false)) := by
  obtain ⟨b, o, h1, h2⟩ := RdL.flat (e := .bool) rfl h hp
  exact ⟨b, o, h1, fun q hq => h2 q hq 0 _ rfl⟩
/-- A table that is read. -/
structure TabAt (w : World) (t : Nat) (x y : Sl) (p : PolD) (l : List CalD) : Prop where
  blk : Blk w t #[x.v, y.v] 117
  cal : RdL calT w x l
  yes : RdL (.sl .bool) w y (tabP p l)
theorem TabAt.fr {w w' : World} {t : Nat} {x y : Sl} {p : PolD} {l : List CalD} (h : TabAt w t x y p l) (hf : Fr [] w w') : TabAt w' t x y p l := ⟨hf.blk h.blk (by simp), h.cal.fr hf, h.yes.fr hf⟩
theorem fullR {w : World} {t : Nat} {x y : Sl} {p : PolD} {l : List CalD} (ht : TabAt w t x y p l) (hn : l.length ≤ 12) (S : Nat) (last : Int) (hS : S < 4096) :
    Calls Try.prog 29 #[.pointer (some ⟨t, 0, none⟩), .agg #[.int .i64 (S : Int), .int .i64 last]] w fun e w' => e = .returned (.bool (JL.whole (histT p l) (S, last))) ∧ Fr [] w w' := by
  refine Calls.mono (f29.calls (R := fun e w' => e = .bool (JL.whole (histOf p l) (S, last)) ∧ Fr [] w w') ?_) ?_
  · dsimp only [f29.VC]
    have hl : x.2.1 = l.length := ht.cal.1
    have hS1 := (St.start w).alloc #[.int .i64 (S : Int), .int .i64 last] 80
    generalize World.alloc w (.cells #[.int .i64 (S : Int), .int .i64 last] 80) = w1 at *
    generalize w.heap.size = b1 at *
    refine ⟨fun i w' r => St [] w w' [Chunk.blk b1 #[.int .i64 (S : Int), .int .i64 last] 80] ∧ ∃ k : Nat, i = (k : Int) ∧ k + r = x.2.1 ∧ ∀ a, a < k → wb l S a = true, ⟨x.2.1, hS1, 0, rfl, by omega, fun a ha => by omega⟩, ?_⟩
    clear hS1
    rintro d i w2 r ⟨hS2, k, rfl, hk, hok⟩
    have hB := (ht.fr hS2.frame).blk
    refine ⟨_, _, _, hB.cell rfl, sel_of (fun hd => ?_) (fun hd => ?_)⟩
    · have hi : k < x.2.1 := by have := of_decide_eq_true hd; omega
      have hup : ∀ q, q < k + 1 → q < k ∨ q = k := fun q hq => by omega
      obtain ⟨bb, oo, hA, hc⟩ := RdL.call (ht.cal.fr hS2.frame) (by omega)
      obtain ⟨vk, _, _, _, hc⟩ := hc k hi
      rw [inc k x.2.1 (by omega) (by omega)]
      have next : wb l S k = true → ∃ m, m < r ∧ St [] w w2 [Chunk.blk b1 #[.int .i64 (S : Int), .int .i64 last] 80] ∧ ∃ k' : Nat, ((k + 1 : Nat) : Int) = (k' : Int) ∧ k' + m = x.2.1 ∧ ∀ a, a < k' → wb l S a = true := fun h =>
        ⟨r - 1, by omega, hS2, k + 1, rfl, by omega, fun a ha => (hup a ha).elim (hok a) fun e => by rw [e]; exact h⟩
      refine ⟨_, _, _, hB.cell rfl, by omega, by omega, needPtr_of hA ⟨_, hc 1 _ rfl, sel_of (fun h1 => ⟨_, (hS2.blk 0 rfl).cell rfl, Calls.mono (inR' S k (by omega) (by omega)) ?_⟩) (fun h1 => ⟨rfl, next ?_⟩)⟩⟩
      · rintro _ _ ⟨rfl, rfl⟩
        refine ⟨_, rfl, sel_of (fun h2 => ⟨?_, hS2.frame⟩) (fun h2 => ⟨rfl, next ?_⟩)⟩
        · rw [show JL.whole (histOf p l) (S, last) = false from ?_]
          cases hh : JL.whole (histOf p l) (S, last) with
          | false => rfl
          | true =>
            rw [whole_wb, List.all_eq_true] at hh
            have := hh k (List.mem_range.2 (by omega))
            rw [wb, show decide (0 ≤ cEnded (l.getD k cd)) = true from h1, h2] at this
            cases this
        · rw [wb, h2]; simp
      · rw [wb, show decide (0 ≤ cEnded (l.getD k cd)) = false from h1]; rfl
    · have hi : k = x.2.1 := by have := of_decide_eq_false hd; omega
      refine ⟨?_, hS2.frame⟩
      rw [show JL.whole (histOf p l) (S, last) = true from ?_]
      rw [whole_wb, List.all_eq_true]
      intro a ha
      exact hok a (by have := List.mem_range.1 ha; omega)
  · rintro e w' ⟨v, rfl, rfl, h⟩; exact ⟨rfl, h⟩
/-- What is told of a step, of the table. -/
def StpT (p : PolD) (l : List CalD) (S : Nat) (last : Int) (k : Nat) (z0 z1 : Int) (ok : Bool) : Prop :=
  match JL.step (histT p l) (S, last) k with | some z => ok = true ∧ z0 = (z.1 : Int) ∧ z1 = z.2 | none => ok = false
section
variable {p : PolD} {l : List CalD} {S k : Nat} {last z0 z1 : Int}
theorem stpT_bit (h : S.testBit k = true) : StpT p l S last k z0 z1 false := by
  unfold StpT; rw [show JL.step (histT p l) (S, last) k = none by unfold JL.step; rw [if_pos h]]
theorem lateT {p : PolD} {l : List CalD} {S k : Nat} {last : Int} : JL.late (histT p l) (S, last) k = (List.range l.length).any (lb l S k) := rfl
theorem stpT_late {a : Nat} (ha : a < l.length) (h : lb l S k a = true) : StpT p l S last k z0 z1 false := by
  have hl : JL.late (histT p l) (S, last) k = true := by rw [lateT, List.any_eq_true]; exact ⟨a, List.mem_range.2 ha, h⟩
  unfold StpT
  rw [show JL.step (histT p l) (S, last) k = none by
    unfold JL.step
    split
    · rfl
    · first | rfl | rw [if_pos hl]]
theorem late_noT (h : ∀ a, a < l.length → lb l S k a = false) : JL.late (histT p l) (S, last) k = false := late_no (p := p) h
noncomputable def unfitT (p : PolD) (l : List CalD) (last : Int) (k : Nat) : Bool := !cWrite (l.getD k cd) && !(tabB p l last k == cAllowed (l.getD k cd))
theorem unfitT_eq : unfitT p l last k = (!(histT p l).write k && !(histT p l).fits last k) := rfl
theorem stpT_fit (h : unfitT p l last k = true) : StpT p l S last k z0 z1 false := by
  unfold StpT
  rw [show JL.step (histT p l) (S, last) k = none by
    unfold JL.step
    split
    · rfl
    · split
      · rfl
      · rw [if_pos (by rw [← unfitT_eq]; exact h)]]
theorem stpT_some (h1 : S.testBit k = false) (h0 : ∀ a, a < l.length → lb l S k a = false) (h : unfitT p l last k = false) (hz0 : z0 = ((S ||| 2 ^ k : Nat) : Int)) (hz1 : z1 = if (cWrite (l.getD k cd) && !cFailed (l.getD k cd)) = true then (k : Int) else last) : StpT p l S last k z0 z1 true := by
  unfold StpT
  rw [show JL.step (histT p l) (S, last) k = some (S ||| 2 ^ k, if (histT p l).counts k then (k : Int) else last) by
    unfold JL.step
    rw [if_neg (by rw [h1]; decide), if_neg (by rw [late_noT h0]; decide), if_neg (by rw [← unfitT_eq, h]; decide)]]
  exact ⟨rfl, hz0, hz1⟩
end
theorem sum_bit {S k : Nat} (hS : S < 4096) (hk : k < 12) (h : S.testBit k = false) : IntKind.i64.wrap ((S : Int) + ((2 ^ k : Nat) : Int)) = ((S ||| 2 ^ k : Nat) : Int) := by
  have := or_lt S k hS hk
  rw [← add_bit h] at this ⊢
  generalize 2 ^ k = P at *
  rw [i64_id (by omega) (by omega)]; omega
theorem key_ok {l : List CalD} (h : histB l = true) (i : Nat) (hi : i < l.length) : 0 ≤ cBegan (l.getD i cd) ∧ (cEnded (l.getD i cd) = -1 ∨ cBegan (l.getD i cd) ≤ cEnded (l.getD i cd)) :=
  ⟨(hist_ok (p := ([], [], [], [], [], [], [], [], [], [], [], ())) h).began i hi, (hist_ok (p := ([], [], [], [], [], [], [], [], [], [], [], ())) h).ended i hi⟩
theorem stepR {w : World} {t : Nat} {x y : Sl} {p : PolD} {l : List CalD} (ht : TabAt w t x y p l) (hn : l.length ≤ 12) (hh : histB l = true) (S : Nat) (last : Int) (k : Nat) (hSb : S < 4096) (hl1 : -1 ≤ last) (hl2 : last < (l.length : Int)) (hk : k < l.length) :
    Calls Try.prog 30 #[.pointer (some ⟨t, 0, none⟩), .agg #[.int .i64 (S : Int), .int .i64 last], .int .i64 (k : Int)] w fun e w' => ∃ z0 z1 ok, e = .returned (.tuple #[.agg #[.int .i64 z0, .int .i64 z1], .bool ok]) ∧ StpT p l S last k z0 z1 ok ∧ Fr [] w w' := by
  refine Calls.mono (f30.calls (R := fun e w' => ∃ z0 z1 ok, e = .tuple #[.agg #[.int .i64 z0, .int .i64 z1], .bool ok] ∧ StpT p l S last k z0 z1 ok ∧ Fr [] w w') ?_) ?_
  · dsimp only [f30.VC]
    have hl : x.2.1 = l.length := ht.cal.1
    have hS2 := ((St.start w).alloc #[.int .i64 (S : Int), .int .i64 last] 80).alloc #[.int .i64 0, .int .i64 0] 80
    generalize World.alloc w (.cells #[.int .i64 (S : Int), .int .i64 last] 80) = w1 at *
    generalize w.heap.size = b1 at *
    generalize World.alloc w1 (.cells #[.int .i64 0, .int .i64 0] 80) = w2 at *
    generalize w1.heap.size = b2 at *
    replace hS2 : St [] w w2 (Chunk.blk b2 #[.int .i64 0, .int .i64 0] 80 :: Chunk.blk b1 #[.int .i64 (S : Int), .int .i64 last] 80 :: []) := hS2
    refine ⟨_, (hS2.blk 1 rfl).cell rfl, Calls.mono (inR' S k (by omega) (by omega)) ?_⟩
    rintro _ w3 ⟨rfl, rfl⟩
    refine ⟨_, rfl, sel_of (fun hb => ?_) (fun hb => ?_)⟩
    · have hE := hS2.over 0 rfl [.int .i64 (S : Int), .int .i64 last] rfl
      have hB1 := hS2.blk 1 rfl
      have hB2 := hE.blk 0 rfl
      exact ⟨_, hB1.cell rfl, _, hB1.cell rfl, (hS2.blk 0 rfl).can (by simp), _, hB2.cell rfl, _, hB2.cell rfl, _, _, false, rfl, stpT_bit hb, hE.frame⟩
    have hbit : S.testBit k = false := hb
    have hok := (key_ok hh k hk)
    have hunf : unfitT p l last k = (!cWrite (l.getD k cd) && !(tabB p l last k == cAllowed (l.getD k cd))) := rfl
    have hsome : ∀ z0 z1 : Int, (∀ a, a < l.length → lb l S k a = false) → unfitT p l last k = false → z0 = ((S ||| 2 ^ k : Nat) : Int) → (z1 = if (cWrite (l.getD k cd) && !cFailed (l.getD k cd)) = true then (k : Int) else last) → StpT p l S last k z0 z1 true := fun z0 z1 h0 h hz0 hz1 => stpT_some hbit h0 h hz0 hz1
    have hlb : ∀ a, lb l S k a = (!S.testBit a && decide (0 ≤ cEnded (l.getD a cd)) && decide (cEnded (l.getD a cd) < cBegan (l.getD k cd))) := fun a => rfl
    have hself : lb l S k k = false := by
      rw [hlb, Bool.and_assoc, Bool.and_eq_false_iff]
      refine .inr ?_
      rw [Bool.and_eq_false_iff]
      by_cases h0 : 0 ≤ cEnded (l.getD k cd)
      · exact .inr (decide_eq_false (by rcases hok.2 with h | h <;> omega))
      · exact .inl (decide_eq_false h0)
    have hBt := (ht.fr hS2.frame).blk
    refine ⟨_, _, _, hBt.cell rfl, ?_⟩
    obtain ⟨bb, oo, hA, hc⟩ := RdL.call ht.cal (by omega)
    obtain ⟨vc, hv, _, _, hc1⟩ := hc k (by omega)
    have hmem : l.getD k cd ∈ l := (mem_getD cd _ _).2 ⟨k, by omega, rfl⟩
    have hc := fun j y h => hS2.frame.cell (hc1 j y h)
    generalize hcl : l.getD k cd = cl at *
    have hT := hS2.alloc #[.int .i64 0, .int .i64 0, .bool false, .bool false, .bool false, .slice none 0 0, .slice none 0 0, .slice none 0 0, .slice none 0 0, .slice none 0 0, .slice none 0 0, .slice none 0 0, .slice none 0 0, .slice none 0 0, .slice none 0 0, .slice none 0 0, .string ⟨#[]⟩, .string ⟨#[]⟩, .string ⟨#[]⟩] 39
    have hS6 := hT.over 0 rfl (calV cl vc) rfl
    refine ⟨by omega, by omega, needPtr_of hA ⟨_, hc 0 _ rfl, _, hc 1 _ rfl, _, hc 2 _ rfl, _, hc 3 _ rfl, _, hc 4 _ rfl, _, _, _, hc 5 _ rfl, _, _, _, hc 6 _ rfl, _, _, _, hc 7 _ rfl, _, _, _, hc 8 _ rfl, _, _, _, hc 9 _ rfl, _, _, _, hc 10 _ rfl, _, _, _, hc 11 _ rfl, _, _, _, hc 12 _ rfl, _, _, _, hc 13 _ rfl, _, _, _, hc 14 _ rfl, _, _, _, hc 15 _ rfl, _, hc 16 _ rfl, _, hc 17 _ rfl, _, hc 18 _ rfl, (hT.blk 0 rfl).can (by decide), ?_⟩⟩
    generalize World.alloc w3 (.cells #[.int .i64 0, .int .i64 0, .bool false, .bool false, .bool false, .slice none 0 0, .slice none 0 0, .slice none 0 0, .slice none 0 0, .slice none 0 0, .slice none 0 0, .slice none 0 0, .slice none 0 0, .slice none 0 0, .slice none 0 0, .slice none 0 0, .string ⟨#[]⟩, .string ⟨#[]⟩, .string ⟨#[]⟩] 39) = w5 at *
    generalize w3.heap.size = b3 at *
    change St [] w (setCs w5 b3 0 [.int .i64 cl.1, .int .i64 cl.2.1, .bool cl.2.2.1, .bool cl.2.2.2.1, .bool cl.2.2.2.2.1, .slice vc.a.1 vc.a.2.1 vc.a.2.2, .slice vc.s.1 vc.s.2.1 vc.s.2.2, .slice vc.r.1 vc.r.2.1 vc.r.2.2, .slice vc.o.1 vc.o.2.1 vc.o.2.2, .slice vc.g.1 vc.g.2.1 vc.g.2.2, .slice vc.m.1 vc.m.2.1 vc.m.2.2, .slice vc.i.1 vc.i.2.1 vc.i.2.2, .slice vc.q.1 vc.q.2.1 vc.q.2.2, .slice vc.t.1 vc.t.2.1 vc.t.2.2, .slice vc.u.1 vc.u.2.1 vc.u.2.2, .slice vc.e.1 vc.e.2.1 vc.e.2.2, .string cl.2.2.2.2.2.2.1.1, .string cl.2.2.2.2.2.2.1.2.1, .string cl.2.2.2.2.2.2.1.2.2.1]) _ at hS6
    generalize setCs w5 b3 0 [.int .i64 cl.1, .int .i64 cl.2.1, .bool cl.2.2.1, .bool cl.2.2.2.1, .bool cl.2.2.2.2.1, .slice vc.a.1 vc.a.2.1 vc.a.2.2, .slice vc.s.1 vc.s.2.1 vc.s.2.2, .slice vc.r.1 vc.r.2.1 vc.r.2.2, .slice vc.o.1 vc.o.2.1 vc.o.2.2, .slice vc.g.1 vc.g.2.1 vc.g.2.2, .slice vc.m.1 vc.m.2.1 vc.m.2.2, .slice vc.i.1 vc.i.2.1 vc.i.2.2, .slice vc.q.1 vc.q.2.1 vc.q.2.2, .slice vc.t.1 vc.t.2.1 vc.t.2.2, .slice vc.u.1 vc.u.2.1 vc.u.2.2, .slice vc.e.1 vc.e.2.1 vc.e.2.2, .string cl.2.2.2.2.2.2.1.1, .string cl.2.2.2.2.2.2.1.2.1, .string cl.2.2.2.2.2.2.1.2.2.1] = w6 at *
    replace hS6 : St [] w w6 (Chunk.blk b3 (calV cl vc).toArray 39 :: Chunk.blk b2 #[.int .i64 0, .int .i64 0] 80 :: Chunk.blk b1 #[.int .i64 (S : Int), .int .i64 last] 80 :: []) := hS6
    have hBc := hS6.blk 0 rfl
    refine ⟨fun i w' r => St [] w w' (Chunk.blk b3 (calV cl vc).toArray 39 :: Chunk.blk b2 #[.int .i64 0, .int .i64 0] 80 :: Chunk.blk b1 #[.int .i64 (S : Int), .int .i64 last] 80 :: []) ∧ ∃ q : Nat, i = (q : Int) ∧ q + r = x.2.1 ∧ ∀ a, a < q → lb l S k a = false, ⟨x.2.1, hS6, 0, rfl, by omega, fun a ha => by omega⟩, ?_⟩
    clear hS6 hBc hBt hT hc hc1
    rintro d i w7 r ⟨hS7, q, rfl, hq, hno⟩
    have hBt := (ht.fr hS7.frame).blk
    have hBc := hS7.blk 0 rfl
    refine ⟨_, _, _, hBt.cell rfl, sel_of (fun hd => ?_) (fun hd => ?_)⟩
    · have hi : q < x.2.1 := by have := of_decide_eq_true hd; omega
      have hup : ∀ a, a < q + 1 → a < q ∨ a = q := fun a ha => by omega
      rw [inc q x.2.1 (by omega) (by omega)]
      have hlbq := hlb q
      have next : lb l S k q = false → ∀ w', St [] w w' (Chunk.blk b3 (calV cl vc).toArray 39 :: Chunk.blk b2 #[.int .i64 0, .int .i64 0] 80 :: Chunk.blk b1 #[.int .i64 (S : Int), .int .i64 last] 80 :: []) → ∃ m, m < r ∧ St [] w w' (Chunk.blk b3 (calV cl vc).toArray 39 :: Chunk.blk b2 #[.int .i64 0, .int .i64 0] 80 :: Chunk.blk b1 #[.int .i64 (S : Int), .int .i64 last] 80 :: []) ∧ ∃ q' : Nat, ((q + 1 : Nat) : Int) = (q' : Int) ∧ q' + m = x.2.1 ∧ ∀ a, a < q' → lb l S k a = false := fun h w' hw =>
        ⟨r - 1, by omega, hw, q + 1, rfl, by omega, fun a ha => (hup a ha).elim (hno a) fun e => by rw [e]; exact h⟩
      refine ⟨_, (hS7.blk 2 rfl).cell rfl, Calls.mono (inR' S q (by omega) (by omega)) ?_⟩
      rintro _ _ ⟨rfl, rfl⟩
      have hS8 := hS7.drew
      generalize w7.drew = w8 at *
      have hBt := (ht.fr hS8.frame).blk
      have hBc := hS8.blk 0 rfl
      obtain ⟨bb, oo, hA, hc⟩ := RdL.call (ht.cal.fr hS8.frame) (by omega)
      obtain ⟨vq, _, _, _, hc⟩ := hc q hi
      refine ⟨_, rfl, sel_of (fun h1 => sel_of (fun h2 => ⟨_, _, _, hBt.cell rfl, by omega, by omega, needPtr_of hA ⟨_, hc 1 _ rfl, sel_of (fun h3 => ⟨_, _, _, hBt.cell rfl, by omega, by omega, needPtr_of hA ⟨_, hc 1 _ rfl, _, hBc.cell rfl, sel_of (fun h4 => ?_) (fun h4 => ⟨rfl, next ?_ _ hS8⟩)⟩⟩) (fun h3 => ⟨rfl, next ?_ _ hS8⟩)⟩⟩) (fun h2 => ⟨rfl, next ?_ _ hS8⟩)) (fun h1 => ⟨rfl, next ?_ _ hS8⟩)⟩
      · have hE := hS8.over 1 rfl [.int .i64 (S : Int), .int .i64 last] rfl
        have hB1 := hS8.blk 2 rfl
        have hB2 := hE.blk 1 rfl
        refine ⟨_, hB1.cell rfl, _, hB1.cell rfl, (hS8.blk 1 rfl).can (by simp), _, hB2.cell rfl, _, hB2.cell rfl, _, _, false, rfl, stpT_late (a := q) (by omega) ?_, hE.frame⟩
        rw [hlbq, h1, show decide (0 ≤ cEnded (l.getD q cd)) = true from h3, show decide (cEnded (l.getD q cd) < cBegan cl) = true from h4]; rfl
      · rw [hlbq, show decide (cEnded (l.getD q cd) < cBegan cl) = false from h4, Bool.and_false]
      · rw [hlbq, show decide (0 ≤ cEnded (l.getD q cd)) = false from h3, Bool.and_false, Bool.false_and]
      · have : q = k := by have := bne_eq_false_iff_eq.1 h2; omega
        rw [this]; exact hself
      · rw [hlbq, h1, Bool.false_and, Bool.false_and]
    · have hi : q = x.2.1 := by have := of_decide_eq_false hd; omega
      have hlate : ∀ a, a < l.length → lb l S k a = false := fun a ha => hno a (by omega)
      clear hno
      refine ⟨fun b w' => b = unfitT p l last k ∧ St [] w w' (Chunk.blk b3 (calV cl vc).toArray 39 :: Chunk.blk b2 #[.int .i64 0, .int .i64 0] 80 :: Chunk.blk b1 #[.int .i64 (S : Int), .int .i64 last] 80 :: []), ⟨_, hBc.cell rfl, sel_of (fun h1 => ?_) (fun h1 => ⟨rfl, ?_, hS7.drew⟩)⟩, ?_⟩
      · obtain ⟨by1, oy1, hAy, hcy⟩ := RdL.lists (ht.yes.fr hS7.frame) (by rw [ht.yes.1]; simp [tabP])
        have hyl : y.2.1 = l.length + 1 := by rw [ht.yes.1]; simp [tabP]
        obtain ⟨s, hs, hcs⟩ := hcy (last + 1).toNat (by omega)
        have hsl : s.2.1 = l.length := by rw [hs.1, tabP_row (by omega)]; simp
        obtain ⟨by2, oy2, hAs, hcb⟩ := RdL.bools hs (by omega)
        have hcb := hcb k (by omega)
        rw [tabP_at hl1 hl2 hk] at hcb
        refine ⟨_, _, _, hBt.cell rfl, _, (hS7.blk 2 rfl).cell rfl, ?_⟩
        rw [i64_id (x := last + 1) (by omega) (by omega)]
        refine ⟨by omega, by omega, needPtr_of hAy ⟨_, _, _, hcs, by omega, by omega, needPtr_of hAs ⟨_, hcb, _, hBc.cell rfl, rfl, ?_, hS7.drew⟩⟩⟩
        rw [hunf, show (!cWrite cl) = true from h1]; rfl
      · rw [hunf, show (!cWrite cl) = false from h1]; rfl
      · rintro _ b85 w10 ⟨rfl, hS10⟩
        refine sel_of (fun h => ?_) (fun h => ?_)
        · have hE := hS10.over 1 rfl [.int .i64 (S : Int), .int .i64 last] rfl
          have hB1 := hS10.blk 2 rfl
          have hB2 := hE.blk 1 rfl
          exact ⟨_, hB1.cell rfl, _, hB1.cell rfl, (hS10.blk 1 rfl).can (by simp), _, hB2.cell rfl, _, hB2.cell rfl, _, _, false, rfl, stpT_fit h, hE.frame⟩
        · have hsum := sum_bit hSb (show k < 12 by omega) hbit
          obtain ⟨zz, hzz⟩ : ∃ zz : Int, zz = if (cWrite cl && !cFailed cl) = true then (k : Int) else last := ⟨_, rfl⟩
          refine ⟨fun w' => St [] w w' (Chunk.blk b3 (calV cl vc).toArray 39 :: Chunk.blk b2 #[.int .i64 0, .int .i64 0] 80 :: Chunk.blk b1 #[.int .i64 ((S ||| 2 ^ k : Nat) : Int), .int .i64 last] 80 :: []), ⟨⟨_, (hS10.blk 2 rfl).cell rfl, Calls.mono (bitR k (by omega)) ?_⟩, Calls.mono (bitR k (by omega)) ?_, trivial⟩, ?_⟩
          · rintro _ _ ⟨rfl, rfl⟩
            have hS13 := hS10.drew.set 2 rfl 0 [.int .i64 ((S ||| 2 ^ k : Nat) : Int)]
            rw [putC] at hS13
            refine ⟨_, rfl, (hS10.drew.blk 2 rfl).can (by simp), rfl, ?_⟩
            rw [hsum]; exact hS13
          · rintro _ _ ⟨rfl, rfl⟩
            have hS13 := hS10.drew.set 2 rfl 0 [.int .i64 ((S ||| 2 ^ k : Nat) : Int)]
            rw [putC] at hS13
            refine ⟨_, rfl, _, (hS10.drew.blk 2 rfl).cell rfl, (hS10.drew.blk 2 rfl).can (by simp), rfl, ?_⟩
            rw [hsum]; exact hS13
          · intro _ w16 hS16
            have hBc := hS16.blk 0 rfl
            refine ⟨fun w' => St [] w w' (Chunk.blk b3 (calV cl vc).toArray 39 :: Chunk.blk b2 #[.int .i64 0, .int .i64 0] 80 :: Chunk.blk b1 #[.int .i64 ((S ||| 2 ^ k : Nat) : Int), .int .i64 zz] 80 :: []), ⟨_, hBc.cell rfl, _, hBc.cell rfl, _, hBc.cell rfl, _, hBc.cell rfl, _, hBc.cell rfl, _, _, _, hBc.cell rfl, _, _, _, hBc.cell rfl, _, _, _, hBc.cell rfl, _, _, _, hBc.cell rfl, _, _, _, hBc.cell rfl, _, _, _, hBc.cell rfl, _, _, _, hBc.cell rfl, _, _, _, hBc.cell rfl, _, _, _, hBc.cell rfl, _, _, _, hBc.cell rfl, _, _, _, hBc.cell rfl, _, hBc.cell rfl, _, hBc.cell rfl, _, hBc.cell rfl, Calls.mono (hS16.step0 (countsR cl vc)) ?_⟩, ?_⟩
            · rintro _ w17 ⟨rfl, hS17⟩
              refine ⟨_, rfl, sel_of (fun h2 => ⟨(hS17.blk 2 rfl).can (by simp), rfl, ?_⟩) (fun h2 => ⟨rfl, ?_⟩)⟩
              · have hz : zz = (k : Int) := by rw [hzz, if_pos h2]
                have hS18 := hS17.set 2 rfl 1 [.int .i64 (k : Int)]
                rw [putD] at hS18
                rw [hz]; exact hS18
              · have hz : zz = last := by rw [hzz, if_neg (by rw [h2]; decide)]
                rw [hz]; exact hS17
            · intro _ w19 hS19
              have hE := hS19.over 1 rfl [.int .i64 ((S ||| 2 ^ k : Nat) : Int), .int .i64 zz] rfl
              have hB1 := hS19.blk 2 rfl
              have hB2 := hE.blk 1 rfl
              exact ⟨_, hB1.cell rfl, _, hB1.cell rfl, (hS19.blk 1 rfl).can (by simp), _, hB2.cell rfl, _, hB2.cell rfl, _, _, true, rfl, hsome _ _ hlate h rfl hzz, hE.frame⟩
  · rintro e w' ⟨v, rfl, z0, z1, ok, rfl, h⟩; exact ⟨z0, z1, ok, rfl, h⟩
end JG
end Go.Proofs.Ytddbebhklmaeoaa
