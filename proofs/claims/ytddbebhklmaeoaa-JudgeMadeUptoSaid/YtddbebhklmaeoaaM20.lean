/- The search: a call more. -/
import Derived.Test.YtddbebhklmaeoaaM19
set_option linter.unusedVariables false
set_option linter.unusedSimpArgs false
set_option maxRecDepth 10000
namespace Go.Proofs.Ytddbebhklmaeoaa
open Go Go.Proofs.Ytddbebhklmaeoaa.Vc
namespace JG
open Vc.PG JD
def lb (l : List CalD) (S k a : Nat) : Bool := !S.testBit a && decide (0 ≤ cEnded (l.getD a cd)) && decide (cEnded (l.getD a cd) < cBegan (l.getD k cd))
theorem late_lb {p : PolD} {l : List CalD} {S k : Nat} {last : Int} : JL.late (histOf p l) (S, last) k = (List.range l.length).any (lb l S k) := rfl
/-- What is told of a step. -/
def Stp (p : PolD) (l : List CalD) (S : Nat) (last : Int) (k : Nat) (z0 z1 : Int) (ok : Bool) : Prop :=
  match JL.step (histOf p l) (S, last) k with | some z => ok = true ∧ z0 = (z.1 : Int) ∧ z1 = z.2 | none => ok = false
section
variable {p : PolD} {l : List CalD} {S k : Nat} {last z0 z1 : Int}
theorem stp_bit (h : S.testBit k = true) : Stp p l S last k z0 z1 false := by
  unfold Stp; rw [show JL.step (histOf p l) (S, last) k = none by unfold JL.step; rw [if_pos h]]
theorem stp_late {a : Nat} (ha : a < l.length) (h : lb l S k a = true) : Stp p l S last k z0 z1 false := by
  have hl : JL.late (histOf p l) (S, last) k = true := by rw [late_lb, List.any_eq_true]; exact ⟨a, List.mem_range.2 ha, h⟩
  unfold Stp
  rw [show JL.step (histOf p l) (S, last) k = none by
    unfold JL.step
    split
    · rfl
    · first | rfl | rw [if_pos hl]]
theorem late_no (h : ∀ a, a < l.length → lb l S k a = false) : JL.late (histOf p l) (S, last) k = false := by
  cases hl : JL.late (histOf p l) (S, last) k with
  | false => rfl
  | true =>
    rw [late_lb, List.any_eq_true] at hl
    obtain ⟨a, ha, hb⟩ := hl
    rw [h a (List.mem_range.1 ha)] at hb; cases hb
/-- Is it a check that is answered otherwise? -/
noncomputable def unfit (p : PolD) (l : List CalD) (last : Int) (k : Nat) : Bool := !cWrite (l.getD k cd) && !(ansI p l (last, (k : Int)) == cAllowed (l.getD k cd))
theorem unfit_eq : unfit p l last k = (!(histOf p l).write k && !(histOf p l).fits last k) := rfl
theorem stp_fit (h0 : ∀ a, a < l.length → lb l S k a = false) (h : unfit p l last k = true) : Stp p l S last k z0 z1 false := by
  unfold Stp
  rw [show JL.step (histOf p l) (S, last) k = none by
    unfold JL.step
    split
    · rfl
    · split
      · rfl
      · rw [if_pos (by rw [← unfit_eq]; exact h)]]
theorem stp_some (h1 : S.testBit k = false) (h0 : ∀ a, a < l.length → lb l S k a = false) (h : unfit p l last k = false) (hz0 : z0 = ((S ||| 2 ^ k : Nat) : Int)) (hz1 : z1 = if (cWrite (l.getD k cd) && !cFailed (l.getD k cd)) = true then (k : Int) else last) : Stp p l S last k z0 z1 true := by
  unfold Stp
  rw [show JL.step (histOf p l) (S, last) k = some (S ||| 2 ^ k, if (histOf p l).counts k then (k : Int) else last) by
    unfold JL.step
    rw [if_neg (by rw [h1]; decide), if_neg (by rw [late_no h0]; decide), if_neg (by rw [← unfit_eq, h]; decide)]]
  exact ⟨rfl, hz0, hz1⟩
end
theorem St.rot {S : List Nat} {w0 w : World} {A B L : List Chunk} (h : St S w0 w (A ++ (B ++ L))) : St S w0 w (B ++ (A ++ L)) := by
  refine h.perm ?_
  rw [← List.append_assoc, ← List.append_assoc]
  exact List.perm_append_comm.append_right L
theorem putC {A B C : Value} : Vc.putA #[A, B] 0 [C] = #[C, B] := by rfl
theorem putD {A B C : Value} : Vc.putA #[A, B] 1 [C] = #[A, C] := by rfl
theorem behindC {w0 w : World} {a0 : Nat} {v : PV} {x o : Sl} {dm sm : Nat} {p : PolD} {l : List CalD} {dead says : Ents} {ord : List Nat} {L : List Chunk} (hx : Ctx w0 v x p l) (hS : St [] w0 w (Sch a0 v x dm sm o dead says ord L)) (hsy : SaysOk p l says)
    (S : Nat) (last : Int) (k : Nat) (hSb : S < 4096) (hl1 : -1 ≤ last) (hl2 : last < (l.length : Int)) (hk : k < l.length) :
    Calls Try.prog 59 #[.pointer (some ⟨a0, 0, none⟩), .agg #[.int .i64 (S : Int), .int .i64 last], .int .i64 (k : Int)] w fun e w' => ∃ says' z0 z1 ok, e = .returned (.tuple #[.agg #[.int .i64 z0, .int .i64 z1], .bool ok]) ∧ Stp p l S last k z0 z1 ok ∧ SaysOk p l says' ∧ St [] w0 w' (Sch a0 v x dm sm o dead says' ord L) := by
  refine Calls.mono (f59.calls (R := fun e w' => ∃ says' z0 z1 ok, e = .tuple #[.agg #[.int .i64 z0, .int .i64 z1], .bool ok] ∧ Stp p l S last k z0 z1 ok ∧ SaysOk p l says' ∧ St [] w0 w' (Sch a0 v x dm sm o dead says' ord L)) ?_) ?_
  · dsimp only [f59.VC]
    have hl : x.2.1 = l.length := hx.cal.1
    have hn := hx.few
    have hS2 := (hS.alloc #[.int .i64 (S : Int), .int .i64 last] 96).alloc #[.int .i64 0, .int .i64 0] 96
    generalize World.alloc w (.cells #[.int .i64 (S : Int), .int .i64 last] 96) = w1 at *
    generalize w.heap.size = b1 at *
    generalize World.alloc w1 (.cells #[.int .i64 0, .int .i64 0] 96) = w2 at *
    generalize w1.heap.size = b2 at *
    replace hS2 : St [] w0 w2 (Chunk.blk b2 #[.int .i64 0, .int .i64 0] 96 :: Chunk.blk b1 #[.int .i64 (S : Int), .int .i64 last] 96 :: Sch a0 v x dm sm o dead says ord L) := hS2
    have hB1 := hS2.blk 1 rfl
    have e1 := bit_eq1 S k (by omega) (by omega)
    refine ⟨_, hB1.cell rfl, by omega, sel_of (fun hb => ?_) (fun hb => ?_)⟩
    · have hE := hS2.over 0 rfl [.int .i64 (S : Int), .int .i64 last] rfl
      have hB2 := hE.blk 0 rfl
      exact ⟨_, hB1.cell rfl, _, hB1.cell rfl, (hS2.blk 0 rfl).can (by decide), _, hB2.cell rfl, _, hB2.cell rfl, says, _, _, false, rfl, stp_bit (e1.symm.trans hb), hsy, hE.tail.tail⟩
    have hbit : S.testBit k = false := e1.symm.trans hb
    refine ⟨_, _, _, (hS2.blk 2 rfl).cell rfl, fun i w' r => St [] w0 w' (Chunk.blk b2 #[.int .i64 0, .int .i64 0] 96 :: Chunk.blk b1 #[.int .i64 (S : Int), .int .i64 last] 96 :: Sch a0 v x dm sm o dead says ord L) ∧ ∃ q : Nat, i = (q : Int) ∧ q + r = x.2.1 ∧ ∀ a, a < q → lb l S k a = false, ⟨x.2.1, hS2, 0, rfl, by omega, fun a ha => by omega⟩, ?_⟩
    rintro d i w4 r ⟨hS4, q, rfl, hq, hno⟩
    refine sel_of (fun hd => ?_) (fun hd => ?_)
    · have hi : q < x.2.1 := by have := of_decide_eq_true hd; omega
      obtain ⟨bk, ok, hAk, hck⟩ := RdL.call hx.cal (by omega)
      obtain ⟨vk, hvk, _, _, hck⟩ := hck k (by omega)
      have hup : ∀ a, a < q + 1 → a < q ∨ a = q := fun a ha => by omega
      have hbg : ∀ w', Fr [] w0 w' → w'.cell? ⟨bk, ok + k * 19 + 0, none⟩ = some (.int .i64 (cBegan (l.getD k cd))) := fun w' hf => hf.cell (hck 0 _ rfl)
      clear hck hvk vk
      have hlbq : lb l S k q = (!S.testBit q && decide (0 ≤ cEnded (l.getD q cd)) && decide (cEnded (l.getD q cd) < cBegan (l.getD k cd))) := rfl
      generalize cBegan (l.getD k cd) = bgk at *
      obtain ⟨bb, oo, hA, hc⟩ := RdL.call hx.cal (by omega)
      obtain ⟨vc, hv, _, _, hc1⟩ := hc q hi
      have hmem : l.getD q cd ∈ l := (mem_getD cd _ _).2 ⟨q, by omega, rfl⟩
      have hc := fun j y h => hS4.frame.cell (hc1 j y h)
      generalize hcl : l.getD q cd = cl at *
      have hT := hS4.alloc #[.int .i64 0, .int .i64 0, .bool false, .bool false, .bool false, .slice none 0 0, .slice none 0 0, .slice none 0 0, .slice none 0 0, .slice none 0 0, .slice none 0 0, .slice none 0 0, .slice none 0 0, .slice none 0 0, .slice none 0 0, .slice none 0 0, .string ⟨#[]⟩, .string ⟨#[]⟩, .string ⟨#[]⟩] 39
      have hS6 := hT.over 0 rfl (calV cl vc) rfl
      refine ⟨by omega, by omega, needPtr_of hA ⟨_, hc 0 _ rfl, _, hc 1 _ rfl, _, hc 2 _ rfl, _, hc 3 _ rfl, _, hc 4 _ rfl, _, _, _, hc 5 _ rfl, _, _, _, hc 6 _ rfl, _, _, _, hc 7 _ rfl, _, _, _, hc 8 _ rfl, _, _, _, hc 9 _ rfl, _, _, _, hc 10 _ rfl, _, _, _, hc 11 _ rfl, _, _, _, hc 12 _ rfl, _, _, _, hc 13 _ rfl, _, _, _, hc 14 _ rfl, _, _, _, hc 15 _ rfl, _, hc 16 _ rfl, _, hc 17 _ rfl, _, hc 18 _ rfl, (hT.blk 0 rfl).can (by decide), ?_⟩⟩
      generalize World.alloc w4 (.cells #[.int .i64 0, .int .i64 0, .bool false, .bool false, .bool false, .slice none 0 0, .slice none 0 0, .slice none 0 0, .slice none 0 0, .slice none 0 0, .slice none 0 0, .slice none 0 0, .slice none 0 0, .slice none 0 0, .slice none 0 0, .slice none 0 0, .string ⟨#[]⟩, .string ⟨#[]⟩, .string ⟨#[]⟩] 39) = w5 at *
      generalize w4.heap.size = b3 at *
      change St [] w0 (setCs w5 b3 0 [.int .i64 cl.1, .int .i64 cl.2.1, .bool cl.2.2.1, .bool cl.2.2.2.1, .bool cl.2.2.2.2.1, .slice vc.a.1 vc.a.2.1 vc.a.2.2, .slice vc.s.1 vc.s.2.1 vc.s.2.2, .slice vc.r.1 vc.r.2.1 vc.r.2.2, .slice vc.o.1 vc.o.2.1 vc.o.2.2, .slice vc.g.1 vc.g.2.1 vc.g.2.2, .slice vc.m.1 vc.m.2.1 vc.m.2.2, .slice vc.i.1 vc.i.2.1 vc.i.2.2, .slice vc.q.1 vc.q.2.1 vc.q.2.2, .slice vc.t.1 vc.t.2.1 vc.t.2.2, .slice vc.u.1 vc.u.2.1 vc.u.2.2, .slice vc.e.1 vc.e.2.1 vc.e.2.2, .string cl.2.2.2.2.2.2.1.1, .string cl.2.2.2.2.2.2.1.2.1, .string cl.2.2.2.2.2.2.1.2.2.1]) _ at hS6
      generalize setCs w5 b3 0 [.int .i64 cl.1, .int .i64 cl.2.1, .bool cl.2.2.1, .bool cl.2.2.2.1, .bool cl.2.2.2.2.1, .slice vc.a.1 vc.a.2.1 vc.a.2.2, .slice vc.s.1 vc.s.2.1 vc.s.2.2, .slice vc.r.1 vc.r.2.1 vc.r.2.2, .slice vc.o.1 vc.o.2.1 vc.o.2.2, .slice vc.g.1 vc.g.2.1 vc.g.2.2, .slice vc.m.1 vc.m.2.1 vc.m.2.2, .slice vc.i.1 vc.i.2.1 vc.i.2.2, .slice vc.q.1 vc.q.2.1 vc.q.2.2, .slice vc.t.1 vc.t.2.1 vc.t.2.2, .slice vc.u.1 vc.u.2.1 vc.u.2.2, .slice vc.e.1 vc.e.2.1 vc.e.2.2, .string cl.2.2.2.2.2.2.1.1, .string cl.2.2.2.2.2.2.1.2.1, .string cl.2.2.2.2.2.2.1.2.2.1] = w6 at *
      replace hS6 : St [] w0 w6 (Chunk.blk b3 (calV cl vc).toArray 39 :: Chunk.blk b2 #[.int .i64 0, .int .i64 0] 96 :: Chunk.blk b1 #[.int .i64 (S : Int), .int .i64 last] 96 :: Sch a0 v x dm sm o dead says ord L) := hS6
      have hBc := hS6.blk 0 rfl
      rw [inc q x.2.1 (by omega) (by omega)]
      have e0 := bit_eq0 S q (by omega) (by omega)
      have hS7 := hS6.tail
      have next : lb l S k q = false → ∀ w', St [] w0 w' (Chunk.blk b2 #[.int .i64 0, .int .i64 0] 96 :: Chunk.blk b1 #[.int .i64 (S : Int), .int .i64 last] 96 :: Sch a0 v x dm sm o dead says ord L) → ∃ m, m < r ∧ St [] w0 w' (Chunk.blk b2 #[.int .i64 0, .int .i64 0] 96 :: Chunk.blk b1 #[.int .i64 (S : Int), .int .i64 last] 96 :: Sch a0 v x dm sm o dead says ord L) ∧ ∃ q' : Nat, ((q + 1 : Nat) : Int) = (q' : Int) ∧ q' + m = x.2.1 ∧ ∀ a, a < q' → lb l S k a = false := fun h w' hw =>
        ⟨r - 1, by omega, hw, q + 1, rfl, by omega, fun a ha => (hup a ha).elim (hno a) fun e => by rw [e]; exact h⟩
      refine ⟨_, (hS7.blk 1 rfl).cell rfl, by omega, sel_of (fun h1 => ⟨_, hBc.cell rfl, sel_of (fun h2 => ⟨_, hBc.cell rfl, _, _, _, (hS7.blk 2 rfl).cell rfl, by omega, by omega, needPtr_of hAk ⟨_, hbg _ hS7.frame, sel_of (fun h3 => ?_) (fun h3 => ⟨rfl, next ?_ _ hS7.drew⟩)⟩⟩) (fun h2 => ⟨rfl, next ?_ _ hS7.drew⟩)⟩) (fun h1 => ⟨rfl, next ?_ _ hS7.drew⟩)⟩
      · have hE := hS7.drew.over 0 rfl [.int .i64 (S : Int), .int .i64 last] rfl
        have hB1 := hS7.blk 1 rfl
        have hB2 := hE.blk 0 rfl
        refine ⟨_, hB1.cell rfl, _, hB1.cell rfl, (hS7.blk 0 rfl).can (by decide), _, hB2.cell rfl, _, hB2.cell rfl, says, _, _, false, rfl, stp_late (a := q) (by omega) ?_, hsy, hE.tail.tail⟩
        rw [hlbq, e0.symm.trans h1, show decide (0 ≤ cEnded cl) = true from h2, show decide (cEnded cl < bgk) = true from h3]; rfl
      · rw [hlbq, show decide (cEnded cl < bgk) = false from h3, Bool.and_false]
      · rw [hlbq, show decide (0 ≤ cEnded cl) = false from h2, Bool.and_false, Bool.false_and]
      · rw [hlbq, e0.symm.trans h1, Bool.false_and, Bool.false_and]
    · have hi : q = x.2.1 := by have := of_decide_eq_false hd; omega
      have hlate : ∀ a, a < l.length → lb l S k a = false := fun a ha => hno a (by omega)
      clear hno
      have hunf : unfit p l last k = (!cWrite (l.getD k cd) && !(ansI p l (last, (k : Int)) == cAllowed (l.getD k cd))) := rfl
      have hsome : ∀ z0 z1 : Int, unfit p l last k = false → z0 = ((S ||| 2 ^ k : Nat) : Int) → (z1 = if (cWrite (l.getD k cd) && !cFailed (l.getD k cd)) = true then (k : Int) else last) → Stp p l S last k z0 z1 true := fun z0 z1 h hz0 hz1 => stp_some hbit hlate h hz0 hz1
      refine ⟨_, _, _, (hS4.blk 2 rfl).cell rfl, ?_⟩
      obtain ⟨bb, oo, hA, hc⟩ := RdL.call hx.cal (by omega)
      obtain ⟨vc, hv, _, _, hc1⟩ := hc k (by omega)
      have hmem : l.getD k cd ∈ l := (mem_getD cd _ _).2 ⟨k, by omega, rfl⟩
      have hc := fun j y h => hS4.frame.cell (hc1 j y h)
      generalize hcl : l.getD k cd = cl at *
      have hT := hS4.alloc #[.int .i64 0, .int .i64 0, .bool false, .bool false, .bool false, .slice none 0 0, .slice none 0 0, .slice none 0 0, .slice none 0 0, .slice none 0 0, .slice none 0 0, .slice none 0 0, .slice none 0 0, .slice none 0 0, .slice none 0 0, .slice none 0 0, .string ⟨#[]⟩, .string ⟨#[]⟩, .string ⟨#[]⟩] 39
      have hS6 := hT.over 0 rfl (calV cl vc) rfl
      refine ⟨by omega, by omega, needPtr_of hA ⟨_, hc 0 _ rfl, _, hc 1 _ rfl, _, hc 2 _ rfl, _, hc 3 _ rfl, _, hc 4 _ rfl, _, _, _, hc 5 _ rfl, _, _, _, hc 6 _ rfl, _, _, _, hc 7 _ rfl, _, _, _, hc 8 _ rfl, _, _, _, hc 9 _ rfl, _, _, _, hc 10 _ rfl, _, _, _, hc 11 _ rfl, _, _, _, hc 12 _ rfl, _, _, _, hc 13 _ rfl, _, _, _, hc 14 _ rfl, _, _, _, hc 15 _ rfl, _, hc 16 _ rfl, _, hc 17 _ rfl, _, hc 18 _ rfl, (hT.blk 0 rfl).can (by decide), ?_⟩⟩
      generalize World.alloc w4 (.cells #[.int .i64 0, .int .i64 0, .bool false, .bool false, .bool false, .slice none 0 0, .slice none 0 0, .slice none 0 0, .slice none 0 0, .slice none 0 0, .slice none 0 0, .slice none 0 0, .slice none 0 0, .slice none 0 0, .slice none 0 0, .slice none 0 0, .string ⟨#[]⟩, .string ⟨#[]⟩, .string ⟨#[]⟩] 39) = w8 at *
      generalize w4.heap.size = b3 at *
      change St [] w0 (setCs w8 b3 0 [.int .i64 cl.1, .int .i64 cl.2.1, .bool cl.2.2.1, .bool cl.2.2.2.1, .bool cl.2.2.2.2.1, .slice vc.a.1 vc.a.2.1 vc.a.2.2, .slice vc.s.1 vc.s.2.1 vc.s.2.2, .slice vc.r.1 vc.r.2.1 vc.r.2.2, .slice vc.o.1 vc.o.2.1 vc.o.2.2, .slice vc.g.1 vc.g.2.1 vc.g.2.2, .slice vc.m.1 vc.m.2.1 vc.m.2.2, .slice vc.i.1 vc.i.2.1 vc.i.2.2, .slice vc.q.1 vc.q.2.1 vc.q.2.2, .slice vc.t.1 vc.t.2.1 vc.t.2.2, .slice vc.u.1 vc.u.2.1 vc.u.2.2, .slice vc.e.1 vc.e.2.1 vc.e.2.2, .string cl.2.2.2.2.2.2.1.1, .string cl.2.2.2.2.2.2.1.2.1, .string cl.2.2.2.2.2.2.1.2.2.1]) _ at hS6
      generalize setCs w8 b3 0 [.int .i64 cl.1, .int .i64 cl.2.1, .bool cl.2.2.1, .bool cl.2.2.2.1, .bool cl.2.2.2.2.1, .slice vc.a.1 vc.a.2.1 vc.a.2.2, .slice vc.s.1 vc.s.2.1 vc.s.2.2, .slice vc.r.1 vc.r.2.1 vc.r.2.2, .slice vc.o.1 vc.o.2.1 vc.o.2.2, .slice vc.g.1 vc.g.2.1 vc.g.2.2, .slice vc.m.1 vc.m.2.1 vc.m.2.2, .slice vc.i.1 vc.i.2.1 vc.i.2.2, .slice vc.q.1 vc.q.2.1 vc.q.2.2, .slice vc.t.1 vc.t.2.1 vc.t.2.2, .slice vc.u.1 vc.u.2.1 vc.u.2.2, .slice vc.e.1 vc.e.2.1 vc.e.2.2, .string cl.2.2.2.2.2.2.1.1, .string cl.2.2.2.2.2.2.1.2.1, .string cl.2.2.2.2.2.2.1.2.2.1] = w9 at *
      replace hS6 : St [] w0 w9 (Chunk.blk b3 (calV cl vc).toArray 39 :: Chunk.blk b2 #[.int .i64 0, .int .i64 0] 96 :: Chunk.blk b1 #[.int .i64 (S : Int), .int .i64 last] 96 :: Sch a0 v x dm sm o dead says ord L) := hS6
      have hBc := hS6.blk 0 rfl
      refine ⟨fun b w' => ∃ says', SaysOk p l says' ∧ b = unfit p l last k ∧ St [] w0 w' (Chunk.blk b3 (calV cl vc).toArray 39 :: Chunk.blk b2 #[.int .i64 0, .int .i64 0] 96 :: Chunk.blk b1 #[.int .i64 (S : Int), .int .i64 last] 96 :: Sch a0 v x dm sm o dead says' ord L), ⟨_, hBc.cell rfl, sel_of (fun h1 => ?_) (fun h1 => ⟨rfl, says, hsy, ?_, hS6.drew⟩)⟩, ?_⟩
      · have hR := St.rot (A := [_, _, _]) (B := [_, _, _, _]) hS6.drew
        refine ⟨_, (hS6.blk 2 rfl).cell rfl, _, hBc.cell rfl, Calls.mono (allowsS hx hR hsy last k hl1 hl2 hk) ?_⟩
        rintro _ w10 ⟨says', rfl, hsy', hS10⟩
        replace hS10 : St [] w0 w10 (Chunk.blk b3 (calV cl vc).toArray 39 :: Chunk.blk b2 #[.int .i64 0, .int .i64 0] 96 :: Chunk.blk b1 #[.int .i64 (S : Int), .int .i64 last] 96 :: Sch a0 v x dm sm o dead says' ord L) := St.rot (A := [_, _, _, _]) (B := [_, _, _]) hS10
        refine ⟨_, rfl, ⟨(hS10.blk 0 rfl).cell rfl, (hS10.blk 2 rfl).cell rfl, (hS10.blk 0 rfl).cell rfl, trivial⟩, rfl, says', hsy', ?_, hS10⟩
        rw [hunf, show (!cWrite cl) = true from h1]; rfl
      · rw [hunf, show (!cWrite cl) = false from h1]; rfl
      · rintro _ b73 w11 ⟨says', hsy', rfl, hS11⟩
        refine sel_of (fun h => ?_) (fun h => ?_)
        · have hE := hS11.over 1 rfl [.int .i64 (S : Int), .int .i64 last] rfl
          have hB1 := hS11.blk 2 rfl
          have hB2 := hE.blk 1 rfl
          exact ⟨_, hB1.cell rfl, _, hB1.cell rfl, (hS11.blk 1 rfl).can (by decide), _, hB2.cell rfl, _, hB2.cell rfl, says', _, _, false, rfl, stp_fit hlate h, hsy', hE.tail.tail.tail⟩
        · refine ⟨by omega, _, (hS11.blk 2 rfl).cell rfl, (hS11.blk 2 rfl).can (by simp), ?_⟩
          rw [or_bit S k hSb (by omega)]
          have hS13 := hS11.drew.set 2 rfl 0 [.int .i64 ((S ||| 2 ^ k : Nat) : Int)]
          rw [putC] at hS13
          generalize setCs w11.drew b1 0 [.int .i64 ((S ||| 2 ^ k : Nat) : Int)] = w13 at *
          obtain ⟨zz, hzz⟩ : ∃ zz : Int, zz = if (cWrite cl && !cFailed cl) = true then (k : Int) else last := ⟨_, rfl⟩
          refine ⟨fun w' => St [] w0 w' (Chunk.blk b3 (calV cl vc).toArray 39 :: Chunk.blk b2 #[.int .i64 0, .int .i64 0] 96 :: Chunk.blk b1 #[.int .i64 ((S ||| 2 ^ k : Nat) : Int), .int .i64 zz] 96 :: Sch a0 v x dm sm o dead says' ord L), ⟨_, (hS13.blk 0 rfl).cell rfl, sel_of (fun h2 => ⟨_, (hS13.blk 0 rfl).cell rfl, sel_of (fun h3 => ⟨(hS13.blk 2 rfl).can (by simp), rfl, ?_⟩) (fun h3 => ⟨rfl, ?_⟩)⟩) (fun h2 => ⟨rfl, ?_⟩)⟩, ?_⟩
          · have hz : zz = (k : Int) := by rw [hzz, show cWrite cl = true from h2, show (!cFailed cl) = true from h3]; rfl
            have hS14 := hS13.set 2 rfl 1 [.int .i64 (k : Int)]
            rw [putD, ← hz] at hS14
            rw [← hz]
            exact hS14
          · have hz : zz = last := by rw [hzz, show (!cFailed cl) = false from h3, Bool.and_false]; rfl
            rw [hz]; exact hS13
          · have hz : zz = last := by rw [hzz, show cWrite cl = false from h2]; rfl
            rw [hz]; exact hS13
          · intro _ w15 hS15
            have hE := hS15.over 1 rfl [.int .i64 ((S ||| 2 ^ k : Nat) : Int), .int .i64 zz] rfl
            have hB1 := hS15.blk 2 rfl
            have hB2 := hE.blk 1 rfl
            exact ⟨_, hB1.cell rfl, _, hB1.cell rfl, (hS15.blk 1 rfl).can (by decide), _, hB2.cell rfl, _, hB2.cell rfl, says', _, _, true, rfl, hsome _ _ h rfl hzz, hsy', hE.tail.tail.tail⟩
  · rintro e w' ⟨v, rfl, s, z0, z1, ok, rfl, h⟩; exact ⟨s, z0, z1, ok, rfl, h⟩
end JG
end Go.Proofs.Ytddbebhklmaeoaa
/- The search itself; Linear. -/
set_option linter.unusedVariables false
set_option linter.unusedSimpArgs false
set_option maxRecDepth 10000
namespace Go.Proofs.Ytddbebhklmaeoaa
open Go Go.Proofs.Ytddbebhklmaeoaa.Vc
namespace JG
open Vc.PG JD
theorem info3' : ∃ i, Try.prog.info? 3 = some i ∧ i.zero = some (.int .i64 0) ∧ i.size = 1 ∧ i.bytes = 8 := ⟨Try.prog.types[3]!, by kernel_rfl, by kernel_rfl, by kernel_rfl, by kernel_rfl⟩
theorem under31 : Try.prog.underlying 31 = some (.slice 3) := by kernel_rfl
theorem under90 : Try.prog.underlying 90 = some (.map 96 3) := Try.underlying90
theorem appI {S : List Nat} {w0 w : World} {L : List Chunk} (h : St S w0 w L) (i : Nat) {o : Sl} {ord : List Nat} (hi : L[i]? = some (Chunk.sl 3 1 o.v (rowsI ord))) (k : Nat) (hl : ord.length ≤ 1000000) :
    ∃ (o' : Sl) (w' : World), (Builtin.append_ #[31, 31] 31 #[o.v, .slice (some ⟨w.heap.size, 0, none⟩) 1 1]).run Try.prog (World.alloc w (.cells #[.int .i64 (k : Int)] 3)) = .ok o'.v w' ∧ St S w0 w' (L.set i (Chunk.sl 3 1 o'.v (rowsI (ord ++ [k])))) := by
  obtain ⟨ti, i1, i2, i3, i4⟩ := info3'
  have h2 := h.alloc #[.int .i64 (k : Int)] 3
  obtain ⟨g', cap', w', h3, h4⟩ := h2.append (i + 1) under31 i1 i2 i3 rfl (by decide) (by simpa using hi) (r := [.int .i64 (k : Int)]) (ty := 31) (h2.blk 0 rfl) rfl rfl (by intro u hu; simp at hu; subst hu; rfl)
    (by rw [i4]; simp; omega) (by simp [maxLen]; omega)
  refine ⟨(some ⟨g', 0, none⟩, (rowsI ord).length + 1, cap'), w', h3, ?_⟩
  have := h4.tail
  rw [show rowsI (ord ++ [k]) = rowsI ord ++ [[.int .i64 (k : Int)]] by simp [rowsI]]
  exact this
/-- The last of a list is taken away. -/
theorem slDrop {S : List Nat} {w0 w : World} {L : List Chunk} (h : St S w0 w L) (i : Nat) {o : Sl} {ord : List Nat} {k : Nat} (hi : L[i]? = some (Chunk.sl 3 1 o.v (rowsI (ord ++ [k])))) :
    o.2.1 = ord.length + 1 ∧ o.2.1 ≤ o.2.2 ∧ o.2.2 ≤ maxLen ∧ St S w0 w (L.set i (Chunk.sl 3 1 (.slice o.1 ord.length o.2.2) (rowsI ord))) := by
  have hlen := h.slLen i hi
  obtain ⟨F, h1, h2, h3⟩ := h.at i hi
  have hr : rowsI (ord ++ [k]) = rowsI ord ++ [[.int .i64 (k : Int)]] := by simp [rowsI]
  have hn : (rowsI (ord ++ [k])).length = ord.length + 1 := by simp [rowsI]
  rcases h1 with ⟨_, h1, _⟩ | ⟨g, cap, h1, hF, hrow⟩
  · rw [hr] at h1; simp at h1
  · simp only [Sl.v, Value.slice.injEq] at h1
    obtain ⟨q1, q2, q3⟩ := h1
    have hcap := hrow.cap_le
    have hmx : cap ≤ maxLen := by obtain ⟨_, _, _, _, q, _⟩ := hrow; exact q
    refine ⟨by omega, by omega, by omega, h.as i hi _ fun F' hF' => ?_⟩
    rcases hF' with ⟨_, h1, _⟩ | ⟨g', cap', h1, hF', hrow'⟩
    · rw [hr] at h1; simp at h1
    · simp only [Sl.v, Value.slice.injEq] at h1
      have ht := hrow'.take ord.length
      rw [hr, List.take_left' (by simp [rowsI])] at ht
      exact .inr ⟨g', cap', by rw [h1.1, h1.2.2]; simp [rowsI], hF', ht⟩
def DeadOk (H : JL.Hist) (m : Ents) : Prop := ∀ e ∈ m, ∀ (S : Nat) (last : Int), e.1 = ((S : Int), last) → JL.path H (S, last) = none
theorem DeadOk.get {H : JL.Hist} {m : Ents} (h : DeadOk H m) {S : Nat} {last : Int} (hk : (GM.get (0 : Int) m ((S : Int), last) != 0) = true) : JL.path H (S, last) = none := by
  cases hh : GM.has m ((S : Int), last) with
  | false => rw [get_none hh] at hk; cases hk
  | true => exact h _ (mem_get 0 hh) S last rfl
theorem DeadOk.put {H : JL.Hist} {m : Ents} (h : DeadOk H m) {S : Nat} {last : Int} (hp : JL.path H (S, last) = none) : DeadOk H (GM.put m ((S : Int), last) 1) := by
  intro e he S' last' hk
  rcases mem_put he with rfl | he
  · simp only [Prod.mk.injEq] at hk
    have : S = S' := by omega
    rw [← this, ← hk.2]; exact hp
  · exact h e he S' last' hk
theorem putO {v : PV} {x o o' : Sl} {dm sm : Nat} : Vc.putA (schCells v x dm sm o) 14 [o'.v] = schCells v x dm sm o' := by kernel_rfl
/-- What the search has found. -/
def fnd (r : Option (List Nat)) : List Nat := r.getD []
theorem fromC {w0 : World} {a0 : Nat} {v : PV} {x : Sl} {dm sm : Nat} {p : PolD} {l : List CalD} (hx : Ctx w0 v x p l) : ∀ (m : Nat) {w : World} {o : Sl} {dead says : Ents} {ord : List Nat} {L : List Chunk} (S : Nat) (last : Int),
    JL.left (histOf p l) S = m → St [] w0 w (Sch a0 v x dm sm o dead says ord L) → SaysOk p l says → DeadOk (histOf p l) dead → S < 4096 → -1 ≤ last → last < (l.length : Int) → ord.length + m ≤ 1000 →
    Calls Try.prog 33 #[.pointer (some ⟨a0, 0, none⟩), .agg #[.int .i64 (S : Int), .int .i64 last]] w fun e w' => ∃ o' dead' says', e = .returned (.bool (JL.path (histOf p l) (S, last)).isSome) ∧ SaysOk p l says' ∧ DeadOk (histOf p l) dead' ∧ St [] w0 w' (Sch a0 v x dm sm o' dead' says' (ord ++ fnd (JL.path (histOf p l) (S, last))) L) := by
  intro m
  induction m using Nat.strongRecOn with
  | _ m ih =>
  intro w o dead says ord L S last hm hS hsy hdd hSb hl1 hl2 hol
  refine Calls.mono (f33.calls (R := fun e w' => ∃ o' dead' says', e = .bool (JL.path (histOf p l) (S, last)).isSome ∧ SaysOk p l says' ∧ DeadOk (histOf p l) dead' ∧ St [] w0 w' (Sch a0 v x dm sm o' dead' says' (ord ++ fnd (JL.path (histOf p l) (S, last))) L)) ?_) ?_
  · dsimp only [f33.VC]
    have hl : x.2.1 = l.length := hx.cal.1
    have hn := hx.few
    obtain ⟨ti, i1, i2, i3, i4⟩ := info3'
    have hS1 := hS.alloc #[.int .i64 (S : Int), .int .i64 last] 96
    generalize World.alloc w (.cells #[.int .i64 (S : Int), .int .i64 last] 96) = w1 at *
    generalize w.heap.size = b1 at *
    refine ⟨_, (hS1.blk 0 rfl).cell rfl, _, (hS1.blk 0 rfl).cell rfl, Calls.mono (hS1.step0 (wholeC (p := p) (l := l) (hS1.blk 1 rfl) (hx.cal.fr hS1.frame) hn S last hSb)) ?_⟩
    rintro _ w2 ⟨rfl, hS2⟩
    refine ⟨_, rfl, sel_of (fun hw => ?_) (fun hw => ?_)⟩
    · refine ⟨o, dead, says, ?_, hsy, hdd, ?_⟩
      · rw [JL.path_whole hw]; rfl
      · rw [JL.path_whole hw]
        have : ord ++ fnd (some []) = ord := by simp [fnd]
        rw [this]
        exact hS2.tail
    have hB1 := hS2.blk 0 rfl
    have hlk := GM.look under90 key96 i1 i2 (hS2.drew.mapIs 2 rfl) ((S : Int), last) false
    refine ⟨_, (hS2.blk 1 rfl).cell rfl, _, hB1.cell rfl, _, hB1.cell rfl, _, _, hlk, sel_of (fun hh => ?_) (fun hh => ?_)⟩
    · have hp := hdd.get hh
      refine ⟨o, dead, says, ?_, hsy, hdd, ?_⟩
      · rw [hp]; rfl
      · rw [hp]
        have : ord ++ fnd none = ord := by simp [fnd]
        rw [this]
        exact hS2.drew.tail
    clear hh hlk
    have hS3 := hS2.drew
    generalize w2.drew = w3 at *
    refine ⟨_, _, _, (hS3.blk 1 rfl).cell rfl, fun i w' r => ∃ o' dead' says', SaysOk p l says' ∧ DeadOk (histOf p l) dead' ∧ St [] w0 w' (Chunk.blk b1 #[.int .i64 (S : Int), .int .i64 last] 96 :: Sch a0 v x dm sm o' dead' says' ord L) ∧
      ∃ k : Nat, i = (k : Int) ∧ k + r = x.2.1 ∧ ∀ a, a < k → ∀ z, JL.step (histOf p l) (S, last) a = some z → JL.path (histOf p l) z = none, ⟨x.2.1, o, dead, says, hsy, hdd, hS3, 0, rfl, by omega, fun a ha => by omega⟩, ?_⟩
    clear hS1 hS2 hS3 hB1 hS hdd hsy w1 w2 w3 w o dead says
    rintro d i w4 r ⟨o, dead, says, hsy, hdd, hS4, k, rfl, hk, hno⟩
    have hB1 := hS4.blk 0 rfl
    refine sel_of (fun hd => ?_) (fun hd => ?_)
    · have hi : k < x.2.1 := by have := of_decide_eq_true hd; omega
      have hup : ∀ q, q < k + 1 → q < k ∨ q = k := fun q hq => by omega
      rw [inc k x.2.1 (by omega) (by omega)]
      refine ⟨_, hB1.cell rfl, _, hB1.cell rfl, Calls.mono (behindC hx (St.rot (A := [_]) (B := [_, _, _, _]) hS4) hsy S last k hSb hl1 hl2 (by omega)) ?_⟩
      rintro _ w5 ⟨says', z0, z1, ok, rfl, hst, hsy', hS5⟩
      replace hS5 : St [] w0 w5 (Chunk.blk b1 #[.int .i64 (S : Int), .int .i64 last] 96 :: Sch a0 v x dm sm o dead says' ord L) := St.rot (A := [_, _, _, _]) (B := [_]) hS5
      have hS6 := hS5.alloc #[.int .i64 0, .int .i64 0] 96
      have hS7 := hS6.over 0 rfl [.int .i64 z0, .int .i64 z1] rfl
      refine ⟨_, _, _, rfl, (hS6.blk 0 rfl).can (by simp), ?_⟩
      generalize World.alloc w5 (.cells #[.int .i64 0, .int .i64 0] 96) = w6 at *
      generalize w5.heap.size = b5 at *
      generalize setCs w6 b5 0 [.int .i64 z0, .int .i64 z1] = w7 at *
      replace hS7 : St [] w0 w7 (Chunk.blk b5 #[.int .i64 z0, .int .i64 z1] 96 :: Chunk.blk b1 #[.int .i64 (S : Int), .int .i64 last] 96 :: Sch a0 v x dm sm o dead says' ord L) := hS7
      have next : ∀ (w' : World) (o' : Sl) (dead' says' : Ents), SaysOk p l says' → DeadOk (histOf p l) dead' → St [] w0 w' (Chunk.blk b5 #[.int .i64 z0, .int .i64 z1] 96 :: Chunk.blk b1 #[.int .i64 (S : Int), .int .i64 last] 96 :: Sch a0 v x dm sm o' dead' says' ord L) → (∀ z, JL.step (histOf p l) (S, last) k = some z → JL.path (histOf p l) z = none) →
        ∃ m, m < r ∧ ∃ o' dead' says', SaysOk p l says' ∧ DeadOk (histOf p l) dead' ∧ St [] w0 w' (Chunk.blk b1 #[.int .i64 (S : Int), .int .i64 last] 96 :: Sch a0 v x dm sm o' dead' says' ord L) ∧
          ∃ k' : Nat, ((k + 1 : Nat) : Int) = (k' : Int) ∧ k' + m = x.2.1 ∧ ∀ a, a < k' → ∀ z, JL.step (histOf p l) (S, last) a = some z → JL.path (histOf p l) z = none := fun w' o' dead' says' g1 g2 g3 g4 =>
        ⟨r - 1, by omega, o', dead', says', g1, g2, g3.tail, k + 1, rfl, by omega, fun a ha => (hup a ha).elim (hno a) fun e => by rw [e]; exact g4⟩
      unfold Stp at hst
      cases hstep : JL.step (histOf p l) (S, last) k with
      | none =>
        rw [hstep] at hst
        have hst : ok = false := hst
        subst hst
        exact sel_true rfl ⟨rfl, next w7 o dead says' hsy' hdd hS7 fun z hz => by rw [hstep] at hz; cases hz⟩
      | some z =>
        rw [hstep] at hst
        obtain ⟨rfl, rfl, rfl⟩ := hst
        obtain ⟨Z, lz⟩ := z
        have hle := JL.left_step (show k < (histOf p l).n from (by omega : k < l.length)) hstep
        obtain ⟨_, _, _, hz1, hz2⟩ := JL.step_some hstep
        have hZb : Z < 4096 := by
          have : Z = S ||| 2 ^ k := hz1
          rw [this]; exact or_lt S k hSb (by omega)
        have hlz : -1 ≤ lz ∧ lz < (l.length : Int) := by
          have : lz = if (histOf p l).counts k then (k : Int) else last := hz2
          rw [this]; split <;> omega
        obtain ⟨o1, w9, hrun, hS9⟩ := appI hS7 5 rfl k (by omega)
        replace hS9 : St [] w0 w9 (Chunk.blk b5 #[.int .i64 (Z : Int), .int .i64 lz] 96 :: Chunk.blk b1 #[.int .i64 (S : Int), .int .i64 last] 96 :: Chunk.blk a0 (schCells v x dm sm o) 93 :: Chunk.map enc2 encI dm dead :: Chunk.map enc2 encI sm says' :: Chunk.sl 3 1 o1.v (rowsI (ord ++ [k])) :: L) := hS9
        have hS10 := hS9.set 2 rfl 14 [o1.v]
        rw [putO] at hS10
        refine sel_false rfl ⟨_, _, _, (hS7.blk 2 rfl).cell rfl, _, _, _, w9, hrun, (hS9.blk 2 rfl).can (by simp), ?_⟩
        change St [] w0 (setCs w9 a0 14 [.slice o1.1 o1.2.1 o1.2.2]) _ at hS10
        generalize setCs w9 a0 14 [.slice o1.1 o1.2.1 o1.2.2] = w10 at *
        replace hS10 : St [] w0 w10 (Chunk.blk b5 #[.int .i64 (Z : Int), .int .i64 lz] 96 :: Chunk.blk b1 #[.int .i64 (S : Int), .int .i64 last] 96 :: Sch a0 v x dm sm o1 dead says' (ord ++ [k]) L) := hS10
        have hB5 := hS10.blk 0 rfl
        have hz : JL.left (histOf p l) Z + 1 = JL.left (histOf p l) S := hle
        refine ⟨_, hB5.cell rfl, _, hB5.cell rfl, Calls.mono (ih (JL.left (histOf p l) Z) (by omega) Z lz rfl (St.rot (A := [_, _]) (B := [_, _, _, _]) hS10) hsy' hdd hZb hlz.1 hlz.2 (by simp; omega)) ?_⟩
        rintro _ w11 ⟨o2, dead2, says2, rfl, hsy2, hdd2, hS11⟩
        replace hS11 : St [] w0 w11 (Chunk.blk b5 #[.int .i64 (Z : Int), .int .i64 lz] 96 :: Chunk.blk b1 #[.int .i64 (S : Int), .int .i64 last] 96 :: Sch a0 v x dm sm o2 dead2 says2 (ord ++ [k] ++ fnd (JL.path (histOf p l) (Z, lz))) L) := St.rot (A := [_, _, _, _]) (B := [_, _]) hS11
        cases hpz : JL.path (histOf p l) (Z, lz) with
        | some rz =>
          have hp := JL.path_first hw (show k < (histOf p l).n from (by omega : k < l.length)) hno hstep hpz
          rw [hpz] at hS11
          refine ⟨_, rfl, sel_true rfl ⟨o2, dead2, says2, ?_, hsy2, hdd2, ?_⟩⟩
          · rw [hp]; rfl
          · rw [hp]
            have : ord ++ fnd (some (k :: rz)) = ord ++ [k] ++ fnd (some rz) := by simp [fnd]
            rw [this]
            exact hS11.tail.tail
        | none =>
          rw [hpz] at hS11
          have : ord ++ [k] ++ fnd none = ord ++ [k] := by simp [fnd]
          rw [this] at hS11
          obtain ⟨q1, q2, q3, hS12⟩ := slDrop hS11 5 rfl
          replace hS12 : St [] w0 w11 (Chunk.blk b5 #[.int .i64 (Z : Int), .int .i64 lz] 96 :: Chunk.blk b1 #[.int .i64 (S : Int), .int .i64 last] 96 :: Chunk.blk a0 (schCells v x dm sm o2) 93 :: Chunk.map enc2 encI dm dead2 :: Chunk.map enc2 encI sm says2 :: Chunk.sl 3 1 (.slice o2.1 ord.length o2.2.2) (rowsI ord) :: L) := hS12
          have hBs := hS12.blk 2 rfl
          have ew : IntKind.i64.wrap ((o2.2.1 : Int) - 1) = (ord.length : Int) := by rw [i64_id (by simp only [maxLen] at q3; omega) (by simp only [maxLen] at q3; omega)]; omega
          refine ⟨_, rfl, sel_false rfl ⟨_, _, _, hBs.cell rfl, _, _, _, hBs.cell rfl, ?_⟩⟩
          rw [ew]
          refine ⟨by omega, by omega, hBs.can (by simp), rfl, ?_⟩
          have hS13 := hS12.drew.set 2 rfl 14 [Sl.v (o2.1, ord.length, o2.2.2)]
          rw [putO] at hS13
          exact next _ (o2.1, ord.length, o2.2.2) dead2 says2 hsy2 hdd2 hS13 fun z' hz' => by rw [hstep] at hz'; injection hz' with hz'; rw [← hz']; exact hpz
    · have hi : k = x.2.1 := by have := of_decide_eq_false hd; omega
      have hp := JL.path_none hw (fun a ha => hno a (by have : a < l.length := ha; omega))
      obtain ⟨w13, hup, hS13⟩ := hS4.drew.mapUpd 2 rfl under90 key96 ((S : Int), last) (1 : Int)
      refine ⟨_, (hS4.blk 1 rfl).cell rfl, _, hB1.cell rfl, _, hB1.cell rfl, w13, hup, o, GM.put dead ((S : Int), last) 1, says, ?_, hsy, hdd.put hp, ?_⟩
      · rw [hp]; rfl
      · rw [hp]
        have : ord ++ fnd none = ord := by simp [fnd]
        rw [this]
        exact hS13.tail
  · rintro e w' ⟨v, rfl, a, b, c, rfl, h⟩; exact ⟨a, b, c, rfl, h⟩
/-- What Linear answers: an order, or none. -/
noncomputable def ansP (p : PolD) (l : List CalD) : Option (List Nat) := if fitE l = 0 then JL.path (histOf p l) (0, -1) else none
theorem fit_few {l : List CalD} (h : fitE l = 0) : l.length ≤ 12 ∧ histB l = true := by
  unfold fitE at h
  split at h
  · cases h
  · split at h
    · exact ⟨by omega, by assumption⟩
    · cases h
theorem linearC {w : World} {v : PV} {x : Sl} {p : PolD} {l : List CalD} (hp : InP w v p) (hc : RdL calT w x l) (sp : SmallP p) (sc : SmallC l) :
    Calls Try.prog 11 #[v.v, x.v] w fun e w' => ∃ o : Sl, e = .returned (.tuple #[o.v, .bool (ansP p l).isSome, .int .i64 (fitE l)]) ∧ St [] w w' [Chunk.sl 3 1 o.v (rowsI (fnd (ansP p l)))] := by
  refine Calls.mono (f11.calls (R := fun e w' => ∃ o : Sl, e = .tuple #[o.v, .bool (ansP p l).isSome, .int .i64 (fitE l)] ∧ St [] w w' [Chunk.sl 3 1 o.v (rowsI (fnd (ansP p l)))]) ?_) ?_
  · dsimp only [f11.VC]
    have hS1 := (St.start w).alloc v.cells 28
    generalize World.alloc w (.cells v.cells 28) = w1 at *
    generalize w.heap.size = b1 at *
    refine Calls.mono (hS1.step0 (refusedC (hc.fr hS1.frame) sc.n)) ?_
    rintro _ w2 ⟨rfl, hS2⟩
    refine ⟨_, rfl, sel_of (fun he => ?_) (fun he => ?_)⟩
    · have he : fitE l ≠ 0 := bne_iff_ne.1 he
      refine ⟨(none, 0, 0), by rw [show ansP p l = none from if_neg he]; rfl, ?_⟩
      rw [show ansP p l = none from if_neg he]
      exact hS2.tail.nil 3 1
    have he : fitE l = 0 := bne_eq_false_iff_eq.1 he
    obtain ⟨hfew, hh⟩ := fit_few he
    have hx : Ctx w v x p l := ⟨hp, hc, hfew, sp, sc⟩
    have hB1 := hS2.blk 0 rfl
    rw [show ansP p l = JL.path (histOf p l) (0, -1) from if_pos he, he]
    have hN := hS2.tail.nil 3 1
    have hS3 := (hN.mapNew (K := Int × Int) (V := Int) (encK := enc2) (encV := encI))
    have hS4 := (hS3.mapNew (K := Int × Int) (V := Int) (encK := enc2) (encV := encI))
    have hS5 := hS4.alloc (schCells v x w2.heap.size (World.alloc w2 (.map #[] 0)).heap.size (none, 0, 0)) 93
    refine ⟨_, _, _, hB1.cell rfl, _, _, _, hB1.cell rfl, _, _, _, hB1.cell rfl, _, _, _, hB1.cell rfl, _, _, _, hB1.cell rfl, _, _, _, hB1.cell rfl, _, _, _, hB1.cell rfl, _, _, _, hB1.cell rfl, _, _, _, hB1.cell rfl, _, _, _, hB1.cell rfl, _, _, _, hB1.cell rfl, ?_⟩
    generalize World.alloc w2 (.map #[] 0) = w3 at *
    generalize w2.heap.size = dm at *
    generalize World.alloc w3 (.map #[] 0) = w4 at *
    generalize w3.heap.size = sm at *
    have hS6 : St [] w (World.alloc w4 (.cells (schCells v x dm sm (none, 0, 0)) 93)) (Sch w4.heap.size v x dm sm (none, 0, 0) [] [] [] []) := hS5.perm (by exact .cons _ (.swap _ _ _))
    refine Calls.mono (fromC hx (JL.left (histOf p l) 0) 0 (-1) rfl hS6 (fun e he => by cases he) (fun e he => by cases he) (by decide) (by decide) (by omega) ?_) ?_
    · have : JL.left (histOf p l) 0 ≤ (List.range l.length).length := List.countP_le_length
      simp at this ⊢; omega
    · rintro _ w6 ⟨o', dead', says', rfl, _, _, hS7⟩
      rw [List.nil_append] at hS7
      refine ⟨_, rfl, ?_⟩
      cases hpath : JL.path (histOf p l) (0, -1) with
      | none =>
        rw [hpath] at hS7
        exact sel_true rfl ⟨(none, 0, 0), rfl, (hS7.sel [] (by decide) [] rfl).nil 3 1⟩
      | some r =>
        rw [hpath] at hS7
        exact sel_false rfl ⟨_, _, _, (hS7.blk 0 rfl).cell rfl, o', rfl, hS7.sel [3] (by decide) [_] rfl⟩
  · rintro e w' ⟨v, rfl, o, rfl, h⟩; exact ⟨o, rfl, h⟩
end JG
end Go.Proofs.Ytddbebhklmaeoaa
