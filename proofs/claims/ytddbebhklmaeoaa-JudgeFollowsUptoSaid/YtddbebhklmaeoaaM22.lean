/- The search: what a policy answers a check, kept in a map. -/
import Derived.Test.YtddbebhklmaeoaaM21
import Derived.Test.YtddbebhklmaeoaaM16
import Derived.Test.YtddbebhklmaeoaaM13
set_option linter.unusedVariables false
set_option linter.unusedSimpArgs false
set_option maxRecDepth 10000
namespace Go.Proofs.Ytddbebhklmaeoaa
open Go Go.Proofs.Ytddbebhklmaeoaa.Vc
namespace JG
open Vc.PG JD
section
variable {K V : Type} [DecidableEq K]
theorem idx_get {l : List (K × V)} {k : K} {j : Nat} (h : GM.idx l k = some j) : ∃ h : j < l.length, (l[j]).1 = k := by
  obtain ⟨h1, h2, _⟩ := List.findIdx?_eq_some_iff_getElem.mp h
  refine ⟨by simpa using h1, by simpa using h2⟩
theorem put_put (l : List (K × V)) (k : K) (v u : V) : GM.put (GM.put l k v) k u = GM.put l k u := by
  unfold GM.put
  cases h : GM.idx l k with
  | none =>
    dsimp only
    rw [GM.idx_snoc h]
    simp
  | some j =>
    dsimp only
    have : GM.idx (l.set j (k, v)) k = some j := by
      obtain ⟨hj, hk⟩ := idx_get h
      unfold GM.idx at *
      rw [List.map_set, show (l.map (·.1)).set j k = l.map (·.1) from ?_, h]
      rw [← hk]
      exact List.ext_getElem? fun q => by
        rw [List.getElem?_set]
        split
        · rename_i hq
          subst hq
          simp [hj]
        · rfl
    rw [this]
    simp
theorem mem_put {l : List (K × V)} {k : K} {v : V} {e : K × V} (h : e ∈ GM.put l k v) : e = (k, v) ∨ e ∈ l := by
  unfold GM.put at h
  cases hi : GM.idx l k with
  | none => rw [hi] at h; simp at h; exact h.symm
  | some j =>
    rw [hi] at h
    rcases List.mem_or_eq_of_mem_set h with h | h
    · exact .inr h
    · exact .inl h
theorem mem_get {l : List (K × V)} {k : K} (d : V) (h : GM.has l k = true) : (k, GM.get d l k) ∈ l := by
  unfold GM.has at h
  unfold GM.get
  cases hi : GM.idx l k with
  | none => rw [hi] at h; cases h
  | some j =>
    obtain ⟨hj, hk⟩ := idx_get hi
    have : (k, (l.map (·.2)).getD j d) = l[j] := by
      rw [← hk]
      simp [List.getD_eq_getElem?_getD, hj]
    dsimp only
    rw [this]
    exact List.getElem_mem _
theorem get_none {l : List (K × V)} {k : K} {d : V} (h : GM.has l k = false) : GM.get d l k = d := by
  unfold GM.has at h
  unfold GM.get
  cases hi : GM.idx l k with
  | none => rfl
  | some j => rw [hi] at h; cases h
end
/-- What the policy behind a write answers a check. -/
noncomputable def ansI (p : PolD) (l : List CalD) (key : Int × Int) : Bool := allowsB geF ltF (polAt p l key.1) (cTri (l.getD key.2.toNat cd))
def SaysOk (p : PolD) (l : List CalD) (m : Ents) : Prop := ∀ e ∈ m, e.2 = if ansI p l e.1 = true then 1 else 2
theorem SaysOk.put {p : PolD} {l : List CalD} {m : Ents} (h : SaysOk p l m) (k : Int × Int) : SaysOk p l (GM.put m k (if ansI p l k = true then 1 else 2)) := by
  intro e he
  rcases mem_put he with rfl | he
  · rfl
  · exact h e he
theorem SaysOk.get {p : PolD} {l : List CalD} {m : Ents} (h : SaysOk p l m) {k : Int × Int} (hk : GM.has m k = true) : (GM.get (0 : Int) m k == 1) = ansI p l k := by
  have := h _ (mem_get 0 hk)
  dsimp only at this
  rw [this]
  cases ansI p l k <;> rfl
theorem under91 : Try.prog.underlying 91 = some (.map 51 32) := Try.underlying91
theorem info32 : ∃ i, Try.prog.info? 32 = some i ∧ i.zero = some (encI 0) := ⟨Try.prog.types[32]!, by kernel_rfl, by kernel_rfl⟩
theorem allowsS {w0 w : World} {a0 : Nat} {v : PV} {x o : Sl} {dm sm : Nat} {p : PolD} {l : List CalD} {dead says : Ents} {ord : List Nat} {L : List Chunk} (hx : Ctx w0 v x p l) (hS : St [] w0 w (Sch a0 v x dm sm o dead says ord L)) (hsy : SaysOk p l says)
    (last : Int) (k : Nat) (hl1 : -1 ≤ last) (hl2 : last < (l.length : Int)) (hk : k < l.length) :
    Calls Try.prog 87 #[.pointer (some ⟨a0, 0, none⟩), .int .i64 last, .int .i64 (k : Int)] w fun e w' => ∃ says', e = .returned (.bool (ansI p l (last, (k : Int)))) ∧ SaysOk p l says' ∧ St [] w0 w' (Sch a0 v x dm sm o dead says' ord L) := by
  refine Calls.mono (f87.calls (R := fun e w' => ∃ says', e = .bool (ansI p l (last, (k : Int))) ∧ SaysOk p l says' ∧ St [] w0 w' (Sch a0 v x dm sm o dead says' ord L)) ?_) ?_
  · dsimp only [f87.VC]
    have hl : x.2.1 = l.length := hx.cal.1
    obtain ⟨ti, i1, i2⟩ := info32
    have hS0 := hS.alloc #[.int .i64 0, .int .i64 0] 51
    have hS1 := hS0.over 0 rfl [.int .i64 last, .int .i64 (k : Int)] rfl
    refine ⟨(hS0.blk 0 rfl).can (by decide), ?_⟩
    generalize World.alloc w (.cells #[.int .i64 0, .int .i64 0] 51) = w1 at *
    generalize w.heap.size = b1 at *
    generalize setCs w1 b1 0 [.int .i64 last, .int .i64 (k : Int)] = w2 at *
    replace hS1 : St [] w0 w2 (Chunk.blk b1 #[.int .i64 last, .int .i64 (k : Int)] 51 :: Sch a0 v x dm sm o dead says ord L) := hS1
    have hBk := hS1.blk 0 rfl
    have hBs := hS1.blk 1 rfl
    have hlk := GM.look under91 key51 i1 i2 (hS1.drew.mapIs 3 rfl) (last, (k : Int)) true
    refine ⟨_, hBs.cell rfl, _, hBk.cell rfl, _, hBk.cell rfl, _, _, _, hlk, sel_of (fun hh => ?_) (fun hh => ?_)⟩
    · exact ⟨says, by rw [hsy.get hh], hsy, hS1.drew.tail⟩
    have hS2 := hS1.drew
    generalize w2.drew = w3 at *
    have hBs := hS2.blk 1 rfl
    have hS3 := hS2.alloc #[.slice none 0 0, .slice none 0 0, .slice none 0 0, .slice none 0 0, .slice none 0 0, .slice none 0 0, .slice none 0 0, .slice none 0 0, .slice none 0 0, .slice none 0 0, .slice none 0 0] 28
    have hS4 := hS3.over 0 rfl v.l rfl
    refine ⟨_, _, _, hBs.cell rfl, _, _, _, hBs.cell rfl, _, _, _, hBs.cell rfl, _, _, _, hBs.cell rfl, _, _, _, hBs.cell rfl, _, _, _, hBs.cell rfl, _, _, _, hBs.cell rfl, _, _, _, hBs.cell rfl, _, _, _, hBs.cell rfl, _, _, _, hBs.cell rfl, _, _, _, hBs.cell rfl, (hS3.blk 0 rfl).can (by decide), ?_⟩
    generalize World.alloc w3 (.cells #[.slice none 0 0, .slice none 0 0, .slice none 0 0, .slice none 0 0, .slice none 0 0, .slice none 0 0, .slice none 0 0, .slice none 0 0, .slice none 0 0, .slice none 0 0, .slice none 0 0] 28) = w4 at *
    generalize w3.heap.size = b2 at *
    change St [] w0 (setCs w4 b2 0 [.slice v.a.1 v.a.2.1 v.a.2.2, .slice v.s.1 v.s.2.1 v.s.2.2, .slice v.r.1 v.r.2.1 v.r.2.2, .slice v.o.1 v.o.2.1 v.o.2.2, .slice v.g.1 v.g.2.1 v.g.2.2, .slice v.m.1 v.m.2.1 v.m.2.2, .slice v.i.1 v.i.2.1 v.i.2.2, .slice v.q.1 v.q.2.1 v.q.2.2, .slice v.t.1 v.t.2.1 v.t.2.2, .slice v.u.1 v.u.2.1 v.u.2.2, .slice v.e.1 v.e.2.1 v.e.2.2]) _ at hS4
    generalize setCs w4 b2 0 [.slice v.a.1 v.a.2.1 v.a.2.2, .slice v.s.1 v.s.2.1 v.s.2.2, .slice v.r.1 v.r.2.1 v.r.2.2, .slice v.o.1 v.o.2.1 v.o.2.2, .slice v.g.1 v.g.2.1 v.g.2.2, .slice v.m.1 v.m.2.1 v.m.2.2, .slice v.i.1 v.i.2.1 v.i.2.2, .slice v.q.1 v.q.2.1 v.q.2.2, .slice v.t.1 v.t.2.1 v.t.2.2, .slice v.u.1 v.u.2.1 v.u.2.2, .slice v.e.1 v.e.2.1 v.e.2.2] = w5 at *
    replace hS4 : St [] w0 w5 (Chunk.blk b2 v.cells 28 :: Chunk.blk b1 #[.int .i64 last, .int .i64 (k : Int)] 51 :: Sch a0 v x dm sm o dead says ord L) := hS4
    have hBs := hS4.blk 2 rfl
    refine ⟨fun w' => ∃ u : PV, InP w' u (polAt p l last) ∧ SmallP (polAt p l last) ∧ St [] w0 w' (Chunk.blk b2 u.cells 28 :: Chunk.blk b1 #[.int .i64 last, .int .i64 (k : Int)] 51 :: Sch a0 v x dm sm o dead says ord L), sel_of (fun h1 => ?_) (fun h1 => ?_), ?_⟩
    · have h1 := of_decide_eq_true h1
      obtain ⟨q, rfl⟩ : ∃ q : Nat, last = (q : Int) := ⟨last.toNat, by omega⟩
      obtain ⟨bb, oo, hA, hc⟩ := RdL.call hx.cal (by omega)
      obtain ⟨u, hu, _, _, hc1⟩ := hc q (by omega)
      have hc := fun j y h => hS4.frame.cell (hc1 j y h)
      have hmem : l.getD q cd ∈ l := (mem_getD cd _ _).2 ⟨q, by omega, rfl⟩
      have hpe : polAt p l (q : Int) = cPol (l.getD q cd) := by unfold polAt; rw [if_pos (by omega)]; rfl
      have hsp := hx.sc.p _ hmem
      rw [hpe]
      generalize l.getD q cd = cl at *
      have hS5 := hS4.over 0 rfl u.l rfl
      refine ⟨_, _, _, hBs.cell rfl, by omega, by omega, needPtr_of hA ⟨_, _, _, hc 5 _ rfl, _, _, _, hc 6 _ rfl, _, _, _, hc 7 _ rfl, _, _, _, hc 8 _ rfl, _, _, _, hc 9 _ rfl, _, _, _, hc 10 _ rfl, _, _, _, hc 11 _ rfl, _, _, _, hc 12 _ rfl, _, _, _, hc 13 _ rfl, _, _, _, hc 14 _ rfl, _, _, _, hc 15 _ rfl, (hS4.blk 0 rfl).can (by simp), rfl, u, ?_, hsp, ?_⟩⟩
      · exact hu.fr hS5.frame
      · exact hS5
    · have h1 := of_decide_eq_false h1
      refine ⟨rfl, v, ?_, ?_, hS4⟩
      · unfold polAt; rw [if_neg h1]; exact hx.pol.fr hS4.frame
      · unfold polAt; rw [if_neg h1]; exact hx.sp
    · rintro _ w6 ⟨u, hu, hsp, hS6⟩
      have hBp := hS6.blk 0 rfl
      have hBs := hS6.blk 2 rfl
      obtain ⟨bb, oo, hA, hc⟩ := RdL.call (hx.cal.fr hS6.frame) (by omega)
      obtain ⟨z, _, _, _, hc⟩ := hc k (by omega)
      refine ⟨_, _, _, hBp.cell rfl, _, _, _, hBp.cell rfl, _, _, _, hBp.cell rfl, _, _, _, hBp.cell rfl, _, _, _, hBp.cell rfl, _, _, _, hBp.cell rfl, _, _, _, hBp.cell rfl, _, _, _, hBp.cell rfl, _, _, _, hBp.cell rfl, _, _, _, hBp.cell rfl, _, _, _, hBp.cell rfl, _, _, _, hBs.cell rfl, by omega, by omega, needPtr_of hA ⟨_, hc 16 _ rfl, _, hc 17 _ rfl, _, hc 18 _ rfl, Calls.mono (hS6.drew.step0 (allowsC (hu.fr (Fr.refl [] w6).drew) hsp _ _ _)) ?_⟩⟩
      rintro _ w7 ⟨rfl, hS7⟩
      have hans : allowsB geF ltF (polAt p l last) (cTri (l.getD k cd)) = ansI p l (last, (k : Int)) := rfl
      have hBk := hS7.blk 1 rfl
      have hBs := hS7.blk 2 rfl
      obtain ⟨w8, hup, hS8⟩ := hS7.drew.mapUpd 4 rfl under91 key51 (last, (k : Int)) (2 : Int)
      refine ⟨_, rfl, _, hBs.cell rfl, _, hBk.cell rfl, _, hBk.cell rfl, w8, hup, ?_⟩
      replace hS8 : St [] w0 w8 (Chunk.blk b2 u.cells 28 :: Chunk.blk b1 #[.int .i64 last, .int .i64 (k : Int)] 51 :: Sch a0 v x dm sm o dead (GM.put says (last, (k : Int)) 2) ord L) := hS8
      have hput := hsy.put (last, (k : Int))
      refine sel_of (fun h2 => ?_) (fun h2 => ?_)
      · have h2 : ansI p l (last, (k : Int)) = true := h2
        rw [if_pos h2] at hput
        have hBk := hS8.blk 1 rfl
        have hBs := hS8.blk 2 rfl
        obtain ⟨w9, hup2, hS9⟩ := hS8.drew.mapUpd 4 rfl under91 key51 (last, (k : Int)) (1 : Int)
        rw [put_put] at hS9
        exact ⟨_, hBs.cell rfl, _, hBk.cell rfl, _, hBk.cell rfl, w9, hup2, _, rfl, hput, hS9.tail.tail⟩
      · have h2 : ansI p l (last, (k : Int)) = false := h2
        rw [if_neg (by rw [h2]; decide)] at hput
        exact ⟨_, rfl, hput, hS8.tail.tail⟩
  · rintro e w' ⟨v, rfl, s, rfl, h⟩; exact ⟨s, rfl, h⟩
end JG
end Go.Proofs.Ytddbebhklmaeoaa
/- The search: a call more. -/
set_option linter.unusedVariables false
set_option linter.unusedSimpArgs false
set_option maxRecDepth 10000
namespace Go.Proofs.Ytddbebhklmaeoaa
open Go Go.Proofs.Ytddbebhklmaeoaa.Vc
namespace JG
open Vc.PG JD
def lb (l : List CalD) (S k a : Nat) : Bool := !S.testBit a && decide (0 ≤ cEnded (l.getD a cd)) && decide (cEnded (l.getD a cd) < cBegan (l.getD k cd))
theorem late_lb {p : PolD} {l : List CalD} {S k : Nat} {last : Int} : JL.late (histOf p l) (S, last) k = (List.range l.length).any (lb l S k) := rfl
/-- What is told of a step. -/
def Stp (p : PolD) (l : List CalD) (S : Nat) (last : Int) (k : Nat) (z0 z1 : Int) (ok : Bool) : Prop :=
  match JL.step (histOf p l) (S, last) k with | some z => ok = true ∧ z0 = (z.1 : Int) ∧ z1 = z.2 | none => ok = false
section
variable {p : PolD} {l : List CalD} {S k : Nat} {last z0 z1 : Int}
theorem stp_bit (h : S.testBit k = true) : Stp p l S last k z0 z1 false := by
  unfold Stp; rw [show JL.step (histOf p l) (S, last) k = none by unfold JL.step; rw [if_pos h]]
theorem stp_late {a : Nat} (ha : a < l.length) (h : lb l S k a = true) : Stp p l S last k z0 z1 false := by
  have hl : JL.late (histOf p l) (S, last) k = true := by rw [late_lb, List.any_eq_true]; exact ⟨a, List.mem_range.2 ha, h⟩
  unfold Stp
  rw [show JL.step (histOf p l) (S, last) k = none by
    unfold JL.step
    split
    · rfl
    · first | rfl | rw [if_pos hl]]
theorem late_no (h : ∀ a, a < l.length → lb l S k a = false) : JL.late (histOf p l) (S, last) k = false := by
  cases hl : JL.late (histOf p l) (S, last) k with
  | false => rfl
  | true =>
    rw [late_lb, List.any_eq_true] at hl
    obtain ⟨a, ha, hb⟩ := hl
    rw [h a (List.mem_range.1 ha)] at hb; cases hb
/-- Is it a check that is answered otherwise? -/
noncomputable def unfit (p : PolD) (l : List CalD) (last : Int) (k : Nat) : Bool := !cWrite (l.getD k cd) && !(ansI p l (last, (k : Int)) == cAllowed (l.getD k cd))
theorem unfit_eq : unfit p l last k = (!(histOf p l).write k && !(histOf p l).fits last k) := rfl
theorem stp_fit (h0 : ∀ a, a < l.length → lb l S k a = false) (h : unfit p l last k = true) : Stp p l S last k z0 z1 false := by
  unfold Stp
  rw [show JL.step (histOf p l) (S, last) k = none by
    unfold JL.step
    split
    · rfl
    · split
      · rfl
      · rw [if_pos (by rw [← unfit_eq]; exact h)]]
theorem stp_some (h1 : S.testBit k = false) (h0 : ∀ a, a < l.length → lb l S k a = false) (h : unfit p l last k = false) (hz0 : z0 = ((S ||| 2 ^ k : Nat) : Int)) (hz1 : z1 = if (cWrite (l.getD k cd) && !cFailed (l.getD k cd)) = true then (k : Int) else last) : Stp p l S last k z0 z1 true := by
  unfold Stp
  rw [show JL.step (histOf p l) (S, last) k = some (S ||| 2 ^ k, if (histOf p l).counts k then (k : Int) else last) by
    unfold JL.step
    rw [if_neg (by rw [h1]; decide), if_neg (by rw [late_no h0]; decide), if_neg (by rw [← unfit_eq, h]; decide)]]
  exact ⟨rfl, hz0, hz1⟩
end
theorem St.rot {S : List Nat} {w0 w : World} {A B L : List Chunk} (h : St S w0 w (A ++ (B ++ L))) : St S w0 w (B ++ (A ++ L)) := by
  refine h.perm ?_
  rw [← List.append_assoc, ← List.append_assoc]
  exact List.perm_append_comm.append_right L
theorem putC {A B C : Value} : Vc.putA #[A, B] 0 [C] = #[C, B] := by rfl
theorem putD {A B C : Value} : Vc.putA #[A, B] 1 [C] = #[A, C] := by rfl
theorem behindC {w0 w : World} {a0 : Nat} {v : PV} {x o : Sl} {dm sm : Nat} {p : PolD} {l : List CalD} {dead says : Ents} {ord : List Nat} {L : List Chunk} (hx : Ctx w0 v x p l) (hS : St [] w0 w (Sch a0 v x dm sm o dead says ord L)) (hsy : SaysOk p l says)
    (S : Nat) (last : Int) (k : Nat) (hSb : S < 4096) (hl1 : -1 ≤ last) (hl2 : last < (l.length : Int)) (hk : k < l.length) :
    Calls Try.prog 59 #[.pointer (some ⟨a0, 0, none⟩), .agg #[.int .i64 (S : Int), .int .i64 last], .int .i64 (k : Int)] w fun e w' => ∃ says' z0 z1 ok, e = .returned (.tuple #[.agg #[.int .i64 z0, .int .i64 z1], .bool ok]) ∧ Stp p l S last k z0 z1 ok ∧ SaysOk p l says' ∧ St [] w0 w' (Sch a0 v x dm sm o dead says' ord L) := by
  refine Calls.mono (f59.calls (R := fun e w' => ∃ says' z0 z1 ok, e = .tuple #[.agg #[.int .i64 z0, .int .i64 z1], .bool ok] ∧ Stp p l S last k z0 z1 ok ∧ SaysOk p l says' ∧ St [] w0 w' (Sch a0 v x dm sm o dead says' ord L)) ?_) ?_
  · dsimp only [f59.VC]
    have hl : x.2.1 = l.length := hx.cal.1
    have hn := hx.few
    have hS2 := (hS.alloc #[.int .i64 (S : Int), .int .i64 last] 96).alloc #[.int .i64 0, .int .i64 0] 96
    generalize World.alloc w (.cells #[.int .i64 (S : Int), .int .i64 last] 96) = w1 at *
    generalize w.heap.size = b1 at *
    generalize World.alloc w1 (.cells #[.int .i64 0, .int .i64 0] 96) = w2 at *
    generalize w1.heap.size = b2 at *
    replace hS2 : St [] w0 w2 (Chunk.blk b2 #[.int .i64 0, .int .i64 0] 96 :: Chunk.blk b1 #[.int .i64 (S : Int), .int .i64 last] 96 :: Sch a0 v x dm sm o dead says ord L) := hS2
    have hB1 := hS2.blk 1 rfl
    have e1 := bit_eq1 S k (by omega) (by omega)
    refine ⟨_, hB1.cell rfl, by omega, sel_of (fun hb => ?_) (fun hb => ?_)⟩
    · have hE := hS2.over 0 rfl [.int .i64 (S : Int), .int .i64 last] rfl
      have hB2 := hE.blk 0 rfl
      exact ⟨_, hB1.cell rfl, _, hB1.cell rfl, (hS2.blk 0 rfl).can (by decide), _, hB2.cell rfl, _, hB2.cell rfl, says, _, _, false, rfl, stp_bit (e1.symm.trans hb), hsy, hE.tail.tail⟩
    have hbit : S.testBit k = false := e1.symm.trans hb
    refine ⟨_, _, _, (hS2.blk 2 rfl).cell rfl, fun i w' r => St [] w0 w' (Chunk.blk b2 #[.int .i64 0, .int .i64 0] 96 :: Chunk.blk b1 #[.int .i64 (S : Int), .int .i64 last] 96 :: Sch a0 v x dm sm o dead says ord L) ∧ ∃ q : Nat, i = (q : Int) ∧ q + r = x.2.1 ∧ ∀ a, a < q → lb l S k a = false, ⟨x.2.1, hS2, 0, rfl, by omega, fun a ha => by omega⟩, ?_⟩
    rintro d i w4 r ⟨hS4, q, rfl, hq, hno⟩
    refine sel_of (fun hd => ?_) (fun hd => ?_)
    · have hi : q < x.2.1 := by have := of_decide_eq_true hd; omega
      obtain ⟨bk, ok, hAk, hck⟩ := RdL.call hx.cal (by omega)
      obtain ⟨vk, hvk, _, _, hck⟩ := hck k (by omega)
      have hup : ∀ a, a < q + 1 → a < q ∨ a = q := fun a ha => by omega
      have hbg : ∀ w', Fr [] w0 w' → w'.cell? ⟨bk, ok + k * 19 + 0, none⟩ = some (.int .i64 (cBegan (l.getD k cd))) := fun w' hf => hf.cell (hck 0 _ rfl)
      clear hck hvk vk
      have hlbq : lb l S k q = (!S.testBit q && decide (0 ≤ cEnded (l.getD q cd)) && decide (cEnded (l.getD q cd) < cBegan (l.getD k cd))) := rfl
      generalize cBegan (l.getD k cd) = bgk at *
      obtain ⟨bb, oo, hA, hc⟩ := RdL.call hx.cal (by omega)
      obtain ⟨vc, hv, _, _, hc1⟩ := hc q hi
      have hmem : l.getD q cd ∈ l := (mem_getD cd _ _).2 ⟨q, by omega, rfl⟩
      have hc := fun j y h => hS4.frame.cell (hc1 j y h)
      generalize hcl : l.getD q cd = cl at *
      have hT := hS4.alloc #[.int .i64 0, .int .i64 0, .bool false, .bool false, .bool false, .slice none 0 0, .slice none 0 0, .slice none 0 0, .slice none 0 0, .slice none 0 0, .slice none 0 0, .slice none 0 0, .slice none 0 0, .slice none 0 0, .slice none 0 0, .slice none 0 0, .string ⟨#[]⟩, .string ⟨#[]⟩, .string ⟨#[]⟩] 39
      have hS6 := hT.over 0 rfl (calV cl vc) rfl
      refine ⟨by omega, by omega, needPtr_of hA ⟨_, hc 0 _ rfl, _, hc 1 _ rfl, _, hc 2 _ rfl, _, hc 3 _ rfl, _, hc 4 _ rfl, _, _, _, hc 5 _ rfl, _, _, _, hc 6 _ rfl, _, _, _, hc 7 _ rfl, _, _, _, hc 8 _ rfl, _, _, _, hc 9 _ rfl, _, _, _, hc 10 _ rfl, _, _, _, hc 11 _ rfl, _, _, _, hc 12 _ rfl, _, _, _, hc 13 _ rfl, _, _, _, hc 14 _ rfl, _, _, _, hc 15 _ rfl, _, hc 16 _ rfl, _, hc 17 _ rfl, _, hc 18 _ rfl, (hT.blk 0 rfl).can (by decide), ?_⟩⟩
      generalize World.alloc w4 (.cells #[.int .i64 0, .int .i64 0, .bool false, .bool false, .bool false, .slice none 0 0, .slice none 0 0, .slice none 0 0, .slice none 0 0, .slice none 0 0, .slice none 0 0, .slice none 0 0, .slice none 0 0, .slice none 0 0, .slice none 0 0, .slice none 0 0, .string ⟨#[]⟩, .string ⟨#[]⟩, .string ⟨#[]⟩] 39) = w5 at *
      generalize w4.heap.size = b3 at *
      change St [] w0 (setCs w5 b3 0 [.int .i64 cl.1, .int .i64 cl.2.1, .bool cl.2.2.1, .bool cl.2.2.2.1, .bool cl.2.2.2.2.1, .slice vc.a.1 vc.a.2.1 vc.a.2.2, .slice vc.s.1 vc.s.2.1 vc.s.2.2, .slice vc.r.1 vc.r.2.1 vc.r.2.2, .slice vc.o.1 vc.o.2.1 vc.o.2.2, .slice vc.g.1 vc.g.2.1 vc.g.2.2, .slice vc.m.1 vc.m.2.1 vc.m.2.2, .slice vc.i.1 vc.i.2.1 vc.i.2.2, .slice vc.q.1 vc.q.2.1 vc.q.2.2, .slice vc.t.1 vc.t.2.1 vc.t.2.2, .slice vc.u.1 vc.u.2.1 vc.u.2.2, .slice vc.e.1 vc.e.2.1 vc.e.2.2, .string cl.2.2.2.2.2.2.1.1, .string cl.2.2.2.2.2.2.1.2.1, .string cl.2.2.2.2.2.2.1.2.2.1]) _ at hS6
      generalize setCs w5 b3 0 [.int .i64 cl.1, .int .i64 cl.2.1, .bool cl.2.2.1, .bool cl.2.2.2.1, .bool cl.2.2.2.2.1, .slice vc.a.1 vc.a.2.1 vc.a.2.2, .slice vc.s.1 vc.s.2.1 vc.s.2.2, .slice vc.r.1 vc.r.2.1 vc.r.2.2, .slice vc.o.1 vc.o.2.1 vc.o.2.2, .slice vc.g.1 vc.g.2.1 vc.g.2.2, .slice vc.m.1 vc.m.2.1 vc.m.2.2, .slice vc.i.1 vc.i.2.1 vc.i.2.2, .slice vc.q.1 vc.q.2.1 vc.q.2.2, .slice vc.t.1 vc.t.2.1 vc.t.2.2, .slice vc.u.1 vc.u.2.1 vc.u.2.2, .slice vc.e.1 vc.e.2.1 vc.e.2.2, .string cl.2.2.2.2.2.2.1.1, .string cl.2.2.2.2.2.2.1.2.1, .string cl.2.2.2.2.2.2.1.2.2.1] = w6 at *
      replace hS6 : St [] w0 w6 (Chunk.blk b3 (calV cl vc).toArray 39 :: Chunk.blk b2 #[.int .i64 0, .int .i64 0] 96 :: Chunk.blk b1 #[.int .i64 (S : Int), .int .i64 last] 96 :: Sch a0 v x dm sm o dead says ord L) := hS6
      have hBc := hS6.blk 0 rfl
      rw [inc q x.2.1 (by omega) (by omega)]
      have e0 := bit_eq0 S q (by omega) (by omega)
      have hS7 := hS6.tail
      have next : lb l S k q = false → ∀ w', St [] w0 w' (Chunk.blk b2 #[.int .i64 0, .int .i64 0] 96 :: Chunk.blk b1 #[.int .i64 (S : Int), .int .i64 last] 96 :: Sch a0 v x dm sm o dead says ord L) → ∃ m, m < r ∧ St [] w0 w' (Chunk.blk b2 #[.int .i64 0, .int .i64 0] 96 :: Chunk.blk b1 #[.int .i64 (S : Int), .int .i64 last] 96 :: Sch a0 v x dm sm o dead says ord L) ∧ ∃ q' : Nat, ((q + 1 : Nat) : Int) = (q' : Int) ∧ q' + m = x.2.1 ∧ ∀ a, a < q' → lb l S k a = false := fun h w' hw =>
        ⟨r - 1, by omega, hw, q + 1, rfl, by omega, fun a ha => (hup a ha).elim (hno a) fun e => by rw [e]; exact h⟩
      refine ⟨_, (hS7.blk 1 rfl).cell rfl, by omega, sel_of (fun h1 => ⟨_, hBc.cell rfl, sel_of (fun h2 => ⟨_, hBc.cell rfl, _, _, _, (hS7.blk 2 rfl).cell rfl, by omega, by omega, needPtr_of hAk ⟨_, hbg _ hS7.frame, sel_of (fun h3 => ?_) (fun h3 => ⟨rfl, next ?_ _ hS7.drew⟩)⟩⟩) (fun h2 => ⟨rfl, next ?_ _ hS7.drew⟩)⟩) (fun h1 => ⟨rfl, next ?_ _ hS7.drew⟩)⟩
      · have hE := hS7.drew.over 0 rfl [.int .i64 (S : Int), .int .i64 last] rfl
        have hB1 := hS7.blk 1 rfl
        have hB2 := hE.blk 0 rfl
        refine ⟨_, hB1.cell rfl, _, hB1.cell rfl, (hS7.blk 0 rfl).can (by decide), _, hB2.cell rfl, _, hB2.cell rfl, says, _, _, false, rfl, stp_late (a := q) (by omega) ?_, hsy, hE.tail.tail⟩
        rw [hlbq, e0.symm.trans h1, show decide (0 ≤ cEnded cl) = true from h2, show decide (cEnded cl < bgk) = true from h3]; rfl
      · rw [hlbq, show decide (cEnded cl < bgk) = false from h3, Bool.and_false]
      · rw [hlbq, show decide (0 ≤ cEnded cl) = false from h2, Bool.and_false, Bool.false_and]
      · rw [hlbq, e0.symm.trans h1, Bool.false_and, Bool.false_and]
    · have hi : q = x.2.1 := by have := of_decide_eq_false hd; omega
      have hlate : ∀ a, a < l.length → lb l S k a = false := fun a ha => hno a (by omega)
      clear hno
      have hunf : unfit p l last k = (!cWrite (l.getD k cd) && !(ansI p l (last, (k : Int)) == cAllowed (l.getD k cd))) := rfl
      have hsome : ∀ z0 z1 : Int, unfit p l last k = false → z0 = ((S ||| 2 ^ k : Nat) : Int) → (z1 = if (cWrite (l.getD k cd) && !cFailed (l.getD k cd)) = true then (k : Int) else last) → Stp p l S last k z0 z1 true := fun z0 z1 h hz0 hz1 => stp_some hbit hlate h hz0 hz1
      refine ⟨_, _, _, (hS4.blk 2 rfl).cell rfl, ?_⟩
      obtain ⟨bb, oo, hA, hc⟩ := RdL.call hx.cal (by omega)
      obtain ⟨vc, hv, _, _, hc1⟩ := hc k (by omega)
      have hmem : l.getD k cd ∈ l := (mem_getD cd _ _).2 ⟨k, by omega, rfl⟩
      have hc := fun j y h => hS4.frame.cell (hc1 j y h)
      generalize hcl : l.getD k cd = cl at *
      have hT := hS4.alloc #[.int .i64 0, .int .i64 0, .bool false, .bool false, .bool false, .slice none 0 0, .slice none 0 0, .slice none 0 0, .slice none 0 0, .slice none 0 0, .slice none 0 0, .slice none 0 0, .slice none 0 0, .slice none 0 0, .slice none 0 0, .slice none 0 0, .string ⟨#[]⟩, .string ⟨#[]⟩, .string ⟨#[]⟩] 39
      have hS6 := hT.over 0 rfl (calV cl vc) rfl
      refine ⟨by omega, by omega, needPtr_of hA ⟨_, hc 0 _ rfl, _, hc 1 _ rfl, _, hc 2 _ rfl, _, hc 3 _ rfl, _, hc 4 _ rfl, _, _, _, hc 5 _ rfl, _, _, _, hc 6 _ rfl, _, _, _, hc 7 _ rfl, _, _, _, hc 8 _ rfl, _, _, _, hc 9 _ rfl, _, _, _, hc 10 _ rfl, _, _, _, hc 11 _ rfl, _, _, _, hc 12 _ rfl, _, _, _, hc 13 _ rfl, _, _, _, hc 14 _ rfl, _, _, _, hc 15 _ rfl, _, hc 16 _ rfl, _, hc 17 _ rfl, _, hc 18 _ rfl, (hT.blk 0 rfl).can (by decide), ?_⟩⟩
      generalize World.alloc w4 (.cells #[.int .i64 0, .int .i64 0, .bool false, .bool false, .bool false, .slice none 0 0, .slice none 0 0, .slice none 0 0, .slice none 0 0, .slice none 0 0, .slice none 0 0, .slice none 0 0, .slice none 0 0, .slice none 0 0, .slice none 0 0, .slice none 0 0, .string ⟨#[]⟩, .string ⟨#[]⟩, .string ⟨#[]⟩] 39) = w8 at *
      generalize w4.heap.size = b3 at *
      change St [] w0 (setCs w8 b3 0 [.int .i64 cl.1, .int .i64 cl.2.1, .bool cl.2.2.1, .bool cl.2.2.2.1, .bool cl.2.2.2.2.1, .slice vc.a.1 vc.a.2.1 vc.a.2.2, .slice vc.s.1 vc.s.2.1 vc.s.2.2, .slice vc.r.1 vc.r.2.1 vc.r.2.2, .slice vc.o.1 vc.o.2.1 vc.o.2.2, .slice vc.g.1 vc.g.2.1 vc.g.2.2, .slice vc.m.1 vc.m.2.1 vc.m.2.2, .slice vc.i.1 vc.i.2.1 vc.i.2.2, .slice vc.q.1 vc.q.2.1 vc.q.2.2, .slice vc.t.1 vc.t.2.1 vc.t.2.2, .slice vc.u.1 vc.u.2.1 vc.u.2.2, .slice vc.e.1 vc.e.2.1 vc.e.2.2, .string cl.2.2.2.2.2.2.1.1, .string cl.2.2.2.2.2.2.1.2.1, .string cl.2.2.2.2.2.2.1.2.2.1]) _ at hS6
      generalize setCs w8 b3 0 [.int .i64 cl.1, .int .i64 cl.2.1, .bool cl.2.2.1, .bool cl.2.2.2.1, .bool cl.2.2.2.2.1, .slice vc.a.1 vc.a.2.1 vc.a.2.2, .slice vc.s.1 vc.s.2.1 vc.s.2.2, .slice vc.r.1 vc.r.2.1 vc.r.2.2, .slice vc.o.1 vc.o.2.1 vc.o.2.2, .slice vc.g.1 vc.g.2.1 vc.g.2.2, .slice vc.m.1 vc.m.2.1 vc.m.2.2, .slice vc.i.1 vc.i.2.1 vc.i.2.2, .slice vc.q.1 vc.q.2.1 vc.q.2.2, .slice vc.t.1 vc.t.2.1 vc.t.2.2, .slice vc.u.1 vc.u.2.1 vc.u.2.2, .slice vc.e.1 vc.e.2.1 vc.e.2.2, .string cl.2.2.2.2.2.2.1.1, .string cl.2.2.2.2.2.2.1.2.1, .string cl.2.2.2.2.2.2.1.2.2.1] = w9 at *
      replace hS6 : St [] w0 w9 (Chunk.blk b3 (calV cl vc).toArray 39 :: Chunk.blk b2 #[.int .i64 0, .int .i64 0] 96 :: Chunk.blk b1 #[.int .i64 (S : Int), .int .i64 last] 96 :: Sch a0 v x dm sm o dead says ord L) := hS6
      have hBc := hS6.blk 0 rfl
      refine ⟨fun b w' => ∃ says', SaysOk p l says' ∧ b = unfit p l last k ∧ St [] w0 w' (Chunk.blk b3 (calV cl vc).toArray 39 :: Chunk.blk b2 #[.int .i64 0, .int .i64 0] 96 :: Chunk.blk b1 #[.int .i64 (S : Int), .int .i64 last] 96 :: Sch a0 v x dm sm o dead says' ord L), ⟨_, hBc.cell rfl, sel_of (fun h1 => ?_) (fun h1 => ⟨rfl, says, hsy, ?_, hS6.drew⟩)⟩, ?_⟩
      · have hR := St.rot (A := [_, _, _]) (B := [_, _, _, _]) hS6.drew
        refine ⟨_, (hS6.blk 2 rfl).cell rfl, _, hBc.cell rfl, Calls.mono (allowsS hx hR hsy last k hl1 hl2 hk) ?_⟩
        rintro _ w10 ⟨says', rfl, hsy', hS10⟩
        replace hS10 : St [] w0 w10 (Chunk.blk b3 (calV cl vc).toArray 39 :: Chunk.blk b2 #[.int .i64 0, .int .i64 0] 96 :: Chunk.blk b1 #[.int .i64 (S : Int), .int .i64 last] 96 :: Sch a0 v x dm sm o dead says' ord L) := St.rot (A := [_, _, _, _]) (B := [_, _, _]) hS10
        refine ⟨_, rfl, ⟨(hS10.blk 0 rfl).cell rfl, (hS10.blk 2 rfl).cell rfl, (hS10.blk 0 rfl).cell rfl, trivial⟩, rfl, says', hsy', ?_, hS10⟩
        rw [hunf, show (!cWrite cl) = true from h1]; rfl
      · rw [hunf, show (!cWrite cl) = false from h1]; rfl
      · rintro _ b73 w11 ⟨says', hsy', rfl, hS11⟩
        refine sel_of (fun h => ?_) (fun h => ?_)
        · have hE := hS11.over 1 rfl [.int .i64 (S : Int), .int .i64 last] rfl
          have hB1 := hS11.blk 2 rfl
          have hB2 := hE.blk 1 rfl
          exact ⟨_, hB1.cell rfl, _, hB1.cell rfl, (hS11.blk 1 rfl).can (by decide), _, hB2.cell rfl, _, hB2.cell rfl, says', _, _, false, rfl, stp_fit hlate h, hsy', hE.tail.tail.tail⟩
        · refine ⟨by omega, _, (hS11.blk 2 rfl).cell rfl, (hS11.blk 2 rfl).can (by simp), ?_⟩
          rw [or_bit S k hSb (by omega)]
          have hS13 := hS11.drew.set 2 rfl 0 [.int .i64 ((S ||| 2 ^ k : Nat) : Int)]
          rw [putC] at hS13
          generalize setCs w11.drew b1 0 [.int .i64 ((S ||| 2 ^ k : Nat) : Int)] = w13 at *
          obtain ⟨zz, hzz⟩ : ∃ zz : Int, zz = if (cWrite cl && !cFailed cl) = true then (k : Int) else last := ⟨_, rfl⟩
          refine ⟨fun w' => St [] w0 w' (Chunk.blk b3 (calV cl vc).toArray 39 :: Chunk.blk b2 #[.int .i64 0, .int .i64 0] 96 :: Chunk.blk b1 #[.int .i64 ((S ||| 2 ^ k : Nat) : Int), .int .i64 zz] 96 :: Sch a0 v x dm sm o dead says' ord L), ⟨_, (hS13.blk 0 rfl).cell rfl, sel_of (fun h2 => ⟨_, (hS13.blk 0 rfl).cell rfl, sel_of (fun h3 => ⟨(hS13.blk 2 rfl).can (by simp), rfl, ?_⟩) (fun h3 => ⟨rfl, ?_⟩)⟩) (fun h2 => ⟨rfl, ?_⟩)⟩, ?_⟩
          · have hz : zz = (k : Int) := by rw [hzz, show cWrite cl = true from h2, show (!cFailed cl) = true from h3]; rfl
            have hS14 := hS13.set 2 rfl 1 [.int .i64 (k : Int)]
            rw [putD, ← hz] at hS14
            rw [← hz]
            exact hS14
          · have hz : zz = last := by rw [hzz, show (!cFailed cl) = false from h3, Bool.and_false]; rfl
            rw [hz]; exact hS13
          · have hz : zz = last := by rw [hzz, show cWrite cl = false from h2]; rfl
            rw [hz]; exact hS13
          · intro _ w15 hS15
            have hE := hS15.over 1 rfl [.int .i64 ((S ||| 2 ^ k : Nat) : Int), .int .i64 zz] rfl
            have hB1 := hS15.blk 2 rfl
            have hB2 := hE.blk 1 rfl
            exact ⟨_, hB1.cell rfl, _, hB1.cell rfl, (hS15.blk 1 rfl).can (by decide), _, hB2.cell rfl, _, hB2.cell rfl, says', _, _, true, rfl, hsome _ _ h rfl hzz, hsy', hE.tail.tail.tail⟩
  · rintro e w' ⟨v, rfl, s, z0, z1, ok, rfl, h⟩; exact ⟨s, z0, z1, ok, rfl, h⟩
end JG
end Go.Proofs.Ytddbebhklmaeoaa
