/- Calls copied, and held against one another. -/
import Derived.Test.YtddbebhklmaeoaaM16
import Derived.Test.YtddbebhklmaeoaaM7
import Derived.Orders
set_option linter.unusedVariables false
set_option linter.unusedSimpArgs false
set_option maxRecDepth 10000
namespace Go.Proofs.Ytddbebhklmaeoaa
open Go Go.Proofs.Ytddbebhklmaeoaa.Vc
namespace JG
open Vc.PG JD
abbrev CalD := Den calT
abbrev cd : CalD := (0, 0, false, false, false, ([], [], [], [], [], [], [], [], [], [], [], ()), (ByteArray.empty, ByteArray.empty, ByteArray.empty, ()), ())
abbrev cBegan (c : CalD) : Int := c.1
abbrev cEnded (c : CalD) : Int := c.2.1
abbrev cWrite (c : CalD) : Bool := c.2.2.1
abbrev cFailed (c : CalD) : Bool := c.2.2.2.1
abbrev cAllowed (c : CalD) : Bool := c.2.2.2.2.1
abbrev cPol (c : CalD) : PolD := c.2.2.2.2.2.1
abbrev cTri (c : CalD) : TriD := c.2.2.2.2.2.2.1
theorem RdL.call {w : World} {x : Sl} {l : List CalD} (h : RdL calT w x l) (hp : 0 < x.2.1) : ∃ b o, x.1 = some ⟨b, o, none⟩ ∧ ∀ q, q < x.2.1 → ∃ v : PV, InP w v (cPol (l.getD q cd)) ∧ (Lit.int .i64 (cBegan (l.getD q cd))).wf = true ∧ (Lit.int .i64 (cEnded (l.getD q cd))).wf = true ∧ ∀ j y, (calV (l.getD q cd) v)[j]? = some y → w.cell? ⟨b, o + q * 19 + j, none⟩ = some y := by
  obtain ⟨b, o, h1, h2⟩ := h.2.2 hp
  refine ⟨b, o, h1, fun q hq => ?_⟩
  obtain ⟨es, h3, h4⟩ := h2 q hq
  obtain ⟨v, rfl, h5, h6, h7⟩ := rd_call.1 h3
  exact ⟨v, h5, h6, h7, h4⟩
/-- Calls no larger than what may be handed in. -/
structure SmallC (l : List CalD) : Prop where
  n : l.length ≤ 1100000
  p : ∀ c ∈ l, SmallP (cPol c)
def CRows (w : World) (rows : List (List Value)) (l : List CalD) : Prop := rows.length = l.length ∧ ∀ q, q < l.length → Rd w calT (rows.getD q []) (l.getD q cd)
theorem info39 : ∃ i z, Try.prog.info? 39 = some i ∧ i.zero = some z ∧ z.cells.size = 19 ∧ i.size = 19 ∧ i.bytes ≤ 1000 := ⟨Try.prog.types[39]!, ((Try.prog.types[39]!).zero).get!, by kernel_rfl, by kernel_rfl, by kernel_rfl, by kernel_rfl, of_decide_eq_true (by kernel_rfl)⟩
theorem under29 : Try.prog.underlying 29 = some (.slice 39) := by kernel_rfl
theorem calV_one (c : CalD) (v : PV) : ∀ x ∈ calV c v, x.oneCell' = true := by
  intro x hx
  simp only [calV, List.mem_cons, List.not_mem_nil, or_false] at hx
  rcases hx with rfl | rfl | rfl | rfl | rfl | rfl | rfl | rfl | rfl | rfl | rfl | rfl | rfl | rfl | rfl | rfl | rfl | rfl | rfl <;> rfl
theorem put_cal (c : CalD) (v u : PV) : Vc.putA (calV c v).toArray 5 u.l = (calV c u).toArray := by kernel_rfl
/-- A call more behind owned ones. -/
theorem appCal {S : List Nat} {w0 w : World} {L : List Chunk} (h : St S w0 w L) (i : Nat) {A : Option Addr} {n c : Nat} {rows : List (List Value)} (hi : L[i]? = some (Chunk.sl 39 19 (.slice A n c) rows)) (cl : CalD) (v : PV) (hl : rows.length ≤ 30000000) :
    ∃ A' n' c' w', (Builtin.append_ #[29, 29] 29 #[.slice A n c, .slice (some ⟨w.heap.size, 0, none⟩) 1 1]).run Try.prog (World.alloc w (.cells (calV cl v).toArray 39)) = .ok (.slice A' n' c') w' ∧ St S w0 w' (L.set i (Chunk.sl 39 19 (.slice A' n' c') (rows ++ [calV cl v]))) := by
  obtain ⟨ti, z, i1, i2, i3, i4, i5⟩ := info39
  have h2 := h.alloc (calV cl v).toArray 39
  obtain ⟨g', cap', w', h3, h4⟩ := h2.append (i + 1) under29 i1 i2 i4 i3 (by decide) (by simpa using hi) (r := calV cl v) (ty := 29) (h2.blk 0 rfl) rfl rfl (calV_one cl v)
    (by have := Nat.mul_le_mul (show rows.length + 1 ≤ 30000001 by omega) i5; omega) (by simp [maxLen]; omega)
  exact ⟨_, _, _, w', h3, h4.tail⟩
theorem CRows.snoc {w : World} {rows : List (List Value)} {l : List CalD} {c : CalD} {r : List Value} (h : CRows w rows l) (hr : Rd w calT r c) : CRows w (rows ++ [r]) (l ++ [c]) := by
  have hrl := h.1
  refine ⟨by simp [hrl], fun q hq => ?_⟩
  rw [List.length_append, List.length_singleton] at hq
  rcases Nat.lt_or_ge q l.length with hq2 | hq2
  · rw [List.getD_eq_getElem?_getD, List.getElem?_append_left (by omega), List.getD_eq_getElem?_getD, List.getElem?_append_left hq2, ← List.getD_eq_getElem?_getD, ← List.getD_eq_getElem?_getD]
    exact h.2 q hq2
  · have : q = l.length := by omega
    subst this
    rw [List.getD_eq_getElem?_getD, List.getElem?_append_right (by omega), List.getD_eq_getElem?_getD, List.getElem?_append_right (Nat.le_refl _), hrl, Nat.sub_self]
    exact hr
theorem twinR {w : World} {x : Sl} {l : List CalD} (hx : RdL calT w x l) (hb : SmallC l) : Calls Try.prog 9 #[x.v] w fun e w' => ∃ (z : Sl) (rows : List (List Value)), e = .returned z.v ∧ St [] w w' [Chunk.sl 39 19 z.v rows, Chunk.keep fun w => CRows w rows l] := by
  refine Calls.mono (f9.calls (R := fun e w' => ∃ (z : Sl) (rows : List (List Value)), e = z.v ∧ St [] w w' [Chunk.sl 39 19 z.v rows, Chunk.keep fun w => CRows w rows l]) ?_) ?_
  · dsimp only [f9.VC]
    have hl : x.2.1 = l.length := hx.1
    have hbn := hb.n
    have h0 := St.new ((St.start w)) (c := Chunk.keep (fun w => CRows w [] (l.take 0))) (F := []) (Fr.refl [] _) ⟨fun _ _ _ _ => ⟨rfl, fun q hq => by simp at hq⟩, by simp⟩ (by simp)
    refine ⟨fun A n c i w' m => ∃ (k : Nat) (rows : List (List Value)), i = (k : Int) ∧ k + m = x.2.1 ∧ St [] w w' [Chunk.sl 39 19 (.slice A n c) rows, Chunk.keep (fun w => CRows w rows (l.take k))],
      ⟨x.2.1, 0, [], rfl, by omega, h0.nil 39 19⟩, ?_⟩
    rintro d A n c i w1 m ⟨k, rows, rfl, hk, hS⟩
    refine sel_of (fun hd => ?_) (fun hd => ?_)
    · have hi : k < x.2.1 := by have := of_decide_eq_true hd; omega
      obtain ⟨bb, oo, hA, hc⟩ := RdL.call (hx.fr hS.frame) (by omega)
      obtain ⟨v, hv, hw1, hw2, hc⟩ := hc k hi
      have htk : l.take (k + 1) = l.take k ++ [l.getD k cd] := by
        rw [List.take_add_one, List.getD_eq_getElem?_getD, List.getElem?_eq_getElem (show k < l.length by omega)]; rfl
      have hmem : l.getD k cd ∈ l := (mem_getD cd _ _).2 ⟨k, by omega, rfl⟩
      have hsp := hb.p _ hmem
      have hrl : rows.length = k := by
        have := (hS.says 1 rfl).1
        rw [this, List.length_take]; omega
      generalize l.getD k cd = cl at *
      have hS2 := hS.alloc #[.int .i64 0, .int .i64 0, .bool false, .bool false, .bool false, .slice none 0 0, .slice none 0 0, .slice none 0 0, .slice none 0 0, .slice none 0 0, .slice none 0 0, .slice none 0 0, .slice none 0 0, .slice none 0 0, .slice none 0 0, .slice none 0 0, .string ⟨#[]⟩, .string ⟨#[]⟩, .string ⟨#[]⟩] 39
      have hS3 := hS2.over 0 rfl (calV cl v) rfl
      have hv3 := hv.fr ((Fr.refl [] w1).alloc (cs := #[.int .i64 0, .int .i64 0, .bool false, .bool false, .bool false, .slice none 0 0, .slice none 0 0, .slice none 0 0, .slice none 0 0, .slice none 0 0, .slice none 0 0, .slice none 0 0, .slice none 0 0, .slice none 0 0, .slice none 0 0, .slice none 0 0, .string ⟨#[]⟩, .string ⟨#[]⟩, .string ⟨#[]⟩]) (T := 39) |>.set (g := w1.heap.size) (o := 0) (vs := calV cl v) (.inr (Nat.le_refl _)))
      refine ⟨by omega, by omega, needPtr_of hA ⟨_, hc 0 _ rfl, _, hc 1 _ rfl, _, hc 2 _ rfl, _, hc 3 _ rfl, _, hc 4 _ rfl, _, _, _, hc 5 _ rfl, _, _, _, hc 6 _ rfl, _, _, _, hc 7 _ rfl, _, _, _, hc 8 _ rfl, _, _, _, hc 9 _ rfl, _, _, _, hc 10 _ rfl, _, _, _, hc 11 _ rfl, _, _, _, hc 12 _ rfl, _, _, _, hc 13 _ rfl, _, _, _, hc 14 _ rfl, _, _, _, hc 15 _ rfl, _, hc 16 _ rfl, _, hc 17 _ rfl, _, hc 18 _ rfl, (hS2.blk 0 rfl).can (by decide), ?_⟩⟩
      generalize World.alloc w1 (.cells #[.int .i64 0, .int .i64 0, .bool false, .bool false, .bool false, .slice none 0 0, .slice none 0 0, .slice none 0 0, .slice none 0 0, .slice none 0 0, .slice none 0 0, .slice none 0 0, .slice none 0 0, .slice none 0 0, .slice none 0 0, .slice none 0 0, .string ⟨#[]⟩, .string ⟨#[]⟩, .string ⟨#[]⟩] 39) = w2 at *
      generalize w1.heap.size = b2 at *
      change St [] w (setCs w2 b2 0 [.int .i64 cl.1, .int .i64 cl.2.1, .bool cl.2.2.1, .bool cl.2.2.2.1, .bool cl.2.2.2.2.1, .slice v.a.1 v.a.2.1 v.a.2.2, .slice v.s.1 v.s.2.1 v.s.2.2, .slice v.r.1 v.r.2.1 v.r.2.2, .slice v.o.1 v.o.2.1 v.o.2.2, .slice v.g.1 v.g.2.1 v.g.2.2, .slice v.m.1 v.m.2.1 v.m.2.2, .slice v.i.1 v.i.2.1 v.i.2.2, .slice v.q.1 v.q.2.1 v.q.2.2, .slice v.t.1 v.t.2.1 v.t.2.2, .slice v.u.1 v.u.2.1 v.u.2.2, .slice v.e.1 v.e.2.1 v.e.2.2, .string cl.2.2.2.2.2.2.1.1, .string cl.2.2.2.2.2.2.1.2.1, .string cl.2.2.2.2.2.2.1.2.2.1]) _ at hS3
      change InP (setCs w2 b2 0 [.int .i64 cl.1, .int .i64 cl.2.1, .bool cl.2.2.1, .bool cl.2.2.2.1, .bool cl.2.2.2.2.1, .slice v.a.1 v.a.2.1 v.a.2.2, .slice v.s.1 v.s.2.1 v.s.2.2, .slice v.r.1 v.r.2.1 v.r.2.2, .slice v.o.1 v.o.2.1 v.o.2.2, .slice v.g.1 v.g.2.1 v.g.2.2, .slice v.m.1 v.m.2.1 v.m.2.2, .slice v.i.1 v.i.2.1 v.i.2.2, .slice v.q.1 v.q.2.1 v.q.2.2, .slice v.t.1 v.t.2.1 v.t.2.2, .slice v.u.1 v.u.2.1 v.u.2.2, .slice v.e.1 v.e.2.1 v.e.2.2, .string cl.2.2.2.2.2.2.1.1, .string cl.2.2.2.2.2.2.1.2.1, .string cl.2.2.2.2.2.2.1.2.2.1]) v _ at hv3
      generalize setCs w2 b2 0 [.int .i64 cl.1, .int .i64 cl.2.1, .bool cl.2.2.1, .bool cl.2.2.2.1, .bool cl.2.2.2.2.1, .slice v.a.1 v.a.2.1 v.a.2.2, .slice v.s.1 v.s.2.1 v.s.2.2, .slice v.r.1 v.r.2.1 v.r.2.2, .slice v.o.1 v.o.2.1 v.o.2.2, .slice v.g.1 v.g.2.1 v.g.2.2, .slice v.m.1 v.m.2.1 v.m.2.2, .slice v.i.1 v.i.2.1 v.i.2.2, .slice v.q.1 v.q.2.1 v.q.2.2, .slice v.t.1 v.t.2.1 v.t.2.2, .slice v.u.1 v.u.2.1 v.u.2.2, .slice v.e.1 v.e.2.1 v.e.2.2, .string cl.2.2.2.2.2.2.1.1, .string cl.2.2.2.2.2.2.1.2.1, .string cl.2.2.2.2.2.2.1.2.2.1] = w3 at *
      have hB := hS3.blk 0 rfl
      refine ⟨_, _, _, hB.cell rfl, _, _, _, hB.cell rfl, _, _, _, hB.cell rfl, _, _, _, hB.cell rfl, _, _, _, hB.cell rfl, _, _, _, hB.cell rfl, _, _, _, hB.cell rfl, _, _, _, hB.cell rfl, _, _, _, hB.cell rfl, _, _, _, hB.cell rfl, _, _, _, hB.cell rfl, Calls.mono (copyR hv3 hsp) ?_⟩
      rintro _ w4 ⟨u, rfl, hf4⟩
      have hS4 := hS3.gone hf4
      have hS5 := hS4.set 1 rfl 5 u.l
      rw [put_cal] at hS5
      refine ⟨_, _, _, _, _, _, _, _, _, _, _, _, _, _, _, _, _, _, _, _, _, _, _, _, _, _, _, _, _, _, _, _, _, rfl, (hS4.blk 1 rfl).can (by simp), ?_⟩
      change St [] w (setCs w4 b2 5 [.slice u.a.1 u.a.2.1 u.a.2.2, .slice u.s.1 u.s.2.1 u.s.2.2, .slice u.r.1 u.r.2.1 u.r.2.2, .slice u.o.1 u.o.2.1 u.o.2.2, .slice u.g.1 u.g.2.1 u.g.2.2, .slice u.m.1 u.m.2.1 u.m.2.2, .slice u.i.1 u.i.2.1 u.i.2.2, .slice u.q.1 u.q.2.1 u.q.2.2, .slice u.t.1 u.t.2.1 u.t.2.2, .slice u.u.1 u.u.2.1 u.u.2.2, .slice u.e.1 u.e.2.1 u.e.2.2]) _ at hS5
      generalize setCs w4 b2 5 [.slice u.a.1 u.a.2.1 u.a.2.2, .slice u.s.1 u.s.2.1 u.s.2.2, .slice u.r.1 u.r.2.1 u.r.2.2, .slice u.o.1 u.o.2.1 u.o.2.2, .slice u.g.1 u.g.2.1 u.g.2.2, .slice u.m.1 u.m.2.1 u.m.2.2, .slice u.i.1 u.i.2.1 u.i.2.2, .slice u.q.1 u.q.2.1 u.q.2.2, .slice u.t.1 u.t.2.1 u.t.2.2, .slice u.u.1 u.u.2.1 u.u.2.2, .slice u.e.1 u.e.2.1 u.e.2.2] = w5 at *
      have hB5 := hS5.blk 1 rfl
      obtain ⟨A', n', c', w7, hrun, hS7⟩ := appCal hS5 2 rfl cl u (by omega)
      have hS8 := St.both (hS7.sel [3, 0, 2] (by decide) [Chunk.keep (fun w => CRows w rows (l.take k)), kP u (cPol cl), Chunk.sl 39 19 (.slice A' n' c') (rows ++ [calV cl u])] rfl)
      have hS9 := hS8.keep 0 rfl (fun w => CRows w (rows ++ [calV cl u]) (l.take (k + 1))) (fun F w' hw => by
        obtain ⟨h1, h2⟩ := Chunk.keep_says hw
        rw [htk]
        exact h1.snoc (rd_call.2 ⟨u, rfl, h2, hw1, hw2⟩))
      rw [inc k x.2.1 (by omega) (by omega)]
      exact ⟨_, hB5.cell rfl, _, hB5.cell rfl, _, hB5.cell rfl, _, hB5.cell rfl, _, hB5.cell rfl, _, _, _, hB5.cell rfl, _, _, _, hB5.cell rfl, _, _, _, hB5.cell rfl, _, _, _, hB5.cell rfl, _, _, _, hB5.cell rfl, _, _, _, hB5.cell rfl, _, _, _, hB5.cell rfl, _, _, _, hB5.cell rfl, _, _, _, hB5.cell rfl, _, _, _, hB5.cell rfl, _, _, _, hB5.cell rfl, _, hB5.cell rfl, _, hB5.cell rfl, _, hB5.cell rfl, _, _, _, w7, hrun, rfl, m - 1, by omega, k + 1, _, rfl, by omega, hS9.perm (List.Perm.swap _ _ _)⟩
    · have hi : k = x.2.1 := by have := of_decide_eq_false hd; omega
      rw [List.take_of_length_le (by omega)] at hS
      exact ⟨(A, n, c), rows, rfl, hS⟩
  · rintro e w' ⟨v, rfl, z, rows, rfl, h⟩; exact ⟨z, rows, rfl, h⟩
/-- Copied calls are read. -/
theorem crows_read {w : World} {F : List Nat} {z : Sl} {rows : List (List Value)} {l : List CalD} (h : (Chunk.sl 39 19 z.v rows).holds w F) (hr : CRows w rows l) : RdL calT w z l := sl_reads (e := calT) 39 h hr.1 hr.2
end JG
end Go.Proofs.Ytddbebhklmaeoaa
/- Policies and calls that are handed in. -/
set_option linter.unusedVariables false
namespace Go.Proofs.Ytddbebhklmaeoaa.Vc
open Go Go.Deep Go.ChangeShapes Go.WideShapes Go.Proofs.Ytddbebhklmaeoaa.JG Vc.PG JD
theorem inPol {w : World} {cs : List Value} {p : Den polT} {F : List Nat} (h : In w polT cs p F) : ∃ v : PV, cs = v.cells.toList ∧ InP w v p := rd_pol.1 h.rd
theorem inList {w : World} {e : Ty} {A : Option Addr} {n c : Nat} {l : List (Den e)} {F : List Nat} (h : In w (.sl e) [.slice A n c] l F) : RdL e w (A, n, c) l := by
  obtain ⟨x, hx, h1⟩ := rd_sl.1 h.rd
  simp only [List.cons.injEq, Value.slice.injEq, and_true] at hx
  obtain ⟨rfl, rfl, rfl⟩ := hx
  exact h1
theorem wt_le_pol {l : List (Den ruleT)} {r : Den ruleT} {k : Nat} (h : r ∈ l) (hk : wt (.sl ruleT) l ≤ k) : r.2.2.2.1.length ≤ k := by
  have h1 := wt_mem (e := ruleT) h
  have h2 := wt_len (e := .str) r.2.2.2.1
  have h3 : wt ruleT r = wt .bool r.1 + (wt .str r.2.1 + (wt .str r.2.2.1 + (wt (.sl .str) r.2.2.2.1 + (wt (.int .i8) r.2.2.2.2.1 + (wt (.flt .f64) r.2.2.2.2.2.1 + 0))))) := rfl
  omega
theorem smallPol {p : Den polT} {k : Nat} (hk : wt polT p ≤ k) (h1 : k ≤ 1100000) : SmallP p := by
  obtain ⟨a, s, r, o, g, m, i, q, t, u, e, _⟩ := p
  have hk : wt (.sl .str) a + (wt (.sl subjT) s + (wt (.sl .str) r + (wt (.sl .str) o + (wt (.sl .str) g + (wt (.sl pairT) m + (wt (.sl pairT) i + (wt (.sl pairT) q + (wt (.sl pairT) t + (wt (.sl ruleT) u + (wt (.sl triT) e + 0)))))))))) ≤ k := hk
  have e1 := wt_len (e := .str) a
  have e2 := wt_len (e := subjT) s
  have e3 := wt_len (e := .str) r
  have e4 := wt_len (e := .str) o
  have e5 := wt_len (e := .str) g
  have e6 := wt_len (e := pairT) m
  have e7 := wt_len (e := pairT) i
  have e8 := wt_len (e := pairT) q
  have e9 := wt_len (e := pairT) t
  have e10 := wt_len (e := ruleT) u
  have e11 := wt_len (e := triT) e
  exact ⟨show a.length ≤ _ by omega, show s.length ≤ _ by omega, show r.length ≤ _ by omega, show o.length ≤ _ by omega, show g.length ≤ _ by omega, show m.length ≤ _ by omega, show i.length ≤ _ by omega, show q.length ≤ _ by omega, show t.length ≤ _ by omega, show u.length ≤ _ by omega, show e.length ≤ _ by omega,
    fun x hx => Nat.le_trans (wt_le_pol hx (show wt (.sl ruleT) u ≤ k by omega)) h1⟩
theorem smallCalls {l : List CalD} {k : Nat} (hk : wt (.sl calT) l ≤ k) (h1 : k ≤ 1100000) : SmallC l := by
  have h2 := wt_len (e := calT) l
  refine ⟨by omega, fun c hc => ?_⟩
  have h3 := wt_mem (e := calT) hc
  have h4 : wt calT c = wt (.int .i64) c.1 + (wt (.int .i64) c.2.1 + (wt .bool c.2.2.1 + (wt .bool c.2.2.2.1 + (wt .bool c.2.2.2.2.1 + (wt polT c.2.2.2.2.2.1 + (wt triT c.2.2.2.2.2.2.1 + 0)))))) := rfl
  exact smallPol (k := k) (by show wt polT c.2.2.2.2.2.1 ≤ k; omega) h1
end Go.Proofs.Ytddbebhklmaeoaa.Vc
/- The search for an order of calls (plain law): states, steps, the first path; the table says the same. -/
set_option linter.unusedVariables false
namespace Go.Proofs.Ytddbebhklmaeoaa.JL
/-- What is asked of the calls: how many; when each began and ended; is it a write that counts; is it a check, and does the policy of a write (-1: the first) answer it as told. -/
structure Hist where
  n : Nat
  began : Nat → Int
  ended : Nat → Int
  write : Nat → Bool
  counts : Nat → Bool
  fits : Int → Nat → Bool
structure Hist.Ok (H : Hist) : Prop where
  began : ∀ i, i < H.n → 0 ≤ H.began i
  ended : ∀ i, i < H.n → H.ended i = -1 ∨ H.began i ≤ H.ended i
abbrev State := Nat × Int
section
variable (H : Hist)
def whole (s : State) : Bool := (List.range H.n).all fun i => !(decide (0 ≤ H.ended i) && !s.1.testBit i)
def late (s : State) (k : Nat) : Bool := (List.range H.n).any fun i => !s.1.testBit i && decide (0 ≤ H.ended i) && decide (H.ended i < H.began k)
def step (s : State) (k : Nat) : Option State :=
  if s.1.testBit k then none else if late H s k then none else if !H.write k && !H.fits s.2 k then none
  else some (s.1 ||| 2 ^ k, if H.counts k then (k : Int) else s.2)
/-- The first of a list that leads to an answer. -/
def firstOf {α β : Type} (f : α → Option β) : List α → Option β
  | [] => none
  | a :: l => match f a with | some b => some b | none => firstOf f l
def find : Nat → State → Option (List Nat)
  | 0, s => if whole H s then some [] else none
  | m + 1, s => if whole H s then some [] else firstOf (fun k => match step H s k with | some z => (find m z).map (k :: ·) | none => none) (List.range H.n)
/-- How many calls are not done yet. -/
def left (S : Nat) : Nat := (List.range H.n).countP fun i => !S.testBit i
def path (s : State) : Option (List Nat) := find H (left H s.1) s
end
variable {H : Hist}
theorem testBit_or (S k i : Nat) : (S ||| 2 ^ k).testBit i = (S.testBit i || decide (k = i)) := by
  rw [Nat.testBit_or, Nat.testBit_two_pow]
theorem step_some {s z : State} {k : Nat} (h : step H s k = some z) : s.1.testBit k = false ∧ late H s k = false ∧ (H.write k = true ∨ H.fits s.2 k = true) ∧ z.1 = s.1 ||| 2 ^ k ∧ z.2 = if H.counts k then (k : Int) else s.2 := by
  unfold step at h
  split at h
  · cases h
  · split at h
    · cases h
    · split at h
      · cases h
      · rename_i h1 h2 h3
        injection h with h
        subst h
        refine ⟨by simpa using h1, by simpa using h2, ?_, rfl, rfl⟩
        cases hw : H.write k <;> simp_all
theorem left_step {s z : State} {k : Nat} (hk : k < H.n) (h : step H s k = some z) : left H z.1 + 1 = left H s.1 := by
  obtain ⟨h1, _, _, h2, _⟩ := step_some h
  unfold left
  rw [h2]
  have key : ∀ m, (List.range m).countP (fun i => !(s.1 ||| 2 ^ k).testBit i) + (if k < m then 1 else 0) = (List.range m).countP (fun i => !s.1.testBit i) := by
    intro m
    induction m with
    | zero => simp
    | succ m ih =>
      rw [List.range_succ, List.countP_append, List.countP_append]
      simp only [List.countP_singleton, testBit_or]
      simp only [testBit_or] at ih
      rcases Nat.lt_trichotomy k m with h | h | h
      · rw [if_pos h] at ih
        rw [if_pos (show k < m + 1 by omega), decide_eq_false (show ¬ k = m by omega), Bool.or_false]
        omega
      · subst h
        rw [if_neg (show ¬ k < k by omega)] at ih
        rw [if_pos (show k < k + 1 by omega), decide_eq_true (show k = k from rfl), Bool.or_true, h1]
        simp only [Bool.not_false, Bool.not_true, Bool.false_eq_true, if_true, if_false]
        omega
      · rw [if_neg (show ¬ k < m by omega)] at ih
        rw [if_neg (show ¬ k < m + 1 by omega), decide_eq_false (show ¬ k = m by omega), Bool.or_false]
        omega
  have := key H.n
  rw [if_pos hk] at this
  exact this
theorem whole_of_left {s : State} (h : left H s.1 = 0) : whole H s = true := by
  unfold whole
  unfold left at h
  rw [List.all_eq_true]
  intro i hi
  rw [List.countP_eq_zero] at h
  have := h i hi
  simp only [Bool.not_eq_true', Bool.not_eq_false] at this
  cases hb : s.1.testBit i <;> simp_all
theorem firstOf_none {α β : Type} {f : α → Option β} : ∀ {l : List α}, firstOf f l = none ↔ ∀ a ∈ l, f a = none
  | [] => by simp [firstOf]
  | a :: l => by
    rw [firstOf]
    cases h : f a with
    | some b => simp [h]
    | none => simp only [firstOf_none (l := l), List.mem_cons, forall_eq_or_imp, h, true_and]
theorem firstOf_append {α β : Type} {f : α → Option β} : ∀ {l r : List α}, (∀ a ∈ l, f a = none) → firstOf f (l ++ r) = firstOf f r
  | [], r, _ => rfl
  | a :: l, r, h => by
    rw [List.cons_append, firstOf, h a (by simp)]
    exact firstOf_append fun b hb => h b (by simp [hb])
/-- One step of the search, whatever is left. -/
theorem path_eq (s : State) : path H s = if whole H s then some [] else firstOf (fun k => match step H s k with | some z => (path H z).map (k :: ·) | none => none) (List.range H.n) := by
  unfold path
  cases hl : left H s.1 with
  | zero => rw [find, if_pos (whole_of_left hl), if_pos (whole_of_left hl)]
  | succ m =>
    rw [find]
    split
    · rfl
    · have : ∀ l : List Nat, (∀ k ∈ l, k < H.n) → firstOf (fun k => match step H s k with | some z => (find H m z).map (k :: ·) | none => none) l = firstOf (fun k => match step H s k with | some z => (find H (left H z.1) z).map (k :: ·) | none => none) l := by
        intro l
        induction l with
        | nil => intro _; rfl
        | cons k l ih =>
          intro hk
          rw [firstOf, firstOf, ih (fun a ha => hk a (by simp [ha]))]
          cases hs : step H s k with
          | none => rfl
          | some z =>
            have := left_step (hk k (by simp)) hs
            dsimp only
            rw [show m = left H z.1 by omega]
      exact this _ (fun k hk => List.mem_range.1 hk)
theorem path_whole {s : State} (h : whole H s = true) : path H s = some [] := by rw [path_eq, if_pos h]
theorem path_none {s : State} (h : whole H s = false) (hn : ∀ k, k < H.n → ∀ z, step H s k = some z → path H z = none) : path H s = none := by
  rw [path_eq, if_neg (by simp [h])]
  refine firstOf_none.2 fun k hk => ?_
  cases hs : step H s k with
  | none => rfl
  | some z => dsimp only; rw [hn k (List.mem_range.1 hk) z hs]; rfl
theorem path_first {s z : State} {k : Nat} {l : List Nat} (h : whole H s = false) (hk : k < H.n) (hn : ∀ i, i < k → ∀ z, step H s i = some z → path H z = none) (hs : step H s k = some z) (hz : path H z = some l) : path H s = some (k :: l) := by
  rw [path_eq, if_neg (by simp [h])]
  have e : List.range H.n = List.range k ++ (k :: List.range' (k + 1) (H.n - k - 1)) := by
    rw [List.range_eq_range', List.range_eq_range', ← List.range'_succ]
    have := List.range'_append (s := 0) (m := k) (n := H.n - k - 1 + 1) (step := 1)
    rw [Nat.one_mul, Nat.zero_add] at this
    rw [this]
    congr 1; omega
  rw [e, firstOf_append, firstOf]
  · rw [hs]; dsimp only; rw [hz]; rfl
  · intro i hi
    have hi := List.mem_range.1 hi
    cases hs' : step H s i with
    | none => rfl
    | some z' => dsimp only; rw [hn i hi z' hs']; rfl
end Go.Proofs.Ytddbebhklmaeoaa.JL
/- Orders of calls (plain law): when one is right, told in two ways. -/
set_option linter.unusedVariables false
namespace Go.Proofs.Ytddbebhklmaeoaa.JL
/-- The last write that counts, of an order. -/
def lastOf (H : Hist) (l : List Int) : Int := l.foldl (fun a k => if H.counts k.toNat then k else a) (-1)
theorem lastOf_snoc (H : Hist) (l : List Int) (k : Int) : lastOf H (l ++ [k]) = if H.counts k.toNat then k else lastOf H l := by
  simp [lastOf]
/-- Each call is one, is there once, and is answered rightly. -/
def Right (H : Hist) (l : List Int) : Prop := ∀ i, i < l.length → 0 ≤ l.getD i 0 ∧ l.getD i 0 < H.n ∧ l.getD i 0 ∉ l.take i ∧ (H.write (l.getD i 0).toNat = true ∨ H.fits (lastOf H (l.take i)) (l.getD i 0).toNat = true)
/-- No call comes behind one that began when it had ended. -/
def Timely (H : Hist) (l : List Int) : Prop := ∀ i, i < l.length → ∀ j, j ≤ i → ¬ (0 ≤ H.ended (l.getD i 0).toNat ∧ H.ended (l.getD i 0).toNat < H.began (l.getD j 0).toNat)
def Full (H : Hist) (l : List Int) : Prop := ∀ k, k < H.n → 0 ≤ H.ended k → (k : Int) ∈ l
def FollowsP (H : Hist) (l : List Int) : Prop := Right H l ∧ Timely H l ∧ Full H l
/-- The document's way: no call that is not there yet had ended. -/
def Awaits (H : Hist) (l : List Int) : Prop := ∀ i, i < l.length → ∀ m : Nat, m < H.n → (m : Int) ≠ l.getD i 0 → (m : Int) ∉ l.take i → ¬ (0 ≤ H.ended m ∧ H.ended m < H.began (l.getD i 0).toNat)
theorem mem_take {l : List Int} {i : Nat} {x : Int} : x ∈ l.take i ↔ ∃ j, j < i ∧ j < l.length ∧ l.getD j 0 = x := by
  rw [List.mem_iff_getElem]
  constructor
  · rintro ⟨j, hj, h⟩
    simp only [List.length_take] at hj
    refine ⟨j, by omega, by omega, ?_⟩
    rw [List.getElem_take] at h
    rw [List.getD_eq_getElem?_getD, List.getElem?_eq_getElem (show j < l.length by omega)]
    exact h
  · rintro ⟨j, h1, h2, h⟩
    refine ⟨j, by simp only [List.length_take]; omega, ?_⟩
    rw [List.getElem_take]
    rw [List.getD_eq_getElem?_getD, List.getElem?_eq_getElem h2] at h
    exact h
theorem mem_all {l : List Int} {x : Int} : x ∈ l ↔ ∃ j, j < l.length ∧ l.getD j 0 = x := by
  rw [← List.take_length (l := l), mem_take]
  simp only [List.take_length]
  constructor
  · rintro ⟨j, _, h⟩; exact ⟨j, h⟩
  · rintro ⟨j, h⟩; exact ⟨j, h.1, h⟩
theorem follows_iff {H : Hist} (hok : H.Ok) {l : List Int} (hr : Right H l) (hf : Full H l) : Awaits H l ↔ Timely H l := by
  constructor
  · intro ha i hi j hj ⟨h1, h2⟩
    obtain ⟨p1, p2, p3, _⟩ := hr i hi
    rcases Nat.lt_or_ge j i with hji | hji
    · refine ha j (by omega) (l.getD i 0).toNat (by omega) ?_ ?_ ⟨h1, h2⟩
      · rw [Int.toNat_of_nonneg p1]
        intro e
        exact p3 (mem_take.2 ⟨j, hji, by omega, e.symm⟩)
      · rw [Int.toNat_of_nonneg p1]
        intro e
        obtain ⟨q, q1, q2, q3⟩ := mem_take.1 e
        exact p3 (mem_take.2 ⟨q, by omega, q2, q3⟩)
    · have : j = i := by omega
      subst this
      have := hok.ended (l.getD j 0).toNat (by omega)
      omega
  · intro ht i hi m hm hne hnt ⟨h1, h2⟩
    obtain ⟨j, hj, e⟩ := mem_all.1 (hf m hm h1)
    have hij : i < j := by
      rcases Nat.lt_trichotomy i j with h | h | h
      · exact h
      · subst h; exact absurd e.symm hne
      · exact absurd (mem_take.2 ⟨j, h, hj, e⟩) hnt
    refine ht j hj i (by omega) ?_
    rw [e, Int.toNat_natCast]
    exact ⟨h1, h2⟩
theorem follows_ref {H : Hist} (hok : H.Ok) {l : List Int} : FollowsP H l ↔ Right H l ∧ Awaits H l ∧ Full H l :=
  ⟨fun ⟨a, b, c⟩ => ⟨a, (follows_iff hok a c).2 b, c⟩, fun ⟨a, b, c⟩ => ⟨a, (follows_iff hok a c).1 b, c⟩⟩
end Go.Proofs.Ytddbebhklmaeoaa.JL
/- What the search finds is a right order; where there is one it finds one, and none ahead of it (plain law). -/
set_option linter.unusedVariables false
namespace Go.Proofs.Ytddbebhklmaeoaa.JL
/-- A state is that behind an order. -/
def Reps (H : Hist) (s : State) (l : List Int) : Prop := (∀ i : Nat, s.1.testBit i = true ↔ (i : Int) ∈ l) ∧ s.2 = lastOf H l
theorem reps_nil (H : Hist) : Reps H (0, -1) [] := ⟨fun i => by simp, rfl⟩
theorem reps_step {H : Hist} {s z : State} {l : List Int} {k : Nat} (h : Reps H s l) (hs : step H s k = some z) : Reps H z (l ++ [(k : Int)]) := by
  obtain ⟨_, _, _, h1, h2⟩ := step_some hs
  refine ⟨fun i => ?_, ?_⟩
  · rw [h1, testBit_or, Bool.or_eq_true, h.1 i, decide_eq_true_iff, List.mem_append, List.mem_singleton]
    exact or_congr Iff.rfl ⟨fun e => by rw [e], fun e => by exact (Int.ofNat_inj.1 e).symm⟩
  · rw [h2, lastOf_snoc, Int.toNat_natCast, h.2]
theorem late_iff {H : Hist} {s : State} {l : List Int} (h : Reps H s l) {k : Nat} : late H s k = true ↔ ∃ m : Nat, m < H.n ∧ (m : Int) ∉ l ∧ 0 ≤ H.ended m ∧ H.ended m < H.began k := by
  unfold late
  rw [List.any_eq_true]
  constructor
  · rintro ⟨m, hm, hh⟩
    simp only [Bool.and_eq_true, Bool.not_eq_true', decide_eq_true_iff] at hh
    refine ⟨m, List.mem_range.1 hm, fun hc => ?_, hh.1.2, hh.2⟩
    rw [(h.1 m).2 hc] at hh
    exact absurd hh.1.1 (by decide)
  · rintro ⟨m, hm, h1, h2, h3⟩
    refine ⟨m, List.mem_range.2 hm, ?_⟩
    have : s.1.testBit m = false := by
      cases hb : s.1.testBit m with
      | false => rfl
      | true => exact absurd ((h.1 m).1 hb) h1
    simp [this, h2, h3]
theorem whole_iff {H : Hist} {s : State} {l : List Int} (h : Reps H s l) : whole H s = true ↔ Full H l := by
  unfold whole Full
  rw [List.all_eq_true]
  constructor
  · intro ha k hk he
    have := ha k (List.mem_range.2 hk)
    rw [decide_eq_true he] at this
    cases hb : s.1.testBit k with
    | true => exact (h.1 k).1 hb
    | false => rw [hb] at this; exact absurd this (by decide)
  · intro ha k hk
    by_cases he : 0 ≤ H.ended k
    · rw [(h.1 k).2 (ha k (List.mem_range.1 hk) he)]; simp
    · rw [decide_eq_false he]; rfl
/-- A step, told of the order. -/
theorem step_iff {H : Hist} (hok : H.Ok) {s : State} {l : List Int} (h : Reps H s l) {k : Nat} (hk : k < H.n) : (∃ z, step H s k = some z) ↔
    (k : Int) ∉ l ∧ (∀ m : Nat, m < H.n → m ≠ k → (m : Int) ∉ l → ¬ (0 ≤ H.ended m ∧ H.ended m < H.began k)) ∧ (H.write k = true ∨ H.fits (lastOf H l) k = true) := by
  constructor
  · rintro ⟨z, hz⟩
    obtain ⟨h1, h2, h3, _⟩ := step_some hz
    refine ⟨fun hc => ?_, fun m hm _ hn hh => ?_, by rw [← h.2]; exact h3⟩
    · rw [(h.1 k).2 hc] at h1; cases h1
    · rw [(late_iff h).2 ⟨m, hm, hn, hh⟩] at h2; cases h2
  · rintro ⟨h1, h2, h3⟩
    have e1 : s.1.testBit k = false := by
      cases hb : s.1.testBit k with
      | false => rfl
      | true => exact absurd ((h.1 k).1 hb) h1
    have e2 : late H s k = false := by
      cases hb : late H s k with
      | false => rfl
      | true =>
        obtain ⟨m, hm, hn, hh⟩ := (late_iff h).1 hb
        by_cases e : m = k
        · subst e
          have := hok.ended m hm
          omega
        · exact absurd hh (h2 m hm e hn)
    refine ⟨(s.1 ||| 2 ^ k, if H.counts k then (k : Int) else s.2), ?_⟩
    unfold step
    rw [if_neg (by rw [e1]; decide), if_neg (by rw [e2]; decide), if_neg]
    rw [h.2]
    rcases h3 with h3 | h3 <;> simp [h3]
theorem firstOf_some {α β : Type} {f : α → Option β} : ∀ {l : List α} {b : β}, firstOf f l = some b → ∃ a ∈ l, f a = some b
  | a :: l, b, h => by
    rw [firstOf] at h
    cases ha : f a with
    | some c => rw [ha] at h; injection h with h; subst h; exact ⟨a, by simp, ha⟩
    | none =>
      rw [ha] at h
      obtain ⟨c, hc, e⟩ := firstOf_some h
      exact ⟨c, by simp [hc], e⟩
def ints (l : List Nat) : List Int := l.map fun k : Nat => (k : Int)
/-- Each step of an order may be made. -/
def Goes (H : Hist) (l : List Int) : Prop := Right H l ∧ Awaits H l
theorem goes_snoc {H : Hist} (hok : H.Ok) {l : List Int} {s z : State} {k : Nat} (hk : k < H.n) (h : Reps H s l) (hg : Goes H l) (hs : step H s k = some z) : Goes H (l ++ [(k : Int)]) := by
  obtain ⟨h1, h2, h3⟩ := (step_iff hok h hk).1 ⟨z, hs⟩
  have key : ∀ i, i < (l ++ [(k : Int)]).length → (i < l.length ∧ (l ++ [(k : Int)]).getD i 0 = l.getD i 0 ∧ (l ++ [(k : Int)]).take i = l.take i) ∨ ((l ++ [(k : Int)]).getD i 0 = k ∧ (l ++ [(k : Int)]).take i = l) := by
    intro i hi
    rw [List.length_append, List.length_singleton] at hi
    rcases Nat.lt_or_ge i l.length with hl | hl
    · refine .inl ⟨hl, ?_, ?_⟩
      · rw [List.getD_eq_getElem?_getD, List.getElem?_append_left hl, List.getD_eq_getElem?_getD]
      · rw [List.take_append_of_le_length (by omega)]
    · have : i = l.length := by omega
      subst this
      refine .inr ⟨?_, ?_⟩
      · rw [List.getD_eq_getElem?_getD, List.getElem?_append_right (Nat.le_refl _)]; simp
      · rw [List.take_append_of_le_length (Nat.le_refl _), List.take_length]
  refine ⟨fun i hi => ?_, fun i hi m hm hne hnt => ?_⟩
  · rcases key i hi with ⟨a, b, c⟩ | ⟨b, c⟩
    · rw [b, c]; exact hg.1 i a
    · rw [b, c]
      refine ⟨by omega, by omega, h1, ?_⟩
      rw [Int.toNat_natCast]; exact h3
  · rcases key i hi with ⟨a, b, c⟩ | ⟨b, c⟩
    · rw [b] at hne ⊢; rw [c] at hnt; exact hg.2 i a m hm hne hnt
    · rw [b] at hne ⊢; rw [c] at hnt
      rw [Int.toNat_natCast]
      exact h2 m hm (by omega) hnt
/-- What is found goes on rightly. -/
theorem path_sound {H : Hist} (hok : H.Ok) : ∀ (f : Nat) {s : State} {l : List Int} {r : List Nat}, left H s.1 = f → Reps H s l → Goes H l → path H s = some r → Goes H (l ++ ints r) ∧ Full H (l ++ ints r) ∧ ∀ k ∈ r, k < H.n := by
  intro f
  induction f with
  | zero =>
    intro s l r hf hr hg hp
    have hw := whole_of_left hf
    rw [path_whole hw] at hp
    injection hp with hp
    subst hp
    simp only [ints, List.map_nil, List.append_nil]
    exact ⟨hg, (whole_iff hr).1 hw, by simp⟩
  | succ f ih =>
    intro s l r hf hr hg hp
    rw [path_eq] at hp
    split at hp
    · rename_i hw
      injection hp with hp
      subst hp
      simp only [ints, List.map_nil, List.append_nil]
      exact ⟨hg, (whole_iff hr).1 hw, by simp⟩
    · obtain ⟨k, hk, e⟩ := firstOf_some hp
      have hk := List.mem_range.1 hk
      cases hs : step H s k with
      | none => rw [hs] at e; cases e
      | some z =>
        rw [hs] at e
        simp only [Option.map_eq_some_iff] at e
        obtain ⟨r', hr', rfl⟩ := e
        have hl := left_step hk hs
        obtain ⟨q1, q2, q3⟩ := ih (by omega) (reps_step hr hs) (goes_snoc hok hk hr hg hs) hr'
        have e : l ++ [(k : Int)] ++ ints r' = l ++ ints (k :: r') := by simp [ints]
        rw [e] at q1 q2
        refine ⟨q1, q2, fun i hi => ?_⟩
        rcases List.mem_cons.1 hi with rfl | hi
        · exact hk
        · exact q3 i hi
/-- Does a list of numbers come ahead of another one? -/
def lessP : List Int → List Int → Bool
  | [], [] => false
  | [], _ :: _ => true
  | _ :: _, [] => false
  | a :: l, b :: r => if a = b then lessP l r else decide (a < b)
theorem path_complete {H : Hist} (hok : H.Ok) : ∀ (r : List Nat) {s : State} {l : List Int}, Reps H s l → Goes H (l ++ ints r) → Full H (l ++ ints r) → (∀ k ∈ r, k < H.n) → ∃ p, path H s = some p ∧ lessP (ints r) (ints p) = false
  | [], s, l, hr, hg, hf, _ => by
    simp only [ints, List.map_nil, List.append_nil] at hf
    exact ⟨[], path_whole ((whole_iff hr).2 hf), rfl⟩
  | k :: r, s, l, hr, hg, hf, hb => by
    by_cases hw : whole H s = true
    · exact ⟨[], path_whole hw, rfl⟩
    · have hw : whole H s = false := by simpa using hw
      have hk := hb k (by simp)
      have e : l ++ [(k : Int)] ++ ints r = l ++ ints (k :: r) := by simp [ints]
      obtain ⟨z, hz⟩ : ∃ z, step H s k = some z := by
        refine (step_iff hok hr hk).2 ?_
        have hi : l.length < (l ++ ints (k :: r)).length := by simp [ints]
        have e1 : (l ++ ints (k :: r)).getD l.length 0 = k := by
          rw [List.getD_eq_getElem?_getD, List.getElem?_append_right (Nat.le_refl _)]; simp [ints]
        have e2 : (l ++ ints (k :: r)).take l.length = l := by rw [List.take_append_of_le_length (Nat.le_refl _), List.take_length]
        obtain ⟨_, _, q1, q2⟩ := hg.1 l.length hi
        have q3 := hg.2 l.length hi
        rw [e1, e2] at q1 q2 q3
        rw [Int.toNat_natCast] at q2 q3
        exact ⟨q1, fun m hm hne hn => q3 m hm (by omega) hn, q2⟩
      obtain ⟨p, hp, hlt⟩ := path_complete hok r (reps_step hr hz) (by rw [e]; exact hg) (by rw [e]; exact hf) (fun i hi => hb i (by simp [hi]))
      by_cases hn : ∀ i, i < k → ∀ z, step H s i = some z → path H z = none
      · refine ⟨k :: p, path_first hw hk hn hz hp, ?_⟩
        simp only [ints, List.map_cons, lessP, if_true]
        exact hlt
      · -- the first one that leads on
        have key : ∀ m, m ≤ k → (∀ i, i < m → ∀ z, step H s i = some z → path H z = none) ∨ ∃ i z p, i < m ∧ (∀ j, j < i → ∀ z, step H s j = some z → path H z = none) ∧ step H s i = some z ∧ path H z = some p := by
          intro m
          induction m with
          | zero => intro _; exact .inl fun i hi => by omega
          | succ m ihm =>
            intro hm
            rcases ihm (by omega) with h | ⟨i, z, p, h1, h2⟩
            · cases hs : step H s m with
              | none =>
                refine .inl fun i hi z hz => ?_
                rcases Nat.lt_or_ge i m with h' | h'
                · exact h i h' z hz
                · have : i = m := by omega
                  subst this; rw [hs] at hz; cases hz
              | some z =>
                cases hp' : path H z with
                | none =>
                  refine .inl fun i hi z' hz' => ?_
                  rcases Nat.lt_or_ge i m with h' | h'
                  · exact h i h' z' hz'
                  · have : i = m := by omega
                    subst this; rw [hs] at hz'; injection hz' with hz'; subst hz'; exact hp'
                | some p => exact .inr ⟨m, z, p, by omega, h, hs, hp'⟩
            · exact .inr ⟨i, z, p, by omega, h2⟩
        rcases key k (Nat.le_refl _) with h | ⟨i, z', p', h1, h2, h3, h4⟩
        · exact absurd h hn
        · refine ⟨i :: p', path_first hw (by omega) h2 h3 h4, ?_⟩
          simp only [ints, List.map_cons, lessP]
          rw [if_neg (by omega), decide_eq_false (by omega)]
/-- The search from the start. -/
theorem found_right {H : Hist} (hok : H.Ok) {r : List Nat} (h : path H (0, -1) = some r) : FollowsP H (ints r) ∧ ∀ k ∈ r, k < H.n := by
  obtain ⟨h1, h2, h3⟩ := path_sound hok _ rfl (reps_nil H) ⟨fun i hi => by simp at hi, fun i hi => by simp at hi⟩ h
  simp only [List.nil_append] at h1 h2
  exact ⟨(follows_ref hok).2 ⟨h1.1, h1.2, h2⟩, h3⟩
theorem right_found {H : Hist} (hok : H.Ok) {r : List Nat} (h : FollowsP H (ints r)) (hb : ∀ k ∈ r, k < H.n) : ∃ p, path H (0, -1) = some p ∧ lessP (ints r) (ints p) = false := by
  obtain ⟨h1, h2, h3⟩ := (follows_ref hok).1 h
  exact path_complete hok r (reps_nil H) (by simpa using ⟨h1, h2⟩) (by simpa using h3) hb
end Go.Proofs.Ytddbebhklmaeoaa.JL
