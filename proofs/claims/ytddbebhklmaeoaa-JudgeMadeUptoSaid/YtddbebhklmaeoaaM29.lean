/- JudgeMade: calls that are made one by one, each answered as a register answers: the order in which they were made is a right one (plain law). -/
import Derived.Test.YtddbebhklmaeoaaM28
import Derived.Test.YtddbebhklmaeoaaM21
set_option linter.unusedVariables false
set_option linter.unusedSimpArgs false
set_option maxRecDepth 10000
namespace Go.Proofs.Ytddbebhklmaeoaa
open Go Go.Proofs.Ytddbebhklmaeoaa.Vc
namespace JG
open Vc.PG JD
open JL (ints)
/-- The policy behind the first k calls. -/
def curP (p : PolD) (l : List CalD) : Nat → PolD
  | 0 => p
  | k + 1 => if (cWrite (l.getD k cd) && !cFailed (l.getD k cd)) = true then cPol (l.getD k cd) else curP p l k
structure MadeC (p : PolD) (l : List CalD) (i : Nat) (c : CalD) : Prop where
  time : ∃ a b : Int, 0 ≤ a ∧ a < 40 ∧ 0 ≤ b ∧ b < 40 ∧ cBegan c = 100 + 10 * (i : Int) - a ∧ cEnded c = if b = 39 then -1 else 100 + 10 * (i : Int) + b
  write : cWrite c = cWrite (l.getD i cd)
  failed : cFailed c = cFailed (l.getD i cd)
  pol : cPol c = cPol (l.getD i cd)
  tri : cTri c = cTri (l.getD i cd)
  allowed : cAllowed c = (!cWrite (l.getD i cd) && allowsB geF ltF (curP p l (i + 1)) (cTri (l.getD i cd)))
def Made (p : PolD) (l : List CalD) (k : Nat) (m : List CalD) : Prop := m.length = k ∧ ∀ i, i < k → MadeC p l i (m.getD i cd)
theorem Made.nil (p : PolD) (l : List CalD) : Made p l 0 [] := ⟨rfl, fun i hi => by omega⟩
theorem Made.snoc {p : PolD} {l : List CalD} {k : Nat} {m : List CalD} {c : CalD} (h : Made p l k m) (hc : MadeC p l k c) : Made p l (k + 1) (m ++ [c]) := by
  refine ⟨by simp [h.1], fun i hi => ?_⟩
  rcases Nat.lt_or_ge i k with h1 | h1
  · have : (m ++ [c]).getD i cd = m.getD i cd := by
      rw [List.getD_eq_getElem?_getD, List.getElem?_append_left (by rw [h.1]; exact h1), ← List.getD_eq_getElem?_getD]
    rw [this]; exact h.2 i h1
  · have : i = k := by omega
    subst this
    have : (m ++ [c]).getD i cd = c := by
      rw [List.getD_eq_getElem?_getD, List.getElem?_append_right (by rw [h.1]; exact Nat.le_refl _), h.1, Nat.sub_self]; rfl
    rw [this]; exact hc
theorem ints_range_len (k : Nat) : (ints (List.range k)).length = k := by simp [ints]
theorem ints_range_get {k i : Nat} (h : i < k) : (ints (List.range k)).getD i 0 = (i : Int) := by
  simp [ints, List.getD_eq_getElem?_getD, h]
theorem ints_range_take {k i : Nat} (h : i ≤ k) : (ints (List.range k)).take i = ints (List.range i) := by
  simp only [ints, ← List.map_take, List.take_range]
  rw [Nat.min_eq_left h]
theorem ints_range_succ (i : Nat) : ints (List.range (i + 1)) = ints (List.range i) ++ [(i : Int)] := by simp [ints, List.range_succ]
theorem mem_ints_range {k : Nat} {x : Nat} : (x : Int) ∈ ints (List.range k) ↔ x < k := by
  simp only [ints, List.mem_map, List.mem_range]
  exact ⟨fun ⟨a, h1, h2⟩ => by omega, fun h => ⟨x, h, rfl⟩⟩
theorem made_last {p : PolD} {l : List CalD} {k : Nat} {m : List CalD} (h : Made p l k m) : ∀ i, i ≤ k → polAt p m (JL.lastOf (histOf p m) (ints (List.range i))) = curP p l i
  | 0, _ => by
    show polAt p m (-1) = p
    unfold polAt; rw [if_neg (by omega)]
  | i + 1, hi => by
    rw [ints_range_succ, JL.lastOf_snoc, Int.toNat_natCast]
    have hm := h.2 i (by omega)
    have e : (histOf p m).counts i = (cWrite (l.getD i cd) && !cFailed (l.getD i cd)) := by
      show (cWrite (m.getD i cd) && !cFailed (m.getD i cd)) = _
      rw [hm.write, hm.failed]
    rw [e]
    unfold curP
    split
    · unfold polAt
      rw [if_pos (by omega), Int.toNat_natCast]
      exact hm.pol
    · exact made_last h i (by omega)
theorem made_follows {p : PolD} {l : List CalD} {k : Nat} {m : List CalD} (h : Made p l k m) : JL.FollowsP (histOf p m) (ints (List.range k)) := by
  have hn : (histOf p m).n = k := h.1
  refine ⟨fun i hi => ?_, fun i hi j hj => ?_, fun i hi _ => ?_⟩
  · rw [ints_range_len] at hi
    rw [ints_range_get hi, ints_range_take (Nat.le_of_lt hi), hn]
    refine ⟨by omega, by omega, fun hc => by have := mem_ints_range.1 hc; omega, ?_⟩
    rw [Int.toNat_natCast]
    have hm := h.2 i hi
    cases hw : cWrite (l.getD i cd) with
    | true => exact .inl (hm.write.trans hw)
    | false =>
      refine .inr ?_
      show (allowsB geF ltF (polAt p m (JL.lastOf (histOf p m) (ints (List.range i)))) (cTri (m.getD i cd)) == cAllowed (m.getD i cd)) = true
      rw [made_last h i (by omega), hm.tri, hm.allowed, hw]
      have : curP p l (i + 1) = curP p l i := by
        show (if (cWrite (l.getD i cd) && !cFailed (l.getD i cd)) = true then cPol (l.getD i cd) else curP p l i) = _
        rw [hw]; simp
      rw [this]
      simp
  · rw [ints_range_len] at hi
    rw [ints_range_get hi, ints_range_get (by omega), Int.toNat_natCast, Int.toNat_natCast]
    obtain ⟨a, b, h1, h2, h3, h4, _, h6⟩ := (h.2 i hi).time
    obtain ⟨c, d, g1, g2, g3, g4, g5, _⟩ := (h.2 j (by omega)).time
    show ¬ (0 ≤ cEnded (m.getD i cd) ∧ cEnded (m.getD i cd) < cBegan (m.getD j cd))
    rw [h6, g5]
    split <;> omega
  · rw [hn] at hi
    exact mem_ints_range.2 hi
theorem made_ok {p : PolD} {l : List CalD} {k : Nat} {m : List CalD} (h : Made p l k m) (hk : k ≤ 12) : histB m = true := by
  refine List.all_eq_true.2 fun c hc => ?_
  obtain ⟨i, hi, rfl⟩ := (mem_getD cd _ _).1 hc
  rw [h.1] at hi
  obtain ⟨a, b, h1, h2, h3, h4, h5, h6⟩ := (h.2 i hi).time
  unfold okCal
  rw [h5, h6]
  split
  · rw [decide_eq_true (show (0 : Int) ≤ 100 + 10 * (i : Int) - a by omega)]; rfl
  · rw [decide_eq_true (show (0 : Int) ≤ 100 + 10 * (i : Int) - a by omega), decide_eq_true (show 100 + 10 * (i : Int) - a ≤ 100 + 10 * (i : Int) + b by omega)]; simp
theorem made_fit {p : PolD} {l : List CalD} {k : Nat} {m : List CalD} (h : Made p l k m) (hk : k ≤ 12) : fitE m = 0 := by
  unfold fitE
  rw [if_neg (by rw [h.1]; omega), if_pos (made_ok h hk)]
/-- What was made is found. -/
theorem made_found {p : PolD} {l : List CalD} {k : Nat} {m : List CalD} (h : Made p l k m) (hk : k ≤ 12) :
    ∃ q, ansP p m = some q ∧ JL.FollowsP (histOf p m) (ints q) ∧ (∀ x ∈ q, x < k) ∧ JL.lessP (ints (List.range k)) (ints q) = false := by
  have hok := hist_ok (p := p) (made_ok h hk)
  have hn : (histOf p m).n = k := h.1
  obtain ⟨q, h1, h2⟩ := JL.right_found hok (made_follows h) (fun x hx => by rw [hn]; exact List.mem_range.1 hx)
  obtain ⟨h3, h4⟩ := JL.found_right hok h1
  refine ⟨q, ?_, h3, fun x hx => by have := h4 x hx; omega, h2⟩
  unfold ansP
  rw [if_pos (made_fit h hk)]
  exact h1
theorem made_small {p : PolD} {l : List CalD} {k : Nat} {m : List CalD} (h : Made p l k m) (hk : k ≤ 12) (hkl : k ≤ l.length) (sc : SmallC l) : SmallC m := by
  refine ⟨by rw [h.1]; omega, fun c hc => ?_⟩
  obtain ⟨i, hi, rfl⟩ := (mem_getD cd _ _).1 hc
  rw [h.1] at hi
  rw [(h.2 i hi).pol]
  exact sc.p _ ((mem_getD cd _ _).2 ⟨i, by omega, rfl⟩)
theorem cur_small {p : PolD} {l : List CalD} (sp : SmallP p) (sc : SmallC l) : ∀ k, k ≤ l.length → SmallP (curP p l k)
  | 0, _ => sp
  | k + 1, h => by
    unfold curP
    split
    · exact sc.p _ ((mem_getD cd _ _).2 ⟨k, by omega, rfl⟩)
    · exact cur_small sp sc k (by omega)
abbrev spT : Ty := .pair (.int .i64) (.pair (.int .i64) .unit)
theorem span_at {w : World} {z : Sl} {sp : List (Den spT)} (hz : RdL spT w z sp) {k : Nat} (hk : k < z.2.1) : ∃ b o, z.1 = some ⟨b, o, none⟩ ∧ ∃ x y : Int, w.cell? ⟨b, o + k * 2, none⟩ = some (.int .i64 x) ∧ w.cell? ⟨b, o + k * 2 + 1, none⟩ = some (.int .i64 y) ∧
    -9223372036854775808 ≤ x ∧ x ≤ 9223372036854775807 ∧ -9223372036854775808 ≤ y ∧ y ≤ 9223372036854775807 := by
  obtain ⟨b, o, h1, h2⟩ := hz.flat rfl (by omega)
  have h0 := hz.1
  have hm : sp.getD k (Den.dflt spT) ∈ sp := (mem_getD _ _ _).2 ⟨k, by omega, rfl⟩
  have hf := hz.fine _ hm
  have h3 := h2 k hk 0 _ rfl
  have h4 := h2 k hk 1 _ rfl
  generalize sp.getD k (Den.dflt spT) = d at *
  obtain ⟨x, y, _⟩ := d
  have hf : ((Lit.int .i64 x).wf && ((Lit.int .i64 y).wf && true)) = true := hf
  rw [Bool.and_eq_true, Bool.and_eq_true] at hf
  have e1 : (decide (IntKind.min .i64 ≤ x) && decide (x ≤ IntKind.max .i64)) = true := hf.1
  have e2 : (decide (IntKind.min .i64 ≤ y) && decide (y ≤ IntKind.max .i64)) = true := hf.2.1
  simp [IntKind.min, IntKind.max, IntKind.signed, IntKind.bits] at e1 e2
  exact ⟨b, o, h1, x, y, h3, h4, e1.1, e1.2, e2.1, e2.2⟩
theorem rowsI_read {w : World} {F : List Nat} {z : Sl} {q : List Nat} (h : (Chunk.sl 3 1 z.v (rowsI q)).holds w F) (hq : ∀ x ∈ q, x < 1000) : RdL (.int .i64) w z (ints q) :=
  sl_reads (e := .int .i64) 3 h (by simp [rowsI, ints]) (fun i hi => by
    have hi : i < q.length := by simpa [ints] using hi
    have hm := hq _ (List.getElem_mem hi)
    have e1 : (rowsI q).getD i [] = [.int .i64 ((q[i] : Nat) : Int)] := by simp [rowsI, List.getD_eq_getElem?_getD, hi]
    have e2 : (ints q).getD i 0 = ((q[i] : Nat) : Int) := by simp [ints, List.getD_eq_getElem?_getD, hi]
    show Rd w (.int .i64) ((rowsI q).getD i []) ((ints q).getD i 0)
    rw [e1, e2]
    refine ⟨rfl, ?_⟩
    show (decide (IntKind.min .i64 ≤ ((q[i] : Nat) : Int)) && decide (((q[i] : Nat) : Int) ≤ IntKind.max .i64)) = true
    simp [IntKind.min, IntKind.max, IntKind.signed, IntKind.bits]
    omega)
end JG
end Go.Proofs.Ytddbebhklmaeoaa
/- A right order is taken as a register would. -/
set_option linter.unusedVariables false
set_option linter.unusedSimpArgs false
set_option maxRecDepth 10000
namespace Go.Proofs.Ytddbebhklmaeoaa
open Go Go.Proofs.Ytddbebhklmaeoaa.Vc
namespace JG
open Vc.PG JD
set_option maxHeartbeats 1000000 in
theorem answersA {w : World} {v : PV} {x y : Sl} {p : PolD} {l : List CalD} {ord : List Int} (hp : InP w v p) (hc0 : RdL calT w x l) (hy : RdL (.int .i64) w y ord) (sp : SmallP p) (sc : SmallC l) (ho : ord.length ≤ 1000000000) (hF : JL.FollowsP (histOf p l) ord) :
    Calls Try.prog 20 #[v.v, x.v, y.v] w fun e w' => e = .returned (.bool true) ∧ Fr [] w w' := by
  refine Calls.mono (f20.calls (R := fun e w' => e = .bool true ∧ Fr [] w w') ?_) ?_
  · dsimp only [f20.VC]
    have hl : x.2.1 = l.length := hc0.1
    have hyl : y.2.1 = ord.length := hy.1
    have hln := sc.n
    obtain ⟨hR, hT, _⟩ := hF
    have hin : ∀ a, a < ord.length → 0 ≤ ord.getD a 0 ∧ ord.getD a 0 < (l.length : Int) := fun a ha => ⟨(hR a ha).1, (hR a ha).2.1⟩
    have hT' : ∀ i, i < ord.length → ∀ j, j ≤ i → ¬ (0 ≤ cEnded (l.getD (ord.getD i 0).toNat cd) ∧ cEnded (l.getD (ord.getD i 0).toNat cd) < cBegan (l.getD (ord.getD j 0).toNat cd)) := hT
    have hS1 := (St.start w).alloc v.cells 28
    generalize World.alloc w (.cells v.cells 28) = w1 at *
    generalize w.heap.size = b1 at *
    have hB1 := hS1.blk 0 rfl
    have hS2 := hS1.alloc #[.slice none 0 0, .slice none 0 0, .slice none 0 0, .slice none 0 0, .slice none 0 0, .slice none 0 0, .slice none 0 0, .slice none 0 0, .slice none 0 0, .slice none 0 0, .slice none 0 0] 28
    have hS3 := hS2.over 0 rfl v.l rfl
    refine ⟨_, _, _, hB1.cell rfl, _, _, _, hB1.cell rfl, _, _, _, hB1.cell rfl, _, _, _, hB1.cell rfl, _, _, _, hB1.cell rfl, _, _, _, hB1.cell rfl, _, _, _, hB1.cell rfl, _, _, _, hB1.cell rfl, _, _, _, hB1.cell rfl, _, _, _, hB1.cell rfl, _, _, _, hB1.cell rfl, (hS2.blk 0 rfl).can (by simp), ?_⟩
    generalize World.alloc w1 (.cells #[.slice none 0 0, .slice none 0 0, .slice none 0 0, .slice none 0 0, .slice none 0 0, .slice none 0 0, .slice none 0 0, .slice none 0 0, .slice none 0 0, .slice none 0 0, .slice none 0 0] 28) = w2 at *
    generalize w1.heap.size = b2 at *
    change St [] w (setCs w2 b2 0 [.slice v.a.1 v.a.2.1 v.a.2.2, .slice v.s.1 v.s.2.1 v.s.2.2, .slice v.r.1 v.r.2.1 v.r.2.2, .slice v.o.1 v.o.2.1 v.o.2.2, .slice v.g.1 v.g.2.1 v.g.2.2, .slice v.m.1 v.m.2.1 v.m.2.2, .slice v.i.1 v.i.2.1 v.i.2.2, .slice v.q.1 v.q.2.1 v.q.2.2, .slice v.t.1 v.t.2.1 v.t.2.2, .slice v.u.1 v.u.2.1 v.u.2.2, .slice v.e.1 v.e.2.1 v.e.2.2]) _ at hS3
    generalize setCs w2 b2 0 [.slice v.a.1 v.a.2.1 v.a.2.2, .slice v.s.1 v.s.2.1 v.s.2.2, .slice v.r.1 v.r.2.1 v.r.2.2, .slice v.o.1 v.o.2.1 v.o.2.2, .slice v.g.1 v.g.2.1 v.g.2.2, .slice v.m.1 v.m.2.1 v.m.2.2, .slice v.i.1 v.i.2.1 v.i.2.2, .slice v.q.1 v.q.2.1 v.q.2.2, .slice v.t.1 v.t.2.1 v.t.2.2, .slice v.u.1 v.u.2.1 v.u.2.2, .slice v.e.1 v.e.2.1 v.e.2.2] = w3 at *
    replace hS3 : St [] w w3 [Chunk.blk b2 v.cells 28, Chunk.blk b1 v.cells 28] := hS3
    refine ⟨fun i w' r => ∃ (k : Nat) (u : PV), i = (k : Int) ∧ k + r = y.2.1 ∧ InP w u (polAt p l (JL.lastOf (histOf p l) (ord.take k))) ∧ SmallP (polAt p l (JL.lastOf (histOf p l) (ord.take k))) ∧ St [] w w' (Chunk.blk b2 u.cells 28 :: Chunk.blk b1 v.cells 28 :: []),
      ⟨y.2.1, 0, v, rfl, by omega, hp, sp, hS3⟩, ?_⟩
    clear hS1 hS2 hS3 hB1
    rintro d i w4 r ⟨m, u, rfl, hm, hu, hsp, hS⟩
    refine sel_of (fun hd => ?_) (fun hd => ⟨rfl, hS.frame⟩)
    have hi : m < y.2.1 := by have := of_decide_eq_true hd; omega
    obtain ⟨by', oy, hAy, hcy⟩ := RdL.int hy (by omega)
    obtain ⟨g1, g2⟩ := hin m (by omega)
    obtain ⟨k, hk⟩ : ∃ k : Nat, ord.getD m 0 = (k : Int) := ⟨(ord.getD m 0).toNat, by omega⟩
    have hRm := (hR m (by omega)).2.2.2
    have hTm : ∀ q, q < ord.length → m ≤ q → ¬ (0 ≤ cEnded (l.getD (ord.getD q 0).toNat cd) ∧ cEnded (l.getD (ord.getD q 0).toNat cd) < cBegan (l.getD k cd)) := fun q hq hmq => by
      have := hT' q hq m hmq
      rwa [show (ord.getD m 0).toNat = k by omega] at this
    have hne : ∀ q, q < ord.length → m < q → ord.getD q 0 ≠ (k : Int) := fun q hq hmq he => (hR q hq).2.2.1 (JL.mem_take.2 ⟨m, hmq, by omega, by rw [he]; exact hk⟩)
    have hts := take_snoc (l := ord) (i := m) (by omega)
    have hcym := hcy m hi
    rw [hk] at g1 g2 hts hcym hRm
    rw [Int.toNat_natCast] at hRm
    have hlast : JL.lastOf (histOf p l) (ord.take (m + 1)) = if (cWrite (l.getD k cd) && !cFailed (l.getD k cd)) = true then (k : Int) else JL.lastOf (histOf p l) (ord.take m) := by
      rw [hts, JL.lastOf_snoc]; rfl
    have hpk : polAt p l (k : Int) = cPol (l.getD k cd) := by unfold polAt; rw [if_pos (by omega)]; rfl
    have hsk : SmallP (cPol (l.getD k cd)) := sc.p _ ((mem_getD cd _ _).2 ⟨k, by omega, rfl⟩)
    have hfit : cWrite (l.getD k cd) = true ∨ (allowsB geF ltF (polAt p l (JL.lastOf (histOf p l) (ord.take m))) (cTri (l.getD k cd)) == cAllowed (l.getD k cd)) = true := hRm
    clear hRm
    refine ⟨by omega, by omega, needPtr_of hAy ⟨_, hS.frame.cell hcym, ?_⟩⟩
    obtain ⟨bb, oo, hA, hc⟩ := RdL.call hc0 (by omega)
    obtain ⟨vc, hv, _, _, hc1⟩ := hc k (by omega)
    have hmem : l.getD k cd ∈ l := (mem_getD cd _ _).2 ⟨k, by omega, rfl⟩
    have hc := fun j y h => hS.frame.cell (hc1 j y h)
    generalize hcl : l.getD k cd = cl at *
    have hT := hS.alloc #[.int .i64 0, .int .i64 0, .bool false, .bool false, .bool false, .slice none 0 0, .slice none 0 0, .slice none 0 0, .slice none 0 0, .slice none 0 0, .slice none 0 0, .slice none 0 0, .slice none 0 0, .slice none 0 0, .slice none 0 0, .slice none 0 0, .string ⟨#[]⟩, .string ⟨#[]⟩, .string ⟨#[]⟩] 39
    have hS6 := hT.over 0 rfl (calV cl vc) rfl
    refine ⟨by omega, by omega, needPtr_of hA ⟨_, hc 0 _ rfl, _, hc 1 _ rfl, _, hc 2 _ rfl, _, hc 3 _ rfl, _, hc 4 _ rfl, _, _, _, hc 5 _ rfl, _, _, _, hc 6 _ rfl, _, _, _, hc 7 _ rfl, _, _, _, hc 8 _ rfl, _, _, _, hc 9 _ rfl, _, _, _, hc 10 _ rfl, _, _, _, hc 11 _ rfl, _, _, _, hc 12 _ rfl, _, _, _, hc 13 _ rfl, _, _, _, hc 14 _ rfl, _, _, _, hc 15 _ rfl, _, hc 16 _ rfl, _, hc 17 _ rfl, _, hc 18 _ rfl, (hT.blk 0 rfl).can (by decide), ?_⟩⟩
    generalize World.alloc w4 (.cells #[.int .i64 0, .int .i64 0, .bool false, .bool false, .bool false, .slice none 0 0, .slice none 0 0, .slice none 0 0, .slice none 0 0, .slice none 0 0, .slice none 0 0, .slice none 0 0, .slice none 0 0, .slice none 0 0, .slice none 0 0, .slice none 0 0, .string ⟨#[]⟩, .string ⟨#[]⟩, .string ⟨#[]⟩] 39) = w5 at *
    generalize w4.heap.size = b3 at *
    change St [] w (setCs w5 b3 0 [.int .i64 cl.1, .int .i64 cl.2.1, .bool cl.2.2.1, .bool cl.2.2.2.1, .bool cl.2.2.2.2.1, .slice vc.a.1 vc.a.2.1 vc.a.2.2, .slice vc.s.1 vc.s.2.1 vc.s.2.2, .slice vc.r.1 vc.r.2.1 vc.r.2.2, .slice vc.o.1 vc.o.2.1 vc.o.2.2, .slice vc.g.1 vc.g.2.1 vc.g.2.2, .slice vc.m.1 vc.m.2.1 vc.m.2.2, .slice vc.i.1 vc.i.2.1 vc.i.2.2, .slice vc.q.1 vc.q.2.1 vc.q.2.2, .slice vc.t.1 vc.t.2.1 vc.t.2.2, .slice vc.u.1 vc.u.2.1 vc.u.2.2, .slice vc.e.1 vc.e.2.1 vc.e.2.2, .string cl.2.2.2.2.2.2.1.1, .string cl.2.2.2.2.2.2.1.2.1, .string cl.2.2.2.2.2.2.1.2.2.1]) _ at hS6
    generalize setCs w5 b3 0 [.int .i64 cl.1, .int .i64 cl.2.1, .bool cl.2.2.1, .bool cl.2.2.2.1, .bool cl.2.2.2.2.1, .slice vc.a.1 vc.a.2.1 vc.a.2.2, .slice vc.s.1 vc.s.2.1 vc.s.2.2, .slice vc.r.1 vc.r.2.1 vc.r.2.2, .slice vc.o.1 vc.o.2.1 vc.o.2.2, .slice vc.g.1 vc.g.2.1 vc.g.2.2, .slice vc.m.1 vc.m.2.1 vc.m.2.2, .slice vc.i.1 vc.i.2.1 vc.i.2.2, .slice vc.q.1 vc.q.2.1 vc.q.2.2, .slice vc.t.1 vc.t.2.1 vc.t.2.2, .slice vc.u.1 vc.u.2.1 vc.u.2.2, .slice vc.e.1 vc.e.2.1 vc.e.2.2, .string cl.2.2.2.2.2.2.1.1, .string cl.2.2.2.2.2.2.1.2.1, .string cl.2.2.2.2.2.2.1.2.2.1] = w6 at *
    replace hS6 : St [] w w6 (Chunk.blk b3 (calV cl vc).toArray 39 :: Chunk.blk b2 u.cells 28 :: Chunk.blk b1 v.cells 28 :: []) := hS6
    have hBc := hS6.blk 0 rfl
    rw [inc m y.2.1 (by omega) (by omega)]
    refine ⟨fun i w' r => St [] w w' (Chunk.blk b3 (calV cl vc).toArray 39 :: Chunk.blk b2 u.cells 28 :: Chunk.blk b1 v.cells 28 :: []) ∧ ∃ q : Nat, i = (q : Int) ∧ m < q ∧ q ≤ y.2.1 ∧ q + r = y.2.1, ⟨y.2.1 - (m + 1), hS6, m + 1, rfl, by omega, by omega, by omega⟩, ?_⟩
    clear hS6 hBc hT hc hc1 hS
    rintro d i w7 r1 ⟨hS, q, rfl, hmq, hqy, hq⟩
    refine sel_of (fun hd => ?_) (fun hd => ?_)
    · have hiq : q < y.2.1 := by have := of_decide_eq_true hd; omega
      obtain ⟨f1, f2⟩ := hin q (by omega)
      obtain ⟨j, hj⟩ : ∃ j : Nat, ord.getD q 0 = (j : Int) := ⟨(ord.getD q 0).toNat, by omega⟩
      have hTq := hTm q (by omega) (by omega)
      have hneq := hne q (by omega) hmq
      have hcyq := hcy q hiq
      rw [hj] at f1 f2 hTq hneq hcyq
      rw [Int.toNat_natCast] at hTq
      refine ⟨by omega, by omega, needPtr_of hAy ⟨_, hS.frame.cell hcyq, ?_⟩⟩
      obtain ⟨bb, oo, hA, hc⟩ := RdL.call hc0 (by omega)
      obtain ⟨v2, hv, _, _, hc1⟩ := hc j (by omega)
      have hmem : l.getD j cd ∈ l := (mem_getD cd _ _).2 ⟨j, by omega, rfl⟩
      have hc := fun j y h => hS.frame.cell (hc1 j y h)
      generalize hcl2 : l.getD j cd = cl2 at *
      have hT := hS.alloc #[.int .i64 0, .int .i64 0, .bool false, .bool false, .bool false, .slice none 0 0, .slice none 0 0, .slice none 0 0, .slice none 0 0, .slice none 0 0, .slice none 0 0, .slice none 0 0, .slice none 0 0, .slice none 0 0, .slice none 0 0, .slice none 0 0, .string ⟨#[]⟩, .string ⟨#[]⟩, .string ⟨#[]⟩] 39
      have hS8 := hT.over 0 rfl (calV cl2 v2) rfl
      refine ⟨by omega, by omega, needPtr_of hA ⟨_, hc 0 _ rfl, _, hc 1 _ rfl, _, hc 2 _ rfl, _, hc 3 _ rfl, _, hc 4 _ rfl, _, _, _, hc 5 _ rfl, _, _, _, hc 6 _ rfl, _, _, _, hc 7 _ rfl, _, _, _, hc 8 _ rfl, _, _, _, hc 9 _ rfl, _, _, _, hc 10 _ rfl, _, _, _, hc 11 _ rfl, _, _, _, hc 12 _ rfl, _, _, _, hc 13 _ rfl, _, _, _, hc 14 _ rfl, _, _, _, hc 15 _ rfl, _, hc 16 _ rfl, _, hc 17 _ rfl, _, hc 18 _ rfl, (hT.blk 0 rfl).can (by decide), ?_⟩⟩
      generalize World.alloc w7 (.cells #[.int .i64 0, .int .i64 0, .bool false, .bool false, .bool false, .slice none 0 0, .slice none 0 0, .slice none 0 0, .slice none 0 0, .slice none 0 0, .slice none 0 0, .slice none 0 0, .slice none 0 0, .slice none 0 0, .slice none 0 0, .slice none 0 0, .string ⟨#[]⟩, .string ⟨#[]⟩, .string ⟨#[]⟩] 39) = w8 at *
      generalize w7.heap.size = b4 at *
      change St [] w (setCs w8 b4 0 [.int .i64 cl2.1, .int .i64 cl2.2.1, .bool cl2.2.2.1, .bool cl2.2.2.2.1, .bool cl2.2.2.2.2.1, .slice v2.a.1 v2.a.2.1 v2.a.2.2, .slice v2.s.1 v2.s.2.1 v2.s.2.2, .slice v2.r.1 v2.r.2.1 v2.r.2.2, .slice v2.o.1 v2.o.2.1 v2.o.2.2, .slice v2.g.1 v2.g.2.1 v2.g.2.2, .slice v2.m.1 v2.m.2.1 v2.m.2.2, .slice v2.i.1 v2.i.2.1 v2.i.2.2, .slice v2.q.1 v2.q.2.1 v2.q.2.2, .slice v2.t.1 v2.t.2.1 v2.t.2.2, .slice v2.u.1 v2.u.2.1 v2.u.2.2, .slice v2.e.1 v2.e.2.1 v2.e.2.2, .string cl2.2.2.2.2.2.2.1.1, .string cl2.2.2.2.2.2.2.1.2.1, .string cl2.2.2.2.2.2.2.1.2.2.1]) _ at hS8
      generalize setCs w8 b4 0 [.int .i64 cl2.1, .int .i64 cl2.2.1, .bool cl2.2.2.1, .bool cl2.2.2.2.1, .bool cl2.2.2.2.2.1, .slice v2.a.1 v2.a.2.1 v2.a.2.2, .slice v2.s.1 v2.s.2.1 v2.s.2.2, .slice v2.r.1 v2.r.2.1 v2.r.2.2, .slice v2.o.1 v2.o.2.1 v2.o.2.2, .slice v2.g.1 v2.g.2.1 v2.g.2.2, .slice v2.m.1 v2.m.2.1 v2.m.2.2, .slice v2.i.1 v2.i.2.1 v2.i.2.2, .slice v2.q.1 v2.q.2.1 v2.q.2.2, .slice v2.t.1 v2.t.2.1 v2.t.2.2, .slice v2.u.1 v2.u.2.1 v2.u.2.2, .slice v2.e.1 v2.e.2.1 v2.e.2.2, .string cl2.2.2.2.2.2.2.1.1, .string cl2.2.2.2.2.2.2.1.2.1, .string cl2.2.2.2.2.2.2.1.2.2.1] = w9 at *
      replace hS8 : St [] w w9 (Chunk.blk b4 (calV cl2 v2).toArray 39 :: Chunk.blk b3 (calV cl vc).toArray 39 :: Chunk.blk b2 u.cells 28 :: Chunk.blk b1 v.cells 28 :: []) := hS8
      have hBc := hS8.blk 0 rfl
      have hBo := hS8.blk 1 rfl
      rw [inc q y.2.1 (by omega) (by omega)]
      have next : ∀ w', St [] w w' (Chunk.blk b4 (calV cl2 v2).toArray 39 :: Chunk.blk b3 (calV cl vc).toArray 39 :: Chunk.blk b2 u.cells 28 :: Chunk.blk b1 v.cells 28 :: []) → ∃ m', m' < r1 ∧ St [] w w' (Chunk.blk b3 (calV cl vc).toArray 39 :: Chunk.blk b2 u.cells 28 :: Chunk.blk b1 v.cells 28 :: []) ∧ ∃ q' : Nat, ((q + 1 : Nat) : Int) = (q' : Int) ∧ m < q' ∧ q' ≤ y.2.1 ∧ q' + m' = y.2.1 := fun w' hw => ⟨r1 - 1, by omega, hw.tail, q + 1, rfl, by omega, by omega, by omega⟩
      refine ⟨by omega, by omega, needPtr_of hAy ⟨by omega, by omega, needPtr_of hAy ⟨_, hS8.frame.cell hcyq, _, hS8.frame.cell hcym, sel_false (beq_eq_false_iff_ne.2 hneq) ⟨_, hBc.cell rfl, sel_of (fun h1 => ⟨_, hBc.cell rfl, _, hBo.cell rfl, sel_false (decide_eq_false fun h2 => hTq ⟨of_decide_eq_true h1, h2⟩) ⟨rfl, next _ hS8.drew⟩⟩) (fun h1 => ⟨rfl, next _ hS8.drew⟩)⟩⟩⟩⟩
    · have hBc := hS.blk 0 rfl
      have hBu := hS.blk 1 rfl
      refine ⟨_, hBc.cell rfl, sel_of (fun h6 => ⟨_, hBc.cell rfl, sel_of (fun h7 => ?_) (fun h7 => ⟨rfl, r - 1, by omega, m + 1, u, rfl, by omega, ?_, ?_, hS.tail⟩)⟩) (fun h6 => ?_)⟩
      · have hlk : JL.lastOf (histOf p l) (ord.take (m + 1)) = (k : Int) := by rw [hlast, show cWrite cl = true from h6, show (!cFailed cl) = true from h7]; rfl
        refine ⟨_, _, _, hBc.cell rfl, _, _, _, hBc.cell rfl, _, _, _, hBc.cell rfl, _, _, _, hBc.cell rfl, _, _, _, hBc.cell rfl, _, _, _, hBc.cell rfl, _, _, _, hBc.cell rfl, _, _, _, hBc.cell rfl, _, _, _, hBc.cell rfl, _, _, _, hBc.cell rfl, _, _, _, hBc.cell rfl, (hS.blk 1 rfl).can (by simp), rfl, r - 1, by omega, m + 1, vc, rfl, by omega, ?_, ?_, (hS.over 1 rfl vc.l rfl).tail⟩
        · rw [hlk, hpk]; exact hv
        · rw [hlk, hpk]; exact hsk
      · rw [show JL.lastOf (histOf p l) (ord.take (m + 1)) = JL.lastOf (histOf p l) (ord.take m) by rw [hlast, show (!cFailed cl) = false from h7, Bool.and_false]; rfl]; exact hu
      · rw [show JL.lastOf (histOf p l) (ord.take (m + 1)) = JL.lastOf (histOf p l) (ord.take m) by rw [hlast, show (!cFailed cl) = false from h7, Bool.and_false]; rfl]; exact hsp
      · have hll : JL.lastOf (histOf p l) (ord.take (m + 1)) = JL.lastOf (histOf p l) (ord.take m) := by rw [hlast, show cWrite cl = false from h6]; rfl
        have hfit : (allowsB geF ltF (polAt p l (JL.lastOf (histOf p l) (ord.take m))) (cTri cl) == cAllowed cl) = true := hfit.elim (fun h => by rw [show cWrite cl = false from h6] at h; cases h) id
        refine ⟨_, _, _, hBu.cell rfl, _, _, _, hBu.cell rfl, _, _, _, hBu.cell rfl, _, _, _, hBu.cell rfl, _, _, _, hBu.cell rfl, _, _, _, hBu.cell rfl, _, _, _, hBu.cell rfl, _, _, _, hBu.cell rfl, _, _, _, hBu.cell rfl, _, _, _, hBu.cell rfl, _, _, _, hBu.cell rfl, _, hBc.cell rfl, _, hBc.cell rfl, _, hBc.cell rfl, _, hBc.cell rfl, Calls.mono (copyR (hu.fr hS.drew.frame) hsp) ?_⟩
        rintro _ w11 ⟨z, rfl, hf11⟩
        have hS11 := hS.drew.gone hf11
        have hz : InP w11 z _ := hS11.says 0 rfl
        have hBc := hS11.blk 1 rfl
        have hBu := hS11.blk 2 rfl
        refine ⟨_, _, _, _, _, _, _, _, _, _, _, _, _, _, _, _, _, _, _, _, _, _, _, _, _, _, _, _, _, _, _, _, _, rfl, ?_, ?_⟩
        · repeat' (first | exact trivial | exact hBc.cell rfl | exact hBu.cell rfl | refine ⟨?_, ?_⟩)
        have hcall := hS11.step0 (allowsC hz hsp (cTri cl).1 (cTri cl).2.1 (cTri cl).2.2.1)
        refine Calls.mono hcall ?_
        rintro _ w12 ⟨rfl, hS12⟩
        have hBc := hS12.blk 1 rfl
        have hBu := hS12.blk 2 rfl
        refine ⟨_, rfl, ?_, sel_false ?_ ⟨rfl, r - 1, by omega, m + 1, u, rfl, by omega, ?_, ?_, hS12.tail.tail⟩⟩
        · repeat' (first | exact trivial | exact hBc.cell rfl | exact hBu.cell rfl | refine ⟨?_, ?_⟩)
        · show (!(allowsB geF ltF (polAt p l (JL.lastOf (histOf p l) (ord.take m))) (cTri cl) == cAllowed cl)) = false
          rw [hfit]; rfl
        · rw [hll]; exact hu
        · rw [hll]; exact hsp
  · rintro e w' ⟨v, rfl, rfl, h⟩; exact ⟨rfl, h⟩
end JG
end Go.Proofs.Ytddbebhklmaeoaa
