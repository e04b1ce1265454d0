/- Follows, as the program does it. -/
import Derived.Test.YtddbebhklmaeoaaM20
import Derived.Test.YtddbebhklmaeoaaM21
import Derived.Test.YtddbebhklmaeoaaM7
import Derived.Laws.CopyRow
import Derived.Test.YtddbebhklmaeoaaM10
import Derived.Test.YtddbebhklmaeoaaM16
set_option linter.unusedVariables false
set_option linter.unusedSimpArgs false
set_option maxRecDepth 10000
namespace Go.Proofs.Ytddbebhklmaeoaa
open Go Go.Proofs.Ytddbebhklmaeoaa.Vc
namespace JG
open Vc.PG JD
theorem run_max (x y : Int) (w : World) : (Builtin.max_ #[3, 3] 3 #[.int .i64 x, .int .i64 y]).run Try.prog w = .ok (.int .i64 (max x y)) w := by
  simp only [Builtin.max_, List.foldlM, Builtin.max2]
  simp
  split <;> omega
theorem made_rep (z : Value) (k n : Nat) (hk : 0 < k) : madeCells (List.replicate k z).toArray n = (List.replicate n z).toArray := by
  apply Array.ext (by simp [size_madeCells])
  intro i h1 h2
  simp [madeCells, Nat.mod_lt i hk]
theorem makeI (w : World) (n : Nat) (hm : n ≤ 1100000) : (Instr.makeSlice 31 (.int .i64 (n : Int)) (.int .i64 (n : Int))).run Try.prog w = .ok (.slice (some ⟨w.heap.size, 0, none⟩) n n) (w.alloc (.cells ((List.replicate n (0 : Int)).map encI).toArray 3)) := by
  obtain ⟨i, h1, h2, h3, h4⟩ := info3'
  have := run_make w (P := Try.prog) 31 3 i (.int .i64 0) under31 h1 h2 .i64 .i64 (n : Int) (n : Int) (by omega) (by omega) (by rw [h4]; omega) (by omega)
  rw [h3, Int.toNat_natCast, Nat.mul_one] at this
  rw [this]
  congr 4
  rw [List.map_replicate]
  exact made_rep _ 1 n (by omega)
theorem ls_of_made {b n : Nat} (hm : n ≤ 1100000) {w : World} {F : List Nat} (h : (Chunk.blk b ((List.replicate n (0 : Int)).map encI).toArray 3).holds w F) : (Chunk.ls encI 3 (.slice (some ⟨b, 0, none⟩) n n) (List.replicate n 0)).holds w F := by
  refine .inr ⟨b, n, by simp, h.1, _, h.2, by simp, by simp, by simp [maxLen]; omega, by simp, fun i hi j hj => ?_⟩
  have : j = 0 := by omega
  subst this
  simp at hi
  simp [List.getD_eq_getElem?_getD, hi]
/-- A place of an order is right. -/
def RightAt (H : JL.Hist) (l : List Int) (i : Nat) : Prop := 0 ≤ l.getD i 0 ∧ l.getD i 0 < H.n ∧ l.getD i 0 ∉ l.take i ∧ (H.write (l.getD i 0).toNat = true ∨ H.fits (JL.lastOf H (l.take i)) (l.getD i 0).toNat = true)
theorem take_snoc {l : List Int} {i : Nat} (h : i < l.length) : l.take (i + 1) = l.take i ++ [l.getD i 0] := by
  rw [List.take_add_one, List.getD_eq_getElem?_getD, List.getElem?_eq_getElem h]; rfl
/-- What is told of a run through an order. -/
def Fol (p : PolD) (l : List CalD) (ord : List Int) (m : Bool) : Prop := m = true ↔ histB l = true ∧ JL.FollowsP (histOf p l) ord
theorem fol_right {p : PolD} {l : List CalD} {ord : List Int} {i : Nat} (hi : i < ord.length) (h : ¬ RightAt (histOf p l) ord i) : Fol p l ord false := ⟨(fun h => by cases h), fun ⟨_, hr, _⟩ => absurd (hr i hi) h⟩
theorem followsC {w : World} {v : PV} {x y : Sl} {p : PolD} {l : List CalD} {ord : List Int} (hp : InP w v p) (hc0 : RdL calT w x l) (hy : RdL (.int .i64) w y ord) (sp : SmallP p) (sc : SmallC l) (ho : ord.length ≤ 1000000000) :
    Calls Try.prog 16 #[v.v, x.v, y.v] w fun e w' => ∃ m : Bool, e = .returned (.bool m) ∧ Fol p l ord m ∧ Fr [] w w' := by
  refine Calls.mono (f16.calls (R := fun e w' => ∃ m : Bool, e = .bool m ∧ Fol p l ord m ∧ Fr [] w w') ?_) ?_
  · dsimp only [f16.VC]
    have hl : x.2.1 = l.length := hc0.1
    have hyl : y.2.1 = ord.length := hy.1
    have hln := sc.n
    have hS1 := (St.start w).alloc v.cells 28
    generalize World.alloc w (.cells v.cells 28) = w1 at *
    generalize w.heap.size = b1 at *
    refine Calls.mono (hS1.step0 (histC (hc0.fr hS1.frame) hln)) ?_
    rintro _ w2 ⟨rfl, hS2⟩
    refine ⟨_, rfl, sel_of (fun hh => ?_) (fun hh => ?_)⟩
    · have hh : (!histB l) = true := hh
      refine ⟨false, rfl, ⟨(fun h => by cases h), fun h => ?_⟩, hS2.frame⟩
      rw [h.1] at hh; cases hh
    have hh : histB l = true := by simpa using hh
    have hS3 := hS2.alloc ((List.replicate x.2.1 (0 : Int)).map encI).toArray 3
    have hmk := makeI w2 x.2.1 (by omega)
    refine ⟨_, _, _, _, hmk, ?_⟩
    clear hmk
    generalize World.alloc w2 (.cells ((List.replicate x.2.1 (0 : Int)).map encI).toArray 3) = w3 at *
    generalize w2.heap.size = g at *
    have hS3 := hS3.as 0 rfl (Chunk.ls encI 3 (.slice (some ⟨g, 0, none⟩) x.2.1 x.2.1) (List.replicate x.2.1 0)) (fun F hF => ls_of_made (by omega) hF)
    have hB1 := hS3.blk 1 rfl
    have hS4 := hS3.alloc #[.slice none 0 0, .slice none 0 0, .slice none 0 0, .slice none 0 0, .slice none 0 0, .slice none 0 0, .slice none 0 0, .slice none 0 0, .slice none 0 0, .slice none 0 0, .slice none 0 0] 28
    have hS5 := hS4.over 0 rfl v.l rfl
    refine ⟨_, _, _, hB1.cell rfl, _, _, _, hB1.cell rfl, _, _, _, hB1.cell rfl, _, _, _, hB1.cell rfl, _, _, _, hB1.cell rfl, _, _, _, hB1.cell rfl, _, _, _, hB1.cell rfl, _, _, _, hB1.cell rfl, _, _, _, hB1.cell rfl, _, _, _, hB1.cell rfl, _, _, _, hB1.cell rfl, (hS4.blk 0 rfl).can (by simp), ?_⟩
    generalize World.alloc w3 (.cells #[.slice none 0 0, .slice none 0 0, .slice none 0 0, .slice none 0 0, .slice none 0 0, .slice none 0 0, .slice none 0 0, .slice none 0 0, .slice none 0 0, .slice none 0 0, .slice none 0 0] 28) = w4 at *
    generalize w3.heap.size = b2 at *
    change St [] w (setCs w4 b2 0 [.slice v.a.1 v.a.2.1 v.a.2.2, .slice v.s.1 v.s.2.1 v.s.2.2, .slice v.r.1 v.r.2.1 v.r.2.2, .slice v.o.1 v.o.2.1 v.o.2.2, .slice v.g.1 v.g.2.1 v.g.2.2, .slice v.m.1 v.m.2.1 v.m.2.2, .slice v.i.1 v.i.2.1 v.i.2.2, .slice v.q.1 v.q.2.1 v.q.2.2, .slice v.t.1 v.t.2.1 v.t.2.2, .slice v.u.1 v.u.2.1 v.u.2.2, .slice v.e.1 v.e.2.1 v.e.2.2]) _ at hS5
    generalize setCs w4 b2 0 [.slice v.a.1 v.a.2.1 v.a.2.2, .slice v.s.1 v.s.2.1 v.s.2.2, .slice v.r.1 v.r.2.1 v.r.2.2, .slice v.o.1 v.o.2.1 v.o.2.2, .slice v.g.1 v.g.2.1 v.g.2.2, .slice v.m.1 v.m.2.1 v.m.2.2, .slice v.i.1 v.i.2.1 v.i.2.2, .slice v.q.1 v.q.2.1 v.q.2.2, .slice v.t.1 v.t.2.1 v.t.2.2, .slice v.u.1 v.u.2.1 v.u.2.2, .slice v.e.1 v.e.2.1 v.e.2.2] = w5 at *
    have hS5 : St [] w w5 (Chunk.blk b2 v.cells 28 :: Chunk.ls encI 3 (.slice (some ⟨g, 0, none⟩) x.2.1 x.2.1) (List.replicate x.2.1 0) :: []) := hS5.sel [0, 1] (by decide) _ rfl
    have hrep : ∀ a, (List.replicate x.2.1 (0 : Int)).getD a 0 = 0 := fun a => by
      rw [List.getD_eq_getElem?_getD, List.getElem?_replicate]; split <;> rfl
    refine ⟨fun i w' r => ∃ (q : Nat) (B : List Int) (u : PV), i = (q : Int) ∧ q + r = y.2.1 ∧ B.length = x.2.1 ∧ (∀ a : Nat, a < x.2.1 → (B.getD a 0 = 0 ↔ (a : Int) ∉ ord.take q)) ∧ (∀ a, a < q → RightAt (histOf p l) ord a) ∧
        InP w u (polAt p l (JL.lastOf (histOf p l) (ord.take q))) ∧ SmallP (polAt p l (JL.lastOf (histOf p l) (ord.take q))) ∧ St [] w w' (Chunk.blk b2 u.cells 28 :: Chunk.ls encI 3 (.slice (some ⟨g, 0, none⟩) x.2.1 x.2.1) B :: []),
      ⟨y.2.1, 0, List.replicate x.2.1 0, v, rfl, by omega, by simp, fun a ha => ⟨(fun _ => by simp), fun _ => hrep a⟩, fun a ha => by omega, ?_, ?_, hS5⟩, ?_⟩
    · exact hp
    · exact sp
    clear hS1 hS2 hS3 hS4 hS5 hB1 hrep
    rintro d i w6 r ⟨q, B, u, rfl, hq, hBl, hB0, hR, hu, hsp, hS6⟩
    refine sel_of (fun hd => ?_) (fun hd => ?_)
    · have hi : q < y.2.1 := by have := of_decide_eq_true hd; omega
      obtain ⟨by', oy, hAy, hcy⟩ := RdL.int (hy.fr hS6.frame) (by omega)
      refine ⟨by omega, by omega, needPtr_of hAy ⟨_, hcy q hi, sel_of (fun h1 => ⟨false, rfl, fol_right (i := q) (by omega) ?_, hS6.frame⟩) (fun h1 => sel_of (fun h2 => ⟨false, rfl, fol_right (i := q) (by omega) ?_, hS6.frame⟩) (fun h2 => ?_))⟩⟩
      · rintro ⟨k1, _⟩; have := of_decide_eq_true h1; omega
      · rintro ⟨_, k1, _⟩
        have := of_decide_eq_true h2
        have k1 : ord.getD q 0 < (l.length : Int) := k1
        omega
      have h1 := of_decide_eq_false h1
      have h2 := of_decide_eq_false h2
      obtain ⟨k, hk⟩ : ∃ k : Nat, ord.getD q 0 = (k : Int) := ⟨(ord.getD q 0).toNat, by omega⟩
      have hRq : RightAt (histOf p l) ord q ↔ (k : Int) ∉ ord.take q ∧ (cWrite (l.getD k cd) = true ∨ (ansI p l (JL.lastOf (histOf p l) (ord.take q), (k : Int)) == cAllowed (l.getD k cd)) = true) := by
        unfold RightAt
        rw [hk]
        constructor
        · rintro ⟨_, _, a, b⟩; exact ⟨a, b⟩
        · rintro ⟨a, b⟩; exact ⟨by omega, show (k : Int) < (l.length : Int) by omega, a, b⟩
      have hts := take_snoc (l := ord) (i := q) (by omega)
      rw [hk] at h1 h2 hts ⊢
      have hlast : JL.lastOf (histOf p l) (ord.take (q + 1)) = if (cWrite (l.getD k cd) && !cFailed (l.getD k cd)) = true then (k : Int) else JL.lastOf (histOf p l) (ord.take q) := by
        rw [hts, JL.lastOf_snoc]; rfl
      have hkx : k < x.2.1 := by omega
      obtain ⟨g', hg', hcg⟩ := hS6.lsGet (0 : Int) 1 rfl (by omega)
      simp only [Option.some.injEq, Addr.mk.injEq, and_true] at hg'
      subst hg'
      have ez : 0 + (k : Int).toNat * 1 = k := by simp
      have hcell : w6.cell? ⟨g, 0 + (k : Int).toNat * 1, none⟩ = some (.int .i64 (B.getD k 0)) := by rw [ez]; exact hcg k hkx
      refine ⟨by omega, by omega, needPtr_of rfl ⟨_, hcell, sel_of (fun h3 => ⟨false, rfl, fol_right (i := q) (by omega) ?_, hS6.frame⟩) (fun h3 => ?_)⟩⟩
      · intro hr
        rw [(hB0 k hkx).2 (hRq.1 hr).1] at h3; cases h3
      have hnt : (k : Int) ∉ ord.take q := (hB0 k hkx).1 (bne_eq_false_iff_eq.1 h3)
      rw [inc q y.2.1 (by omega) (by omega)]
      obtain ⟨g', hg', hcan, hS7⟩ := hS6.lsSet 1 rfl (k := k) (by omega) (((q + 1 : Nat)) : Int)
      simp only [Option.some.injEq, Addr.mk.injEq, and_true] at hg'
      subst hg'
      refine ⟨by omega, by omega, needPtr_of rfl ⟨by rw [ez]; exact hcan, ?_⟩⟩
      rw [ez]
      generalize setCs w6 g k [encI ((q + 1 : Nat) : Int)] = w7 at *
      replace hS7 : St [] w w7 (Chunk.blk b2 u.cells 28 :: Chunk.ls encI 3 (.slice (some ⟨g, 0, none⟩) x.2.1 x.2.1) (B.set k ((q + 1 : Nat) : Int)) :: []) := hS7
      have hpk : polAt p l (k : Int) = cPol (l.getD k cd) := by unfold polAt; rw [if_pos (by omega)]; rfl
      have hans : ansI p l (JL.lastOf (histOf p l) (ord.take q), (k : Int)) = allowsB geF ltF (polAt p l (JL.lastOf (histOf p l) (ord.take q))) (cTri (l.getD k cd)) := rfl
      have hsk : SmallP (cPol (l.getD k cd)) := sc.p _ ((mem_getD cd _ _).2 ⟨k, by omega, rfl⟩)
      have hB' : ∀ a : Nat, a < x.2.1 → ((B.set k ((q + 1 : Nat) : Int)).getD a 0 = 0 ↔ (a : Int) ∉ ord.take (q + 1)) := fun a ha => by
        rw [hts, List.mem_append, List.mem_singleton, not_or, ← hB0 a ha, List.getD_eq_getElem?_getD, List.getElem?_set]
        by_cases hka : k = a
        · subst hka
          rw [if_pos rfl, if_pos (by omega), Option.getD_some]
          constructor
          · intro h; omega
          · rintro ⟨_, h⟩; exact absurd rfl h
        · rw [if_neg hka, ← List.getD_eq_getElem?_getD]
          constructor
          · intro h; exact ⟨h, by omega⟩
          · rintro ⟨h, _⟩; exact h
      have next : RightAt (histOf p l) ord q → ∀ (w' : World) (u' : PV), InP w u' (polAt p l (JL.lastOf (histOf p l) (ord.take (q + 1)))) → SmallP (polAt p l (JL.lastOf (histOf p l) (ord.take (q + 1)))) → St [] w w' (Chunk.blk b2 u'.cells 28 :: Chunk.ls encI 3 (.slice (some ⟨g, 0, none⟩) x.2.1 x.2.1) (B.set k ((q + 1 : Nat) : Int)) :: []) →
          ∃ m, m < r ∧ ∃ (q' : Nat) (B : List Int) (u : PV), ((q + 1 : Nat) : Int) = (q' : Int) ∧ q' + m = y.2.1 ∧ B.length = x.2.1 ∧ (∀ a : Nat, a < x.2.1 → (B.getD a 0 = 0 ↔ (a : Int) ∉ ord.take q')) ∧ (∀ a, a < q' → RightAt (histOf p l) ord a) ∧
          InP w u (polAt p l (JL.lastOf (histOf p l) (ord.take q'))) ∧ SmallP (polAt p l (JL.lastOf (histOf p l) (ord.take q'))) ∧ St [] w w' (Chunk.blk b2 u.cells 28 :: Chunk.ls encI 3 (.slice (some ⟨g, 0, none⟩) x.2.1 x.2.1) B :: []) := fun hr w' u' g1 g2 g3 =>
        ⟨r - 1, by omega, q + 1, _, u', rfl, by omega, by simp [hBl], hB', fun a ha => by
          rcases Nat.lt_or_ge a q with h | h
          · exact hR a h
          · have : a = q := by omega
            rw [this]; exact hr, g1, g2, g3⟩
      clear hB0 hB'
      obtain ⟨bb, oo, hA, hc⟩ := RdL.call hc0 (by omega)
      obtain ⟨vc, hv, _, _, hc1⟩ := hc k (by omega)
      have hmem : l.getD k cd ∈ l := (mem_getD cd _ _).2 ⟨k, by omega, rfl⟩
      have hc := fun j y h => hS7.frame.cell (hc1 j y h)
      generalize hcl : l.getD k cd = cl at *
      have hT := hS7.alloc #[.int .i64 0, .int .i64 0, .bool false, .bool false, .bool false, .slice none 0 0, .slice none 0 0, .slice none 0 0, .slice none 0 0, .slice none 0 0, .slice none 0 0, .slice none 0 0, .slice none 0 0, .slice none 0 0, .slice none 0 0, .slice none 0 0, .string ⟨#[]⟩, .string ⟨#[]⟩, .string ⟨#[]⟩] 39
      have hS9 := hT.over 0 rfl (calV cl vc) rfl
      refine ⟨by omega, by omega, needPtr_of hA ⟨_, hc 0 _ rfl, _, hc 1 _ rfl, _, hc 2 _ rfl, _, hc 3 _ rfl, _, hc 4 _ rfl, _, _, _, hc 5 _ rfl, _, _, _, hc 6 _ rfl, _, _, _, hc 7 _ rfl, _, _, _, hc 8 _ rfl, _, _, _, hc 9 _ rfl, _, _, _, hc 10 _ rfl, _, _, _, hc 11 _ rfl, _, _, _, hc 12 _ rfl, _, _, _, hc 13 _ rfl, _, _, _, hc 14 _ rfl, _, _, _, hc 15 _ rfl, _, hc 16 _ rfl, _, hc 17 _ rfl, _, hc 18 _ rfl, (hT.blk 0 rfl).can (by decide), ?_⟩⟩
      generalize World.alloc w7 (.cells #[.int .i64 0, .int .i64 0, .bool false, .bool false, .bool false, .slice none 0 0, .slice none 0 0, .slice none 0 0, .slice none 0 0, .slice none 0 0, .slice none 0 0, .slice none 0 0, .slice none 0 0, .slice none 0 0, .slice none 0 0, .slice none 0 0, .string ⟨#[]⟩, .string ⟨#[]⟩, .string ⟨#[]⟩] 39) = w8 at *
      generalize w7.heap.size = b3 at *
      change St [] w (setCs w8 b3 0 [.int .i64 cl.1, .int .i64 cl.2.1, .bool cl.2.2.1, .bool cl.2.2.2.1, .bool cl.2.2.2.2.1, .slice vc.a.1 vc.a.2.1 vc.a.2.2, .slice vc.s.1 vc.s.2.1 vc.s.2.2, .slice vc.r.1 vc.r.2.1 vc.r.2.2, .slice vc.o.1 vc.o.2.1 vc.o.2.2, .slice vc.g.1 vc.g.2.1 vc.g.2.2, .slice vc.m.1 vc.m.2.1 vc.m.2.2, .slice vc.i.1 vc.i.2.1 vc.i.2.2, .slice vc.q.1 vc.q.2.1 vc.q.2.2, .slice vc.t.1 vc.t.2.1 vc.t.2.2, .slice vc.u.1 vc.u.2.1 vc.u.2.2, .slice vc.e.1 vc.e.2.1 vc.e.2.2, .string cl.2.2.2.2.2.2.1.1, .string cl.2.2.2.2.2.2.1.2.1, .string cl.2.2.2.2.2.2.1.2.2.1]) _ at hS9
      generalize setCs w8 b3 0 [.int .i64 cl.1, .int .i64 cl.2.1, .bool cl.2.2.1, .bool cl.2.2.2.1, .bool cl.2.2.2.2.1, .slice vc.a.1 vc.a.2.1 vc.a.2.2, .slice vc.s.1 vc.s.2.1 vc.s.2.2, .slice vc.r.1 vc.r.2.1 vc.r.2.2, .slice vc.o.1 vc.o.2.1 vc.o.2.2, .slice vc.g.1 vc.g.2.1 vc.g.2.2, .slice vc.m.1 vc.m.2.1 vc.m.2.2, .slice vc.i.1 vc.i.2.1 vc.i.2.2, .slice vc.q.1 vc.q.2.1 vc.q.2.2, .slice vc.t.1 vc.t.2.1 vc.t.2.2, .slice vc.u.1 vc.u.2.1 vc.u.2.2, .slice vc.e.1 vc.e.2.1 vc.e.2.2, .string cl.2.2.2.2.2.2.1.1, .string cl.2.2.2.2.2.2.1.2.1, .string cl.2.2.2.2.2.2.1.2.2.1] = w9 at *
      replace hS9 : St [] w w9 (Chunk.blk b3 (calV cl vc).toArray 39 :: Chunk.blk b2 u.cells 28 :: Chunk.ls encI 3 (.slice (some ⟨g, 0, none⟩) x.2.1 x.2.1) (B.set k ((q + 1 : Nat) : Int)) :: []) := hS9
      have hBc := hS9.blk 0 rfl
      refine ⟨fun b w' => b = (!cWrite cl && !(ansI p l (JL.lastOf (histOf p l) (ord.take q), (k : Int)) == cAllowed cl)) ∧ St [] w w' (Chunk.blk b3 (calV cl vc).toArray 39 :: Chunk.blk b2 u.cells 28 :: Chunk.ls encI 3 (.slice (some ⟨g, 0, none⟩) x.2.1 x.2.1) (B.set k ((q + 1 : Nat) : Int)) :: []), ⟨_, hBc.cell rfl, sel_of (fun h4 => ?_) (fun h4 => ⟨rfl, ?_, hS9.drew⟩)⟩, ?_⟩
      · have hBu := hS9.blk 1 rfl
        refine ⟨_, _, _, hBu.cell rfl, _, _, _, hBu.cell rfl, _, _, _, hBu.cell rfl, _, _, _, hBu.cell rfl, _, _, _, hBu.cell rfl, _, _, _, hBu.cell rfl, _, _, _, hBu.cell rfl, _, _, _, hBu.cell rfl, _, _, _, hBu.cell rfl, _, _, _, hBu.cell rfl, _, _, _, hBu.cell rfl, _, hBc.cell rfl, _, hBc.cell rfl, _, hBc.cell rfl, _, hBc.cell rfl, Calls.mono (hS9.drew.step0 (allowsC (hu.fr (hS9.drew).frame) hsp _ _ _)) ?_⟩
        rintro _ w10 ⟨rfl, hS10⟩
        have hBc := hS10.blk 0 rfl
        have hBu := hS10.blk 1 rfl
        refine ⟨_, rfl, ?_, rfl, ?_, hS10⟩
        · repeat' (first | exact trivial | exact hBc.cell rfl | exact hBu.cell rfl | refine ⟨?_, ?_⟩)
        · rw [show (!cWrite cl) = true from h4, hans]; rfl
      · rw [show (!cWrite cl) = false from h4]; rfl
      · rintro _ b55 w11 ⟨rfl, hS11⟩
        have hBc := hS11.blk 0 rfl
        refine sel_of (fun h5 => ⟨false, rfl, fol_right (i := q) (by omega) ?_, hS11.frame⟩) (fun h5 => ?_)
        · intro hr
          rcases (hRq.1 hr).2 with h | h <;> rw [h] at h5 <;> simp at h5
        have hRA : RightAt (histOf p l) ord q := hRq.2 ⟨hnt, by
          cases hw : cWrite cl with
          | true => exact .inl rfl
          | false => rw [hw] at h5; exact .inr (by simpa using h5)⟩
        refine ⟨_, hBc.cell rfl, sel_of (fun h6 => ⟨_, hBc.cell rfl, sel_of (fun h7 => ?_) (fun h7 => ⟨rfl, next hRA w11 u ?_ ?_ hS11.tail⟩)⟩) (fun h6 => ⟨rfl, next hRA w11 u ?_ ?_ hS11.tail⟩)⟩
        · have hlk : JL.lastOf (histOf p l) (ord.take (q + 1)) = (k : Int) := by rw [hlast, show cWrite cl = true from h6, show (!cFailed cl) = true from h7]; rfl
          refine ⟨_, _, _, hBc.cell rfl, _, _, _, hBc.cell rfl, _, _, _, hBc.cell rfl, _, _, _, hBc.cell rfl, _, _, _, hBc.cell rfl, _, _, _, hBc.cell rfl, _, _, _, hBc.cell rfl, _, _, _, hBc.cell rfl, _, _, _, hBc.cell rfl, _, _, _, hBc.cell rfl, _, _, _, hBc.cell rfl, (hS11.blk 1 rfl).can (by simp), rfl, next hRA _ vc ?_ ?_ (hS11.over 1 rfl vc.l rfl).tail⟩
          · rw [hlk, hpk]; exact hv
          · rw [hlk, hpk]; exact hsk
        · rw [show JL.lastOf (histOf p l) (ord.take (q + 1)) = JL.lastOf (histOf p l) (ord.take q) by rw [hlast, show (!cFailed cl) = false from h7, Bool.and_false]; rfl]; exact hu
        · rw [show JL.lastOf (histOf p l) (ord.take (q + 1)) = JL.lastOf (histOf p l) (ord.take q) by rw [hlast, show (!cFailed cl) = false from h7, Bool.and_false]; rfl]; exact hsp
        · rw [show JL.lastOf (histOf p l) (ord.take (q + 1)) = JL.lastOf (histOf p l) (ord.take q) by rw [hlast, show cWrite cl = false from h6]; rfl]; exact hu
        · rw [show JL.lastOf (histOf p l) (ord.take (q + 1)) = JL.lastOf (histOf p l) (ord.take q) by rw [hlast, show cWrite cl = false from h6]; rfl]; exact hsp
    · have hi : q = y.2.1 := by have := of_decide_eq_false hd; omega
      have hRight : JL.Right (histOf p l) ord := fun a ha => hR a (by omega)
      have hBm : ∀ a : Nat, a < x.2.1 → (B.getD a 0 = 0 ↔ (a : Int) ∉ ord) := fun a ha => by
        rw [hB0 a ha, List.take_of_length_le (by omega)]
      clear hR hB0 hd hu hsp hq
      have htm : ∀ a : Nat, JL.Timely (histOf p l) ord → a < ord.length → ∀ b, b ≤ a → ¬ (0 ≤ cEnded (l.getD (ord.getD a 0).toNat cd) ∧ cEnded (l.getD (ord.getD a 0).toNat cd) < cBegan (l.getD (ord.getD b 0).toNat cd)) := fun a ht ha b hb => ht a ha b hb
      refine ⟨fun la j w' r => St [] w w' (Chunk.blk b2 u.cells 28 :: Chunk.ls encI 3 (.slice (some ⟨g, 0, none⟩) x.2.1 x.2.1) B :: []) ∧ ∃ q : Nat, j = (q : Int) ∧ q + r = y.2.1 ∧ 0 ≤ la ∧ (∀ a, a < q → cBegan (l.getD (ord.getD a 0).toNat cd) ≤ la) ∧ (la = 0 ∨ ∃ a, a < q ∧ la = cBegan (l.getD (ord.getD a 0).toNat cd)) ∧
        (∀ a, a < q → ∀ b, b ≤ a → ¬ (0 ≤ cEnded (l.getD (ord.getD a 0).toNat cd) ∧ cEnded (l.getD (ord.getD a 0).toNat cd) < cBegan (l.getD (ord.getD b 0).toNat cd))), ⟨y.2.1, hS6, 0, rfl, by omega, by omega, fun a ha => by omega, .inl rfl, fun a ha => by omega⟩, ?_⟩
      clear hS6 hi q w6
      rintro d la i w6 r ⟨hS6, q, rfl, hq, hla, hmx, hex, hti⟩
      refine sel_of (fun hd => ?_) (fun hd => ?_)
      · have hi : q < y.2.1 := by have := of_decide_eq_true hd; omega
        obtain ⟨by', oy, hAy, hcy⟩ := RdL.int (hy.fr hS6.frame) (by omega)
        obtain ⟨k1, k2, _, _⟩ := hRight q (by omega)
        have k2 : ord.getD q 0 < (l.length : Int) := k2
        obtain ⟨k, hk⟩ : ∃ k : Nat, ord.getD q 0 = (k : Int) := ⟨(ord.getD q 0).toNat, by omega⟩
        rw [hk] at k1 k2
        have hek : (ord.getD q 0).toNat = k := by rw [hk]; rfl
        obtain ⟨bb, oo, hA, hc⟩ := RdL.call hc0 (by omega)
        obtain ⟨vc, _, _, _, hc1⟩ := hc k (by omega)
        have hc := fun j y h => hS6.frame.cell (hc1 j y h)
        clear hc1
        have hup : ∀ a, a < q + 1 → a < q ∨ a = q := fun a ha => by omega
        refine ⟨by omega, by omega, needPtr_of hAy ⟨_, hcy q hi, ?_⟩⟩
        rw [hk, inc q y.2.1 (by omega) (by omega)]
        have hbq : cBegan (l.getD (ord.getD q 0).toNat cd) = cBegan (l.getD k cd) := by rw [hek]
        have heq : cEnded (l.getD (ord.getD q 0).toNat cd) = cEnded (l.getD k cd) := by rw [hek]
        have hcb := hc 0 _ rfl
        have hce := hc 1 _ rfl
        change w6.cell? ⟨bb, oo + k * 19 + 0, none⟩ = some (.int .i64 (cBegan (l.getD k cd))) at hcb
        change w6.cell? ⟨bb, oo + k * 19 + 1, none⟩ = some (.int .i64 (cEnded (l.getD k cd))) at hce
        clear hc
        generalize cBegan (l.getD k cd) = bg at *
        generalize cEnded (l.getD k cd) = en at *
        have next : (∀ b, b ≤ q → ¬ (0 ≤ en ∧ en < cBegan (l.getD (ord.getD b 0).toNat cd))) → ∃ m, m < r ∧ St [] w w6 (Chunk.blk b2 u.cells 28 :: Chunk.ls encI 3 (.slice (some ⟨g, 0, none⟩) x.2.1 x.2.1) B :: []) ∧ ∃ q' : Nat, ((q + 1 : Nat) : Int) = (q' : Int) ∧ q' + m = y.2.1 ∧ 0 ≤ max la bg ∧ (∀ a, a < q' → cBegan (l.getD (ord.getD a 0).toNat cd) ≤ max la bg) ∧ (max la bg = 0 ∨ ∃ a, a < q' ∧ max la bg = cBegan (l.getD (ord.getD a 0).toNat cd)) ∧
            (∀ a, a < q' → ∀ b, b ≤ a → ¬ (0 ≤ cEnded (l.getD (ord.getD a 0).toNat cd) ∧ cEnded (l.getD (ord.getD a 0).toNat cd) < cBegan (l.getD (ord.getD b 0).toNat cd))) := fun h => by
          refine ⟨r - 1, by omega, hS6, q + 1, rfl, by omega, by omega, fun a ha => ?_, ?_, fun a ha b hb => ?_⟩
          · rcases hup a ha with h1 | rfl
            · have := hmx a h1; omega
            · rw [hbq]; omega
          · rcases Int.le_total la bg with h1 | h1
            · exact .inr ⟨q, by omega, by rw [hbq]; omega⟩
            · rcases hex with h2 | ⟨a, ha, h2⟩
              · exact .inl (by omega)
              · exact .inr ⟨a, by omega, by omega⟩
          · rcases hup a ha with h1 | rfl
            · exact hti a h1 b hb
            · rw [heq]; exact h b hb
        refine ⟨by omega, by omega, needPtr_of hA ⟨_, hcb, _, _, run_max _ _ _, by omega, by omega, needPtr_of hA ⟨_, hce, sel_of (fun h1 => ⟨by omega, by omega, needPtr_of hA ⟨_, hce, sel_of (fun h2 => ⟨false, rfl, ⟨(fun h => by cases h), fun hF => ?_⟩, hS6.frame⟩) (fun h2 => ⟨rfl, next fun b hb => ?_⟩)⟩⟩) (fun h1 => ⟨rfl, next fun b hb => ?_⟩)⟩⟩⟩
        · have h1 := of_decide_eq_true h1
          have h2 := of_decide_eq_true h2
          have ht := htm q hF.2.2.1 (by omega)
          rcases Int.le_total la bg with h3 | h3
          · exact absurd (ht q (Nat.le_refl _)) (by rw [heq, hbq]; exact not_not_intro ⟨h1, by omega⟩)
          · rcases hex with h4 | ⟨a, ha, h4⟩
            · omega
            · exact absurd (ht a (by omega)) (by rw [heq, ← h4]; exact not_not_intro ⟨h1, by omega⟩)
        · have h2 := of_decide_eq_false h2
          rcases Nat.lt_or_ge b q with h3 | h3
          · have := hmx b h3; omega
          · have : b = q := by omega
            rw [this, hbq]; omega
        · have h1 := of_decide_eq_false h1; omega
      · have hi : q = y.2.1 := by have := of_decide_eq_false hd; omega
        have hTime : JL.Timely (histOf p l) ord := fun a ha b hb => hti a (by omega) b hb
        clear hmx hex hti htm hd
        refine ⟨fun i w' r => St [] w w' (Chunk.blk b2 u.cells 28 :: Chunk.ls encI 3 (.slice (some ⟨g, 0, none⟩) x.2.1 x.2.1) B :: []) ∧ ∃ q : Nat, i = (q : Int) ∧ q + r = x.2.1 ∧ ∀ a : Nat, a < q → 0 ≤ cEnded (l.getD a cd) → (a : Int) ∈ ord, ⟨x.2.1, hS6, 0, rfl, by omega, fun a ha => by omega⟩, ?_⟩
        clear hS6 hi hq q w6
        rintro d i w6 r ⟨hS6, q, rfl, hq, hfu⟩
        refine sel_of (fun hd => ?_) (fun hd => ?_)
        · have hi : q < x.2.1 := by have := of_decide_eq_true hd; omega
          have hup : ∀ a, a < q + 1 → a < q ∨ a = q := fun a ha => by omega
          rw [inc q x.2.1 (by omega) (by omega)]
          obtain ⟨g', hg', hcg⟩ := hS6.lsGet (0 : Int) 1 rfl (by omega)
          simp only [Option.some.injEq, Addr.mk.injEq, and_true] at hg'
          subst hg'
          clear hcg
          have next : (0 ≤ cEnded (l.getD q cd) → (q : Int) ∈ ord) → ∀ w', St [] w w' (Chunk.blk b2 u.cells 28 :: Chunk.ls encI 3 (.slice (some ⟨g, 0, none⟩) x.2.1 x.2.1) B :: []) → ∃ m, m < r ∧ St [] w w' (Chunk.blk b2 u.cells 28 :: Chunk.ls encI 3 (.slice (some ⟨g, 0, none⟩) x.2.1 x.2.1) B :: []) ∧ ∃ q' : Nat, ((q + 1 : Nat) : Int) = (q' : Int) ∧ q' + m = x.2.1 ∧ ∀ a : Nat, a < q' → 0 ≤ cEnded (l.getD a cd) → (a : Int) ∈ ord := fun h w' hw =>
            ⟨r - 1, by omega, hw, q + 1, rfl, by omega, fun a ha => (hup a ha).elim (hfu a) fun e => by rw [e]; exact h⟩
          have hbad : 0 ≤ cEnded (l.getD q cd) → (q : Int) ∉ ord → Fol p l ord false := fun h1 h2 => ⟨(fun h => by cases h), fun hF => absurd (hF.2.2.2 q (show q < l.length by omega) h1) h2⟩
          obtain ⟨bb, oo, hA, hc⟩ := RdL.call hc0 (by omega)
          obtain ⟨vc, hv, _, _, hc1⟩ := hc q hi
          have hmem : l.getD q cd ∈ l := (mem_getD cd _ _).2 ⟨q, by omega, rfl⟩
          have hc := fun j y h => hS6.frame.cell (hc1 j y h)
          generalize hcl : l.getD q cd = cl at *
          have hT := hS6.alloc #[.int .i64 0, .int .i64 0, .bool false, .bool false, .bool false, .slice none 0 0, .slice none 0 0, .slice none 0 0, .slice none 0 0, .slice none 0 0, .slice none 0 0, .slice none 0 0, .slice none 0 0, .slice none 0 0, .slice none 0 0, .slice none 0 0, .string ⟨#[]⟩, .string ⟨#[]⟩, .string ⟨#[]⟩] 39
          have hS9 := hT.over 0 rfl (calV cl vc) rfl
          refine ⟨by omega, by omega, needPtr_of hA ⟨_, hc 0 _ rfl, _, hc 1 _ rfl, _, hc 2 _ rfl, _, hc 3 _ rfl, _, hc 4 _ rfl, _, _, _, hc 5 _ rfl, _, _, _, hc 6 _ rfl, _, _, _, hc 7 _ rfl, _, _, _, hc 8 _ rfl, _, _, _, hc 9 _ rfl, _, _, _, hc 10 _ rfl, _, _, _, hc 11 _ rfl, _, _, _, hc 12 _ rfl, _, _, _, hc 13 _ rfl, _, _, _, hc 14 _ rfl, _, _, _, hc 15 _ rfl, _, hc 16 _ rfl, _, hc 17 _ rfl, _, hc 18 _ rfl, (hT.blk 0 rfl).can (by decide), ?_⟩⟩
          generalize World.alloc w6 (.cells #[.int .i64 0, .int .i64 0, .bool false, .bool false, .bool false, .slice none 0 0, .slice none 0 0, .slice none 0 0, .slice none 0 0, .slice none 0 0, .slice none 0 0, .slice none 0 0, .slice none 0 0, .slice none 0 0, .slice none 0 0, .slice none 0 0, .string ⟨#[]⟩, .string ⟨#[]⟩, .string ⟨#[]⟩] 39) = w8 at *
          generalize w6.heap.size = b3 at *
          change St [] w (setCs w8 b3 0 [.int .i64 cl.1, .int .i64 cl.2.1, .bool cl.2.2.1, .bool cl.2.2.2.1, .bool cl.2.2.2.2.1, .slice vc.a.1 vc.a.2.1 vc.a.2.2, .slice vc.s.1 vc.s.2.1 vc.s.2.2, .slice vc.r.1 vc.r.2.1 vc.r.2.2, .slice vc.o.1 vc.o.2.1 vc.o.2.2, .slice vc.g.1 vc.g.2.1 vc.g.2.2, .slice vc.m.1 vc.m.2.1 vc.m.2.2, .slice vc.i.1 vc.i.2.1 vc.i.2.2, .slice vc.q.1 vc.q.2.1 vc.q.2.2, .slice vc.t.1 vc.t.2.1 vc.t.2.2, .slice vc.u.1 vc.u.2.1 vc.u.2.2, .slice vc.e.1 vc.e.2.1 vc.e.2.2, .string cl.2.2.2.2.2.2.1.1, .string cl.2.2.2.2.2.2.1.2.1, .string cl.2.2.2.2.2.2.1.2.2.1]) _ at hS9
          generalize setCs w8 b3 0 [.int .i64 cl.1, .int .i64 cl.2.1, .bool cl.2.2.1, .bool cl.2.2.2.1, .bool cl.2.2.2.2.1, .slice vc.a.1 vc.a.2.1 vc.a.2.2, .slice vc.s.1 vc.s.2.1 vc.s.2.2, .slice vc.r.1 vc.r.2.1 vc.r.2.2, .slice vc.o.1 vc.o.2.1 vc.o.2.2, .slice vc.g.1 vc.g.2.1 vc.g.2.2, .slice vc.m.1 vc.m.2.1 vc.m.2.2, .slice vc.i.1 vc.i.2.1 vc.i.2.2, .slice vc.q.1 vc.q.2.1 vc.q.2.2, .slice vc.t.1 vc.t.2.1 vc.t.2.2, .slice vc.u.1 vc.u.2.1 vc.u.2.2, .slice vc.e.1 vc.e.2.1 vc.e.2.2, .string cl.2.2.2.2.2.2.1.1, .string cl.2.2.2.2.2.2.1.2.1, .string cl.2.2.2.2.2.2.1.2.2.1] = w9 at *
          replace hS9 : St [] w w9 (Chunk.blk b3 (calV cl vc).toArray 39 :: Chunk.blk b2 u.cells 28 :: Chunk.ls encI 3 (.slice (some ⟨g, 0, none⟩) x.2.1 x.2.1) B :: []) := hS9
          have hBc := hS9.blk 0 rfl
          obtain ⟨g', hg', hcg⟩ := hS9.lsGet (0 : Int) 2 rfl (by omega)
          simp only [Option.some.injEq, Addr.mk.injEq, and_true] at hg'
          subst hg'
          have hcell : w9.cell? ⟨g, 0 + (q : Int).toNat * 1, none⟩ = some (.int .i64 (B.getD q 0)) := by rw [show 0 + (q : Int).toNat * 1 = q by simp]; exact hcg q hi
          refine ⟨_, hBc.cell rfl, sel_of (fun h1 => ⟨by omega, by omega, needPtr_of rfl ⟨_, hcell, sel_of (fun h2 => ⟨false, rfl, hbad (of_decide_eq_true h1) ?_, hS9.frame⟩) (fun h2 => ⟨rfl, next (fun _ => ?_) _ hS9.tail⟩)⟩⟩) (fun h1 => ⟨rfl, next (fun h => ?_) _ hS9.tail⟩)⟩
          · have h2 : B.getD q 0 = 0 := eq_of_beq h2
            exact (hBm q hi).1 h2
          · have h2 : B.getD q 0 ≠ 0 := beq_eq_false_iff_ne.1 h2
            exact Classical.byContradiction fun h => h2 ((hBm q hi).2 h)
          · exact absurd h (of_decide_eq_false h1)
        · have hi : q = x.2.1 := by have := of_decide_eq_false hd; omega
          exact ⟨true, rfl, ⟨fun _ => ⟨hh, hRight, hTime, fun k hk h => hfu k (by have : k < l.length := hk; omega) h⟩, fun _ => rfl⟩, hS6.frame⟩
  · rintro e w' ⟨v, rfl, m, rfl, h⟩; exact ⟨m, rfl, h⟩
end JG
end Go.Proofs.Ytddbebhklmaeoaa
/- Follows, as the document has it. -/
set_option linter.unusedVariables false
set_option linter.unusedSimpArgs false
set_option maxRecDepth 10000
namespace Go.Proofs.Ytddbebhklmaeoaa
open Go Go.Proofs.Ytddbebhklmaeoaa.Vc
namespace JG
open Vc.PG JD
end JG
end Go.Proofs.Ytddbebhklmaeoaa
/- The document's search: the table, full, step. -/
set_option linter.unusedVariables false
set_option linter.unusedSimpArgs false
set_option maxRecDepth 10000
namespace Go.Proofs.Ytddbebhklmaeoaa
open Go Go.Proofs.Ytddbebhklmaeoaa.Vc
namespace JG
open Vc.PG JD
/-- What a table says: what the policy behind a write that counts answers a check. -/
noncomputable def tabB (p : PolD) (l : List CalD) (last : Int) (k : Nat) : Bool := !cWrite (l.getD k cd) && (decide (last < 0) || (cWrite (l.getD last.toNat cd) && !cFailed (l.getD last.toNat cd))) && ansI p l (last, (k : Int))
noncomputable def tabP (p : PolD) (l : List CalD) : List (List Bool) := (List.range (l.length + 1)).map fun i : Nat => (List.range l.length).map (tabB p l ((i : Int) - 1))
/-- A table that is read. -/
structure TabAt (w : World) (t : Nat) (x y : Sl) (p : PolD) (l : List CalD) : Prop where
  blk : Blk w t #[x.v, y.v] 117
  cal : RdL calT w x l
  yes : RdL (.sl .bool) w y (tabP p l)
theorem TabAt.fr {w w' : World} {t : Nat} {x y : Sl} {p : PolD} {l : List CalD} (h : TabAt w t x y p l) (hf : Fr [] w w') : TabAt w' t x y p l := ⟨hf.blk h.blk (by simp), h.cal.fr hf, h.yes.fr hf⟩
section
variable {p : PolD} {l : List CalD} {S k : Nat} {last z0 z1 : Int}
end
end JG
end Go.Proofs.Ytddbebhklmaeoaa
/- The document's table. -/
set_option linter.unusedVariables false
set_option linter.unusedSimpArgs false
set_option maxRecDepth 10000
namespace Go.Proofs.Ytddbebhklmaeoaa
open Go Go.Proofs.Ytddbebhklmaeoaa.Vc
namespace JG
open Vc.PG JD
end JG
end Go.Proofs.Ytddbebhklmaeoaa
/- Which states lead on. -/
set_option linter.unusedVariables false
set_option linter.unusedSimpArgs false
set_option maxRecDepth 10000
namespace Go.Proofs.Ytddbebhklmaeoaa
open Go Go.Proofs.Ytddbebhklmaeoaa.Vc
namespace JG
open Vc.PG JD
end JG
end Go.Proofs.Ytddbebhklmaeoaa
/- Linear, as the document has it. -/
set_option linter.unusedVariables false
set_option linter.unusedSimpArgs false
set_option maxRecDepth 10000
namespace Go.Proofs.Ytddbebhklmaeoaa
open Go Go.Proofs.Ytddbebhklmaeoaa.Vc
namespace JG
open Vc.PG JD
section
variable {H : JL.Hist}
end
end JG
end Go.Proofs.Ytddbebhklmaeoaa
