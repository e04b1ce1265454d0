/- Small functions of the statements. -/
import Derived.Test.YtddbebhklmaeoaaM22
set_option linter.unusedVariables false
set_option linter.unusedSimpArgs false
set_option maxRecDepth 10000
namespace Go.Proofs.Ytddbebhklmaeoaa
open Go Go.Proofs.Ytddbebhklmaeoaa.Vc
namespace JG
open Vc.PG JD
abbrev bX : ByteArray := ⟨#[120]⟩
abbrev bA : ByteArray := ⟨#[97]⟩
abbrev bO : ByteArray := ⟨#[111]⟩
abbrev one64 : Nat := 4607182418800017408
abbrev ruleO : RuleD := (false, bA, bO, [], 0, 0, ())
abbrev shutP : PolD := ([bX], [(bA, one64, ())], [], [bO], [], [], [], [], [], [], [], ())
abbrev openP : PolD := ([bX], [(bA, one64, ())], [], [bO], [], [], [], [], [], [ruleO], [], ())
abbrev entT : TriD := (bA, bO, bX, ())
theorem open_allows : allowsB geF ltF openP entT = true := by
  refine (allowsB_iff _ _ _ _).2 ⟨one64, if_pos rfl, List.mem_singleton.2 rfl, List.mem_singleton.2 rfl, ⟨ruleO, List.mem_singleton.2 rfl, ⟨.refl, .refl, rfl⟩, .inl rfl⟩, fun r hr _ _ => ?_, fun h => by cases h⟩
  have : r = ruleO := List.mem_singleton.1 hr
  rw [this]
theorem shut_allows : allowsB geF ltF shutP entT = false := by
  cases h : allowsB geF ltF shutP entT with
  | false => rfl
  | true =>
    obtain ⟨_, _, _, _, ⟨r, hr, _⟩, _⟩ := (allowsB_iff _ _ _ _).1 h
    cases hr
theorem shut_small : SmallP shutP := ⟨by decide, by decide, by decide, by decide, by decide, by decide, by decide, by decide, by decide, by decide, by decide, fun r hr => by cases hr⟩
theorem open_small : SmallP openP := ⟨by decide, by decide, by decide, by decide, by decide, by decide, by decide, by decide, by decide, by decide, by decide, fun r hr => by
  have : r = ruleO := List.mem_singleton.1 hr
  rw [this]; decide⟩
theorem rdl_blk {e : Ty} {w : World} {b : Nat} {T : TypeId} (rs : List (List Value)) (l : List (Den e)) (hB : Blk w b rs.flatten.toArray T) (hrs : ∀ r ∈ rs, r.length = e.w) (hl : rs.length = l.length) (hm : rs.length ≤ maxLen) (hr : ∀ q, q < l.length → Rd w e (rs.getD q []) (l.getD q (Den.dflt e))) : RdL e w (some ⟨b, 0, none⟩, rs.length, rs.length) l :=
  sl_reads (F := [b]) T (sl_of_blk (F := [b]) rs hrs hm ⟨rfl, hB⟩) hl hr
theorem rdl_one {e : Ty} {w : World} {b : Nat} {T : TypeId} (r : List Value) (d : Den e) (hB : Blk w b r.toArray T) (hr : Rd w e r d) : RdL e w (some ⟨b, 0, none⟩, 1, 1) [d] :=
  rdl_blk [r] [d] (by simpa using hB) (fun x hx => by rw [List.mem_singleton.1 hx]; exact hr.len) rfl (by simp [maxLen]) (fun q hq => by
    have : q = 0 := by simp at hq; exact hq
    subst this; exact hr)
theorem shutR {w : World} : Calls Try.prog 24 #[] w fun e w' => ∃ u : PV, e = .returned u.v ∧ St [] w w' [kP u shutP] := by
  refine Calls.mono (f24.calls (R := fun e w' => ∃ u : PV, e = u.v ∧ St [] w w' [kP u shutP]) ?_) ?_
  · dsimp only [f24.VC]
    have hS := (((St.start w).alloc #[.slice none 0 0, .slice none 0 0, .slice none 0 0, .slice none 0 0, .slice none 0 0, .slice none 0 0, .slice none 0 0, .slice none 0 0, .slice none 0 0, .slice none 0 0, .slice none 0 0] 28).alloc #[.string bX] 9).alloc #[.string bA, .float .f64 one64] 110 |>.alloc #[.string bO] 9
    generalize World.alloc w (.cells #[.slice none 0 0, .slice none 0 0, .slice none 0 0, .slice none 0 0, .slice none 0 0, .slice none 0 0, .slice none 0 0, .slice none 0 0, .slice none 0 0, .slice none 0 0, .slice none 0 0] 28) = w1 at *
    generalize w.heap.size = b0 at *
    generalize World.alloc w1 (.cells #[.string bX] 9) = w2 at *
    generalize w1.heap.size = b1 at *
    generalize World.alloc w2 (.cells #[.string bA, .float .f64 one64] 110) = w3 at *
    generalize w2.heap.size = b2 at *
    generalize World.alloc w3 (.cells #[.string bO] 9) = w4 at *
    generalize w3.heap.size = b3 at *
    obtain ⟨u, hu⟩ : ∃ u : PV, u = ⟨(some ⟨b1, 0, none⟩, 1, 1), (some ⟨b2, 0, none⟩, 1, 1), nilS, (some ⟨b3, 0, none⟩, 1, 1), nilS, nilS, nilS, nilS, nilS, nilS, nilS⟩ := ⟨_, rfl⟩
    have hS5 := hS.over 3 rfl u.l rfl
    have hB := hS5.blk 3 rfl
    refine ⟨(hS.blk 3 rfl).can (by simp), ?_⟩
    have e : ([.slice u.a.1 u.a.2.1 u.a.2.2, .slice u.s.1 u.s.2.1 u.s.2.2, .slice u.r.1 u.r.2.1 u.r.2.2, .slice u.o.1 u.o.2.1 u.o.2.2, .slice u.g.1 u.g.2.1 u.g.2.2, .slice u.m.1 u.m.2.1 u.m.2.2, .slice u.i.1 u.i.2.1 u.i.2.2, .slice u.q.1 u.q.2.1 u.q.2.2, .slice u.t.1 u.t.2.1 u.t.2.2, .slice u.u.1 u.u.2.1 u.u.2.2, .slice u.e.1 u.e.2.1 u.e.2.2] : List Value) = [.slice (some ⟨b1, 0, none⟩) 1 1, .slice (some ⟨b2, 0, none⟩) 1 1, .slice none 0 0, .slice (some ⟨b3, 0, none⟩) 1 1, .slice none 0 0, .slice none 0 0, .slice none 0 0, .slice none 0 0, .slice none 0 0, .slice none 0 0, .slice none 0 0] := by rw [hu]
    rw [← e]
    change St [] w (setCs w4 b0 0 [.slice u.a.1 u.a.2.1 u.a.2.2, .slice u.s.1 u.s.2.1 u.s.2.2, .slice u.r.1 u.r.2.1 u.r.2.2, .slice u.o.1 u.o.2.1 u.o.2.2, .slice u.g.1 u.g.2.1 u.g.2.2, .slice u.m.1 u.m.2.1 u.m.2.2, .slice u.i.1 u.i.2.1 u.i.2.2, .slice u.q.1 u.q.2.1 u.q.2.2, .slice u.t.1 u.t.2.1 u.t.2.2, .slice u.u.1 u.u.2.1 u.u.2.2, .slice u.e.1 u.e.2.1 u.e.2.2]) _ at hS5
    change Blk (setCs w4 b0 0 [.slice u.a.1 u.a.2.1 u.a.2.2, .slice u.s.1 u.s.2.1 u.s.2.2, .slice u.r.1 u.r.2.1 u.r.2.2, .slice u.o.1 u.o.2.1 u.o.2.2, .slice u.g.1 u.g.2.1 u.g.2.2, .slice u.m.1 u.m.2.1 u.m.2.2, .slice u.i.1 u.i.2.1 u.i.2.2, .slice u.q.1 u.q.2.1 u.q.2.2, .slice u.t.1 u.t.2.1 u.t.2.2, .slice u.u.1 u.u.2.1 u.u.2.2, .slice u.e.1 u.e.2.1 u.e.2.2]) _ _ _ at hB
    have hK := St.keepAll (hS5.sel [2, 1, 0] (by decide) [Chunk.blk b1 #[.string bX] 9, Chunk.blk b2 #[.string bA, .float .f64 one64] 110, Chunk.blk b3 #[.string bO] 9] rfl) (fun w => InP w u shutP) (fun w h1 h2 => by
      obtain ⟨G1, g1⟩ := h1
      obtain ⟨G2, g2⟩ := h2 (Chunk.blk b2 #[.string bA, .float .f64 one64] 110) List.mem_cons_self
      obtain ⟨G3, g3⟩ := h2 (Chunk.blk b3 #[.string bO] 9) (List.mem_cons_of_mem _ (List.mem_singleton.2 rfl))
      have q1 : Blk w b1 #[.string bX] 9 := g1.2
      have q2 : Blk w b2 #[.string bA, .float .f64 one64] 110 := g2.2
      have q3 : Blk w b3 #[.string bO] 9 := g3.2
      rw [hu]
      exact ⟨rdl_one (e := .str) _ _ q1 rfl, rdl_one (e := subjT) _ _ q2 ⟨[_], _, rfl, rfl, [_], [], rfl, rfl, rfl⟩, RdL.nil _ _, rdl_one (e := .str) _ _ q3 rfl, RdL.nil _ _, RdL.nil _ _, RdL.nil _ _, RdL.nil _ _, RdL.nil _ _, RdL.nil _ _, RdL.nil _ _⟩)
    clear e hS hS5
    generalize setCs w4 b0 0 [.slice u.a.1 u.a.2.1 u.a.2.2, .slice u.s.1 u.s.2.1 u.s.2.2, .slice u.r.1 u.r.2.1 u.r.2.2, .slice u.o.1 u.o.2.1 u.o.2.2, .slice u.g.1 u.g.2.1 u.g.2.2, .slice u.m.1 u.m.2.1 u.m.2.2, .slice u.i.1 u.i.2.1 u.i.2.2, .slice u.q.1 u.q.2.1 u.q.2.2, .slice u.t.1 u.t.2.1 u.t.2.2, .slice u.u.1 u.u.2.1 u.u.2.2, .slice u.e.1 u.e.2.1 u.e.2.2] = w5 at *
    exact ⟨_, _, _, hB.cell rfl, _, _, _, hB.cell rfl, _, _, _, hB.cell rfl, _, _, _, hB.cell rfl, _, _, _, hB.cell rfl, _, _, _, hB.cell rfl, _, _, _, hB.cell rfl, _, _, _, hB.cell rfl, _, _, _, hB.cell rfl, _, _, _, hB.cell rfl, _, _, _, hB.cell rfl, u, rfl, hK⟩
  · rintro e w' ⟨v, rfl, u, rfl, h⟩; exact ⟨u, rfl, h⟩
theorem openR {w : World} : Calls Try.prog 22 #[] w fun e w' => ∃ u : PV, e = .returned u.v ∧ St [] w w' [kP u openP] := by
  refine Calls.mono (f22.calls (R := fun e w' => ∃ u : PV, e = u.v ∧ St [] w w' [kP u openP]) ?_) ?_
  · dsimp only [f22.VC]
    have hS := (St.start w).alloc #[.slice none 0 0, .slice none 0 0, .slice none 0 0, .slice none 0 0, .slice none 0 0, .slice none 0 0, .slice none 0 0, .slice none 0 0, .slice none 0 0, .slice none 0 0, .slice none 0 0] 28
    generalize World.alloc w (.cells #[.slice none 0 0, .slice none 0 0, .slice none 0 0, .slice none 0 0, .slice none 0 0, .slice none 0 0, .slice none 0 0, .slice none 0 0, .slice none 0 0, .slice none 0 0, .slice none 0 0] 28) = w1 at *
    generalize w.heap.size = b0 at *
    refine Calls.mono shutR ?_
    rintro _ w2 ⟨u0, rfl, hf2⟩
    have hS2 := hS.gone hf2
    have hS3 := hS2.alloc #[.slice none 0 0, .slice none 0 0, .slice none 0 0, .slice none 0 0, .slice none 0 0, .slice none 0 0, .slice none 0 0, .slice none 0 0, .slice none 0 0, .slice none 0 0, .slice none 0 0] 28
    have hS4 := hS3.over 0 rfl u0.l rfl
    refine ⟨_, _, _, _, _, _, _, _, _, _, _, _, _, _, _, _, _, _, _, _, _, _, _, _, _, _, _, _, _, _, _, _, _, rfl, (hS3.blk 0 rfl).can (by simp), ?_⟩
    change St [] w (setCs (World.alloc w2 (.cells #[.slice none 0 0, .slice none 0 0, .slice none 0 0, .slice none 0 0, .slice none 0 0, .slice none 0 0, .slice none 0 0, .slice none 0 0, .slice none 0 0, .slice none 0 0, .slice none 0 0] 28)) w2.heap.size 0 [.slice u0.a.1 u0.a.2.1 u0.a.2.2, .slice u0.s.1 u0.s.2.1 u0.s.2.2, .slice u0.r.1 u0.r.2.1 u0.r.2.2, .slice u0.o.1 u0.o.2.1 u0.o.2.2, .slice u0.g.1 u0.g.2.1 u0.g.2.2, .slice u0.m.1 u0.m.2.1 u0.m.2.2, .slice u0.i.1 u0.i.2.1 u0.i.2.2, .slice u0.q.1 u0.q.2.1 u0.q.2.2, .slice u0.t.1 u0.t.2.1 u0.t.2.2, .slice u0.u.1 u0.u.2.1 u0.u.2.2, .slice u0.e.1 u0.e.2.1 u0.e.2.2]) _ at hS4
    generalize setCs (World.alloc w2 (.cells #[.slice none 0 0, .slice none 0 0, .slice none 0 0, .slice none 0 0, .slice none 0 0, .slice none 0 0, .slice none 0 0, .slice none 0 0, .slice none 0 0, .slice none 0 0, .slice none 0 0] 28)) w2.heap.size 0 [.slice u0.a.1 u0.a.2.1 u0.a.2.2, .slice u0.s.1 u0.s.2.1 u0.s.2.2, .slice u0.r.1 u0.r.2.1 u0.r.2.2, .slice u0.o.1 u0.o.2.1 u0.o.2.2, .slice u0.g.1 u0.g.2.1 u0.g.2.2, .slice u0.m.1 u0.m.2.1 u0.m.2.2, .slice u0.i.1 u0.i.2.1 u0.i.2.2, .slice u0.q.1 u0.q.2.1 u0.q.2.2, .slice u0.t.1 u0.t.2.1 u0.t.2.2, .slice u0.u.1 u0.u.2.1 u0.u.2.2, .slice u0.e.1 u0.e.2.1 u0.e.2.2] = w4 at *
    generalize w2.heap.size = b2 at *
    replace hS4 : St [] w w4 [Chunk.blk b2 u0.cells 28, kP u0 shutP, Chunk.blk b0 #[.slice none 0 0, .slice none 0 0, .slice none 0 0, .slice none 0 0, .slice none 0 0, .slice none 0 0, .slice none 0 0, .slice none 0 0, .slice none 0 0, .slice none 0 0, .slice none 0 0] 28] := hS4
    have hS5 := hS4.alloc #[.bool false, .string bA, .string bO, .slice none 0 0, .int .i8 0, .float .f64 0] 88
    generalize World.alloc w4 (.cells #[.bool false, .string bA, .string bO, .slice none 0 0, .int .i8 0, .float .f64 0] 88) = w5 at *
    generalize w4.heap.size = b4 at *
    obtain ⟨u, hu⟩ : ∃ u : PV, u = ⟨u0.a, u0.s, u0.r, u0.o, u0.g, u0.m, u0.i, u0.q, u0.t, (some ⟨b4, 0, none⟩, 1, 1), u0.e⟩ := ⟨_, rfl⟩
    have hS6 := hS5.set 1 rfl 9 [.slice (some ⟨b4, 0, none⟩) 1 1]
    have e : Vc.putA u0.cells 9 [.slice (some ⟨b4, 0, none⟩) 1 1] = u.cells := by rw [hu]; rfl
    rw [e] at hS6
    refine ⟨(hS5.blk 1 rfl).can (by simp), ?_⟩
    generalize setCs w5 b2 9 [.slice (some ⟨b4, 0, none⟩) 1 1] = w6 at *
    replace hS6 : St [] w w6 [Chunk.blk b4 #[.bool false, .string bA, .string bO, .slice none 0 0, .int .i8 0, .float .f64 0] 88, Chunk.blk b2 u.cells 28, kP u0 shutP, Chunk.blk b0 #[.slice none 0 0, .slice none 0 0, .slice none 0 0, .slice none 0 0, .slice none 0 0, .slice none 0 0, .slice none 0 0, .slice none 0 0, .slice none 0 0, .slice none 0 0, .slice none 0 0] 28] := hS6
    have hB := hS6.blk 1 rfl
    have hS7 := hS6.over 3 rfl u.l rfl
    refine ⟨_, _, _, hB.cell rfl, _, _, _, hB.cell rfl, _, _, _, hB.cell rfl, _, _, _, hB.cell rfl, _, _, _, hB.cell rfl, _, _, _, hB.cell rfl, _, _, _, hB.cell rfl, _, _, _, hB.cell rfl, _, _, _, hB.cell rfl, _, _, _, hB.cell rfl, _, _, _, hB.cell rfl, (hS6.blk 3 rfl).can (by simp), ?_⟩
    clear hB
    change St [] w (setCs w6 b0 0 [.slice u.a.1 u.a.2.1 u.a.2.2, .slice u.s.1 u.s.2.1 u.s.2.2, .slice u.r.1 u.r.2.1 u.r.2.2, .slice u.o.1 u.o.2.1 u.o.2.2, .slice u.g.1 u.g.2.1 u.g.2.2, .slice u.m.1 u.m.2.1 u.m.2.2, .slice u.i.1 u.i.2.1 u.i.2.2, .slice u.q.1 u.q.2.1 u.q.2.2, .slice u.t.1 u.t.2.1 u.t.2.2, .slice u.u.1 u.u.2.1 u.u.2.2, .slice u.e.1 u.e.2.1 u.e.2.2]) _ at hS7
    generalize setCs w6 b0 0 [.slice u.a.1 u.a.2.1 u.a.2.2, .slice u.s.1 u.s.2.1 u.s.2.2, .slice u.r.1 u.r.2.1 u.r.2.2, .slice u.o.1 u.o.2.1 u.o.2.2, .slice u.g.1 u.g.2.1 u.g.2.2, .slice u.m.1 u.m.2.1 u.m.2.2, .slice u.i.1 u.i.2.1 u.i.2.2, .slice u.q.1 u.q.2.1 u.q.2.2, .slice u.t.1 u.t.2.1 u.t.2.2, .slice u.u.1 u.u.2.1 u.u.2.2, .slice u.e.1 u.e.2.1 u.e.2.2] = w7 at *
    have hB := hS7.blk 3 rfl
    have hK := St.keepAll (hS7.sel [0, 2] (by decide) [Chunk.blk b4 #[.bool false, .string bA, .string bO, .slice none 0 0, .int .i8 0, .float .f64 0] 88, kP u0 shutP] rfl) (fun w => InP w u openP) (fun w h1 h2 => by
      obtain ⟨G1, g1⟩ := h1
      obtain ⟨G2, g2⟩ := h2 _ (List.mem_singleton.2 rfl)
      have q1 : Blk w b4 #[.bool false, .string bA, .string bO, .slice none 0 0, .int .i8 0, .float .f64 0] 88 := g1.2
      have q2 : InP w u0 shutP := Chunk.keep_says g2
      rw [hu]
      exact ⟨q2.a, q2.s, q2.r, q2.o, q2.g, q2.m, q2.i, q2.q, q2.t, rdl_one (e := ruleT) (ruleV ruleO nilS) _ q1 (rd_rule.2 ⟨nilS, rfl, RdL.nil _ _, rfl⟩), q2.e⟩)
    exact ⟨_, _, _, hB.cell rfl, _, _, _, hB.cell rfl, _, _, _, hB.cell rfl, _, _, _, hB.cell rfl, _, _, _, hB.cell rfl, _, _, _, hB.cell rfl, _, _, _, hB.cell rfl, _, _, _, hB.cell rfl, _, _, _, hB.cell rfl, _, _, _, hB.cell rfl, _, _, _, hB.cell rfl, u, rfl, hK⟩
  · rintro e w' ⟨v, rfl, u, rfl, h⟩; exact ⟨u, rfl, h⟩
theorem entryR {w : World} : Calls Try.prog 23 #[] w fun e w' => e = .returned (Tri bA bO bX) ∧ Fr [] w w' := by
  refine Calls.mono (f23.calls (R := fun e w' => e = Tri bA bO bX ∧ Fr [] w w') ?_) ?_
  · dsimp only [f23.VC]
    have hS := (St.start w).alloc #[.string ⟨#[]⟩, .string ⟨#[]⟩, .string ⟨#[]⟩] 37
    have hS2 := hS.over 0 rfl [.string bA, .string bO, .string bX] rfl
    have hB := hS2.blk 0 rfl
    exact ⟨(hS.blk 0 rfl).can (by simp), _, hB.cell rfl, _, hB.cell rfl, _, hB.cell rfl, rfl, hS2.frame⟩
  · rintro e w' ⟨v, rfl, rfl, h⟩; exact ⟨rfl, h⟩
theorem atR {w : World} (i n : Int) (hn : 0 < n) (hb : n ≤ 1000000000) (h1 : -9223372036854775808 ≤ i) (h2 : i ≤ 9223372036854775807) : Calls Try.prog 18 #[.int .i64 i, .int .i64 n] w fun e w' => ∃ k : Nat, e = .returned (.int .i64 (k : Int)) ∧ (k : Int) < n ∧ w' = w := by
  refine Calls.mono (f18.calls (R := fun e w' => ∃ k : Nat, e = .int .i64 (k : Int) ∧ (k : Int) < n ∧ w' = w) ?_) ?_
  · dsimp only [f18.VC]
    have h3 := Int.tmod_lt_of_pos i hn
    have h4 : -n < Int.tmod i n := by
      have := Int.lt_tmod_of_pos i hn
      exact this
    generalize Int.tmod i n = t at *
    refine ⟨by omega, sel_of (fun h => ?_) (fun h => ?_)⟩
    · have h := of_decide_eq_true h
      rw [i64_id (by omega) (by omega)]
      exact ⟨(t + n).toNat, by congr 1; omega, by omega, rfl⟩
    · have h := of_decide_eq_false h
      exact ⟨t.toNat, by congr 1; omega, by omega, rfl⟩
  · rintro e w' ⟨v, rfl, k, rfl, h⟩; exact ⟨k, rfl, h⟩
end JG
end Go.Proofs.Ytddbebhklmaeoaa
