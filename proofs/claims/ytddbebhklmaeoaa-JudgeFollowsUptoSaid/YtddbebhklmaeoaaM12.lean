/- What a policy allows, by the document. -/
import Derived.Test.YtddbebhklmaeoaaM11
set_option linter.unusedVariables false
set_option linter.unusedSimpArgs false
set_option maxRecDepth 10000
namespace Go.Proofs.Ytddbebhklmaeoaa
open Go Go.Proofs.Ytddbebhklmaeoaa.Vc
namespace JG
open Vc.PG JD
abbrev rd0 : RuleD := (false, ByteArray.empty, ByteArray.empty, [], 0, 0, ())
theorem RdL.rule {w : World} {x : Sl} {l : List RuleD} (h : RdL ruleT w x l) (hp : 0 < x.2.1) : ∃ b o, x.1 = some ⟨b, o, none⟩ ∧ ∀ q, q < x.2.1 → ∃ u : Sl, RdL .str w u (rActs (l.getD q rd0)) ∧ ∀ j v, (ruleV (l.getD q rd0) u)[j]? = some v → w.cell? ⟨b, o + q * 6 + j, none⟩ = some v := by
  obtain ⟨b, o, h1, h2⟩ := h.2.2 hp
  refine ⟨b, o, h1, fun q hq => ?_⟩
  obtain ⟨es, h3, h4⟩ := h2 q hq
  obtain ⟨u, rfl, h5, _⟩ := rd_rule.1 h3
  exact ⟨u, h5, h4⟩
theorem exceptedR {w : World} {v : PV} {p : PolD} (h : InP w v p) (hb : SmallP p) (a b c : ByteArray) : Calls Try.prog 86 #[v.v, Tri a b c] w fun e w' => e = .returned (.bool (memB (pExc p) (a, b, c, ()))) ∧ Fr [] w w' := by
  refine Calls.mono (f86.calls (R := fun r w' => r = .bool (memB (pExc p) (a, b, c, ())) ∧ Fr [] w w') ?_) ?_
  · dsimp only [f86.VC]
    have hS := ((St.start w).alloc v.cells 28).alloc #[.string a, .string b, .string c] 37
    generalize World.alloc w (.cells v.cells 28) = w1 at *
    generalize w.heap.size = b1 at *
    generalize World.alloc w1 (.cells #[.string a, .string b, .string c] 37) = w2 at *
    generalize w1.heap.size = b2 at *
    have hl : v.e.2.1 = (pExc p).length := h.e.1
    have hbs : (pExc p).length ≤ 1100000 := hb.e
    refine ⟨fun x w' r => Fr [] w w' ∧ Fr [] w2 w' ∧ ∃ i : Nat, x = (i : Int) ∧ i + r = v.e.2.1 ∧ ∀ k, k < i → (pExc p).getD k td ≠ (a, b, c, ()), ⟨v.e.2.1, hS.frame, Fr.refl _ _, 0, rfl, by omega, fun a ha => by omega⟩, ?_⟩
    rintro d x w3 r ⟨hf, hf2, i, rfl, hir, hno⟩
    have hB1 := hf2.blk (hS.blk 1 rfl) (by simp)
    have hB2 := hf2.blk (hS.blk 0 rfl) (by simp)
    refine ⟨_, _, _, hB1.cell rfl, sel_of (fun hd => ?_) (fun hd => ?_)⟩
    · have hi : i < v.e.2.1 := by have := of_decide_eq_true hd; omega
      obtain ⟨bb, oo, hA, hc⟩ := RdL.tri (h.e.fr hf) (by omega)
      obtain ⟨c1, c2, c3⟩ := hc i hi
      refine ⟨_, _, _, hB1.cell rfl, by omega, by omega, needPtr_of hA ⟨_, c1, _, c2, _, c3, _, hB2.cell rfl, _, hB2.cell rfl, _, hB2.cell rfl, _, fun w' => eqTri _ _ _ _ _ _ w', sel_of (fun hs => ?_) (fun hs => ?_)⟩⟩
      · have hs := of_decide_eq_true hs
        refine ⟨?_, hf.drew⟩
        rw [(memB_iff _ _).2]
        refine (mem_getD td _ _).2 ⟨i, by omega, ?_⟩
        exact Prod.ext hs.1 (Prod.ext hs.2.1 (Prod.ext hs.2.2 rfl))
      · have hs := of_decide_eq_false hs
        rw [inc i v.e.2.1 (by omega) (by omega)]
        refine ⟨rfl, r - 1, by omega, hf.drew, hf2.drew, i + 1, rfl, by omega, fun k hk => ?_⟩
        rcases Nat.lt_or_ge k i with h1 | h1
        · exact hno k h1
        · have : k = i := by omega
          subst this
          intro he
          rw [he] at hs
          exact hs ⟨rfl, rfl, rfl⟩
    · have hi : i = v.e.2.1 := by have := of_decide_eq_false hd; omega
      refine ⟨?_, hf⟩
      have : memB (pExc p) (a, b, c, ()) = false := by
        cases hm : memB (pExc p) (a, b, c, ()) with
        | false => rfl
        | true =>
          obtain ⟨k, hk, he⟩ := (mem_getD td _ _).1 ((memB_iff _ _).1 hm)
          exact absurd he (hno k (by omega))
      rw [this]
  · rintro e w' ⟨v, rfl, rfl, h⟩; exact ⟨rfl, h⟩
theorem aboutR {w : World} (r : RuleD) (u : Sl) {x y : Sl} {lw lo : List ByteArray} (hx : RdL .str w x lw) (hy : RdL .str w y lo) (h1 : lw.length ≤ 1000000000) (h2 : lo.length ≤ 1000000000) (t : Nat) :
    Calls Try.prog 100 #[.agg (ruleV r u).toArray, x.v, .float .f64 t, y.v] w fun e w' => e = .returned (.bool (memB lw (rWho r) && memB lo (rWhat r) && passP geF ltF r t)) ∧ Fr [] w w' := by
  refine Calls.mono (f100.calls (R := fun v w' => v = .bool (memB lw (rWho r) && memB lo (rWhat r) && passP geF ltF r t) ∧ Fr [] w w') ?_) ?_
  · dsimp only [f100.VC]
    have hS := (St.start w).alloc (ruleV r u).toArray 88
    change St [] w (World.alloc w (.cells #[.bool r.1, .string r.2.1, .string r.2.2.1, .slice u.1 u.2.1 u.2.2, .int .i8 r.2.2.2.2.1, .float .f64 r.2.2.2.2.2.1] 88)) _ at hS
    generalize World.alloc w (.cells #[.bool r.1, .string r.2.1, .string r.2.2.1, .slice u.1 u.2.1 u.2.2, .int .i8 r.2.2.2.2.1, .float .f64 r.2.2.2.2.2.1] 88) = w1 at *
    generalize w.heap.size = b1 at *
    have hB := hS.blk 0 rfl
    refine ⟨_, hB.cell rfl, Calls.mono (inR (hx.fr hS.frame) h1 _) ?_⟩
    rintro _ w2 ⟨rfl, rfl⟩
    refine ⟨_, rfl, _, hB.cell rfl, Calls.mono (inR (hy.fr hS.frame) h2 _) ?_⟩
    rintro _ w3 ⟨rfl, rfl⟩
    refine ⟨_, rfl, _, hB.cell rfl, _, hB.cell rfl, _, hB.cell rfl, _, _, _, hB.cell rfl, _, hB.cell rfl, _, hB.cell rfl, Calls.mono (passR r u t) ?_⟩
    rintro _ w4 ⟨rfl, hf⟩
    have hf := hS.frame.trans hf
    refine ⟨_, rfl, sel_of (fun m1 => sel_of (fun m2 => ⟨by rw [m1, m2]; rfl, hf⟩) (fun m2 => ⟨by rw [m1, m2]; rfl, hf⟩)) (fun m1 => ⟨by rw [m1]; rfl, hf⟩)⟩
  · rintro e w' ⟨v, rfl, rfl, h⟩; exact ⟨rfl, h⟩
/-- A rule speaks of a triple. -/
def MatchP (p : PolD) (r : RuleD) (t : TriD) : Prop := ∃ trust, trustOf (pSub p) t.1 = some trust ∧ t.2.1 ∈ pObj p ∧ t.2.2.1 ∈ pAct p ∧ Speaks geF ltF p r t.1 t.2.1 trust ∧ Named r t.2.2.1
theorem matchesR {w : World} {v : PV} {p : PolD} (h : InP w v p) (hb : SmallP p) (r : RuleD) {u : Sl} (hu : RdL .str w u (rActs r)) (hr : (rActs r).length ≤ 1000000000) (a b c : ByteArray) :
    Calls Try.prog 85 #[v.v, .agg (ruleV r u).toArray, Tri a b c] w fun e w' => ∃ m : Bool, e = .returned (.bool m) ∧ (m = true ↔ MatchP p r (a, b, c, ())) ∧ Fr [] w w' := by
  refine Calls.mono (f85.calls (R := fun e w' => ∃ m : Bool, e = .bool m ∧ (m = true ↔ MatchP p r (a, b, c, ())) ∧ Fr [] w w') ?_) ?_
  · dsimp only [f85.VC]
    have hS := (((St.start w).alloc v.cells 28).alloc (ruleV r u).toArray 88).alloc #[.string a, .string b, .string c] 37
    change St [] w (World.alloc (World.alloc (World.alloc w (.cells v.cells 28)) (.cells #[.bool r.1, .string r.2.1, .string r.2.2.1, .slice u.1 u.2.1 u.2.2, .int .i8 r.2.2.2.2.1, .float .f64 r.2.2.2.2.2.1] 88)) (.cells #[.string a, .string b, .string c] 37)) _ at hS
    generalize World.alloc w (.cells v.cells 28) = w1 at *
    generalize w.heap.size = b1 at *
    generalize World.alloc w1 (.cells #[.bool r.1, .string r.2.1, .string r.2.2.1, .slice u.1 u.2.1 u.2.2, .int .i8 r.2.2.2.2.1, .float .f64 r.2.2.2.2.2.1] 88) = w2 at *
    generalize w1.heap.size = b2 at *
    generalize World.alloc w2 (.cells #[.string a, .string b, .string c] 37) = w3 at *
    generalize w2.heap.size = b3 at *
    have hB1 := hS.blk 2 rfl
    have hB2 := hS.blk 1 rfl
    have hB3 := hS.blk 0 rfl
    iterate 11 refine ⟨_, _, _, hB1.cell rfl, ?_⟩
    refine ⟨_, hB3.cell rfl, Calls.mono (hS.step0 (trustR (h.fr hS.frame) hb a)) ?_⟩
    rintro _ w4 ⟨rfl, hS⟩
    have hB1 := hS.blk 2 rfl
    have hB2 := hS.blk 1 rfl
    have hB3 := hS.blk 0 rfl
    refine ⟨_, _, rfl, _, _, _, hB1.cell rfl, _, hB3.cell rfl, Calls.mono (inR ((h.fr hS.frame).o) (Nat.le_trans hb.o (by decide)) _) ?_⟩
    rintro _ w5 ⟨rfl, rfl⟩
    refine ⟨_, rfl, _, _, _, hB1.cell rfl, _, hB3.cell rfl, Calls.mono (inR ((h.fr hS.frame).a) (Nat.le_trans hb.a (by decide)) _) ?_⟩
    rintro _ w6 ⟨rfl, rfl⟩
    refine ⟨_, rfl, ?_⟩
    cases ht : trustOf (pSub p) a with
    | none => exact sel_true rfl ⟨false, rfl, by simp [MatchP, ht], hS.frame⟩
    | some trust =>
      refine sel_false rfl (sel_of (fun m => ⟨false, rfl, ?_, hS.frame⟩) (fun mo => sel_of (fun m => ⟨false, rfl, ?_, hS.frame⟩) (fun ma => ?_)))
      · have m : ¬ b ∈ pObj p := fun hm => by rw [(memB_iff _ _).2 hm] at m; cases m
        simp only [Bool.false_eq_true, false_iff]
        rintro ⟨_, _, h1, _⟩; exact m h1
      · have m : ¬ c ∈ pAct p := fun hm => by rw [(memB_iff _ _).2 hm] at m; cases m
        simp only [Bool.false_eq_true, false_iff]
        rintro ⟨_, _, _, h1, _⟩; exact m h1
      have mo : b ∈ pObj p := (memB_iff _ _).1 (by simpa using mo)
      have ma : c ∈ pAct p := (memB_iff _ _).1 (by simpa using ma)
      have hS := hS.drew
      have hP := h.fr hS.frame
      refine ⟨_, hB2.cell rfl, _, hB2.cell rfl, _, hB2.cell rfl, _, _, _, hB2.cell rfl, _, hB2.cell rfl, _, hB2.cell rfl, _, _, _, hB1.cell rfl, _, _, _, hB1.cell rfl, _, hB3.cell rfl, _, _, _, hB1.cell rfl, _, _, _, hB1.cell rfl, _, hB3.cell rfl,
        Calls.mono (upsR hP.m hP.i hb.m hb.i a) ?_⟩
      rintro _ w7 ⟨zw, lw, rfl, hf7, hz, hw, hlw⟩
      have hS := hS.go hf7
      have hP := h.fr hS.frame
      refine ⟨_, _, _, rfl, ⟨(hS.blk 0 rfl).cell rfl, (hS.blk 2 rfl).cell rfl, (hS.blk 2 rfl).cell rfl, (hS.blk 0 rfl).cell rfl, (hS.blk 2 rfl).cell rfl, (hS.blk 2 rfl).cell rfl, ⟨(hS.blk 1 rfl).cell rfl, (hS.blk 1 rfl).cell rfl, (hS.blk 1 rfl).cell rfl, (hS.blk 1 rfl).cell rfl, (hS.blk 1 rfl).cell rfl, (hS.blk 1 rfl).cell rfl, trivial⟩, trivial⟩,
        Calls.mono (upsR hP.q hP.t hb.q hb.t b) ?_⟩
      rintro _ w8 ⟨zo, lo, rfl, hf8, ho, hwo, hlo⟩
      have hS := hS.go hf8
      refine ⟨_, _, _, rfl, ⟨(hS.blk 0 rfl).cell rfl, (hS.blk 2 rfl).cell rfl, (hS.blk 2 rfl).cell rfl, (hS.blk 0 rfl).cell rfl, (hS.blk 2 rfl).cell rfl, (hS.blk 2 rfl).cell rfl, ⟨(hS.blk 1 rfl).cell rfl, (hS.blk 1 rfl).cell rfl, (hS.blk 1 rfl).cell rfl, (hS.blk 1 rfl).cell rfl, (hS.blk 1 rfl).cell rfl, (hS.blk 1 rfl).cell rfl, trivial⟩, trivial⟩,
        Calls.mono (hS.step0 (aboutR r u (hz.fr hf8) ho (by omega) (by omega) trust)) ?_⟩
      rintro _ w9 ⟨rfl, hS⟩
      refine ⟨_, rfl, ⟨(hS.blk 0 rfl).cell rfl, (hS.blk 2 rfl).cell rfl, (hS.blk 2 rfl).cell rfl, (hS.blk 0 rfl).cell rfl, (hS.blk 2 rfl).cell rfl, (hS.blk 2 rfl).cell rfl, ⟨(hS.blk 1 rfl).cell rfl, (hS.blk 1 rfl).cell rfl, (hS.blk 1 rfl).cell rfl, (hS.blk 1 rfl).cell rfl, (hS.blk 1 rfl).cell rfl, (hS.blk 1 rfl).cell rfl, trivial⟩, trivial⟩,
        _, _, _, (hS.blk 1 rfl).cell rfl, _, (hS.blk 0 rfl).cell rfl, Calls.mono (inR (hu.fr hS.frame) hr _) ?_⟩
      rintro _ w10 ⟨rfl, rfl⟩
      have hsp : (memB lw (rWho r) && memB lo (rWhat r) && passP geF ltF r trust) = true ↔ Speaks geF ltF p r a b trust := by
        rw [Bool.and_eq_true, Bool.and_eq_true, memB_iff, memB_iff, hw, hwo]
        exact ⟨fun ⟨⟨h1, h2⟩, h3⟩ => ⟨h1, h2, h3⟩, fun ⟨h1, h2, h3⟩ => ⟨⟨h1, h2⟩, h3⟩⟩
      have hM : MatchP p r (a, b, c, ()) ↔ Speaks geF ltF p r a b trust ∧ Named r c := by
        constructor
        · rintro ⟨t', e1, _, _, e2, e3⟩
          have : trust = t' := by
            have e1 : trustOf (pSub p) a = some t' := e1
            rw [ht] at e1; injection e1
          subst this
          exact ⟨e2, e3⟩
        · rintro ⟨e2, e3⟩
          exact ⟨trust, ht, mo, ma, e2, e3⟩
      have hul : u.2.1 = (rActs r).length := hu.1
      refine ⟨_, rfl, sel_of (fun m1 => ⟨_, _, _, (hS.blk 1 rfl).cell rfl, sel_of (fun m2 => ⟨true, rfl, ?_, hS.frame⟩) (fun m2 => ⟨_, rfl, ?_, hS.frame⟩)⟩) (fun m1 => ⟨false, rfl, ?_, hS.frame⟩)⟩
      · have m2 : (u.2.1 : Int) = 0 := eq_of_beq m2
        rw [hM]
        exact ⟨fun _ => ⟨hsp.1 m1, .inl (List.eq_nil_of_length_eq_zero (by omega))⟩, fun _ => rfl⟩
      · have m2 : ¬ ((u.2.1 : Int) = 0) := fun e => by rw [e] at m2; cases m2
        rw [hM, memB_iff]
        refine ⟨fun hm => ⟨hsp.1 m1, .inr hm⟩, fun ⟨_, hn⟩ => ?_⟩
        rcases hn with hn | hn
        · rw [hn] at hul; simp at hul; omega
        · exact hn
      · rw [hM]
        simp only [Bool.false_eq_true, false_iff]
        rintro ⟨e, _⟩
        rw [hsp.2 e] at m1; cases m1
  · rintro e w' ⟨v, rfl, m, rfl, h⟩; exact ⟨m, rfl, h⟩
theorem AllowsP_iff {p : PolD} {t : TriD} : AllowsP geF ltF p t ↔ (∃ r ∈ pRul p, MatchP p r t ∧ rDeny r = false) ∧ (∀ r ∈ pRul p, MatchP p r t → rDeny r = false) ∧ ¬ t ∈ pExc p := by
  constructor
  · rintro ⟨trust, h1, h2, h3, ⟨r, hr, h4, h5⟩, h6, h7⟩
    refine ⟨⟨r, hr, ⟨trust, h1, h2, h3, h4, h5⟩, h6 r hr h4 h5⟩, ?_, h7⟩
    rintro r' hr' ⟨t', e1, _, _, e2, e3⟩
    rw [h1] at e1; injection e1 with e1; subst e1
    exact h6 r' hr' e2 e3
  · rintro ⟨⟨r, hr, ⟨trust, h1, h2, h3, h4, h5⟩, h8⟩, h6, h7⟩
    exact ⟨trust, h1, h2, h3, ⟨r, hr, h4, h5⟩, fun r' hr' e2 e3 => h6 r' hr' ⟨trust, h1, h2, h3, e2, e3⟩, h7⟩
theorem allowsR {w : World} {v : PV} {p : PolD} (h : InP w v p) (hb : SmallP p) (a b c : ByteArray) :
    Calls Try.prog 55 #[v.v, Tri a b c] w fun e w' => e = .returned (.bool (allowsB geF ltF p (a, b, c, ()))) ∧ Fr [] w w' := by
  refine Calls.mono (f55.calls (R := fun e w' => e = .bool (allowsB geF ltF p (a, b, c, ())) ∧ Fr [] w w') ?_) ?_
  · dsimp only [f55.VC]
    have hS0 := ((St.start w).alloc v.cells 28).alloc #[.string a, .string b, .string c] 37
    generalize World.alloc w (.cells v.cells 28) = w1 at *
    generalize w.heap.size = b1 at *
    generalize World.alloc w1 (.cells #[.string a, .string b, .string c] 37) = w2 at *
    generalize w1.heap.size = b2 at *
    have hl : v.u.2.1 = (pRul p).length := h.u.1
    have hbs : (pRul p).length ≤ 1100000 := hb.u
    let t : TriD := (a, b, c, ())
    refine ⟨fun al dn x w' r => St [] w w' [Chunk.blk b2 #[.string a, .string b, .string c] 37, Chunk.blk b1 v.cells 28] ∧ ∃ i : Nat, x = (i : Int) ∧ i + r = v.u.2.1 ∧
      (al = true ↔ ∃ k, k < i ∧ MatchP p ((pRul p).getD k rd0) t ∧ rDeny ((pRul p).getD k rd0) = false) ∧ (dn = true ↔ ∃ k, k < i ∧ MatchP p ((pRul p).getD k rd0) t ∧ rDeny ((pRul p).getD k rd0) = true),
      ⟨v.u.2.1, hS0, 0, rfl, by omega, by simp, by simp⟩, ?_⟩
    rintro d al dn x w3 r ⟨hS, i, rfl, hir, hal, hdn⟩
    have hB1 := hS.blk 1 rfl
    have hB2 := hS.blk 0 rfl
    refine ⟨_, _, _, hB1.cell rfl, sel_of (fun hd => ?_) (fun hd => ?_)⟩
    · have hi : i < v.u.2.1 := by have := of_decide_eq_true hd; omega
      have hP := h.fr hS.frame
      obtain ⟨bb, oo, hA, hc⟩ := RdL.rule hP.u (by omega)
      obtain ⟨u, hu, hc⟩ := hc i hi
      have hmem : (pRul p).getD i rd0 ∈ pRul p := (mem_getD rd0 _ _).2 ⟨i, by omega, rfl⟩
      iterate 11 refine ⟨_, _, _, hB1.cell rfl, ?_⟩
      refine ⟨_, _, _, hB1.cell rfl, by omega, by omega, needPtr_of hA ⟨_, hc 0 _ rfl, _, hc 1 _ rfl, _, hc 2 _ rfl, _, _, _, hc 3 _ rfl, _, hc 4 _ rfl, _, hc 5 _ rfl, _, hB2.cell rfl, _, hB2.cell rfl, _, hB2.cell rfl,
        Calls.mono (matchesR (h.fr hS.drew.frame) hb ((pRul p).getD i rd0) (hu.fr (Fr.refl [] w3).drew) (Nat.le_trans (hb.x _ hmem) (by decide)) a b c) ?_⟩⟩
      rintro _ w4 ⟨m, rfl, hm, hf4⟩
      have hS := hS.drew.go hf4
      have hB1 := hS.blk 1 rfl
      have hc4 := hf4.cell (show w3.drew.cell? _ = _ from hc 0 _ rfl)
      rw [inc i v.u.2.1 (by omega) (by omega)]
      have next : ∀ (al' dn' : Bool), (al' = true ↔ al = true ∨ (MatchP p ((pRul p).getD i rd0) t ∧ rDeny ((pRul p).getD i rd0) = false)) → (dn' = true ↔ dn = true ∨ (MatchP p ((pRul p).getD i rd0) t ∧ rDeny ((pRul p).getD i rd0) = true)) →
          St [] w w4 [Chunk.blk b2 #[.string a, .string b, .string c] 37, Chunk.blk b1 v.cells 28] ∧ ∃ i' : Nat, ((i + 1 : Nat) : Int) = (i' : Int) ∧ i' + (r - 1) = v.u.2.1 ∧
          (al' = true ↔ ∃ k, k < i' ∧ MatchP p ((pRul p).getD k rd0) t ∧ rDeny ((pRul p).getD k rd0) = false) ∧ (dn' = true ↔ ∃ k, k < i' ∧ MatchP p ((pRul p).getD k rd0) t ∧ rDeny ((pRul p).getD k rd0) = true) := by
        intro al' dn' h1 h2
        have key : ∀ Q : Nat → Prop, (∃ k, k < i + 1 ∧ Q k) ↔ (∃ k, k < i ∧ Q k) ∨ Q i := by
          intro Q
          constructor
          · rintro ⟨k, hk, hq⟩
            rcases Nat.lt_or_ge k i with h | h
            · exact .inl ⟨k, h, hq⟩
            · have : k = i := by omega
              subst this; exact .inr hq
          · rintro (⟨k, hk, hq⟩ | hq)
            · exact ⟨k, by omega, hq⟩
            · exact ⟨i, by omega, hq⟩
        refine ⟨hS, i + 1, rfl, by omega, ?_, ?_⟩
        · rw [h1, hal, key fun k => MatchP p ((pRul p).getD k rd0) t ∧ rDeny ((pRul p).getD k rd0) = false]
        · rw [h2, hdn, key fun k => MatchP p ((pRul p).getD k rd0) t ∧ rDeny ((pRul p).getD k rd0) = true]
      refine ⟨_, rfl, sel_of (fun m1 => ?_) (fun m1 => ?_)⟩
      · have hm := hm.1 m1
        refine ⟨_, _, _, hB1.cell rfl, by omega, by omega, needPtr_of hA ⟨_, hc4, sel_of (fun m2 => ?_) (fun m2 => ?_)⟩⟩
        · have hd : rDeny ((pRul p).getD i rd0) = true := m2
          refine sel_true m1 ⟨_, _, _, hB1.cell rfl, by omega, by omega, needPtr_of hA ⟨_, hc4, sel_false (by rw [show ((pRul p).getD i rd0).1 = true from m2]; rfl) ⟨rfl, r - 1, by omega, next al true ?_ ⟨fun _ => .inr ⟨hm, hd⟩, fun _ => rfl⟩⟩⟩⟩
          exact ⟨.inl, fun h => h.elim id fun h => by rw [hd] at h; exact absurd h.2 (by decide)⟩
        · have hd : rDeny ((pRul p).getD i rd0) = false := m2
          refine sel_true m1 ⟨_, _, _, hB1.cell rfl, by omega, by omega, needPtr_of hA ⟨_, hc4, sel_true (by rw [show ((pRul p).getD i rd0).1 = false from m2]; rfl) ⟨rfl, r - 1, by omega, next true dn ⟨fun _ => .inr ⟨hm, hd⟩, fun _ => rfl⟩ ?_⟩⟩⟩
          exact ⟨.inl, fun h => h.elim id fun h => by rw [hd] at h; exact absurd h.2 (by decide)⟩
      · have hm : ¬ MatchP p ((pRul p).getD i rd0) t := fun hh => by rw [hm.2 hh] at m1; cases m1
        exact sel_false m1 ⟨rfl, r - 1, by omega, next al dn ⟨.inl, fun h => h.elim id fun h => absurd h.1 hm⟩ ⟨.inl, fun h => h.elim id fun h => absurd h.1 hm⟩⟩
    · have hi : i = v.u.2.1 := by have := of_decide_eq_false hd; omega
      iterate 11 refine ⟨_, _, _, hB1.cell rfl, ?_⟩
      refine ⟨_, hB2.cell rfl, _, hB2.cell rfl, _, hB2.cell rfl, Calls.mono (hS.step0 (exceptedR (h.fr hS.frame) hb a b c)) ?_⟩
      rintro _ w5 ⟨rfl, hS⟩
      have hex : ∀ Q : RuleD → Prop, (∃ k, k < i ∧ Q ((pRul p).getD k rd0)) ↔ ∃ r ∈ pRul p, Q r := by
        intro Q
        constructor
        · rintro ⟨k, hk, hq⟩
          exact ⟨_, (mem_getD rd0 _ _).2 ⟨k, by omega, rfl⟩, hq⟩
        · rintro ⟨r, hr, hq⟩
          obtain ⟨k, hk, rfl⟩ := (mem_getD rd0 _ _).1 hr
          exact ⟨k, by omega, hq⟩
      rw [hex fun r => MatchP p r t ∧ rDeny r = false] at hal
      rw [hex fun r => MatchP p r t ∧ rDeny r = true] at hdn
      have hA := AllowsP_iff (p := p) (t := t)
      have hB : ∀ q : Bool, (q = true ↔ AllowsP geF ltF p t) → q = allowsB geF ltF p t := by
        intro q hq
        exact Bool.eq_iff_iff.2 (hq.trans (allowsB_iff geF ltF p t).symm)
      refine ⟨_, rfl, sel_of (fun m1 => sel_of (fun m2 => ⟨?_, hS.frame⟩) (fun m2 => ⟨?_, hS.frame⟩)) (fun m1 => ⟨?_, hS.frame⟩)⟩
      · rw [hB (!memB (pExc p) t)]
        rw [hA]
        have m2 : dn = false := by simpa using m2
        constructor
        · intro hm
          have hm : ¬ t ∈ pExc p := fun hh => by rw [(memB_iff _ _).2 hh] at hm; cases hm
          refine ⟨hal.1 m1, fun r hr hmt => ?_, hm⟩
          cases hd : rDeny r with
          | false => rfl
          | true => rw [hdn.2 ⟨r, hr, hmt, hd⟩] at m2; cases m2
        · rintro ⟨_, _, hm⟩
          cases hh : memB (pExc p) t with
          | false => rfl
          | true => exact absurd ((memB_iff _ _).1 hh) hm
      · rw [hB false]
        simp only [Bool.false_eq_true, false_iff]
        rw [hA]
        have m2 : dn = true := by simpa using m2
        rintro ⟨_, hh, _⟩
        obtain ⟨r, hr, hmt, hd⟩ := hdn.1 m2
        rw [hh r hr hmt] at hd; cases hd
      · rw [hB false]
        simp only [Bool.false_eq_true, false_iff]
        rw [hA]
        rintro ⟨hh, _⟩
        rw [hal.2 hh] at m1; cases m1
  · rintro e w' ⟨v, rfl, rfl, h⟩; exact ⟨rfl, h⟩
end JG
end Go.Proofs.Ytddbebhklmaeoaa
