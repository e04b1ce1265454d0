/- Follows, as the document has it. -/
import Derived.Test.YtddbebhklmaeoaaM25
import Derived.Test.YtddbebhklmaeoaaM12
import Derived.Test.YtddbebhklmaeoaaM18
set_option linter.unusedVariables false
set_option linter.unusedSimpArgs false
set_option maxRecDepth 10000
namespace Go.Proofs.Ytddbebhklmaeoaa
open Go Go.Proofs.Ytddbebhklmaeoaa.Vc
namespace JG
open Vc.PG JD
/-- May a call stand behind an order? -/
def NextP (p : PolD) (l : List CalD) (ord : List Int) (K : Int) : Prop := 0 ≤ K ∧ K < l.length ∧ K ∉ ord ∧
  (∀ m : Nat, m < l.length → (m : Int) ≠ K → (m : Int) ∉ ord → ¬ (0 ≤ cEnded (l.getD m cd) ∧ cEnded (l.getD m cd) < cBegan (l.getD K.toNat cd))) ∧
  (cWrite (l.getD K.toNat cd) = true ∨ (ansI p l (JL.lastOf (histOf p l) ord, K) == cAllowed (l.getD K.toNat cd)) = true)
theorem nextR' {w : World} {v : PV} {x y : Sl} {p : PolD} {l : List CalD} {ord : List Int} (hp : InP w v p) (hc0 : RdL calT w x l) (hy : RdL (.int .i64) w y ord) (sp : SmallP p) (sc : SmallC l) (ho : ord.length ≤ 1000000000)
    (hin : ∀ a, a < ord.length → 0 ≤ ord.getD a 0 ∧ ord.getD a 0 < (l.length : Int)) (K : Int) :
    Calls Try.prog 37 #[v.v, x.v, y.v, .int .i64 K] w fun e w' => ∃ m : Bool, e = .returned (.bool m) ∧ (m = true ↔ NextP p l ord K) ∧ Fr [] w w' := by
  refine Calls.mono (f37.calls (R := fun e w' => ∃ m : Bool, e = .bool m ∧ (m = true ↔ NextP p l ord K) ∧ Fr [] w w') ?_) ?_
  · dsimp only [f37.VC]
    have hl : x.2.1 = l.length := hc0.1
    have hyl : y.2.1 = ord.length := hy.1
    have hln := sc.n
    have hS1 := (St.start w).alloc v.cells 28
    generalize World.alloc w (.cells v.cells 28) = w1 at *
    generalize w.heap.size = b1 at *
    have no : ¬ NextP p l ord K → ((false : Bool) = true ↔ NextP p l ord K) := fun h => ⟨(fun h => by cases h), fun h' => absurd h' h⟩
    refine sel_of (fun h1 => ⟨false, rfl, no ?_, hS1.frame⟩) (fun h1 => sel_of (fun h2 => ⟨false, rfl, no ?_, hS1.frame⟩) (fun h2 => ?_))
    · rintro ⟨q, _⟩; have := of_decide_eq_true h1; omega
    · rintro ⟨_, q, _⟩; have := of_decide_eq_true h2; omega
    have h1 := of_decide_eq_false h1
    have h2 := of_decide_eq_false h2
    refine Calls.mono (hasR (hy.fr hS1.frame) ho K) ?_
    rintro _ _ ⟨rfl, rfl⟩
    refine ⟨_, rfl, sel_of (fun h3 => ⟨false, rfl, no ?_, hS1.frame⟩) (fun h3 => ?_)⟩
    · rintro ⟨_, _, q, _⟩; exact q (of_decide_eq_true h3)
    have h3 := of_decide_eq_false h3
    obtain ⟨k, rfl⟩ : ∃ k : Nat, K = (k : Int) := ⟨K.toNat, by omega⟩
    have hkl : k < l.length := by omega
    have hkx : k < x.2.1 := by omega
    obtain ⟨bb, oo, hA, hc⟩ := RdL.call hc0 (by omega)
    refine ⟨fun i w' r => St [] w w' [Chunk.blk b1 v.cells 28] ∧ ∃ q : Nat, i = (q : Int) ∧ q + r = x.2.1 ∧ ∀ m : Nat, m < q → (m : Int) ≠ (k : Int) → (m : Int) ∉ ord → ¬ (0 ≤ cEnded (l.getD m cd) ∧ cEnded (l.getD m cd) < cBegan (l.getD k cd)), ⟨x.2.1, hS1, 0, rfl, by omega, fun a ha => by omega⟩, ?_⟩
    clear hS1
    rintro d i w3 r ⟨hS3, q, rfl, hq, hno⟩
    have hck : ∃ vk : PV, InP w vk (cPol (l.getD k cd)) ∧ ∀ j y, (calV (l.getD k cd) vk)[j]? = some y → w.cell? ⟨bb, oo + k * 19 + j, none⟩ = some y := by
      obtain ⟨vk, a, _, _, b⟩ := hc k hkx; exact ⟨vk, a, b⟩
    obtain ⟨vk, hvk, hck⟩ := hck
    refine sel_of (fun hd => ?_) (fun hd => ?_)
    · have hi : q < x.2.1 := by have := of_decide_eq_true hd; omega
      obtain ⟨vq, _, _, _, hcq⟩ := hc q hi
      have hup : ∀ a, a < q + 1 → a < q ∨ a = q := fun a ha => by omega
      rw [inc q x.2.1 (by omega) (by omega)]
      have next : ((q : Int) ≠ (k : Int) → (q : Int) ∉ ord → ¬ (0 ≤ cEnded (l.getD q cd) ∧ cEnded (l.getD q cd) < cBegan (l.getD k cd))) → ∀ w', St [] w w' [Chunk.blk b1 v.cells 28] → ∃ m, m < r ∧ St [] w w' [Chunk.blk b1 v.cells 28] ∧ ∃ q' : Nat, ((q + 1 : Nat) : Int) = (q' : Int) ∧ q' + m = x.2.1 ∧
          ∀ m : Nat, m < q' → (m : Int) ≠ (k : Int) → (m : Int) ∉ ord → ¬ (0 ≤ cEnded (l.getD m cd) ∧ cEnded (l.getD m cd) < cBegan (l.getD k cd)) := fun h w' hw =>
        ⟨r - 1, by omega, hw, q + 1, rfl, by omega, fun a ha => (hup a ha).elim (hno a) fun e => by rw [e]; exact h⟩
      refine sel_of (fun h4 => ?_) (fun h4 => ⟨rfl, next (fun h => absurd (bne_eq_false_iff_eq.1 h4) h) _ hS3.drew⟩)
      have h4 : (q : Int) ≠ (k : Int) := bne_iff_ne.1 h4
      refine Calls.mono (hasR (hy.fr hS3.drew.frame) ho (q : Int)) ?_
      rintro _ _ ⟨rfl, rfl⟩
      have hS4 := hS3.drew
      generalize w3.drew = w4 at *
      have hce := hS4.frame.cell (hcq 1 _ rfl)
      have hcb := hS4.frame.cell (hck 0 _ rfl)
      refine ⟨_, rfl, sel_of (fun h5 => ?_) (fun h5 => ⟨rfl, next (fun _ h => ?_) _ hS4⟩)⟩
      · have h5 : (q : Int) ∉ ord := of_decide_eq_false (by simpa using h5)
        refine ⟨by omega, by omega, needPtr_of hA ⟨_, hce, sel_of (fun h6 => ⟨by omega, by omega, needPtr_of hA ⟨by omega, by omega, needPtr_of hA ⟨_, hce, _, hcb, sel_of (fun h7 => ⟨false, rfl, no ?_, hS4.frame⟩) (fun h7 => ⟨rfl, next (fun _ _ h => ?_) _ hS4⟩)⟩⟩⟩) (fun h6 => ⟨rfl, next (fun _ _ h => ?_) _ hS4⟩)⟩⟩
        · rintro ⟨_, _, _, h, _⟩
          exact h q (by omega) h4 h5 ⟨of_decide_eq_true h6, of_decide_eq_true h7⟩
        · exact of_decide_eq_false h7 h.2
        · exact of_decide_eq_false h6 h.1
      · exact absurd (of_decide_eq_true (by simpa using h5)) h
    · have hi : q = x.2.1 := by have := of_decide_eq_false hd; omega
      have hP : NextP p l ord (k : Int) ↔ (cWrite (l.getD k cd) = true ∨ (ansI p l (JL.lastOf (histOf p l) ord, (k : Int)) == cAllowed (l.getD k cd)) = true) :=
        ⟨fun h => h.2.2.2.2, fun h => ⟨by omega, by omega, h3, fun m hm => hno m (by omega), h⟩⟩
      refine ⟨by omega, by omega, needPtr_of hA ⟨_, hS3.frame.cell (hck 2 _ rfl), sel_of (fun h4 => ⟨true, rfl, ⟨fun _ => hP.2 (.inl h4), fun _ => rfl⟩, hS3.frame⟩) (fun h4 => ?_)⟩⟩
      have h4 : cWrite (l.getD k cd) = false := h4
      have hB1 := hS3.blk 0 rfl
      have hS4 := hS3.alloc #[.slice none 0 0, .slice none 0 0, .slice none 0 0, .slice none 0 0, .slice none 0 0, .slice none 0 0, .slice none 0 0, .slice none 0 0, .slice none 0 0, .slice none 0 0, .slice none 0 0] 28
      have hS5 := hS4.over 0 rfl v.l rfl
      refine ⟨_, _, _, hB1.cell rfl, _, _, _, hB1.cell rfl, _, _, _, hB1.cell rfl, _, _, _, hB1.cell rfl, _, _, _, hB1.cell rfl, _, _, _, hB1.cell rfl, _, _, _, hB1.cell rfl, _, _, _, hB1.cell rfl, _, _, _, hB1.cell rfl, _, _, _, hB1.cell rfl, _, _, _, hB1.cell rfl, (hS4.blk 0 rfl).can (by simp), ?_⟩
      generalize World.alloc w3 (.cells #[.slice none 0 0, .slice none 0 0, .slice none 0 0, .slice none 0 0, .slice none 0 0, .slice none 0 0, .slice none 0 0, .slice none 0 0, .slice none 0 0, .slice none 0 0, .slice none 0 0] 28) = w4 at *
      generalize w3.heap.size = b3 at *
      change St [] w (setCs w4 b3 0 [.slice v.a.1 v.a.2.1 v.a.2.2, .slice v.s.1 v.s.2.1 v.s.2.2, .slice v.r.1 v.r.2.1 v.r.2.2, .slice v.o.1 v.o.2.1 v.o.2.2, .slice v.g.1 v.g.2.1 v.g.2.2, .slice v.m.1 v.m.2.1 v.m.2.2, .slice v.i.1 v.i.2.1 v.i.2.2, .slice v.q.1 v.q.2.1 v.q.2.2, .slice v.t.1 v.t.2.1 v.t.2.2, .slice v.u.1 v.u.2.1 v.u.2.2, .slice v.e.1 v.e.2.1 v.e.2.2]) _ at hS5
      generalize setCs w4 b3 0 [.slice v.a.1 v.a.2.1 v.a.2.2, .slice v.s.1 v.s.2.1 v.s.2.2, .slice v.r.1 v.r.2.1 v.r.2.2, .slice v.o.1 v.o.2.1 v.o.2.2, .slice v.g.1 v.g.2.1 v.g.2.2, .slice v.m.1 v.m.2.1 v.m.2.2, .slice v.i.1 v.i.2.1 v.i.2.2, .slice v.q.1 v.q.2.1 v.q.2.2, .slice v.t.1 v.t.2.1 v.t.2.2, .slice v.u.1 v.u.2.1 v.u.2.2, .slice v.e.1 v.e.2.1 v.e.2.2] = w5 at *
      replace hS5 : St [] w w5 [Chunk.blk b3 v.cells 28, Chunk.blk b1 v.cells 28] := hS5
      refine ⟨fun i w' r => ∃ (q : Nat) (u : PV), i = (q : Int) ∧ q + r = y.2.1 ∧ InP w u (polAt p l (JL.lastOf (histOf p l) (ord.take q))) ∧ SmallP (polAt p l (JL.lastOf (histOf p l) (ord.take q))) ∧ St [] w w' [Chunk.blk b3 u.cells 28, Chunk.blk b1 v.cells 28],
        ⟨y.2.1, 0, v, rfl, by omega, hp, sp, hS5⟩, ?_⟩
      clear hS3 hS4 hS5 hB1 hno hd hi hq q w3 w4 w5
      rintro d i w6 r ⟨q, u, rfl, hq, hu, hsp, hS6⟩
      refine sel_of (fun hd => ?_) (fun hd => ?_)
      · have hi : q < y.2.1 := by have := of_decide_eq_true hd; omega
        rw [inc q y.2.1 (by omega) (by omega)]
        obtain ⟨by', oy, hAy, hcy⟩ := RdL.int (hy.fr hS6.frame) (by omega)
        obtain ⟨g1, g2⟩ := hin q (by omega)
        obtain ⟨z, hz⟩ : ∃ z : Nat, ord.getD q 0 = (z : Int) := ⟨(ord.getD q 0).toNat, by omega⟩
        have hts := take_snoc (l := ord) (i := q) (by omega)
        have hcyq := hcy q hi
        rw [hz] at g1 g2 hts hcyq
        have hlast : JL.lastOf (histOf p l) (ord.take (q + 1)) = if (cWrite (l.getD z cd) && !cFailed (l.getD z cd)) = true then (z : Int) else JL.lastOf (histOf p l) (ord.take q) := by
          rw [hts, JL.lastOf_snoc]; rfl
        have hpz : polAt p l (z : Int) = cPol (l.getD z cd) := by unfold polAt; rw [if_pos (by omega)]; rfl
        have hsz : SmallP (cPol (l.getD z cd)) := sc.p _ ((mem_getD cd _ _).2 ⟨z, by omega, rfl⟩)
        obtain ⟨vz, hvz, _, _, hc1⟩ := hc z (by omega)
        have hcz := fun j y h => hS6.frame.cell (hc1 j y h)
        generalize hcl : l.getD z cd = cl at *
        refine ⟨by omega, by omega, needPtr_of hAy ⟨_, hcyq, by omega, by omega, needPtr_of hA ⟨_, hcz 0 _ rfl, _, hcz 1 _ rfl, _, hcz 2 _ rfl, _, hcz 3 _ rfl, _, hcz 4 _ rfl, _, _, _, hcz 5 _ rfl, _, _, _, hcz 6 _ rfl, _, _, _, hcz 7 _ rfl, _, _, _, hcz 8 _ rfl, _, _, _, hcz 9 _ rfl, _, _, _, hcz 10 _ rfl, _, _, _, hcz 11 _ rfl, _, _, _, hcz 12 _ rfl, _, _, _, hcz 13 _ rfl, _, _, _, hcz 14 _ rfl, _, _, _, hcz 15 _ rfl, _, hcz 16 _ rfl, _, hcz 17 _ rfl, _, hcz 18 _ rfl, Calls.mono (hS6.step0 (countsR cl vz)) ?_⟩⟩⟩
        rintro _ w8 ⟨rfl, hS8⟩
        have hcz := fun j y h => hS8.frame.cell (hc1 j y h)
        obtain ⟨by2, oy2, hAy2, hcy2⟩ := RdL.int (hy.fr hS8.frame) (by omega)
        have hcyq2 := hcy2 q hi
        rw [hz] at hcyq2
        refine ⟨_, rfl, sel_of (fun h5 => ?_) (fun h5 => ⟨rfl, r - 1, by omega, q + 1, u, rfl, by omega, ?_, ?_, hS8⟩)⟩
        · have hlz : JL.lastOf (histOf p l) (ord.take (q + 1)) = (z : Int) := by rw [hlast, if_pos h5]
          refine ⟨by omega, by omega, needPtr_of hAy2 ⟨_, hcyq2, by omega, by omega, needPtr_of hA ⟨_, _, _, hcz 5 _ rfl, _, _, _, hcz 6 _ rfl, _, _, _, hcz 7 _ rfl, _, _, _, hcz 8 _ rfl, _, _, _, hcz 9 _ rfl, _, _, _, hcz 10 _ rfl, _, _, _, hcz 11 _ rfl, _, _, _, hcz 12 _ rfl, _, _, _, hcz 13 _ rfl, _, _, _, hcz 14 _ rfl, _, _, _, hcz 15 _ rfl, (hS8.blk 0 rfl).can (by simp), rfl, r - 1, by omega, q + 1, vz, rfl, by omega, ?_, ?_, hS8.over 0 rfl vz.l rfl⟩⟩⟩
          · rw [hlz, hpz]; exact hvz
          · rw [hlz, hpz]; exact hsz
        · rw [hlast, if_neg (by rw [h5]; decide)]; exact hu
        · rw [hlast, if_neg (by rw [h5]; decide)]; exact hsp
      · have hi : q = y.2.1 := by have := of_decide_eq_false hd; omega
        rw [List.take_of_length_le (by omega)] at hu hsp
        have hBu := hS6.blk 0 rfl
        have hcz := fun j y h => hS6.frame.cell (hck j y h)
        refine ⟨by omega, by omega, needPtr_of hA ⟨by omega, by omega, needPtr_of hA ⟨_, _, _, hBu.cell rfl, _, _, _, hBu.cell rfl, _, _, _, hBu.cell rfl, _, _, _, hBu.cell rfl, _, _, _, hBu.cell rfl, _, _, _, hBu.cell rfl, _, _, _, hBu.cell rfl, _, _, _, hBu.cell rfl, _, _, _, hBu.cell rfl, _, _, _, hBu.cell rfl, _, _, _, hBu.cell rfl, _, hcz 16 _ rfl, _, hcz 17 _ rfl, _, hcz 18 _ rfl, _, hcz 4 _ rfl, Calls.mono (hS6.drew.step0 (allowsR (hu.fr hS6.drew.frame) hsp _ _ _)) ?_⟩⟩⟩
        rintro _ w10 ⟨rfl, hS10⟩
        have hBu := hS10.blk 0 rfl
        refine ⟨_, rfl, ?_, _, rfl, ?_, hS10.frame⟩
        · repeat' (first | exact trivial | exact hBu.cell rfl | exact hS10.frame.cell (hck 4 _ rfl) | exact hS10.frame.cell (hck 16 _ rfl) | exact hS10.frame.cell (hck 17 _ rfl) | exact hS10.frame.cell (hck 18 _ rfl) | refine ⟨?_, ?_⟩)
        · rw [hP]
          exact ⟨fun h => .inr h, fun h => h.elim (fun h => by rw [h4] at h; cases h) id⟩
  · rintro e w' ⟨v, rfl, m, rfl, h⟩; exact ⟨m, rfl, h⟩
def wholeP (l : List CalD) (ord : List Int) : Prop := ∀ k : Nat, k < l.length → 0 ≤ cEnded (l.getD k cd) → (k : Int) ∈ ord
theorem wholeR {w : World} {x y : Sl} {l : List CalD} {ord : List Int} (hc0 : RdL calT w x l) (hy : RdL (.int .i64) w y ord) (hln : l.length ≤ 1100000) (ho : ord.length ≤ 1000000000) :
    Calls Try.prog 38 #[x.v, y.v] w fun e w' => ∃ m : Bool, e = .returned (.bool m) ∧ (m = true ↔ wholeP l ord) ∧ Fr [] w w' := by
  refine Calls.mono (f38.calls (R := fun e w' => ∃ m : Bool, e = .bool m ∧ (m = true ↔ wholeP l ord) ∧ Fr [] w w') ?_) ?_
  · dsimp only [f38.VC]
    have hl : x.2.1 = l.length := hc0.1
    refine ⟨fun i w' r => Fr [] w w' ∧ ∃ q : Nat, i = (q : Int) ∧ q + r = x.2.1 ∧ ∀ k : Nat, k < q → 0 ≤ cEnded (l.getD k cd) → (k : Int) ∈ ord, ⟨x.2.1, Fr.refl _ _, 0, rfl, by omega, fun a ha => by omega⟩, ?_⟩
    rintro d i w1 r ⟨hf, q, rfl, hq, hno⟩
    refine sel_of (fun hd => ?_) (fun hd => ?_)
    · have hi : q < x.2.1 := by have := of_decide_eq_true hd; omega
      have hup : ∀ a, a < q + 1 → a < q ∨ a = q := fun a ha => by omega
      rw [inc q x.2.1 (by omega) (by omega)]
      obtain ⟨bb, oo, hA, hc⟩ := RdL.call (hc0.fr hf) (by omega)
      obtain ⟨vq, _, _, _, hcq⟩ := hc q hi
      have next : (0 ≤ cEnded (l.getD q cd) → (q : Int) ∈ ord) → ∃ m, m < r ∧ Fr [] w w1 ∧ ∃ q' : Nat, ((q + 1 : Nat) : Int) = (q' : Int) ∧ q' + m = x.2.1 ∧ ∀ k : Nat, k < q' → 0 ≤ cEnded (l.getD k cd) → (k : Int) ∈ ord := fun h =>
        ⟨r - 1, by omega, hf, q + 1, rfl, by omega, fun a ha => (hup a ha).elim (hno a) fun e => by rw [e]; exact h⟩
      refine ⟨by omega, by omega, needPtr_of hA ⟨_, hcq 1 _ rfl, sel_of (fun h1 => Calls.mono (hasR (hy.fr hf) ho (q : Int)) ?_) (fun h1 => ⟨rfl, next fun h => absurd h (of_decide_eq_false h1)⟩)⟩⟩
      rintro _ _ ⟨rfl, rfl⟩
      refine ⟨_, rfl, sel_of (fun h2 => ⟨false, rfl, ⟨(fun h => by cases h), fun h => ?_⟩, hf⟩) (fun h2 => ⟨rfl, next fun _ => of_decide_eq_true (by simpa using h2)⟩)⟩
      have h2 := of_decide_eq_false (p := (q : Int) ∈ ord) (by simpa using h2)
      exact absurd (h q (by omega) (of_decide_eq_true h1)) h2
    · have hi : q = x.2.1 := by have := of_decide_eq_false hd; omega
      exact ⟨true, rfl, ⟨fun _ k hk => hno k (by omega), fun _ => rfl⟩, hf⟩
  · rintro e w' ⟨v, rfl, m, rfl, h⟩; exact ⟨m, rfl, h⟩
theorem next_right {p : PolD} {l : List CalD} {ord : List Int} {i : Nat} : NextP p l (ord.take i) (ord.getD i 0) ↔ RightAt (histOf p l) ord i ∧ ∀ m : Nat, m < l.length → (m : Int) ≠ ord.getD i 0 → (m : Int) ∉ ord.take i → ¬ (0 ≤ cEnded (l.getD m cd) ∧ cEnded (l.getD m cd) < cBegan (l.getD (ord.getD i 0).toNat cd)) := by
  have e : 0 ≤ ord.getD i 0 → ((ansI p l (JL.lastOf (histOf p l) (ord.take i), ord.getD i 0) == cAllowed (l.getD (ord.getD i 0).toNat cd)) = (histOf p l).fits (JL.lastOf (histOf p l) (ord.take i)) (ord.getD i 0).toNat) := fun h => rfl
  constructor
  · rintro ⟨a, b, c, d, f⟩
    exact ⟨⟨a, b, c, by rw [← e a]; exact f⟩, d⟩
  · rintro ⟨⟨a, b, c, f⟩, d⟩
    exact ⟨a, b, c, d, by rw [e a]; exact f⟩
theorem followsR {w : World} {v : PV} {x y : Sl} {p : PolD} {l : List CalD} {ord : List Int} (hp : InP w v p) (hc0 : RdL calT w x l) (hy : RdL (.int .i64) w y ord) (sp : SmallP p) (sc : SmallC l) (ho : ord.length ≤ 1000000000) :
    Calls Try.prog 17 #[v.v, x.v, y.v] w fun e w' => ∃ m : Bool, e = .returned (.bool m) ∧ Fol p l ord m ∧ Fr [] w w' := by
  refine Calls.mono (f17.calls (R := fun e w' => ∃ m : Bool, e = .bool m ∧ Fol p l ord m ∧ Fr [] w w') ?_) ?_
  · dsimp only [f17.VC]
    have hl : x.2.1 = l.length := hc0.1
    have hyl : y.2.1 = ord.length := hy.1
    have hyc : y.2.1 ≤ y.2.2 := hy.2.1
    have hln := sc.n
    have hS1 := (St.start w).alloc v.cells 28
    generalize World.alloc w (.cells v.cells 28) = w1 at *
    generalize w.heap.size = b1 at *
    refine Calls.mono (hS1.step0 (histR (hc0.fr hS1.frame) hln)) ?_
    rintro _ w2 ⟨rfl, hS2⟩
    refine ⟨_, rfl, sel_of (fun hh => ?_) (fun hh => ?_)⟩
    · have hh : (!histB l) = true := hh
      refine ⟨false, rfl, ⟨(fun h => by cases h), fun h => ?_⟩, hS2.frame⟩
      rw [h.1] at hh; cases hh
    have hh : histB l = true := by simpa using hh
    have hok := hist_ok (p := p) hh
    refine ⟨fun i w' r => St [] w w' [Chunk.blk b1 v.cells 28] ∧ ∃ q : Nat, i = (q : Int) ∧ q + r = y.2.1 ∧ ∀ a, a < q → NextP p l (ord.take a) (ord.getD a 0), ⟨y.2.1, hS2, 0, rfl, by omega, fun a ha => by omega⟩, ?_⟩
    clear hS1 hS2 w1 w2
    rintro d i w3 r ⟨hS3, q, rfl, hq, hno⟩
    refine sel_of (fun hd => ?_) (fun hd => ?_)
    · have hi : q < y.2.1 := by have := of_decide_eq_true hd; omega
      rw [inc q y.2.1 (by omega) (by omega)]
      obtain ⟨by', oy, hAy, hcy⟩ := RdL.int (hy.fr hS3.frame) (by omega)
      have hB1 := hS3.blk 0 rfl
      refine ⟨by omega, by omega, by omega, by omega, needPtr_of hAy ⟨_, _, _, hB1.cell rfl, _, _, _, hB1.cell rfl, _, _, _, hB1.cell rfl, _, _, _, hB1.cell rfl, _, _, _, hB1.cell rfl, _, _, _, hB1.cell rfl, _, _, _, hB1.cell rfl, _, _, _, hB1.cell rfl, _, _, _, hB1.cell rfl, _, _, _, hB1.cell rfl, _, _, _, hB1.cell rfl, _, hcy q hi, Calls.mono (nextR' (x := x) (y := (y.1, q, y.2.2)) (ord := ord.take q) (hp.fr hS3.drew.frame) (hc0.fr hS3.drew.frame) ((hy.fr hS3.drew.frame).take (by omega)) sp sc (by simp; omega) (fun a ha => ?_) (ord.getD q 0)) ?_⟩⟩
      · simp only [List.length_take] at ha
        have := hno a (by omega)
        have e : (ord.take q).getD a 0 = ord.getD a 0 := by
          simp only [List.getD_eq_getElem?_getD, List.getElem?_take]
          rw [if_pos (by omega)]
        rw [e]
        exact ⟨this.1, this.2.1⟩
      · rintro _ w4 ⟨m, rfl, hm, hf4⟩
        refine ⟨_, rfl, sel_of (fun h1 => ⟨false, rfl, ⟨(fun h => by cases h), fun hF => ?_⟩, (hS3.drew.go hf4).frame⟩) (fun h1 => ⟨rfl, r - 1, by omega, hS3.drew.go hf4, q + 1, rfl, by omega, fun a ha => ?_⟩)⟩
        · obtain ⟨k1, k2, k3⟩ := (JL.follows_ref hok).1 hF.2
          have := hm.2 (next_right.2 ⟨k1 q (by omega), k2 q (by omega)⟩)
          rw [this] at h1; cases h1
        · rcases Nat.lt_or_ge a q with h | h
          · exact hno a h
          · have : a = q := by omega
            rw [this]; exact hm.1 (by simpa using h1)
    · have hi : q = y.2.1 := by have := of_decide_eq_false hd; omega
      refine Calls.mono (wholeR (hc0.fr hS3.frame) (hy.fr hS3.frame) hln ho) ?_
      rintro _ w5 ⟨m, rfl, hm, hf5⟩
      refine ⟨_, rfl, m, rfl, ⟨fun h => ⟨hh, (JL.follows_ref hok).2 ⟨fun a ha => (next_right.1 (hno a (by omega))).1, fun a ha => (next_right.1 (hno a (by omega))).2, hm.1 h⟩⟩, fun hF => hm.2 hF.2.2.2⟩, (hS3.go hf5).frame⟩
  · rintro e w' ⟨v, rfl, m, rfl, h⟩; exact ⟨m, rfl, h⟩
end JG
end Go.Proofs.Ytddbebhklmaeoaa
/- The document's search: the table, full, step. -/
set_option linter.unusedVariables false
set_option linter.unusedSimpArgs false
set_option maxRecDepth 10000
namespace Go.Proofs.Ytddbebhklmaeoaa
open Go Go.Proofs.Ytddbebhklmaeoaa.Vc
namespace JG
open Vc.PG JD
/-- What a table says: what the policy behind a write that counts answers a check. -/
noncomputable def tabB (p : PolD) (l : List CalD) (last : Int) (k : Nat) : Bool := !cWrite (l.getD k cd) && (decide (last < 0) || (cWrite (l.getD last.toNat cd) && !cFailed (l.getD last.toNat cd))) && ansI p l (last, (k : Int))
noncomputable def tabP (p : PolD) (l : List CalD) : List (List Bool) := (List.range (l.length + 1)).map fun i : Nat => (List.range l.length).map (tabB p l ((i : Int) - 1))
/-- A list of lists. -/
theorem RdL.lists {w : World} {e : Ty} {x : Sl} {l : List (List (Den e))} (h : RdL (.sl e) w x l) (hp : 0 < x.2.1) : ∃ b o, x.1 = some ⟨b, o, none⟩ ∧ ∀ q, q < x.2.1 → ∃ s : Sl, RdL e w s (l.getD q []) ∧ w.cell? ⟨b, o + q * 1, none⟩ = some s.v := by
  obtain ⟨b, o, h1, h2⟩ := h.2.2 hp
  refine ⟨b, o, h1, fun q hq => ?_⟩
  obtain ⟨es, h3, h4⟩ := h2 q hq
  obtain ⟨s, rfl, h5⟩ := rd_sl.1 h3
  exact ⟨s, h5, h4 0 _ rfl⟩
/-- A table that is read. -/
structure TabAt (w : World) (t : Nat) (x y : Sl) (p : PolD) (l : List CalD) : Prop where
  blk : Blk w t #[x.v, y.v] 117
  cal : RdL calT w x l
  yes : RdL (.sl .bool) w y (tabP p l)
theorem TabAt.fr {w w' : World} {t : Nat} {x y : Sl} {p : PolD} {l : List CalD} (h : TabAt w t x y p l) (hf : Fr [] w w') : TabAt w' t x y p l := ⟨hf.blk h.blk (by simp), h.cal.fr hf, h.yes.fr hf⟩
section
variable {p : PolD} {l : List CalD} {S k : Nat} {last z0 z1 : Int}
end
end JG
end Go.Proofs.Ytddbebhklmaeoaa
/- The document's table. -/
set_option linter.unusedVariables false
set_option linter.unusedSimpArgs false
set_option maxRecDepth 10000
namespace Go.Proofs.Ytddbebhklmaeoaa
open Go Go.Proofs.Ytddbebhklmaeoaa.Vc
namespace JG
open Vc.PG JD
theorem map_getD {α β : Type} (f : α → β) (l : List α) (d : β) (e : α) {q : Nat} (h : q < l.length) : (l.map f).getD q d = f (l.getD q e) := by
  rw [List.getD_eq_getElem?_getD, List.getElem?_map, List.getD_eq_getElem?_getD, List.getElem?_eq_getElem h]; rfl
end JG
end Go.Proofs.Ytddbebhklmaeoaa
/- Which states lead on. -/
set_option linter.unusedVariables false
set_option linter.unusedSimpArgs false
set_option maxRecDepth 10000
namespace Go.Proofs.Ytddbebhklmaeoaa
open Go Go.Proofs.Ytddbebhklmaeoaa.Vc
namespace JG
open Vc.PG JD
end JG
end Go.Proofs.Ytddbebhklmaeoaa
/- Linear, as the document has it. -/
set_option linter.unusedVariables false
set_option linter.unusedSimpArgs false
set_option maxRecDepth 10000
namespace Go.Proofs.Ytddbebhklmaeoaa
open Go Go.Proofs.Ytddbebhklmaeoaa.Vc
namespace JG
open Vc.PG JD
section
variable {H : JL.Hist}
end
end JG
end Go.Proofs.Ytddbebhklmaeoaa
/- Small functions of the statements. -/
set_option linter.unusedVariables false
set_option linter.unusedSimpArgs false
set_option maxRecDepth 10000
namespace Go.Proofs.Ytddbebhklmaeoaa
open Go Go.Proofs.Ytddbebhklmaeoaa.Vc
namespace JG
open Vc.PG JD
abbrev bX : ByteArray := ⟨#[120]⟩
abbrev bA : ByteArray := ⟨#[97]⟩
abbrev bO : ByteArray := ⟨#[111]⟩
abbrev one64 : Nat := 4607182418800017408
abbrev ruleO : RuleD := (false, bA, bO, [], 0, 0, ())
abbrev shutP : PolD := ([bX], [(bA, one64, ())], [], [bO], [], [], [], [], [], [], [], ())
abbrev openP : PolD := ([bX], [(bA, one64, ())], [], [bO], [], [], [], [], [], [ruleO], [], ())
abbrev entT : TriD := (bA, bO, bX, ())
theorem open_allows : allowsB geF ltF openP entT = true := by
  refine (allowsB_iff _ _ _ _).2 ⟨one64, if_pos rfl, List.mem_singleton.2 rfl, List.mem_singleton.2 rfl, ⟨ruleO, List.mem_singleton.2 rfl, ⟨.refl, .refl, rfl⟩, .inl rfl⟩, fun r hr _ _ => ?_, fun h => by cases h⟩
  have : r = ruleO := List.mem_singleton.1 hr
  rw [this]
theorem shut_allows : allowsB geF ltF shutP entT = false := by
  cases h : allowsB geF ltF shutP entT with
  | false => rfl
  | true =>
    obtain ⟨_, _, _, _, ⟨r, hr, _⟩, _⟩ := (allowsB_iff _ _ _ _).1 h
    cases hr
theorem shut_small : SmallP shutP := ⟨by decide, by decide, by decide, by decide, by decide, by decide, by decide, by decide, by decide, by decide, by decide, fun r hr => by cases hr⟩
theorem open_small : SmallP openP := ⟨by decide, by decide, by decide, by decide, by decide, by decide, by decide, by decide, by decide, by decide, by decide, fun r hr => by
  have : r = ruleO := List.mem_singleton.1 hr
  rw [this]; decide⟩
theorem rdl_blk {e : Ty} {w : World} {b : Nat} {T : TypeId} (rs : List (List Value)) (l : List (Den e)) (hB : Blk w b rs.flatten.toArray T) (hrs : ∀ r ∈ rs, r.length = e.w) (hl : rs.length = l.length) (hm : rs.length ≤ maxLen) (hr : ∀ q, q < l.length → Rd w e (rs.getD q []) (l.getD q (Den.dflt e))) : RdL e w (some ⟨b, 0, none⟩, rs.length, rs.length) l :=
  sl_reads (F := [b]) T (sl_of_blk (F := [b]) rs hrs hm ⟨rfl, hB⟩) hl hr
theorem rdl_one {e : Ty} {w : World} {b : Nat} {T : TypeId} (r : List Value) (d : Den e) (hB : Blk w b r.toArray T) (hr : Rd w e r d) : RdL e w (some ⟨b, 0, none⟩, 1, 1) [d] :=
  rdl_blk [r] [d] (by simpa using hB) (fun x hx => by rw [List.mem_singleton.1 hx]; exact hr.len) rfl (by simp [maxLen]) (fun q hq => by
    have : q = 0 := by simp at hq; exact hq
    subst this; exact hr)
theorem shutR {w : World} : Calls Try.prog 24 #[] w fun e w' => ∃ u : PV, e = .returned u.v ∧ St [] w w' [kP u shutP] := by
  refine Calls.mono (f24.calls (R := fun e w' => ∃ u : PV, e = u.v ∧ St [] w w' [kP u shutP]) ?_) ?_
  · dsimp only [f24.VC]
    have hS := (((St.start w).alloc #[.slice none 0 0, .slice none 0 0, .slice none 0 0, .slice none 0 0, .slice none 0 0, .slice none 0 0, .slice none 0 0, .slice none 0 0, .slice none 0 0, .slice none 0 0, .slice none 0 0] 28).alloc #[.string bX] 9).alloc #[.string bA, .float .f64 one64] 110 |>.alloc #[.string bO] 9
    generalize World.alloc w (.cells #[.slice none 0 0, .slice none 0 0, .slice none 0 0, .slice none 0 0, .slice none 0 0, .slice none 0 0, .slice none 0 0, .slice none 0 0, .slice none 0 0, .slice none 0 0, .slice none 0 0] 28) = w1 at *
    generalize w.heap.size = b0 at *
    generalize World.alloc w1 (.cells #[.string bX] 9) = w2 at *
    generalize w1.heap.size = b1 at *
    generalize World.alloc w2 (.cells #[.string bA, .float .f64 one64] 110) = w3 at *
    generalize w2.heap.size = b2 at *
    generalize World.alloc w3 (.cells #[.string bO] 9) = w4 at *
    generalize w3.heap.size = b3 at *
    obtain ⟨u, hu⟩ : ∃ u : PV, u = ⟨(some ⟨b1, 0, none⟩, 1, 1), (some ⟨b2, 0, none⟩, 1, 1), nilS, (some ⟨b3, 0, none⟩, 1, 1), nilS, nilS, nilS, nilS, nilS, nilS, nilS⟩ := ⟨_, rfl⟩
    have hS5 := hS.over 3 rfl u.l rfl
    have hB := hS5.blk 3 rfl
    refine ⟨(hS.blk 3 rfl).can (by simp), ?_⟩
    have e : ([.slice u.a.1 u.a.2.1 u.a.2.2, .slice u.s.1 u.s.2.1 u.s.2.2, .slice u.r.1 u.r.2.1 u.r.2.2, .slice u.o.1 u.o.2.1 u.o.2.2, .slice u.g.1 u.g.2.1 u.g.2.2, .slice u.m.1 u.m.2.1 u.m.2.2, .slice u.i.1 u.i.2.1 u.i.2.2, .slice u.q.1 u.q.2.1 u.q.2.2, .slice u.t.1 u.t.2.1 u.t.2.2, .slice u.u.1 u.u.2.1 u.u.2.2, .slice u.e.1 u.e.2.1 u.e.2.2] : List Value) = [.slice (some ⟨b1, 0, none⟩) 1 1, .slice (some ⟨b2, 0, none⟩) 1 1, .slice none 0 0, .slice (some ⟨b3, 0, none⟩) 1 1, .slice none 0 0, .slice none 0 0, .slice none 0 0, .slice none 0 0, .slice none 0 0, .slice none 0 0, .slice none 0 0] := by rw [hu]
    rw [← e]
    change St [] w (setCs w4 b0 0 [.slice u.a.1 u.a.2.1 u.a.2.2, .slice u.s.1 u.s.2.1 u.s.2.2, .slice u.r.1 u.r.2.1 u.r.2.2, .slice u.o.1 u.o.2.1 u.o.2.2, .slice u.g.1 u.g.2.1 u.g.2.2, .slice u.m.1 u.m.2.1 u.m.2.2, .slice u.i.1 u.i.2.1 u.i.2.2, .slice u.q.1 u.q.2.1 u.q.2.2, .slice u.t.1 u.t.2.1 u.t.2.2, .slice u.u.1 u.u.2.1 u.u.2.2, .slice u.e.1 u.e.2.1 u.e.2.2]) _ at hS5
    change Blk (setCs w4 b0 0 [.slice u.a.1 u.a.2.1 u.a.2.2, .slice u.s.1 u.s.2.1 u.s.2.2, .slice u.r.1 u.r.2.1 u.r.2.2, .slice u.o.1 u.o.2.1 u.o.2.2, .slice u.g.1 u.g.2.1 u.g.2.2, .slice u.m.1 u.m.2.1 u.m.2.2, .slice u.i.1 u.i.2.1 u.i.2.2, .slice u.q.1 u.q.2.1 u.q.2.2, .slice u.t.1 u.t.2.1 u.t.2.2, .slice u.u.1 u.u.2.1 u.u.2.2, .slice u.e.1 u.e.2.1 u.e.2.2]) _ _ _ at hB
    have hK := St.keepAll (hS5.sel [2, 1, 0] (by decide) [Chunk.blk b1 #[.string bX] 9, Chunk.blk b2 #[.string bA, .float .f64 one64] 110, Chunk.blk b3 #[.string bO] 9] rfl) (fun w => InP w u shutP) (fun w h1 h2 => by
      obtain ⟨G1, g1⟩ := h1
      obtain ⟨G2, g2⟩ := h2 (Chunk.blk b2 #[.string bA, .float .f64 one64] 110) List.mem_cons_self
      obtain ⟨G3, g3⟩ := h2 (Chunk.blk b3 #[.string bO] 9) (List.mem_cons_of_mem _ (List.mem_singleton.2 rfl))
      have q1 : Blk w b1 #[.string bX] 9 := g1.2
      have q2 : Blk w b2 #[.string bA, .float .f64 one64] 110 := g2.2
      have q3 : Blk w b3 #[.string bO] 9 := g3.2
      rw [hu]
      exact ⟨rdl_one (e := .str) _ _ q1 rfl, rdl_one (e := subjT) _ _ q2 ⟨[_], _, rfl, rfl, [_], [], rfl, rfl, rfl⟩, RdL.nil _ _, rdl_one (e := .str) _ _ q3 rfl, RdL.nil _ _, RdL.nil _ _, RdL.nil _ _, RdL.nil _ _, RdL.nil _ _, RdL.nil _ _, RdL.nil _ _⟩)
    clear e hS hS5
    generalize setCs w4 b0 0 [.slice u.a.1 u.a.2.1 u.a.2.2, .slice u.s.1 u.s.2.1 u.s.2.2, .slice u.r.1 u.r.2.1 u.r.2.2, .slice u.o.1 u.o.2.1 u.o.2.2, .slice u.g.1 u.g.2.1 u.g.2.2, .slice u.m.1 u.m.2.1 u.m.2.2, .slice u.i.1 u.i.2.1 u.i.2.2, .slice u.q.1 u.q.2.1 u.q.2.2, .slice u.t.1 u.t.2.1 u.t.2.2, .slice u.u.1 u.u.2.1 u.u.2.2, .slice u.e.1 u.e.2.1 u.e.2.2] = w5 at *
    exact ⟨_, _, _, hB.cell rfl, _, _, _, hB.cell rfl, _, _, _, hB.cell rfl, _, _, _, hB.cell rfl, _, _, _, hB.cell rfl, _, _, _, hB.cell rfl, _, _, _, hB.cell rfl, _, _, _, hB.cell rfl, _, _, _, hB.cell rfl, _, _, _, hB.cell rfl, _, _, _, hB.cell rfl, u, rfl, hK⟩
  · rintro e w' ⟨v, rfl, u, rfl, h⟩; exact ⟨u, rfl, h⟩
theorem openR {w : World} : Calls Try.prog 22 #[] w fun e w' => ∃ u : PV, e = .returned u.v ∧ St [] w w' [kP u openP] := by
  refine Calls.mono (f22.calls (R := fun e w' => ∃ u : PV, e = u.v ∧ St [] w w' [kP u openP]) ?_) ?_
  · dsimp only [f22.VC]
    have hS := (St.start w).alloc #[.slice none 0 0, .slice none 0 0, .slice none 0 0, .slice none 0 0, .slice none 0 0, .slice none 0 0, .slice none 0 0, .slice none 0 0, .slice none 0 0, .slice none 0 0, .slice none 0 0] 28
    generalize World.alloc w (.cells #[.slice none 0 0, .slice none 0 0, .slice none 0 0, .slice none 0 0, .slice none 0 0, .slice none 0 0, .slice none 0 0, .slice none 0 0, .slice none 0 0, .slice none 0 0, .slice none 0 0] 28) = w1 at *
    generalize w.heap.size = b0 at *
    refine Calls.mono shutR ?_
    rintro _ w2 ⟨u0, rfl, hf2⟩
    have hS2 := hS.gone hf2
    have hS3 := hS2.alloc #[.slice none 0 0, .slice none 0 0, .slice none 0 0, .slice none 0 0, .slice none 0 0, .slice none 0 0, .slice none 0 0, .slice none 0 0, .slice none 0 0, .slice none 0 0, .slice none 0 0] 28
    have hS4 := hS3.over 0 rfl u0.l rfl
    refine ⟨_, _, _, _, _, _, _, _, _, _, _, _, _, _, _, _, _, _, _, _, _, _, _, _, _, _, _, _, _, _, _, _, _, rfl, (hS3.blk 0 rfl).can (by simp), ?_⟩
    change St [] w (setCs (World.alloc w2 (.cells #[.slice none 0 0, .slice none 0 0, .slice none 0 0, .slice none 0 0, .slice none 0 0, .slice none 0 0, .slice none 0 0, .slice none 0 0, .slice none 0 0, .slice none 0 0, .slice none 0 0] 28)) w2.heap.size 0 [.slice u0.a.1 u0.a.2.1 u0.a.2.2, .slice u0.s.1 u0.s.2.1 u0.s.2.2, .slice u0.r.1 u0.r.2.1 u0.r.2.2, .slice u0.o.1 u0.o.2.1 u0.o.2.2, .slice u0.g.1 u0.g.2.1 u0.g.2.2, .slice u0.m.1 u0.m.2.1 u0.m.2.2, .slice u0.i.1 u0.i.2.1 u0.i.2.2, .slice u0.q.1 u0.q.2.1 u0.q.2.2, .slice u0.t.1 u0.t.2.1 u0.t.2.2, .slice u0.u.1 u0.u.2.1 u0.u.2.2, .slice u0.e.1 u0.e.2.1 u0.e.2.2]) _ at hS4
    generalize setCs (World.alloc w2 (.cells #[.slice none 0 0, .slice none 0 0, .slice none 0 0, .slice none 0 0, .slice none 0 0, .slice none 0 0, .slice none 0 0, .slice none 0 0, .slice none 0 0, .slice none 0 0, .slice none 0 0] 28)) w2.heap.size 0 [.slice u0.a.1 u0.a.2.1 u0.a.2.2, .slice u0.s.1 u0.s.2.1 u0.s.2.2, .slice u0.r.1 u0.r.2.1 u0.r.2.2, .slice u0.o.1 u0.o.2.1 u0.o.2.2, .slice u0.g.1 u0.g.2.1 u0.g.2.2, .slice u0.m.1 u0.m.2.1 u0.m.2.2, .slice u0.i.1 u0.i.2.1 u0.i.2.2, .slice u0.q.1 u0.q.2.1 u0.q.2.2, .slice u0.t.1 u0.t.2.1 u0.t.2.2, .slice u0.u.1 u0.u.2.1 u0.u.2.2, .slice u0.e.1 u0.e.2.1 u0.e.2.2] = w4 at *
    generalize w2.heap.size = b2 at *
    replace hS4 : St [] w w4 [Chunk.blk b2 u0.cells 28, kP u0 shutP, Chunk.blk b0 #[.slice none 0 0, .slice none 0 0, .slice none 0 0, .slice none 0 0, .slice none 0 0, .slice none 0 0, .slice none 0 0, .slice none 0 0, .slice none 0 0, .slice none 0 0, .slice none 0 0] 28] := hS4
    have hS5 := hS4.alloc #[.bool false, .string bA, .string bO, .slice none 0 0, .int .i8 0, .float .f64 0] 88
    generalize World.alloc w4 (.cells #[.bool false, .string bA, .string bO, .slice none 0 0, .int .i8 0, .float .f64 0] 88) = w5 at *
    generalize w4.heap.size = b4 at *
    obtain ⟨u, hu⟩ : ∃ u : PV, u = ⟨u0.a, u0.s, u0.r, u0.o, u0.g, u0.m, u0.i, u0.q, u0.t, (some ⟨b4, 0, none⟩, 1, 1), u0.e⟩ := ⟨_, rfl⟩
    have hS6 := hS5.set 1 rfl 9 [.slice (some ⟨b4, 0, none⟩) 1 1]
    have e : Vc.putA u0.cells 9 [.slice (some ⟨b4, 0, none⟩) 1 1] = u.cells := by rw [hu]; rfl
    rw [e] at hS6
    refine ⟨(hS5.blk 1 rfl).can (by simp), ?_⟩
    generalize setCs w5 b2 9 [.slice (some ⟨b4, 0, none⟩) 1 1] = w6 at *
    replace hS6 : St [] w w6 [Chunk.blk b4 #[.bool false, .string bA, .string bO, .slice none 0 0, .int .i8 0, .float .f64 0] 88, Chunk.blk b2 u.cells 28, kP u0 shutP, Chunk.blk b0 #[.slice none 0 0, .slice none 0 0, .slice none 0 0, .slice none 0 0, .slice none 0 0, .slice none 0 0, .slice none 0 0, .slice none 0 0, .slice none 0 0, .slice none 0 0, .slice none 0 0] 28] := hS6
    have hB := hS6.blk 1 rfl
    have hS7 := hS6.over 3 rfl u.l rfl
    refine ⟨_, _, _, hB.cell rfl, _, _, _, hB.cell rfl, _, _, _, hB.cell rfl, _, _, _, hB.cell rfl, _, _, _, hB.cell rfl, _, _, _, hB.cell rfl, _, _, _, hB.cell rfl, _, _, _, hB.cell rfl, _, _, _, hB.cell rfl, _, _, _, hB.cell rfl, _, _, _, hB.cell rfl, (hS6.blk 3 rfl).can (by simp), ?_⟩
    clear hB
    change St [] w (setCs w6 b0 0 [.slice u.a.1 u.a.2.1 u.a.2.2, .slice u.s.1 u.s.2.1 u.s.2.2, .slice u.r.1 u.r.2.1 u.r.2.2, .slice u.o.1 u.o.2.1 u.o.2.2, .slice u.g.1 u.g.2.1 u.g.2.2, .slice u.m.1 u.m.2.1 u.m.2.2, .slice u.i.1 u.i.2.1 u.i.2.2, .slice u.q.1 u.q.2.1 u.q.2.2, .slice u.t.1 u.t.2.1 u.t.2.2, .slice u.u.1 u.u.2.1 u.u.2.2, .slice u.e.1 u.e.2.1 u.e.2.2]) _ at hS7
    generalize setCs w6 b0 0 [.slice u.a.1 u.a.2.1 u.a.2.2, .slice u.s.1 u.s.2.1 u.s.2.2, .slice u.r.1 u.r.2.1 u.r.2.2, .slice u.o.1 u.o.2.1 u.o.2.2, .slice u.g.1 u.g.2.1 u.g.2.2, .slice u.m.1 u.m.2.1 u.m.2.2, .slice u.i.1 u.i.2.1 u.i.2.2, .slice u.q.1 u.q.2.1 u.q.2.2, .slice u.t.1 u.t.2.1 u.t.2.2, .slice u.u.1 u.u.2.1 u.u.2.2, .slice u.e.1 u.e.2.1 u.e.2.2] = w7 at *
    have hB := hS7.blk 3 rfl
    have hK := St.keepAll (hS7.sel [0, 2] (by decide) [Chunk.blk b4 #[.bool false, .string bA, .string bO, .slice none 0 0, .int .i8 0, .float .f64 0] 88, kP u0 shutP] rfl) (fun w => InP w u openP) (fun w h1 h2 => by
      obtain ⟨G1, g1⟩ := h1
      obtain ⟨G2, g2⟩ := h2 _ (List.mem_singleton.2 rfl)
      have q1 : Blk w b4 #[.bool false, .string bA, .string bO, .slice none 0 0, .int .i8 0, .float .f64 0] 88 := g1.2
      have q2 : InP w u0 shutP := Chunk.keep_says g2
      rw [hu]
      exact ⟨q2.a, q2.s, q2.r, q2.o, q2.g, q2.m, q2.i, q2.q, q2.t, rdl_one (e := ruleT) (ruleV ruleO nilS) _ q1 (rd_rule.2 ⟨nilS, rfl, RdL.nil _ _, rfl⟩), q2.e⟩)
    exact ⟨_, _, _, hB.cell rfl, _, _, _, hB.cell rfl, _, _, _, hB.cell rfl, _, _, _, hB.cell rfl, _, _, _, hB.cell rfl, _, _, _, hB.cell rfl, _, _, _, hB.cell rfl, _, _, _, hB.cell rfl, _, _, _, hB.cell rfl, _, _, _, hB.cell rfl, _, _, _, hB.cell rfl, u, rfl, hK⟩
  · rintro e w' ⟨v, rfl, u, rfl, h⟩; exact ⟨u, rfl, h⟩
theorem entryR {w : World} : Calls Try.prog 23 #[] w fun e w' => e = .returned (Tri bA bO bX) ∧ Fr [] w w' := by
  refine Calls.mono (f23.calls (R := fun e w' => e = Tri bA bO bX ∧ Fr [] w w') ?_) ?_
  · dsimp only [f23.VC]
    have hS := (St.start w).alloc #[.string ⟨#[]⟩, .string ⟨#[]⟩, .string ⟨#[]⟩] 37
    have hS2 := hS.over 0 rfl [.string bA, .string bO, .string bX] rfl
    have hB := hS2.blk 0 rfl
    exact ⟨(hS.blk 0 rfl).can (by simp), _, hB.cell rfl, _, hB.cell rfl, _, hB.cell rfl, rfl, hS2.frame⟩
  · rintro e w' ⟨v, rfl, rfl, h⟩; exact ⟨rfl, h⟩
theorem twinI {w : World} {x : Sl} {l : List Int} (hx : RdL (.int .i64) w x l) (hn : l.length ≤ 30000000) : Calls Try.prog 15 #[x.v] w fun e w' => ∃ z : Sl, e = .returned z.v ∧ St [] w w' [Chunk.ls encI 3 z.v l] := by
  refine Calls.mono (f15.calls (R := fun e w' => ∃ z : Sl, e = z.v ∧ St [] w w' [Chunk.ls encI 3 z.v l]) ?_) ?_
  · dsimp only [f15.VC]
    have hl : x.2.1 = l.length := hx.1
    obtain ⟨ti, i1, i2, i3, i4⟩ := info3'
    refine ⟨fun A n c i w' r => ∃ k : Nat, i = (k : Int) ∧ k + r = x.2.1 ∧ St [] w w' [Chunk.ls encI 3 (.slice A n c) (l.take k)], ⟨x.2.1, 0, rfl, by omega, (St.start w).nil 3 1⟩, ?_⟩
    rintro d A n c i w1 r ⟨k, rfl, hk, hS⟩
    refine sel_of (fun hd => ?_) (fun hd => ?_)
    · have hi : k < x.2.1 := by have := of_decide_eq_true hd; omega
      obtain ⟨b, o, hA, hc⟩ := RdL.int (hx.fr hS.frame) (by omega)
      obtain ⟨g, cap, w3, hrun, hS3⟩ := St.app (ty := 31) (enc := encI) (fun _ => rfl) under31 i1 i2 i3 rfl (by rw [i4]; decide) hS 0 rfl (l.getD k 0) (by simp; omega)
      rw [inc k x.2.1 (by omega) (by omega)]
      refine ⟨by omega, by omega, needPtr_of hA ⟨_, hc k hi, _, _, _, w3, hrun, rfl, r - 1, by omega, k + 1, rfl, by omega, ?_⟩⟩
      rw [take_snoc (by omega)]
      exact hS3
    · have hi : k = x.2.1 := by have := of_decide_eq_false hd; omega
      rw [List.take_of_length_le (by omega)] at hS
      exact ⟨(A, n, c), rfl, hS⟩
  · rintro e w' ⟨v, rfl, z, rfl, h⟩; exact ⟨z, rfl, h⟩
theorem ints_read {w : World} {F : List Nat} {z : Sl} {l : List Int} (h : (Chunk.ls encI 3 z.v l).holds w F) (hf : ∀ x ∈ l, (Lit.int .i64 x).wf = true) : RdL (.int .i64) w z l :=
  sl_reads (e := .int .i64) 3 h (by simp) (fun q hq => by rw [map_getD _ _ _ 0 hq]; exact ⟨rfl, hf _ ((mem_getD 0 _ _).2 ⟨q, hq, rfl⟩)⟩)
end JG
end Go.Proofs.Ytddbebhklmaeoaa
