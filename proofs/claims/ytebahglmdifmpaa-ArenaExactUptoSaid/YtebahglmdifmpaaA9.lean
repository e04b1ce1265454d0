/- ArenaExact: the trace asked for; an arena with its memory, and the document's: a call on both. -/
import Derived.Test.YtebahglmdifmpaaA8
import Derived.Test.YtebahglmdifmpaaL9
import Derived.Test.YtebahglmdifmpaaV13
set_option linter.unusedVariables false
set_option linter.unusedSimpArgs false
set_option maxRecDepth 10000
namespace Go.Proofs.Ytebahglmdifmpaa
open Go Go.Proofs.Ytebahglmdifmpaa.Vc
namespace PR
open PA RA
/-- Two lists of numbers, alike. -/
theorem sameI {w : World} {A A' : Option Addr} {n c n' c' : Nat} {l : List Int} (h : RdI w A n l) (h' : RdI w A' n' l) (hl : l.length ≤ 4000) : Calls Try.prog 58 #[.slice A n c, .slice A' n' c'] w fun e w' => e = .returned (.bool true) ∧ Fr [] w w' := by
  refine Calls.mono (f58.calls (R := fun v w' => v = .bool true ∧ Fr [] w w') ?_) ?_
  · dsimp only [f58.VC]
    have hn := h.1
    have hn' := h'.1
    refine sel_false (by simp; omega) ⟨fun x w1 r => ∃ i : Nat, x = (i : Int) ∧ i + r = n ∧ Fr [] w w1, ⟨n, 0, rfl, by omega, Fr.refl [] _⟩, ?_⟩
    rintro d x w1 r ⟨i, rfl, hr, hf⟩
    refine sel_of (fun hd => ?_) (fun hd => ⟨rfl, hf⟩)
    have hi : i < n := by simpa using hd
    obtain ⟨b, o, rfl, hc⟩ := h.2 (by omega)
    obtain ⟨b', o', rfl, hc'⟩ := h'.2 (by omega)
    have hi1 : IntKind.i64.wrap ((i : Int) + 1) = ((i + 1 : Nat) : Int) := by rw [i64_id (by omega) (by omega)]; omega
    have e0 : (i : Int).toNat = i := Int.toNat_natCast i
    rw [hi1]
    exact ⟨by omega, by omega, needPtr_of rfl ⟨by omega, by omega, needPtr_of rfl ⟨_, by rw [e0]; exact hf.cell (hc i hi), _, by rw [e0]; exact hf.cell (hc' i (by omega)), sel_false (by simp) ⟨rfl, r - 1, by omega, i + 1, rfl, by omega, hf.drew⟩⟩⟩⟩
  · rintro e w' ⟨v, rfl, rfl, h⟩; exact ⟨rfl, h⟩
section
variable {S : List Nat} {w0 w : World} {K : List Chunk} {a mb gb : Nat} {bad st : Int} {ws : List Int} {L : List B} {k : Nat}
theorem traceS {A : Option Addr} {n c : Nat} {l : List Acc} (h : St S w0 w K) (i t : Nat) (hi : K[i]? = some (arC a mb gb (.slice A n c) bad st ws L k)) (ht : K[t]? = some (trC (.slice A n c) l)) (hl : l.length ≤ 4000000) (hA : A = none ∨ l ≠ []) :
    Calls Try.prog 59 #[.pointer (some ⟨mb, 0, none⟩)] w fun e w' => ∃ A' c', e = .returned (.slice A' l.length c') ∧ Fr [] w w' := by
  refine Calls.mono (f59.calls (R := fun y w' => ∃ A' c', y = .slice A' l.length c' ∧ Fr [] w w') ?_) ?_
  · dsimp only [f59.VC]
    refine ⟨_, _, _, (memT h i hi).1, ?_⟩
    obtain ⟨F, hF, _⟩ := h.at t ht
    refine Calls.mono (f84.calls (R := fun y w' => ∃ A' c', y = .slice A' l.length c' ∧ Fr [] w w') ?_) ?_
    · dsimp only [f84.VC]
      have hn := h.slLen t ht
      rw [List.length_map] at hn
      refine sel_of (fun hd => ?_) (fun hd => ?_)
      · have hA0 : A = none := by cases A with | none => rfl | some _ => cases hd
        subst hA0
        rcases hF with ⟨h1, h2, _⟩ | ⟨g, cap, h1, _⟩
        · have : l = [] := by simpa using h2
          subst this
          exact ⟨none, 0, rfl, Fr.refl _ _⟩
        · cases h1
      · have hl0 : l ≠ [] := by
          rcases hA with rfl | h
          · cases hd
          · exact h
        rcases hF with ⟨h1, h2, _⟩ | ⟨g, cap, h1, _, hR⟩
        · exact absurd (by simpa using h2) hl0
        · rw [List.length_map] at h1
          injection h1 with e1 e2 e3
          subst e1
          have hR2 := hR.fr ((Fr.refl [] w).alloc (cs := #[]) (T := 158)) (by simp)
          obtain ⟨bi, b1, b2, b3, b4⟩ := info158
          have hO := hR2.toOwn (by decide)
          have holds := hO.cells (g := g) rfl
          have hrow : Row (World.alloc w (.cells #[] 158)) 158 5 w.heap.size 0 [] := Row.ofOwn (n := 0) (by decide) ⟨rfl, .inr ⟨w.heap.size, 0, #[], rfl, Nat.zero_le _, Blk.new, Nat.le_refl _, by simp [maxLen], by simp, by simp⟩⟩ (by simp) |>.1
          obtain ⟨g', cap', w', hrun, _, hF⟩ := append_rowsC (P := Try.prog) (w := World.alloc w (.cells #[] 158)) (t := 112) (ty := 112) (e := 158) (i := bi) (s := 5) (rs := []) (v := .slice (some ⟨w.heap.size, 0, none⟩) 0 0) (news := l.map encA) (b := g) (c := c)
            under112 b1 b2 b3 rfl (by decide) (.inr ⟨_, 0, rfl, hrow⟩) holds (by intro x hx; obtain ⟨y, _, rfl⟩ := List.mem_map.1 hx; rfl) (by
              intro u hu
              obtain ⟨x, hx, hux⟩ := List.mem_flatten.1 hu
              obtain ⟨y, _, rfl⟩ := List.mem_map.1 hx
              simp [encA] at hux; rcases hux with rfl | rfl | rfl | rfl | rfl <;> rfl) (by simp) (by simpa using List.length_pos_iff.2 hl0) (by rw [b4]; simp; omega) (by simp [maxLen]; omega)
          simp only [List.length_map, List.length_nil, Nat.zero_add] at hrun
          rw [hn]
          refine ⟨_, _, _, _, hrun, _, _, rfl, ?_⟩
          have hal : Fr [] w (World.alloc w (.cells #[] 158)) := (Fr.refl [] w).alloc
          rcases hF with ⟨q1, q2⟩ | ⟨q1, q2⟩
          · injection q1 with q1 _ _
            injection q1 with q1
            injection q1 with q1
            subst q1
            exact hal.trans' q2 (fun x hx hlt => by simp at hx; omega)
          · exact hal.trans q2
    · rintro e w' ⟨y, rfl, A', c', rfl, h9⟩
      exact ⟨_, _, _, rfl, A', c', rfl, h9⟩
  · rintro e w' ⟨y, rfl, A', c', rfl, h9⟩
    exact ⟨A', c', rfl, h9⟩
theorem badS {tr : Value} (h : St S w0 w K) (i : Nat) (hi : K[i]? = some (arC a mb gb tr bad st ws L k)) :
    Calls Try.prog 60 #[.pointer (some ⟨mb, 0, none⟩)] w fun e w' => e = .returned (.int .i64 bad) ∧ Fr [] w w' := by
  refine Calls.mono (f60.calls (R := fun y w' => y = .int .i64 bad ∧ Fr [] w w') ⟨_, (memT h i hi).2, rfl, Fr.refl _ _⟩) ?_
  rintro e w' ⟨y, rfl, rfl, h9⟩
  exact ⟨rfl, h9⟩
end
structure PV where
  a : Nat
  mb : Nat
  gb : Nat
  r : Nat
  A : Option Addr
  n : Nat
  c : Nat
  st : Nat
  ws : List Int
  L : List B
  l : List Acc
  k : Nat
structure PV.Ok (x : PV) (m : Nat) : Prop where
  pos : x.st < x.ws.length
  len : x.ws.length ≤ 200
  k : x.k ≤ m
  l : x.l.length ≤ m
  nil : x.A = none ∨ x.l ≠ []
abbrev qC (q : Nat) (x : PV) : Chunk := Chunk.blk q #[.pointer (some ⟨x.mb, 0, none⟩), .pointer (some ⟨x.a, 0, none⟩), .pointer (some ⟨x.r, 0, none⟩), .int .i64 (x.l.length : Int)] 107
abbrev aX (x : PV) : Chunk := arC x.a x.mb x.gb (.slice x.A x.n x.c) 0 (x.st : Int) x.ws x.L x.k
abbrev tX (x : PV) : Chunk := trC (.slice x.A x.n x.c) x.l
abbrev rX (x : PV) : Chunk := refC x.r x.st x.ws x.L x.k
def pairC (q m : Nat) : Chunk := Chunk.ex fun x : PV => Chunk.fact (x.Ok m) (Chunk.star (qC q x) (Chunk.star (aX x) (Chunk.star (tX x) (rX x))))
theorem openP {S : List Nat} {w0 w : World} {K : List Chunk} {q m : Nat} (h : St S w0 w (pairC q m :: K)) : ∃ x : PV, x.Ok m ∧ St S w0 w (qC q x :: aX x :: tX x :: rX x :: K) := by
  obtain ⟨x, h1⟩ := h.unex 0 rfl
  obtain ⟨k1, h2⟩ := h1.unfact 0 rfl
  have h3 := St.split h2
  have h4 := St.split (h3.perm (List.Perm.swap _ _ _))
  have h5 := St.split (h4.perm (List.Perm.swap _ _ _))
  refine ⟨x, k1, h5.perm ?_⟩
  exact (List.perm_append_comm (l₁ := [tX x, rX x, aX x]) (l₂ := [qC q x])).append_right K |>.trans (by
    refine List.Perm.cons _ ?_
    exact (List.perm_append_comm (l₁ := [tX x, rX x]) (l₂ := [aX x])).append_right K)
theorem closeP {S : List Nat} {w0 w : World} {K : List Chunk} {q m : Nat} (x : PV) (k1 : x.Ok m) (h : St S w0 w (qC q x :: aX x :: tX x :: rX x :: K)) : St S w0 w (pairC q m :: K) := by
  have h1 := h.perm (show (qC q x :: aX x :: tX x :: rX x :: K).Perm (tX x :: rX x :: aX x :: qC q x :: K) from
    ((List.perm_append_comm (l₁ := [qC q x]) (l₂ := [aX x, tX x, rX x])).append_right K).trans ((List.perm_append_comm (l₁ := [aX x]) (l₂ := [tX x, rX x])).append_right (qC q x :: K)))
  have h2 := St.join h1
  have h3 := St.join (h2.perm (List.Perm.swap _ _ _))
  have h4 := St.join (h3.perm (List.Perm.swap _ _ _))
  exact h4.as 0 rfl (pairC q m) (fun F hF => ⟨x, k1, hF⟩)
theorem one_ {F : List Nat} {w : World} {q m : Nat} (hP : St F w w [pairC q m]) (hm : m ≤ 4000000) (o0 o1 o2 o3 : Int) (ho : o2 ≤ 9223372036854775807) :
    Calls Try.prog 57 #[.pointer (some ⟨q, 0, none⟩), .agg #[.int .i64 o0, .int .i64 o1, .int .i64 o2, .int .i64 o3]] w fun e w' => e = .returned (.bool true) ∧ St F w w' [pairC q (m + 1)] := by
  refine Calls.mono (f57.calls (R := fun v w' => v = .bool true ∧ St F w w' [pairC q (m + 1)]) ?_) ?_
  · dsimp only [f57.VC]
    obtain ⟨x, hx, hS0⟩ := openP hP
    have hpos := hx.pos
    have hlen := hx.len
    have hk := hx.k
    have hl := hx.l
    have hS := hS0.alloc #[.int .i64 o0, .int .i64 o1, .int .i64 o2, .int .i64 o3] 90
    generalize World.alloc w (.cells #[.int .i64 o0, .int .i64 o1, .int .i64 o2, .int .i64 o3] 90) = w1 at *
    generalize w.heap.size = b at *
    have cl : ∀ (y : PV), y.Ok (m + 1) → ∀ w', St F w w' [Chunk.blk b #[.int .i64 o0, .int .i64 o1, .int .i64 o2, .int .i64 o3] 90, qC q y, aX y, tX y, rX y] → St F w w' [pairC q (m + 1)] :=
      fun y hy w' h => closeP y hy h.tail
    have same : ∀ w', St F w w' [Chunk.blk b #[.int .i64 o0, .int .i64 o1, .int .i64 o2, .int .i64 o3] 90, qC q x, aX x, tX x, rX x] → St F w w' [pairC q (m + 1)] :=
      fun w' h => cl x ⟨hpos, hlen, by omega, by omega, hx.nil⟩ w' h
    have gv : ∀ w', St F w w' [Chunk.blk b #[.int .i64 o0, .int .i64 o1, .int .i64 o2, .int .i64 o3] 90, qC q x, aX x, tX x, rX x] → ∀ z : Int, Calls Try.prog 41 #[.pointer (some ⟨x.a, 0, none⟩), .int .i64 z] w' fun e w2 => e = .returned (.int .i64 (resG z x.L)) ∧
        St F w w2 [Chunk.blk b #[.int .i64 o0, .int .i64 o1, .int .i64 o2, .int .i64 o3] 90, qC q x, arC x.a x.mb x.gb (.slice x.A x.n x.c) 0 (x.st : Int) (wordsG z x.L x.ws) (nextG z x.L) (x.k + 1), tX x, rX x] :=
      fun w' h z => giveS h 2 rfl (by omega) (by omega) (by omega) z
    have gr : ∀ (z : Int) w', St F w w' [Chunk.blk b #[.int .i64 o0, .int .i64 o1, .int .i64 o2, .int .i64 o3] 90, qC q x, arC x.a x.mb x.gb (.slice x.A x.n x.c) 0 (x.st : Int) (wordsG z x.L x.ws) (nextG z x.L) (x.k + 1), tX x, rX x] →
        Calls Try.prog 42 #[.pointer (some ⟨x.r, 0, none⟩), .int .i64 z] w' fun e w2 => ∃ v : Int, e = .returned (.int .i64 v) ∧ (.bool (resG z x.L == v) : Value) = .bool true ∧ St F w w2 [pairC q (m + 1)] := by
      intro z w' h
      refine (rGive h 4 rfl (by omega) z).mono ?_
      rintro _ w2 ⟨rfl, h2⟩
      refine ⟨_, rfl, by simp, ?_⟩
      have h3 : St F w w2 [Chunk.blk b #[.int .i64 o0, .int .i64 o1, .int .i64 o2, .int .i64 o3] 90, qC q x, arC x.a x.mb x.gb (.slice x.A x.n x.c) 0 (x.st : Int) (wordsG z x.L x.ws) (nextG z x.L) (x.k + 1), tX x, refC x.r x.st (wordsG z x.L x.ws) (nextG z x.L) x.k] := h2
      obtain ⟨y1, y2, y3, y4, h4⟩ := openR (h3.sel [4, 0, 1, 2, 3] (by decide) [refC x.r x.st (wordsG z x.L x.ws) (nextG z x.L) x.k, Chunk.blk b #[.int .i64 o0, .int .i64 o1, .int .i64 o2, .int .i64 o3] 90, qC q x, arC x.a x.mb x.gb (.slice x.A x.n x.c) 0 (x.st : Int) (wordsG z x.L x.ws) (nextG z x.L) (x.k + 1), tX x] rfl)
      have h5 := (closeR (k := x.k + 1) y1 y2 y3 (by omega) h4).sel [1, 2, 3, 4, 0] (by decide) [Chunk.blk b #[.int .i64 o0, .int .i64 o1, .int .i64 o2, .int .i64 o3] 90, qC q x, arC x.a x.mb x.gb (.slice x.A x.n x.c) 0 (x.st : Int) (wordsG z x.L x.ws) (nextG z x.L) (x.k + 1), tX x, refC x.r x.st (wordsG z x.L x.ws) (nextG z x.L) (x.k + 1)] rfl
      exact cl { x with ws := wordsG z x.L x.ws, L := nextG z x.L, k := x.k + 1 } ⟨by show x.st < _; rw [wordsG_len]; exact hpos, by show _ ≤ 200; rw [wordsG_len]; exact hlen, by show x.k + 1 ≤ m + 1; omega, by show x.l.length ≤ m + 1; omega, hx.nil⟩ _ h5
    refine ⟨_, (hS.blk 0 rfl).cell rfl, sel_of (fun h1 => ?_) (fun _ => sel_of (fun h2 => ?_) (fun _ => sel_of (fun h3 => ?_) (fun _ => sel_of (fun h4 => ?_) (fun _ => sel_of (fun h5 => ?_) (fun _ => sel_of (fun h6 => ?_) (fun _ => ⟨rfl, same _ hS⟩))))))⟩
    · refine ⟨_, (hS.blk 1 rfl).cell rfl, _, (hS.blk 0 rfl).cell rfl, ?_⟩
      refine Calls.mono (takeS hS.drew 2 rfl (by omega) (by omega) (by omega) o2 ho) ?_
      rintro _ w2 ⟨rfl, hS2⟩
      refine ⟨_, _, rfl, _, (hS2.blk 1 rfl).cell rfl, _, (hS2.blk 0 rfl).cell rfl, ?_⟩
      refine Calls.mono (rTake hS2.drew 4 rfl (by omega) (by omega) o2) ?_
      rintro _ w3 ⟨rfl, hS3⟩
      refine ⟨_, _, rfl, sel_true (by simp) ⟨by simp, ?_⟩⟩
      exact cl { x with ws := wordsT o2 x.L x.ws, L := nextT o2 x.L, k := x.k + 1 } ⟨by show x.st < _; rw [wordsT_len]; exact hpos, by show _ ≤ 200; rw [wordsT_len]; exact hlen, by show x.k + 1 ≤ m + 1; omega, by show x.l.length ≤ m + 1; omega, hx.nil⟩ _ hS3
    · refine ⟨_, (hS.blk 1 rfl).cell rfl, _, (hS.blk 0 rfl).cell rfl, ?_, ⟨_, (hS.blk 1 rfl).cell rfl, ?_, ⟨_, (hS.blk 0 rfl).cell rfl, ?_⟩, trivial⟩, ⟨_, (hS.blk 0 rfl).cell rfl, ?_, ⟨_, (hS.blk 1 rfl).cell rfl, ?_⟩, trivial⟩, trivial⟩
      all_goals
        refine Calls.mono (gv _ hS.drew o2) ?_
        rintro _ w2 ⟨rfl, hS2⟩
        refine ⟨_, rfl, ?_⟩
        repeat' (first | refine Calls.mono (gr o2 _ hS2) ?_ | refine ⟨_, (hS2.blk 1 rfl).cell rfl, ?_⟩ | refine ⟨_, (hS2.blk 0 rfl).cell rfl, ?_⟩ | fail)
        rintro _ w3 ⟨v, rfl, hv, h9⟩
        exact ⟨_, rfl, hv, h9⟩
    · refine ⟨_, (hS.blk 1 rfl).cell rfl, _, (hS.blk 0 rfl).cell rfl, ?_⟩
      refine Calls.mono (rBack hS.drew 4 rfl (by omega) o2) ?_
      rintro _ w2 ⟨z, rfl, hS2⟩
      refine ⟨_, rfl, _, (hS2.blk 1 rfl).cell rfl, ?_, ⟨_, (hS2.blk 1 rfl).cell rfl, ?_⟩, trivial⟩
      all_goals
        refine Calls.mono (gv _ hS2.drew z) ?_
        rintro _ w3 ⟨rfl, hS3⟩
        refine ⟨_, rfl, ?_⟩
        repeat' (first | refine Calls.mono (gr z _ hS3) ?_ | refine ⟨_, (hS3.blk 1 rfl).cell rfl, ?_⟩ | fail)
        rintro _ w4 ⟨v, rfl, hv, h9⟩
        exact ⟨_, rfl, hv, h9⟩
    · refine ⟨_, (hS.blk 1 rfl).cell rfl, ?_, ⟨_, (hS.blk 1 rfl).cell rfl, ?_⟩, trivial⟩
      all_goals
        refine Calls.mono (liveS hS.drew 2 rfl) ?_
        rintro _ w2 ⟨rfl, hS2⟩
        refine ⟨_, rfl, ?_⟩
        repeat' (first | refine Calls.mono (rLive hS2 4 rfl (by omega)) ?_ | refine ⟨_, (hS2.blk 1 rfl).cell rfl, ?_⟩ | fail)
        rintro _ w3 ⟨rfl, hS3⟩
        exact ⟨_, rfl, by simp, same _ hS3⟩
    · have hLl : x.L.length ≤ 4000 := by
        have := (okS hS 2 rfl).1.len
        omega
      have fin5 : ∀ w', St F w w' [slC (.slice none 0 0) [], Chunk.blk b #[.int .i64 o0, .int .i64 o1, .int .i64 o2, .int .i64 o3] 90, qC q x, aX x, tX x, rX x] → True := fun _ _ => trivial
      refine ⟨_, (hS.blk 1 rfl).cell rfl, ?_, ⟨_, (hS.blk 1 rfl).cell rfl, ?_⟩, trivial⟩
      all_goals
        refine Calls.mono (blocksS hS.drew 2 rfl (by omega) (by omega) (by omega) (by omega)) ?_
        rintro _ w2 ⟨A1, n1, c1, rfl, hS2⟩
        have hS2 : St F w w2 [slC (.slice A1 n1 c1) x.L, Chunk.blk b #[.int .i64 o0, .int .i64 o1, .int .i64 o2, .int .i64 o3] 90, qC q x, arC x.a x.mb x.gb (.slice x.A x.n x.c) 0 (x.st : Int) x.ws x.L (x.k + 1), tX x, rX x] := hS2
        refine ⟨_, _, _, rfl, ?_⟩
        repeat' (first | refine Calls.mono (rBlocksS hS2 5 rfl (by omega)) ?_ | refine ⟨_, (hS2.blk 2 rfl).cell rfl, ?_⟩ | fail)
        rintro _ w3 ⟨A2, n2, c2, rfl, hS3⟩
        refine ⟨_, _, _, rfl, ?_⟩
        refine Calls.mono (hS3.step0 (sameC (rdB hS3 1 rfl) (rdB hS3 0 rfl) hLl)) ?_
        rintro _ w4 ⟨rfl, hS4⟩
        refine ⟨_, rfl, rfl, ?_⟩
        obtain ⟨y1, y2, y3, y4, h4⟩ := openR (hS4.sel [6, 2, 3, 4, 5] (by decide) [rX x, Chunk.blk b #[.int .i64 o0, .int .i64 o1, .int .i64 o2, .int .i64 o3] 90, qC q x, arC x.a x.mb x.gb (.slice x.A x.n x.c) 0 (x.st : Int) x.ws x.L (x.k + 1), tX x] rfl)
        have h5 := (closeR (k := x.k + 1) y1 y2 y3 (by omega) h4).sel [1, 2, 3, 4, 0] (by decide) [Chunk.blk b #[.int .i64 o0, .int .i64 o1, .int .i64 o2, .int .i64 o3] 90, qC q x, arC x.a x.mb x.gb (.slice x.A x.n x.c) 0 (x.st : Int) x.ws x.L (x.k + 1), tX x, refC x.r x.st x.ws x.L (x.k + 1)] rfl
        exact cl { x with k := x.k + 1 } ⟨hpos, hlen, by show x.k + 1 ≤ m + 1; omega, by show x.l.length ≤ m + 1; omega, hx.nil⟩ _ h5
    · obtain ⟨y, y1, y2, y3, hR⟩ := openR (hS.sel [4, 0, 1, 2, 3] (by decide) [rX x, Chunk.blk b #[.int .i64 o0, .int .i64 o1, .int .i64 o2, .int .i64 o3] 90, qC q x, aX x, tX x] rfl)
      have back : ∀ w', St F w w' [rB x.r x.st y, intsC (.slice y.A1 y.n1 y.c1) x.ws, intsC (.slice y.A2 y.n2 y.c2) y.of, Chunk.blk b #[.int .i64 o0, .int .i64 o1, .int .i64 o2, .int .i64 o3] 90, qC q x, aX x, tX x] → St F w w' [pairC q (m + 1)] :=
        fun w' h => same _ ((closeR (k := x.k) (L := x.L) y y1 y2 y3 h).sel [1, 2, 3, 4, 0] (by decide) [Chunk.blk b #[.int .i64 o0, .int .i64 o1, .int .i64 o2, .int .i64 o3] 90, qC q x, aX x, tX x, rX x] rfl)
      have hn := (rdI hR 1 rfl).1
      refine ⟨_, (hR.blk 3 rfl).cell rfl, _, (hR.blk 4 rfl).cell rfl, needPtr_of rfl ⟨_, _, _, (hR.blk 0 rfl).cell rfl, ?_⟩⟩
      refine Calls.mono (hR.drew.step0 (LW.at_ _ o2 (n := y.n1) (by omega) (by omega))) ?_
      rintro _ w2 ⟨rfl, hR2⟩
      have har := LW.atI_range o2 (n := y.n1) (by omega)
      obtain ⟨j, hj⟩ : ∃ j : Nat, LW.atI o2 y.n1 = (j : Int) := ⟨(LW.atI o2 y.n1).toNat, by omega⟩
      rw [hj] at har ⊢
      have hjl : j < x.ws.length := by omega
      refine ⟨_, rfl, _, (hR2.blk 3 rfl).cell rfl, sel_of (fun _ => ?_) (fun _ => ⟨rfl, back _ hR2⟩)⟩
      obtain ⟨b1, o1', hA1, hc1⟩ := (rdI hR2 1 rfl).2 (by omega)
      refine ⟨_, (hR2.blk 4 rfl).cell rfl, needPtr_of rfl ⟨_, _, _, (hR2.blk 0 rfl).cell rfl, har.1, har.2, needPtr_of hA1 ⟨_, by rw [Int.toNat_natCast]; exact hc1 j (by omega), sel_of (fun hp => ?_) (fun _ => ⟨rfl, back _ hR2⟩)⟩⟩⟩
      have hp : x.ws.getD j 0 ≠ POISON := bne_iff_ne.1 hp
      refine ⟨_, (hR2.blk 4 rfl).cell rfl, _, (hR2.blk 3 rfl).cell rfl, ?_⟩
      refine Calls.mono (storeS hR2.drew 5 6 (by decide) rfl rfl (by omega) (by omega) hjl hp o3) ?_
      rintro _ w3 ⟨rfl, A', n', c', acc, hR3⟩
      have hR3 : St F w w3 [rB x.r x.st y, intsC (.slice y.A1 y.n1 y.c1) x.ws, intsC (.slice y.A2 y.n2 y.c2) y.of, Chunk.blk b #[.int .i64 o0, .int .i64 o1, .int .i64 o2, .int .i64 o3] 90, qC q x, arC x.a x.mb x.gb (.slice A' n' c') 0 (x.st : Int) (x.ws.set j o3) x.L x.k, trC (.slice A' n' c') (x.l ++ [acc])] := hR3
      obtain ⟨g, hg, hs⟩ := intSet hR3 1 rfl hjl
      obtain ⟨g', hg', hs'⟩ := intSet hR3.drew 1 rfl hjl
      rw [hg] at hg'
      injection hg' with hg'
      injection hg' with hg'
      subst hg'
      have hR4 := (hs' o3).2
      refine ⟨_, rfl, _, (hR3.blk 4 rfl).cell rfl, needPtr_of rfl ⟨_, _, _, (hR3.blk 0 rfl).cell rfl, _, (hR3.blk 3 rfl).cell rfl, har.1, har.2, needPtr_of hg ⟨(hs 0).1, ?_⟩⟩⟩
      generalize setCs w3.drew g (0 + (j : Int).toNat * 1) [.int .i64 o3] = w4 at *
      have hR4 : St F w w4 [rB x.r x.st y, intsC (.slice y.A1 y.n1 y.c1) (x.ws.set j o3), intsC (.slice y.A2 y.n2 y.c2) y.of, Chunk.blk b #[.int .i64 o0, .int .i64 o1, .int .i64 o2, .int .i64 o3] 90, qC q x, arC x.a x.mb x.gb (.slice A' n' c') 0 (x.st : Int) (x.ws.set j o3) x.L x.k, trC (.slice A' n' c') (x.l ++ [acc])] := hR4
      have e : IntKind.i64.wrap ((x.l.length : Int) + 1) = (((x.l ++ [acc]).length : Nat) : Int) := by rw [i64_id (by omega) (by omega)]; simp
      refine ⟨_, (hR4.blk 4 rfl).cell rfl, (hR4.blk 4 rfl).can (by simp), rfl, ?_⟩
      rw [e]
      have hR5 := hR4.set 4 rfl 3 [.int .i64 (((x.l ++ [acc]).length : Nat) : Int)]
      have hR6 := (closeR (k := x.k) (ws := x.ws.set j o3) (L := x.L) y (by rw [List.length_set]; exact y1) y2 y3 hR5).sel [1, 2, 3, 4, 0] (by decide) [Chunk.blk b #[.int .i64 o0, .int .i64 o1, .int .i64 o2, .int .i64 o3] 90, qC q { x with A := A', n := n', c := c', ws := x.ws.set j o3, l := x.l ++ [acc] }, aX { x with A := A', n := n', c := c', ws := x.ws.set j o3, l := x.l ++ [acc] }, tX { x with A := A', n := n', c := c', ws := x.ws.set j o3, l := x.l ++ [acc] }, rX { x with A := A', n := n', c := c', ws := x.ws.set j o3, l := x.l ++ [acc] }] rfl
      exact cl { x with A := A', n := n', c := c', ws := x.ws.set j o3, l := x.l ++ [acc] } ⟨by show x.st < _; rw [List.length_set]; exact hpos, by show _ ≤ 200; rw [List.length_set]; exact hlen, by show x.k ≤ m + 1; omega, by show (x.l ++ [acc]).length ≤ m + 1; simp; omega, .inr (by simp)⟩ _ hR6
  · rintro e w' ⟨v, rfl, rfl, h⟩; exact ⟨rfl, h⟩
end PR
end Go.Proofs.Ytebahglmdifmpaa
