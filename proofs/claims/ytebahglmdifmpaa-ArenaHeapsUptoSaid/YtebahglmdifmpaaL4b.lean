/- ArenaHeaps: the walk. -/
import Derived.Test.YtebahglmdifmpaaL4
import Derived.Test.YtebahglmdifmpaaT1
set_option linter.unusedVariables false
set_option linter.unusedSimpArgs false
set_option maxRecDepth 10000
namespace Go.Proofs.Ytebahglmdifmpaa
open Go Go.Proofs.Ytebahglmdifmpaa.Vc
namespace LH
theorem info51 : ∃ i, Try.prog.info? 51 = some i ∧ i.zero = some (.pointer none) ∧ i.size = 1 ∧ i.bytes = 8 := ⟨Try.prog.types[51]!, by kernel_rfl, by kernel_rfl, by kernel_rfl, by kernel_rfl⟩
theorem under50 : Try.prog.underlying 50 = some (.slice 51) := by kernel_rfl
abbrev numE (m x : Nat) : Chunk := Chunk.ex fun n => numC x m n
abbrev ptrsC (v : Value) (xs : List Nat) : Chunk := Chunk.sl 51 1 v (xs.map fun x => [Value.pointer (some ⟨x, 0, none⟩)])
abbrev allC (v : Value) (xs : List Nat) (m : Nat) : List Chunk := ptrsC v xs :: xs.map (numE m)
abbrev hopTy : Ty := .pair (.int .i64) (.pair (.int .i64) (.pair (.int .i64) .unit))
def J1 (w : World) (l : List Int) (A : Option Addr) (n cp : Nat) (x : Int) (w' : World) (r : Nat) : Prop :=
  ∃ (k : Nat) (xs : List Nat), x = (k : Int) ∧ k + r = l.length ∧ xs.length = k ∧ St [] w w' (allC (.slice A n cp) xs 0)
def J2 (w : World) (hs : List (Den hopTy)) (A : Option Addr) (n cp : Nat) (xs : List Nat) (b : Bool) (x : Int) (w' : World) (r : Nat) : Prop :=
  b = true ∧ ∃ (k : Nat), x = (k : Int) ∧ k + r = hs.length ∧ St [] w w' (allC (.slice A n cp) xs k)
def J3 (w : World) (A : Option Addr) (n cp : Nat) (xs : List Nat) (m : Nat) (b : Bool) (x : Int) (w' : World) (r : Nat) : Prop :=
  b = true ∧ ∃ (k : Nat), x = (k : Int) ∧ k + r = xs.length ∧ St [] w w' (allC (.slice A n cp) xs m)
def J4 (w : World) (A : Option Addr) (n cp : Nat) (xs : List Nat) (m j x : Nat) (b : Bool) (w' : World) (r : Nat) : Prop :=
  b = true ∧ St [] w w' ((allC (.slice A n cp) xs m).set (j + 1) (numC x m r))
theorem all_get {v : Value} {xs : List Nat} {m j : Nat} (hj : j < xs.length) : (allC v xs m)[j + 1]? = some (numE m (xs.getD j 0)) := by
  simp [allC, hj, List.getD_eq_getElem?_getD]
theorem set_get {v : Value} {xs : List Nat} {m j : Nat} {c : Chunk} (hj : j < xs.length) : ((allC v xs m).set (j + 1) c)[j + 1]? = some c := by
  simp [allC, hj]
theorem set_zero {v : Value} {xs : List Nat} {m j : Nat} {c : Chunk} : ((allC v xs m).set (j + 1) c)[0]? = some (ptrsC v xs) := by
  simp [allC]
/-- The list is as it was, but for bounds. -/
theorem back {w0 w : World} {v : Value} {xs : List Nat} {m m' j : Nat} {c : Chunk} (h : St [] w0 w ((allC v xs m).set (j + 1) c)) (hj : j < xs.length) (hm : m ≤ m') (hc : ∀ F, c.holds w F → (numE m' (xs.getD j 0)).holds w F) : St [] w0 w (allC v xs m') := by
  refine h.weak _ (by simp [allC]) ?_
  intro i hi hi' F hF
  rcases Nat.eq_zero_or_pos i with h0 | h0
  · subst h0; exact hF
  · obtain ⟨i, rfl⟩ : ∃ k, i = k + 1 := ⟨i - 1, by omega⟩
    by_cases he : i = j
    · subst he
      have := hc F (by simpa [List.getElem_set_self] using hF)
      simpa [allC, List.getD_eq_getElem?_getD, hj] using this
    · rw [List.getElem_set_ne (by omega)] at hF
      have e1 : (allC v xs m)[i + 1]'(by simpa using hi) = numE m (xs[i]'(by simpa [allC] using hi')) := by simp [allC]
      have e2 : (allC v xs m')[i + 1]'hi' = numE m' (xs[i]'(by simpa [allC] using hi')) := by simp [allC]
      rw [e1] at hF
      rw [e2]
      obtain ⟨n, hF⟩ := hF
      exact ⟨n, numC.mono hF hm⟩
theorem ptr_get {w0 w : World} {L : List Chunk} {A : Option Addr} {n c : Nat} {xs : List Nat} (h : St [] w0 w L) (h0 : L[0]? = some (ptrsC (.slice A n c) xs)) {j : Nat} (hj : j < xs.length) : ∃ g, A = some ⟨g, 0, none⟩ ∧ w.cell? ⟨g, 0 + (j : Int).toNat * 1, none⟩ = some (.pointer (some ⟨xs.getD j 0, 0, none⟩)) := by
  obtain ⟨g, hg, hc⟩ := h.slGet 0 h0 (by simp; omega)
  refine ⟨g, hg, ?_⟩
  have := hc j 0 (.pointer (some ⟨xs.getD j 0, 0, none⟩)) (by simpa using hj) (by decide) (by simp [List.getD_eq_getElem?_getD, hj])
  rw [show 0 + (j : Int).toNat * 1 = j * 1 + 0 by simp]
  exact this
theorem call28 {w0 w : World} {v : Value} {xs : List Nat} {m j : Nat} (h : St [] w0 w (allC v xs m)) (hj : j < xs.length) (hm : m ≤ 3000000) (k hp y : Int) :
    Calls Try.prog 28 #[.pointer (some ⟨xs.getD j 0, 0, none⟩), .agg #[.int .i64 k, .int .i64 hp, .int .i64 y]] w fun e w' => e = .returned (.bool true) ∧ St [] w0 w' (allC v xs (m + 1)) := by
  obtain ⟨n, h⟩ := h.unex (j + 1) (all_get hj)
  refine Calls.mono (h.step1 (j + 1) (set_get hj) _ (fun F hF => one_ hF hm k hp y)) ?_
  rintro e w' ⟨rfl, hS⟩
  rw [List.set_set] at hS
  refine ⟨rfl, back hS hj (Nat.le_succ m) ?_⟩
  rintro F ⟨n', ⟨_, _⟩, hF⟩
  exact ⟨n', numC.mono hF (by unfold more; split <;> omega)⟩
theorem pop28 {w0 w : World} {v : Value} {xs : List Nat} {m j n : Nat} (h : St [] w0 w ((allC v xs m).set (j + 1) (numC (xs.getD j 0) m n))) (hj : j < xs.length) (hm : m ≤ 3000000) :
    Calls Try.prog 28 #[.pointer (some ⟨xs.getD j 0, 0, none⟩), .agg #[.int .i64 2, .int .i64 0, .int .i64 0]] w fun e w' => e = .returned (.bool true) ∧ St [] w0 w' ((allC v xs m).set (j + 1) (numC (xs.getD j 0) m (n - 1))) := by
  refine Calls.mono (h.step1 (j + 1) (set_get hj) _ (fun F hF => one_ hF hm 2 0 0)) ?_
  rintro e w' ⟨rfl, hS⟩
  refine ⟨rfl, ?_⟩
  rw [List.set_set] at hS
  obtain ⟨n', hS⟩ := hS.unex (j + 1) (set_get hj)
  rw [List.set_set] at hS
  obtain ⟨⟨_, hn⟩, hS⟩ := hS.unfact (j + 1) (set_get hj)
  rw [List.set_set] at hS
  rw [hn rfl] at hS
  exact hS
theorem heaps {w : World} {A0 : Option Addr} {n0 c0 : Nat} {A1 : Option Addr} {n1 c1 : Nat} {l : List Int} {hs : List (Den hopTy)} {F1 : List Nat} (h0 : LW.InI w A0 n0 l) (hn0 : n0 ≤ 2000000)
    (h1 : In w (.sl hopTy) [.slice A1 n1 c1] hs F1) (hn1 : n1 ≤ 2000000) :
    Calls Try.prog 4 #[.slice A0 n0 c0, .slice A1 n1 c1] w fun e w' => e = .returned (.bool true) ∧ Fr [] w w' := by
  refine Calls.mono (f4.calls (R := fun v w' => v = .bool true ∧ Fr [] w w') ?_) ?_
  · dsimp only [f4.VC]
    have hlen := h0.1
    have hR := h1.recs rfl
    have hlen1 : n1 = hs.length := by simpa using hR.1
    refine Calls.mono ((St.start w).step0 (LV.lively _)) ?_
    rintro _ w1 ⟨rfl, hS1⟩
    refine ⟨_, rfl, J1 w l, ⟨l.length, 0, [], rfl, by omega, rfl, hS1.nil 51 1⟩, ?_⟩
    rintro _ A6 n6 c6 x7 w2 r ⟨k, xs, rfl, hkr, hxk, hS⟩
    have hn6 := hS.slLen 0 rfl
    simp only [List.length_map] at hn6
    have k0 : (0 : Int) ≤ (k : Int) := by omega
    refine sel_of ?_ ?_
    · intro hd
      have hk : k < l.length := by rw [hlen] at hd; simpa using hd
      obtain ⟨bb, oo, rfl, hcs⟩ := h0.2 (by omega)
      have k1 : (k : Int) < (n0 : Int) := by omega
      have hk1 : IntKind.i64.wrap ((k : Int) + 1) = ((k + 1 : Nat) : Int) := by rw [i64_id (by omega) (by omega)]; omega
      have hck := hS.frame.cell (hcs k (by omega))
      rw [show oo + k = oo + (k : Int).toNat * 1 by simp] at hck
      generalize l.getD k 0 = o at *
      refine ⟨k0, k1, needPtr_of rfl ⟨_, hck, ?_⟩⟩
      have hS3 := hS.alloc #[.int .i64 0] 3
      generalize World.alloc w2 (.cells #[.int .i64 0] 3) = w3 at *
      generalize w2.heap.size = c at *
      refine ⟨(hS3.blk 0 rfl).can (by simp), ?_⟩
      have hS4 := hS3.over 0 rfl [.int .i64 o] rfl
      generalize setCs w3 c 0 [.int .i64 o] = w4 at *
      rw [hk1]
      have rest : ∀ w5 (a : Nat), St [] w w5 (heap a c [] 0 :: ordC c o :: allC (.slice A6 n6 c6) xs 0) →
          (World.alloc w5 (.cells #[.int .i64 o, .pointer (some ⟨a, 0, none⟩), .slice none 0 0] 56)).cell? ⟨w5.heap.size, 1, none⟩ = some (.pointer (some ⟨a, 0, none⟩)) ∧
          ∃ (A37 : Option Addr) (n37 c37 : Nat) (w8 : World), (Builtin.append_ #[50, 50] 50 #[.slice A6 n6 c6, .slice (some ⟨(World.alloc w5 (.cells #[.int .i64 o, .pointer (some ⟨a, 0, none⟩), .slice none 0 0] 56)).heap.size, 0, none⟩) 1 1]).run Try.prog
            (World.alloc (World.alloc w5 (.cells #[.int .i64 o, .pointer (some ⟨a, 0, none⟩), .slice none 0 0] 56)) (.cells #[.pointer (some ⟨w5.heap.size, 0, none⟩)] 51)) = .ok (.slice A37 n37 c37) w8 ∧
          ∃ m, m < r ∧ J1 w l A37 n37 c37 ((k + 1 : Nat) : Int) w8 m := by
        intro w5 a hS5
        have hS6 := hS5.alloc #[.int .i64 o, .pointer (some ⟨a, 0, none⟩), .slice none 0 0] 56
        generalize hx : w5.heap.size = x at *
        generalize World.alloc w5 (.cells #[.int .i64 o, .pointer (some ⟨a, 0, none⟩), .slice none 0 0] 56) = w6 at *
        refine ⟨(hS6.blk 0 rfl).cell rfl, ?_⟩
        have hS7 := hS6.alloc #[.pointer (some ⟨x, 0, none⟩)] 51
        obtain ⟨ti, t1, t2, t3, t4⟩ := info51
        obtain ⟨g', cap', w', hrun, hS8⟩ := hS7.append (P := Try.prog) (ty := 50) (r := [.pointer (some ⟨x, 0, none⟩)]) 4 under50 t1 t2 t3 rfl (by decide) rfl (hS7.blk 0 rfl) rfl rfl (by intro u hu; simp at hu; subst hu; rfl) (by rw [t4]; simp; omega) (by simp [maxLen]; omega)
        refine ⟨_, _, _, _, hrun, r - 1, by omega, k + 1, xs ++ [x], rfl, by omega, by simp [hxk], ?_⟩
        -- the pieces together
        have hS9 : St [] w w' (Chunk.blk x #[.int .i64 o, .pointer (some ⟨a, 0, none⟩), .slice none 0 0] 56 :: heap a c [] 0 :: ordC c o :: Chunk.sl 51 1 (.slice (some ⟨g', 0, none⟩) ((xs.map fun x => [Value.pointer (some ⟨x, 0, none⟩)]).length + 1) cap') ((xs.map fun x => [Value.pointer (some ⟨x, 0, none⟩)]) ++ [[.pointer (some ⟨x, 0, none⟩)]]) :: xs.map (numE 0)) := hS8.tail
        have hS10 := St.join ((hS9.nil 38 2).swap 0 1 rfl rfl)
        have hS11 := hS10.as 0 rfl (numR x o a []) (fun F hF => ⟨_, hF⟩)
        have hS12 := St.join (hS11.perm ((List.Perm.cons _ (List.Perm.swap _ _ _)).trans (List.Perm.swap _ _ _)))
        have hS13 := St.join (hS12.swap 0 1 rfl rfl)
        have hS14 := hS13.as 0 rfl (numE 0 x) (fun F hF => ⟨0, (o, a, c, [], 0, []), ⟨Coupled.start o, rfl⟩, hF⟩)
        have hS15 := hS14.perm ((List.Perm.swap _ _ _).trans (List.Perm.cons _ (List.perm_append_comm (l₁ := [_]))))
        simp only [allC, ptrsC, List.map_append, List.map_cons, List.map_nil]
        simpa using hS15
      refine ⟨⟨_, (hS4.blk 0 rfl).cell rfl, ?_⟩, ?_, trivial⟩
      · refine Calls.mono (LV.newInt w4.drew 26 _) ?_
        rintro _ w5 ⟨rfl, hH5, hF5⟩
        have hS5 := hS4.drew.new (c := heap w4.heap.size c [] 0) hF5 hH5 (by simp)
        obtain ⟨r1, A37, n37, c37, w8, r2, r3⟩ := rest w5 _ hS5
        exact ⟨_, rfl, _, r1, sel_false rfl ⟨_, _, _, _, r2, rfl, r3⟩⟩
      · refine Calls.mono (LV.newInt w4.drew 26 _) ?_
        rintro _ w5 ⟨rfl, hH5, hF5⟩
        have hS5 := hS4.drew.new (c := heap w4.heap.size c [] 0) hF5 hH5 (by simp)
        obtain ⟨r1, A37, n37, c37, w8, r2, r3⟩ := rest w5 _ hS5
        exact ⟨_, rfl, _, (hS5.blk 1 rfl).cell rfl, _, r1, sel_false rfl ⟨_, _, _, _, r2, rfl, r3⟩⟩
    · intro hd
      have hk : k = l.length := by
        have : ¬ (k : Int) < (n0 : Int) := by simpa using hd
        omega
      subst hk
      have hx6 : n6 = xs.length := hn6
      have n60 : n6 ≤ 2000000 := by omega
      clear hxk hn6 hd k0 hkr
      refine ⟨J2 w hs A6 n6 c6 xs, ⟨hs.length, rfl, 0, rfl, by omega, hS⟩, ?_⟩
      clear hS
      rintro _ b5 x10 w13 r1 ⟨rfl, k, rfl, hkr, hS⟩
      have k0 : (0 : Int) ≤ (k : Int) := by omega
      refine sel_of (fun hd => sel_of (fun hp => sel_true rfl ?body) (fun _ => ?t1)) (fun _ => ?t2)
      case body =>
        have hk : k < hs.length := by rw [hlen1] at hd; simpa using hd
        have hp : 0 < n6 := by simpa using hp
        have k1 : (k : Int) < (n1 : Int) := by omega
        have hk1 : IntKind.i64.wrap ((k : Int) + 1) = ((k + 1 : Nat) : Int) := by rw [i64_id (by omega) (by omega)]; omega
        obtain ⟨bb, oo, rfl, hcs⟩ := hR.2 (by omega)
        obtain ⟨⟨q0, q1, q2, u⟩, hq⟩ : ∃ q, hs[k] = q := ⟨_, rfl⟩
        have hrow : (hs.map (flatV hopTy)).getD k [] = [.int .i64 q0, .int .i64 q1, .int .i64 q2] := by
          rw [List.getD_eq_getElem?_getD, List.getElem?_map, List.getElem?_eq_getElem hk, hq]; rfl
        have cs : ∀ w', Fr [] w w' → w'.cell? ⟨bb, oo + (k : Int).toNat * 3, none⟩ = some (.int .i64 q0) ∧ w'.cell? ⟨bb, oo + (k : Int).toNat * 3 + 1, none⟩ = some (.int .i64 q1) ∧ w'.cell? ⟨bb, oo + (k : Int).toNat * 3 + 1 + 1, none⟩ = some (.int .i64 q2) := by
          intro w' hf
          have a0 := hcs k (by omega) 0 (by decide)
          have a1 := hcs k (by omega) 1 (by decide)
          have a2 := hcs k (by omega) 2 (by decide)
          rw [hrow] at a0 a1 a2
          rw [Int.toNat_natCast]
          exact ⟨hf.cell a0, hf.cell a1, hf.cell a2⟩
        have hj0 := LW.atI_range q1 hp
        obtain ⟨j, hj⟩ : ∃ j : Nat, LW.atI q1 n6 = (j : Int) := ⟨(LW.atI q1 n6).toNat, by omega⟩
        rw [hj] at hj0
        have hjl : j < xs.length := by omega
        have a13 := cs w13 hS.frame
        refine ⟨k0, k1, needPtr_of rfl ⟨k0, k1, needPtr_of rfl ⟨_, a13.2.1, ?_, ⟨_, a13.1, _, a13.2.1, _, a13.2.2, ?_⟩, trivial⟩⟩⟩
        · refine Calls.mono (hS.drew.step0 (LW.at_ _ q1 hp (by omega))) ?_
          rintro _ w14 ⟨rfl, hS14⟩
          rw [hj]
          obtain ⟨g, rfl, hc⟩ := ptr_get hS14 rfl hjl
          have a14 := cs w14 hS14.frame
          refine ⟨_, rfl, hj0.1, hj0.2, needPtr_of rfl ⟨_, hc, _, a14.1, _, a14.2.1, _, a14.2.2, ?_⟩⟩
          refine Calls.mono (call28 hS14 hjl (by omega) q0 q1 q2) ?_
          rintro _ w15 ⟨rfl, hS15⟩
          exact ⟨_, rfl, rfl, r1 - 1, by omega, rfl, k + 1, hk1, by omega, hS15⟩
        · refine Calls.mono (hS.drew.step0 (LW.at_ _ q1 hp (by omega))) ?_
          rintro _ w14 ⟨rfl, hS14⟩
          rw [hj]
          obtain ⟨g, rfl, hc⟩ := ptr_get hS14 rfl hjl
          refine ⟨_, rfl, hj0.1, hj0.2, needPtr_of rfl ⟨_, hc, ?_⟩⟩
          refine Calls.mono (call28 hS14 hjl (by omega) q0 q1 q2) ?_
          rintro _ w15 ⟨rfl, hS15⟩
          exact ⟨_, rfl, rfl, r1 - 1, by omega, rfl, k + 1, hk1, by omega, hS15⟩
      all_goals
        have hkl : k ≤ 2000000 := by omega
        clear hkr
        refine ⟨J3 w A6 n6 c6 xs k, ⟨xs.length, rfl, 0, rfl, by omega, hS⟩, ?_⟩
        clear hS
        rintro _ b x11 w18 r2 ⟨rfl, i, rfl, hir, hS⟩
        refine sel_of (fun hd => sel_true rfl ?_) (fun _ => ⟨rfl, hS.frame⟩)
        have hi : i < xs.length := by
          have : (i : Int) < (n6 : Int) := by simpa using hd
          omega
        have i0 : (0 : Int) ≤ (i : Int) := by omega
        have i1 : (i : Int) < (n6 : Int) := by omega
        have hi1 : IntKind.i64.wrap ((i : Int) + 1) = ((i + 1 : Nat) : Int) := by rw [i64_id (by omega) (by omega)]; omega
        obtain ⟨n, hS⟩ := hS.unex (i + 1) (all_get hi)
        refine ⟨J4 w A6 n6 c6 xs k i (xs.getD i 0), ⟨n, rfl, hS⟩, ?_⟩
        clear hS
        rintro _ b w19 r3 ⟨rfl, hS⟩
        obtain ⟨g, rfl, hc⟩ := ptr_get hS set_zero hi
        obtain ⟨F, hF, _⟩ := hS.at (i + 1) (set_get hi)
        obtain ⟨hle, a, ha, ⟨A2, c2, hsl⟩, _⟩ := numC.look hF
        refine ⟨i0, i1, needPtr_of rfl ⟨_, hc, needPtr_of rfl ⟨_, _, _, hsl, sel_of (fun hr => sel_true rfl ?_) (fun hr => ?_)⟩⟩⟩
        · have hr : 0 < r3 := by simpa using hr
          refine ⟨i0, i1, needPtr_of rfl ⟨_, hc, ?_⟩⟩
          refine Calls.mono (pop28 hS hi (by omega)) ?_
          rintro _ w20 ⟨rfl, hS20⟩
          exact ⟨_, rfl, rfl, r3 - 1, by omega, rfl, hS20⟩
        · have hr : r3 = 0 := by
            have : ¬ 0 < r3 := by simpa using hr
            omega
          subst hr
          refine ⟨i0, i1, needPtr_of rfl ⟨_, hc, ?_⟩⟩
          refine Calls.mono (pop28 hS hi (by omega)) ?_
          rintro _ w20 ⟨rfl, hS20⟩
          obtain ⟨g', hg', hc20⟩ := ptr_get hS20 set_zero hi
          injection hg' with hg'
          injection hg' with hg'
          subst hg'
          obtain ⟨F2, hF2, _⟩ := hS20.at (i + 1) (set_get hi)
          obtain ⟨_, a2, ha2, _, hlen2⟩ := numC.look hF2
          refine ⟨_, rfl, sel_true rfl (sel_true rfl ⟨i0, i1, needPtr_of rfl ⟨_, hc20, needPtr_of rfl ⟨_, ha2, ?_⟩⟩⟩)⟩
          refine Calls.mono (hS20.step0 hlen2) ?_
          rintro _ w22 ⟨rfl, hS22⟩
          refine ⟨_, rfl, rfl, r2 - 1, by omega, rfl, i + 1, hi1, by omega, back hS22 hi (Nat.le_refl k) ?_⟩
          intro F hF
          exact ⟨_, hF⟩
  · rintro e w' ⟨v, rfl, rfl, h⟩
    exact ⟨rfl, h⟩
end LH
end Go.Proofs.Ytebahglmdifmpaa
