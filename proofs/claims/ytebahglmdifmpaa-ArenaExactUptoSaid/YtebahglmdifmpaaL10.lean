/- ArenaExact: the walk. -/
import Derived.Test.YtebahglmdifmpaaA9
import Derived.Test.YtebahglmdifmpaaL8
import Derived.Test.YtebahglmdifmpaaV14
import Derived.Test.YtebahglmdifmpaaV15
set_option linter.unusedVariables false
set_option linter.unusedSimpArgs false
set_option maxRecDepth 10000
namespace Go.Proofs.Ytebahglmdifmpaa
open Go Go.Proofs.Ytebahglmdifmpaa.Vc
namespace PR
open PA RA
abbrev startTy : Ty := .pair (.int .i64) (.pair (.int .i64) .unit)
def InS (w : World) (A : Option Addr) (n : Nat) (l : List (Int × Int)) : Prop :=
  n = l.length ∧ (0 < n → ∃ b o, A = some ⟨b, o, none⟩ ∧ ∀ i, i < n → w.cell? ⟨b, o + i * 2, none⟩ = some (.int .i64 (l.getD i (0, 0)).1) ∧ w.cell? ⟨b, o + i * 2 + 1, none⟩ = some (.int .i64 (l.getD i (0, 0)).2))
theorem inS {w : World} {A : Option Addr} {n c : Nat} {l : List (Den startTy)} {F : List Nat} (h : In w (.sl startTy) [.slice A n c] l F) : InS w A n (l.map fun x => ((x.1, x.2.1) : Int × Int)) := by
  obtain ⟨h1, _, h2⟩ := h.elems
  refine ⟨by simpa using h1, fun hn => ?_⟩
  obtain ⟨b, o, rfl, h3⟩ := h2 hn
  refine ⟨b, o, rfl, fun i hi => ?_⟩
  have hi2 : i < l.length := by omega
  obtain ⟨es, G, e1, e2, e3, _⟩ := h3 i hi2
  have e4 := e3.flat rfl
  have e5 : (l.map fun x => ((x.1, x.2.1) : Int × Int)).getD i (0, 0) = (l[i].1, l[i].2.1) := by simp [List.getD_eq_getElem?_getD, hi2]
  rw [e5]
  subst e4
  exact ⟨e2 0 (by decide), e2 1 (by decide)⟩
theorem InS.fr {w w' : World} {A : Option Addr} {n : Nat} {l : List (Int × Int)} (h : InS w A n l) (hf : Fr [] w w') : InS w' A n l := by
  refine ⟨h.1, fun hn => ?_⟩
  obtain ⟨b, o, rfl, h2⟩ := h.2 hn
  exact ⟨b, o, rfl, fun i hi => ⟨hf.cell (h2 i hi).1, hf.cell (h2 i hi).2⟩⟩
/-! ### The list of pairs -/
abbrev qs (v : Value) (xs : List Nat) : Chunk := Chunk.sl 105 1 v (xs.map fun q => [Value.pointer (some ⟨q, 0, none⟩)])
def PP (v : Value) (xs : List Nat) (m : Nat) : List Chunk := qs v xs :: xs.map (pairC · m)
theorem info105 : ∃ i, Try.prog.info? 105 = some i ∧ i.zero = some (.pointer none) ∧ i.size = 1 ∧ i.bytes = 8 := ⟨Try.prog.types[105]!, by kernel_rfl, by kernel_rfl, by kernel_rfl, by kernel_rfl⟩
theorem under102 : Try.prog.underlying 102 = some (.slice 105) := by kernel_rfl
theorem pair_up {q m m' : Nat} (hm : m ≤ m') {w : World} {F : List Nat} (h : (pairC q m).holds w F) : (pairC q m').holds w F := by
  obtain ⟨x, hx, h⟩ := h
  exact ⟨x, ⟨hx.pos, hx.len, Nat.le_trans hx.k hm, Nat.le_trans hx.l hm, hx.nil⟩, h⟩
theorem pp_get {v : Value} {xs : List Nat} {m j : Nat} (hj : j < xs.length) : (PP v xs m)[j + 1]? = some (pairC (xs.getD j 0) m) := by
  simp [PP, hj, List.getD_eq_getElem?_getD]
section
variable {S : List Nat} {w0 w : World}
theorem pp_up {v : Value} {xs : List Nat} {m m' j : Nat} (hj : j < xs.length) (hm : m ≤ m') (h : St S w0 w ((PP v xs m).set (j + 1) (pairC (xs.getD j 0) m'))) : St S w0 w (PP v xs m') := by
  refine h.weak _ (by simp [PP]) ?_
  intro i hi hi' F hF
  match i with
  | 0 => exact hF
  | i + 1 =>
    have e2 : (PP v xs m')[i + 1]'hi' = pairC (xs[i]'(by simpa [PP] using hi')) m' := by simp [PP]
    rw [e2]
    by_cases he : i = j
    · subst he
      rw [List.getElem_set_self] at hF
      simpa [List.getD_eq_getElem?_getD, hj] using hF
    · rw [List.getElem_set_ne (by omega)] at hF
      have e1 : (PP v xs m)[i + 1]'(by simpa using hi) = pairC (xs[i]'(by simpa [PP] using hi')) m := by simp [PP]
      rw [e1] at hF
      exact pair_up hm hF
theorem ppRead {A : Option Addr} {n c : Nat} {xs : List Nat} {K : List Chunk} (h : St S w0 w (qs (.slice A n c) xs :: K)) : n = xs.length ∧ (0 < n → ∃ b o, A = some ⟨b, o, none⟩ ∧ ∀ i, i < n → w.cell? ⟨b, o + i * 1, none⟩ = some (.pointer (some ⟨xs.getD i 0, 0, none⟩))) := by
  have hn := h.slLen 0 rfl
  rw [List.length_map] at hn
  refine ⟨hn, fun h0 => ?_⟩
  obtain ⟨g, hg, hc⟩ := h.slGet 0 rfl (by simp; omega)
  refine ⟨g, 0, hg, fun j hj => ?_⟩
  have := hc j 0 (.pointer (some ⟨xs.getD j 0, 0, none⟩)) (by simp; omega) (by decide) (by
    have hj' : j < xs.length := by omega
    simp [List.getD_eq_getElem?_getD, hj'])
  rw [show 0 + j * 1 = j * 1 + 0 by omega]
  exact this
/-- An arena that is refused. -/
theorem noArena {mb gb : Nat} {ws : List Int} {tr : Value} {bad : Int} {K : List Chunk} (h : St S w0 w (memC mb gb ws tr bad :: K)) {f : Int} (hf : f < 0 ∨ (ws.length : Int) ≤ f) :
    Calls Try.prog 38 #[.pointer (some ⟨mb, 0, none⟩), .int .i64 f] w fun e w' => e = .returned (.tuple #[.pointer none, .int .i64 3]) ∧ St S w0 w' K := by
  refine Calls.mono (f38.calls (R := fun v w' => v = .tuple #[.pointer none, .int .i64 3] ∧ St S w0 w' K) ?_) ?_
  · dsimp only [f38.VC]
    refine sel_of (fun _ => ⟨rfl, h.tail⟩) (fun h0 => ?_)
    have h0 : ¬ f < 0 := of_decide_eq_false h0
    obtain ⟨F, hM, _⟩ := h.at 0 rfl
    refine Calls.mono (h.step0 (CM.len hM.2)) ?_
    rintro _ w1 ⟨rfl, h1⟩
    exact ⟨_, rfl, sel_true (decide_eq_true (by omega)) ⟨rfl, h1.tail⟩⟩
  · rintro e w' ⟨v, rfl, rfl, h⟩; exact ⟨rfl, h⟩
theorem noRef {K : List Chunk} (h : St S w0 w K) {N : Nat} {f : Int} (hf : f < 0 ∨ (N : Int) ≤ f) :
    Calls Try.prog 39 #[.int .i64 (N : Int), .int .i64 f] w fun e w' => e = .returned (.tuple #[.pointer none, .int .i64 3]) ∧ St S w0 w' K := by
  refine Calls.mono (f39.calls (R := fun v w' => v = .tuple #[.pointer none, .int .i64 3] ∧ St S w0 w' K) ?_) ?_
  · dsimp only [f39.VC]
    refine sel_of (fun _ => ⟨rfl, h⟩) (fun h0 => sel_true ?_ ⟨rfl, h⟩)
    have h0 : ¬ f < 0 := of_decide_eq_false h0
    exact decide_eq_true (by omega)
  · rintro e w' ⟨v, rfl, rfl, h⟩; exact ⟨rfl, h⟩
theorem nilArena {K : List Chunk} (h : St S w0 w K) : Calls Try.prog 38 #[.pointer none, .int .i64 0] w fun e w' => e = .returned (.tuple #[.pointer none, .int .i64 2]) ∧ St S w0 w' K := by
  refine Calls.mono (f38n.calls (R := fun v w' => v = .tuple #[.pointer none, .int .i64 2] ∧ St S w0 w' K) ?_) ?_
  · dsimp only [f38n.VC]
    exact sel_true rfl ⟨rfl, h⟩
  · rintro e w' ⟨v, rfl, rfl, h⟩; exact ⟨rfl, h⟩
theorem oneS {A : Option Addr} {n c : Nat} {xs : List Nat} {m j : Nat} (h : St S w0 w (PP (.slice A n c) xs m)) (hj : j < xs.length) (hm : m ≤ 4000000) (o0 o1 o2 o3 : Int) (ho : o2 ≤ 9223372036854775807) :
    Calls Try.prog 57 #[.pointer (some ⟨xs.getD j 0, 0, none⟩), .agg #[.int .i64 o0, .int .i64 o1, .int .i64 o2, .int .i64 o3]] w fun e w' => e = .returned (.bool true) ∧ St S w0 w' (PP (.slice A n c) xs (m + 1)) := by
  obtain ⟨F, hF, hg⟩ := h.graft (j + 1) (pp_get hj)
  refine (one_ (St.start1 hF) hm o0 o1 o2 o3 ho).mono ?_
  rintro e w' ⟨rfl, h2⟩
  exact ⟨rfl, pp_up hj (Nat.le_succ m) (by simpa using hg (M := []) h2)⟩
end
section
variable (w : World) (len : Nat)
def I1 (A : Option Addr) (n c : Nat) (x : Int) (w' : World) (r : Nat) : Prop := ∃ (i : Nat) (xs : List Nat), x = (i : Int) ∧ i + r = len ∧ xs.length ≤ i ∧ St [] w w' (PP (.slice A n c) xs 1)
def I2 (A : Option Addr) (n c : Nat) (xs : List Nat) (b : Bool) (x : Int) (w' : World) (r : Nat) : Prop := b = true ∧ ∃ i : Nat, x = (i : Int) ∧ i + r = len ∧ St [] w w' (PP (.slice A n c) xs (1 + i))
def I3 (A : Option Addr) (n c : Nat) (xs : List Nat) (m : Nat) (b : Bool) (x : Int) (w' : World) (r : Nat) : Prop := b = true ∧ ∃ i : Nat, x = (i : Int) ∧ i + r = xs.length ∧ St [] w w' (PP (.slice A n c) xs (m + i))
end
theorem exact_VC {w : World} {A0 : Option Addr} {n0 c0 : Nat} {A1 : Option Addr} {n1 c1 : Nat} {ss : List (Int × Int)} {ops : List Op4} (h0 : InS w A0 n0 ss) (hn0 : n0 ≤ 1500000) (h1 : InO w A1 n1 ops) (hn1 : n1 ≤ 1500000) :
    f10.VC A0 n0 c0 A1 n1 c1 w (fun v w' => v = .bool true ∧ Fr [] w w') := by
  dsimp only [f10.VC]
  refine Calls.mono ((St.start w).step0 (LV.lively _)) ?_
  rintro _ w1 ⟨rfl, hS1⟩
  refine ⟨_, rfl, ?_⟩
  refine Calls.mono (nilArena hS1) ?_
  rintro _ w2 ⟨rfl, hS2⟩
  refine ⟨_, _, rfl, sel_false rfl (sel_false rfl ⟨I1 w n0, ⟨n0, 0, [], rfl, by omega, by simp, hS2.nil 105 1⟩, ?_⟩)⟩
  clear hS1 hS2
  rintro d A8 n8 c8 x9 w3 r ⟨i, xs, rfl, hir, hxl, hS⟩
  refine sel_of (fun hd => ?_) (fun hd => ?_)
  · have hi : i < n0 := by have := of_decide_eq_true hd; omega
    have hi1 : IntKind.i64.wrap ((i : Int) + 1) = ((i + 1 : Nat) : Int) := by rw [i64_id (by omega) (by omega)]; omega
    have e0 : (i : Int).toNat = i := Int.toNat_natCast i
    obtain ⟨b, o, rfl, hc⟩ := h0.2 (by omega)
    obtain ⟨k1, k2⟩ := hc i hi
    generalize ss.getD i (0, 0) = s at *
    obtain ⟨s1, f⟩ := s
    dsimp only at k1 k2
    rw [hi1]
    refine ⟨by omega, by omega, needPtr_of rfl ⟨_, by rw [e0]; exact hS.frame.cell k1, ?_⟩⟩
    refine Calls.mono (hS.step0 (LW.at_ w3 s1 (n := 200) (by decide) (by decide))) ?_
    rintro _ w4 ⟨rfl, hS4⟩
    have har := LW.atI_range s1 (n := 200) (by decide)
    obtain ⟨q, hq⟩ : ∃ q : Nat, LW.atI s1 200 = (q : Int) := ⟨(LW.atI s1 200).toNat, by omega⟩
    rw [hq] at har ⊢
    have hN : IntKind.i64.wrap (1 + (q : Int)) = ((q + 1 : Nat) : Int) := by rw [i64_id (by omega) (by omega)]; omega
    obtain ⟨N, hNq⟩ : ∃ N : Nat, N = q + 1 := ⟨_, rfl⟩
    refine ⟨_, rfl, ?_⟩
    rw [hN, ← hNq]
    have hN1 : 1 ≤ N := by omega
    have hN2 : N ≤ 200 := by omega
    refine Calls.mono (newMem hS4 hN1 (by omega)) ?_
    rintro _ w5 ⟨mb, gb, rfl, hS5⟩
    refine ⟨_, _, rfl, sel_false rfl ⟨by omega, by omega, needPtr_of rfl ⟨_, by rw [e0]; exact hS5.frame.cell k2, ?_⟩⟩⟩
    by_cases hf : 0 ≤ f ∧ f < N
    · obtain ⟨st, rfl⟩ : ∃ st : Nat, f = (st : Int) := ⟨f.toNat, by omega⟩
      refine Calls.mono (newArena hS5 (st := st) (by simp; omega) (by simp; omega)) ?_
      rintro _ w6 ⟨a, rfl, hS6⟩
      refine ⟨_, _, rfl, by omega, by omega, needPtr_of rfl ⟨_, by rw [e0]; exact hS6.frame.cell k2, ?_⟩⟩
      refine Calls.mono (rNew hS6 (st := st) (N := N) (by omega) (by omega)) ?_
      rintro _ w7 ⟨rr, rfl, hS7⟩
      simp only [List.length_replicate] at hS7
      refine ⟨_, _, rfl, fun w' => w' = w7, ⟨fun b w' => b = false ∧ w' = w7, sel_false (by simp) ⟨rfl, rfl, rfl⟩, ?_⟩, ?_⟩
      · rintro d1 _ _ ⟨rfl, rfl⟩
        exact sel_false rfl ⟨rfl, rfl⟩
      · rintro d2 w7 rfl
        refine sel_true rfl ?_
        have hS8 := hS7.alloc #[.pointer (some ⟨mb, 0, none⟩), .pointer (some ⟨a, 0, none⟩), .pointer (some ⟨rr, 0, none⟩), .int .i64 0] 107
        generalize World.alloc w7 (.cells #[.pointer (some ⟨mb, 0, none⟩), .pointer (some ⟨a, 0, none⟩), .pointer (some ⟨rr, 0, none⟩), .int .i64 0] 107) = w10 at *
        generalize w7.heap.size = qq at *
        obtain ⟨y, y1, y2, y3, hS9⟩ := openR (hS8.perm (List.Perm.swap _ _ _))
        have hS10 := closeR (k := 1) y y1 y2 (by omega) hS9
        have hS11 := (hS10.nil 158 5).perm (List.Perm.swap _ _ _)
        obtain ⟨x, hx⟩ : ∃ x : PV, x = ⟨a, mb, gb, rr, none, 0, 0, st, List.replicate N 0, [((st : Int), ((N - st : Nat) : Int), true)], [], 1⟩ := ⟨_, rfl⟩
        have hS12 : St [] w w10 (rX x :: tX x :: qC qq x :: aX x :: PP (.slice A8 n8 c8) xs 1) := by rw [hx]; exact hS11
        have hS13 := hS12.perm (show (rX x :: tX x :: qC qq x :: aX x :: PP (.slice A8 n8 c8) xs 1).Perm (qC qq x :: aX x :: tX x :: rX x :: PP (.slice A8 n8 c8) xs 1) from
          ((List.perm_append_comm (l₁ := [rX x, tX x]) (l₂ := [qC qq x, aX x])).trans (List.Perm.append_left [qC qq x, aX x] (List.Perm.swap _ _ _))).append_right _)
        have hS14 := closeP (m := 1) x ⟨by rw [hx]; simp; omega, by rw [hx]; simp; omega, by rw [hx]; simp, by rw [hx]; simp, by rw [hx]; exact .inl rfl⟩ hS13
        have hS15 := hS14.alloc #[.pointer (some ⟨qq, 0, none⟩)] 105
        obtain ⟨ti, i1, i2, i3, i4⟩ := info105
        obtain ⟨g', cap', w', hrun, hS16⟩ := hS15.append (P := Try.prog) (ty := 102) (r := [.pointer (some ⟨qq, 0, none⟩)]) 2 under102 i1 i2 i3 rfl (by decide) rfl (hS15.blk 0 rfl) rfl rfl (by intro u hu; simp at hu; subst hu; rfl) (by rw [i4]; simp; omega) (by simp [maxLen]; omega)
        refine ⟨_, _, _, _, hrun, rfl, r - 1, by omega, i + 1, xs ++ [qq], rfl, by omega, by simp; omega, ?_⟩
        refine hS16.tail.perm ?_
        unfold PP
        refine (List.perm_append_singleton (pairC qq 1) _).symm.trans (List.Perm.of_eq ?_)
        simp [qs]
    · have hf2 : f < 0 ∨ (N : Int) ≤ f := by omega
      refine Calls.mono (noArena hS5 (by simp; omega)) ?_
      rintro _ w6 ⟨rfl, hS6⟩
      refine ⟨_, _, rfl, by omega, by omega, needPtr_of rfl ⟨_, by rw [e0]; exact hS6.frame.cell k2, ?_⟩⟩
      refine Calls.mono (noRef hS6 hf2) ?_
      rintro _ w7 ⟨rfl, hS7⟩
      refine ⟨_, _, rfl, fun w' => w' = w7, ⟨fun b w' => b = false ∧ w' = w7, sel_false (by simp) ⟨rfl, rfl, rfl⟩, ?_⟩, ?_⟩
      · rintro d1 _ _ ⟨rfl, rfl⟩
        exact sel_false rfl ⟨rfl, rfl⟩
      · rintro d2 w7 rfl
        exact sel_false rfl ⟨rfl, r - 1, by omega, i + 1, xs, rfl, by omega, by omega, hS7⟩
  · have hn8 := (ppRead hS).1
    refine ⟨fun b w' => b = true ∧ ∃ m, m ≤ 1500001 ∧ St [] w w' (PP (.slice A8 n8 c8) xs m), ⟨I2 w n1 A8 n8 c8 xs, ⟨n1, rfl, 0, rfl, by omega, hS⟩, ?_⟩, ?_⟩
    · clear hS
      rintro d3 _ x17 w13 r1 ⟨rfl, i2, rfl, hir2, hS⟩
      have out : ([.slice A0 n0 c0] : List Value) = [.slice A0 n0 c0] := rfl
      refine sel_of (fun hd2 => sel_of (fun hp => sel_true rfl ?_) (fun _ => ⟨rfl, rfl, _, by omega, hS⟩)) (fun _ => ⟨rfl, rfl, _, by omega, hS⟩)
      have hi : i2 < n1 := by have := of_decide_eq_true hd2; omega
      have hp : 0 < n8 := by have := of_decide_eq_true hp; omega
      have hi1 : IntKind.i64.wrap ((i2 : Int) + 1) = ((i2 + 1 : Nat) : Int) := by rw [i64_id (by omega) (by omega)]; omega
      have e0 : (i2 : Int).toNat = i2 := Int.toNat_natCast i2
      obtain ⟨b, o, rfl, hc⟩ := h1.2.2 (by omega)
      obtain ⟨k1, k2, k3, k4⟩ := hc i2 hi
      have hzr := h1.2.1 (ops.getD i2 (0, 0, 0, 0)) (by have := h1.1; rw [List.getD_eq_getElem?_getD, List.getElem?_eq_getElem (by omega)]; exact List.getElem_mem _)
      generalize ops.getD i2 (0, 0, 0, 0) = op at *
      obtain ⟨p0, p1, p2, p3⟩ := op
      dsimp only at k1 k2 k3 k4 hzr
      have har := LW.atI_range p1 (n := n8) hp
      obtain ⟨j, hj⟩ : ∃ q : Nat, LW.atI p1 n8 = (q : Int) := ⟨(LW.atI p1 n8).toNat, by omega⟩
      have hat : ∀ w', St [] w w' (PP (.slice A8 n8 c8) xs (1 + i2)) → Calls Try.prog 19 #[.int .i64 p1, .int .i64 (n8 : Int)] w'.drew fun e w2 => e = .returned (.int .i64 (j : Int)) ∧ St [] w w2 (PP (.slice A8 n8 c8) xs (1 + i2)) := by
        intro w' h
        have := h.drew.step0 (LW.at_ w'.drew p1 (n := n8) hp (by omega))
        rw [hj] at this
        exact this
      rw [hj] at har
      refine ⟨fun b w' => b = true ∧ St [] w w' (PP (.slice A8 n8 c8) xs (1 + i2 + 1)), ⟨by omega, by omega, needPtr_of rfl ⟨by omega, by omega, needPtr_of rfl ⟨_, by rw [e0]; exact hS.frame.cell k2, ?_, ⟨_, by rw [e0]; exact hS.frame.cell k1, _, by rw [e0]; exact hS.frame.cell k2, _, by rw [e0]; exact hS.frame.cell k3, _, by rw [e0]; exact hS.frame.cell k4, ?_⟩, trivial⟩⟩⟩, ?_⟩
      · refine Calls.mono (hat _ hS) ?_
        rintro _ w14 ⟨rfl, hS14⟩
        obtain ⟨bb, oo, hA, hcc⟩ := (ppRead hS14).2 hp
        refine ⟨_, rfl, har.1, har.2, needPtr_of hA ⟨_, by rw [Int.toNat_natCast]; exact hcc j (by omega), _, by rw [e0]; exact hS14.frame.cell k1, _, by rw [e0]; exact hS14.frame.cell k2, _, by rw [e0]; exact hS14.frame.cell k3, _, by rw [e0]; exact hS14.frame.cell k4, ?_⟩⟩
        refine Calls.mono (oneS hS14 (by omega) (by omega) p0 p1 p2 p3 hzr.2) ?_
        rintro _ w15 ⟨rfl, hS15⟩
        exact ⟨_, rfl, rfl, rfl, hS15⟩
      · refine Calls.mono (hat _ hS) ?_
        rintro _ w14 ⟨rfl, hS14⟩
        obtain ⟨bb, oo, hA, hcc⟩ := (ppRead hS14).2 hp
        refine ⟨_, rfl, har.1, har.2, needPtr_of hA ⟨_, by rw [Int.toNat_natCast]; exact hcc j (by omega), ?_⟩⟩
        refine Calls.mono (oneS hS14 (by omega) (by omega) p0 p1 p2 p3 hzr.2) ?_
        rintro _ w15 ⟨rfl, hS15⟩
        exact ⟨_, rfl, rfl, rfl, hS15⟩
      · rintro d4 _ w18 ⟨rfl, hS18⟩
        rw [hi1]
        exact ⟨rfl, r1 - 1, by omega, rfl, i2 + 1, rfl, by omega, hS18⟩
    · clear hS
      rintro d5 _ w19 ⟨rfl, m, hm, hS⟩
      refine ⟨I3 w A8 n8 c8 xs m, ⟨_, rfl, 0, rfl, Nat.zero_add _, hS⟩, ?_⟩
      clear hS
      rintro d6 _ x18 w20 r2 ⟨rfl, i, rfl, hir, hS⟩
      refine sel_of (fun hd => sel_true rfl ?_) (fun _ => ⟨rfl, hS.frame⟩)
      have hi : i < n8 := by have := of_decide_eq_true hd; omega
      have hi1 : IntKind.i64.wrap ((i : Int) + 1) = ((i + 1 : Nat) : Int) := by rw [i64_id (by omega) (by omega)]; omega
      obtain ⟨bb, oo, hA, hcc⟩ := (ppRead hS).2 (by omega)
      have hci := hcc i hi
      rw [hi1]
      obtain ⟨F, hF, hg⟩ := hS.graft (i + 1) (pp_get (by omega))
      generalize hqe : xs.getD i 0 = q at *
      obtain ⟨x, hx, hX⟩ := openP (St.start1 hF)
      have hpos := hx.pos
      have hlen := hx.len
      have hk := hx.k
      have hl := hx.l
      obtain ⟨y, y1, y2, y3, hR⟩ := openR (hX.sel [3, 0, 1, 2] (by decide) [rX x, qC q x, aX x, tX x] rfl)
      have hLl : x.L.length ≤ 4000 := by
        have := y1.tiled.len
        omega
      have hn1 := (rdI hR 1 rfl).1
      refine ⟨by omega, by omega, needPtr_of hA ⟨_, by rw [Int.toNat_natCast]; exact hci, needPtr_of rfl (needPtr_of rfl ⟨_, (hR.blk 3 rfl).cell rfl, _, (hR.blk 3 rfl).cell rfl, needPtr_of rfl ⟨_, _, _, (hR.blk 0 rfl).cell rfl, ?_⟩⟩)⟩⟩
      have hW := wordsS hR.drew 4 rfl (by omega)
      rw [← hn1] at hW
      refine Calls.mono hW ?_
      rintro _ w21 ⟨A2, n2, c2, rfl, hS21⟩
      refine ⟨_, _, _, _, rfl, sel_true (by simp) (needPtr_of rfl ⟨_, (hS21.blk 4 rfl).cell rfl, needPtr_of rfl ⟨_, _, _, (hS21.blk 1 rfl).cell rfl, ?_⟩⟩)⟩
      refine Calls.mono (hS21.drew.step0 (sameI (rdI hS21.drew 0 rfl) (rdI hS21.drew 2 rfl) (by omega))) ?_
      rintro _ w22 ⟨rfl, hS22⟩
      refine ⟨_, rfl, sel_true rfl (needPtr_of rfl (needPtr_of rfl ⟨_, (hS22.blk 4 rfl).cell rfl, ?_⟩))⟩
      have hS22 := (closeR (k := x.k) (L := x.L) y y1 y2 y3 hS22.tail).sel [1, 2, 3, 0] (by decide) [qC q x, aX x, tX x, rX x] rfl
      refine ⟨?_, ⟨_, (hS22.blk 0 rfl).cell rfl, ?_⟩, trivial⟩
      all_goals
        refine Calls.mono (blocksS hS22 1 rfl (by omega) (by omega) (by omega) (by omega)) ?_
        rintro _ w23 ⟨A3, n3, c3, rfl, hS23⟩
        have hS23 : St F w20 w23 [slC (.slice A3 n3 c3) x.L, qC q x, arC x.a x.mb x.gb (.slice x.A x.n x.c) 0 (x.st : Int) x.ws x.L (x.k + 1), tX x, rX x] := hS23
        refine ⟨_, _, _, rfl, ?_⟩
        repeat' (first | refine Calls.mono (rBlocksS hS23 4 rfl (by omega)) ?_ | refine ⟨_, (hS23.blk 1 rfl).cell rfl, ?_⟩ | fail)
        rintro _ w24 ⟨A4, n4, c4, rfl, hS24⟩
        refine ⟨_, _, _, rfl, ?_⟩
        refine Calls.mono (hS24.step0 (sameC (rdB hS24 1 rfl) (rdB hS24 0 rfl) hLl)) ?_
        rintro _ w25 ⟨rfl, hS25⟩
        refine ⟨_, rfl, sel_true rfl (needPtr_of rfl (needPtr_of rfl ⟨_, (hS25.blk 2 rfl).cell rfl, ?_⟩))⟩
        have hS25 := hS25.tail.tail
        refine ⟨?_, ⟨_, (hS25.blk 0 rfl).cell rfl, ?_⟩, trivial⟩
      all_goals
        refine Calls.mono (liveS hS25 1 rfl) ?_
        rintro _ w26 ⟨rfl, hS26⟩
        refine ⟨_, rfl, ?_⟩
        repeat' (first | refine Calls.mono (rLive hS26 3 rfl (by omega)) ?_ | refine ⟨_, (hS26.blk 0 rfl).cell rfl, ?_⟩ | fail)
        rintro _ w27 ⟨rfl, hS27⟩
        refine ⟨_, rfl, sel_true (by simp) (needPtr_of rfl (needPtr_of rfl ⟨_, (hS27.blk 0 rfl).cell rfl, ?_⟩))⟩
        refine ⟨?_, ⟨_, (hS27.blk 0 rfl).cell rfl, ?_⟩, trivial⟩
      all_goals
        refine Calls.mono (traceS hS27 1 2 rfl rfl (by omega) hx.nil) ?_
        rintro _ w28 ⟨A5, c5, rfl, hf28⟩
        have hS28 := hS27.go hf28
        refine ⟨_, _, _, rfl, ?_⟩
        first
          | refine ⟨_, (hS28.blk 0 rfl).cell rfl, sel_true (by simp) (needPtr_of rfl ⟨_, (hS28.blk 0 rfl).cell rfl, ?_⟩)⟩
          | refine sel_true (by simp) (needPtr_of rfl ⟨_, (hS28.blk 0 rfl).cell rfl, ?_⟩)
        refine Calls.mono (hS28.step0 (badS hS28 1 rfl)) ?_
        rintro _ w29 ⟨rfl, hS29⟩
        refine ⟨_, rfl, rfl, r2 - 1, by omega, rfl, i + 1, rfl, by omega, ?_⟩
        obtain ⟨z, z1, z2, z3, h9⟩ := openR (hS29.sel [3, 0, 1, 2] (by decide) [rX x, qC q x, arC x.a x.mb x.gb (.slice x.A x.n x.c) 0 (x.st : Int) x.ws x.L (x.k + 1), tX x] rfl)
        have h10 := (closeR (k := x.k + 1) z z1 z2 (by omega) h9).sel [1, 2, 3, 0] (by decide) [qC q { x with k := x.k + 1 }, aX { x with k := x.k + 1 }, tX { x with k := x.k + 1 }, rX { x with k := x.k + 1 }] rfl
        have h11 := closeP (m := m + (i + 1)) { x with k := x.k + 1 } ⟨hpos, hlen, by show x.k + 1 ≤ _; omega, by show x.l.length ≤ _; omega, hx.nil⟩ h10
        have h12 := hg (M := []) h11
        rw [List.nil_append, ← hqe] at h12
        exact pp_up (by omega) (by omega) h12
theorem exact {w : World} {A0 : Option Addr} {n0 c0 : Nat} {A1 : Option Addr} {n1 c1 : Nat} {ss : List (Int × Int)} {ops : List Op4} (h0 : InS w A0 n0 ss) (hn0 : n0 ≤ 1500000) (h1 : InO w A1 n1 ops) (hn1 : n1 ≤ 1500000) :
    Calls Try.prog 10 #[.slice A0 n0 c0, .slice A1 n1 c1] w fun e w' => e = .returned (.bool true) ∧ Fr [] w w' := by
  refine Calls.mono (f10.calls (R := fun v w' => v = .bool true ∧ Fr [] w w') (exact_VC h0 hn0 h1 hn1)) ?_
  rintro e w' ⟨v, rfl, rfl, h⟩; exact ⟨rfl, h⟩
end PR
end Go.Proofs.Ytebahglmdifmpaa
