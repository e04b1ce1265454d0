/- ArenaHeapSorts: the walk. -/
import Derived.Test.YtebahglmdifmpaaL5
set_option linter.unusedVariables false
set_option linter.unusedSimpArgs false
set_option maxRecDepth 10000
namespace Go.Proofs.Ytebahglmdifmpaa
open Go Go.Proofs.Ytebahglmdifmpaa.Vc
namespace LS
theorem info4 : ∃ i, Try.prog.info? 4 = some i ∧ i.zero = some (.bool false) ∧ i.size = 1 ∧ i.bytes = 1 := ⟨Try.prog.types[4]!, by kernel_rfl, by kernel_rfl, by kernel_rfl, by kernel_rfl⟩
theorem under61 : Try.prog.underlying 61 = some (.slice 4) := by kernel_rfl
abbrev two (q : Int × Int) : List Value := [.int .i64 q.1, .int .i64 q.2]
abbrev flagsC (v : Value) (fl : List Bool) : Chunk := Chunk.sl 4 1 v (fl.map fun f => [Value.bool f])
def I1 (w : World) (a c : Nat) (l : List Int) (mod : Int) (b : Bool) (x : Int) (w' : World) (r : Nat) : Prop :=
  b = true ∧ ∃ (k : Nat) (es : List ((Int × Int) × Int)), x = (k : Int) ∧ k + r = l.length ∧ Heaped l mod k es ∧ St [] w w' [heap a c es k, modC c mod]
def I2 (w : World) (a c : Nat) (l : List Int) (mod : Int) (es : List ((Int × Int) × Int)) (A : Option Addr) (n cp : Nat) (x : Int) (w' : World) (r : Nat) : Prop :=
  ∃ k : Nat, x = (k : Int) ∧ k + r = l.length ∧ St [] w w' [flagsC (.slice A n cp) (List.replicate k false), heap a c es l.length, modC c mod]
def I3 (w : World) (a c lb : Nat) (l : List Int) (mod : Int) (A : Option Addr) (n cp : Nat) (b : Bool) (x : Int) (w' : World) (r : Nat) : Prop :=
  b = true ∧ ∃ (k : Nat) (es : List ((Int × Int) × Int)) (q : Int × Int) (fl : List Bool), x = (k : Int) ∧ k + r = l.length ∧ Popping l mod k es q fl ∧
    St [] w w' [Chunk.blk lb (two q).toArray 30, flagsC (.slice A n cp) fl, heap a c es l.length, modC c mod]
theorem sorts {w : World} {A0 : Option Addr} {n0 c0 : Nat} {mod : Int} {l : List Int} (h0 : LW.InI w A0 n0 l) (hn0 : n0 ≤ 2000000) :
    Calls Try.prog 5 #[.slice A0 n0 c0, .int .i64 mod] w fun e w' => e = .returned (.bool true) ∧ Fr [] w w' := by
  refine Calls.mono (f5.calls (R := fun v w' => v = .bool true ∧ Fr [] w w') ?_) ?_
  · dsimp only [f5.VC]
    have hlen := h0.1
    have hS1 := (St.start w).alloc #[.int .i64 mod] 3
    generalize World.alloc w (.cells #[.int .i64 mod] 3) = w1 at *
    refine Calls.mono (hS1.step0 (LV.lively _)) ?_
    rintro _ w2 ⟨rfl, hS2⟩
    refine ⟨_, rfl, ?_⟩
    refine Calls.mono (newPair w2 30 _) ?_
    rintro _ w3 ⟨rfl, hH3, hF3⟩
    refine ⟨_, rfl, sel_false rfl ?_⟩
    have hS3 := hS2.new (c := heap w2.heap.size w.heap.size [] 0) hF3 hH3 (by simp)
    generalize hc : w.heap.size = c at *
    generalize ha : w2.heap.size = a at *
    refine ⟨I1 w a c l mod, ⟨l.length, rfl, 0, [], rfl, by omega, ⟨by simp, by intro i h1 h2; simp at h2⟩, hS3⟩, ?_⟩
    rintro _ b x7 w5 r ⟨rfl, k, es, rfl, hkr, hP, hS⟩
    have hes := hP.len
    have k0 : (0 : Int) ≤ (k : Int) := by omega
    refine sel_of ?_ ?_
    · intro hd
      have hk : k < l.length := by rw [hlen] at hd; simpa using hd
      obtain ⟨bb, oo, rfl, hcs⟩ := h0.2 (by omega)
      have k1 : (k : Int) < (n0 : Int) := by omega
      have hk1 : IntKind.i64.wrap ((k : Int) + 1) = ((k + 1 : Nat) : Int) := by rw [i64_id (by omega) (by omega)]; omega
      have hck : ∀ w', Fr [] w w' → w'.cell? ⟨bb, oo + (k : Int).toNat * 1, none⟩ = some (.int .i64 (l.getD k 0)) := by
        intro w' hf
        refine hf.cell ?_
        rw [Int.toNat_natCast, Nat.mul_one]; exact hcs k (by omega)
      refine ⟨k0, k1, needPtr_of rfl ⟨_, hck _ hS.frame, ?_⟩⟩
      refine Calls.mono (push hS 0 1 (by decide) rfl rfl (by omega) k0 (by omega) (l.getD k 0, (k : Int))) ?_
      rintro _ w6 ⟨rfl, hS6⟩
      refine ⟨rfl, ?_⟩
      have hP6 := hP.push
      obtain ⟨j, hj, hhd, hle⟩ := hP6.head
      have hlen6 := hP6.len
      refine Calls.mono (peek hS6 0 rfl) ?_
      rintro _ w7 ⟨rfl, hS7⟩
      rw [show HeapPlain.push HP.d (AH mod) es ((l.getD k 0, (k : Int)), (k : Int)) = HeapPlain.push HP.d (AH mod) es (ent l k) from rfl] at *
      have hS7 : St [] w w7 [heap a c (HeapPlain.push HP.d (AH mod) es (ent l k)) ((k + 1 : Nat) : Int), modC c mod] := by simpa using hS7
      generalize HeapPlain.push HP.d (AH mod) es (ent l k) = es6 at *
      rw [hhd]
      refine ⟨_, _, _, rfl, ?_⟩
      have hS8 := hS7.alloc #[.int .i64 0, .int .i64 0] 30
      generalize World.alloc w7 (.cells #[.int .i64 0, .int .i64 0] 30) = w8 at *
      refine ⟨(hS8.blk 0 rfl).can (by simp), ?_⟩
      have hS9 := hS8.over 0 rfl (two (l.getD j 0, (j : Int))) rfl
      generalize htb : w7.heap.size = tb at *
      refine sel_true rfl ?_
      refine Calls.mono (len hS9.drew 1 rfl) ?_
      rintro _ w10 ⟨rfl, hS10⟩
      have hT := hS10.blk 0 rfl
      have hM := hS10.blk 2 rfl
      rw [hk1, hlen6]
      refine ⟨_, rfl, sel_true (by simp) (sel_true (by simp) ⟨by omega, by omega, _, hT.cell rfl, sel_true (by simp [ent]) ⟨by omega, by omega, _, hT.cell rfl, sel_true (by simp [ent]; omega) ⟨by omega, by omega, k0, k1, needPtr_of rfl ⟨_, hT.cell rfl, _, hM.cell rfl, ?_⟩⟩⟩⟩)⟩
      have c74 := hck _ hS10.frame
      have c75 : w10.cell? ⟨c, 0, none⟩ = some (.int .i64 mod) := hM.cell rfl
      have hG : Fr [] w10 w10 := Fr.refl _ _
      have fin : ∀ w', Fr [] w10 w' → ∃ m, m < r ∧ I1 w a c l mod (decide (key (l.getD j 0) mod ≤ key (l.getD k 0) mod)) ((k + 1 : Nat) : Int) w' m := by
        intro w' hf
        exact ⟨r - 1, by omega, decide_eq_true hle, k + 1, es6, rfl, by omega, hP6, (hS10.go hf).tail⟩
      repeat' (first
        | exact trivial
        | with_reducible refine ⟨_, c74, ?_⟩
        | with_reducible refine ⟨_, c75, ?_⟩
        | with_reducible refine ⟨_, hG.cell c74, ?_⟩
        | with_reducible refine ⟨_, hG.cell c75, ?_⟩
        | (with_reducible refine ⟨rfl, ?_⟩; exact fin _ hG)
        | with_reducible refine And.intro ?_ ?_
        | (with_reducible refine Calls.mono (key_ _ _ _) ?_
           rintro _ w3 ⟨rfl, hF⟩
           replace hG := hG.trans hF
           refine ⟨_, rfl, ?_⟩))
    · intro hd
      have hk : k = l.length := by
        have : ¬ (k : Int) < (n0 : Int) := by simpa using hd
        omega
      subst hk
      refine ⟨I2 w a c l mod es, ⟨l.length, 0, rfl, by omega, ?_⟩, ?_⟩
      · exact hS.nil 4 1
      rintro _ A10 n10 c10 x11 w20 r1 ⟨k, rfl, hkr, hS⟩
      have hn10 := hS.slLen 0 rfl
      simp only [List.length_map, List.length_replicate] at hn10
      have k0 : (0 : Int) ≤ (k : Int) := by omega
      refine sel_of ?_ ?_
      · intro hd
        have hk : k < l.length := by rw [hlen] at hd; simpa using hd
        have hk1 : IntKind.i64.wrap ((k : Int) + 1) = ((k + 1 : Nat) : Int) := by rw [i64_id (by omega) (by omega)]; omega
        have hS2 := hS.alloc #[.bool false] 4
        obtain ⟨ti, t1, t2, t3, t4⟩ := info4
        obtain ⟨g', cap', w', hrun, hS3⟩ := hS2.append (P := Try.prog) (ty := 61) (r := [.bool false]) 1 under61 t1 t2 t3 rfl (by decide) rfl (hS2.blk 0 rfl) rfl rfl (by simp [Value.oneCell']) (by rw [t4]; simp; omega) (by simp [maxLen]; omega)
        refine ⟨_, _, _, _, hrun, rfl, r1 - 1, by omega, k + 1, hk1, by omega, ?_⟩
        have e : (List.replicate k false).map (fun f => [Value.bool f]) ++ [[Value.bool false]] = (List.replicate (k + 1) false).map (fun f => [Value.bool f]) := by
          rw [List.replicate_succ', List.map_append]; rfl
        have hS4 := hS3.tail
        simp only [flagsC]
        rw [← e]
        exact hS4
      · intro hd
        have hk : k = l.length := by
          have : ¬ (k : Int) < (n0 : Int) := by simpa using hd
          omega
        subst hk
        have hS2 := hS.alloc #[.int .i64 0, .int .i64 0] 30
        generalize World.alloc w20 (.cells #[.int .i64 0, .int .i64 0] 30) = w23 at *
        refine ⟨(hS2.blk 0 rfl).can (by simp), ?_⟩
        have hS3 := hS2.over 0 rfl (two (0, 0)) rfl
        generalize hlb : w20.heap.size = lb at *
        refine ⟨I3 w a c lb l mod A10 n10 c10, ⟨l.length, rfl, 0, es, (0, 0), _, rfl, by omega, hP.start (0, 0), hS3⟩, ?_⟩
        clear hS hS2 hS3 hP hes
        rintro _ b x13 w25 r2 ⟨rfl, k, es, q, fl, rfl, hkr, hP, hS⟩
        have hn10 := hS.slLen 1 rfl
        simp only [List.length_map] at hn10
        have hes := hP.len
        have hfl := hP.flen
        have k0 : (0 : Int) ≤ (k : Int) := by omega
        refine sel_of ?_ ?_
        · intro hd
          have hk : k < l.length := by rw [hlen] at hd; simpa using hd
          have hk1 : IntKind.i64.wrap ((k : Int) + 1) = ((k + 1 : Nat) : Int) := by rw [i64_id (by omega) (by omega)]; omega
          obtain ⟨j, hj, hhd, hfj, hlast, hP2⟩ := hP.pop hk
          refine sel_true rfl ?_
          refine Calls.mono (pop hS 2 3 (by decide) rfl rfl (by omega)) ?_
          rintro _ w26 ⟨rfl, hS26⟩
          have hpos : 0 < es.length := by omega
          rw [hhd, decide_eq_true hpos]
          refine ⟨l.getD j 0, (j : Int), true, rfl, ?_⟩
          have hS27 := hS26.alloc #[.int .i64 0, .int .i64 0] 30
          generalize World.alloc w26 (.cells #[.int .i64 0, .int .i64 0] 30) = w27 at *
          refine ⟨(hS27.blk 0 rfl).can (by simp), ?_⟩
          have hS28 := (hS27.over 0 rfl (two (l.getD j 0, (j : Int))) rfl)
          generalize htb : w26.heap.size = tb at *
          have hT := hS28.blk 0 rfl
          obtain ⟨g, hg, hgc⟩ := hS28.slGet 2 rfl (by simp; omega)
          subst hg
          obtain ⟨bb, oo, rfl, hcs⟩ := h0.2 (by omega)
          have j0 : (0 : Int) ≤ (j : Int) := by omega
          have j1 : (j : Int) < (n10 : Int) := by omega
          have j2 : (j : Int) < (n0 : Int) := by omega
          have ej : 0 + (j : Int).toNat * 1 = j * 1 := by simp
          have cf : _ = some (Value.bool false) := hgc j 0 (.bool false) (by simp; omega) (by decide) (by
            have : (fl.map fun f => [Value.bool f]).getD j [] = [Value.bool false] := by
              have h2 : fl[j]? = some false := by
                have : j < fl.length := by omega
                rw [List.getD_eq_getElem?_getD, List.getElem?_eq_getElem this] at hfj
                rw [List.getElem?_eq_getElem this]
                simpa using hfj
              simp [List.getD_eq_getElem?_getD, h2]
            rw [this]; rfl)
          rw [Nat.add_zero] at cf
          have hcj := hS28.frame.cell (hcs j (by omega))
          rw [show oo + j = oo + (j : Int).toNat * 1 by simp] at hcj
          rw [← ej] at cf
          have hjn : ¬ (n0 : Int) ≤ (j : Int) := by omega
          refine sel_false rfl ⟨by omega, by omega, _, hT.cell rfl, sel_false (by simp [ent]) ⟨by omega, by omega, _, hT.cell rfl, sel_false (by simp [ent]; omega) ⟨by omega, by omega, _, hT.cell rfl, j0, j1, needPtr_of rfl ⟨_, cf, sel_false rfl ?_⟩⟩⟩⟩
          refine ⟨by omega, by omega, by omega, by omega, _, hT.cell rfl, _, hT.cell rfl, j0, j2, needPtr_of rfl ⟨_, hcj, sel_false (by simp [ent]) ⟨by omega, by omega, _, hT.cell rfl, j0, j1, needPtr_of rfl ?_⟩⟩⟩
          obtain ⟨g', hg', hset⟩ := hS28.drew.slSet 2 rfl (k := j) (by simp; omega)
          injection hg' with hg'
          injection hg' with hg'
          subst hg'
          obtain ⟨hcan, hS29⟩ := hset [.bool true] rfl
          rw [← ej] at hcan hS29
          refine ⟨hcan, ?_⟩
          have hfm : (fl.map fun f => [Value.bool f]).set j [.bool true] = (fl.set j true).map fun f => [Value.bool f] := by rw [List.map_set]
          have hS29 : St [] w (setCs (setCs w27 tb 0 (two (l.getD j 0, (j : Int)))).drew g (0 + (j : Int).toNat * 1) [.bool true]) [Chunk.blk tb (two (l.getD j 0, (j : Int))).toArray 30, Chunk.blk lb (two q).toArray 30, flagsC (.slice (some ⟨g, 0, none⟩) n10 c10) (fl.set j true), heap a c (HeapPlain.popped HP.d (AH mod) es) l.length, modC c mod] := by
            simp only [flagsC]
            rw [← hfm]
            exact hS29
          generalize setCs (setCs w27 tb 0 (two (l.getD j 0, (j : Int)))).drew g (0 + (j : Int).toNat * 1) [.bool true] = w29 at *
          have hB := hS29.blk 1 rfl
          have hM := hS29.blk 4 rfl
          refine ⟨by omega, by omega, _, hB.cell rfl, _, hM.cell rfl, ?_⟩
          refine Calls.mono (hS29.step0 (key_ _ _ _)) ?_
          rintro _ w30 ⟨rfl, hS30⟩
          refine ⟨_, rfl, by omega, by omega, _, (hS30.blk 0 rfl).cell rfl, _, (hS30.blk 4 rfl).cell rfl, ?_⟩
          refine Calls.mono (hS30.step0 (key_ _ _ _)) ?_
          rintro _ w31 ⟨rfl, hS31⟩
          refine ⟨_, rfl, ?_⟩
          have hT := hS31.blk 0 rfl
          have hB := hS31.blk 1 rfl
          have hS32 := hS31.over 1 rfl (two (l.getD j 0, (j : Int))) rfl
          rw [hk1]
          have fin : ∃ m, m < r2 ∧ I3 w a c lb l mod (some ⟨g, 0, none⟩) n10 c10 true ((k + 1 : Nat) : Int) (setCs w31 lb 0 (two (l.getD j 0, (j : Int)))) m :=
            ⟨r2 - 1, by omega, rfl, k + 1, _, _, _, rfl, by omega, hP2, hS32.tail⟩
          refine sel_of ?_ ?_
          · intro _
            exact ⟨_, hT.cell rfl, _, hT.cell rfl, hB.can (by simp), rfl, fin⟩
          · intro hk0
            have hk0 : 0 < k := by
              have : ¬ (k : Int) = 0 := by simpa using hk0
              omega
            refine sel_of ?_ ?_
            · intro _
              exact ⟨_, hT.cell rfl, _, hT.cell rfl, hB.can (by simp), rfl, fin⟩
            · intro hlt
              have hlt : ¬ key q.1 mod < key (l.getD j 0) mod := by simpa using hlt
              obtain ⟨h1, h2⟩ := (hlast hk0).resolve_left hlt
              refine sel_true (by simpa using h1) ⟨by omega, by omega, _, hB.cell rfl, by omega, by omega, _, hT.cell rfl, _, hT.cell rfl, _, hT.cell rfl, hB.can (by simp), rfl, ?_⟩
              rw [decide_eq_true h2]
              exact fin
        · intro hd
          have hk : k = l.length := by
            have : ¬ (k : Int) < (n0 : Int) := by simpa using hd
            omega
          subst hk
          have he0 : es = [] := by
            apply List.eq_nil_of_length_eq_zero
            omega
          subst he0
          refine Calls.mono (pop hS 2 3 (by decide) rfl rfl (by simp)) ?_
          rintro _ w26 ⟨rfl, hS26⟩
          refine ⟨_, _, _, rfl, ?_⟩
          have hS27 := hS26.alloc #[.int .i64 0, .int .i64 0] 30
          generalize World.alloc w26 (.cells #[.int .i64 0, .int .i64 0] 30) = w27 at *
          refine ⟨(hS27.blk 0 rfl).can (by simp), ?_⟩
          have hS28 := hS27.over 0 rfl (two (0, 0)) rfl
          refine sel_true rfl (sel_true rfl ?_)
          refine Calls.mono (len hS28 3 rfl) ?_
          rintro _ w29 ⟨rfl, hS29⟩
          exact ⟨_, rfl, rfl, hS29.frame⟩
  · rintro e w' ⟨v, rfl, rfl, h⟩
    exact ⟨rfl, h⟩
end LS
end Go.Proofs.Ytebahglmdifmpaa
