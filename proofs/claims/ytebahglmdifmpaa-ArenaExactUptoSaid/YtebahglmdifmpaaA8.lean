/- Stores into an arena's words: the trace grows. -/
import Derived.Test.YtebahglmdifmpaaS3
import Derived.Test.YtebahglmdifmpaaR5
set_option linter.unusedVariables false
set_option linter.unusedSimpArgs false
set_option maxRecDepth 10000
namespace Go.Proofs.Ytebahglmdifmpaa
open Go Go.Proofs.Ytebahglmdifmpaa.Vc
namespace PA
abbrev Acc := Int × Int × Int × Int × Bool
def encA (x : Acc) : List Value := [.int .i8 x.1, .int .i64 x.2.1, .int .i64 x.2.2.1, .int .i64 x.2.2.2.1, .bool x.2.2.2.2]
abbrev trC (v : Value) (l : List Acc) : Chunk := Chunk.sl 158 5 v (l.map encA)
theorem info158 : ∃ i, Try.prog.info? 158 = some i ∧ i.zero = some (.agg #[.int .i8 0, .int .i64 0, .int .i64 0, .int .i64 0, .bool false]) ∧ i.size = 5 ∧ i.bytes = 40 := ⟨Try.prog.types[158]!, by kernel_rfl, by kernel_rfl, by kernel_rfl, by kernel_rfl⟩
theorem under112 : Try.prog.underlying 112 = some (.slice 158) := by kernel_rfl
section
variable {S : List Nat} {w0 w : World} {K : List Chunk} {a mb gb : Nat} {tr : Value} {bad st : Int} {ws : List Int} {L : List B} {k : Nat}
theorem memT (h : St S w0 w K) (i : Nat) (hi : K[i]? = some (arC a mb gb tr bad st ws L k)) : w.cell? ⟨mb, 1, none⟩ = some tr ∧ w.cell? ⟨mb, 2, none⟩ = some (.int .i64 bad) := by
  obtain ⟨F, ⟨⟨es, came, out⟩, hO, hA⟩, _⟩ := h.at i hi
  obtain ⟨hb, mp, FH, h1, h2, _⟩ := hA
  exact ⟨h2.1.cell rfl, h2.1.cell rfl⟩
/-- A word is written. -/
theorem wordSet (h : St S w0 w K) (i : Nat) (hi : K[i]? = some (arC a mb gb tr bad st ws L k)) {j : Nat} (hj : j < ws.length) (v : Int) :
    canStore w gb (0 + (j : Int).toNat * 1) 1 ∧ St S w0 (setCs w gb (0 + (j : Int).toNat * 1) [.int .i64 v]) (K.set i (arC a mb gb tr bad st (ws.set j v) L k)) := by
  obtain ⟨F, ⟨⟨es, came, out⟩, hO, hA⟩, _, k3⟩ := h.at i hi
  dsimp only at hO hA
  obtain ⟨hb, mp, FH, ⟨_, _, _, hM, hMp, _⟩, _, p3, _⟩ := hA.parts
  obtain ⟨s1, s2, s3⟩ := CM.set_ok hM hj v
  obtain ⟨q1, q2⟩ := p3 w _ out (ws.set j v) (Fr.refl _ _) hMp s3 s2
  exact ⟨s1, k3 (F' := F) q2 ⟨(es, came, out), ⟨hO.free, hO.out, by rw [List.length_set]; exact hO.tiled, hO.apart, hO.c0, hO.c1⟩, q1⟩ (fun x hx => .inl hx)⟩
/-- Another trace. -/
theorem traceSet (h : St S w0 w K) (i : Nat) (hi : K[i]? = some (arC a mb gb tr bad st ws L k)) (v : Value) :
    canStore w mb 1 1 ∧ St S w0 (setCs w mb 1 [v]) (K.set i (arC a mb gb v bad st ws L k)) := by
  obtain ⟨F, ⟨⟨es, came, out⟩, hO, hA⟩, _, k3⟩ := h.at i hi
  dsimp only at hO hA
  obtain ⟨hb, mp, FH, h1, h2, h3, h4, h5, h6, rfl⟩ := hA
  have hn := h5
  simp only [List.nodup_cons, List.mem_cons, List.not_mem_nil, or_false, not_or, not_false_eq_true, List.nodup_nil, and_true] at hn
  obtain ⟨⟨n1, n2, n3⟩, ⟨n4, n5⟩, n6⟩ := hn
  have hF : Fr [mb] w (setCs w mb 1 [v]) := (Fr.refl _ w).set (.inl (by simp))
  refine ⟨h2.1.can (by simp), k3 (F' := [a, mp, mb, gb] ++ FH) (hF.mono (by simp)) ⟨(es, came, out), hO, hb, mp, FH, hF.blk h1 (by simp [n2]), ⟨h2.1.set [v] 1, h2.2.1, h2.2.2.fr hF (by simp [Ne.symm n6])⟩, h3.fr hF (fun x hx => by have := h6 x hx; simp at this; simp [this]), h4.fr hF (by simp [n4]), h5, h6, rfl⟩ (fun x hx => .inl hx)⟩
theorem storeS {A : Option Addr} {n c : Nat} {l : List Acc} (h : St S w0 w K) (i t : Nat) (hit : i ≠ t) (hi : K[i]? = some (arC a mb gb (.slice A n c) bad st ws L k)) (ht : K[t]? = some (trC (.slice A n c) l)) (hl : l.length ≤ 4000000) (hlen : ws.length ≤ 4000) {j : Nat} (hj : j < ws.length) (hp : ws.getD j 0 ≠ POISON) (v : Int) :
    Calls Try.prog 83 #[.pointer (some ⟨mb, 0, none⟩), .int .i64 (j : Int), .int .i64 v] w fun e w' => e = .returned (.int .i64 0) ∧ ∃ A' n' c' x, St S w0 w' ((K.set i (arC a mb gb (.slice A' n' c') bad st (ws.set j v) L k)).set t (trC (.slice A' n' c') (l ++ [x]))) := by
  refine Calls.mono (f83.calls (R := fun y w' => y = .int .i64 0 ∧ ∃ A' n' c' x, St S w0 w' ((K.set i (arC a mb gb (.slice A' n' c') bad st (ws.set j v) L k)).set t (trC (.slice A' n' c') (l ++ [x])))) ?_) ?_
  · dsimp only [f83.VC]
    obtain ⟨m1, m2⟩ := memS h i hi
    refine Calls.mono (f93.calls (R := fun y w' => y = .tuple #[.int .i64 (ws.getD j 0), .int .i64 0] ∧ w' = w) ?_) ?_
    · dsimp only [f93.VC]
      refine sel_false (decide_eq_false (by omega)) ⟨_, _, _, m1, sel_false (decide_eq_false (by omega)) ⟨_, _, _, m1, by omega, by omega, needPtr_of rfl ⟨_, m2 j hj, sel_false (beq_eq_false_iff_ne.2 hp) ⟨_, _, _, m1, by omega, by omega, needPtr_of rfl ⟨_, m2 j hj, rfl, rfl⟩⟩⟩⟩⟩
    rintro _ w1 ⟨_, rfl, rfl, rfl⟩
    obtain ⟨s1, s2⟩ := wordSet h i hi hj v
    refine ⟨_, _, rfl, sel_true rfl ⟨_, _, _, m1, by omega, by omega, needPtr_of rfl ⟨s1, ?_⟩⟩⟩
    generalize setCs w1 gb (0 + (j : Int).toNat * 1) [.int .i64 v] = w2 at *
    have hil : i < K.length := (List.getElem?_eq_some_iff.1 hi).1
    have htl : t < K.length := (List.getElem?_eq_some_iff.1 ht).1
    have hi2 : (K.set i (arC a mb gb (.slice A n c) bad st (ws.set j v) L k))[i]? = some (arC a mb gb (.slice A n c) bad st (ws.set j v) L k) := by rw [List.getElem?_set_self hil]
    have ht2 : (K.set i (arC a mb gb (.slice A n c) bad st (ws.set j v) L k))[t]? = some (trC (.slice A n c) l) := by rw [List.getElem?_set_ne hit]; exact ht
    obtain ⟨K2, hK2⟩ : ∃ K2, K2 = K.set i (arC a mb gb (.slice A n c) bad st (ws.set j v) L k) := ⟨_, rfl⟩
    rw [← hK2] at hi2 ht2 s2
    refine Calls.mono (f94.calls (R := fun y w' => y = .tuple #[] ∧ ∃ A' n' c' x, St S w0 w' ((K2.set i (arC a mb gb (.slice A' n' c') bad st (ws.set j v) L k)).set t (trC (.slice A' n' c') (l ++ [x])))) ?_) ?_
    · dsimp only [f94.VC]
      have h3 := s2.alloc #[.int .i8 2, .int .i64 (j : Int), .int .i64 v, .int .i64 (ws.getD j 0), .bool true] 158
      refine ⟨_, _, _, (memT h3 (i + 1) (by simpa using hi2)).1, _, (h3.blk 0 rfl).cell rfl, _, (h3.blk 0 rfl).cell rfl, _, (h3.blk 0 rfl).cell rfl, _, (h3.blk 0 rfl).cell rfl, _, (h3.blk 0 rfl).cell rfl, ?_⟩
      have h4 := h3.tail.drew.alloc #[.int .i8 2, .int .i64 (j : Int), .int .i64 v, .int .i64 (ws.getD j 0), .bool true] 158
      obtain ⟨bi, b1, b2, b3, b4⟩ := info158
      obtain ⟨g', cap', w', hrun, h5⟩ := h4.append (P := Try.prog) (ty := 112) (r := encA (2, (j : Int), v, ws.getD j 0, true)) (t + 1) under112 b1 b2 b3 rfl (by decide) (by simpa using ht2) (h4.blk 0 rfl) rfl rfl
        (by intro u hu; simp [encA] at hu; rcases hu with rfl | rfl | rfl | rfl | rfl <;> rfl) (by rw [b4]; simp; omega) (by simp [maxLen]; omega)
      have h6 := h5.tail
      have hi6 : (K2.set t (Chunk.sl 158 5 (.slice (some ⟨g', 0, none⟩) ((l.map encA).length + 1) cap') (l.map encA ++ [encA (2, (j : Int), v, ws.getD j 0, true)])))[i]? = some (arC a mb gb (.slice A n c) bad st (ws.set j v) L k) := by rw [List.getElem?_set_ne (Ne.symm hit)]; exact hi2
      obtain ⟨q1, q2⟩ := traceSet h6 i hi6 (.slice (some ⟨g', 0, none⟩) ((l.map encA).length + 1) cap')
      refine ⟨_, _, _, _, hrun, q1, rfl, some ⟨g', 0, none⟩, (l.map encA).length + 1, cap', (2, (j : Int), v, ws.getD j 0, true), ?_⟩
      rw [List.set_comm _ _ hit]
      have e : (l ++ [((2, (j : Int), v, ws.getD j 0, true) : Acc)]).map encA = l.map encA ++ [encA (2, (j : Int), v, ws.getD j 0, true)] := by simp
      simp only [trC]
      rw [e]
      exact q2
    · rintro e w' ⟨y, rfl, rfl, A', n', c', x, h9⟩
      rw [hK2, List.set_set] at h9
      exact ⟨rfl, rfl, A', n', c', x, h9⟩
  · rintro e w' ⟨y, rfl, rfl, h9⟩
    exact ⟨rfl, h9⟩
end
end PA
end Go.Proofs.Ytebahglmdifmpaa
