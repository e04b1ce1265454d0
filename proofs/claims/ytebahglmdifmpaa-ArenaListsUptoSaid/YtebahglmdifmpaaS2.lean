/- Several records are appended at once; a list that is gone on with, beside what it was. -/
import Derived.Test.YtebahglmdifmpaaS1
set_option linter.unusedVariables false
set_option linter.unusedSimpArgs false
namespace Go.Proofs.Ytebahglmdifmpaa.Vc
open Go
theorem append_rows {P : Program} {w : World} {t ty e : TypeId} {i : TypeInfo} {z : Value} {s : Nat} {rs : List (List Value)} {v : Value} {news : List (List Value)} {b : Nat} {T' : TypeId}
    (ht : P.underlying t = some (.slice e)) (hi : P.info? e = some i) (hz : i.zero = some z) (hsize : i.size = s) (hzs : z.cells.size = s) (hs : 0 < s)
    (hown : (v = .slice none 0 0 ∧ rs = []) ∨ ∃ g cap, v = .slice (some ⟨g, 0, none⟩) rs.length cap ∧ Row w e s g cap rs)
    (hb : Blk w b news.flatten.toArray T') (hr : ∀ x ∈ news, x.length = s) (h1 : ∀ u ∈ news.flatten, u.oneCell' = true) (hrs : ∀ x ∈ rs, x.length = s) (hm0 : 0 < news.length)
    (hbytes : (rs.length + news.length) * i.bytes ≤ 140737488355328) (hmax : rs.length + news.length ≤ maxLen) :
    ∃ g' cap' w', (Builtin.append_ #[t, t] ty #[v, .slice (some ⟨b, 0, none⟩) news.length news.length]).run P w = .ok (.slice (some ⟨g', 0, none⟩) (rs.length + news.length) cap') w' ∧
      Row w' e s g' cap' (rs ++ news) ∧ ((v = .slice (some ⟨g', 0, none⟩) rs.length cap' ∧ Fr [g'] w w') ∨ (w.heap.size ≤ g' ∧ Fr [] w w')) := by
  have hnl : news.flatten.length = news.length * s := flat_len hr
  have hnews : ∀ (j : Nat) (u : Value), news.flatten[j]? = some u → w.cell? ((⟨b, 0, none⟩ : Addr).add j) = some u := by
    intro j u hu
    have e0 : (⟨b, 0, none⟩ : Addr).add j = ⟨b, j, none⟩ := by simp [Addr.add_lit]
    rw [e0]
    exact hb.cell (by simpa using hu)
  have hl : news.flatten.length = news.length * i.size := by rw [hnl, hsize]
  have hrs' : ∀ x ∈ rs ++ news, x.length = s := by
    intro x hx
    rcases List.mem_append.mp hx with hx | hx
    · exact hrs x hx
    · exact hr x hx
  have hflat : (rs ++ news).flatten = rs.flatten ++ news.flatten := by simp
  have fin : ∀ (v' : Value) (w' : World) (base : Nat), w'.ownsRow base e s v' (rs.length + news.length) (rs.flatten ++ news.flatten) → ∃ g' cap', v' = .slice (some ⟨g', 0, none⟩) (rs.length + news.length) cap' ∧ Row w' e s g' cap' (rs ++ news) ∧ base ≤ g' := by
    intro v' w' base ho
    rcases ho.2 with ⟨_, h⟩ | ⟨g', cap', cur, rfl, hbg, hg, hnc, hcm, hcs, htake⟩
    · omega
    · refine ⟨g', cap', rfl, (Row.ofOwn hs (n := rs.length + news.length) ?_ hrs').1, hbg⟩
      rw [hflat]
      exact ⟨ho.1, .inr ⟨g', cap', cur, rfl, Nat.zero_le _, hg, hnc, hcm, hcs, htake⟩⟩
  rcases hown with ⟨rfl, rfl⟩ | ⟨g, cap, rfl, hR⟩
  · obtain ⟨v', w', hrun, ho, hg, _⟩ := run_append_own (P := P) w w.heap.size t ty e i z s i.bytes ht hi hz hsize rfl hzs hs (.slice none 0 0) 0 [] (World.ownsRow_nil w _ e s) ⟨b, 0, none⟩ news.length news.length news.flatten (by rw [← hsize]; exact hl) hnews h1
      (by simpa using hmax) (by simpa using hbytes) (Nat.le_refl _)
    obtain ⟨g', cap', rfl, hR, hbg⟩ := fin v' w' _ (by simpa using ho)
    have hx := run_append_nil (P := P) w t ty e i z ht hi hz ⟨b, 0, none⟩ news.length news.length news.flatten hl hnews (by omega) (by simp only [maxLen, List.length_nil] at hmax; omega) (by simp only [List.length_nil, Nat.zero_add] at hbytes ⊢; omega)
    have hw : w' = w.drew.alloc (.cells (news.flatten.toArray ++ Builtin.zeroCells z.cells (grownCap w news.length 0 e - news.length)) e) := by
      rw [hx] at hrun; injection hrun with _ h; exact h.symm
    exact ⟨g', cap', w', hrun, hR, .inr ⟨hbg, by rw [hw]; exact (Fr.refl _ w).drew.alloc⟩⟩
  · have hO := hR.toOwn hs
    by_cases hroom : rs.length + news.length ≤ cap
    · obtain ⟨w', hrun, ho, hg⟩ := run_append_fits (P := P) w 0 t ty e i s ht hi hsize g rs.length cap rs.flatten hO ⟨b, 0, none⟩ news.length news.length news.flatten (by rw [← hsize]; exact hl) hnews h1 hroom
      obtain ⟨g', cap', he, hR', _⟩ := fin _ w' _ ho
      simp only [Value.slice.injEq, Option.some.injEq, Addr.mk.injEq, and_true, true_and] at he
      obtain ⟨rfl, rfl⟩ := he
      have hfr : ∀ a, w'.frozen? a = w.frozen? a := by
        obtain ⟨cur, hbk, hcs, _⟩ := hR
        have hx := run_append_room (P := P) w t ty e i ht hi g rs.length cap cur hbk ⟨b, 0, none⟩ news.length news.length news.flatten hl hnews h1 hroom (by
          have : (rs.length + news.length) * s ≤ cap * s := Nat.mul_le_mul_right s hroom
          rw [Nat.add_mul] at this; rw [hsize, hcs, hnl]; omega)
        rw [hx] at hrun
        injection hrun with _ hw
        intro x
        rw [← hw]
        exact frozen_setRow w g _ x
      exact ⟨g, cap, w', hrun, hR', .inl ⟨rfl, Fr.of_grown hg hfr (by simp [Value.ownBlock])⟩⟩
    · have hcap := hR.cap_le
      have hl2 := flat_len hrs
      have holds := hO.cells (g := g) rfl
      have hrun := run_append_grow (P := P) w t ty e i z ht hi hz ⟨g, 0, none⟩ rs.length cap rs.flatten (by rw [hl2, hsize]) holds ⟨b, 0, none⟩ news.length news.length news.flatten hl hnews (by omega) (by simp only [maxLen] at hmax; omega) (growslice_fits (by omega) hbytes)
      have hge := grownCap_ge w (rs.length + news.length) cap e
      refine ⟨_, _, _, hrun, (Row.ofOwn hs (n := rs.length + news.length) ?_ hrs').1, .inr ⟨Nat.le_refl _, (Fr.refl _ w).drew.alloc⟩⟩
      rw [hflat]
      refine ⟨by rw [List.length_append, hl2, hnl, Nat.add_mul], .inr ⟨w.heap.size, _, _, rfl, Nat.zero_le _, Blk.newd, hge, grownCap_le_maxLen w _ cap e hmax, ?_, ?_⟩⟩
      · simp only [Array.size_append, List.size_toArray, size_zeroCells, hzs, hl2, hnl]
        rw [← Nat.add_mul, ← Nat.add_mul]
        congr 1
        omega
      · have : (rs.flatten ++ news.flatten).length = (rs.length + news.length) * s := by rw [List.length_append, hl2, hnl, Nat.add_mul]
        rw [← this]
        simp only [Array.toList_append, List.append_assoc]
        rw [← List.append_assoc]
        exact List.take_left

/-- A list that was gone on with (v, rs), beside what it was (v0, rs0): they may share their block. -/
def Chunk.twin (TE : TypeId) (s : Nat) (v0 : Value) (rs0 : List (List Value)) (v : Value) (rs : List (List Value)) : Chunk where
  holds w F := (∃ g cap, v0 = .slice (some ⟨g, 0, none⟩) rs0.length cap ∧ v = .slice (some ⟨g, 0, none⟩) rs.length cap ∧ rs0 = rs.take rs0.length ∧ F = [g] ∧ Row w TE s g cap rs) ∨
    ∃ F0 F1, F = F0 ++ F1 ∧ (Chunk.sl TE s v0 rs0).holds w F0 ∧ (Chunk.sl TE s v rs).holds w F1 ∧ ∀ x ∈ F0, x ∉ F1
  fr h hf hS := by
    rcases h with ⟨g, cap, h1, h2, h3, rfl, h4⟩ | ⟨F0, F1, rfl, h1, h2, h3⟩
    · exact .inl ⟨g, cap, h1, h2, h3, rfl, h4.fr hf (hS g (by simp))⟩
    · exact .inr ⟨F0, F1, rfl, (Chunk.sl TE s v0 rs0).fr h1 hf (fun x hx => hS x (by simp [hx])), (Chunk.sl TE s v rs).fr h2 hf (fun x hx => hS x (by simp [hx])), h3⟩
  lt h x hx := by
    rcases h with ⟨g, cap, h1, h2, h3, rfl, h4⟩ | ⟨F0, F1, rfl, h1, h2, h3⟩
    · simp at hx; subst hx; exact h4.lt
    · rcases List.mem_append.1 hx with hx | hx
      · exact (Chunk.sl TE s v0 rs0).lt h1 x hx
      · exact (Chunk.sl TE s v rs).lt h2 x hx
theorem twin_of {TE : TypeId} {s : Nat} {v : Value} {rs : List (List Value)} {w : World} {F : List Nat} (h : (Chunk.sl TE s v rs).holds w F) : (Chunk.twin TE s v rs v rs).holds w F := by
  rcases h with ⟨h1, h2, h3⟩ | ⟨g, cap, h1, h2, h3⟩
  · exact .inr ⟨[], [], by simp [h3], .inl ⟨h1, h2, rfl⟩, .inl ⟨h1, h2, rfl⟩, by simp⟩
  · exact .inl ⟨g, cap, h1, h1, by simp, h2, h3⟩
theorem sl_rows {TE : TypeId} {s : Nat} {v : Value} {rs : List (List Value)} {w : World} {F : List Nat} (h : (Chunk.sl TE s v rs).holds w F) : ∀ x ∈ rs, x.length = s := by
  rcases h with ⟨_, rfl, _⟩ | ⟨g, cap, _, _, k2⟩
  · simp
  · obtain ⟨_, _, _, _, _, k, _⟩ := k2; exact k
/-- Both are read. -/
theorem twin_old {TE : TypeId} {s : Nat} {v0 v : Value} {rs0 rs : List (List Value)} {w : World} {F : List Nat} (h : (Chunk.twin TE s v0 rs0 v rs).holds w F) : ∃ F', (Chunk.sl TE s v0 rs0).holds w F' := by
  rcases h with ⟨g, cap, h1, h2, h3, rfl, h4⟩ | ⟨F0, F1, rfl, h1, h2, h3⟩
  · exact ⟨[g], .inr ⟨g, cap, h1, rfl, by rw [h3]; exact h4.take _⟩⟩
  · exact ⟨F0, h1⟩
theorem twin_new {TE : TypeId} {s : Nat} {v0 v : Value} {rs0 rs : List (List Value)} {w : World} {F : List Nat} (h : (Chunk.twin TE s v0 rs0 v rs).holds w F) : ∃ F', (Chunk.sl TE s v rs).holds w F' := by
  rcases h with ⟨g, cap, h1, h2, h3, rfl, h4⟩ | ⟨F0, F1, rfl, h1, h2, h3⟩
  · exact ⟨[g], .inr ⟨g, cap, h2, rfl, h4⟩⟩
  · exact ⟨F1, h2⟩
/-- The newer one is gone on with. -/
theorem St.twinAppend {S : List Nat} {w0 w : World} {L : List Chunk} (h : St S w0 w L) (i : Nat) {P : Program} {t ty e : TypeId} {ti : TypeInfo} {z : Value} {s : Nat} {v0 : Value} {rs0 : List (List Value)} {A : Option Addr} {n c : Nat} {rs : List (List Value)} {r : List Value} {b : Nat} {T' : TypeId} {cs : Array Value}
    (ht : P.underlying t = some (.slice e)) (hti : P.info? e = some ti) (hz : ti.zero = some z) (hsize : ti.size = s) (hzs : z.cells.size = s) (hs : 0 < s)
    (hi : L[i]? = some (Chunk.twin e s v0 rs0 (.slice A n c) rs)) (hb : Blk w b cs T') (hcs : cs = r.toArray) (hr : r.length = s) (h1 : ∀ u ∈ r, u.oneCell' = true) (hbytes : (rs.length + 1) * ti.bytes ≤ 140737488355328) (hmax : rs.length + 1 ≤ maxLen) :
    ∃ g' cap' w', (Builtin.append_ #[t, t] ty #[.slice A n c, .slice (some ⟨b, 0, Option.none⟩) 1 1]).run P w = .ok (.slice (some ⟨g', 0, Option.none⟩) (rs.length + 1) cap') w' ∧
      St S w0 w' (L.set i (Chunk.twin e s v0 rs0 (.slice (some ⟨g', 0, Option.none⟩) (rs.length + 1) cap') (rs ++ [r]))) := by
  subst hcs
  obtain ⟨F, k1, _, k3⟩ := h.at i hi
  obtain ⟨Fn, k1n⟩ := twin_new k1
  have hrs := sl_rows k1n
  obtain ⟨g', cap', w', hrun, hR, hF⟩ := append_rows (P := P) (w := w) (t := t) (ty := ty) (e := e) (i := ti) (z := z) (s := s) (rs := rs) (v := .slice A n c) (news := [r]) (b := b) (T' := T') ht hti hz hsize hzs hs
    (by
      rcases k1n with ⟨k1, k2, _⟩ | ⟨g, cap, k1, _, k2⟩
      · exact .inl ⟨k1, k2⟩
      · exact .inr ⟨g, cap, k1, k2⟩) (by simpa using hb) (by simpa using hr) (by simpa using h1) hrs (by simp) hbytes hmax
  have hlen : (rs ++ [r]).length = rs.length + 1 := by simp
  refine ⟨g', cap', w', hrun, ?_⟩
  rcases k1 with ⟨g, cap, e1, e2, e3, rfl, e4⟩ | ⟨F0, F1, rfl, e1, e2, e3⟩
  · have htk : rs0 = (rs ++ [r]).take rs0.length := by
      have : rs0.length ≤ rs.length := by
        have := congrArg List.length e3
        simp at this; omega
      rw [List.take_append_of_le_length this]; exact e3
    rcases hF with ⟨q1, q2⟩ | ⟨q1, q2⟩
    · rw [e2] at q1
      simp only [Value.slice.injEq, Option.some.injEq, Addr.mk.injEq, true_and, and_true] at q1
      obtain ⟨rfl, rfl⟩ := q1
      exact k3 (F' := [g]) q2 (.inl ⟨g, cap, e1, by rw [hlen], htk, rfl, hR⟩) (fun x hx => .inl hx)
    · refine k3 (F' := [g] ++ [g']) (q2.mono (by simp)) (.inr ⟨[g], [g'], rfl, .inr ⟨g, cap, e1, rfl, ?_⟩, .inr ⟨g', cap', by rw [hlen], rfl, hR⟩, ?_⟩) ?_
      · rw [e3]
        exact (e4.fr q2 (by simp)).take _
      · intro x hx hx2
        simp at hx hx2
        have := e4.lt
        omega
      · intro x hx
        simp at hx
        rcases hx with rfl | rfl
        · exact .inl (by simp)
        · exact .inr q1
  · rcases hF with ⟨q1, q2⟩ | ⟨q1, q2⟩
    · rcases e2 with ⟨e2, _, _⟩ | ⟨g, cap, e2, rfl, e4⟩
      · rw [e2] at q1; simp at q1
      · rw [e2] at q1
        simp only [Value.slice.injEq, Option.some.injEq, Addr.mk.injEq, true_and, and_true] at q1
        obtain ⟨rfl, rfl⟩ := q1
        exact k3 (F' := F0 ++ [g]) (q2.mono (by simp)) (.inr ⟨F0, [g], rfl, (Chunk.sl e s v0 rs0).fr e1 q2 (fun x hx => e3 x hx), .inr ⟨g, cap, by rw [hlen], rfl, hR⟩, e3⟩) (fun x hx => .inl hx)
    · refine k3 (F' := F0 ++ [g']) (q2.mono (by simp)) (.inr ⟨F0, [g'], rfl, (Chunk.sl e s v0 rs0).fr e1 q2 (by simp), .inr ⟨g', cap', by rw [hlen], rfl, hR⟩, ?_⟩) ?_
      · intro x hx hx2
        simp at hx2
        have := (Chunk.sl e s v0 rs0).lt e1 x hx
        omega
      · intro x hx
        rcases List.mem_append.1 hx with hx | hx
        · exact .inl (by simp [hx])
        · simp at hx; subst hx; exact .inr q1
/-- Two records at once. -/
theorem St.append2 {S : List Nat} {w0 w : World} {L : List Chunk} (h : St S w0 w L) (i : Nat) {P : Program} {t ty e : TypeId} {ti : TypeInfo} {z : Value} {s : Nat} {A : Option Addr} {n c : Nat} {rs : List (List Value)} {r r2 : List Value} {b : Nat} {T' : TypeId} {cs : Array Value}
    (ht : P.underlying t = some (.slice e)) (hti : P.info? e = some ti) (hz : ti.zero = some z) (hsize : ti.size = s) (hzs : z.cells.size = s) (hs : 0 < s)
    (hi : L[i]? = some (Chunk.sl e s (.slice A n c) rs)) (hb : Blk w b cs T') (hcs : cs = (r ++ r2).toArray) (hr : r.length = s) (hr2 : r2.length = s) (h1 : ∀ u ∈ r ++ r2, u.oneCell' = true) (hbytes : (rs.length + 2) * ti.bytes ≤ 140737488355328) (hmax : rs.length + 2 ≤ maxLen) :
    ∃ g' cap' w', (Builtin.append_ #[t, t] ty #[.slice A n c, .slice (some ⟨b, 0, Option.none⟩) 2 2]).run P w = .ok (.slice (some ⟨g', 0, Option.none⟩) (rs.length + 2) cap') w' ∧
      St S w0 w' (L.set i (Chunk.sl e s (.slice (some ⟨g', 0, Option.none⟩) (rs.length + 2) cap') (rs ++ [r, r2]))) := by
  subst hcs
  obtain ⟨F, k1, _, k3⟩ := h.at i hi
  have hrs := sl_rows k1
  obtain ⟨g', cap', w', hrun, hR, hF⟩ := append_rows (P := P) (w := w) (t := t) (ty := ty) (e := e) (i := ti) (z := z) (s := s) (rs := rs) (v := .slice A n c) (news := [r, r2]) (b := b) (T' := T') ht hti hz hsize hzs hs
    (by
      rcases k1 with ⟨k1, k2, _⟩ | ⟨g, cap, k1, _, k2⟩
      · exact .inl ⟨k1, k2⟩
      · exact .inr ⟨g, cap, k1, k2⟩) (by simpa using hb) (by simp [hr, hr2]) (by simpa using h1) hrs (by simp) hbytes hmax
  have hlen : (rs ++ [r, r2]).length = rs.length + 2 := by simp
  refine ⟨g', cap', w', hrun, ?_⟩
  rcases k1 with ⟨e1, e2, e3⟩ | ⟨g, cap, e1, rfl, e2⟩
  · rcases hF with ⟨q1, q2⟩ | ⟨q1, q2⟩
    · rw [e1] at q1; simp at q1
    · exact k3 (F' := [g']) (q2.mono (by simp)) (.inr ⟨g', cap', by rw [hlen], rfl, hR⟩) (fun x hx => by simp at hx; subst hx; exact .inr q1)
  · rcases hF with ⟨q1, q2⟩ | ⟨q1, q2⟩
    · rw [e1] at q1
      simp only [Value.slice.injEq, Option.some.injEq, Addr.mk.injEq, true_and, and_true] at q1
      obtain ⟨rfl, rfl⟩ := q1
      exact k3 (F' := [g]) q2 (.inr ⟨g, cap, by rw [hlen], rfl, hR⟩) (fun x hx => .inl hx)
    · exact k3 (F' := [g']) (q2.mono (by simp)) (.inr ⟨g', cap', by rw [hlen], rfl, hR⟩) (fun x hx => by simp at hx; subst hx; exact .inr q1)
end Go.Proofs.Ytebahglmdifmpaa.Vc
