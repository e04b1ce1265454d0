/- Records are appended, wherever they lie. -/
import Derived.Test.YtebahglmdifmpaaS1
set_option linter.unusedVariables false
set_option linter.unusedSimpArgs false
namespace Go.Proofs.Ytebahglmdifmpaa.Vc
open Go
theorem append_rowsC {P : Program} {w : World} {t ty e : TypeId} {i : TypeInfo} {z : Value} {s : Nat} {rs : List (List Value)} {v : Value} {news : List (List Value)} {b : Nat} {c : Nat}
    (ht : P.underlying t = some (.slice e)) (hi : P.info? e = some i) (hz : i.zero = some z) (hsize : i.size = s) (hzs : z.cells.size = s) (hs : 0 < s)
    (hown : (v = .slice none 0 0 ∧ rs = []) ∨ ∃ g cap, v = .slice (some ⟨g, 0, none⟩) rs.length cap ∧ Row w e s g cap rs)
    (hnews : ∀ (j : Nat) (u : Value), news.flatten[j]? = some u → w.cell? ((⟨b, 0, none⟩ : Addr).add j) = some u) (hr : ∀ x ∈ news, x.length = s) (h1 : ∀ u ∈ news.flatten, u.oneCell' = true) (hrs : ∀ x ∈ rs, x.length = s) (hm0 : 0 < news.length)
    (hbytes : (rs.length + news.length) * i.bytes ≤ 140737488355328) (hmax : rs.length + news.length ≤ maxLen) :
    ∃ g' cap' w', (Builtin.append_ #[t, t] ty #[v, .slice (some ⟨b, 0, none⟩) news.length c]).run P w = .ok (.slice (some ⟨g', 0, none⟩) (rs.length + news.length) cap') w' ∧
      Row w' e s g' cap' (rs ++ news) ∧ ((v = .slice (some ⟨g', 0, none⟩) rs.length cap' ∧ Fr [g'] w w') ∨ (w.heap.size ≤ g' ∧ Fr [] w w')) := by
  have hnl : news.flatten.length = news.length * s := flat_len hr
  have hl : news.flatten.length = news.length * i.size := by rw [hnl, hsize]
  have hrs' : ∀ x ∈ rs ++ news, x.length = s := by
    intro x hx
    rcases List.mem_append.mp hx with hx | hx
    · exact hrs x hx
    · exact hr x hx
  have hflat : (rs ++ news).flatten = rs.flatten ++ news.flatten := by simp
  have fin : ∀ (v' : Value) (w' : World) (base : Nat), w'.ownsRow base e s v' (rs.length + news.length) (rs.flatten ++ news.flatten) → ∃ g' cap', v' = .slice (some ⟨g', 0, none⟩) (rs.length + news.length) cap' ∧ Row w' e s g' cap' (rs ++ news) ∧ base ≤ g' := by
    intro v' w' base ho
    rcases ho.2 with ⟨_, h⟩ | ⟨g', cap', cur, rfl, hbg, hg, hnc, hcm, hcs, htake⟩
    · omega
    · refine ⟨g', cap', rfl, (Row.ofOwn hs (n := rs.length + news.length) ?_ hrs').1, hbg⟩
      rw [hflat]
      exact ⟨ho.1, .inr ⟨g', cap', cur, rfl, Nat.zero_le _, hg, hnc, hcm, hcs, htake⟩⟩
  rcases hown with ⟨rfl, rfl⟩ | ⟨g, cap, rfl, hR⟩
  · obtain ⟨v', w', hrun, ho, hg, _⟩ := run_append_own (P := P) w w.heap.size t ty e i z s i.bytes ht hi hz hsize rfl hzs hs (.slice none 0 0) 0 [] (World.ownsRow_nil w _ e s) ⟨b, 0, none⟩ news.length c news.flatten (by rw [← hsize]; exact hl) hnews h1
      (by simpa using hmax) (by simpa using hbytes) (Nat.le_refl _)
    obtain ⟨g', cap', rfl, hR, hbg⟩ := fin v' w' _ (by simpa using ho)
    have hx := run_append_nil (P := P) w t ty e i z ht hi hz ⟨b, 0, none⟩ news.length c news.flatten hl hnews (by omega) (by simp only [maxLen, List.length_nil] at hmax; omega) (by simp only [List.length_nil, Nat.zero_add] at hbytes ⊢; omega)
    have hw : w' = w.drew.alloc (.cells (news.flatten.toArray ++ Builtin.zeroCells z.cells (grownCap w news.length 0 e - news.length)) e) := by
      rw [hx] at hrun; injection hrun with _ h; exact h.symm
    exact ⟨g', cap', w', hrun, hR, .inr ⟨hbg, by rw [hw]; exact (Fr.refl _ w).drew.alloc⟩⟩
  · have hO := hR.toOwn hs
    by_cases hroom : rs.length + news.length ≤ cap
    · obtain ⟨w', hrun, ho, hg⟩ := run_append_fits (P := P) w 0 t ty e i s ht hi hsize g rs.length cap rs.flatten hO ⟨b, 0, none⟩ news.length c news.flatten (by rw [← hsize]; exact hl) hnews h1 hroom
      obtain ⟨g', cap', he, hR', _⟩ := fin _ w' _ ho
      simp only [Value.slice.injEq, Option.some.injEq, Addr.mk.injEq, and_true, true_and] at he
      obtain ⟨rfl, rfl⟩ := he
      have hfr : ∀ a, w'.frozen? a = w.frozen? a := by
        obtain ⟨cur, hbk, hcs, _⟩ := hR
        have hx := run_append_room (P := P) w t ty e i ht hi g rs.length cap cur hbk ⟨b, 0, none⟩ news.length c news.flatten hl hnews h1 hroom (by
          have : (rs.length + news.length) * s ≤ cap * s := Nat.mul_le_mul_right s hroom
          rw [Nat.add_mul] at this; rw [hsize, hcs, hnl]; omega)
        rw [hx] at hrun
        injection hrun with _ hw
        intro x
        rw [← hw]
        exact frozen_setRow w g _ x
      exact ⟨g, cap, w', hrun, hR', .inl ⟨rfl, Fr.of_grown hg hfr (by simp [Value.ownBlock])⟩⟩
    · have hcap := hR.cap_le
      have hl2 := flat_len hrs
      have holds := hO.cells (g := g) rfl
      have hrun := run_append_grow (P := P) w t ty e i z ht hi hz ⟨g, 0, none⟩ rs.length cap rs.flatten (by rw [hl2, hsize]) holds ⟨b, 0, none⟩ news.length c news.flatten hl hnews (by omega) (by simp only [maxLen] at hmax; omega) (growslice_fits (by omega) hbytes)
      have hge := grownCap_ge w (rs.length + news.length) cap e
      refine ⟨_, _, _, hrun, (Row.ofOwn hs (n := rs.length + news.length) ?_ hrs').1, .inr ⟨Nat.le_refl _, (Fr.refl _ w).drew.alloc⟩⟩
      rw [hflat]
      refine ⟨by rw [List.length_append, hl2, hnl, Nat.add_mul], .inr ⟨w.heap.size, _, _, rfl, Nat.zero_le _, Blk.newd, hge, grownCap_le_maxLen w _ cap e hmax, ?_, ?_⟩⟩
      · simp only [Array.size_append, List.size_toArray, size_zeroCells, hzs, hl2, hnl]
        rw [← Nat.add_mul, ← Nat.add_mul]
        congr 1
        omega
      · have : (rs.flatten ++ news.flatten).length = (rs.length + news.length) * s := by rw [List.length_append, hl2, hnl, Nat.add_mul]
        rw [← this]
        simp only [Array.toList_append, List.append_assoc]
        rw [← List.append_assoc]
        exact List.take_left

end Go.Proofs.Ytebahglmdifmpaa.Vc
