/- Things that lie anywhere are appended to a list. -/
import Derived.Test.YtjmlfknogjaemaaM13
import Derived.Deep.Upon
set_option linter.unusedVariables false
set_option linter.unusedSimpArgs false
namespace Go.Proofs.Ytjmlfknogjaemaa.Vc
open Go
theorem append_rowsA {P : Program} {w : World} {t ty e : TypeId} {i : TypeInfo} {z : Value} {s : Nat} {rs : List (List Value)} {v : Value} {news : List (List Value)} {a0 : Addr} {c : Nat}
    (ht : P.underlying t = some (.slice e)) (hi : P.info? e = some i) (hz : i.zero = some z) (hsize : i.size = s) (hzs : z.cells.size = s) (hs : 0 < s)
    (hown : (v = .slice none 0 0 ∧ rs = []) ∨ ∃ g cap, v = .slice (some ⟨g, 0, none⟩) rs.length cap ∧ Row w e s g cap rs)
    (hnews : ∀ (j : Nat) (u : Value), news.flatten[j]? = some u → w.cell? (a0.add j) = some u) (hr : ∀ x ∈ news, x.length = s) (h1 : ∀ u ∈ news.flatten, u.oneCell' = true) (hrs : ∀ x ∈ rs, x.length = s) (hm0 : 0 < news.length)
    (hbytes : (rs.length + news.length) * i.bytes ≤ 140737488355328) (hmax : rs.length + news.length ≤ maxLen) :
    ∃ g' cap' w', (Builtin.append_ #[t, t] ty #[v, .slice (some a0) news.length c]).run P w = .ok (.slice (some ⟨g', 0, none⟩) (rs.length + news.length) cap') w' ∧
      Row w' e s g' cap' (rs ++ news) ∧ ((v = .slice (some ⟨g', 0, none⟩) rs.length cap' ∧ Fr [g'] w w') ∨ (w.heap.size ≤ g' ∧ Fr [] w w')) := by
  have hnl : news.flatten.length = news.length * s := flat_len hr
  have hl : news.flatten.length = news.length * i.size := by rw [hnl, hsize]
  have hrs' : ∀ x ∈ rs ++ news, x.length = s := by
    intro x hx
    rcases List.mem_append.mp hx with hx | hx
    · exact hrs x hx
    · exact hr x hx
  have hflat : (rs ++ news).flatten = rs.flatten ++ news.flatten := by simp
  have fin : ∀ (v' : Value) (w' : World) (base : Nat), w'.ownsRow base e s v' (rs.length + news.length) (rs.flatten ++ news.flatten) → ∃ g' cap', v' = .slice (some ⟨g', 0, none⟩) (rs.length + news.length) cap' ∧ Row w' e s g' cap' (rs ++ news) ∧ base ≤ g' := by
    intro v' w' base ho
    rcases ho.2 with ⟨_, h⟩ | ⟨g', cap', cur, rfl, hbg, hg, hnc, hcm, hcs, htake⟩
    · omega
    · refine ⟨g', cap', rfl, (Row.ofOwn hs (n := rs.length + news.length) ?_ hrs').1, hbg⟩
      rw [hflat]
      exact ⟨ho.1, .inr ⟨g', cap', cur, rfl, Nat.zero_le _, hg, hnc, hcm, hcs, htake⟩⟩
  rcases hown with ⟨rfl, rfl⟩ | ⟨g, cap, rfl, hR⟩
  · obtain ⟨v', w', hrun, ho, hg, _⟩ := run_append_own (P := P) w w.heap.size t ty e i z s i.bytes ht hi hz hsize rfl hzs hs (.slice none 0 0) 0 [] (World.ownsRow_nil w _ e s) a0 news.length c news.flatten (by rw [← hsize]; exact hl) hnews h1
      (by simpa using hmax) (by simpa using hbytes) (Nat.le_refl _)
    obtain ⟨g', cap', rfl, hR, hbg⟩ := fin v' w' _ (by simpa using ho)
    have hx := run_append_nil (P := P) w t ty e i z ht hi hz a0 news.length c news.flatten hl hnews (by omega) (by simp only [maxLen, List.length_nil] at hmax; omega) (by simp only [List.length_nil, Nat.zero_add] at hbytes ⊢; omega)
    have hw : w' = w.drew.alloc (.cells (news.flatten.toArray ++ Builtin.zeroCells z.cells (grownCap w news.length 0 e - news.length)) e) := by
      rw [hx] at hrun; injection hrun with _ h; exact h.symm
    exact ⟨g', cap', w', hrun, hR, .inr ⟨hbg, by rw [hw]; exact (Fr.refl _ w).drew.alloc⟩⟩
  · have hO := hR.toOwn hs
    by_cases hroom : rs.length + news.length ≤ cap
    · obtain ⟨w', hrun, ho, hg⟩ := run_append_fits (P := P) w 0 t ty e i s ht hi hsize g rs.length cap rs.flatten hO a0 news.length c news.flatten (by rw [← hsize]; exact hl) hnews h1 hroom
      obtain ⟨g', cap', he, hR', _⟩ := fin _ w' _ ho
      simp only [Value.slice.injEq, Option.some.injEq, Addr.mk.injEq, and_true, true_and] at he
      obtain ⟨rfl, rfl⟩ := he
      have hfr : ∀ a, w'.frozen? a = w.frozen? a := by
        obtain ⟨cur, hbk, hcs, _⟩ := hR
        have hx := run_append_room (P := P) w t ty e i ht hi g rs.length cap cur hbk a0 news.length c news.flatten hl hnews h1 hroom (by
          have : (rs.length + news.length) * s ≤ cap * s := Nat.mul_le_mul_right s hroom
          rw [Nat.add_mul] at this; rw [hsize, hcs, hnl]; omega)
        rw [hx] at hrun
        injection hrun with _ hw
        intro x
        rw [← hw]
        exact frozen_setRow w g _ x
      exact ⟨g, cap, w', hrun, hR', .inl ⟨rfl, Fr.of_grown hg hfr (by simp [Value.ownBlock])⟩⟩
    · have hcap := hR.cap_le
      have hl2 := flat_len hrs
      have holds := hO.cells (g := g) rfl
      have hrun := run_append_grow (P := P) w t ty e i z ht hi hz ⟨g, 0, none⟩ rs.length cap rs.flatten (by rw [hl2, hsize]) holds a0 news.length c news.flatten hl hnews (by omega) (by simp only [maxLen] at hmax; omega) (growslice_fits (by omega) hbytes)
      have hge := grownCap_ge w (rs.length + news.length) cap e
      refine ⟨_, _, _, hrun, (Row.ofOwn hs (n := rs.length + news.length) ?_ hrs').1, .inr ⟨Nat.le_refl _, (Fr.refl _ w).drew.alloc⟩⟩
      rw [hflat]
      refine ⟨by rw [List.length_append, hl2, hnl, Nat.add_mul], .inr ⟨w.heap.size, _, _, rfl, Nat.zero_le _, Blk.newd, hge, grownCap_le_maxLen w _ cap e hmax, ?_, ?_⟩⟩
      · simp only [Array.size_append, List.size_toArray, size_zeroCells, hzs, hl2, hnl]
        rw [← Nat.add_mul, ← Nat.add_mul]
        congr 1
        omega
      · have : (rs.flatten ++ news.flatten).length = (rs.length + news.length) * s := by rw [List.length_append, hl2, hnl, Nat.add_mul]
        rw [← this]
        simp only [Array.toList_append, List.append_assoc]
        rw [← List.append_assoc]
        exact List.take_left


theorem flat_one {α : Type} (enc : α → Value) : ∀ l : List α, (l.map fun a => [enc a]).flatten = l.map enc
  | [] => rfl
  | a :: l => by simp [flat_one enc l]
/-- Many things more, that lie anywhere. -/
theorem St.appMany {α : Type} (d : α) {enc : α → Value} (henc : ∀ a, (enc a).oneCell' = true) {P : Program} {t ty e : TypeId} {ti : TypeInfo} {z : Value} (ht : P.underlying t = some (.slice e)) (hti : P.info? e = some ti) (hz : ti.zero = some z) (hsize : ti.size = 1) (hzs : z.cells.size = 1) (hb : ti.bytes ≤ 24)
    {S : List Nat} {w0 w : World} {L : List Chunk} (h : St S w0 w L) (i : Nat) {A : Option Addr} {n c : Nat} {l : List α} (hi : L[i]? = some (Chunk.ls enc e (.slice A n c) l)) {A2 : Option Addr} {n2 c2 : Nat} {k : List α}
    (hn : n2 = k.length) (hk : 0 < n2 → ∃ b o, A2 = some ⟨b, o, Option.none⟩ ∧ ∀ i, i < n2 → w.cell? ⟨b, o + i, Option.none⟩ = some (enc (k.getD i d))) (hl : l.length + k.length ≤ 4000000) :
    ∃ A' n' c' w', (Builtin.append_ #[t, t] ty #[.slice A n c, .slice A2 n2 c2]).run P w = .ok (.slice A' n' c') w' ∧ St S w0 w' (L.set i (Chunk.ls enc e (.slice A' n' c') (l ++ k))) := by
  have hil : i < L.length := (List.getElem?_eq_some_iff.1 hi).1
  rcases Nat.eq_zero_or_pos n2 with h0 | h0
  · subst h0
    have hk0 : k = [] := List.eq_nil_of_length_eq_zero hn.symm
    subst hk0
    have hsrc : Src P ti.size t (.slice A2 0 c2) 0 [] w := by
      cases A2 with
      | none => exact Src.ofNil w ht c2
      | some a => exact Src.ofSlice w ht a 0 c2 [] (by simp) (by simp) (by simp)
    have hle : n ≤ c := by
      obtain ⟨F, h1, _⟩ := h.at i hi
      rcases h1 with ⟨h1, h2, _⟩ | ⟨g, cap, h1, _, h2⟩
      · injection h1 with _ e1 e2; omega
      · injection h1 with _ e1 e2
        obtain ⟨_, _, _, h5, _⟩ := h2
        omega
    refine ⟨A, n, c, w, run_append_nothing w t t ty e ti ht hti A n c hle _ hsrc, ?_⟩
    rw [List.append_nil]
    have e : L.set i (Chunk.ls enc e (.slice A n c) l) = L := by
      apply List.ext_getElem?
      intro q
      by_cases hq : q = i
      · subst hq; rw [List.getElem?_set_self hil, hi]
      · rw [List.getElem?_set_ne (Ne.symm hq)]
    rw [e]; exact h
  · obtain ⟨b, o, rfl, hc⟩ := hk h0
    obtain ⟨F, k1, _, k3⟩ := h.at i hi
    have el : (l.map fun a => [enc a]).length = l.length := by simp
    have ek : (k.map fun a => [enc a]).length = k.length := by simp
    obtain ⟨g', cap', w', hrun, hR, hg⟩ := append_rowsA (P := P) (w := w) (t := t) (ty := ty) (e := e) (i := ti) (z := z) (s := 1) (rs := l.map fun a => [enc a]) (v := .slice A n c) (news := k.map fun a => [enc a]) (a0 := ⟨b, o, Option.none⟩) (c := c2) ht hti hz hsize hzs (by decide)
      (by
        rcases k1 with ⟨k1, k2, _⟩ | ⟨g, cap, k1, _, k2⟩
        · exact .inl ⟨k1, k2⟩
        · exact .inr ⟨g, cap, k1, k2⟩)
      (by
        rw [flat_one]
        intro j u hu
        have hj : j < k.length := by
          have := (List.getElem?_eq_some_iff.1 hu).1
          simpa using this
        rw [Addr.add_lit, hc j (by omega)]
        rw [← hu]
        simp [List.getD_eq_getElem?_getD, hj])
      (by simp) (by rw [flat_one]; intro u hu; obtain ⟨a, _, rfl⟩ := List.mem_map.1 hu; exact henc a) (by simp) (by rw [ek]; omega) (by rw [el, ek]; have := Nat.mul_le_mul (show l.length + k.length ≤ 4000000 by omega) hb; omega) (by rw [el, ek]; simp [maxLen]; omega)
    rw [el, ek] at hrun
    rw [show (l.map fun a => [enc a]) ++ (k.map fun a => [enc a]) = (l ++ k).map (fun a => [enc a]) by simp] at hR
    rw [← hn] at hrun
    refine ⟨_, _, _, w', hrun, ?_⟩
    have eN : l.length + n2 = ((l ++ k).map fun a => [enc a]).length := by simp; omega
    rw [eN]
    rcases hg with ⟨hv, hf⟩ | ⟨hge, hf⟩
    · refine k3 (F' := [g']) (hf.mono ?_) (.inr ⟨g', cap', rfl, rfl, hR⟩) ?_
      · intro x hx
        rcases k1 with ⟨k1, _, _⟩ | ⟨g, cap, k1, rfl, _⟩
        · rw [k1] at hv; cases hv
        · rw [k1] at hv; injection hv with e1 e2 e3; simp at e1; subst e1; exact hx
      · intro x hx
        rcases k1 with ⟨k1, _, _⟩ | ⟨g, cap, k1, rfl, _⟩
        · rw [k1] at hv; cases hv
        · rw [k1] at hv; injection hv with e1 e2 e3; simp at e1; subst e1; exact .inl hx
    · exact k3 (F' := [g']) (hf.mono (by simp)) (.inr ⟨g', cap', rfl, rfl, hR⟩) (fun x hx => by simp at hx; subst hx; exact .inr hge)
end Go.Proofs.Ytjmlfknogjaemaa.Vc
