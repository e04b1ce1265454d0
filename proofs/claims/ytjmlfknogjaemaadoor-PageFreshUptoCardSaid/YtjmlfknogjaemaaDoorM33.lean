/- Several records are appended at once; a list that is gone on with, beside what it was. -/
import Derived.Test.YtjmlfknogjaemaaDoorM8
import Derived.Test.YtjmlfknogjaemaaDoorM5
import Derived.Test.YtjmlfknogjaemaaDoorProg
import Derived.KernelRfl
set_option linter.unusedVariables false
set_option linter.unusedSimpArgs false
namespace Go.Proofs.YtjmlfknogjaemaaDoor.Vc
open Go
theorem append_rows {P : Program} {w : World} {t ty e : TypeId} {i : TypeInfo} {z : Value} {s : Nat} {rs : List (List Value)} {v : Value} {news : List (List Value)} {b : Nat} {T' : TypeId}
    (ht : P.underlying t = some (.slice e)) (hi : P.info? e = some i) (hz : i.zero = some z) (hsize : i.size = s) (hzs : z.cells.size = s) (hs : 0 < s)
    (hown : (v = .slice none 0 0 ∧ rs = []) ∨ ∃ g cap, v = .slice (some ⟨g, 0, none⟩) rs.length cap ∧ Row w e s g cap rs)
    (hb : Blk w b news.flatten.toArray T') (hr : ∀ x ∈ news, x.length = s) (h1 : ∀ u ∈ news.flatten, u.oneCell' = true) (hrs : ∀ x ∈ rs, x.length = s) (hm0 : 0 < news.length)
    (hbytes : (rs.length + news.length) * i.bytes ≤ 140737488355328) (hmax : rs.length + news.length ≤ maxLen) :
    ∃ g' cap' w', (Builtin.append_ #[t, t] ty #[v, .slice (some ⟨b, 0, none⟩) news.length news.length]).run P w = .ok (.slice (some ⟨g', 0, none⟩) (rs.length + news.length) cap') w' ∧
      Row w' e s g' cap' (rs ++ news) ∧ ((v = .slice (some ⟨g', 0, none⟩) rs.length cap' ∧ Fr [g'] w w') ∨ (w.heap.size ≤ g' ∧ Fr [] w w')) := by
  have hnl : news.flatten.length = news.length * s := flat_len hr
  have hnews : ∀ (j : Nat) (u : Value), news.flatten[j]? = some u → w.cell? ((⟨b, 0, none⟩ : Addr).add j) = some u := by
    intro j u hu
    have e0 : (⟨b, 0, none⟩ : Addr).add j = ⟨b, j, none⟩ := by simp [Addr.add_lit]
    rw [e0]
    exact hb.cell (by simpa using hu)
  have hl : news.flatten.length = news.length * i.size := by rw [hnl, hsize]
  have hrs' : ∀ x ∈ rs ++ news, x.length = s := by
    intro x hx
    rcases List.mem_append.mp hx with hx | hx
    · exact hrs x hx
    · exact hr x hx
  have hflat : (rs ++ news).flatten = rs.flatten ++ news.flatten := by simp
  have fin : ∀ (v' : Value) (w' : World) (base : Nat), w'.ownsRow base e s v' (rs.length + news.length) (rs.flatten ++ news.flatten) → ∃ g' cap', v' = .slice (some ⟨g', 0, none⟩) (rs.length + news.length) cap' ∧ Row w' e s g' cap' (rs ++ news) ∧ base ≤ g' := by
    intro v' w' base ho
    rcases ho.2 with ⟨_, h⟩ | ⟨g', cap', cur, rfl, hbg, hg, hnc, hcm, hcs, htake⟩
    · omega
    · refine ⟨g', cap', rfl, (Row.ofOwn hs (n := rs.length + news.length) ?_ hrs').1, hbg⟩
      rw [hflat]
      exact ⟨ho.1, .inr ⟨g', cap', cur, rfl, Nat.zero_le _, hg, hnc, hcm, hcs, htake⟩⟩
  rcases hown with ⟨rfl, rfl⟩ | ⟨g, cap, rfl, hR⟩
  · obtain ⟨v', w', hrun, ho, hg, _⟩ := run_append_own (P := P) w w.heap.size t ty e i z s i.bytes ht hi hz hsize rfl hzs hs (.slice none 0 0) 0 [] (World.ownsRow_nil w _ e s) ⟨b, 0, none⟩ news.length news.length news.flatten (by rw [← hsize]; exact hl) hnews h1
      (by simpa using hmax) (by simpa using hbytes) (Nat.le_refl _)
    obtain ⟨g', cap', rfl, hR, hbg⟩ := fin v' w' _ (by simpa using ho)
    have hx := run_append_nil (P := P) w t ty e i z ht hi hz ⟨b, 0, none⟩ news.length news.length news.flatten hl hnews (by omega) (by simp only [maxLen, List.length_nil] at hmax; omega) (by simp only [List.length_nil, Nat.zero_add] at hbytes ⊢; omega)
    have hw : w' = w.drew.alloc (.cells (news.flatten.toArray ++ Builtin.zeroCells z.cells (grownCap w news.length 0 e - news.length)) e) := by
      rw [hx] at hrun; injection hrun with _ h; exact h.symm
    exact ⟨g', cap', w', hrun, hR, .inr ⟨hbg, by rw [hw]; exact (Fr.refl _ w).drew.alloc⟩⟩
  · have hO := hR.toOwn hs
    by_cases hroom : rs.length + news.length ≤ cap
    · obtain ⟨w', hrun, ho, hg⟩ := run_append_fits (P := P) w 0 t ty e i s ht hi hsize g rs.length cap rs.flatten hO ⟨b, 0, none⟩ news.length news.length news.flatten (by rw [← hsize]; exact hl) hnews h1 hroom
      obtain ⟨g', cap', he, hR', _⟩ := fin _ w' _ ho
      simp only [Value.slice.injEq, Option.some.injEq, Addr.mk.injEq, and_true, true_and] at he
      obtain ⟨rfl, rfl⟩ := he
      have hfr : ∀ a, w'.frozen? a = w.frozen? a := by
        obtain ⟨cur, hbk, hcs, _⟩ := hR
        have hx := run_append_room (P := P) w t ty e i ht hi g rs.length cap cur hbk ⟨b, 0, none⟩ news.length news.length news.flatten hl hnews h1 hroom (by
          have : (rs.length + news.length) * s ≤ cap * s := Nat.mul_le_mul_right s hroom
          rw [Nat.add_mul] at this; rw [hsize, hcs, hnl]; omega)
        rw [hx] at hrun
        injection hrun with _ hw
        intro x
        rw [← hw]
        exact frozen_setRow w g _ x
      exact ⟨g, cap, w', hrun, hR', .inl ⟨rfl, Fr.of_grown hg hfr (by simp [Value.ownBlock])⟩⟩
    · have hcap := hR.cap_le
      have hl2 := flat_len hrs
      have holds := hO.cells (g := g) rfl
      have hrun := run_append_grow (P := P) w t ty e i z ht hi hz ⟨g, 0, none⟩ rs.length cap rs.flatten (by rw [hl2, hsize]) holds ⟨b, 0, none⟩ news.length news.length news.flatten hl hnews (by omega) (by simp only [maxLen] at hmax; omega) (growslice_fits (by omega) hbytes)
      have hge := grownCap_ge w (rs.length + news.length) cap e
      refine ⟨_, _, _, hrun, (Row.ofOwn hs (n := rs.length + news.length) ?_ hrs').1, .inr ⟨Nat.le_refl _, (Fr.refl _ w).drew.alloc⟩⟩
      rw [hflat]
      refine ⟨by rw [List.length_append, hl2, hnl, Nat.add_mul], .inr ⟨w.heap.size, _, _, rfl, Nat.zero_le _, Blk.newd, hge, grownCap_le_maxLen w _ cap e hmax, ?_, ?_⟩⟩
      · simp only [Array.size_append, List.size_toArray, size_zeroCells, hzs, hl2, hnl]
        rw [← Nat.add_mul, ← Nat.add_mul]
        congr 1
        omega
      · have : (rs.flatten ++ news.flatten).length = (rs.length + news.length) * s := by rw [List.length_append, hl2, hnl, Nat.add_mul]
        rw [← this]
        simp only [Array.toList_append, List.append_assoc]
        rw [← List.append_assoc]
        exact List.take_left

/-- A list that was gone on with (v, rs), beside what it was (v0, rs0): they may share their block. -/
def Chunk.twin (TE : TypeId) (s : Nat) (v0 : Value) (rs0 : List (List Value)) (v : Value) (rs : List (List Value)) : Chunk where
  holds w F := (∃ g cap, v0 = .slice (some ⟨g, 0, none⟩) rs0.length cap ∧ v = .slice (some ⟨g, 0, none⟩) rs.length cap ∧ rs0 = rs.take rs0.length ∧ F = [g] ∧ Row w TE s g cap rs) ∨
    ∃ F0 F1, F = F0 ++ F1 ∧ (Chunk.sl TE s v0 rs0).holds w F0 ∧ (Chunk.sl TE s v rs).holds w F1 ∧ ∀ x ∈ F0, x ∉ F1
  fr h hf hS := by
    rcases h with ⟨g, cap, h1, h2, h3, rfl, h4⟩ | ⟨F0, F1, rfl, h1, h2, h3⟩
    · exact .inl ⟨g, cap, h1, h2, h3, rfl, h4.fr hf (hS g (by simp))⟩
    · exact .inr ⟨F0, F1, rfl, (Chunk.sl TE s v0 rs0).fr h1 hf (fun x hx => hS x (by simp [hx])), (Chunk.sl TE s v rs).fr h2 hf (fun x hx => hS x (by simp [hx])), h3⟩
  lt h x hx := by
    rcases h with ⟨g, cap, h1, h2, h3, rfl, h4⟩ | ⟨F0, F1, rfl, h1, h2, h3⟩
    · simp at hx; subst hx; exact h4.lt
    · rcases List.mem_append.1 hx with hx | hx
      · exact (Chunk.sl TE s v0 rs0).lt h1 x hx
      · exact (Chunk.sl TE s v rs).lt h2 x hx
theorem twin_of {TE : TypeId} {s : Nat} {v : Value} {rs : List (List Value)} {w : World} {F : List Nat} (h : (Chunk.sl TE s v rs).holds w F) : (Chunk.twin TE s v rs v rs).holds w F := by
  rcases h with ⟨h1, h2, h3⟩ | ⟨g, cap, h1, h2, h3⟩
  · exact .inr ⟨[], [], by simp [h3], .inl ⟨h1, h2, rfl⟩, .inl ⟨h1, h2, rfl⟩, by simp⟩
  · exact .inl ⟨g, cap, h1, h1, by simp, h2, h3⟩
theorem sl_rows {TE : TypeId} {s : Nat} {v : Value} {rs : List (List Value)} {w : World} {F : List Nat} (h : (Chunk.sl TE s v rs).holds w F) : ∀ x ∈ rs, x.length = s := by
  rcases h with ⟨_, rfl, _⟩ | ⟨g, cap, _, _, k2⟩
  · simp
  · obtain ⟨_, _, _, _, _, k, _⟩ := k2; exact k
theorem twin_new {TE : TypeId} {s : Nat} {v0 v : Value} {rs0 rs : List (List Value)} {w : World} {F : List Nat} (h : (Chunk.twin TE s v0 rs0 v rs).holds w F) : ∃ F', (Chunk.sl TE s v rs).holds w F' := by
  rcases h with ⟨g, cap, h1, h2, h3, rfl, h4⟩ | ⟨F0, F1, rfl, h1, h2, h3⟩
  · exact ⟨[g], .inr ⟨g, cap, h2, rfl, h4⟩⟩
  · exact ⟨F1, h2⟩
/-- The newer one is gone on with. -/
theorem St.twinAppend {S : List Nat} {w0 w : World} {L : List Chunk} (h : St S w0 w L) (i : Nat) {P : Program} {t ty e : TypeId} {ti : TypeInfo} {z : Value} {s : Nat} {v0 : Value} {rs0 : List (List Value)} {A : Option Addr} {n c : Nat} {rs : List (List Value)} {r : List Value} {b : Nat} {T' : TypeId} {cs : Array Value}
    (ht : P.underlying t = some (.slice e)) (hti : P.info? e = some ti) (hz : ti.zero = some z) (hsize : ti.size = s) (hzs : z.cells.size = s) (hs : 0 < s)
    (hi : L[i]? = some (Chunk.twin e s v0 rs0 (.slice A n c) rs)) (hb : Blk w b cs T') (hcs : cs = r.toArray) (hr : r.length = s) (h1 : ∀ u ∈ r, u.oneCell' = true) (hbytes : (rs.length + 1) * ti.bytes ≤ 140737488355328) (hmax : rs.length + 1 ≤ maxLen) :
    ∃ g' cap' w', (Builtin.append_ #[t, t] ty #[.slice A n c, .slice (some ⟨b, 0, Option.none⟩) 1 1]).run P w = .ok (.slice (some ⟨g', 0, Option.none⟩) (rs.length + 1) cap') w' ∧
      St S w0 w' (L.set i (Chunk.twin e s v0 rs0 (.slice (some ⟨g', 0, Option.none⟩) (rs.length + 1) cap') (rs ++ [r]))) := by
  subst hcs
  obtain ⟨F, k1, _, k3⟩ := h.at i hi
  obtain ⟨Fn, k1n⟩ := twin_new k1
  have hrs := sl_rows k1n
  obtain ⟨g', cap', w', hrun, hR, hF⟩ := append_rows (P := P) (w := w) (t := t) (ty := ty) (e := e) (i := ti) (z := z) (s := s) (rs := rs) (v := .slice A n c) (news := [r]) (b := b) (T' := T') ht hti hz hsize hzs hs
    (by
      rcases k1n with ⟨k1, k2, _⟩ | ⟨g, cap, k1, _, k2⟩
      · exact .inl ⟨k1, k2⟩
      · exact .inr ⟨g, cap, k1, k2⟩) (by simpa using hb) (by simpa using hr) (by simpa using h1) hrs (by simp) hbytes hmax
  have hlen : (rs ++ [r]).length = rs.length + 1 := by simp
  refine ⟨g', cap', w', hrun, ?_⟩
  rcases k1 with ⟨g, cap, e1, e2, e3, rfl, e4⟩ | ⟨F0, F1, rfl, e1, e2, e3⟩
  · have htk : rs0 = (rs ++ [r]).take rs0.length := by
      have : rs0.length ≤ rs.length := by
        have := congrArg List.length e3
        simp at this; omega
      rw [List.take_append_of_le_length this]; exact e3
    rcases hF with ⟨q1, q2⟩ | ⟨q1, q2⟩
    · rw [e2] at q1
      simp only [Value.slice.injEq, Option.some.injEq, Addr.mk.injEq, true_and, and_true] at q1
      obtain ⟨rfl, rfl⟩ := q1
      exact k3 (F' := [g]) q2 (.inl ⟨g, cap, e1, by rw [hlen], htk, rfl, hR⟩) (fun x hx => .inl hx)
    · refine k3 (F' := [g] ++ [g']) (q2.mono (by simp)) (.inr ⟨[g], [g'], rfl, .inr ⟨g, cap, e1, rfl, ?_⟩, .inr ⟨g', cap', by rw [hlen], rfl, hR⟩, ?_⟩) ?_
      · rw [e3]
        exact (e4.fr q2 (by simp)).take _
      · intro x hx hx2
        simp at hx hx2
        have := e4.lt
        omega
      · intro x hx
        simp at hx
        rcases hx with rfl | rfl
        · exact .inl (by simp)
        · exact .inr q1
  · rcases hF with ⟨q1, q2⟩ | ⟨q1, q2⟩
    · rcases e2 with ⟨e2, _, _⟩ | ⟨g, cap, e2, rfl, e4⟩
      · rw [e2] at q1; simp at q1
      · rw [e2] at q1
        simp only [Value.slice.injEq, Option.some.injEq, Addr.mk.injEq, true_and, and_true] at q1
        obtain ⟨rfl, rfl⟩ := q1
        exact k3 (F' := F0 ++ [g]) (q2.mono (by simp)) (.inr ⟨F0, [g], rfl, (Chunk.sl e s v0 rs0).fr e1 q2 (fun x hx => e3 x hx), .inr ⟨g, cap, by rw [hlen], rfl, hR⟩, e3⟩) (fun x hx => .inl hx)
    · refine k3 (F' := F0 ++ [g']) (q2.mono (by simp)) (.inr ⟨F0, [g'], rfl, (Chunk.sl e s v0 rs0).fr e1 q2 (by simp), .inr ⟨g', cap', by rw [hlen], rfl, hR⟩, ?_⟩) ?_
      · intro x hx hx2
        simp at hx2
        have := (Chunk.sl e s v0 rs0).lt e1 x hx
        omega
      · intro x hx
        rcases List.mem_append.1 hx with hx | hx
        · exact .inl (by simp [hx])
        · simp at hx; subst hx; exact .inr q1
end Go.Proofs.YtjmlfknogjaemaaDoor.Vc
/- The plain statements of some functions, printed by vcgen.py. -/
set_option maxRecDepth 100000
set_option maxHeartbeats 4000000
set_option linter.unusedVariables false
namespace Go.Proofs.YtjmlfknogjaemaaDoor
open Go Go.Proofs.YtjmlfknogjaemaaDoor.Vc
theorem DW2.mixed : Tryd.prog.follows .mixedOrders = true := by kernel_rfl
/-- gatehouse/gatehouselaw12.spoilt -/
def f18.AL : Nat → Option Ann := fun r => match r with | 4 => some ⟨[(5, .int .i64)], [1, 3, 4]⟩ | 7 => some ⟨[(6, .int .i64)], [1, 3, 4, 5]⟩ | 11 => some ⟨[(7, .int .i64)], [1, 3, 4]⟩ | 14 => some ⟨[(8, .int .i64)], [1, 3, 4, 7]⟩ | 18 => some ⟨[(9, .int .i64)], [1, 3, 4]⟩ | 21 => some ⟨[(10, .int .i64)], [1, 3, 4, 9]⟩ | 25 => some ⟨[(11, .int .i64)], [1, 3, 4]⟩ | 29 => some ⟨[(12, .slice), (13, .int .i64)], [1, 3, 4, 11]⟩ | 33 => some ⟨[(14, .int .i64)], [1, 3, 4]⟩ | 37 => some ⟨[(15, .slice), (16, .int .i64)], [1, 3, 4, 14]⟩ | 41 => some ⟨[(17, .int .i64)], [1, 3, 4]⟩ | 45 => some ⟨[(18, .slice), (19, .int .i64)], [1, 3, 4, 17]⟩ | 49 => some ⟨[(20, .int .i64)], [1, 3, 4]⟩ | 52 => some ⟨[(21, .int .i64)], [1, 3, 4, 20]⟩ | 57 => some ⟨[(22, .int .i64)], [1, 4]⟩ | 60 => some ⟨[(23, .int .i64)], [1, 4, 22]⟩ | 65 => some ⟨[(24, .int .i64)], [1]⟩ | 68 => some ⟨[(25, .int .i64)], [1, 24]⟩ | _ => none
def f18.AC : Nat → Option Ann := fun r => match r with | 10 => some ⟨[], [1, 3, 4]⟩ | 17 => some ⟨[], [1, 3, 4]⟩ | 24 => some ⟨[], [1, 3, 4]⟩ | 32 => some ⟨[], [1, 3, 4]⟩ | 40 => some ⟨[], [1, 3, 4]⟩ | 48 => some ⟨[], [1, 3, 4]⟩ | 56 => some ⟨[], [1, 4]⟩ | 64 => some ⟨[], [1]⟩ | 1000009 => some ⟨[], []⟩ | 1000054 => some ⟨[], []⟩ | _ => none
def f18.VC (Aa0_0 : Option Addr) (na0_0 ca0_0 : Nat) (Aa0_1 : Option Addr) (na0_1 ca0_1 : Nat) (Aa0_2 : Option Addr) (na0_2 ca0_2 : Nat) (Aa0_3 : Option Addr) (na0_3 ca0_3 : Nat) (Aa0_4 : Option Addr) (na0_4 ca0_4 : Nat) (Aa0_5 : Option Addr) (na0_5 ca0_5 : Nat) (w : World) (R : Value → World → Prop) : Prop :=
  let b0 := World.alloc w (.cells #[.slice Aa0_0 na0_0 ca0_0, .slice Aa0_1 na0_1 ca0_1, .slice Aa0_2 na0_2 ca0_2, .slice Aa0_3 na0_3 ca0_3, .slice Aa0_4 na0_4 ca0_4, .slice Aa0_5 na0_5 ca0_5] 32);
  ∃ d0 g0 h0,
  b0.cell? ⟨w.heap.size, 0, none⟩ = some (.slice d0 g0 h0) ∧
  ∃ i0 j0 k0,
  b0.cell? ⟨w.heap.size, 1, none⟩ = some (.slice i0 j0 k0) ∧
  ∃ p0 q0 t0,
  b0.cell? ⟨w.heap.size, 2, none⟩ = some (.slice p0 q0 t0) ∧
  let u0 := World.alloc b0 (.cells #[.slice d0 g0 h0, .slice i0 j0 k0, .slice p0 q0 t0] 27);
  ∃ v0 x0 y0,
  u0.cell? ⟨w.heap.size, 3, none⟩ = some (.slice v0 x0 y0) ∧
  ∃ z0 b1 d1,
  u0.cell? ⟨w.heap.size, 4, none⟩ = some (.slice z0 b1 d1) ∧
  let g1 := World.alloc u0 (.cells #[.slice v0 x0 y0, .slice z0 b1 d1] 28);
  ∃ h1 : World → Prop,
  (∃ i1 : Int → World → Nat → Prop,
  (∃ n, i1 0 g1 n) ∧
  ∀ j1 : Env, ∀ k1 p1 q1, i1 k1 p1 q1 →
  sel (decide ((k1 : Int) < (3 : Int))) (
  ∃ t1 : Int → World → Nat → Prop,
  (∃ n, t1 0 p1 n) ∧
  ∀ u1 : Env, ∀ v1 x1 y1, t1 v1 x1 y1 →
  (0 : Int) ≤ k1 ∧ k1 < (3 : Int) ∧
  ∃ z1 b2 d2,
  x1.cell? ⟨b0.heap.size, 0 + k1.toNat * 1, none⟩ = some (.slice z1 b2 d2) ∧
  sel (decide ((v1 : Int) < ((b2 : Int) : Int))) (
  (0 : Int) ≤ k1 ∧ k1 < (3 : Int) ∧
  ∃ g2 h2 i2,
  x1.cell? ⟨b0.heap.size, 0 + k1.toNat * 1, none⟩ = some (.slice g2 h2 i2) ∧
  Calls Tryd.prog 8 #[.int .i64 k1] x1.drew fun j2 k2 =>
  ∃ p2,
  j2 = .returned (.string p2) ∧
  (k2.cell? ⟨b0.heap.size, 0 + k1.toNat * 1, none⟩ = some (.slice g2 h2 i2) ∧ True) ∧
  ((⟨#[35]⟩) : ByteArray).size + (p2 : ByteArray).size ≤ 9223372036854775807 ∧
  (0 : Int) ≤ v1 ∧ v1 < (h2 : Int) ∧
  needPtr g2 fun q2 t2 =>
  canStore k2 q2 (t2 + v1.toNat * 1) 1 ∧
  let u2 := setCs k2 q2 (t2 + v1.toNat * 1) [.string ((⟨#[35]⟩ : ByteArray) ++ (p2 : ByteArray))];
  (u2.cell? ⟨b0.heap.size, 0 + k1.toNat * 1, none⟩ = some (.slice g2 h2 i2) ∧ True) ∧
  let v2 : Int := IntKind.i64.wrap (v1 + 1);
  ([.pointer (some ⟨w.heap.size, 0, none⟩), .slice (some ⟨b0.heap.size, 0, none⟩) 3 3, .slice (some ⟨u0.heap.size, 0, none⟩) 2 2, .int .i64 k1] : List Value) = ([.pointer (some ⟨w.heap.size, 0, none⟩), .slice (some ⟨b0.heap.size, 0, none⟩) 3 3, .slice (some ⟨u0.heap.size, 0, none⟩) 2 2, .int .i64 k1] : List Value) ∧ ∃ m, m < y1 ∧ t1 v2 u2 m) (
  let x2 : Int := IntKind.i64.wrap (k1 + 1);
  ([.pointer (some ⟨w.heap.size, 0, none⟩), .slice (some ⟨b0.heap.size, 0, none⟩) 3 3, .slice (some ⟨u0.heap.size, 0, none⟩) 2 2] : List Value) = ([.pointer (some ⟨w.heap.size, 0, none⟩), .slice (some ⟨b0.heap.size, 0, none⟩) 3 3, .slice (some ⟨u0.heap.size, 0, none⟩) 2 2] : List Value) ∧ ∃ m, m < q1 ∧ i1 x2 x1 m)) (
  ([.pointer (some ⟨w.heap.size, 0, none⟩), .slice (some ⟨b0.heap.size, 0, none⟩) 3 3, .slice (some ⟨u0.heap.size, 0, none⟩) 2 2] : List Value) = ([.pointer (some ⟨w.heap.size, 0, none⟩), .slice (some ⟨b0.heap.size, 0, none⟩) 3 3, .slice (some ⟨u0.heap.size, 0, none⟩) 2 2] : List Value) ∧ h1 p1)) ∧
  ∀ y2 : Env, ∀ z2, h1 z2 →
  ∃ b3 : World → Prop,
  (∃ d3 : Int → World → Nat → Prop,
  (∃ n, d3 0 z2 n) ∧
  ∀ g3 : Env, ∀ h3 i3 j3, d3 h3 i3 j3 →
  sel (decide ((h3 : Int) < (2 : Int))) (
  ∃ k3 : Int → World → Nat → Prop,
  (∃ n, k3 0 i3 n) ∧
  ∀ p3 : Env, ∀ q3 t3 u3, k3 q3 t3 u3 →
  (0 : Int) ≤ h3 ∧ h3 < (2 : Int) ∧
  ∃ v3 x3 y3,
  t3.cell? ⟨u0.heap.size, 0 + h3.toNat * 1, none⟩ = some (.slice v3 x3 y3) ∧
  sel (decide ((q3 : Int) < ((x3 : Int) : Int))) (
  (0 : Int) ≤ h3 ∧ h3 < (2 : Int) ∧
  ∃ z3 b4 d4,
  t3.cell? ⟨u0.heap.size, 0 + h3.toNat * 1, none⟩ = some (.slice z3 b4 d4) ∧
  let g4 : Int := IntKind.i64.wrap ((-10) - h3);
  (0 : Int) ≤ q3 ∧ q3 < (b4 : Int) ∧
  needPtr z3 fun h4 i4 =>
  canStore t3 h4 (i4 + q3.toNat * 1) 1 ∧
  let j4 := setCs t3 h4 (i4 + q3.toNat * 1) [.int .i64 g4];
  let k4 : Int := IntKind.i64.wrap (q3 + 1);
  ([.pointer (some ⟨w.heap.size, 0, none⟩), .slice (some ⟨b0.heap.size, 0, none⟩) 3 3, .slice (some ⟨u0.heap.size, 0, none⟩) 2 2, .int .i64 h3] : List Value) = ([.pointer (some ⟨w.heap.size, 0, none⟩), .slice (some ⟨b0.heap.size, 0, none⟩) 3 3, .slice (some ⟨u0.heap.size, 0, none⟩) 2 2, .int .i64 h3] : List Value) ∧ ∃ m, m < u3 ∧ k3 k4 j4 m) (
  let p4 : Int := IntKind.i64.wrap (h3 + 1);
  ([.pointer (some ⟨w.heap.size, 0, none⟩), .slice (some ⟨b0.heap.size, 0, none⟩) 3 3, .slice (some ⟨u0.heap.size, 0, none⟩) 2 2] : List Value) = ([.pointer (some ⟨w.heap.size, 0, none⟩), .slice (some ⟨b0.heap.size, 0, none⟩) 3 3, .slice (some ⟨u0.heap.size, 0, none⟩) 2 2] : List Value) ∧ ∃ m, m < j3 ∧ d3 p4 t3 m)) (
  ([.pointer (some ⟨w.heap.size, 0, none⟩), .slice (some ⟨b0.heap.size, 0, none⟩) 3 3, .slice (some ⟨u0.heap.size, 0, none⟩) 2 2] : List Value) = ([.pointer (some ⟨w.heap.size, 0, none⟩), .slice (some ⟨b0.heap.size, 0, none⟩) 3 3, .slice (some ⟨u0.heap.size, 0, none⟩) 2 2] : List Value) ∧ b3 i3)) ∧
  ∀ q4 : Env, ∀ t4, b3 t4 →
  ∃ u4 : World → Prop,
  (∃ v4 : Int → World → Nat → Prop,
  (∃ n, v4 0 t4 n) ∧
  ∀ x4 : Env, ∀ y4 z4 b5, v4 y4 z4 b5 →
  ∃ d5 g5 h5,
  z4.cell? ⟨w.heap.size, 5, none⟩ = some (.slice d5 g5 h5) ∧
  sel (decide ((y4 : Int) < ((g5 : Int) : Int))) (
  ∃ i5 : Int → World → Nat → Prop,
  (∃ n, i5 0 z4 n) ∧
  ∀ j5 : Env, ∀ k5 p5 q5, i5 k5 p5 q5 →
  ∃ t5 u5 v5,
  p5.cell? ⟨w.heap.size, 5, none⟩ = some (.slice t5 u5 v5) ∧
  (0 : Int) ≤ y4 ∧ y4 < (u5 : Int) ∧
  needPtr t5 fun x5 y5 =>
  ∃ z5 b6 d6,
  p5.cell? ⟨x5, y5 + y4.toNat * 1, none⟩ = some (.slice z5 b6 d6) ∧
  sel (decide ((k5 : Int) < ((b6 : Int) : Int))) (
  ∃ g6 h6 i6,
  p5.cell? ⟨w.heap.size, 5, none⟩ = some (.slice g6 h6 i6) ∧
  (0 : Int) ≤ y4 ∧ y4 < (h6 : Int) ∧
  needPtr g6 fun j6 k6 =>
  ∃ p6 q6 t6,
  p5.cell? ⟨j6, k6 + y4.toNat * 1, none⟩ = some (.slice p6 q6 t6) ∧
  let u6 : Int := IntKind.i64.wrap (60000 + y4);
  let v6 : Int := IntKind.u16.wrap u6;
  (0 : Int) ≤ k5 ∧ k5 < (q6 : Int) ∧
  needPtr p6 fun x6 y6 =>
  canStore p5 x6 (y6 + k5.toNat * 1) 1 ∧
  let z6 := setCs p5 x6 (y6 + k5.toNat * 1) [.int .u16 v6];
  let b7 : Int := IntKind.i64.wrap (k5 + 1);
  ([.pointer (some ⟨w.heap.size, 0, none⟩), .slice (some ⟨b0.heap.size, 0, none⟩) 3 3, .slice (some ⟨u0.heap.size, 0, none⟩) 2 2, .int .i64 y4] : List Value) = ([.pointer (some ⟨w.heap.size, 0, none⟩), .slice (some ⟨b0.heap.size, 0, none⟩) 3 3, .slice (some ⟨u0.heap.size, 0, none⟩) 2 2, .int .i64 y4] : List Value) ∧ ∃ m, m < q5 ∧ i5 b7 z6 m) (
  let d7 : Int := IntKind.i64.wrap (y4 + 1);
  ([.pointer (some ⟨w.heap.size, 0, none⟩), .slice (some ⟨b0.heap.size, 0, none⟩) 3 3, .slice (some ⟨u0.heap.size, 0, none⟩) 2 2] : List Value) = ([.pointer (some ⟨w.heap.size, 0, none⟩), .slice (some ⟨b0.heap.size, 0, none⟩) 3 3, .slice (some ⟨u0.heap.size, 0, none⟩) 2 2] : List Value) ∧ ∃ m, m < b5 ∧ v4 d7 p5 m)) (
  ([.pointer (some ⟨w.heap.size, 0, none⟩), .slice (some ⟨b0.heap.size, 0, none⟩) 3 3, .slice (some ⟨u0.heap.size, 0, none⟩) 2 2] : List Value) = ([.pointer (some ⟨w.heap.size, 0, none⟩), .slice (some ⟨b0.heap.size, 0, none⟩) 3 3, .slice (some ⟨u0.heap.size, 0, none⟩) 2 2] : List Value) ∧ u4 z4)) ∧
  ∀ g7 : Env, ∀ h7, u4 h7 →
  ∃ i7 : World → Prop,
  (∃ j7 : Int → World → Nat → Prop,
  (∃ n, j7 0 h7 n) ∧
  ∀ k7 : Env, ∀ p7 q7 t7, j7 p7 q7 t7 →
  sel (decide ((p7 : Int) < (3 : Int))) (
  (0 : Int) ≤ p7 ∧ p7 < (3 : Int) ∧
  ∃ u7 v7 x7,
  q7.cell? ⟨b0.heap.size, 0 + p7.toNat * 1, none⟩ = some (.slice u7 v7 x7) ∧
  ∃ y7 : Option Addr → Nat → Nat → Int → World → Nat → Prop,
  (∃ n, y7 u7 v7 x7 0 q7 n) ∧
  ∀ z7 : Env, ∀ b8 d8 g8 h8 i8 j8, y7 b8 d8 g8 h8 i8 j8 →
  sel (decide ((h8 : Int) < (70 : Int))) (
  let k8 := World.alloc i8 (.cells #[.string ⟨#[43]⟩] 9);
  ∃ p8 q8 t8,
  ∃ u8, (Builtin.append_ #[27, 27] 27 #[.slice b8 d8 g8, .slice (some ⟨i8.heap.size, 0, none⟩) 1 1]).run Tryd.prog k8 = .ok (.slice p8 q8 t8) u8 ∧
  let v8 : Int := IntKind.i64.wrap (h8 + 1);
  ([.pointer (some ⟨w.heap.size, 0, none⟩), .slice (some ⟨b0.heap.size, 0, none⟩) 3 3, .slice (some ⟨u0.heap.size, 0, none⟩) 2 2, .int .i64 p7] : List Value) = ([.pointer (some ⟨w.heap.size, 0, none⟩), .slice (some ⟨b0.heap.size, 0, none⟩) 3 3, .slice (some ⟨u0.heap.size, 0, none⟩) 2 2, .int .i64 p7] : List Value) ∧ ∃ m, m < j8 ∧ y7 p8 q8 t8 v8 u8 m) (
  let x8 : Int := IntKind.i64.wrap (p7 + 1);
  ([.pointer (some ⟨w.heap.size, 0, none⟩), .slice (some ⟨b0.heap.size, 0, none⟩) 3 3, .slice (some ⟨u0.heap.size, 0, none⟩) 2 2] : List Value) = ([.pointer (some ⟨w.heap.size, 0, none⟩), .slice (some ⟨b0.heap.size, 0, none⟩) 3 3, .slice (some ⟨u0.heap.size, 0, none⟩) 2 2] : List Value) ∧ ∃ m, m < t7 ∧ j7 x8 i8 m)) (
  ([.pointer (some ⟨w.heap.size, 0, none⟩), .slice (some ⟨b0.heap.size, 0, none⟩) 3 3, .slice (some ⟨u0.heap.size, 0, none⟩) 2 2] : List Value) = ([.pointer (some ⟨w.heap.size, 0, none⟩), .slice (some ⟨b0.heap.size, 0, none⟩) 3 3, .slice (some ⟨u0.heap.size, 0, none⟩) 2 2] : List Value) ∧ i7 q7)) ∧
  ∀ y8 : Env, ∀ z8, i7 z8 →
  ∃ b9 : World → Prop,
  (∃ d9 : Int → World → Nat → Prop,
  (∃ n, d9 0 z8 n) ∧
  ∀ g9 : Env, ∀ h9 i9 j9, d9 h9 i9 j9 →
  sel (decide ((h9 : Int) < (2 : Int))) (
  (0 : Int) ≤ h9 ∧ h9 < (2 : Int) ∧
  ∃ k9 p9 q9,
  i9.cell? ⟨u0.heap.size, 0 + h9.toNat * 1, none⟩ = some (.slice k9 p9 q9) ∧
  ∃ t9 : Option Addr → Nat → Nat → Int → World → Nat → Prop,
  (∃ n, t9 k9 p9 q9 0 i9 n) ∧
  ∀ u9 : Env, ∀ v9 x9 y9 z9 bA dA, t9 v9 x9 y9 z9 bA dA →
  sel (decide ((z9 : Int) < (70 : Int))) (
  let gA := World.alloc bA (.cells #[.int .i64 (-20)] 3);
  ∃ hA iA jA,
  ∃ kA, (Builtin.append_ #[28, 28] 28 #[.slice v9 x9 y9, .slice (some ⟨bA.heap.size, 0, none⟩) 1 1]).run Tryd.prog gA = .ok (.slice hA iA jA) kA ∧
  let pA : Int := IntKind.i64.wrap (z9 + 1);
  ([.pointer (some ⟨w.heap.size, 0, none⟩), .slice (some ⟨b0.heap.size, 0, none⟩) 3 3, .slice (some ⟨u0.heap.size, 0, none⟩) 2 2, .int .i64 h9] : List Value) = ([.pointer (some ⟨w.heap.size, 0, none⟩), .slice (some ⟨b0.heap.size, 0, none⟩) 3 3, .slice (some ⟨u0.heap.size, 0, none⟩) 2 2, .int .i64 h9] : List Value) ∧ ∃ m, m < dA ∧ t9 hA iA jA pA kA m) (
  let qA : Int := IntKind.i64.wrap (h9 + 1);
  ([.pointer (some ⟨w.heap.size, 0, none⟩), .slice (some ⟨b0.heap.size, 0, none⟩) 3 3, .slice (some ⟨u0.heap.size, 0, none⟩) 2 2] : List Value) = ([.pointer (some ⟨w.heap.size, 0, none⟩), .slice (some ⟨b0.heap.size, 0, none⟩) 3 3, .slice (some ⟨u0.heap.size, 0, none⟩) 2 2] : List Value) ∧ ∃ m, m < j9 ∧ d9 qA bA m)) (
  ([.pointer (some ⟨w.heap.size, 0, none⟩), .slice (some ⟨b0.heap.size, 0, none⟩) 3 3, .slice (some ⟨u0.heap.size, 0, none⟩) 2 2] : List Value) = ([.pointer (some ⟨w.heap.size, 0, none⟩), .slice (some ⟨b0.heap.size, 0, none⟩) 3 3, .slice (some ⟨u0.heap.size, 0, none⟩) 2 2] : List Value) ∧ b9 i9)) ∧
  ∀ tA : Env, ∀ uA, b9 uA →
  ∃ vA : World → Prop,
  (∃ xA : Int → World → Nat → Prop,
  (∃ n, xA 0 uA n) ∧
  ∀ yA : Env, ∀ zA bB dB, xA zA bB dB →
  ∃ gB hB iB,
  bB.cell? ⟨w.heap.size, 5, none⟩ = some (.slice gB hB iB) ∧
  sel (decide ((zA : Int) < ((hB : Int) : Int))) (
  ∃ jB kB pB,
  bB.cell? ⟨w.heap.size, 5, none⟩ = some (.slice jB kB pB) ∧
  (0 : Int) ≤ zA ∧ zA < (kB : Int) ∧
  needPtr jB fun qB tB =>
  ∃ uB vB xB,
  bB.cell? ⟨qB, tB + zA.toNat * 1, none⟩ = some (.slice uB vB xB) ∧
  ∃ yB : Option Addr → Nat → Nat → Int → World → Nat → Prop,
  (∃ n, yB uB vB xB 0 bB n) ∧
  ∀ zB : Env, ∀ bC dC gC hC iC jC, yB bC dC gC hC iC jC →
  sel (decide ((hC : Int) < (70 : Int))) (
  let kC := World.alloc iC (.cells #[.int .u16 50000] 59);
  ∃ pC qC tC,
  ∃ uC, (Builtin.append_ #[29, 29] 29 #[.slice bC dC gC, .slice (some ⟨iC.heap.size, 0, none⟩) 1 1]).run Tryd.prog kC = .ok (.slice pC qC tC) uC ∧
  let vC : Int := IntKind.i64.wrap (hC + 1);
  ([.pointer (some ⟨w.heap.size, 0, none⟩), .slice (some ⟨b0.heap.size, 0, none⟩) 3 3, .slice (some ⟨u0.heap.size, 0, none⟩) 2 2, .int .i64 zA] : List Value) = ([.pointer (some ⟨w.heap.size, 0, none⟩), .slice (some ⟨b0.heap.size, 0, none⟩) 3 3, .slice (some ⟨u0.heap.size, 0, none⟩) 2 2, .int .i64 zA] : List Value) ∧ ∃ m, m < jC ∧ yB pC qC tC vC uC m) (
  let xC : Int := IntKind.i64.wrap (zA + 1);
  ([.pointer (some ⟨w.heap.size, 0, none⟩), .slice (some ⟨b0.heap.size, 0, none⟩) 3 3, .slice (some ⟨u0.heap.size, 0, none⟩) 2 2] : List Value) = ([.pointer (some ⟨w.heap.size, 0, none⟩), .slice (some ⟨b0.heap.size, 0, none⟩) 3 3, .slice (some ⟨u0.heap.size, 0, none⟩) 2 2] : List Value) ∧ ∃ m, m < dB ∧ xA xC iC m)) (
  ([.pointer (some ⟨w.heap.size, 0, none⟩), .slice (some ⟨b0.heap.size, 0, none⟩) 3 3, .slice (some ⟨u0.heap.size, 0, none⟩) 2 2] : List Value) = ([.pointer (some ⟨w.heap.size, 0, none⟩), .slice (some ⟨b0.heap.size, 0, none⟩) 3 3, .slice (some ⟨u0.heap.size, 0, none⟩) 2 2] : List Value) ∧ vA bB)) ∧
  ∀ yC : Env, ∀ zC, vA zC →
  ∃ bD : World → Prop,
  (∃ dD : Int → World → Nat → Prop,
  (∃ n, dD 0 zC n) ∧
  ∀ gD : Env, ∀ hD iD jD, dD hD iD jD →
  sel (decide ((hD : Int) < (3 : Int))) (
  ∃ kD : Int → World → Nat → Prop,
  (∃ n, kD 0 iD n) ∧
  ∀ pD : Env, ∀ qD tD uD, kD qD tD uD →
  (0 : Int) ≤ hD ∧ hD < (3 : Int) ∧
  ∃ vD xD yD,
  tD.cell? ⟨b0.heap.size, 0 + hD.toNat * 1, none⟩ = some (.slice vD xD yD) ∧
  sel (decide ((qD : Int) < ((xD : Int) : Int))) (
  (0 : Int) ≤ hD ∧ hD < (3 : Int) ∧
  ∃ zD bE dE,
  tD.cell? ⟨b0.heap.size, 0 + hD.toNat * 1, none⟩ = some (.slice zD bE dE) ∧
  (0 : Int) ≤ qD ∧ qD < (bE : Int) ∧
  needPtr zD fun gE hE =>
  ∃ iE,
  tD.cell? ⟨gE, hE + qD.toNat * 1, none⟩ = some (.string iE) ∧
  Calls Tryd.prog 8 #[.int .i64 hD] tD.drew fun jE kE =>
  ∃ pE,
  jE = .returned (.string pE) ∧
  (kE.cell? ⟨gE, hE + qD.toNat * 1, none⟩ = some (.string iE) ∧ kE.cell? ⟨b0.heap.size, 0 + hD.toNat * 1, none⟩ = some (.slice zD bE dE) ∧ True) ∧
  ((⟨#[35]⟩) : ByteArray).size + (pE : ByteArray).size ≤ 9223372036854775807 ∧
  sel (!(decide (iE = ((⟨#[35]⟩ : ByteArray) ++ (pE : ByteArray))))) (
  R (.bool false) kE) (
  let qE : Int := IntKind.i64.wrap (qD + 1);
  ([.pointer (some ⟨w.heap.size, 0, none⟩), .slice (some ⟨b0.heap.size, 0, none⟩) 3 3, .slice (some ⟨u0.heap.size, 0, none⟩) 2 2, .int .i64 hD] : List Value) = ([.pointer (some ⟨w.heap.size, 0, none⟩), .slice (some ⟨b0.heap.size, 0, none⟩) 3 3, .slice (some ⟨u0.heap.size, 0, none⟩) 2 2, .int .i64 hD] : List Value) ∧ ∃ m, m < uD ∧ kD qE kE m)) (
  let tE : Int := IntKind.i64.wrap (hD + 1);
  ([.pointer (some ⟨w.heap.size, 0, none⟩), .slice (some ⟨b0.heap.size, 0, none⟩) 3 3, .slice (some ⟨u0.heap.size, 0, none⟩) 2 2] : List Value) = ([.pointer (some ⟨w.heap.size, 0, none⟩), .slice (some ⟨b0.heap.size, 0, none⟩) 3 3, .slice (some ⟨u0.heap.size, 0, none⟩) 2 2] : List Value) ∧ ∃ m, m < jD ∧ dD tE tD m)) (
  ([.pointer (some ⟨w.heap.size, 0, none⟩), .slice (some ⟨u0.heap.size, 0, none⟩) 2 2] : List Value) = ([.pointer (some ⟨w.heap.size, 0, none⟩), .slice (some ⟨u0.heap.size, 0, none⟩) 2 2] : List Value) ∧ bD iD)) ∧
  ∀ uE : Env, ∀ vE, bD vE →
  ∃ xE : World → Prop,
  (∃ yE : Int → World → Nat → Prop,
  (∃ n, yE 0 vE n) ∧
  ∀ zE : Env, ∀ bF dF gF, yE bF dF gF →
  sel (decide ((bF : Int) < (2 : Int))) (
  ∃ hF : Int → World → Nat → Prop,
  (∃ n, hF 0 dF n) ∧
  ∀ iF : Env, ∀ jF kF pF, hF jF kF pF →
  (0 : Int) ≤ bF ∧ bF < (2 : Int) ∧
  ∃ qF tF uF,
  kF.cell? ⟨u0.heap.size, 0 + bF.toNat * 1, none⟩ = some (.slice qF tF uF) ∧
  sel (decide ((jF : Int) < ((tF : Int) : Int))) (
  (0 : Int) ≤ bF ∧ bF < (2 : Int) ∧
  ∃ vF xF yF,
  kF.cell? ⟨u0.heap.size, 0 + bF.toNat * 1, none⟩ = some (.slice vF xF yF) ∧
  (0 : Int) ≤ jF ∧ jF < (xF : Int) ∧
  needPtr vF fun zF bG =>
  ∃ dG,
  kF.cell? ⟨zF, bG + jF.toNat * 1, none⟩ = some (.int .i64 dG) ∧
  let gG : Int := IntKind.i64.wrap ((-10) - bF);
  sel ((dG : Int) != (gG : Int)) (
  R (.bool false) kF) (
  let hG : Int := IntKind.i64.wrap (jF + 1);
  ([.pointer (some ⟨w.heap.size, 0, none⟩), .slice (some ⟨u0.heap.size, 0, none⟩) 2 2, .int .i64 bF] : List Value) = ([.pointer (some ⟨w.heap.size, 0, none⟩), .slice (some ⟨u0.heap.size, 0, none⟩) 2 2, .int .i64 bF] : List Value) ∧ ∃ m, m < pF ∧ hF hG kF m)) (
  let iG : Int := IntKind.i64.wrap (bF + 1);
  ([.pointer (some ⟨w.heap.size, 0, none⟩), .slice (some ⟨u0.heap.size, 0, none⟩) 2 2] : List Value) = ([.pointer (some ⟨w.heap.size, 0, none⟩), .slice (some ⟨u0.heap.size, 0, none⟩) 2 2] : List Value) ∧ ∃ m, m < gF ∧ yE iG kF m)) (
  ([.pointer (some ⟨w.heap.size, 0, none⟩)] : List Value) = ([.pointer (some ⟨w.heap.size, 0, none⟩)] : List Value) ∧ xE dF)) ∧
  ∀ jG : Env, ∀ kG, xE kG →
  ∃ pG : Int → World → Nat → Prop,
  (∃ n, pG 0 kG n) ∧
  ∀ qG : Env, ∀ tG uG vG, pG tG uG vG →
  ∃ xG yG zG,
  uG.cell? ⟨w.heap.size, 5, none⟩ = some (.slice xG yG zG) ∧
  sel (decide ((tG : Int) < ((yG : Int) : Int))) (
  ∃ bH : Int → World → Nat → Prop,
  (∃ n, bH 0 uG n) ∧
  ∀ dH : Env, ∀ gH hH iH, bH gH hH iH →
  ∃ jH kH pH,
  hH.cell? ⟨w.heap.size, 5, none⟩ = some (.slice jH kH pH) ∧
  (0 : Int) ≤ tG ∧ tG < (kH : Int) ∧
  needPtr jH fun qH tH =>
  ∃ uH vH xH,
  hH.cell? ⟨qH, tH + tG.toNat * 1, none⟩ = some (.slice uH vH xH) ∧
  sel (decide ((gH : Int) < ((vH : Int) : Int))) (
  ∃ yH zH bI,
  hH.cell? ⟨w.heap.size, 5, none⟩ = some (.slice yH zH bI) ∧
  (0 : Int) ≤ tG ∧ tG < (zH : Int) ∧
  needPtr yH fun dI gI =>
  ∃ hI iI jI,
  hH.cell? ⟨dI, gI + tG.toNat * 1, none⟩ = some (.slice hI iI jI) ∧
  (0 : Int) ≤ gH ∧ gH < (iI : Int) ∧
  needPtr hI fun kI pI =>
  ∃ qI,
  hH.cell? ⟨kI, pI + gH.toNat * 1, none⟩ = some (.int .u16 qI) ∧
  let tI : Int := IntKind.i64.wrap (60000 + tG);
  let uI : Int := IntKind.u16.wrap tI;
  sel ((qI : Int) != (uI : Int)) (
  R (.bool false) hH) (
  let vI : Int := IntKind.i64.wrap (gH + 1);
  ([.pointer (some ⟨w.heap.size, 0, none⟩), .int .i64 tG] : List Value) = ([.pointer (some ⟨w.heap.size, 0, none⟩), .int .i64 tG] : List Value) ∧ ∃ m, m < iH ∧ bH vI hH m)) (
  let xI : Int := IntKind.i64.wrap (tG + 1);
  ([.pointer (some ⟨w.heap.size, 0, none⟩)] : List Value) = ([.pointer (some ⟨w.heap.size, 0, none⟩)] : List Value) ∧ ∃ m, m < vG ∧ pG xI hH m)) (
  R (.bool true) uG)
theorem f18.eq (Aa0_0 : Option Addr) (na0_0 ca0_0 : Nat) (Aa0_1 : Option Addr) (na0_1 ca0_1 : Nat) (Aa0_2 : Option Addr) (na0_2 ca0_2 : Nat) (Aa0_3 : Option Addr) (na0_3 ca0_3 : Nat) (Aa0_4 : Option Addr) (na0_4 ca0_4 : Nat) (Aa0_5 : Option Addr) (na0_5 ca0_5 : Nat) (w : World) (R : Value → World → Prop) : f18.VC Aa0_0 na0_0 ca0_0 Aa0_1 na0_1 ca0_1 Aa0_2 na0_2 ca0_2 Aa0_3 na0_3 ca0_3 Aa0_4 na0_4 ca0_4 Aa0_5 na0_5 ca0_5 w R = funV Tryd.prog Tryd.f18 f18.AL f18.AC #[.agg #[.slice Aa0_0 na0_0 ca0_0, .slice Aa0_1 na0_1 ca0_1, .slice Aa0_2 na0_2 ca0_2, .slice Aa0_3 na0_3 ca0_3, .slice Aa0_4 na0_4 ca0_4, .slice Aa0_5 na0_5 ca0_5]] w R := by kernel_rfl
theorem f18.calls {Aa0_0 : Option Addr} {na0_0 ca0_0 : Nat} {Aa0_1 : Option Addr} {na0_1 ca0_1 : Nat} {Aa0_2 : Option Addr} {na0_2 ca0_2 : Nat} {Aa0_3 : Option Addr} {na0_3 ca0_3 : Nat} {Aa0_4 : Option Addr} {na0_4 ca0_4 : Nat} {Aa0_5 : Option Addr} {na0_5 ca0_5 : Nat} {w : World} {R : Value → World → Prop} (h : f18.VC Aa0_0 na0_0 ca0_0 Aa0_1 na0_1 ca0_1 Aa0_2 na0_2 ca0_2 Aa0_3 na0_3 ca0_3 Aa0_4 na0_4 ca0_4 Aa0_5 na0_5 ca0_5 w R) : Calls Tryd.prog 18 #[.agg #[.slice Aa0_0 na0_0 ca0_0, .slice Aa0_1 na0_1 ca0_1, .slice Aa0_2 na0_2 ca0_2, .slice Aa0_3 na0_3 ca0_3, .slice Aa0_4 na0_4 ca0_4, .slice Aa0_5 na0_5 ca0_5]] w fun e w' => ∃ v, e = .returned v ∧ R v w' :=
  funV_sound (fn := Tryd.f18) (AL := f18.AL) (AC := f18.AC) DW2.mixed (by kernel_rfl) (by rw [← f18.eq Aa0_0 na0_0 ca0_0 Aa0_1 na0_1 ca0_1 Aa0_2 na0_2 ca0_2 Aa0_3 na0_3 ca0_3 Aa0_4 na0_4 ca0_4 Aa0_5 na0_5 ca0_5]; exact h)

end Go.Proofs.YtjmlfknogjaemaaDoor
