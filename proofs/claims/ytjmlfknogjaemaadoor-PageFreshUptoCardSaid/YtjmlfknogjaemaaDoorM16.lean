/- Things that lie anywhere are appended to a list. -/
import Derived.Test.YtjmlfknogjaemaaDoorM12
import Derived.Deep.Upon
import Derived.Test.YtjmlfknogjaemaaDoorM5
import Derived.Test.YtjmlfknogjaemaaDoorProg
import Derived.KernelRfl
import Derived.Test.YtjmlfknogjaemaaDoorM15
set_option linter.unusedVariables false
set_option linter.unusedSimpArgs false
namespace Go.Proofs.YtjmlfknogjaemaaDoor.Vc
open Go
theorem append_rowsA {P : Program} {w : World} {t ty e : TypeId} {i : TypeInfo} {z : Value} {s : Nat} {rs : List (List Value)} {v : Value} {news : List (List Value)} {a0 : Addr} {c : Nat}
    (ht : P.underlying t = some (.slice e)) (hi : P.info? e = some i) (hz : i.zero = some z) (hsize : i.size = s) (hzs : z.cells.size = s) (hs : 0 < s)
    (hown : (v = .slice none 0 0 ∧ rs = []) ∨ ∃ g cap, v = .slice (some ⟨g, 0, none⟩) rs.length cap ∧ Row w e s g cap rs)
    (hnews : ∀ (j : Nat) (u : Value), news.flatten[j]? = some u → w.cell? (a0.add j) = some u) (hr : ∀ x ∈ news, x.length = s) (h1 : ∀ u ∈ news.flatten, u.oneCell' = true) (hrs : ∀ x ∈ rs, x.length = s) (hm0 : 0 < news.length)
    (hbytes : (rs.length + news.length) * i.bytes ≤ 140737488355328) (hmax : rs.length + news.length ≤ maxLen) :
    ∃ g' cap' w', (Builtin.append_ #[t, t] ty #[v, .slice (some a0) news.length c]).run P w = .ok (.slice (some ⟨g', 0, none⟩) (rs.length + news.length) cap') w' ∧
      Row w' e s g' cap' (rs ++ news) ∧ ((v = .slice (some ⟨g', 0, none⟩) rs.length cap' ∧ Fr [g'] w w') ∨ (w.heap.size ≤ g' ∧ Fr [] w w')) := by
  have hnl : news.flatten.length = news.length * s := flat_len hr
  have hl : news.flatten.length = news.length * i.size := by rw [hnl, hsize]
  have hrs' : ∀ x ∈ rs ++ news, x.length = s := by
    intro x hx
    rcases List.mem_append.mp hx with hx | hx
    · exact hrs x hx
    · exact hr x hx
  have hflat : (rs ++ news).flatten = rs.flatten ++ news.flatten := by simp
  have fin : ∀ (v' : Value) (w' : World) (base : Nat), w'.ownsRow base e s v' (rs.length + news.length) (rs.flatten ++ news.flatten) → ∃ g' cap', v' = .slice (some ⟨g', 0, none⟩) (rs.length + news.length) cap' ∧ Row w' e s g' cap' (rs ++ news) ∧ base ≤ g' := by
    intro v' w' base ho
    rcases ho.2 with ⟨_, h⟩ | ⟨g', cap', cur, rfl, hbg, hg, hnc, hcm, hcs, htake⟩
    · omega
    · refine ⟨g', cap', rfl, (Row.ofOwn hs (n := rs.length + news.length) ?_ hrs').1, hbg⟩
      rw [hflat]
      exact ⟨ho.1, .inr ⟨g', cap', cur, rfl, Nat.zero_le _, hg, hnc, hcm, hcs, htake⟩⟩
  rcases hown with ⟨rfl, rfl⟩ | ⟨g, cap, rfl, hR⟩
  · obtain ⟨v', w', hrun, ho, hg, _⟩ := run_append_own (P := P) w w.heap.size t ty e i z s i.bytes ht hi hz hsize rfl hzs hs (.slice none 0 0) 0 [] (World.ownsRow_nil w _ e s) a0 news.length c news.flatten (by rw [← hsize]; exact hl) hnews h1
      (by simpa using hmax) (by simpa using hbytes) (Nat.le_refl _)
    obtain ⟨g', cap', rfl, hR, hbg⟩ := fin v' w' _ (by simpa using ho)
    have hx := run_append_nil (P := P) w t ty e i z ht hi hz a0 news.length c news.flatten hl hnews (by omega) (by simp only [maxLen, List.length_nil] at hmax; omega) (by simp only [List.length_nil, Nat.zero_add] at hbytes ⊢; omega)
    have hw : w' = w.drew.alloc (.cells (news.flatten.toArray ++ Builtin.zeroCells z.cells (grownCap w news.length 0 e - news.length)) e) := by
      rw [hx] at hrun; injection hrun with _ h; exact h.symm
    exact ⟨g', cap', w', hrun, hR, .inr ⟨hbg, by rw [hw]; exact (Fr.refl _ w).drew.alloc⟩⟩
  · have hO := hR.toOwn hs
    by_cases hroom : rs.length + news.length ≤ cap
    · obtain ⟨w', hrun, ho, hg⟩ := run_append_fits (P := P) w 0 t ty e i s ht hi hsize g rs.length cap rs.flatten hO a0 news.length c news.flatten (by rw [← hsize]; exact hl) hnews h1 hroom
      obtain ⟨g', cap', he, hR', _⟩ := fin _ w' _ ho
      simp only [Value.slice.injEq, Option.some.injEq, Addr.mk.injEq, and_true, true_and] at he
      obtain ⟨rfl, rfl⟩ := he
      have hfr : ∀ a, w'.frozen? a = w.frozen? a := by
        obtain ⟨cur, hbk, hcs, _⟩ := hR
        have hx := run_append_room (P := P) w t ty e i ht hi g rs.length cap cur hbk a0 news.length c news.flatten hl hnews h1 hroom (by
          have : (rs.length + news.length) * s ≤ cap * s := Nat.mul_le_mul_right s hroom
          rw [Nat.add_mul] at this; rw [hsize, hcs, hnl]; omega)
        rw [hx] at hrun
        injection hrun with _ hw
        intro x
        rw [← hw]
        exact frozen_setRow w g _ x
      exact ⟨g, cap, w', hrun, hR', .inl ⟨rfl, Fr.of_grown hg hfr (by simp [Value.ownBlock])⟩⟩
    · have hcap := hR.cap_le
      have hl2 := flat_len hrs
      have holds := hO.cells (g := g) rfl
      have hrun := run_append_grow (P := P) w t ty e i z ht hi hz ⟨g, 0, none⟩ rs.length cap rs.flatten (by rw [hl2, hsize]) holds a0 news.length c news.flatten hl hnews (by omega) (by simp only [maxLen] at hmax; omega) (growslice_fits (by omega) hbytes)
      have hge := grownCap_ge w (rs.length + news.length) cap e
      refine ⟨_, _, _, hrun, (Row.ofOwn hs (n := rs.length + news.length) ?_ hrs').1, .inr ⟨Nat.le_refl _, (Fr.refl _ w).drew.alloc⟩⟩
      rw [hflat]
      refine ⟨by rw [List.length_append, hl2, hnl, Nat.add_mul], .inr ⟨w.heap.size, _, _, rfl, Nat.zero_le _, Blk.newd, hge, grownCap_le_maxLen w _ cap e hmax, ?_, ?_⟩⟩
      · simp only [Array.size_append, List.size_toArray, size_zeroCells, hzs, hl2, hnl]
        rw [← Nat.add_mul, ← Nat.add_mul]
        congr 1
        omega
      · have : (rs.flatten ++ news.flatten).length = (rs.length + news.length) * s := by rw [List.length_append, hl2, hnl, Nat.add_mul]
        rw [← this]
        simp only [Array.toList_append, List.append_assoc]
        rw [← List.append_assoc]
        exact List.take_left


theorem flat_one {α : Type} (enc : α → Value) : ∀ l : List α, (l.map fun a => [enc a]).flatten = l.map enc
  | [] => rfl
  | a :: l => by simp [flat_one enc l]
/-- Many things more, that lie anywhere. -/
theorem St.appMany {α : Type} (d : α) {enc : α → Value} (henc : ∀ a, (enc a).oneCell' = true) {P : Program} {t ty e : TypeId} {ti : TypeInfo} {z : Value} (ht : P.underlying t = some (.slice e)) (hti : P.info? e = some ti) (hz : ti.zero = some z) (hsize : ti.size = 1) (hzs : z.cells.size = 1) (hb : ti.bytes ≤ 1000)
    {S : List Nat} {w0 w : World} {L : List Chunk} (h : St S w0 w L) (i : Nat) {A : Option Addr} {n c : Nat} {l : List α} (hi : L[i]? = some (Chunk.ls enc e (.slice A n c) l)) {A2 : Option Addr} {n2 c2 : Nat} {k : List α}
    (hn : n2 = k.length) (hk : 0 < n2 → ∃ b o, A2 = some ⟨b, o, Option.none⟩ ∧ ∀ i, i < n2 → w.cell? ⟨b, o + i, Option.none⟩ = some (enc (k.getD i d))) (hl : l.length + k.length ≤ 40000000) :
    ∃ A' n' c' w', (Builtin.append_ #[t, t] ty #[.slice A n c, .slice A2 n2 c2]).run P w = .ok (.slice A' n' c') w' ∧ St S w0 w' (L.set i (Chunk.ls enc e (.slice A' n' c') (l ++ k))) := by
  have hil : i < L.length := (List.getElem?_eq_some_iff.1 hi).1
  rcases Nat.eq_zero_or_pos n2 with h0 | h0
  · subst h0
    have hk0 : k = [] := List.eq_nil_of_length_eq_zero hn.symm
    subst hk0
    have hsrc : Src P ti.size t (.slice A2 0 c2) 0 [] w := by
      cases A2 with
      | none => exact Src.ofNil w ht c2
      | some a => exact Src.ofSlice w ht a 0 c2 [] (by simp) (by simp) (by simp)
    have hle : n ≤ c := by
      obtain ⟨F, h1, _⟩ := h.at i hi
      rcases h1 with ⟨h1, h2, _⟩ | ⟨g, cap, h1, _, h2⟩
      · injection h1 with _ e1 e2; omega
      · injection h1 with _ e1 e2
        obtain ⟨_, _, _, h5, _⟩ := h2
        omega
    refine ⟨A, n, c, w, run_append_nothing w t t ty e ti ht hti A n c hle _ hsrc, ?_⟩
    rw [List.append_nil]
    have e : L.set i (Chunk.ls enc e (.slice A n c) l) = L := by
      apply List.ext_getElem?
      intro q
      by_cases hq : q = i
      · subst hq; rw [List.getElem?_set_self hil, hi]
      · rw [List.getElem?_set_ne (Ne.symm hq)]
    rw [e]; exact h
  · obtain ⟨b, o, rfl, hc⟩ := hk h0
    obtain ⟨F, k1, _, k3⟩ := h.at i hi
    have el : (l.map fun a => [enc a]).length = l.length := by simp
    have ek : (k.map fun a => [enc a]).length = k.length := by simp
    obtain ⟨g', cap', w', hrun, hR, hg⟩ := append_rowsA (P := P) (w := w) (t := t) (ty := ty) (e := e) (i := ti) (z := z) (s := 1) (rs := l.map fun a => [enc a]) (v := .slice A n c) (news := k.map fun a => [enc a]) (a0 := ⟨b, o, Option.none⟩) (c := c2) ht hti hz hsize hzs (by decide)
      (by
        rcases k1 with ⟨k1, k2, _⟩ | ⟨g, cap, k1, _, k2⟩
        · exact .inl ⟨k1, k2⟩
        · exact .inr ⟨g, cap, k1, k2⟩)
      (by
        rw [flat_one]
        intro j u hu
        have hj : j < k.length := by
          have := (List.getElem?_eq_some_iff.1 hu).1
          simpa using this
        rw [Addr.add_lit, hc j (by omega)]
        rw [← hu]
        simp [List.getD_eq_getElem?_getD, hj])
      (by simp) (by rw [flat_one]; intro u hu; obtain ⟨a, _, rfl⟩ := List.mem_map.1 hu; exact henc a) (by simp) (by rw [ek]; omega) (by rw [el, ek]; have := Nat.mul_le_mul (show l.length + k.length ≤ 40000000 by omega) hb; omega) (by rw [el, ek]; simp [maxLen]; omega)
    rw [el, ek] at hrun
    rw [show (l.map fun a => [enc a]) ++ (k.map fun a => [enc a]) = (l ++ k).map (fun a => [enc a]) by simp] at hR
    rw [← hn] at hrun
    refine ⟨_, _, _, w', hrun, ?_⟩
    have eN : l.length + n2 = ((l ++ k).map fun a => [enc a]).length := by simp; omega
    rw [eN]
    rcases hg with ⟨hv, hf⟩ | ⟨hge, hf⟩
    · refine k3 (F' := [g']) (hf.mono ?_) (.inr ⟨g', cap', rfl, rfl, hR⟩) ?_
      · intro x hx
        rcases k1 with ⟨k1, _, _⟩ | ⟨g, cap, k1, rfl, _⟩
        · rw [k1] at hv; cases hv
        · rw [k1] at hv; injection hv with e1 e2 e3; simp at e1; subst e1; exact hx
      · intro x hx
        rcases k1 with ⟨k1, _, _⟩ | ⟨g, cap, k1, rfl, _⟩
        · rw [k1] at hv; cases hv
        · rw [k1] at hv; injection hv with e1 e2 e3; simp at e1; subst e1; exact .inl hx
    · exact k3 (F' := [g']) (hf.mono (by simp)) (.inr ⟨g', cap', rfl, rfl, hR⟩) (fun x hx => by simp at hx; subst hx; exact .inr hge)
end Go.Proofs.YtjmlfknogjaemaaDoor.Vc
/- The plain statements of some functions, printed by vcgen.py. -/
set_option maxRecDepth 100000
set_option maxHeartbeats 4000000
set_option linter.unusedVariables false
namespace Go.Proofs.YtjmlfknogjaemaaDoor
open Go Go.Proofs.YtjmlfknogjaemaaDoor.Vc
theorem W9.mixed : Tryd.prog.follows .mixedOrders = true := by kernel_rfl
/-- gatehouse/page.places -/
def f26.AL : Nat → Option Ann := fun r => match r with | 2 => some ⟨[(3, .int .i64)], [1]⟩ | _ => none
def f26.AC : Nat → Option Ann := fun _ => none
def f26.VC (Aa0_0 : Option Addr) (na0_0 ca0_0 : Nat) (Aa0_1 : Option Addr) (na0_1 ca0_1 : Nat) (Aa0_2 : Option Addr) (na0_2 ca0_2 : Nat) (Aa0_3 : Option Addr) (na0_3 ca0_3 : Nat) (Aa0_4 : Option Addr) (na0_4 ca0_4 : Nat) (Aa0_5 : Option Addr) (na0_5 ca0_5 : Nat) (w : World) (R : Value → World → Prop) : Prop :=
  let b0 := World.alloc w (.cells #[.slice Aa0_0 na0_0 ca0_0, .slice Aa0_1 na0_1 ca0_1, .slice Aa0_2 na0_2 ca0_2, .slice Aa0_3 na0_3 ca0_3, .slice Aa0_4 na0_4 ca0_4, .slice Aa0_5 na0_5 ca0_5] 32);
  ∃ d0 : Int → World → Nat → Prop,
  (∃ n, d0 2 b0 n) ∧
  ∀ g0 : Env, ∀ h0 i0 j0, d0 h0 i0 j0 →
  ∃ k0 p0 q0,
  i0.cell? ⟨w.heap.size, 0, none⟩ = some (.slice k0 p0 q0) ∧
  ∃ t0 u0 v0,
  i0.cell? ⟨w.heap.size, 1, none⟩ = some (.slice t0 u0 v0) ∧
  let x0 : Int := IntKind.i64.wrap ((p0 : Int) + (u0 : Int));
  ∃ y0 z0 b1,
  i0.cell? ⟨w.heap.size, 2, none⟩ = some (.slice y0 z0 b1) ∧
  let d1 : Int := IntKind.i64.wrap (x0 + (z0 : Int));
  let g1 : Int := IntKind.i64.wrap (2 * d1);
  sel (decide ((h0 : Int) < (g1 : Int))) (
  (0 : Int) ≤ 1 ∧
  let h1 : Int := shlI .i64 h0 1;
  ([.pointer (some ⟨w.heap.size, 0, none⟩)] : List Value) = ([.pointer (some ⟨w.heap.size, 0, none⟩)] : List Value) ∧ ∃ m, m < j0 ∧ d0 h1 i0 m) (
  R (.int .i64 h0) i0)
theorem f26.eq (Aa0_0 : Option Addr) (na0_0 ca0_0 : Nat) (Aa0_1 : Option Addr) (na0_1 ca0_1 : Nat) (Aa0_2 : Option Addr) (na0_2 ca0_2 : Nat) (Aa0_3 : Option Addr) (na0_3 ca0_3 : Nat) (Aa0_4 : Option Addr) (na0_4 ca0_4 : Nat) (Aa0_5 : Option Addr) (na0_5 ca0_5 : Nat) (w : World) (R : Value → World → Prop) : f26.VC Aa0_0 na0_0 ca0_0 Aa0_1 na0_1 ca0_1 Aa0_2 na0_2 ca0_2 Aa0_3 na0_3 ca0_3 Aa0_4 na0_4 ca0_4 Aa0_5 na0_5 ca0_5 w R = funV Tryd.prog Tryd.f26 f26.AL f26.AC #[.agg #[.slice Aa0_0 na0_0 ca0_0, .slice Aa0_1 na0_1 ca0_1, .slice Aa0_2 na0_2 ca0_2, .slice Aa0_3 na0_3 ca0_3, .slice Aa0_4 na0_4 ca0_4, .slice Aa0_5 na0_5 ca0_5]] w R := by kernel_rfl
theorem f26.calls {Aa0_0 : Option Addr} {na0_0 ca0_0 : Nat} {Aa0_1 : Option Addr} {na0_1 ca0_1 : Nat} {Aa0_2 : Option Addr} {na0_2 ca0_2 : Nat} {Aa0_3 : Option Addr} {na0_3 ca0_3 : Nat} {Aa0_4 : Option Addr} {na0_4 ca0_4 : Nat} {Aa0_5 : Option Addr} {na0_5 ca0_5 : Nat} {w : World} {R : Value → World → Prop} (h : f26.VC Aa0_0 na0_0 ca0_0 Aa0_1 na0_1 ca0_1 Aa0_2 na0_2 ca0_2 Aa0_3 na0_3 ca0_3 Aa0_4 na0_4 ca0_4 Aa0_5 na0_5 ca0_5 w R) : Calls Tryd.prog 26 #[.agg #[.slice Aa0_0 na0_0 ca0_0, .slice Aa0_1 na0_1 ca0_1, .slice Aa0_2 na0_2 ca0_2, .slice Aa0_3 na0_3 ca0_3, .slice Aa0_4 na0_4 ca0_4, .slice Aa0_5 na0_5 ca0_5]] w fun e w' => ∃ v, e = .returned v ∧ R v w' :=
  funV_sound (fn := Tryd.f26) (AL := f26.AL) (AC := f26.AC) W9.mixed (by kernel_rfl) (by rw [← f26.eq Aa0_0 na0_0 ca0_0 Aa0_1 na0_1 ca0_1 Aa0_2 na0_2 ca0_2 Aa0_3 na0_3 ca0_3 Aa0_4 na0_4 ca0_4 Aa0_5 na0_5 ca0_5]; exact h)

/-- gatehouse/page.classes -/
def f27.AL : Nat → Option Ann := fun _ => none
def f27.AC : Nat → Option Ann := fun _ => none
def f27.VC (Aa0 : Option Addr) (na0 ca0 : Nat) (w : World) (R : Value → World → Prop) : Prop :=
  sel (((na0 : Int) : Int) == (0 : Int)) (
  R (.int .i64 0) w) (
  Calls Tryd.prog 52 #[.slice Aa0 na0 ca0] w fun b0 d0 =>
  ∃ g0,
  b0 = .returned (.int .i64 g0) ∧
  R (.int .i64 g0) d0)
theorem f27.eq (Aa0 : Option Addr) (na0 ca0 : Nat) (w : World) (R : Value → World → Prop) : f27.VC Aa0 na0 ca0 w R = funV Tryd.prog Tryd.f27 f27.AL f27.AC #[.slice Aa0 na0 ca0] w R := by kernel_rfl
theorem f27.calls {Aa0 : Option Addr} {na0 ca0 : Nat} {w : World} {R : Value → World → Prop} (h : f27.VC Aa0 na0 ca0 w R) : Calls Tryd.prog 27 #[.slice Aa0 na0 ca0] w fun e w' => ∃ v, e = .returned v ∧ R v w' :=
  funV_sound (fn := Tryd.f27) (AL := f27.AL) (AC := f27.AC) W9.mixed (by kernel_rfl) (by rw [← f27.eq Aa0 na0 ca0]; exact h)

/-- gatehouse/page.room -/
def f25.AL : Nat → Option Ann := fun r => match r with | 3 => some ⟨[(20, .int .i64)], [1, 5, 19]⟩ | 6 => some ⟨[(25, .int .i64)], [1, 5, 19, 20, 23, 24]⟩ | _ => none
def f25.AC : Nat → Option Ann := fun _ => none
def f25.VC (Aa0_0 : Option Addr) (na0_0 ca0_0 : Nat) (Aa0_1 : Option Addr) (na0_1 ca0_1 : Nat) (Aa0_2 : Option Addr) (na0_2 ca0_2 : Nat) (Aa0_3 : Option Addr) (na0_3 ca0_3 : Nat) (Aa0_4 : Option Addr) (na0_4 ca0_4 : Nat) (Aa0_5 : Option Addr) (na0_5 ca0_5 : Nat) (a1 : Nat) (w : World) (R : Value → World → Prop) : Prop :=
  let b0 := World.alloc w (.cells #[.slice Aa0_0 na0_0 ca0_0, .slice Aa0_1 na0_1 ca0_1, .slice Aa0_2 na0_2 ca0_2, .slice Aa0_3 na0_3 ca0_3, .slice Aa0_4 na0_4 ca0_4, .slice Aa0_5 na0_5 ca0_5] 32);
  let d0 := World.alloc b0 (.map #[] 0);
  ∃ g0 h0 i0,
  d0.cell? ⟨w.heap.size, 0, none⟩ = some (.slice g0 h0 i0) ∧
  ∃ j0 k0 p0,
  d0.cell? ⟨w.heap.size, 1, none⟩ = some (.slice j0 k0 p0) ∧
  ∃ q0 t0 u0,
  d0.cell? ⟨w.heap.size, 2, none⟩ = some (.slice q0 t0 u0) ∧
  ∃ v0 : Int → World → Nat → Prop,
  (∃ n, v0 0 d0 n) ∧
  ∀ x0 : Env, ∀ y0 z0 b1, v0 y0 z0 b1 →
  sel (decide ((y0 : Int) < (3 : Int))) (
  ∃ d1 g1 h1,
  (∀ w', (Instr.index 91 (.agg #[.slice g0 h0 i0, .slice j0 k0 p0, .slice q0 t0 u0]) (.int .i64 y0)).run Tryd.prog w' = .ok (.slice d1 g1 h1) w') ∧
  ∃ i1 : Int → World → Nat → Prop,
  (∃ n, i1 0 z0 n) ∧
  ∀ j1 : Env, ∀ k1 p1 q1, i1 k1 p1 q1 →
  sel (decide ((k1 : Int) < ((g1 : Int) : Int))) (
  (0 : Int) ≤ k1 ∧ k1 < (g1 : Int) ∧
  needPtr d1 fun t1 u1 =>
  ∃ v1,
  p1.cell? ⟨t1, u1 + k1.toNat * 1, none⟩ = some (.string v1) ∧
  Calls Tryd.prog 10 #[.pointer (some ⟨a1, 0, none⟩), .string v1] p1 fun x1 y1 =>
  ∃ z1 b2,
  x1 = .returned (.tuple #[.int .i64 z1, .bool b2]) ∧
  sel (!b2) (
  ∃ d2,
  ∃ g2, (Instr.lookup 51 (.map (some b0.heap.size)) (.string v1) false).run Tryd.prog y1 = .ok (.int .i64 d2) g2 ∧
  let h2 : Int := IntKind.i64.wrap (d2 + 1);
  ∃ i2, (Instr.mapUpdate 51 (.map (some b0.heap.size)) (.string v1) (.int .i64 h2)).run Tryd.prog g2 = .ok () i2 ∧
  let j2 : Int := IntKind.i64.wrap (k1 + 1);
  ([.pointer (some ⟨a1, 0, none⟩), .map (some b0.heap.size), .agg #[.slice g0 h0 i0, .slice j0 k0 p0, .slice q0 t0 u0], .int .i64 y0, .slice d1 g1 h1, .int .i64 (g1 : Int)] : List Value) = ([.pointer (some ⟨a1, 0, none⟩), .map (some b0.heap.size), .agg #[.slice g0 h0 i0, .slice j0 k0 p0, .slice q0 t0 u0], .int .i64 y0, .slice d1 g1 h1, .int .i64 (g1 : Int)] : List Value) ∧ ∃ m, m < q1 ∧ i1 j2 i2 m) (
  let k2 : Int := IntKind.i64.wrap (k1 + 1);
  ([.pointer (some ⟨a1, 0, none⟩), .map (some b0.heap.size), .agg #[.slice g0 h0 i0, .slice j0 k0 p0, .slice q0 t0 u0], .int .i64 y0, .slice d1 g1 h1, .int .i64 (g1 : Int)] : List Value) = ([.pointer (some ⟨a1, 0, none⟩), .map (some b0.heap.size), .agg #[.slice g0 h0 i0, .slice j0 k0 p0, .slice q0 t0 u0], .int .i64 y0, .slice d1 g1 h1, .int .i64 (g1 : Int)] : List Value) ∧ ∃ m, m < q1 ∧ i1 k2 y1 m)) (
  let p2 : Int := IntKind.i64.wrap (y0 + 1);
  ([.pointer (some ⟨a1, 0, none⟩), .map (some b0.heap.size), .agg #[.slice g0 h0 i0, .slice j0 k0 p0, .slice q0 t0 u0]] : List Value) = ([.pointer (some ⟨a1, 0, none⟩), .map (some b0.heap.size), .agg #[.slice g0 h0 i0, .slice j0 k0 p0, .slice q0 t0 u0]] : List Value) ∧ ∃ m, m < b1 ∧ v0 p2 p1 m)) (
  ∃ q2,
  ∃ t2, (Builtin.len_ #[51] 3 #[.map (some b0.heap.size)]).run Tryd.prog z0 = .ok (.int .i64 q2) t2 ∧
  Calls Tryd.prog 11 #[.pointer (some ⟨a1, 0, none⟩)] t2 fun u2 v2 =>
  ∃ x2,
  u2 = .returned (.int .i64 x2) ∧
  let y2 : Int := IntKind.i64.wrap (1048576 - x2);
  R (.bool (decide ((q2 : Int) ≤ (y2 : Int)))) v2)
theorem f25.eq (Aa0_0 : Option Addr) (na0_0 ca0_0 : Nat) (Aa0_1 : Option Addr) (na0_1 ca0_1 : Nat) (Aa0_2 : Option Addr) (na0_2 ca0_2 : Nat) (Aa0_3 : Option Addr) (na0_3 ca0_3 : Nat) (Aa0_4 : Option Addr) (na0_4 ca0_4 : Nat) (Aa0_5 : Option Addr) (na0_5 ca0_5 : Nat) (a1 : Nat) (w : World) (R : Value → World → Prop) : f25.VC Aa0_0 na0_0 ca0_0 Aa0_1 na0_1 ca0_1 Aa0_2 na0_2 ca0_2 Aa0_3 na0_3 ca0_3 Aa0_4 na0_4 ca0_4 Aa0_5 na0_5 ca0_5 a1 w R = funV Tryd.prog Tryd.f25 f25.AL f25.AC #[.agg #[.slice Aa0_0 na0_0 ca0_0, .slice Aa0_1 na0_1 ca0_1, .slice Aa0_2 na0_2 ca0_2, .slice Aa0_3 na0_3 ca0_3, .slice Aa0_4 na0_4 ca0_4, .slice Aa0_5 na0_5 ca0_5], .pointer (some ⟨a1, 0, none⟩)] w R := by kernel_rfl
theorem f25.calls {Aa0_0 : Option Addr} {na0_0 ca0_0 : Nat} {Aa0_1 : Option Addr} {na0_1 ca0_1 : Nat} {Aa0_2 : Option Addr} {na0_2 ca0_2 : Nat} {Aa0_3 : Option Addr} {na0_3 ca0_3 : Nat} {Aa0_4 : Option Addr} {na0_4 ca0_4 : Nat} {Aa0_5 : Option Addr} {na0_5 ca0_5 : Nat} {a1 : Nat} {w : World} {R : Value → World → Prop} (h : f25.VC Aa0_0 na0_0 ca0_0 Aa0_1 na0_1 ca0_1 Aa0_2 na0_2 ca0_2 Aa0_3 na0_3 ca0_3 Aa0_4 na0_4 ca0_4 Aa0_5 na0_5 ca0_5 a1 w R) : Calls Tryd.prog 25 #[.agg #[.slice Aa0_0 na0_0 ca0_0, .slice Aa0_1 na0_1 ca0_1, .slice Aa0_2 na0_2 ca0_2, .slice Aa0_3 na0_3 ca0_3, .slice Aa0_4 na0_4 ca0_4, .slice Aa0_5 na0_5 ca0_5], .pointer (some ⟨a1, 0, none⟩)] w fun e w' => ∃ v, e = .returned v ∧ R v w' :=
  funV_sound (fn := Tryd.f25) (AL := f25.AL) (AC := f25.AC) W9.mixed (by kernel_rfl) (by rw [← f25.eq Aa0_0 na0_0 ca0_0 Aa0_1 na0_1 ca0_1 Aa0_2 na0_2 ca0_2 Aa0_3 na0_3 ca0_3 Aa0_4 na0_4 ca0_4 Aa0_5 na0_5 ca0_5 a1]; exact h)

/-- gatehouse/page.Lay$2 -/
def f29.AL : Nat → Option Ann := fun _ => none
def f29.AC : Nat → Option Ann := fun _ => none
def f29.VC (xa0 : Int) (w : World) (R : Value → World → Prop) : Prop :=
  let b0 : Int := IntKind.i64.wrap (xa0 + 1);
  R (.int .i64 b0) w
theorem f29.eq (xa0 : Int) (w : World) (R : Value → World → Prop) : f29.VC xa0 w R = funV Tryd.prog Tryd.f29 f29.AL f29.AC #[.int .i64 xa0] w R := by kernel_rfl
theorem f29.calls {xa0 : Int} {w : World} {R : Value → World → Prop} (h : f29.VC xa0 w R) : Calls Tryd.prog 29 #[.int .i64 xa0] w fun e w' => ∃ v, e = .returned v ∧ R v w' :=
  funV_sound (fn := Tryd.f29) (AL := f29.AL) (AC := f29.AC) W9.mixed (by kernel_rfl) (by rw [← f29.eq xa0]; exact h)

/-- gatehouse/page.Lay$3 -/
def f30.AL : Nat → Option Ann := fun _ => none
def f30.AC : Nat → Option Ann := fun _ => none
def f30.VC (xa0 : Int) (a1 : Nat) (w : World) (R : Value → World → Prop) : Prop :=
  ∃ b0 d0 g0,
  w.cell? ⟨a1, 3, none⟩ = some (.slice b0 d0 g0) ∧
  (0 : Int) ≤ xa0 ∧ xa0 < (d0 : Int) ∧
  needPtr b0 fun h0 i0 =>
  ∃ j0,
  w.cell? ⟨h0, i0 + xa0.toNat * 1, none⟩ = some (.int .i64 j0) ∧
  R (.int .i64 j0) w
theorem f30.eq (xa0 : Int) (a1 : Nat) (w : World) (R : Value → World → Prop) : f30.VC xa0 a1 w R = funV Tryd.prog Tryd.f30 f30.AL f30.AC #[.int .i64 xa0, .pointer (some ⟨a1, 0, none⟩)] w R := by kernel_rfl
theorem f30.calls {xa0 : Int} {a1 : Nat} {w : World} {R : Value → World → Prop} (h : f30.VC xa0 a1 w R) : Calls Tryd.prog 30 #[.int .i64 xa0, .pointer (some ⟨a1, 0, none⟩)] w fun e w' => ∃ v, e = .returned v ∧ R v w' :=
  funV_sound (fn := Tryd.f30) (AL := f30.AL) (AC := f30.AC) W9.mixed (by kernel_rfl) (by rw [← f30.eq xa0 a1]; exact h)

/-- gatehouse/page.Lay$4 -/
def f31.AL : Nat → Option Ann := fun _ => none
def f31.AC : Nat → Option Ann := fun _ => none
def f31.VC (xa0 : Int) (a1 : Nat) (w : World) (R : Value → World → Prop) : Prop :=
  ∃ b0 d0 g0,
  w.cell? ⟨a1, 4, none⟩ = some (.slice b0 d0 g0) ∧
  (0 : Int) ≤ xa0 ∧ xa0 < (d0 : Int) ∧
  needPtr b0 fun h0 i0 =>
  ∃ j0,
  w.cell? ⟨h0, i0 + xa0.toNat * 1, none⟩ = some (.int .i64 j0) ∧
  R (.int .i64 j0) w
theorem f31.eq (xa0 : Int) (a1 : Nat) (w : World) (R : Value → World → Prop) : f31.VC xa0 a1 w R = funV Tryd.prog Tryd.f31 f31.AL f31.AC #[.int .i64 xa0, .pointer (some ⟨a1, 0, none⟩)] w R := by kernel_rfl
theorem f31.calls {xa0 : Int} {a1 : Nat} {w : World} {R : Value → World → Prop} (h : f31.VC xa0 a1 w R) : Calls Tryd.prog 31 #[.int .i64 xa0, .pointer (some ⟨a1, 0, none⟩)] w fun e w' => ∃ v, e = .returned v ∧ R v w' :=
  funV_sound (fn := Tryd.f31) (AL := f31.AL) (AC := f31.AC) W9.mixed (by kernel_rfl) (by rw [← f31.eq xa0 a1]; exact h)

/-- gatehouse/page.Size -/
def f19.AL : Nat → Option Ann := fun _ => none
def f19.AC : Nat → Option Ann := fun _ => none
def f19.VC (Aa0_0 : Option Addr) (na0_0 ca0_0 : Nat) (Aa0_1 : Option Addr) (na0_1 ca0_1 : Nat) (Aa0_2 : Option Addr) (na0_2 ca0_2 : Nat) (Aa0_3 : Option Addr) (na0_3 ca0_3 : Nat) (Aa0_4 : Option Addr) (na0_4 ca0_4 : Nat) (Aa0_5 : Option Addr) (na0_5 ca0_5 : Nat) (w : World) (R : Value → World → Prop) : Prop :=
  let b0 := World.alloc w (.cells #[.slice Aa0_0 na0_0 ca0_0, .slice Aa0_1 na0_1 ca0_1, .slice Aa0_2 na0_2 ca0_2, .slice Aa0_3 na0_3 ca0_3, .slice Aa0_4 na0_4 ca0_4, .slice Aa0_5 na0_5 ca0_5] 32);
  ∃ d0 g0 h0,
  b0.cell? ⟨w.heap.size, 0, none⟩ = some (.slice d0 g0 h0) ∧
  ∃ i0 j0 k0,
  b0.cell? ⟨w.heap.size, 1, none⟩ = some (.slice i0 j0 k0) ∧
  ∃ p0 q0 t0,
  b0.cell? ⟨w.heap.size, 2, none⟩ = some (.slice p0 q0 t0) ∧
  ∃ u0 v0 x0,
  b0.cell? ⟨w.heap.size, 3, none⟩ = some (.slice u0 v0 x0) ∧
  ∃ y0 z0 b1,
  b0.cell? ⟨w.heap.size, 4, none⟩ = some (.slice y0 z0 b1) ∧
  ∃ d1 g1 h1,
  b0.cell? ⟨w.heap.size, 5, none⟩ = some (.slice d1 g1 h1) ∧
  Calls Tryd.prog 24 #[.agg #[.slice d0 g0 h0, .slice i0 j0 k0, .slice p0 q0 t0, .slice u0 v0 x0, .slice y0 z0 b1, .slice d1 g1 h1]] b0 fun i1 j1 =>
  ∃ k1,
  i1 = .returned (.bool k1) ∧
  sel (!k1) (
  R (.int .i64 0) j1) (
  ∃ p1 q1 t1,
  j1.cell? ⟨w.heap.size, 0, none⟩ = some (.slice p1 q1 t1) ∧
  ∃ u1 v1 x1,
  j1.cell? ⟨w.heap.size, 1, none⟩ = some (.slice u1 v1 x1) ∧
  ∃ y1 z1 b2,
  j1.cell? ⟨w.heap.size, 2, none⟩ = some (.slice y1 z1 b2) ∧
  ∃ d2 g2 h2,
  j1.cell? ⟨w.heap.size, 3, none⟩ = some (.slice d2 g2 h2) ∧
  ∃ i2 j2 k2,
  j1.cell? ⟨w.heap.size, 4, none⟩ = some (.slice i2 j2 k2) ∧
  ∃ p2 q2 t2,
  j1.cell? ⟨w.heap.size, 5, none⟩ = some (.slice p2 q2 t2) ∧
  (Calls Tryd.prog 26 #[.agg #[.slice p1 q1 t1, .slice u1 v1 x1, .slice y1 z1 b2, .slice d2 g2 h2, .slice i2 j2 k2, .slice p2 q2 t2]] j1.drew fun u2 v2 =>
  ∃ x2,
  u2 = .returned (.int .i64 x2) ∧
  let y2 : Int := IntKind.i64.wrap (2 * x2);
  let z2 : Int := IntKind.i64.wrap (4 + y2);
  ∃ b3 d3 g3,
  v2.cell? ⟨w.heap.size, 3, none⟩ = some (.slice b3 d3 g3) ∧
  (Calls Tryd.prog 27 #[.slice b3 d3 g3] v2 fun h3 i3 =>
  ∃ j3,
  h3 = .returned (.int .i64 j3) ∧
  ∃ k3 p3 q3,
  i3.cell? ⟨w.heap.size, 4, none⟩ = some (.slice k3 p3 q3) ∧
  Calls Tryd.prog 27 #[.slice k3 p3 q3] i3 fun t3 u3 =>
  ∃ v3,
  t3 = .returned (.int .i64 v3) ∧
  let x3 : Int := IntKind.i64.wrap (j3 * v3);
  let y3 : Int := IntKind.i64.wrap (z2 + x3);
  R (.int .i64 y3) u3) ∧
  (∃ z3 b4 d4,
  v2.cell? ⟨w.heap.size, 4, none⟩ = some (.slice z3 b4 d4) ∧
  Calls Tryd.prog 27 #[.slice b3 d3 g3] v2 fun g4 h4 =>
  ∃ i4,
  g4 = .returned (.int .i64 i4) ∧
  Calls Tryd.prog 27 #[.slice z3 b4 d4] h4 fun j4 k4 =>
  ∃ p4,
  j4 = .returned (.int .i64 p4) ∧
  let q4 : Int := IntKind.i64.wrap (i4 * p4);
  let t4 : Int := IntKind.i64.wrap (z2 + q4);
  R (.int .i64 t4) k4) ∧ True) ∧
  (∃ u4 v4 x4,
  j1.cell? ⟨w.heap.size, 3, none⟩ = some (.slice u4 v4 x4) ∧
  (Calls Tryd.prog 26 #[.agg #[.slice p1 q1 t1, .slice u1 v1 x1, .slice y1 z1 b2, .slice d2 g2 h2, .slice i2 j2 k2, .slice p2 q2 t2]] j1.drew fun y4 z4 =>
  ∃ b5,
  y4 = .returned (.int .i64 b5) ∧
  let d5 : Int := IntKind.i64.wrap (2 * b5);
  let g5 : Int := IntKind.i64.wrap (4 + d5);
  (Calls Tryd.prog 27 #[.slice u4 v4 x4] z4 fun h5 i5 =>
  ∃ j5,
  h5 = .returned (.int .i64 j5) ∧
  ∃ k5 p5 q5,
  i5.cell? ⟨w.heap.size, 4, none⟩ = some (.slice k5 p5 q5) ∧
  Calls Tryd.prog 27 #[.slice k5 p5 q5] i5 fun t5 u5 =>
  ∃ v5,
  t5 = .returned (.int .i64 v5) ∧
  let x5 : Int := IntKind.i64.wrap (j5 * v5);
  let y5 : Int := IntKind.i64.wrap (g5 + x5);
  R (.int .i64 y5) u5) ∧
  (∃ z5 b6 d6,
  z4.cell? ⟨w.heap.size, 4, none⟩ = some (.slice z5 b6 d6) ∧
  Calls Tryd.prog 27 #[.slice u4 v4 x4] z4 fun g6 h6 =>
  ∃ i6,
  g6 = .returned (.int .i64 i6) ∧
  Calls Tryd.prog 27 #[.slice z5 b6 d6] h6 fun j6 k6 =>
  ∃ p6,
  j6 = .returned (.int .i64 p6) ∧
  let q6 : Int := IntKind.i64.wrap (i6 * p6);
  let t6 : Int := IntKind.i64.wrap (g5 + q6);
  R (.int .i64 t6) k6) ∧ True) ∧
  (∃ u6 v6 x6,
  j1.cell? ⟨w.heap.size, 4, none⟩ = some (.slice u6 v6 x6) ∧
  Calls Tryd.prog 26 #[.agg #[.slice p1 q1 t1, .slice u1 v1 x1, .slice y1 z1 b2, .slice d2 g2 h2, .slice i2 j2 k2, .slice p2 q2 t2]] j1.drew fun y6 z6 =>
  ∃ b7,
  y6 = .returned (.int .i64 b7) ∧
  let d7 : Int := IntKind.i64.wrap (2 * b7);
  let g7 : Int := IntKind.i64.wrap (4 + d7);
  Calls Tryd.prog 27 #[.slice u4 v4 x4] z6 fun h7 i7 =>
  ∃ j7,
  h7 = .returned (.int .i64 j7) ∧
  Calls Tryd.prog 27 #[.slice u6 v6 x6] i7 fun k7 p7 =>
  ∃ q7,
  k7 = .returned (.int .i64 q7) ∧
  let t7 : Int := IntKind.i64.wrap (j7 * q7);
  let u7 : Int := IntKind.i64.wrap (g7 + t7);
  R (.int .i64 u7) p7) ∧ True) ∧
  (∃ v7 x7 y7,
  j1.cell? ⟨w.heap.size, 4, none⟩ = some (.slice v7 x7 y7) ∧
  (Calls Tryd.prog 26 #[.agg #[.slice p1 q1 t1, .slice u1 v1 x1, .slice y1 z1 b2, .slice d2 g2 h2, .slice i2 j2 k2, .slice p2 q2 t2]] j1.drew fun z7 b8 =>
  ∃ d8,
  z7 = .returned (.int .i64 d8) ∧
  let g8 : Int := IntKind.i64.wrap (2 * d8);
  let h8 : Int := IntKind.i64.wrap (4 + g8);
  ∃ i8 j8 k8,
  b8.cell? ⟨w.heap.size, 3, none⟩ = some (.slice i8 j8 k8) ∧
  Calls Tryd.prog 27 #[.slice i8 j8 k8] b8 fun p8 q8 =>
  ∃ t8,
  p8 = .returned (.int .i64 t8) ∧
  Calls Tryd.prog 27 #[.slice v7 x7 y7] q8 fun u8 v8 =>
  ∃ x8,
  u8 = .returned (.int .i64 x8) ∧
  let y8 : Int := IntKind.i64.wrap (t8 * x8);
  let z8 : Int := IntKind.i64.wrap (h8 + y8);
  R (.int .i64 z8) v8) ∧
  (∃ b9 d9 g9,
  j1.cell? ⟨w.heap.size, 3, none⟩ = some (.slice b9 d9 g9) ∧
  Calls Tryd.prog 26 #[.agg #[.slice p1 q1 t1, .slice u1 v1 x1, .slice y1 z1 b2, .slice d2 g2 h2, .slice i2 j2 k2, .slice p2 q2 t2]] j1.drew fun h9 i9 =>
  ∃ j9,
  h9 = .returned (.int .i64 j9) ∧
  let k9 : Int := IntKind.i64.wrap (2 * j9);
  let p9 : Int := IntKind.i64.wrap (4 + k9);
  Calls Tryd.prog 27 #[.slice b9 d9 g9] i9 fun q9 t9 =>
  ∃ u9,
  q9 = .returned (.int .i64 u9) ∧
  Calls Tryd.prog 27 #[.slice v7 x7 y7] t9 fun v9 x9 =>
  ∃ y9,
  v9 = .returned (.int .i64 y9) ∧
  let z9 : Int := IntKind.i64.wrap (u9 * y9);
  let bA : Int := IntKind.i64.wrap (p9 + z9);
  R (.int .i64 bA) x9) ∧ True) ∧ True)
theorem f19.eq (Aa0_0 : Option Addr) (na0_0 ca0_0 : Nat) (Aa0_1 : Option Addr) (na0_1 ca0_1 : Nat) (Aa0_2 : Option Addr) (na0_2 ca0_2 : Nat) (Aa0_3 : Option Addr) (na0_3 ca0_3 : Nat) (Aa0_4 : Option Addr) (na0_4 ca0_4 : Nat) (Aa0_5 : Option Addr) (na0_5 ca0_5 : Nat) (w : World) (R : Value → World → Prop) : f19.VC Aa0_0 na0_0 ca0_0 Aa0_1 na0_1 ca0_1 Aa0_2 na0_2 ca0_2 Aa0_3 na0_3 ca0_3 Aa0_4 na0_4 ca0_4 Aa0_5 na0_5 ca0_5 w R = funV Tryd.prog Tryd.f19 f19.AL f19.AC #[.agg #[.slice Aa0_0 na0_0 ca0_0, .slice Aa0_1 na0_1 ca0_1, .slice Aa0_2 na0_2 ca0_2, .slice Aa0_3 na0_3 ca0_3, .slice Aa0_4 na0_4 ca0_4, .slice Aa0_5 na0_5 ca0_5]] w R := by kernel_rfl
theorem f19.calls {Aa0_0 : Option Addr} {na0_0 ca0_0 : Nat} {Aa0_1 : Option Addr} {na0_1 ca0_1 : Nat} {Aa0_2 : Option Addr} {na0_2 ca0_2 : Nat} {Aa0_3 : Option Addr} {na0_3 ca0_3 : Nat} {Aa0_4 : Option Addr} {na0_4 ca0_4 : Nat} {Aa0_5 : Option Addr} {na0_5 ca0_5 : Nat} {w : World} {R : Value → World → Prop} (h : f19.VC Aa0_0 na0_0 ca0_0 Aa0_1 na0_1 ca0_1 Aa0_2 na0_2 ca0_2 Aa0_3 na0_3 ca0_3 Aa0_4 na0_4 ca0_4 Aa0_5 na0_5 ca0_5 w R) : Calls Tryd.prog 19 #[.agg #[.slice Aa0_0 na0_0 ca0_0, .slice Aa0_1 na0_1 ca0_1, .slice Aa0_2 na0_2 ca0_2, .slice Aa0_3 na0_3 ca0_3, .slice Aa0_4 na0_4 ca0_4, .slice Aa0_5 na0_5 ca0_5]] w fun e w' => ∃ v, e = .returned v ∧ R v w' :=
  funV_sound (fn := Tryd.f19) (AL := f19.AL) (AC := f19.AC) W9.mixed (by kernel_rfl) (by rw [← f19.eq Aa0_0 na0_0 ca0_0 Aa0_1 na0_1 ca0_1 Aa0_2 na0_2 ca0_2 Aa0_3 na0_3 ca0_3 Aa0_4 na0_4 ca0_4 Aa0_5 na0_5 ca0_5]; exact h)

end Go.Proofs.YtjmlfknogjaemaaDoor
/- Page: places, classes, Size; the document's table, keys, Size. -/
set_option linter.unusedVariables false
set_option linter.unusedSimpArgs false
set_option maxRecDepth 10000
namespace Go.Proofs.YtjmlfknogjaemaaDoor
open Go Go.Proofs.YtjmlfknogjaemaaDoor.Vc
namespace PG
open Vc.PG NI
theorem tab_stop {r t k : Nat} (hk : k ≤ 1000000) (ht : t = 2 ^ (31 - r)) (hr : r ≤ 30) (hlt : t < 2 * k) : 1 ≤ r ∧ 2 * t ≤ 4000000 ∧ 2 * t = 2 ^ (31 - (r - 1)) := by
  have h1 : 1 ≤ r := by
    rcases Nat.eq_zero_or_pos r with h | h
    · subst h; simp at ht; omega
    · exact h
  refine ⟨h1, by omega, ?_⟩
  rw [ht, show 31 - (r - 1) = 31 - r + 1 by omega, Nat.pow_succ]; omega
theorem placesC (w : World) (v : GV) {k : Nat} (hk : v.a.2.1 + v.s.2.1 + v.o.2.1 = k) (hb : k ≤ 1000000) : Calls Tryd.prog 26 #[v.v] w fun e w' => e = .returned (.int .i64 (tabN k : Int)) ∧ Fr [] w w' := by
  refine Calls.mono (f26.calls (R := fun u w' => u = .int .i64 (tabN k : Int) ∧ Fr [] w w') ?_) ?_
  · dsimp only [f26.VC]
    have hS := (St.start w).alloc v.cells 32
    generalize w.heap.size = b at *
    generalize World.alloc w (.cells v.cells 32) = w1 at *
    refine ⟨fun x w' r => w' = w1 ∧ ∃ t : Nat, x = (t : Int) ∧ r ≤ 30 ∧ t = 2 ^ (31 - r) ∧ tabGo r t k = tabN k, ⟨30, rfl, 2, rfl, by omega, rfl, rfl⟩, ?_⟩
    rintro d x w2 r ⟨rfl, t, rfl, hr, ht, hgo⟩
    refine ⟨_, _, _, (hS.blk 0 rfl).cell rfl, _, _, _, (hS.blk 0 rfl).cell rfl, _, _, _, (hS.blk 0 rfl).cell rfl, ?_⟩
    rw [i64_id (x := (v.a.2.1 : Int) + v.s.2.1) (by omega) (by omega), i64_id (x := (v.a.2.1 : Int) + v.s.2.1 + v.o.2.1) (by omega) (by omega), i64_id (x := 2 * _) (by omega) (by omega)]
    refine sel_of (fun hd => ?_) (fun hd => ?_)
    · have hlt : t < 2 * k := by have := of_decide_eq_true hd; omega
      obtain ⟨h1, h2, h3⟩ := tab_stop (by omega) ht hr hlt
      obtain ⟨r, rfl⟩ : ∃ r', r = r' + 1 := ⟨r - 1, by omega⟩
      rw [tabGo, if_pos hlt] at hgo
      have e : shlI .i64 (t : Int) 1 = ((2 * t : Nat) : Int) := by
        unfold shlI
        rw [show min ((1 : Int).toNat) (IntKind.bits .i64) = 1 from rfl, wr]
        omega
      rw [e]
      exact ⟨by omega, rfl, r, by omega, rfl, 2 * t, rfl, by omega, h3, hgo⟩
    · have hlt : ¬ t < 2 * k := by have := of_decide_eq_false hd; omega
      have e : tabGo r t k = t := by cases r <;> simp [tabGo, hlt]
      rw [← hgo, e]; exact ⟨rfl, hS.frame⟩
  · rintro e w' ⟨v, rfl, rfl, h⟩; exact ⟨rfl, h⟩
theorem classesC {w : World} {A : Option Addr} {n c : Nat} {l : List Int} (h : InW w A n l) (hn : n ≤ 1000000000) (hg : (great l 0).isSome = true) : Calls Tryd.prog 27 #[.slice A n c] w fun e w' => e = .returned (.int .i64 (topOf l : Int)) ∧ w' = w := by
  refine Calls.mono (f27.calls (R := fun u w' => u = .int .i64 (topOf l : Int) ∧ w' = w) ?_) ?_
  · dsimp only [f27.VC]
    have hl := h.1
    refine sel_of (fun hd => ?_) (fun hd => ?_)
    · have hd : (n : Int) = 0 := eq_of_beq hd
      have : l = [] := List.eq_nil_of_length_eq_zero (by omega)
      subst this
      exact ⟨rfl, rfl⟩
    · have hd : (n : Int) ≠ 0 := beq_eq_false_iff_ne.1 hd
      obtain ⟨m, hm⟩ := Option.isSome_iff_exists.1 hg
      refine Calls.mono (maxC h hn (by omega) hm) ?_
      rintro _ w1 ⟨rfl, rfl⟩
      refine ⟨_, rfl, ?_, rfl⟩
      unfold topOf
      rw [hm]; rfl
  · rintro e w' ⟨v, rfl, rfl, h⟩; exact ⟨rfl, h⟩
/-- What a valid graph is. -/
theorem valid_parts {g : Gd} (h : validP g = true) : ((gA g).length ≤ 16 ∧ (gS g).length ≤ 64 ∧ (gO g).length ≤ 64 ∧ (gF g).length = (gS g).length ∧ (gN g).length = (gO g).length) ∧ ((gA g).Nodup ∧ (gS g).Nodup ∧ (gO g).Nodup) ∧
    great (gF g) 0 = some (topOf (gF g)) ∧ great (gN g) 0 = some (topOf (gN g)) ∧ topOf (gF g) ≤ 64 ∧ topOf (gN g) ≤ 64 ∧ shapedB (gM g) (topOf (gF g)) (topOf (gN g)) (gA g).length = true ∧ (gM g).Nodup ∧ ((List.range (topOf (gN g))).map (col (gM g))).Nodup := by
  unfold validP at h
  rw [Bool.and_eq_true, Bool.and_eq_true, decide_eq_true_iff, decide_eq_true_iff] at h
  obtain ⟨⟨h1, h2⟩, h3⟩ := h
  split at h3
  · rename_i n m hn hm
    rw [Bool.and_eq_true, Bool.and_eq_true, decide_eq_true_iff, decide_eq_true_iff] at h3
    have e1 : topOf (gF g) = n := by unfold topOf; rw [hn]; rfl
    have e2 : topOf (gN g) = m := by unfold topOf; rw [hm]; rfl
    have := great_le _ _ _ hn
    have := great_le _ _ _ hm
    rw [e1, e2]
    exact ⟨h1, h2, hn, hm, by omega, by omega, h3.1.1, h3.1.2, h3.2⟩
  · cases h3
theorem names_len (g : Gd) : (names g).length = (gA g).length + (gS g).length + (gO g).length := by
  simp [names]; omega
theorem size_eq {t r c : Nat} (ht : t ≤ 512) (hr : r ≤ 64) (hc : c ≤ 64) : IntKind.i64.wrap (IntKind.i64.wrap (4 + IntKind.i64.wrap (2 * (t : Int))) + IntKind.i64.wrap ((r : Int) * (c : Int))) = ((4 + 2 * t + r * c : Nat) : Int) := by
  have h := Nat.mul_le_mul hr hc
  have e : (r : Int) * (c : Int) = ((r * c : Nat) : Int) := by simp
  rw [e]
  generalize r * c = p at *
  rw [i64_id (x := 2 * _) (by omega) (by omega), i64_id (x := (p : Int)) (by omega) (by omega), i64_id (x := 4 + _) (by omega) (by omega), i64_id (by omega) (by omega)]
  omega
theorem tOf_small {g : Gd} (h : validP g = true) : tOf g ≤ 512 ∧ powB (tOf g : Int) = true ∧ 2 * (names g).length ≤ tOf g ∧ (names g).length ≤ 144 := by
  obtain ⟨h1, _⟩ := valid_parts h
  have hl := names_len g
  obtain ⟨h2, h3⟩ := tabN_small ⟨(names g).length, by omega⟩
  exact ⟨h2, h3, (tabN_ge (by omega)).1, by omega⟩
theorem InG.lens {w : World} {v : GV} {g : Gd} (h : InG w v g) : v.a.2.1 + v.s.2.1 + v.o.2.1 = (names g).length := by
  rw [names_len, h.a.1.1, h.s.1.1, h.o.1.1]
theorem sizeC {w : World} {v : GV} {g : Gd} (h : InG w v g) (hbig : v.a.2.1 ≤ 1100000 ∧ v.s.2.1 ≤ 1100000 ∧ v.o.2.1 ≤ 1100000) : Calls Tryd.prog 19 #[v.v] w fun e w' => e = .returned (.int .i64 (sizeP g)) ∧ Fr [] w w' := by
  refine Calls.mono (f19.calls (R := fun u w' => u = .int .i64 (sizeP g) ∧ Fr [] w w') ?_) ?_
  · dsimp only [f19.VC]
    have hS := (St.start w).alloc v.cells 32
    generalize w.heap.size = b at *
    generalize World.alloc w (.cells v.cells 32) = w1 at *
    refine ⟨_, _, _, (hS.blk 0 rfl).cell rfl, _, _, _, (hS.blk 0 rfl).cell rfl, _, _, _, (hS.blk 0 rfl).cell rfl, _, _, _, (hS.blk 0 rfl).cell rfl, _, _, _, (hS.blk 0 rfl).cell rfl, _, _, _, (hS.blk 0 rfl).cell rfl, ?_⟩
    refine Calls.mono (hS.step0 (validC (h.fr hS.frame) hbig)) ?_
    rintro _ w2 ⟨rfl, hS⟩
    refine ⟨_, rfl, sel_of (fun hv => ?_) (fun hv => ?_)⟩
    · have hv : validP g = false := by simpa using hv
      exact ⟨by unfold sizeP; rw [hv]; rfl, hS.frame⟩
    · have hv : validP g = true := by simpa using hv
      obtain ⟨p1, p2, p3, p4, p5, p6, p7⟩ := valid_parts hv
      obtain ⟨q1, q2, q3, q4⟩ := tOf_small hv
      have efin : sizeP g = ((4 + 2 * tOf g + topOf (gF g) * topOf (gN g) : Nat) : Int) := by unfold sizeP; rw [if_pos hv]
      have hfin := size_eq q1 p5 p6
      rw [efin]
      have hd := hS.drew
      have hlen := h.lens
      have lf := h.f.1.1
      have ln := h.n.1.1
      have bf : v.f.2.1 ≤ 1000000000 := by omega
      have bn : v.n.2.1 ≤ 1000000000 := by omega
      have gf : (great (gF g) 0).isSome = true := by rw [p3]; rfl
      have gn : (great (gN g) 0).isSome = true := by rw [p4]; rfl
      have hn1 : (names g).length ≤ 1000000 := by omega
      refine ⟨_, _, _, (hS.blk 0 rfl).cell rfl, _, _, _, (hS.blk 0 rfl).cell rfl, _, _, _, (hS.blk 0 rfl).cell rfl, _, _, _, (hS.blk 0 rfl).cell rfl, _, _, _, (hS.blk 0 rfl).cell rfl, _, _, _, (hS.blk 0 rfl).cell rfl, ?_⟩
      repeat' (first
        | exact trivial
        | exact ⟨by rw [← hfin]; rfl, St.frame (L := [Chunk.blk b v.cells 32]) (by assumption)⟩
        | refine ⟨_, _, _, Blk.cell (St.blk (S := []) (w0 := w) (L := [Chunk.blk b v.cells 32]) (by assumption) 0 rfl) rfl, ?_⟩
        | (refine Calls.mono (placesC _ v hlen hn1) ?_
           rintro _ wn ⟨rfl, hf⟩
           have hnew := St.go (S := []) (w0 := w) (L := [Chunk.blk b v.cells 32]) (by assumption) hf
           clear hf
           refine ⟨_, rfl, ?_⟩)
        | (refine Calls.mono (classesC (h.fr (St.frame (S := []) (w0 := w) (L := [Chunk.blk b v.cells 32]) (by assumption))).f.1 bf gf) ?_
           rintro _ _ ⟨rfl, rfl⟩
           refine ⟨_, rfl, ?_⟩)
        | (refine Calls.mono (classesC (h.fr (St.frame (S := []) (w0 := w) (L := [Chunk.blk b v.cells 32]) (by assumption))).n.1 bn gn) ?_
           rintro _ _ ⟨rfl, rfl⟩
           refine ⟨_, rfl, ?_⟩)
        | refine And.intro ?_ ?_
        | fail)
  · rintro e w' ⟨v, rfl, rfl, h⟩; exact ⟨rfl, h⟩
end PG
end Go.Proofs.YtjmlfknogjaemaaDoor
