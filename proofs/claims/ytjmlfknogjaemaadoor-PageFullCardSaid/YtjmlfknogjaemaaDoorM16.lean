/- Things that lie anywhere are appended to a list. -/
import Derived.Test.YtjmlfknogjaemaaDoorM11
import Derived.Deep.Upon
import Derived.Test.YtjmlfknogjaemaaDoorM4
import Derived.Test.YtjmlfknogjaemaaDoorProg
import Derived.KernelRfl
set_option linter.unusedVariables false
set_option linter.unusedSimpArgs false
namespace Go.Proofs.YtjmlfknogjaemaaDoor.Vc
open Go
theorem append_rowsA {P : Program} {w : World} {t ty e : TypeId} {i : TypeInfo} {z : Value} {s : Nat} {rs : List (List Value)} {v : Value} {news : List (List Value)} {a0 : Addr} {c : Nat}
    (ht : P.underlying t = some (.slice e)) (hi : P.info? e = some i) (hz : i.zero = some z) (hsize : i.size = s) (hzs : z.cells.size = s) (hs : 0 < s)
    (hown : (v = .slice none 0 0 ∧ rs = []) ∨ ∃ g cap, v = .slice (some ⟨g, 0, none⟩) rs.length cap ∧ Row w e s g cap rs)
    (hnews : ∀ (j : Nat) (u : Value), news.flatten[j]? = some u → w.cell? (a0.add j) = some u) (hr : ∀ x ∈ news, x.length = s) (h1 : ∀ u ∈ news.flatten, u.oneCell' = true) (hrs : ∀ x ∈ rs, x.length = s) (hm0 : 0 < news.length)
    (hbytes : (rs.length + news.length) * i.bytes ≤ 140737488355328) (hmax : rs.length + news.length ≤ maxLen) :
    ∃ g' cap' w', (Builtin.append_ #[t, t] ty #[v, .slice (some a0) news.length c]).run P w = .ok (.slice (some ⟨g', 0, none⟩) (rs.length + news.length) cap') w' ∧
      Row w' e s g' cap' (rs ++ news) ∧ ((v = .slice (some ⟨g', 0, none⟩) rs.length cap' ∧ Fr [g'] w w') ∨ (w.heap.size ≤ g' ∧ Fr [] w w')) := by
  have hnl : news.flatten.length = news.length * s := flat_len hr
  have hl : news.flatten.length = news.length * i.size := by rw [hnl, hsize]
  have hrs' : ∀ x ∈ rs ++ news, x.length = s := by
    intro x hx
    rcases List.mem_append.mp hx with hx | hx
    · exact hrs x hx
    · exact hr x hx
  have hflat : (rs ++ news).flatten = rs.flatten ++ news.flatten := by simp
  have fin : ∀ (v' : Value) (w' : World) (base : Nat), w'.ownsRow base e s v' (rs.length + news.length) (rs.flatten ++ news.flatten) → ∃ g' cap', v' = .slice (some ⟨g', 0, none⟩) (rs.length + news.length) cap' ∧ Row w' e s g' cap' (rs ++ news) ∧ base ≤ g' := by
    intro v' w' base ho
    rcases ho.2 with ⟨_, h⟩ | ⟨g', cap', cur, rfl, hbg, hg, hnc, hcm, hcs, htake⟩
    · omega
    · refine ⟨g', cap', rfl, (Row.ofOwn hs (n := rs.length + news.length) ?_ hrs').1, hbg⟩
      rw [hflat]
      exact ⟨ho.1, .inr ⟨g', cap', cur, rfl, Nat.zero_le _, hg, hnc, hcm, hcs, htake⟩⟩
  rcases hown with ⟨rfl, rfl⟩ | ⟨g, cap, rfl, hR⟩
  · obtain ⟨v', w', hrun, ho, hg, _⟩ := run_append_own (P := P) w w.heap.size t ty e i z s i.bytes ht hi hz hsize rfl hzs hs (.slice none 0 0) 0 [] (World.ownsRow_nil w _ e s) a0 news.length c news.flatten (by rw [← hsize]; exact hl) hnews h1
      (by simpa using hmax) (by simpa using hbytes) (Nat.le_refl _)
    obtain ⟨g', cap', rfl, hR, hbg⟩ := fin v' w' _ (by simpa using ho)
    have hx := run_append_nil (P := P) w t ty e i z ht hi hz a0 news.length c news.flatten hl hnews (by omega) (by simp only [maxLen, List.length_nil] at hmax; omega) (by simp only [List.length_nil, Nat.zero_add] at hbytes ⊢; omega)
    have hw : w' = w.drew.alloc (.cells (news.flatten.toArray ++ Builtin.zeroCells z.cells (grownCap w news.length 0 e - news.length)) e) := by
      rw [hx] at hrun; injection hrun with _ h; exact h.symm
    exact ⟨g', cap', w', hrun, hR, .inr ⟨hbg, by rw [hw]; exact (Fr.refl _ w).drew.alloc⟩⟩
  · have hO := hR.toOwn hs
    by_cases hroom : rs.length + news.length ≤ cap
    · obtain ⟨w', hrun, ho, hg⟩ := run_append_fits (P := P) w 0 t ty e i s ht hi hsize g rs.length cap rs.flatten hO a0 news.length c news.flatten (by rw [← hsize]; exact hl) hnews h1 hroom
      obtain ⟨g', cap', he, hR', _⟩ := fin _ w' _ ho
      simp only [Value.slice.injEq, Option.some.injEq, Addr.mk.injEq, and_true, true_and] at he
      obtain ⟨rfl, rfl⟩ := he
      have hfr : ∀ a, w'.frozen? a = w.frozen? a := by
        obtain ⟨cur, hbk, hcs, _⟩ := hR
        have hx := run_append_room (P := P) w t ty e i ht hi g rs.length cap cur hbk a0 news.length c news.flatten hl hnews h1 hroom (by
          have : (rs.length + news.length) * s ≤ cap * s := Nat.mul_le_mul_right s hroom
          rw [Nat.add_mul] at this; rw [hsize, hcs, hnl]; omega)
        rw [hx] at hrun
        injection hrun with _ hw
        intro x
        rw [← hw]
        exact frozen_setRow w g _ x
      exact ⟨g, cap, w', hrun, hR', .inl ⟨rfl, Fr.of_grown hg hfr (by simp [Value.ownBlock])⟩⟩
    · have hcap := hR.cap_le
      have hl2 := flat_len hrs
      have holds := hO.cells (g := g) rfl
      have hrun := run_append_grow (P := P) w t ty e i z ht hi hz ⟨g, 0, none⟩ rs.length cap rs.flatten (by rw [hl2, hsize]) holds a0 news.length c news.flatten hl hnews (by omega) (by simp only [maxLen] at hmax; omega) (growslice_fits (by omega) hbytes)
      have hge := grownCap_ge w (rs.length + news.length) cap e
      refine ⟨_, _, _, hrun, (Row.ofOwn hs (n := rs.length + news.length) ?_ hrs').1, .inr ⟨Nat.le_refl _, (Fr.refl _ w).drew.alloc⟩⟩
      rw [hflat]
      refine ⟨by rw [List.length_append, hl2, hnl, Nat.add_mul], .inr ⟨w.heap.size, _, _, rfl, Nat.zero_le _, Blk.newd, hge, grownCap_le_maxLen w _ cap e hmax, ?_, ?_⟩⟩
      · simp only [Array.size_append, List.size_toArray, size_zeroCells, hzs, hl2, hnl]
        rw [← Nat.add_mul, ← Nat.add_mul]
        congr 1
        omega
      · have : (rs.flatten ++ news.flatten).length = (rs.length + news.length) * s := by rw [List.length_append, hl2, hnl, Nat.add_mul]
        rw [← this]
        simp only [Array.toList_append, List.append_assoc]
        rw [← List.append_assoc]
        exact List.take_left


theorem flat_one {α : Type} (enc : α → Value) : ∀ l : List α, (l.map fun a => [enc a]).flatten = l.map enc
  | [] => rfl
  | a :: l => by simp [flat_one enc l]
/-- Many things more, that lie anywhere. -/
theorem St.appMany {α : Type} (d : α) {enc : α → Value} (henc : ∀ a, (enc a).oneCell' = true) {P : Program} {t ty e : TypeId} {ti : TypeInfo} {z : Value} (ht : P.underlying t = some (.slice e)) (hti : P.info? e = some ti) (hz : ti.zero = some z) (hsize : ti.size = 1) (hzs : z.cells.size = 1) (hb : ti.bytes ≤ 24)
    {S : List Nat} {w0 w : World} {L : List Chunk} (h : St S w0 w L) (i : Nat) {A : Option Addr} {n c : Nat} {l : List α} (hi : L[i]? = some (Chunk.ls enc e (.slice A n c) l)) {A2 : Option Addr} {n2 c2 : Nat} {k : List α}
    (hn : n2 = k.length) (hk : 0 < n2 → ∃ b o, A2 = some ⟨b, o, Option.none⟩ ∧ ∀ i, i < n2 → w.cell? ⟨b, o + i, Option.none⟩ = some (enc (k.getD i d))) (hl : l.length + k.length ≤ 4000000) :
    ∃ A' n' c' w', (Builtin.append_ #[t, t] ty #[.slice A n c, .slice A2 n2 c2]).run P w = .ok (.slice A' n' c') w' ∧ St S w0 w' (L.set i (Chunk.ls enc e (.slice A' n' c') (l ++ k))) := by
  have hil : i < L.length := (List.getElem?_eq_some_iff.1 hi).1
  rcases Nat.eq_zero_or_pos n2 with h0 | h0
  · subst h0
    have hk0 : k = [] := List.eq_nil_of_length_eq_zero hn.symm
    subst hk0
    have hsrc : Src P ti.size t (.slice A2 0 c2) 0 [] w := by
      cases A2 with
      | none => exact Src.ofNil w ht c2
      | some a => exact Src.ofSlice w ht a 0 c2 [] (by simp) (by simp) (by simp)
    have hle : n ≤ c := by
      obtain ⟨F, h1, _⟩ := h.at i hi
      rcases h1 with ⟨h1, h2, _⟩ | ⟨g, cap, h1, _, h2⟩
      · injection h1 with _ e1 e2; omega
      · injection h1 with _ e1 e2
        obtain ⟨_, _, _, h5, _⟩ := h2
        omega
    refine ⟨A, n, c, w, run_append_nothing w t t ty e ti ht hti A n c hle _ hsrc, ?_⟩
    rw [List.append_nil]
    have e : L.set i (Chunk.ls enc e (.slice A n c) l) = L := by
      apply List.ext_getElem?
      intro q
      by_cases hq : q = i
      · subst hq; rw [List.getElem?_set_self hil, hi]
      · rw [List.getElem?_set_ne (Ne.symm hq)]
    rw [e]; exact h
  · obtain ⟨b, o, rfl, hc⟩ := hk h0
    obtain ⟨F, k1, _, k3⟩ := h.at i hi
    have el : (l.map fun a => [enc a]).length = l.length := by simp
    have ek : (k.map fun a => [enc a]).length = k.length := by simp
    obtain ⟨g', cap', w', hrun, hR, hg⟩ := append_rowsA (P := P) (w := w) (t := t) (ty := ty) (e := e) (i := ti) (z := z) (s := 1) (rs := l.map fun a => [enc a]) (v := .slice A n c) (news := k.map fun a => [enc a]) (a0 := ⟨b, o, Option.none⟩) (c := c2) ht hti hz hsize hzs (by decide)
      (by
        rcases k1 with ⟨k1, k2, _⟩ | ⟨g, cap, k1, _, k2⟩
        · exact .inl ⟨k1, k2⟩
        · exact .inr ⟨g, cap, k1, k2⟩)
      (by
        rw [flat_one]
        intro j u hu
        have hj : j < k.length := by
          have := (List.getElem?_eq_some_iff.1 hu).1
          simpa using this
        rw [Addr.add_lit, hc j (by omega)]
        rw [← hu]
        simp [List.getD_eq_getElem?_getD, hj])
      (by simp) (by rw [flat_one]; intro u hu; obtain ⟨a, _, rfl⟩ := List.mem_map.1 hu; exact henc a) (by simp) (by rw [ek]; omega) (by rw [el, ek]; have := Nat.mul_le_mul (show l.length + k.length ≤ 4000000 by omega) hb; omega) (by rw [el, ek]; simp [maxLen]; omega)
    rw [el, ek] at hrun
    rw [show (l.map fun a => [enc a]) ++ (k.map fun a => [enc a]) = (l ++ k).map (fun a => [enc a]) by simp] at hR
    rw [← hn] at hrun
    refine ⟨_, _, _, w', hrun, ?_⟩
    have eN : l.length + n2 = ((l ++ k).map fun a => [enc a]).length := by simp; omega
    rw [eN]
    rcases hg with ⟨hv, hf⟩ | ⟨hge, hf⟩
    · refine k3 (F' := [g']) (hf.mono ?_) (.inr ⟨g', cap', rfl, rfl, hR⟩) ?_
      · intro x hx
        rcases k1 with ⟨k1, _, _⟩ | ⟨g, cap, k1, rfl, _⟩
        · rw [k1] at hv; cases hv
        · rw [k1] at hv; injection hv with e1 e2 e3; simp at e1; subst e1; exact hx
      · intro x hx
        rcases k1 with ⟨k1, _, _⟩ | ⟨g, cap, k1, rfl, _⟩
        · rw [k1] at hv; cases hv
        · rw [k1] at hv; injection hv with e1 e2 e3; simp at e1; subst e1; exact .inl hx
    · exact k3 (F' := [g']) (hf.mono (by simp)) (.inr ⟨g', cap', rfl, rfl, hR⟩) (fun x hx => by simp at hx; subst hx; exact .inr hge)
end Go.Proofs.YtjmlfknogjaemaaDoor.Vc
/- The plain statements of some functions, printed by vcgen.py. -/
set_option maxRecDepth 100000
set_option linter.unusedVariables false
namespace Go.Proofs.YtjmlfknogjaemaaDoor
open Go Go.Proofs.YtjmlfknogjaemaaDoor.Vc
theorem W9.mixed : Tryd.prog.follows .mixedOrders = true := by kernel_rfl
/-- gatehouse/page.places -/
def f26.AL : Nat → Option Ann := fun r => match r with | 2 => some ⟨[(3, .int .i64)], [1]⟩ | _ => none
def f26.AC : Nat → Option Ann := fun _ => none
def f26.VC (Aa0_0 : Option Addr) (na0_0 ca0_0 : Nat) (Aa0_1 : Option Addr) (na0_1 ca0_1 : Nat) (Aa0_2 : Option Addr) (na0_2 ca0_2 : Nat) (Aa0_3 : Option Addr) (na0_3 ca0_3 : Nat) (Aa0_4 : Option Addr) (na0_4 ca0_4 : Nat) (Aa0_5 : Option Addr) (na0_5 ca0_5 : Nat) (w : World) (R : Value → World → Prop) : Prop :=
  let w_1 : World := World.alloc w (.cells #[.slice Aa0_0 na0_0 ca0_0, .slice Aa0_1 na0_1 ca0_1, .slice Aa0_2 na0_2 ca0_2, .slice Aa0_3 na0_3 ca0_3, .slice Aa0_4 na0_4 ca0_4, .slice Aa0_5 na0_5 ca0_5] 32);
  ∃ I : Int → World → Nat → Prop,
  (∃ n, I 2 w_1 n) ∧
  ∀ d : Env, ∀ (x3 : Int) (w_2 : World) (r : Nat), I x3 w_2 r →
  ∃ (A6 : Option Addr) (n6 c6 : Nat),
  w_2.cell? ⟨w.heap.size, 0, none⟩ = some (.slice A6 n6 c6) ∧
  ∃ (A9 : Option Addr) (n9 c9 : Nat),
  w_2.cell? ⟨w.heap.size, 1, none⟩ = some (.slice A9 n9 c9) ∧
  let i11 : Int := IntKind.i64.wrap ((n6 : Int) + (n9 : Int));
  ∃ (A13 : Option Addr) (n13 c13 : Nat),
  w_2.cell? ⟨w.heap.size, 2, none⟩ = some (.slice A13 n13 c13) ∧
  let i15 : Int := IntKind.i64.wrap (i11 + (n13 : Int));
  let i16 : Int := IntKind.i64.wrap (2 * i15);
  sel (decide ((x3 : Int) < (i16 : Int))) (
  (0 : Int) ≤ 1 ∧
  let i19 : Int := shlI .i64 x3 1;
  ([.pointer (some ⟨w.heap.size, 0, none⟩)] : List Value) = ([.pointer (some ⟨w.heap.size, 0, none⟩)] : List Value) ∧ ∃ m, m < r ∧ I i19 w_2 m) (
  R (.int .i64 x3) w_2)
theorem f26.eq (Aa0_0 : Option Addr) (na0_0 ca0_0 : Nat) (Aa0_1 : Option Addr) (na0_1 ca0_1 : Nat) (Aa0_2 : Option Addr) (na0_2 ca0_2 : Nat) (Aa0_3 : Option Addr) (na0_3 ca0_3 : Nat) (Aa0_4 : Option Addr) (na0_4 ca0_4 : Nat) (Aa0_5 : Option Addr) (na0_5 ca0_5 : Nat) (w : World) (R : Value → World → Prop) : f26.VC Aa0_0 na0_0 ca0_0 Aa0_1 na0_1 ca0_1 Aa0_2 na0_2 ca0_2 Aa0_3 na0_3 ca0_3 Aa0_4 na0_4 ca0_4 Aa0_5 na0_5 ca0_5 w R = funV Tryd.prog Tryd.f26 f26.AL f26.AC #[.agg #[.slice Aa0_0 na0_0 ca0_0, .slice Aa0_1 na0_1 ca0_1, .slice Aa0_2 na0_2 ca0_2, .slice Aa0_3 na0_3 ca0_3, .slice Aa0_4 na0_4 ca0_4, .slice Aa0_5 na0_5 ca0_5]] w R := by kernel_rfl
theorem f26.calls {Aa0_0 : Option Addr} {na0_0 ca0_0 : Nat} {Aa0_1 : Option Addr} {na0_1 ca0_1 : Nat} {Aa0_2 : Option Addr} {na0_2 ca0_2 : Nat} {Aa0_3 : Option Addr} {na0_3 ca0_3 : Nat} {Aa0_4 : Option Addr} {na0_4 ca0_4 : Nat} {Aa0_5 : Option Addr} {na0_5 ca0_5 : Nat} {w : World} {R : Value → World → Prop} (h : f26.VC Aa0_0 na0_0 ca0_0 Aa0_1 na0_1 ca0_1 Aa0_2 na0_2 ca0_2 Aa0_3 na0_3 ca0_3 Aa0_4 na0_4 ca0_4 Aa0_5 na0_5 ca0_5 w R) : Calls Tryd.prog 26 #[.agg #[.slice Aa0_0 na0_0 ca0_0, .slice Aa0_1 na0_1 ca0_1, .slice Aa0_2 na0_2 ca0_2, .slice Aa0_3 na0_3 ca0_3, .slice Aa0_4 na0_4 ca0_4, .slice Aa0_5 na0_5 ca0_5]] w fun e w' => ∃ v, e = .returned v ∧ R v w' :=
  funV_sound (fn := Tryd.f26) (AL := f26.AL) (AC := f26.AC) W9.mixed (by kernel_rfl) (by rw [← f26.eq Aa0_0 na0_0 ca0_0 Aa0_1 na0_1 ca0_1 Aa0_2 na0_2 ca0_2 Aa0_3 na0_3 ca0_3 Aa0_4 na0_4 ca0_4 Aa0_5 na0_5 ca0_5]; exact h)

/-- gatehouse/page.classes -/
def f27.AL : Nat → Option Ann := fun _ => none
def f27.AC : Nat → Option Ann := fun _ => none
def f27.VC (Aa0 : Option Addr) (na0 ca0 : Nat) (w : World) (R : Value → World → Prop) : Prop :=
  sel (((na0 : Int) : Int) == (0 : Int)) (
  R (.int .i64 0) w) (
  Calls Tryd.prog 52 #[.slice Aa0 na0 ca0] w fun e_1 w_1 =>
  ∃ (x7 : Int),
  e_1 = .returned (.int .i64 x7) ∧
  R (.int .i64 x7) w_1)
theorem f27.eq (Aa0 : Option Addr) (na0 ca0 : Nat) (w : World) (R : Value → World → Prop) : f27.VC Aa0 na0 ca0 w R = funV Tryd.prog Tryd.f27 f27.AL f27.AC #[.slice Aa0 na0 ca0] w R := by kernel_rfl
theorem f27.calls {Aa0 : Option Addr} {na0 ca0 : Nat} {w : World} {R : Value → World → Prop} (h : f27.VC Aa0 na0 ca0 w R) : Calls Tryd.prog 27 #[.slice Aa0 na0 ca0] w fun e w' => ∃ v, e = .returned v ∧ R v w' :=
  funV_sound (fn := Tryd.f27) (AL := f27.AL) (AC := f27.AC) W9.mixed (by kernel_rfl) (by rw [← f27.eq Aa0 na0 ca0]; exact h)

/-- gatehouse/page.room -/
def f25.AL : Nat → Option Ann := fun r => match r with | 3 => some ⟨[(20, .int .i64)], [1, 5, 19]⟩ | 6 => some ⟨[(25, .int .i64)], [1, 5, 19, 20, 23, 24]⟩ | _ => none
def f25.AC : Nat → Option Ann := fun _ => none
def f25.VC (Aa0_0 : Option Addr) (na0_0 ca0_0 : Nat) (Aa0_1 : Option Addr) (na0_1 ca0_1 : Nat) (Aa0_2 : Option Addr) (na0_2 ca0_2 : Nat) (Aa0_3 : Option Addr) (na0_3 ca0_3 : Nat) (Aa0_4 : Option Addr) (na0_4 ca0_4 : Nat) (Aa0_5 : Option Addr) (na0_5 ca0_5 : Nat) (a1 : Nat) (w : World) (R : Value → World → Prop) : Prop :=
  let w_1 : World := World.alloc w (.cells #[.slice Aa0_0 na0_0 ca0_0, .slice Aa0_1 na0_1 ca0_1, .slice Aa0_2 na0_2 ca0_2, .slice Aa0_3 na0_3 ca0_3, .slice Aa0_4 na0_4 ca0_4, .slice Aa0_5 na0_5 ca0_5] 32);
  let w_2 : World := World.alloc w_1 (.map #[] 0);
  ∃ (A14 : Option Addr) (n14 c14 : Nat),
  w_2.cell? ⟨w.heap.size, 0, none⟩ = some (.slice A14 n14 c14) ∧
  ∃ (A16 : Option Addr) (n16 c16 : Nat),
  w_2.cell? ⟨w.heap.size, 1, none⟩ = some (.slice A16 n16 c16) ∧
  ∃ (A18 : Option Addr) (n18 c18 : Nat),
  w_2.cell? ⟨w.heap.size, 2, none⟩ = some (.slice A18 n18 c18) ∧
  ∃ I : Int → World → Nat → Prop,
  (∃ n, I 0 w_2 n) ∧
  ∀ d : Env, ∀ (x20 : Int) (w_3 : World) (r : Nat), I x20 w_3 r →
  sel (decide ((x20 : Int) < (3 : Int))) (
  ∃ (A22 : Option Addr) (n22 c22 : Nat),
  (∀ w', (Instr.index 91 (.agg #[.slice A14 n14 c14, .slice A16 n16 c16, .slice A18 n18 c18]) (.int .i64 x20)).run Tryd.prog w' = .ok (.slice A22 n22 c22) w') ∧
  ∃ I_1 : Int → World → Nat → Prop,
  (∃ n, I_1 0 w_3 n) ∧
  ∀ d_1 : Env, ∀ (x25 : Int) (w_4 : World) (r_1 : Nat), I_1 x25 w_4 r_1 →
  sel (decide ((x25 : Int) < ((n22 : Int) : Int))) (
  (0 : Int) ≤ x25 ∧ x25 < (n22 : Int) ∧
  needPtr A22 fun b27 o27 =>
  ∃ (s28 : ByteArray),
  w_4.cell? ⟨b27, o27 + x25.toNat * 1, none⟩ = some (.string s28) ∧
  Calls Tryd.prog 10 #[.pointer (some ⟨a1, 0, none⟩), .string s28] w_4 fun e_1 w_5 =>
  ∃ (x32_0 : Int) (b32_1 : Bool),
  e_1 = .returned (.tuple #[.int .i64 x32_0, .bool b32_1]) ∧
  sel (!b32_1) (
  ∃ (x39 : Int),
  ∃ w_6 : World, (Instr.lookup 51 (.map (some w_1.heap.size)) (.string s28) false).run Tryd.prog w_5 = .ok (.int .i64 x39) w_6 ∧
  let i40 : Int := IntKind.i64.wrap (x39 + 1);
  ∃ w_7 : World, (Instr.mapUpdate 51 (.map (some w_1.heap.size)) (.string s28) (.int .i64 i40)).run Tryd.prog w_6 = .ok () w_7 ∧
  let i41 : Int := IntKind.i64.wrap (x25 + 1);
  ([.pointer (some ⟨a1, 0, none⟩), .map (some w_1.heap.size), .agg #[.slice A14 n14 c14, .slice A16 n16 c16, .slice A18 n18 c18], .int .i64 x20, .slice A22 n22 c22, .int .i64 (n22 : Int)] : List Value) = ([.pointer (some ⟨a1, 0, none⟩), .map (some w_1.heap.size), .agg #[.slice A14 n14 c14, .slice A16 n16 c16, .slice A18 n18 c18], .int .i64 x20, .slice A22 n22 c22, .int .i64 (n22 : Int)] : List Value) ∧ ∃ m, m < r_1 ∧ I_1 i41 w_7 m) (
  let i41_1 : Int := IntKind.i64.wrap (x25 + 1);
  ([.pointer (some ⟨a1, 0, none⟩), .map (some w_1.heap.size), .agg #[.slice A14 n14 c14, .slice A16 n16 c16, .slice A18 n18 c18], .int .i64 x20, .slice A22 n22 c22, .int .i64 (n22 : Int)] : List Value) = ([.pointer (some ⟨a1, 0, none⟩), .map (some w_1.heap.size), .agg #[.slice A14 n14 c14, .slice A16 n16 c16, .slice A18 n18 c18], .int .i64 x20, .slice A22 n22 c22, .int .i64 (n22 : Int)] : List Value) ∧ ∃ m, m < r_1 ∧ I_1 i41_1 w_5 m)) (
  let i42 : Int := IntKind.i64.wrap (x20 + 1);
  ([.pointer (some ⟨a1, 0, none⟩), .map (some w_1.heap.size), .agg #[.slice A14 n14 c14, .slice A16 n16 c16, .slice A18 n18 c18]] : List Value) = ([.pointer (some ⟨a1, 0, none⟩), .map (some w_1.heap.size), .agg #[.slice A14 n14 c14, .slice A16 n16 c16, .slice A18 n18 c18]] : List Value) ∧ ∃ m, m < r ∧ I i42 w_4 m)) (
  ∃ (x44 : Int),
  ∃ w_8 : World, (Builtin.len_ #[51] 3 #[.map (some w_1.heap.size)]).run Tryd.prog w_3 = .ok (.int .i64 x44) w_8 ∧
  Calls Tryd.prog 11 #[.pointer (some ⟨a1, 0, none⟩)] w_8 fun e_2 w_9 =>
  ∃ (x46 : Int),
  e_2 = .returned (.int .i64 x46) ∧
  let i47 : Int := IntKind.i64.wrap (1048576 - x46);
  R (.bool (decide ((x44 : Int) ≤ (i47 : Int)))) w_9)
theorem f25.eq (Aa0_0 : Option Addr) (na0_0 ca0_0 : Nat) (Aa0_1 : Option Addr) (na0_1 ca0_1 : Nat) (Aa0_2 : Option Addr) (na0_2 ca0_2 : Nat) (Aa0_3 : Option Addr) (na0_3 ca0_3 : Nat) (Aa0_4 : Option Addr) (na0_4 ca0_4 : Nat) (Aa0_5 : Option Addr) (na0_5 ca0_5 : Nat) (a1 : Nat) (w : World) (R : Value → World → Prop) : f25.VC Aa0_0 na0_0 ca0_0 Aa0_1 na0_1 ca0_1 Aa0_2 na0_2 ca0_2 Aa0_3 na0_3 ca0_3 Aa0_4 na0_4 ca0_4 Aa0_5 na0_5 ca0_5 a1 w R = funV Tryd.prog Tryd.f25 f25.AL f25.AC #[.agg #[.slice Aa0_0 na0_0 ca0_0, .slice Aa0_1 na0_1 ca0_1, .slice Aa0_2 na0_2 ca0_2, .slice Aa0_3 na0_3 ca0_3, .slice Aa0_4 na0_4 ca0_4, .slice Aa0_5 na0_5 ca0_5], .pointer (some ⟨a1, 0, none⟩)] w R := by kernel_rfl
theorem f25.calls {Aa0_0 : Option Addr} {na0_0 ca0_0 : Nat} {Aa0_1 : Option Addr} {na0_1 ca0_1 : Nat} {Aa0_2 : Option Addr} {na0_2 ca0_2 : Nat} {Aa0_3 : Option Addr} {na0_3 ca0_3 : Nat} {Aa0_4 : Option Addr} {na0_4 ca0_4 : Nat} {Aa0_5 : Option Addr} {na0_5 ca0_5 : Nat} {a1 : Nat} {w : World} {R : Value → World → Prop} (h : f25.VC Aa0_0 na0_0 ca0_0 Aa0_1 na0_1 ca0_1 Aa0_2 na0_2 ca0_2 Aa0_3 na0_3 ca0_3 Aa0_4 na0_4 ca0_4 Aa0_5 na0_5 ca0_5 a1 w R) : Calls Tryd.prog 25 #[.agg #[.slice Aa0_0 na0_0 ca0_0, .slice Aa0_1 na0_1 ca0_1, .slice Aa0_2 na0_2 ca0_2, .slice Aa0_3 na0_3 ca0_3, .slice Aa0_4 na0_4 ca0_4, .slice Aa0_5 na0_5 ca0_5], .pointer (some ⟨a1, 0, none⟩)] w fun e w' => ∃ v, e = .returned v ∧ R v w' :=
  funV_sound (fn := Tryd.f25) (AL := f25.AL) (AC := f25.AC) W9.mixed (by kernel_rfl) (by rw [← f25.eq Aa0_0 na0_0 ca0_0 Aa0_1 na0_1 ca0_1 Aa0_2 na0_2 ca0_2 Aa0_3 na0_3 ca0_3 Aa0_4 na0_4 ca0_4 Aa0_5 na0_5 ca0_5 a1]; exact h)

/-- gatehouse/page.Lay$2 -/
def f29.AL : Nat → Option Ann := fun _ => none
def f29.AC : Nat → Option Ann := fun _ => none
def f29.VC (xa0 : Int) (w : World) (R : Value → World → Prop) : Prop :=
  let i4 : Int := IntKind.i64.wrap (xa0 + 1);
  R (.int .i64 i4) w
theorem f29.eq (xa0 : Int) (w : World) (R : Value → World → Prop) : f29.VC xa0 w R = funV Tryd.prog Tryd.f29 f29.AL f29.AC #[.int .i64 xa0] w R := by kernel_rfl
theorem f29.calls {xa0 : Int} {w : World} {R : Value → World → Prop} (h : f29.VC xa0 w R) : Calls Tryd.prog 29 #[.int .i64 xa0] w fun e w' => ∃ v, e = .returned v ∧ R v w' :=
  funV_sound (fn := Tryd.f29) (AL := f29.AL) (AC := f29.AC) W9.mixed (by kernel_rfl) (by rw [← f29.eq xa0]; exact h)

/-- gatehouse/page.Lay$3 -/
def f30.AL : Nat → Option Ann := fun _ => none
def f30.AC : Nat → Option Ann := fun _ => none
def f30.VC (xa0 : Int) (a1 : Nat) (w : World) (R : Value → World → Prop) : Prop :=
  ∃ (A5 : Option Addr) (n5 c5 : Nat),
  w.cell? ⟨a1, 3, none⟩ = some (.slice A5 n5 c5) ∧
  (0 : Int) ≤ xa0 ∧ xa0 < (n5 : Int) ∧
  needPtr A5 fun b7 o7 =>
  ∃ (x8 : Int),
  w.cell? ⟨b7, o7 + xa0.toNat * 1, none⟩ = some (.int .i64 x8) ∧
  R (.int .i64 x8) w
theorem f30.eq (xa0 : Int) (a1 : Nat) (w : World) (R : Value → World → Prop) : f30.VC xa0 a1 w R = funV Tryd.prog Tryd.f30 f30.AL f30.AC #[.int .i64 xa0, .pointer (some ⟨a1, 0, none⟩)] w R := by kernel_rfl
theorem f30.calls {xa0 : Int} {a1 : Nat} {w : World} {R : Value → World → Prop} (h : f30.VC xa0 a1 w R) : Calls Tryd.prog 30 #[.int .i64 xa0, .pointer (some ⟨a1, 0, none⟩)] w fun e w' => ∃ v, e = .returned v ∧ R v w' :=
  funV_sound (fn := Tryd.f30) (AL := f30.AL) (AC := f30.AC) W9.mixed (by kernel_rfl) (by rw [← f30.eq xa0 a1]; exact h)

/-- gatehouse/page.Lay$4 -/
def f31.AL : Nat → Option Ann := fun _ => none
def f31.AC : Nat → Option Ann := fun _ => none
def f31.VC (xa0 : Int) (a1 : Nat) (w : World) (R : Value → World → Prop) : Prop :=
  ∃ (A5 : Option Addr) (n5 c5 : Nat),
  w.cell? ⟨a1, 4, none⟩ = some (.slice A5 n5 c5) ∧
  (0 : Int) ≤ xa0 ∧ xa0 < (n5 : Int) ∧
  needPtr A5 fun b7 o7 =>
  ∃ (x8 : Int),
  w.cell? ⟨b7, o7 + xa0.toNat * 1, none⟩ = some (.int .i64 x8) ∧
  R (.int .i64 x8) w
theorem f31.eq (xa0 : Int) (a1 : Nat) (w : World) (R : Value → World → Prop) : f31.VC xa0 a1 w R = funV Tryd.prog Tryd.f31 f31.AL f31.AC #[.int .i64 xa0, .pointer (some ⟨a1, 0, none⟩)] w R := by kernel_rfl
theorem f31.calls {xa0 : Int} {a1 : Nat} {w : World} {R : Value → World → Prop} (h : f31.VC xa0 a1 w R) : Calls Tryd.prog 31 #[.int .i64 xa0, .pointer (some ⟨a1, 0, none⟩)] w fun e w' => ∃ v, e = .returned v ∧ R v w' :=
  funV_sound (fn := Tryd.f31) (AL := f31.AL) (AC := f31.AC) W9.mixed (by kernel_rfl) (by rw [← f31.eq xa0 a1]; exact h)

/-- gatehouse/page.Size -/
def f19.AL : Nat → Option Ann := fun _ => none
def f19.AC : Nat → Option Ann := fun _ => none
def f19.VC (Aa0_0 : Option Addr) (na0_0 ca0_0 : Nat) (Aa0_1 : Option Addr) (na0_1 ca0_1 : Nat) (Aa0_2 : Option Addr) (na0_2 ca0_2 : Nat) (Aa0_3 : Option Addr) (na0_3 ca0_3 : Nat) (Aa0_4 : Option Addr) (na0_4 ca0_4 : Nat) (Aa0_5 : Option Addr) (na0_5 ca0_5 : Nat) (w : World) (R : Value → World → Prop) : Prop :=
  let w_1 : World := World.alloc w (.cells #[.slice Aa0_0 na0_0 ca0_0, .slice Aa0_1 na0_1 ca0_1, .slice Aa0_2 na0_2 ca0_2, .slice Aa0_3 na0_3 ca0_3, .slice Aa0_4 na0_4 ca0_4, .slice Aa0_5 na0_5 ca0_5] 32);
  ∃ (A3_0 : Option Addr) (n3_0 c3_0 : Nat),
  w_1.cell? ⟨w.heap.size, 0, none⟩ = some (.slice A3_0 n3_0 c3_0) ∧
  ∃ (A3_1 : Option Addr) (n3_1 c3_1 : Nat),
  w_1.cell? ⟨w.heap.size, 1, none⟩ = some (.slice A3_1 n3_1 c3_1) ∧
  ∃ (A3_2 : Option Addr) (n3_2 c3_2 : Nat),
  w_1.cell? ⟨w.heap.size, 2, none⟩ = some (.slice A3_2 n3_2 c3_2) ∧
  ∃ (A3_3 : Option Addr) (n3_3 c3_3 : Nat),
  w_1.cell? ⟨w.heap.size, 3, none⟩ = some (.slice A3_3 n3_3 c3_3) ∧
  ∃ (A3_4 : Option Addr) (n3_4 c3_4 : Nat),
  w_1.cell? ⟨w.heap.size, 4, none⟩ = some (.slice A3_4 n3_4 c3_4) ∧
  ∃ (A3_5 : Option Addr) (n3_5 c3_5 : Nat),
  w_1.cell? ⟨w.heap.size, 5, none⟩ = some (.slice A3_5 n3_5 c3_5) ∧
  Calls Tryd.prog 24 #[.agg #[.slice A3_0 n3_0 c3_0, .slice A3_1 n3_1 c3_1, .slice A3_2 n3_2 c3_2, .slice A3_3 n3_3 c3_3, .slice A3_4 n3_4 c3_4, .slice A3_5 n3_5 c3_5]] w_1 fun e_1 w_2 =>
  ∃ (b4 : Bool),
  e_1 = .returned (.bool b4) ∧
  sel (!b4) (
  R (.int .i64 0) w_2) (
  ∃ (A6_0 : Option Addr) (n6_0 c6_0 : Nat),
  w_2.cell? ⟨w.heap.size, 0, none⟩ = some (.slice A6_0 n6_0 c6_0) ∧
  ∃ (A6_1 : Option Addr) (n6_1 c6_1 : Nat),
  w_2.cell? ⟨w.heap.size, 1, none⟩ = some (.slice A6_1 n6_1 c6_1) ∧
  ∃ (A6_2 : Option Addr) (n6_2 c6_2 : Nat),
  w_2.cell? ⟨w.heap.size, 2, none⟩ = some (.slice A6_2 n6_2 c6_2) ∧
  ∃ (A6_3 : Option Addr) (n6_3 c6_3 : Nat),
  w_2.cell? ⟨w.heap.size, 3, none⟩ = some (.slice A6_3 n6_3 c6_3) ∧
  ∃ (A6_4 : Option Addr) (n6_4 c6_4 : Nat),
  w_2.cell? ⟨w.heap.size, 4, none⟩ = some (.slice A6_4 n6_4 c6_4) ∧
  ∃ (A6_5 : Option Addr) (n6_5 c6_5 : Nat),
  w_2.cell? ⟨w.heap.size, 5, none⟩ = some (.slice A6_5 n6_5 c6_5) ∧
  (Calls Tryd.prog 26 #[.agg #[.slice A6_0 n6_0 c6_0, .slice A6_1 n6_1 c6_1, .slice A6_2 n6_2 c6_2, .slice A6_3 n6_3 c6_3, .slice A6_4 n6_4 c6_4, .slice A6_5 n6_5 c6_5]] w_2.drew fun e_2 w_3 =>
  ∃ (x7 : Int),
  e_2 = .returned (.int .i64 x7) ∧
  let i8 : Int := IntKind.i64.wrap (2 * x7);
  let i9 : Int := IntKind.i64.wrap (4 + i8);
  ∃ (A11 : Option Addr) (n11 c11 : Nat),
  w_3.cell? ⟨w.heap.size, 3, none⟩ = some (.slice A11 n11 c11) ∧
  (Calls Tryd.prog 27 #[.slice A11 n11 c11] w_3 fun e_3 w_4 =>
  ∃ (x12 : Int),
  e_3 = .returned (.int .i64 x12) ∧
  ∃ (A14 : Option Addr) (n14 c14 : Nat),
  w_4.cell? ⟨w.heap.size, 4, none⟩ = some (.slice A14 n14 c14) ∧
  Calls Tryd.prog 27 #[.slice A14 n14 c14] w_4 fun e_4 w_5 =>
  ∃ (x15 : Int),
  e_4 = .returned (.int .i64 x15) ∧
  let i16 : Int := IntKind.i64.wrap (x12 * x15);
  let i17 : Int := IntKind.i64.wrap (i9 + i16);
  R (.int .i64 i17) w_5) ∧
  (∃ (A14_1 : Option Addr) (n14_1 c14_1 : Nat),
  w_3.cell? ⟨w.heap.size, 4, none⟩ = some (.slice A14_1 n14_1 c14_1) ∧
  Calls Tryd.prog 27 #[.slice A11 n11 c11] w_3 fun e_5 w_6 =>
  ∃ (x12_1 : Int),
  e_5 = .returned (.int .i64 x12_1) ∧
  Calls Tryd.prog 27 #[.slice A14_1 n14_1 c14_1] w_6 fun e_6 w_7 =>
  ∃ (x15_1 : Int),
  e_6 = .returned (.int .i64 x15_1) ∧
  let i16_1 : Int := IntKind.i64.wrap (x12_1 * x15_1);
  let i17_1 : Int := IntKind.i64.wrap (i9 + i16_1);
  R (.int .i64 i17_1) w_7) ∧ True) ∧
  (∃ (A11_1 : Option Addr) (n11_1 c11_1 : Nat),
  w_2.cell? ⟨w.heap.size, 3, none⟩ = some (.slice A11_1 n11_1 c11_1) ∧
  (Calls Tryd.prog 26 #[.agg #[.slice A6_0 n6_0 c6_0, .slice A6_1 n6_1 c6_1, .slice A6_2 n6_2 c6_2, .slice A6_3 n6_3 c6_3, .slice A6_4 n6_4 c6_4, .slice A6_5 n6_5 c6_5]] w_2.drew fun e_7 w_8 =>
  ∃ (x7_1 : Int),
  e_7 = .returned (.int .i64 x7_1) ∧
  let i8_1 : Int := IntKind.i64.wrap (2 * x7_1);
  let i9_1 : Int := IntKind.i64.wrap (4 + i8_1);
  (Calls Tryd.prog 27 #[.slice A11_1 n11_1 c11_1] w_8 fun e_8 w_9 =>
  ∃ (x12_2 : Int),
  e_8 = .returned (.int .i64 x12_2) ∧
  ∃ (A14_2 : Option Addr) (n14_2 c14_2 : Nat),
  w_9.cell? ⟨w.heap.size, 4, none⟩ = some (.slice A14_2 n14_2 c14_2) ∧
  Calls Tryd.prog 27 #[.slice A14_2 n14_2 c14_2] w_9 fun e_9 w_10 =>
  ∃ (x15_2 : Int),
  e_9 = .returned (.int .i64 x15_2) ∧
  let i16_2 : Int := IntKind.i64.wrap (x12_2 * x15_2);
  let i17_2 : Int := IntKind.i64.wrap (i9_1 + i16_2);
  R (.int .i64 i17_2) w_10) ∧
  (∃ (A14_3 : Option Addr) (n14_3 c14_3 : Nat),
  w_8.cell? ⟨w.heap.size, 4, none⟩ = some (.slice A14_3 n14_3 c14_3) ∧
  Calls Tryd.prog 27 #[.slice A11_1 n11_1 c11_1] w_8 fun e_10 w_11 =>
  ∃ (x12_3 : Int),
  e_10 = .returned (.int .i64 x12_3) ∧
  Calls Tryd.prog 27 #[.slice A14_3 n14_3 c14_3] w_11 fun e_11 w_12 =>
  ∃ (x15_3 : Int),
  e_11 = .returned (.int .i64 x15_3) ∧
  let i16_3 : Int := IntKind.i64.wrap (x12_3 * x15_3);
  let i17_3 : Int := IntKind.i64.wrap (i9_1 + i16_3);
  R (.int .i64 i17_3) w_12) ∧ True) ∧
  (∃ (A14_4 : Option Addr) (n14_4 c14_4 : Nat),
  w_2.cell? ⟨w.heap.size, 4, none⟩ = some (.slice A14_4 n14_4 c14_4) ∧
  Calls Tryd.prog 26 #[.agg #[.slice A6_0 n6_0 c6_0, .slice A6_1 n6_1 c6_1, .slice A6_2 n6_2 c6_2, .slice A6_3 n6_3 c6_3, .slice A6_4 n6_4 c6_4, .slice A6_5 n6_5 c6_5]] w_2.drew fun e_12 w_13 =>
  ∃ (x7_2 : Int),
  e_12 = .returned (.int .i64 x7_2) ∧
  let i8_2 : Int := IntKind.i64.wrap (2 * x7_2);
  let i9_2 : Int := IntKind.i64.wrap (4 + i8_2);
  Calls Tryd.prog 27 #[.slice A11_1 n11_1 c11_1] w_13 fun e_13 w_14 =>
  ∃ (x12_4 : Int),
  e_13 = .returned (.int .i64 x12_4) ∧
  Calls Tryd.prog 27 #[.slice A14_4 n14_4 c14_4] w_14 fun e_14 w_15 =>
  ∃ (x15_4 : Int),
  e_14 = .returned (.int .i64 x15_4) ∧
  let i16_4 : Int := IntKind.i64.wrap (x12_4 * x15_4);
  let i17_4 : Int := IntKind.i64.wrap (i9_2 + i16_4);
  R (.int .i64 i17_4) w_15) ∧ True) ∧
  (∃ (A14_5 : Option Addr) (n14_5 c14_5 : Nat),
  w_2.cell? ⟨w.heap.size, 4, none⟩ = some (.slice A14_5 n14_5 c14_5) ∧
  (Calls Tryd.prog 26 #[.agg #[.slice A6_0 n6_0 c6_0, .slice A6_1 n6_1 c6_1, .slice A6_2 n6_2 c6_2, .slice A6_3 n6_3 c6_3, .slice A6_4 n6_4 c6_4, .slice A6_5 n6_5 c6_5]] w_2.drew fun e_15 w_16 =>
  ∃ (x7_3 : Int),
  e_15 = .returned (.int .i64 x7_3) ∧
  let i8_3 : Int := IntKind.i64.wrap (2 * x7_3);
  let i9_3 : Int := IntKind.i64.wrap (4 + i8_3);
  ∃ (A11_2 : Option Addr) (n11_2 c11_2 : Nat),
  w_16.cell? ⟨w.heap.size, 3, none⟩ = some (.slice A11_2 n11_2 c11_2) ∧
  Calls Tryd.prog 27 #[.slice A11_2 n11_2 c11_2] w_16 fun e_16 w_17 =>
  ∃ (x12_5 : Int),
  e_16 = .returned (.int .i64 x12_5) ∧
  Calls Tryd.prog 27 #[.slice A14_5 n14_5 c14_5] w_17 fun e_17 w_18 =>
  ∃ (x15_5 : Int),
  e_17 = .returned (.int .i64 x15_5) ∧
  let i16_5 : Int := IntKind.i64.wrap (x12_5 * x15_5);
  let i17_5 : Int := IntKind.i64.wrap (i9_3 + i16_5);
  R (.int .i64 i17_5) w_18) ∧
  (∃ (A11_3 : Option Addr) (n11_3 c11_3 : Nat),
  w_2.cell? ⟨w.heap.size, 3, none⟩ = some (.slice A11_3 n11_3 c11_3) ∧
  Calls Tryd.prog 26 #[.agg #[.slice A6_0 n6_0 c6_0, .slice A6_1 n6_1 c6_1, .slice A6_2 n6_2 c6_2, .slice A6_3 n6_3 c6_3, .slice A6_4 n6_4 c6_4, .slice A6_5 n6_5 c6_5]] w_2.drew fun e_18 w_19 =>
  ∃ (x7_4 : Int),
  e_18 = .returned (.int .i64 x7_4) ∧
  let i8_4 : Int := IntKind.i64.wrap (2 * x7_4);
  let i9_4 : Int := IntKind.i64.wrap (4 + i8_4);
  Calls Tryd.prog 27 #[.slice A11_3 n11_3 c11_3] w_19 fun e_19 w_20 =>
  ∃ (x12_6 : Int),
  e_19 = .returned (.int .i64 x12_6) ∧
  Calls Tryd.prog 27 #[.slice A14_5 n14_5 c14_5] w_20 fun e_20 w_21 =>
  ∃ (x15_6 : Int),
  e_20 = .returned (.int .i64 x15_6) ∧
  let i16_6 : Int := IntKind.i64.wrap (x12_6 * x15_6);
  let i17_6 : Int := IntKind.i64.wrap (i9_4 + i16_6);
  R (.int .i64 i17_6) w_21) ∧ True) ∧ True)
theorem f19.eq (Aa0_0 : Option Addr) (na0_0 ca0_0 : Nat) (Aa0_1 : Option Addr) (na0_1 ca0_1 : Nat) (Aa0_2 : Option Addr) (na0_2 ca0_2 : Nat) (Aa0_3 : Option Addr) (na0_3 ca0_3 : Nat) (Aa0_4 : Option Addr) (na0_4 ca0_4 : Nat) (Aa0_5 : Option Addr) (na0_5 ca0_5 : Nat) (w : World) (R : Value → World → Prop) : f19.VC Aa0_0 na0_0 ca0_0 Aa0_1 na0_1 ca0_1 Aa0_2 na0_2 ca0_2 Aa0_3 na0_3 ca0_3 Aa0_4 na0_4 ca0_4 Aa0_5 na0_5 ca0_5 w R = funV Tryd.prog Tryd.f19 f19.AL f19.AC #[.agg #[.slice Aa0_0 na0_0 ca0_0, .slice Aa0_1 na0_1 ca0_1, .slice Aa0_2 na0_2 ca0_2, .slice Aa0_3 na0_3 ca0_3, .slice Aa0_4 na0_4 ca0_4, .slice Aa0_5 na0_5 ca0_5]] w R := by kernel_rfl
theorem f19.calls {Aa0_0 : Option Addr} {na0_0 ca0_0 : Nat} {Aa0_1 : Option Addr} {na0_1 ca0_1 : Nat} {Aa0_2 : Option Addr} {na0_2 ca0_2 : Nat} {Aa0_3 : Option Addr} {na0_3 ca0_3 : Nat} {Aa0_4 : Option Addr} {na0_4 ca0_4 : Nat} {Aa0_5 : Option Addr} {na0_5 ca0_5 : Nat} {w : World} {R : Value → World → Prop} (h : f19.VC Aa0_0 na0_0 ca0_0 Aa0_1 na0_1 ca0_1 Aa0_2 na0_2 ca0_2 Aa0_3 na0_3 ca0_3 Aa0_4 na0_4 ca0_4 Aa0_5 na0_5 ca0_5 w R) : Calls Tryd.prog 19 #[.agg #[.slice Aa0_0 na0_0 ca0_0, .slice Aa0_1 na0_1 ca0_1, .slice Aa0_2 na0_2 ca0_2, .slice Aa0_3 na0_3 ca0_3, .slice Aa0_4 na0_4 ca0_4, .slice Aa0_5 na0_5 ca0_5]] w fun e w' => ∃ v, e = .returned v ∧ R v w' :=
  funV_sound (fn := Tryd.f19) (AL := f19.AL) (AC := f19.AC) W9.mixed (by kernel_rfl) (by rw [← f19.eq Aa0_0 na0_0 ca0_0 Aa0_1 na0_1 ca0_1 Aa0_2 na0_2 ca0_2 Aa0_3 na0_3 ca0_3 Aa0_4 na0_4 ca0_4 Aa0_5 na0_5 ca0_5]; exact h)

end Go.Proofs.YtjmlfknogjaemaaDoor
