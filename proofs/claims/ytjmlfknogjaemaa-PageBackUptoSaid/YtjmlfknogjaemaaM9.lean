/- A contract told of one piece of memory, used among others. -/
import Derived.Test.YtjmlfknogjaemaaM7
import Derived.Test.YtjmlfknogjaemaaM4
import Derived.Test.YtjmlfknogjaemaaProg
import Derived.KernelRfl
set_option linter.unusedVariables false
set_option linter.unusedSimpArgs false
namespace Go.Proofs.Ytjmlfknogjaemaa.Vc
open Go
/-- What a contract tells of one piece's blocks, within a larger whole: new pieces come in front. -/
theorem St.graft {S : List Nat} {w0 w : World} {K : List Chunk} (h : St S w0 w K) (i : Nat) {c : Chunk} (hi : K[i]? = some c) : ∃ F, c.holds w F ∧ ∀ {w' : World} {c' : Chunk} {M : List Chunk}, St F w w' (c' :: M) → St S w0 w' (M ++ K.set i c') := by
  obtain ⟨h1, Fs, h2, h3⟩ := h
  have hil : i < K.length := by
    rcases Nat.lt_or_ge i K.length with h | h
    · exact h
    · rw [List.getElem?_eq_none h] at hi; cases hi
  have hlt : ∀ j, j < K.length → ∀ x ∈ Fs j, x < w.heap.size := by
    intro j hj x hx
    exact (K[j]).lt (h2 j K[j] (List.getElem?_eq_getElem hj)).1 x hx
  refine ⟨Fs i, (h2 i c hi).1, ?_⟩
  rintro w' c' M ⟨g1, Gs, g2, g3⟩
  have hS : ∀ x, (x ∈ Fs i ∨ w.heap.size ≤ x) → x ∈ S ∨ w0.heap.size ≤ x := by
    intro x hx
    rcases hx with hx | hx
    · exact (h2 i c hi).2 x hx
    · exact .inr (Nat.le_trans h1.1 hx)
  have hG : ∀ q, q < (c' :: M).length → ∀ x ∈ Gs q, x ∈ Fs i ∨ w.heap.size ≤ x := by
    intro q hq x hx
    exact (g2 q _ (List.getElem?_eq_getElem hq)).2 x hx
  refine ⟨h1.trans' g1 (fun x hx hl => (hS x (.inl hx)).resolve_right (by omega)), fun j => if j < M.length then Gs (j + 1) else if j - M.length = i then Gs 0 else Fs (j - M.length), ?_, ?_⟩
  · intro j d hd
    dsimp only
    by_cases hj : j < M.length
    · rw [if_pos hj]
      rw [List.getElem?_append_left hj] at hd
      have := g2 (j + 1) d (by simpa using hd)
      exact ⟨this.1, fun x hx => hS x (this.2 x hx)⟩
    · rw [if_neg hj]
      rw [List.getElem?_append_right (by omega)] at hd
      by_cases hq : j - M.length = i
      · rw [if_pos hq]
        rw [hq, List.getElem?_set_self hil] at hd
        injection hd with hd
        subst hd
        have := g2 0 c' rfl
        exact ⟨this.1, fun x hx => hS x (this.2 x hx)⟩
      · rw [if_neg hq]
        rw [List.getElem?_set_ne (Ne.symm hq)] at hd
        have hql : j - M.length < K.length := (List.getElem?_eq_some_iff.1 hd).1
        exact ⟨d.fr (h2 _ d hd).1 g1 (fun x hx hx2 => h3 _ i hql hil hq x hx hx2), (h2 _ d hd).2⟩
  · have out : ∀ p q, p < (c' :: M).length → q < K.length → q ≠ i → ∀ x ∈ Gs p, x ∉ Fs q := by
      intro p q hp hq hqi x hx hx2
      rcases hG p hp x hx with h | h
      · exact h3 q i hq hil hqi x hx2 h
      · have := hlt q hq x hx2; omega
    intro j k hj hk hjk x hx hx2
    dsimp only at hx hx2
    simp only [List.length_append, List.length_set] at hj hk
    by_cases ej : j < M.length
    · rw [if_pos ej] at hx
      by_cases ek : k < M.length
      · rw [if_pos ek] at hx2
        exact g3 (j + 1) (k + 1) (by simp; omega) (by simp; omega) (by omega) x hx hx2
      · rw [if_neg ek] at hx2
        by_cases eq : k - M.length = i
        · rw [if_pos eq] at hx2
          exact g3 (j + 1) 0 (by simp; omega) (by simp) (by omega) x hx hx2
        · rw [if_neg eq] at hx2
          exact out (j + 1) _ (by simp; omega) (by omega) eq x hx hx2
    · rw [if_neg ej] at hx
      by_cases ek : k < M.length
      · rw [if_pos ek] at hx2
        by_cases eq : j - M.length = i
        · rw [if_pos eq] at hx
          exact g3 0 (k + 1) (by simp) (by simp; omega) (by omega) x hx hx2
        · rw [if_neg eq] at hx
          exact out (k + 1) _ (by simp; omega) (by omega) eq x hx2 hx
      · rw [if_neg ek] at hx2
        by_cases eq : j - M.length = i
        · rw [if_pos eq] at hx
          by_cases eq2 : k - M.length = i
          · omega
          · rw [if_neg eq2] at hx2
            exact out 0 _ (by simp) (by omega) eq2 x hx hx2
        · rw [if_neg eq] at hx
          by_cases eq2 : k - M.length = i
          · rw [if_pos eq2] at hx2
            exact out 0 _ (by simp) (by omega) eq x hx2 hx
          · rw [if_neg eq2] at hx2
            exact h3 _ _ (by omega) (by omega) (by omega) x hx hx2
/-- .. where the piece alone is left. -/
theorem St.use {S : List Nat} {w0 w : World} {K : List Chunk} {P : Program} {f : FuncId} {args : Array Value} {Q : Ending → Prop} {c c' : Chunk} (h : St S w0 w K) (i : Nat) (hi : K[i]? = some c)
    (hc : ∀ F, St F w w [c] → Calls P f args w fun e w' => Q e ∧ St F w w' [c']) : Calls P f args w fun e w' => Q e ∧ St S w0 w' (K.set i c') := by
  obtain ⟨F, hF, hg⟩ := h.graft i hi
  refine (hc F (St.start1 hF)).mono fun e w' ⟨h1, h2⟩ => ⟨h1, ?_⟩
  simpa using hg (M := []) h2
/-- New pieces, made by work that touched nothing. -/
theorem St.gone {S : List Nat} {w0 w w' : World} {L M : List Chunk} (h : St S w0 w L) (g : St [] w w' M) : St S w0 w' (M ++ L) := by
  obtain ⟨h1, Fs, h2, h3⟩ := h
  obtain ⟨g1, Gs, g2, g3⟩ := g
  have hlt : ∀ j, j < L.length → ∀ x ∈ Fs j, x < w.heap.size := by
    intro j hj x hx
    exact (L[j]).lt (h2 j L[j] (List.getElem?_eq_getElem hj)).1 x hx
  have hge : ∀ q, q < M.length → ∀ x ∈ Gs q, w.heap.size ≤ x := by
    intro q hq x hx
    exact ((g2 q _ (List.getElem?_eq_getElem hq)).2 x hx).resolve_left (by simp)
  refine ⟨h1.trans' g1 (by simp), fun j => if j < M.length then Gs j else Fs (j - M.length), ?_, ?_⟩
  · intro j d hd
    dsimp only
    by_cases hj : j < M.length
    · rw [if_pos hj]
      rw [List.getElem?_append_left hj] at hd
      have := g2 j d hd
      exact ⟨this.1, fun x hx => .inr (Nat.le_trans h1.1 (hge j hj x hx))⟩
    · rw [if_neg hj]
      rw [List.getElem?_append_right (by omega)] at hd
      exact ⟨d.fr (h2 _ d hd).1 g1 (by simp), (h2 _ d hd).2⟩
  · intro j k hj hk hjk x hx hx2
    dsimp only at hx hx2
    simp only [List.length_append] at hj hk
    by_cases ej : j < M.length
    · rw [if_pos ej] at hx
      by_cases ek : k < M.length
      · rw [if_pos ek] at hx2
        exact g3 j k ej ek hjk x hx hx2
      · rw [if_neg ek] at hx2
        have := hge j ej x hx
        have := hlt _ (by omega) x hx2
        omega
    · rw [if_neg ej] at hx
      by_cases ek : k < M.length
      · rw [if_pos ek] at hx2
        have := hge k ek x hx2
        have := hlt _ (by omega) x hx
        omega
      · rw [if_neg ek] at hx2
        exact h3 _ _ (by omega) (by omega) (by omega) x hx hx2
end Go.Proofs.Ytjmlfknogjaemaa.Vc
/- The plain statements of some functions, printed by vcgen.py. -/
set_option maxRecDepth 100000
set_option linter.unusedVariables false
namespace Go.Proofs.Ytjmlfknogjaemaa
open Go Go.Proofs.Ytjmlfknogjaemaa.Vc
theorem W3.mixed : Try.prog.follows .mixedOrders = true := by kernel_rfl
/-- gatehouse/page.table -/
def f64.AL : Nat → Option Ann := fun _ => none
def f64.AC : Nat → Option Ann := fun _ => none
def f64.VC (Aa0 : Option Addr) (na0 ca0 : Nat) (w : World) (R : Value → World → Prop) : Prop :=
  sel (decide (((na0 : Int) : Int) < (4 : Int))) (
    R (.int .i64 0) w) (
    4 ≤ na0 ∧
    needPtr Aa0 fun b8 o8 =>
    ∃ (x9_0 : Int),
    w.cell? ⟨b8, o8, none⟩ = some (.int .i64 x9_0) ∧
    ∃ (x9_1 : Int),
    w.cell? ⟨b8, o8 + 1, none⟩ = some (.int .i64 x9_1) ∧
    ∃ (x9_2 : Int),
    w.cell? ⟨b8, o8 + 1 + 1, none⟩ = some (.int .i64 x9_2) ∧
    ∃ (x9_3 : Int),
    w.cell? ⟨b8, o8 + 1 + 1 + 1, none⟩ = some (.int .i64 x9_3) ∧
    let w_1 : World := World.alloc w (.cells #[.int .i64 0, .int .i64 0, .int .i64 0, .int .i64 0] 108);
    canStore w_1 w.heap.size 0 4 ∧
    let w_2 : World := setCs w_1 w.heap.size 0 [.int .i64 x9_0, .int .i64 x9_1, .int .i64 x9_2, .int .i64 x9_3];
    (0 : Int) ≤ 1 ∧ 1 < (4 : Int) ∧
    ∃ (x11 : Int),
    w_2.cell? ⟨w.heap.size, 1, none⟩ = some (.int .i64 x11) ∧
    Calls Try.prog 76 #[.int .i64 x11] w_2 fun e_1 w_3 =>
    ∃ (b12 : Bool),
    e_1 = .returned (.bool b12) ∧
    sel (!b12) (
      R (.int .i64 0) w_3) (
      (0 : Int) ≤ 1 ∧ 1 < (4 : Int) ∧
      ∃ (x18 : Int),
      w_3.cell? ⟨w.heap.size, 1, none⟩ = some (.int .i64 x18) ∧
      let i19 : Int := IntKind.i64.wrap (2 * x18);
      let i20 : Int := IntKind.i64.wrap (4 + i19);
      sel (decide (((na0 : Int) : Int) < (i20 : Int))) (
        R (.int .i64 0) w_3) (
        (0 : Int) ≤ 1 ∧ 1 < (4 : Int) ∧
        ∃ (x24 : Int),
        w_3.cell? ⟨w.heap.size, 1, none⟩ = some (.int .i64 x24) ∧
        R (.int .i64 x24) w_3)))
theorem f64.eq (Aa0 : Option Addr) (na0 ca0 : Nat) (w : World) (R : Value → World → Prop) : f64.VC Aa0 na0 ca0 w R = funV Try.prog Try.f64 f64.AL f64.AC #[.slice Aa0 na0 ca0] w R := by kernel_rfl
theorem f64.calls {Aa0 : Option Addr} {na0 ca0 : Nat} {w : World} {R : Value → World → Prop} (h : f64.VC Aa0 na0 ca0 w R) : Calls Try.prog 64 #[.slice Aa0 na0 ca0] w fun e w' => ∃ v, e = .returned v ∧ R v w' :=
  funV_sound (fn := Try.f64) (AL := f64.AL) (AC := f64.AC) W3.mixed (by kernel_rfl) (by rw [← f64.eq Aa0 na0 ca0]; exact h)

/-- gatehouse/page.Look -/
def f31.AL : Nat → Option Ann := fun r => match r with | 7 => some ⟨[(10, .int .i64), (11, .int .i64)], [0, 8, 9]⟩ | _ => none
def f31.AC : Nat → Option Ann := fun _ => none
def f31.VC (Aa0 : Option Addr) (na0 ca0 : Nat) (xa1 : Int) (xa2 : Int) (w : World) (R : Value → World → Prop) : Prop :=
  Calls Try.prog 64 #[.slice Aa0 na0 ca0] w fun e_1 w_1 =>
  ∃ (x13 : Int),
  e_1 = .returned (.int .i64 x13) ∧
  sel ((x13 : Int) == (0 : Int)) (
    R (.tuple #[.int .i64 0, .int .i64 0]) w_1) (
    sel (decide ((xa2 : Int) < (1 : Int))) (
      R (.tuple #[.int .i64 0, .int .i64 0]) w_1) (
      sel (decide ((3 : Int) < (xa2 : Int))) (
        R (.tuple #[.int .i64 0, .int .i64 0]) w_1) (
        let i25 : Int := IntKind.i64.wrap (xa1 * 4);
        let i27 : Int := IntKind.i64.wrap xa2;
        let i28 : Int := IntKind.i64.wrap (i25 + i27);
        Calls Try.prog 11 #[.int .i64 i28, .int .i64 x13] w_1 fun e_2 w_2 =>
        ∃ (x31 : Int),
        e_2 = .returned (.int .i64 x31) ∧
        ∃ I : Int → Int → World → Nat → Prop,
        (∃ n, I x31 1 w_2 n) ∧
        ∀ d : Env, ∀ (x10 : Int) (x11 : Int) (w_3 : World) (r : Nat), I x10 x11 w_3 r →
        sel (decide ((x11 : Int) ≤ (x13 : Int))) (
          let i39 : Int := IntKind.i64.wrap (2 * x10);
          let i40 : Int := IntKind.i64.wrap (4 + i39);
          (0 : Int) ≤ i40 ∧ i40 < (na0 : Int) ∧
          needPtr Aa0 fun b41 o41 =>
          ∃ (x42 : Int),
          w_3.cell? ⟨b41, o41 + i40.toNat * 1, none⟩ = some (.int .i64 x42) ∧
          sel ((x42 : Int) == (i28 : Int)) (
            let i48 : Int := IntKind.i64.wrap (2 * x10);
            let i49 : Int := IntKind.i64.wrap (4 + i48);
            let i50 : Int := IntKind.i64.wrap (i49 + 1);
            (0 : Int) ≤ i50 ∧ i50 < (na0 : Int) ∧
            needPtr Aa0 fun b51 o51 =>
            ∃ (x52 : Int),
            w_3.cell? ⟨b51, o51 + i50.toNat * 1, none⟩ = some (.int .i64 x52) ∧
            R (.tuple #[.int .i64 x52, .int .i64 x11]) w_3) (
            sel ((x42 : Int) == (0 : Int)) (
              R (.tuple #[.int .i64 0, .int .i64 x11]) w_3) (
              let i58 : Int := IntKind.i64.wrap (x10 + 1);
              x13 ≠ (0 : Int) ∧
              let i60 : Int := Int.tmod i58 x13;
              let i36 : Int := IntKind.i64.wrap (x11 + 1);
              ([.slice Aa0 na0 ca0, .int .i64 x13, .int .i64 i28] : List Value) = ([.slice Aa0 na0 ca0, .int .i64 x13, .int .i64 i28] : List Value) ∧ ∃ m, m < r ∧ I i60 i36 w_3 m))) (
          R (.tuple #[.int .i64 0, .int .i64 x13]) w_3))))
theorem f31.eq (Aa0 : Option Addr) (na0 ca0 : Nat) (xa1 : Int) (xa2 : Int) (w : World) (R : Value → World → Prop) : f31.VC Aa0 na0 ca0 xa1 xa2 w R = funV Try.prog Try.f31 f31.AL f31.AC #[.slice Aa0 na0 ca0, .int .i64 xa1, .int .i8 xa2] w R := by kernel_rfl
theorem f31.calls {Aa0 : Option Addr} {na0 ca0 : Nat} {xa1 : Int} {xa2 : Int} {w : World} {R : Value → World → Prop} (h : f31.VC Aa0 na0 ca0 xa1 xa2 w R) : Calls Try.prog 31 #[.slice Aa0 na0 ca0, .int .i64 xa1, .int .i8 xa2] w fun e w' => ∃ v, e = .returned v ∧ R v w' :=
  funV_sound (fn := Try.f31) (AL := f31.AL) (AC := f31.AC) W3.mixed (by kernel_rfl) (by rw [← f31.eq Aa0 na0 ca0 xa1 xa2]; exact h)

/-- gatehouse/gatehouseref12.Look -/
def f58.AL : Nat → Option Ann := fun r => match r with | 9 => some ⟨[(11, .int .i64)], [0, 8, 9, 10]⟩ | _ => none
def f58.AC : Nat → Option Ann := fun _ => none
def f58.VC (Aa0 : Option Addr) (na0 ca0 : Nat) (xa1 : Int) (xa2 : Int) (w : World) (R : Value → World → Prop) : Prop :=
  sel (decide ((xa2 : Int) < (1 : Int))) (
    R (.tuple #[.int .i64 0, .int .i64 0]) w) (
    sel (decide ((3 : Int) < (xa2 : Int))) (
      R (.tuple #[.int .i64 0, .int .i64 0]) w) (
      sel (decide (((na0 : Int) : Int) < (4 : Int))) (
        R (.tuple #[.int .i64 0, .int .i64 0]) w) (
        (0 : Int) ≤ 1 ∧ 1 < (na0 : Int) ∧
        needPtr Aa0 fun b25 o25 =>
        ∃ (x26 : Int),
        w.cell? ⟨b25, o25 + 1, none⟩ = some (.int .i64 x26) ∧
        Calls Try.prog 84 #[.int .i64 x26] w fun e_1 w_1 =>
        ∃ (b28 : Bool),
        e_1 = .returned (.bool b28) ∧
        sel (!b28) (
          R (.tuple #[.int .i64 0, .int .i64 0]) w_1) (
          let i34 : Int := IntKind.i64.wrap (2 * x26);
          let i35 : Int := IntKind.i64.wrap (4 + i34);
          sel (decide (((na0 : Int) : Int) < (i35 : Int))) (
            R (.tuple #[.int .i64 0, .int .i64 0]) w_1) (
            let i39 : Int := IntKind.i64.wrap (xa1 * 4);
            let i41 : Int := IntKind.i64.wrap xa2;
            let i42 : Int := IntKind.i64.wrap (i39 + i41);
            Calls Try.prog 12 #[.int .i64 i42, .int .i64 x26] w_1 fun e_2 w_2 =>
            ∃ (x45 : Int),
            e_2 = .returned (.int .i64 x45) ∧
            ∃ I : Int → World → Nat → Prop,
            (∃ n, I 0 w_2 n) ∧
            ∀ d : Env, ∀ (x11 : Int) (w_3 : World) (r : Nat), I x11 w_3 r →
            sel (decide ((x11 : Int) < (x26 : Int))) (
              let i53 : Int := IntKind.i64.wrap (x45 + x11);
              x26 ≠ (0 : Int) ∧
              let i55 : Int := Int.tmod i53 x26;
              let i58 : Int := IntKind.i64.wrap (2 * i55);
              let i59 : Int := IntKind.i64.wrap (4 + i58);
              (0 : Int) ≤ i59 ∧ i59 < (na0 : Int) ∧
              needPtr Aa0 fun b60 o60 =>
              ∃ (x61 : Int),
              w_3.cell? ⟨b60, o60 + i59.toNat * 1, none⟩ = some (.int .i64 x61) ∧
              sel ((x61 : Int) == (i42 : Int)) (
                let i66 : Int := IntKind.i64.wrap (2 * i55);
                let i67 : Int := IntKind.i64.wrap (5 + i66);
                (0 : Int) ≤ i67 ∧ i67 < (na0 : Int) ∧
                needPtr Aa0 fun b68 o68 =>
                ∃ (x69 : Int),
                w_3.cell? ⟨b68, o68 + i67.toNat * 1, none⟩ = some (.int .i64 x69) ∧
                let i71 : Int := IntKind.i64.wrap (x11 + 1);
                R (.tuple #[.int .i64 x69, .int .i64 i71]) w_3) (
                let i74 : Int := IntKind.i64.wrap (2 * i55);
                let i75 : Int := IntKind.i64.wrap (4 + i74);
                (0 : Int) ≤ i75 ∧ i75 < (na0 : Int) ∧
                needPtr Aa0 fun b76 o76 =>
                ∃ (x77 : Int),
                w_3.cell? ⟨b76, o76 + i75.toNat * 1, none⟩ = some (.int .i64 x77) ∧
                sel ((x77 : Int) == (0 : Int)) (
                  let i80 : Int := IntKind.i64.wrap (x11 + 1);
                  R (.tuple #[.int .i64 0, .int .i64 i80]) w_3) (
                  let i50 : Int := IntKind.i64.wrap (x11 + 1);
                  ([.slice Aa0 na0 ca0, .int .i64 x26, .int .i64 i42, .int .i64 x45] : List Value) = ([.slice Aa0 na0 ca0, .int .i64 x26, .int .i64 i42, .int .i64 x45] : List Value) ∧ ∃ m, m < r ∧ I i50 w_3 m))) (
              R (.tuple #[.int .i64 0, .int .i64 x26]) w_3))))))
theorem f58.eq (Aa0 : Option Addr) (na0 ca0 : Nat) (xa1 : Int) (xa2 : Int) (w : World) (R : Value → World → Prop) : f58.VC Aa0 na0 ca0 xa1 xa2 w R = funV Try.prog Try.f58 f58.AL f58.AC #[.slice Aa0 na0 ca0, .int .i64 xa1, .int .i8 xa2] w R := by kernel_rfl
theorem f58.calls {Aa0 : Option Addr} {na0 ca0 : Nat} {xa1 : Int} {xa2 : Int} {w : World} {R : Value → World → Prop} (h : f58.VC Aa0 na0 ca0 xa1 xa2 w R) : Calls Try.prog 58 #[.slice Aa0 na0 ca0, .int .i64 xa1, .int .i8 xa2] w fun e w' => ∃ v, e = .returned v ∧ R v w' :=
  funV_sound (fn := Try.f58) (AL := f58.AL) (AC := f58.AC) W3.mixed (by kernel_rfl) (by rw [← f58.eq Aa0 na0 ca0 xa1 xa2]; exact h)

/-- (*gatehouse/page.eye).seek -/
def f77.AL : Nat → Option Ann := fun r => match r with | 3 => some ⟨[(8, .int .i64), (15, .int .i64)], [0, 1, 2, 14]⟩ | _ => none
def f77.AC : Nat → Option Ann := fun _ => none
def f77.VC (a0 : Nat) (xa1 : Int) (xa2 : Int) (w : World) (R : Value → World → Prop) : Prop :=
  Calls Try.prog 11 #[.int .i64 xa2, .int .i64 xa1] w fun e_1 w_1 =>
  ∃ (x13 : Int),
  e_1 = .returned (.int .i64 x13) ∧
  ∃ I : Int → Int → World → Nat → Prop,
  (∃ n, I x13 0 w_1 n) ∧
  ∀ d : Env, ∀ (x8 : Int) (x15 : Int) (w_2 : World) (r : Nat), I x8 x15 w_2 r →
  sel (decide ((x15 : Int) < (xa1 : Int))) (
    let i20 : Int := IntKind.i64.wrap (2 * x8);
    let i21 : Int := IntKind.i64.wrap (4 + i20);
    Calls Try.prog 75 #[.pointer (some ⟨a0, 0, none⟩), .int .i64 i21] w_2 fun e_2 w_3 =>
    ∃ (x22_0 : Int) (b22_1 : Bool),
    e_2 = .returned (.tuple #[.int .i64 x22_0, .bool b22_1]) ∧
    sel (!b22_1) (
      R (.tuple #[.int .i64 0, .bool false]) w_3) (
      sel ((x22_0 : Int) == (xa2 : Int)) (
        let i32 : Int := IntKind.i64.wrap (2 * x8);
        let i33 : Int := IntKind.i64.wrap (4 + i32);
        let i34 : Int := IntKind.i64.wrap (i33 + 1);
        Calls Try.prog 75 #[.pointer (some ⟨a0, 0, none⟩), .int .i64 i34] w_3 fun e_3 w_4 =>
        ∃ (x35_0 : Int) (b35_1 : Bool),
        e_3 = .returned (.tuple #[.int .i64 x35_0, .bool b35_1]) ∧
        R (.tuple #[.int .i64 x35_0, .bool b35_1]) w_4) (
        sel ((x22_0 : Int) == (0 : Int)) (
          R (.tuple #[.int .i64 0, .bool false]) w_3) (
          let i41 : Int := IntKind.i64.wrap (x8 + 1);
          xa1 ≠ (0 : Int) ∧
          let i43 : Int := Int.tmod i41 xa1;
          let i44 : Int := IntKind.i64.wrap (x15 + 1);
          ([.pointer (some ⟨a0, 0, none⟩), .int .i64 xa1, .int .i64 xa2, .int .i64 xa1] : List Value) = ([.pointer (some ⟨a0, 0, none⟩), .int .i64 xa1, .int .i64 xa2, .int .i64 xa1] : List Value) ∧ ∃ m, m < r ∧ I i43 i44 w_3 m)))) (
    R (.tuple #[.int .i64 0, .bool false]) w_2)
theorem f77.eq (a0 : Nat) (xa1 : Int) (xa2 : Int) (w : World) (R : Value → World → Prop) : f77.VC a0 xa1 xa2 w R = funV Try.prog Try.f77 f77.AL f77.AC #[.pointer (some ⟨a0, 0, none⟩), .int .i64 xa1, .int .i64 xa2] w R := by kernel_rfl
theorem f77.calls {a0 : Nat} {xa1 : Int} {xa2 : Int} {w : World} {R : Value → World → Prop} (h : f77.VC a0 xa1 xa2 w R) : Calls Try.prog 77 #[.pointer (some ⟨a0, 0, none⟩), .int .i64 xa1, .int .i64 xa2] w fun e w' => ∃ v, e = .returned v ∧ R v w' :=
  funV_sound (fn := Try.f77) (AL := f77.AL) (AC := f77.AC) W3.mixed (by kernel_rfl) (by rw [← f77.eq a0 xa1 xa2]; exact h)

/-- (*gatehouse/gatehouseref12.Book).seek -/
def f85.AL : Nat → Option Ann := fun r => match r with | 4 => some ⟨[(12, .int .i64)], [0, 1, 10, 11]⟩ | _ => none
def f85.AC : Nat → Option Ann := fun _ => none
def f85.VC (a0 : Nat) (xa1 : Int) (xa2 : Int) (xa3 : Int) (w : World) (R : Value → World → Prop) : Prop :=
  let i17 : Int := IntKind.i64.wrap (xa2 * 4);
  let i19 : Int := IntKind.i64.wrap (i17 + xa3);
  Calls Try.prog 12 #[.int .i64 i19, .int .i64 xa1] w fun e_1 w_1 =>
  ∃ (x22 : Int),
  e_1 = .returned (.int .i64 x22) ∧
  ∃ I : Int → World → Nat → Prop,
  (∃ n, I 0 w_1 n) ∧
  ∀ d : Env, ∀ (x12 : Int) (w_2 : World) (r : Nat), I x12 w_2 r →
  sel (decide ((x12 : Int) < (xa1 : Int))) (
    let i30 : Int := IntKind.i64.wrap (x22 + x12);
    xa1 ≠ (0 : Int) ∧
    let i32 : Int := Int.tmod i30 xa1;
    let i35 : Int := IntKind.i64.wrap (2 * i32);
    let i36 : Int := IntKind.i64.wrap (4 + i35);
    Calls Try.prog 83 #[.pointer (some ⟨a0, 0, none⟩), .int .i64 i36] w_2 fun e_2 w_3 =>
    ∃ (x37 : Int),
    e_2 = .returned (.int .i64 x37) ∧
    ∃ (b41 : Bool),
    w_3.cell? ⟨a0, 2, none⟩ = some (.bool b41) ∧
    sel b41 (
      R (.tuple #[.int .i64 0, .bool false]) w_3) (
      sel ((x37 : Int) == (i19 : Int)) (
        let i47 : Int := IntKind.i64.wrap (2 * i32);
        let i48 : Int := IntKind.i64.wrap (5 + i47);
        Calls Try.prog 83 #[.pointer (some ⟨a0, 0, none⟩), .int .i64 i48] w_3 fun e_3 w_4 =>
        ∃ (x49 : Int),
        e_3 = .returned (.int .i64 x49) ∧
        ∃ (b54 : Bool),
        w_4.cell? ⟨a0, 2, none⟩ = some (.bool b54) ∧
        R (.tuple #[.int .i64 x49, .bool (!b54)]) w_4.drew) (
        sel ((x37 : Int) == (0 : Int)) (
          R (.tuple #[.int .i64 0, .bool false]) w_3) (
          let i27 : Int := IntKind.i64.wrap (x12 + 1);
          ([.pointer (some ⟨a0, 0, none⟩), .int .i64 xa1, .int .i64 i19, .int .i64 x22] : List Value) = ([.pointer (some ⟨a0, 0, none⟩), .int .i64 xa1, .int .i64 i19, .int .i64 x22] : List Value) ∧ ∃ m, m < r ∧ I i27 w_3 m)))) (
    R (.tuple #[.int .i64 0, .bool false]) w_2)
theorem f85.eq (a0 : Nat) (xa1 : Int) (xa2 : Int) (xa3 : Int) (w : World) (R : Value → World → Prop) : f85.VC a0 xa1 xa2 xa3 w R = funV Try.prog Try.f85 f85.AL f85.AC #[.pointer (some ⟨a0, 0, none⟩), .int .i64 xa1, .int .i64 xa2, .int .i64 xa3] w R := by kernel_rfl
theorem f85.calls {a0 : Nat} {xa1 : Int} {xa2 : Int} {xa3 : Int} {w : World} {R : Value → World → Prop} (h : f85.VC a0 xa1 xa2 xa3 w R) : Calls Try.prog 85 #[.pointer (some ⟨a0, 0, none⟩), .int .i64 xa1, .int .i64 xa2, .int .i64 xa3] w fun e w' => ∃ v, e = .returned v ∧ R v w' :=
  funV_sound (fn := Try.f85) (AL := f85.AL) (AC := f85.AC) W3.mixed (by kernel_rfl) (by rw [← f85.eq a0 xa1 xa2 xa3]; exact h)

/-- gatehouse/page.Decide -/
def f36.AL : Nat → Option Ann := fun r => match r with | 7 => some ⟨[(41, .int .i64)], [10, 11, 13, 40]⟩ | _ => none
def f36.AC : Nat → Option Ann := fun _ => none
def f36.VC (Aa0 : Option Addr) (na0 ca0 : Nat) (xa1 : Int) (xa2 : Int) (xa3 : Int) (w : World) (R : Value → World → Prop) : Prop :=
  let w_1 : World := World.alloc w (.cells #[.slice Aa0 na0 ca0, .int .i64 0] 129);
  Calls Try.prog 75 #[.pointer (some ⟨w.heap.size, 0, none⟩), .int .i64 1] w_1 fun e_1 w_2 =>
  ∃ (x23_0 : Int) (b23_1 : Bool),
  e_1 = .returned (.tuple #[.int .i64 x23_0, .bool b23_1]) ∧
  sel (!b23_1) (
    ∃ (x36 : Int),
    w_2.cell? ⟨w.heap.size, 1, none⟩ = some (.int .i64 x36) ∧
    R (.tuple #[.bool false, .int .i64 x36]) w_2.drew) (
    Calls Try.prog 76 #[.int .i64 x23_0] w_2 fun e_2 w_3 =>
    ∃ (b30 : Bool),
    e_2 = .returned (.bool b30) ∧
    sel (!b30) (
      ∃ (x36_1 : Int),
      w_3.cell? ⟨w.heap.size, 1, none⟩ = some (.int .i64 x36_1) ∧
      R (.tuple #[.bool false, .int .i64 x36_1]) w_3.drew) (
      let w_4 : World := World.alloc w_3 (.cells #[.int .i64 0, .int .i64 0, .int .i64 0] 70);
      ∃ I : Int → World → Nat → Prop,
      (∃ n, I 0 w_4 n) ∧
      ∀ d : Env, ∀ (x41 : Int) (w_5 : World) (r : Nat), I x41 w_5 r →
      sel (decide ((x41 : Int) < (3 : Int))) (
        ∃ (x44 : Int),
        (∀ w', (Instr.index 70 (.agg #[.int .i64 xa1, .int .i64 xa2, .int .i64 xa3]) (.int .i64 x41)).run Try.prog w' = .ok (.int .i64 x44) w') ∧
        let i50 : Int := IntKind.i64.wrap (x44 * 4);
        let i52 : Int := IntKind.i64.wrap (i50 + x41);
        let i53 : Int := IntKind.i64.wrap (i52 + 1);
        Calls Try.prog 77 #[.pointer (some ⟨w.heap.size, 0, none⟩), .int .i64 x23_0, .int .i64 i53] w_5 fun e_3 w_6 =>
        ∃ (x54_0 : Int) (b54_1 : Bool),
        e_3 = .returned (.tuple #[.int .i64 x54_0, .bool b54_1]) ∧
        (0 : Int) ≤ x41 ∧ x41 < (3 : Int) ∧
        canStore w_6 w_3.heap.size (0 + x41.toNat * 1) 1 ∧
        let w_7 : World := setCs w_6 w_3.heap.size (0 + x41.toNat * 1) [.int .i64 x54_0];
        sel (!b54_1) (
          ∃ (x63 : Int),
          w_7.cell? ⟨w.heap.size, 1, none⟩ = some (.int .i64 x63) ∧
          R (.tuple #[.bool false, .int .i64 x63]) w_7.drew) (
          let i64 : Int := IntKind.i64.wrap (x41 + 1);
          ([.pointer (some ⟨w.heap.size, 0, none⟩), .int .i64 x23_0, .pointer (some ⟨w_3.heap.size, 0, none⟩), .agg #[.int .i64 xa1, .int .i64 xa2, .int .i64 xa3]] : List Value) = ([.pointer (some ⟨w.heap.size, 0, none⟩), .int .i64 x23_0, .pointer (some ⟨w_3.heap.size, 0, none⟩), .agg #[.int .i64 xa1, .int .i64 xa2, .int .i64 xa3]] : List Value) ∧ ∃ m, m < r ∧ I i64 w_7 m)) (
        Calls Try.prog 75 #[.pointer (some ⟨w.heap.size, 0, none⟩), .int .i64 3] w_5 fun e_4 w_8 =>
        ∃ (x67_0 : Int) (b67_1 : Bool),
        e_4 = .returned (.tuple #[.int .i64 x67_0, .bool b67_1]) ∧
        sel (!b67_1) (
          ∃ (x75 : Int),
          w_8.cell? ⟨w.heap.size, 1, none⟩ = some (.int .i64 x75) ∧
          R (.tuple #[.bool false, .int .i64 x75]) w_8.drew) (
          let i79 : Int := IntKind.i64.wrap (2 * x23_0);
          let i80 : Int := IntKind.i64.wrap (4 + i79);
          (0 : Int) ≤ 0 ∧ 0 < (3 : Int) ∧
          ∃ (x82 : Int),
          w_8.cell? ⟨w_3.heap.size, 0, none⟩ = some (.int .i64 x82) ∧
          let i83 : Int := IntKind.i64.wrap (x82 - 1);
          let i85 : Int := IntKind.i64.wrap (i83 * x67_0);
          let i86 : Int := IntKind.i64.wrap (i80 + i85);
          (0 : Int) ≤ 1 ∧ 1 < (3 : Int) ∧
          ∃ (x88 : Int),
          w_8.cell? ⟨w_3.heap.size, 1, none⟩ = some (.int .i64 x88) ∧
          let i89 : Int := IntKind.i64.wrap (i86 + x88);
          let i90 : Int := IntKind.i64.wrap (i89 - 1);
          Calls Try.prog 75 #[.pointer (some ⟨w.heap.size, 0, none⟩), .int .i64 i90] w_8 fun e_5 w_9 =>
          ∃ (x91_0 : Int) (b91_1 : Bool),
          e_5 = .returned (.tuple #[.int .i64 x91_0, .bool b91_1]) ∧
          sel (!b91_1) (
            ∃ (x109 : Int),
            w_9.cell? ⟨w.heap.size, 1, none⟩ = some (.int .i64 x109) ∧
            R (.tuple #[.bool false, .int .i64 x109]) w_9.drew) (
            (0 : Int) ≤ 2 ∧ 2 < (3 : Int) ∧
            ∃ (x98 : Int),
            w_9.cell? ⟨w_3.heap.size, 2, none⟩ = some (.int .i64 x98) ∧
            sel (decide ((x98 : Int) < (1 : Int))) (
              ∃ (x109_1 : Int),
              w_9.cell? ⟨w.heap.size, 1, none⟩ = some (.int .i64 x109_1) ∧
              R (.tuple #[.bool false, .int .i64 x109_1]) w_9.drew) (
              (0 : Int) ≤ 2 ∧ 2 < (3 : Int) ∧
              ∃ (x103 : Int),
              w_9.cell? ⟨w_3.heap.size, 2, none⟩ = some (.int .i64 x103) ∧
              sel (decide ((16 : Int) < (x103 : Int))) (
                ∃ (x109_2 : Int),
                w_9.cell? ⟨w.heap.size, 1, none⟩ = some (.int .i64 x109_2) ∧
                R (.tuple #[.bool false, .int .i64 x109_2]) w_9.drew) (
                (0 : Int) ≤ 2 ∧ 2 < (3 : Int) ∧
                ∃ (x112 : Int),
                w_9.cell? ⟨w_3.heap.size, 2, none⟩ = some (.int .i64 x112) ∧
                let i113 : Int := IntKind.i64.wrap (x112 - 1);
                (0 : Int) ≤ i113 ∧
                let i114 : Int := shrI .i64 x91_0 i113;
                let i115 : Int := bitsI .and .i64 i114 1;
                ∃ (x120 : Int),
                w_9.cell? ⟨w.heap.size, 1, none⟩ = some (.int .i64 x120) ∧
                R (.tuple #[.bool ((i115 : Int) != (0 : Int)), .int .i64 x120]) w_9.drew)))))))
theorem f36.eq (Aa0 : Option Addr) (na0 ca0 : Nat) (xa1 : Int) (xa2 : Int) (xa3 : Int) (w : World) (R : Value → World → Prop) : f36.VC Aa0 na0 ca0 xa1 xa2 xa3 w R = funV Try.prog Try.f36 f36.AL f36.AC #[.slice Aa0 na0 ca0, .int .i64 xa1, .int .i64 xa2, .int .i64 xa3] w R := by kernel_rfl
theorem f36.calls {Aa0 : Option Addr} {na0 ca0 : Nat} {xa1 : Int} {xa2 : Int} {xa3 : Int} {w : World} {R : Value → World → Prop} (h : f36.VC Aa0 na0 ca0 xa1 xa2 xa3 w R) : Calls Try.prog 36 #[.slice Aa0 na0 ca0, .int .i64 xa1, .int .i64 xa2, .int .i64 xa3] w fun e w' => ∃ v, e = .returned v ∧ R v w' :=
  funV_sound (fn := Try.f36) (AL := f36.AL) (AC := f36.AC) W3.mixed (by kernel_rfl) (by rw [← f36.eq Aa0 na0 ca0 xa1 xa2 xa3]; exact h)

/-- gatehouse/gatehouseref12.Decide -/
def f57.AL : Nat → Option Ann := fun _ => none
def f57.AC : Nat → Option Ann := fun _ => none
def f57.VC (Aa0 : Option Addr) (na0 ca0 : Nat) (xa1 : Int) (xa2 : Int) (xa3 : Int) (w : World) (R : Value → World → Prop) : Prop :=
  let w_1 : World := World.alloc w (.cells #[.slice Aa0 na0 ca0, .int .i64 0, .bool false] 139);
  Calls Try.prog 83 #[.pointer (some ⟨w.heap.size, 0, none⟩), .int .i64 1] w_1 fun e_1 w_2 =>
  ∃ (x22 : Int),
  e_1 = .returned (.int .i64 x22) ∧
  ∃ (b26 : Bool),
  w_2.cell? ⟨w.heap.size, 2, none⟩ = some (.bool b26) ∧
  sel b26 (
    ∃ (x35 : Int),
    w_2.cell? ⟨w.heap.size, 1, none⟩ = some (.int .i64 x35) ∧
    R (.tuple #[.bool false, .int .i64 x35]) w_2.drew) (
    Calls Try.prog 84 #[.int .i64 x22] w_2 fun e_2 w_3 =>
    ∃ (b29 : Bool),
    e_2 = .returned (.bool b29) ∧
    sel (!b29) (
      ∃ (x35_1 : Int),
      w_3.cell? ⟨w.heap.size, 1, none⟩ = some (.int .i64 x35_1) ∧
      R (.tuple #[.bool false, .int .i64 x35_1]) w_3.drew) (
      Calls Try.prog 85 #[.pointer (some ⟨w.heap.size, 0, none⟩), .int .i64 x22, .int .i64 xa1, .int .i64 1] w_3 fun e_3 w_4 =>
      ∃ (x40_0 : Int) (b40_1 : Bool),
      e_3 = .returned (.tuple #[.int .i64 x40_0, .bool b40_1]) ∧
      sel (!b40_1) (
        ∃ (x48 : Int),
        w_4.cell? ⟨w.heap.size, 1, none⟩ = some (.int .i64 x48) ∧
        R (.tuple #[.bool false, .int .i64 x48]) w_4.drew) (
        Calls Try.prog 85 #[.pointer (some ⟨w.heap.size, 0, none⟩), .int .i64 x22, .int .i64 xa2, .int .i64 2] w_4 fun e_4 w_5 =>
        ∃ (x53_0 : Int) (b53_1 : Bool),
        e_4 = .returned (.tuple #[.int .i64 x53_0, .bool b53_1]) ∧
        sel (!b53_1) (
          ∃ (x61 : Int),
          w_5.cell? ⟨w.heap.size, 1, none⟩ = some (.int .i64 x61) ∧
          R (.tuple #[.bool false, .int .i64 x61]) w_5.drew) (
          Calls Try.prog 85 #[.pointer (some ⟨w.heap.size, 0, none⟩), .int .i64 x22, .int .i64 xa3, .int .i64 3] w_5 fun e_5 w_6 =>
          ∃ (x66_0 : Int) (b66_1 : Bool),
          e_5 = .returned (.tuple #[.int .i64 x66_0, .bool b66_1]) ∧
          sel (!b66_1) (
            ∃ (x74 : Int),
            w_6.cell? ⟨w.heap.size, 1, none⟩ = some (.int .i64 x74) ∧
            R (.tuple #[.bool false, .int .i64 x74]) w_6.drew) (
            Calls Try.prog 83 #[.pointer (some ⟨w.heap.size, 0, none⟩), .int .i64 3] w_6 fun e_6 w_7 =>
            ∃ (x76 : Int),
            e_6 = .returned (.int .i64 x76) ∧
            ∃ (b80 : Bool),
            w_7.cell? ⟨w.heap.size, 2, none⟩ = some (.bool b80) ∧
            sel b80 (
              ∃ (x84 : Int),
              w_7.cell? ⟨w.heap.size, 1, none⟩ = some (.int .i64 x84) ∧
              R (.tuple #[.bool false, .int .i64 x84]) w_7.drew) (
              let i87 : Int := IntKind.i64.wrap (2 * x22);
              let i88 : Int := IntKind.i64.wrap (4 + i87);
              let i90 : Int := IntKind.i64.wrap (x40_0 - 1);
              let i92 : Int := IntKind.i64.wrap (i90 * x76);
              let i93 : Int := IntKind.i64.wrap (i88 + i92);
              let i95 : Int := IntKind.i64.wrap (x53_0 - 1);
              let i96 : Int := IntKind.i64.wrap (i93 + i95);
              Calls Try.prog 83 #[.pointer (some ⟨w.heap.size, 0, none⟩), .int .i64 i96] w_7 fun e_7 w_8 =>
              ∃ (x97 : Int),
              e_7 = .returned (.int .i64 x97) ∧
              ∃ (b101 : Bool),
              w_8.cell? ⟨w.heap.size, 2, none⟩ = some (.bool b101) ∧
              sel b101 (
                ∃ (x113 : Int),
                w_8.cell? ⟨w.heap.size, 1, none⟩ = some (.int .i64 x113) ∧
                R (.tuple #[.bool false, .int .i64 x113]) w_8.drew) (
                sel (decide ((x66_0 : Int) < (1 : Int))) (
                  ∃ (x113_1 : Int),
                  w_8.cell? ⟨w.heap.size, 1, none⟩ = some (.int .i64 x113_1) ∧
                  R (.tuple #[.bool false, .int .i64 x113_1]) w_8.drew) (
                  sel (decide ((16 : Int) < (x66_0 : Int))) (
                    ∃ (x113_2 : Int),
                    w_8.cell? ⟨w.heap.size, 1, none⟩ = some (.int .i64 x113_2) ∧
                    R (.tuple #[.bool false, .int .i64 x113_2]) w_8.drew) (
                    let i116 : Int := IntKind.i64.wrap (x66_0 - 1);
                    (0 : Int) ≤ i116 ∧
                    let i117 : Int := shrI .i64 x97 i116;
                    let i118 : Int := bitsI .and .i64 i117 1;
                    ∃ (x123 : Int),
                    w_8.cell? ⟨w.heap.size, 1, none⟩ = some (.int .i64 x123) ∧
                    R (.tuple #[.bool ((i118 : Int) == (1 : Int)), .int .i64 x123]) w_8.drew)))))))))
theorem f57.eq (Aa0 : Option Addr) (na0 ca0 : Nat) (xa1 : Int) (xa2 : Int) (xa3 : Int) (w : World) (R : Value → World → Prop) : f57.VC Aa0 na0 ca0 xa1 xa2 xa3 w R = funV Try.prog Try.f57 f57.AL f57.AC #[.slice Aa0 na0 ca0, .int .i64 xa1, .int .i64 xa2, .int .i64 xa3] w R := by kernel_rfl
theorem f57.calls {Aa0 : Option Addr} {na0 ca0 : Nat} {xa1 : Int} {xa2 : Int} {xa3 : Int} {w : World} {R : Value → World → Prop} (h : f57.VC Aa0 na0 ca0 xa1 xa2 xa3 w R) : Calls Try.prog 57 #[.slice Aa0 na0 ca0, .int .i64 xa1, .int .i64 xa2, .int .i64 xa3] w fun e w' => ∃ v, e = .returned v ∧ R v w' :=
  funV_sound (fn := Try.f57) (AL := f57.AL) (AC := f57.AC) W3.mixed (by kernel_rfl) (by rw [← f57.eq Aa0 na0 ca0 xa1 xa2 xa3]; exact h)

end Go.Proofs.Ytjmlfknogjaemaa
