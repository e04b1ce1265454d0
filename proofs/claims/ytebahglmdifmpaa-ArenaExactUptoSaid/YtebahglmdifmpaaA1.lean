/- The arena: what its methods do, over the contracts of the heap of pieces and of the cells. -/
import Derived.Test.YtebahglmdifmpaaH3
import Derived.Test.YtebahglmdifmpaaA0
set_option linter.unusedVariables false
set_option linter.unusedSimpArgs false
set_option maxRecDepth 10000
namespace Go.Proofs.Ytebahglmdifmpaa
open Go Go.Proofs.Ytebahglmdifmpaa.Vc
namespace AR
abbrev B := Int × Int × Bool
abbrev LESS : Value := .func (.func 69) #[] #[]
def lt (x y : B) : Bool := decide (x.1 < y.1)
theorem enters69 : entersB Try.prog 69 = true := by kernel_rfl
theorem less : HB.Less lt (fun _ => True) LESS := by
  intro w x y _
  refine CM.callT_of enters69 ?_
  refine Calls.mono (f69.calls (xa0_0 := x.1) (xa0_1 := x.2.1) (ba0_2 := x.2.2) (xa1_0 := y.1) (xa1_1 := y.2.1) (ba1_2 := y.2.2) (w := w) (R := fun v w' => v = .bool (lt x y) ∧ Fr [] w w') ?_) ?_
  · dsimp only [f69.VC]
    exact ⟨_, (Blk.new.alloc).cell rfl, _, Blk.new.cell rfl, rfl, (Fr.refl _ _).alloc.alloc⟩
  · rintro e w' ⟨v, rfl, rfl, h⟩
    exact ⟨rfl, h⟩
theorem rests : Rests [] (fun _ => True) := fun _ _ _ _ _ _ => trivial
theorem newHeap (w : World) : Calls Try.prog 68 #[LESS] w fun e w' => e = .returned (.pointer (some ⟨w.heap.size, 0, none⟩)) ∧ HB.At w' [w.heap.size] w.heap.size LESS [] 0 ∧ Fr [] w w' := by
  refine Calls.mono (f68.calls (a0 := 69) (cap0 := #[]) (w := w) (R := fun v w' => v = .pointer (some ⟨w.heap.size, 0, none⟩) ∧ HB.At w' [w.heap.size] w.heap.size LESS [] 0 ∧ Fr [] w w') ?_) ?_
  · dsimp only [f68.VC]
    refine ⟨false, fun w' => by kernel_rfl, ?_⟩
    exact ⟨rfl, ⟨_, Blk.new, fun x => rfl, .inl ⟨rfl, rfl, rfl⟩⟩, (Fr.refl _ _).alloc⟩
  · rintro e w' ⟨v, rfl, rfl, h⟩
    exact ⟨rfl, h⟩

/-- An arena: its blocks are F. -/
def ArAt (w : World) (F : List Nat) (a mb gb : Nat) (ws : List Int) (tr : Value) (bad : Int) (es : List (B × Int)) (came : Int) (out : List (Int × Int)) : Prop :=
  ∃ hb mp FH, Blk w a #[.pointer (some ⟨mb, 0, none⟩), .pointer (some ⟨hb, 0, none⟩), .map (some mp)] 138 ∧ CM.MemAt w mb gb ws tr bad ∧ HB.At w FH hb LESS es came ∧ MapIs w mp out ∧
    [a, mp, mb, gb].Nodup ∧ (∀ x ∈ FH, x ∉ [a, mp, mb, gb]) ∧ F = [a, mp, mb, gb] ++ FH
variable {w w' : World} {F : List Nat} {a mb gb : Nat} {ws : List Int} {tr : Value} {bad : Int} {es : List (B × Int)} {came : Int} {out : List (Int × Int)}
theorem ArAt.fr {S : List Nat} (h : ArAt w F a mb gb ws tr bad es came out) (hf : Fr S w w') (hd : ∀ x ∈ F, x ∉ S) : ArAt w' F a mb gb ws tr bad es came out := by
  obtain ⟨hb, mp, FH, h1, h2, h3, h4, h5, h6, rfl⟩ := h
  exact ⟨hb, mp, FH, hf.blk h1 (hd _ (by simp)), h2.fr hf (hd _ (by simp)) (hd _ (by simp)), h3.fr hf (fun x hx => hd _ (by simp [hx])), h4.fr hf (hd _ (by simp)), h5, h6, rfl⟩
theorem ArAt.lt (h : ArAt w F a mb gb ws tr bad es came out) : ∀ x ∈ F, x < w.heap.size := by
  obtain ⟨hb, mp, FH, h1, h2, h3, h4, h5, h6, rfl⟩ := h
  intro x hx
  simp only [List.mem_append, List.mem_cons, List.not_mem_nil, or_false] at hx
  rcases hx with (rfl | rfl | rfl | rfl) | hx
  · exact h1.lt
  · exact h4.lt
  · exact h2.lt.1
  · exact h2.lt.2
  · exact h3.lt x hx
theorem live (h : ArAt w F a mb gb ws tr bad es came out) : Calls Try.prog 49 #[.pointer (some ⟨a, 0, none⟩)] w fun e w' => e = .returned (.int .i64 (out.length : Int)) ∧ Fr [] w w' := by
  refine Calls.mono (f49.calls (R := fun v w' => v = .int .i64 (out.length : Int) ∧ Fr [] w w') ?_) ?_
  · obtain ⟨hb, mp, FH, h1, h2, h3, h4, h5, h6, rfl⟩ := h
    exact ⟨_, h1.cell rfl, _, _, map_len (kt := 3) (et := 3) (by kernel_rfl) h4, rfl, Fr.refl _ _⟩
  · rintro e w' ⟨v, rfl, rfl, h⟩
    exact ⟨rfl, h⟩
/-- A memory becomes an arena. -/
theorem new (h : CM.MemAt w mb gb ws tr bad) {from_ : Nat} (hf : from_ < ws.length) (hlen : ws.length ≤ 4000000000) :
    Calls Try.prog 38 #[.pointer (some ⟨mb, 0, none⟩), .int .i64 (from_ : Int)] w fun e w' => ∃ a F, e = .returned (.tuple #[.pointer (some ⟨a, 0, none⟩), .int .i64 0]) ∧
      ArAt w' F a mb gb ws tr bad [(((from_ : Int), ((ws.length - from_ : Nat) : Int), true), 0)] 1 [] ∧ Fr [] w w' ∧ ∀ x ∈ F, x = mb ∨ x = gb ∨ w.heap.size ≤ x := by
  refine Calls.mono (f38.calls (R := fun v w' => ∃ a F, v = .tuple #[.pointer (some ⟨a, 0, none⟩), .int .i64 0] ∧
      ArAt w' F a mb gb ws tr bad [(((from_ : Int), ((ws.length - from_ : Nat) : Int), true), 0)] 1 [] ∧ Fr [] w w' ∧ ∀ x ∈ F, x = mb ∨ x = gb ∨ w.heap.size ≤ x) ?_) ?_
  · dsimp only [f38.VC]
    refine sel_false (by simp <;> omega) ?_
    refine Calls.mono (CM.len h) ?_
    rintro _ w1 ⟨rfl, hF1⟩
    refine ⟨_, rfl, sel_false (by simp <;> omega) ?_⟩
    have h1 := h.fr hF1 (by simp) (by simp)
    refine Calls.mono (newHeap w1) ?_
    rintro _ w2 ⟨rfl, hH2, hF2⟩
    refine ⟨_, rfl, ?_⟩
    have h2 := h1.fr hF2 (by simp) (by simp)
    have hs2 : w1.heap.size < w2.heap.size := hH2.lt _ (by simp)
    have hm2 := h2.lt
    have hm1 := h1.lt
    have hm0 := h.lt
    have hw1 : w.heap.size ≤ w1.heap.size := hF1.1
    have hF4 : Fr [] w2 (World.alloc (World.alloc w2 (.map #[] 0)) (.cells #[.pointer (some ⟨mb, 0, none⟩), .pointer (some ⟨w1.heap.size, 0, none⟩), .map (some w2.heap.size)] 138)) := (Fr.refl _ _).allocM.alloc
    have hA4 : Blk (World.alloc (World.alloc w2 (.map #[] 0)) (.cells #[.pointer (some ⟨mb, 0, none⟩), .pointer (some ⟨w1.heap.size, 0, none⟩), .map (some w2.heap.size)] 138)) (World.alloc w2 (.map #[] 0)).heap.size _ _ := Blk.new
    have hM4 : MapIs (World.alloc (World.alloc w2 (.map #[] 0)) (.cells #[.pointer (some ⟨mb, 0, none⟩), .pointer (some ⟨w1.heap.size, 0, none⟩), .map (some w2.heap.size)] 138)) w2.heap.size [] := (MapIs.new w2).fr ((Fr.refl [] _).alloc) (by simp)
    generalize hw4 : World.alloc (World.alloc w2 (.map #[] 0)) (.cells #[.pointer (some ⟨mb, 0, none⟩), .pointer (some ⟨w1.heap.size, 0, none⟩), .map (some w2.heap.size)] 138) = w4 at *
    have ha : (World.alloc w2 (.map #[] 0)).heap.size = w2.heap.size + 1 := size_alloc _ _
    rw [ha] at hA4 ⊢
    have h4 := h2.fr hF4 (by simp) (by simp)
    have hH4 := hH2.fr hF4 (by simp)
    have hwr : IntKind.i64.wrap ((ws.length : Int) - (from_ : Int)) = ((ws.length - from_ : Nat) : Int) := by rw [i64_id (by omega) (by omega)]; omega
    have fin : ∀ w5, Fr [] w4 w5 → Calls Try.prog 70 #[.pointer (some ⟨w1.heap.size, 0, none⟩), .agg #[.int .i64 (from_ : Int), .int .i64 ((ws.length - from_ : Nat) : Int), .bool true]] w5 fun e w' => e = .returned (.tuple #[]) ∧
        ∃ a F, Value.tuple #[.pointer (some ⟨w2.heap.size + 1, 0, none⟩), .int .i64 0] = Value.tuple #[.pointer (some ⟨a, 0, none⟩), .int .i64 0] ∧
          ArAt w' F a mb gb ws tr bad [(((from_ : Int), ((ws.length - from_ : Nat) : Int), true), 0)] 1 [] ∧ Fr [] w w' ∧ ∀ x ∈ F, x = mb ∨ x = gb ∨ w.heap.size ≤ x := by
      intro w5 hF5
      refine Calls.mono (HB.push (x := ((from_ : Int), ((ws.length - from_ : Nat) : Int), true)) rests less trivial (by simp) (hH4.fr hF5 (by simp)) (by simp) (by decide) (by decide)) ?_
      rintro _ w6 ⟨rfl, FH, hH6, hF6, hFH⟩
      have hs4 : w2.heap.size + 1 < w4.heap.size := hA4.lt
      have hs5 := hF5.1
      have hne : ∀ x, x ≠ w1.heap.size → x ∉ [w1.heap.size] := fun x hx => by simpa using hx
      refine ⟨rfl, w2.heap.size + 1, _, rfl, ⟨w1.heap.size, w2.heap.size, FH, hF6.blk (hF5.blk hA4 (by simp)) (hne _ (by omega)), (h4.fr hF5 (by simp) (by simp)).fr hF6 (hne _ (by omega)) (hne _ (by omega)), hH6, (hM4.fr hF5 (by simp)).fr hF6 (hne _ (by omega)), ?_, ?_, rfl⟩, ?_, ?_⟩
      · simp only [List.nodup_cons, List.mem_cons, List.not_mem_nil, or_false, not_or, not_false_eq_true, List.nodup_nil, and_true]
        have := h.2.1
        omega
      · intro x hx
        simp only [List.mem_cons, List.not_mem_nil, or_false]
        rcases hFH x hx with hx | hx
        · simp at hx; omega
        · omega
      · exact (((hF1.trans hF2).trans hF4).trans hF5).trans' hF6 (fun x hx hlt => by simp at hx; omega)
      · intro x hx
        simp only [List.mem_append, List.mem_cons, List.not_mem_nil, or_false] at hx
        rcases hx with (rfl | rfl | rfl | rfl) | hx
        · omega
        · omega
        · omega
        · omega
        · rcases hFH x hx with hx | hx
          · simp at hx; omega
          · omega
    refine ⟨?_, ?_, trivial⟩
    · refine ⟨_, hA4.cell rfl, Calls.mono (CM.len (w := w4.drew) h4) ?_⟩
      rintro _ w5 ⟨rfl, hF5⟩
      have hF5 := hF5.ofdrew
      refine ⟨_, rfl, ?_⟩
      rw [hwr]
      exact fin w5 hF5
    · refine Calls.mono (CM.len (w := w4.drew) h4) ?_
      rintro _ w5 ⟨rfl, hF5⟩
      have hF5 := hF5.ofdrew
      refine ⟨_, rfl, ?_⟩
      rw [hwr]
      exact ⟨_, (Fr.blk (S := []) hF5 (Blk.drew hA4) (by simp)).cell rfl, fin w5 hF5⟩
  · rintro e w' ⟨v, rfl, a, F, rfl, h⟩
    exact ⟨a, F, rfl, h⟩
/-! ### Lists of pieces -/
def encB (b : B) : List Value := [.int .i64 b.1, .int .i64 b.2.1, .bool b.2.2]
abbrev dB : B := (0, 0, false)
def SlB (w : World) (FS : List Nat) (A : Option Addr) (n c : Nat) (bs : List B) : Prop :=
  (A = none ∧ n = 0 ∧ c = 0 ∧ bs = [] ∧ FS = []) ∨ ∃ g, A = some ⟨g, 0, none⟩ ∧ n = bs.length ∧ FS = [g] ∧ Row w 96 3 g c (bs.map encB)
theorem SlB.fr {S FS : List Nat} {A : Option Addr} {n c : Nat} {bs : List B} (h : SlB w FS A n c bs) (hf : Fr S w w') (hd : ∀ x ∈ FS, x ∉ S) : SlB w' FS A n c bs := by
  rcases h with h | ⟨g, h1, h2, rfl, h4⟩
  · exact .inl h
  · exact .inr ⟨g, h1, h2, rfl, h4.fr hf (hd _ (by simp))⟩
theorem SlB.lt {FS : List Nat} {A : Option Addr} {n c : Nat} {bs : List B} (h : SlB w FS A n c bs) : ∀ x ∈ FS, x < w.heap.size := by
  rcases h with ⟨_, _, _, _, rfl⟩ | ⟨g, h1, h2, rfl, h4⟩
  · simp
  · intro x hx; simp at hx; subst hx; exact h4.lt
theorem SlB.len {FS : List Nat} {A : Option Addr} {n c : Nat} {bs : List B} (h : SlB w FS A n c bs) : n = bs.length := by
  rcases h with ⟨_, rfl, _, rfl, _⟩ | ⟨g, h1, h2, _⟩
  · rfl
  · exact h2
theorem info96 : ∃ i, Try.prog.info? 96 = some i ∧ i.zero = some (.agg #[.int .i64 0, .int .i64 0, .bool false]) ∧ i.size = 3 ∧ i.bytes = 24 := ⟨Try.prog.types[96]!, by kernel_rfl, by kernel_rfl, by kernel_rfl, by kernel_rfl⟩
theorem under83 : Try.prog.underlying 83 = some (.slice 96) := by kernel_rfl
theorem SlB.append {FS : List Nat} {A : Option Addr} {n c : Nat} {bs : List B} (h : SlB w FS A n c bs) {b : Nat} {T' : TypeId} (x : B) (hb : Blk w b (encB x).toArray T') (hlen : bs.length ≤ 4000000) :
    ∃ A' n' c' FS' w', (Builtin.append_ #[83, 83] 83 #[.slice A n c, .slice (some ⟨b, 0, none⟩) 1 1]).run Try.prog w = .ok (.slice A' n' c') w' ∧ SlB w' FS' A' n' c' (bs ++ [x]) ∧ Fr FS w w' ∧ ∀ y ∈ FS', y ∈ FS ∨ w.heap.size ≤ y := by
  obtain ⟨i, i1, i2, i3, i4⟩ := info96
  have hfs : (Value.slice A n c).ownBlock.toList = FS := by
    rcases h with ⟨rfl, _, _, _, rfl⟩ | ⟨g, rfl, _, rfl, _⟩ <;> rfl
  obtain ⟨g', cap', w2, hrun, hR2, hF2, hg2⟩ := append_row (P := Try.prog) (w := w) (ty := 83) (rs := bs.map encB) (r := encB x) (v := .slice A n c) (b := b) (T' := T')
    under83 i1 i2 i3 rfl (by decide) (by
      rcases h with ⟨rfl, rfl, rfl, rfl, _⟩ | ⟨g, rfl, rfl, _, h4⟩
      · exact .inl ⟨rfl, rfl⟩
      · exact .inr ⟨g, c, by rw [List.length_map], h4⟩) hb rfl (by simp [encB, Value.oneCell']) (by intro r hr; obtain ⟨y, _, rfl⟩ := List.mem_map.mp hr; rfl) (by rw [i4, List.length_map]; omega) (by rw [List.length_map]; simp only [maxLen]; omega)
  rw [hfs] at hF2
  refine ⟨_, _, _, [g'], w2, hrun, .inr ⟨g', rfl, by simp, rfl, ?_⟩, hF2, ?_⟩
  · rw [List.map_append]; exact hR2
  · intro y hy
    simp at hy
    subst hy
    rcases hg2 with hg2 | hg2
    · left; rw [← hfs]; simp [hg2]
    · exact .inr hg2
theorem SlB.get {FS : List Nat} {A : Option Addr} {n c : Nat} {bs : List B} (h : SlB w FS A n c bs) {i : Nat} (hi : i < bs.length) : ∃ g, A = some ⟨g, 0, none⟩ ∧ FS = [g] ∧
    w.cell? ⟨g, 0 + (i : Int).toNat * 3, none⟩ = some (.int .i64 (bs.getD i dB).1) ∧ w.cell? ⟨g, 0 + (i : Int).toNat * 3 + 1, none⟩ = some (.int .i64 (bs.getD i dB).2.1) ∧ w.cell? ⟨g, 0 + (i : Int).toNat * 3 + 1 + 1, none⟩ = some (.bool (bs.getD i dB).2.2) := by
  rcases h with ⟨_, _, _, rfl, _⟩ | ⟨g, h1, h2, rfl, h4⟩
  · simp at hi
  · have hg : (bs.map encB).getD i [] = encB (bs.getD i dB) := by simp [List.getD_eq_getElem?_getD, hi]
    refine ⟨g, h1, rfl, h4.cell (i := i) (j := 0) (by simpa using hi) (by decide) (by rw [Int.toNat_natCast, Nat.zero_add]; try rfl) (by rw [hg]; rfl), h4.cell (i := i) (j := 1) (by simpa using hi) (by decide) (by rw [Int.toNat_natCast, Nat.zero_add]; try rfl) (by rw [hg]; rfl),
      h4.cell (i := i) (j := 2) (by simpa using hi) (by decide) (by rw [Int.toNat_natCast, Nat.zero_add]; try rfl) (by rw [hg]; rfl)⟩

/-! ### The heap inside -/
theorem ArAt.parts (h : ArAt w F a mb gb ws tr bad es came out) : ∃ hb mp FH, (Blk w a #[.pointer (some ⟨mb, 0, none⟩), .pointer (some ⟨hb, 0, none⟩), .map (some mp)] 138 ∧ HB.At w FH hb LESS es came ∧ (∀ x ∈ FH, x ∈ F) ∧ CM.MemAt w mb gb ws tr bad ∧ MapIs w mp out ∧ mp ∈ F ∧ mb ∈ F ∧ gb ∈ F ∧ a ∈ F) ∧
    (∀ (w' : World) (FH' : List Nat) (es' : List (B × Int)) (came' : Int), HB.At w' FH' hb LESS es' came' → Fr FH w w' → (∀ x ∈ FH', x ∈ FH ∨ w.heap.size ≤ x) →
      ∃ F', ArAt w' F' a mb gb ws tr bad es' came' out ∧ (∀ x ∈ F', x ∈ F ∨ w.heap.size ≤ x)) ∧
    (∀ (w1 w2 : World) (out' : List (Int × Int)) (ws' : List Int), Fr [mp] w w1 → MapIs w1 mp out' → Fr [gb] w1 w2 → CM.MemAt w2 mb gb ws' tr bad → ArAt w2 F a mb gb ws' tr bad es came out' ∧ Fr F w w2) ∧
    (∀ (w1 : World), Fr [mp] w w1 → CM.MemAt w1 mb gb ws tr bad ∧ w1.cell? ⟨a, 0, none⟩ = some (.pointer (some ⟨mb, 0, none⟩))) := by
  obtain ⟨hb, mp, FH, h1, h2, h3, h4, h5, h6, rfl⟩ := h
  simp only [List.nodup_cons, List.mem_cons, List.not_mem_nil, or_false, not_or, not_false_eq_true, List.nodup_nil, and_true] at h5
  obtain ⟨⟨n1, n2, n3⟩, ⟨n4, n5⟩, n6⟩ := h5
  have l1 := h1.lt
  have l2 := h2.lt
  have l4 := h4.lt
  refine ⟨hb, mp, FH, ⟨h1, h3, fun x hx => by simp [hx], h2, h4, by simp, by simp, by simp, by simp⟩, ?_, ?_, ?_⟩
  · intro w' FH' es' came' hH hF hFH
    have na : ∀ x ∈ [a, mp, mb, gb], x ∉ FH := fun x hx hx2 => h6 x hx2 hx
    refine ⟨_, ⟨hb, mp, FH', hF.blk h1 (na _ (by simp)), h2.fr hF (na _ (by simp)) (na _ (by simp)), hH, h4.fr hF (na _ (by simp)), by simp [n1, n2, n3, n4, n5, n6], ?_, rfl⟩, ?_⟩
    · intro x hx
      rcases hFH x hx with hx | hx
      · exact h6 x hx
      · simp only [List.mem_cons, List.not_mem_nil, or_false]; omega
    · intro x hx
      rcases List.mem_append.mp hx with hx | hx
      · exact .inl (List.mem_append_left _ hx)
      · rcases hFH x hx with hx | hx
        · exact .inl (List.mem_append_right _ hx)
        · exact .inr hx
  · intro w1 w2 out' ws' hF1 hM1 hF2 hM2
    have g1 : ∀ x ∈ FH, x ∉ [mp] := fun x hx hm => h6 x hx (by simp at hm; simp [hm])
    have g2 : ∀ x ∈ FH, x ∉ [gb] := fun x hx hm => h6 x hx (by simp at hm; simp [hm])
    exact ⟨⟨hb, mp, FH, hF2.blk (hF1.blk h1 (by simp [n1])) (by simp [n3]), hM2, (h3.fr hF1 g1).fr hF2 g2, hM1.fr hF2 (by simp [n5]), by simp [n1, n2, n3, n4, n5, n6], h6, rfl⟩,
      (hF1.mono (by simp)).trans (hF2.mono (by simp))⟩
  · intro w1 hF1
    exact ⟨h2.fr hF1 (by simp [Ne.symm n4]) (by simp [Ne.symm n5]), (hF1.blk h1 (by simp [n1])).cell rfl⟩
end AR
end Go.Proofs.Ytebahglmdifmpaa
