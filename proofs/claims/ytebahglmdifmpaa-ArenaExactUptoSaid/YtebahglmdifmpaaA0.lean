/- Cells: the memory's words, as the arena uses them. -/
import Derived.Test.YtebahglmdifmpaaV4
import Derived.Test.YtebahglmdifmpaaVcMap
set_option linter.unusedVariables false
set_option linter.unusedSimpArgs false
set_option maxRecDepth 10000
namespace Go.Proofs.Ytebahglmdifmpaa
open Go Go.Proofs.Ytebahglmdifmpaa.Vc
namespace CM
def encW (x : Int) : List Value := [.int .i64 x]
/-- A memory at m: its words in block g. -/
def MemAt (w : World) (m g : Nat) (ws : List Int) (tr : Value) (bad : Int) : Prop :=
  Blk w m #[.slice (some ⟨g, 0, none⟩) ws.length ws.length, tr, .int .i64 bad] 132 ∧ g ≠ m ∧ Row w 3 1 g ws.length (ws.map encW)
theorem MemAt.fr {S : List Nat} {w w' : World} {m g : Nat} {ws : List Int} {tr : Value} {bad : Int} (h : MemAt w m g ws tr bad) (hf : Fr S w w') (h1 : m ∉ S) (h2 : g ∉ S) : MemAt w' m g ws tr bad :=
  ⟨hf.blk h.1 h1, h.2.1, h.2.2.fr hf h2⟩
theorem MemAt.lt {w : World} {m g : Nat} {ws : List Int} {tr : Value} {bad : Int} (h : MemAt w m g ws tr bad) : m < w.heap.size ∧ g < w.heap.size := ⟨h.1.lt, h.2.2.lt⟩
def fillN (ws : List Int) (a : Nat) (v : Int) : Nat → List Int
  | 0 => ws
  | k + 1 => (fillN ws a v k).set (a + k) v
theorem fillN_length (ws : List Int) (a : Nat) (v : Int) : ∀ k, (fillN ws a v k).length = ws.length
  | 0 => rfl
  | k + 1 => by rw [fillN, List.length_set, fillN_length ws a v k]

variable {w : World} {m g : Nat} {ws : List Int} {tr : Value} {bad : Int}
theorem len (h : MemAt w m g ws tr bad) : Calls Try.prog 67 #[.pointer (some ⟨m, 0, none⟩)] w fun e w' => e = .returned (.int .i64 (ws.length : Int)) ∧ Fr [] w w' := by
  refine Calls.mono (f67.calls (R := fun v w' => v = .int .i64 (ws.length : Int) ∧ Fr [] w w') ⟨_, _, _, h.1.cell rfl, rfl, Fr.refl _ _⟩) ?_
  rintro e w' ⟨v, rfl, rfl, h⟩
  exact ⟨rfl, h⟩
theorem set_ok (h : MemAt w m g ws tr bad) {i : Nat} (hi : i < ws.length) (x : Int) : canStore w g (0 + (i : Int).toNat * 1) 1 ∧ MemAt (setCs w g (0 + (i : Int).toNat * 1) [.int .i64 x]) m g (ws.set i x) tr bad ∧ Fr [g] w (setCs w g (0 + (i : Int).toNat * 1) [.int .i64 x]) := by
  have hk : 0 + (i : Int).toNat * 1 = i * 1 := by rw [Int.toNat_natCast, Nat.zero_add]
  refine ⟨h.2.2.can (i := i) (by simpa using hi) hk, ⟨?_, h.2.1, ?_⟩, (Fr.refl _ w).set (.inl (by simp))⟩
  · rw [List.length_set]
    exact h.1.set_ne (Ne.symm h.2.1)
  · rw [List.length_set]
    have := h.2.2.set (i := i) (by simpa using hi) hk (r := [.int .i64 x]) rfl
    rw [List.map_set]
    exact this
theorem wipe (h : MemAt w m g ws tr bad) {i : Nat} (hi : i < ws.length) :
    Calls Try.prog 87 #[.pointer (some ⟨m, 0, none⟩), .int .i64 (i : Int)] w fun e w' => e = .returned (.tuple #[]) ∧ MemAt w' m g (ws.set i 0) tr bad ∧ Fr [g] w w' := by
  obtain ⟨h1, h2, h3⟩ := set_ok h hi 0
  refine Calls.mono (f87.calls (R := fun v w' => v = .tuple #[] ∧ MemAt w' m g (ws.set i 0) tr bad ∧ Fr [g] w w') ⟨_, _, _, h.1.cell rfl, by omega, by omega, needPtr_of rfl ⟨h1, rfl, h2, h3⟩⟩) ?_
  rintro e w' ⟨v, rfl, rfl, h⟩
  exact ⟨rfl, h⟩
theorem spoil (h : MemAt w m g ws tr bad) {i : Nat} (hi : i < ws.length) :
    Calls Try.prog 86 #[.pointer (some ⟨m, 0, none⟩), .int .i64 (i : Int)] w fun e w' => e = .returned (.tuple #[]) ∧ MemAt w' m g (ws.set i (-4611686018427387904)) tr bad ∧ Fr [g] w w' := by
  obtain ⟨h1, h2, h3⟩ := set_ok h hi (-4611686018427387904)
  refine Calls.mono (f86.calls (R := fun v w' => v = .tuple #[] ∧ MemAt w' m g (ws.set i (-4611686018427387904)) tr bad ∧ Fr [g] w w') ⟨_, _, _, h.1.cell rfl, by omega, by omega, needPtr_of rfl ⟨h1, rfl, h2, h3⟩⟩) ?_
  rintro e w' ⟨v, rfl, rfl, h⟩
  exact ⟨rfl, h⟩
/-- A piece that lies within. -/
theorem over {f : Nat} {v : Int} {first : Array Value} (h : MemAt w m g ws tr bad) {a n : Nat} (han : a + n ≤ ws.length) (hlen : ws.length ≤ 4000000000)
    (hstep : ∀ (w : World) (ws : List Int) (i : Nat), MemAt w m g ws tr bad → i < ws.length → callT Try.prog (.func (.func f) first #[]) #[.int .i64 (i : Int)] w fun e w' => e = .returned (.tuple #[]) ∧ MemAt w' m g (ws.set i v) tr bad ∧ Fr [g] w w') :
    Calls Try.prog 81 #[.pointer (some ⟨m, 0, none⟩), .int .i64 (a : Int), .int .i64 (n : Int), .func (.func f) first #[]] w fun e w' => e = .returned (.int .i64 0) ∧ MemAt w' m g (fillN ws a v n) tr bad ∧ Fr [g] w w' := by
  refine Calls.mono (f81.calls (R := fun x w' => x = .int .i64 0 ∧ MemAt w' m g (fillN ws a v n) tr bad ∧ Fr [g] w w') ?_) ?_
  · dsimp only [f81.VC]
    refine sel_false (by simp <;> omega) (sel_false (by simp <;> omega) ⟨_, _, _, h.1.cell rfl, ?_⟩)
    have hw : IntKind.i64.wrap ((ws.length : Int) - (n : Int)) = (ws.length : Int) - (n : Int) := i64_id (by omega) (by omega)
    rw [hw]
    refine sel_false (by simp <;> omega) ⟨fun x w' r => ∃ k : Nat, x = (k : Int) ∧ k + r = n ∧ MemAt w' m g (fillN ws a v k) tr bad ∧ Fr [g] w w', ⟨n, 0, rfl, by omega, h, Fr.refl _ _⟩, ?_⟩
    rintro _ x w1 r ⟨k, rfl, hkr, hM, hF⟩
    refine sel_of ?_ ?_
    · intro hd
      have hk : k < n := by simpa using hd
      have hw2 : IntKind.i64.wrap ((a : Int) + (k : Int)) = ((a + k : Nat) : Int) := by rw [i64_id (by omega) (by omega)]; omega
      have hw3 : IntKind.i64.wrap ((k : Int) + 1) = ((k + 1 : Nat) : Int) := by rw [i64_id (by omega) (by omega)]; omega
      rw [hw2, hw3]
      refine callT_mono (hstep w1 _ (a + k) hM (by rw [fillN_length]; omega)) ?_
      rintro e w2 ⟨rfl, hM2, hF2⟩
      exact ⟨rfl, rfl, r - 1, by omega, k + 1, rfl, by omega, hM2, hF.trans hF2⟩
    · intro hd
      have hk : k = n := by simp at hd; omega
      subst hk
      exact ⟨rfl, hM, hF⟩
  · rintro e w' ⟨v, rfl, rfl, h⟩
    exact ⟨rfl, h⟩
theorem enters87 : entersB Try.prog 87 = true := by kernel_rfl
theorem enters86 : entersB Try.prog 86 = true := by kernel_rfl
theorem callT_of {P : Program} {f : Nat} {first args cap : Array Value} {w : World} {R : Ending → World → Prop} (h1 : entersB P f = true) (h2 : Calls P f (first ++ args ++ cap) w R) : callT P (.func (.func f) first cap) args w R := by
  unfold callT
  simp only [h1]
  exact h2
theorem clear (h : MemAt w m g ws tr bad) {a n : Nat} (han : a + n ≤ ws.length) (hlen : ws.length ≤ 4000000000) :
    Calls Try.prog 74 #[.pointer (some ⟨m, 0, none⟩), .int .i64 (a : Int), .int .i64 (n : Int)] w fun e w' => e = .returned (.int .i64 0) ∧ MemAt w' m g (fillN ws a 0 n) tr bad ∧ Fr [g] w w' := by
  refine Calls.mono (f74.calls (R := fun x w' => x = .int .i64 0 ∧ MemAt w' m g (fillN ws a 0 n) tr bad ∧ Fr [g] w w') ?_) ?_
  · refine Calls.mono (over (f := 87) (v := 0) (first := #[.pointer (some ⟨m, 0, none⟩)]) h han hlen fun w ws i hM hi => callT_of enters87 (wipe hM hi)) ?_
    rintro e w' ⟨rfl, h⟩
    exact ⟨_, rfl, rfl, h⟩
  · rintro e w' ⟨v, rfl, rfl, h⟩
    exact ⟨rfl, h⟩
theorem poison (h : MemAt w m g ws tr bad) {a n : Nat} (han : a + n ≤ ws.length) (hlen : ws.length ≤ 4000000000) :
    Calls Try.prog 71 #[.pointer (some ⟨m, 0, none⟩), .int .i64 (a : Int), .int .i64 (n : Int)] w fun e w' => e = .returned (.int .i64 0) ∧ MemAt w' m g (fillN ws a (-4611686018427387904) n) tr bad ∧ Fr [g] w w' := by
  refine Calls.mono (f71.calls (R := fun x w' => x = .int .i64 0 ∧ MemAt w' m g (fillN ws a (-4611686018427387904) n) tr bad ∧ Fr [g] w w') ?_) ?_
  · refine Calls.mono (over (f := 86) (v := -4611686018427387904) (first := #[.pointer (some ⟨m, 0, none⟩)]) h han hlen fun w ws i hM hi => callT_of enters86 (spoil hM hi)) ?_
    rintro e w' ⟨rfl, h⟩
    exact ⟨_, rfl, rfl, h⟩
  · rintro e w' ⟨v, rfl, rfl, h⟩
    exact ⟨rfl, h⟩
theorem info3 : ∃ i, Try.prog.info? 3 = some i ∧ i.zero = some (.int .i64 0) ∧ i.size = 1 ∧ i.bytes = 8 := ⟨Try.prog.types[3]!, by kernel_rfl, by kernel_rfl, by kernel_rfl, by kernel_rfl⟩
theorem under23 : Try.prog.underlying 23 = some (.slice 3) := by kernel_rfl
theorem new {n : Nat} (h1 : 1 ≤ n) (h2 : n ≤ 65536) : Calls Try.prog 37 #[.int .i64 (n : Int)] w fun e w' => ∃ m g, e = .returned (.tuple #[.pointer (some ⟨m, 0, none⟩), .int .i64 0]) ∧
    MemAt w' m g (List.replicate n 0) (.slice none 0 0) 0 ∧ Fr [] w w' ∧ w.heap.size ≤ m ∧ w.heap.size ≤ g := by
  refine Calls.mono (f37.calls (R := fun x w' => ∃ m g, x = .tuple #[.pointer (some ⟨m, 0, none⟩), .int .i64 0] ∧ MemAt w' m g (List.replicate n 0) (.slice none 0 0) 0 ∧ Fr [] w w' ∧ w.heap.size ≤ m ∧ w.heap.size ≤ g) ?_) ?_
  · dsimp only [f37.VC]
    refine sel_false (by simp <;> omega) (sel_false (by simp <;> omega) ?_)
    obtain ⟨i, i1, i2, i3, i4⟩ := info3
    obtain ⟨w1, hrun, ho, hg⟩ := run_makeSlice_full (P := Try.prog) w 0 23 3 i (.int .i64 0) 1 under23 i1 i2 i3 .i64 .i64 n (by omega) (by rw [i4]; omega) (by simp only [maxLen]; omega) (Nat.zero_le _)
    have hz : (madeCells (Value.cells (.int .i64 0)) (n * 1)).toList = ((List.replicate n (0 : Int)).map encW).flatten := by
      have e1 : ((List.replicate n (0 : Int)).map encW).flatten = List.replicate n (.int .i64 0) := by
        rw [List.map_replicate]; unfold encW; exact List.flatten_replicate_singleton
      rw [e1]
      apply List.ext_getElem (by simp [size_madeCells])
      intro k h1 h2
      simp [madeCells, Value.cells, Nat.mod_one]
    rw [hz] at ho
    have hR := (Row.ofOwn (by decide) (n := n) ho (by intro r hr; obtain ⟨x, _, rfl⟩ := List.mem_map.mp hr; rfl)).1
    have hx := run_makeSlice (P := Try.prog) w 23 3 i (.int .i64 0) under23 i1 i2 .i64 .i64 (n : Int) (n : Int) (by omega) (by omega) (by rw [i3]; omega) (by rw [i4]; omega) (by omega)
    have hw : w1 = w.alloc (.cells (madeCells (Value.cells (.int .i64 0)) ((n : Int).toNat * i.size)) 3) := by
      rw [hx] at hrun; injection hrun with _ h; exact h.symm
    have hF : Fr [] w w1 := by rw [hw]; exact (Fr.refl _ w).alloc
    have hlt := hR.lt
    refine ⟨_, _, _, _, hrun, _, _, rfl, ⟨?_, ?_, ?_⟩, hF.alloc, hF.1, Nat.le_refl _⟩
    · rw [List.length_replicate]; exact Blk.new
    · omega
    · rw [List.length_replicate]; exact hR.fr ((Fr.refl [] w1).alloc) (by simp)
  · rintro e w' ⟨v, rfl, m, g, rfl, h⟩
    exact ⟨m, g, rfl, h⟩
end CM
end Go.Proofs.Ytebahglmdifmpaa
