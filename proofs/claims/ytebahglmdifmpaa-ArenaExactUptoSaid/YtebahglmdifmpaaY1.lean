/- slices.SortFunc on a list of pieces: it stands by address. -/
import Derived.Test.YtebahglmdifmpaaY0
import Derived.Test.YtebahglmdifmpaaA6
import Derived.Shelf.SlSortCmp.WholeK
set_option linter.unusedVariables false
set_option linter.unusedSimpArgs false
set_option maxRecDepth 10000
namespace Go.Proofs.Ytebahglmdifmpaa
open Go Go.Sort Go.Shelf Go.RowKit Go.Proofs.Ytebahglmdifmpaa.Vc
namespace PA
/-- A piece whose address is within bounds. -/
abbrev BB : Type := { b : B // 0 ≤ b.1 ∧ b.1 ≤ 4000000000 }
instance : Inhabited BB := ⟨⟨(0, 0, false), by decide⟩⟩
def encBB (x : BB) : List Value := AR.encB x.1
def cfBB (x y : BB) : Int := x.1.1 - y.1.1
theorem ltBB (x y : BB) : ltOf cfBB x y = decide (x.1.1 < y.1.1) := by
  unfold ltOf cfBB
  by_cases h : x.1.1 < y.1.1 <;> simp [h] <;> omega
theorem swoBB : SWO (ltOf cfBB) where
  irrefl x := by rw [ltBB]; simp
  trans x y z h1 h2 := by rw [ltBB] at *; simp at *; omega
  ntrans x y z h1 h2 := by rw [ltBB] at *; simp at *; omega
theorem cmpBB (blk off size : Nat) (w : World) : CmpLays Try.prog 78 #[] encBB 3 cfBB blk off size w := by
  intro m os dk hs x y
  generalize sortWorldK encBB 3 w blk off m dk os = W
  refine Calls.mono (f78.calls (xa0_0 := x.1.1) (xa0_1 := x.1.2.1) (ba0_2 := x.1.2.2) (xa1_0 := y.1.1) (xa1_1 := y.1.2.1) (ba1_2 := y.1.2.2) (w := W) (R := fun v w' => v = .int .i64 (cfBB x y) ∧ ∃ q os', w' = grow (W.drewN q) os') ?_) ?_
  · dsimp only [f78.VC]
    have hS1 := (St.start W).alloc #[.int .i64 x.1.1, .int .i64 x.1.2.1, .bool x.1.2.2] 96
    have hS2 := hS1.alloc #[.int .i64 y.1.1, .int .i64 y.1.2.1, .bool y.1.2.2] 96
    have h1 := x.2
    have h2 := y.2
    refine ⟨_, (hS2.blk 1 rfl).cell rfl, _, (hS2.blk 0 rfl).cell rfl, ?_⟩
    rw [i64_id (by omega) (by omega)]
    exact ⟨rfl, 0, _, by rw [alloc_eq_grow, alloc_eq_grow, grow_grow]; rfl⟩
  · rintro e w' ⟨v, rfl, rfl, h⟩
    exact ⟨rfl, h⟩
theorem agg96 : ∀ w, (isAgg 96).run Try.prog w = .ok true w := fun w => by kernel_rfl
theorem size96 : ∀ w, (Go.sizeOf 96).run Try.prog w = .ok 3 w := fun w => by kernel_rfl
theorem enters78 : ∀ args w, (callFunc 78 args).run Try.prog w = .ok (.enter 78 args) w := enters_of Try.func78 (by kernel_rfl) rfl
theorem frozen_plain {w : World} {b : Nat} {cs : Array Value} {T : TypeId} (h : Blk w b cs T) (i : Nat) : w.frozen? ⟨b, i, none⟩ = false := by
  unfold Blk at h
  unfold World.frozen?
  rw [h]; simp
theorem flat_get (d : Array BB) {i j : Nat} (hi : i < d.size) (hj : j < 3) : (flatK encBB 3 d)[i * 3 + j]! = (encBB d[i]!)[j]! := by
  have h1 : i * 3 + j < d.size * 3 := by omega
  rw [get_flatK _ _ _ _ h1]
  have e1 : (i * 3 + j) / 3 = i := by omega
  have e2 : (i * 3 + j) % 3 = j := by omega
  rw [e1, e2]
/-- The sort's world, seen as a list laid anew. -/
theorem sorted_row {w : World} {g cap m : Nat} {d d' : Array BB} {os : Array Obj} (hs : d'.size = d.size) (hR : Row w 96 3 g cap (d.toList.map encBB)) :
    Row (sortWorldK encBB 3 w g 0 m d' os) 96 3 g cap (d'.toList.map encBB) ∧ Fr [g] w (sortWorldK encBB 3 w g 0 m d' os) := by
  obtain ⟨cur, hB, hcs, hnc, hcm, hl, hget⟩ := hR
  have hg := hB.lt
  simp only [List.length_map, Array.length_toList] at hnc
  have hheap : ∀ k, k < w.heap.size → (sortWorldK encBB 3 w g 0 m d' os).heap[k]? = if k = g then some (.cells (putCells id 0 (flatK encBB 3 d') cur) 96 (0, 0)) else w.heap[k]? := by
    intro k hk
    unfold Blk at hB
    have hm : ∀ f : Obj → Obj, (w.heap.modify g f).size = w.heap.size := by simp
    simp only [sortWorldK, putRowK, putRow, mapBlock, grow, Sort.ahead]
    rw [Array.getElem?_append_left (by rw [hm]; exact hk), Array.getElem?_modify]
    by_cases h : g = k
    · subst h
      rw [if_pos rfl, if_pos rfl, hB]; rfl
    · rw [if_neg h, if_neg (Ne.symm h)]
  have hsize : w.heap.size ≤ (sortWorldK encBB 3 w g 0 m d' os).heap.size := by
    simp [sortWorldK, putRowK, putRow, mapBlock, grow, Sort.ahead]
  refine ⟨⟨putCells id 0 (flatK encBB 3 d') cur, ?_, ?_, ?_, hcm, ?_, ?_⟩, ⟨hsize, ?_, rfl, rfl, ?_⟩⟩
  · unfold Blk
    rw [hheap g hg, if_pos rfl]
  · simp [putCells, hcs]
  · simp [hs]; omega
  · intro r hr
    obtain ⟨x, _, rfl⟩ := List.mem_map.1 hr
    rfl
  · intro i hi j hj
    simp only [List.length_map, Array.length_toList] at hi
    have h3 : i * 3 + j < d'.size * 3 := by omega
    have hc : i * 3 + j < cur.size := by omega
    simp only [putCells, Array.getElem?_mapIdx, Array.getElem?_eq_getElem hc, Option.map_some]
    rw [if_pos (by simp; omega), Nat.sub_zero, flat_get d' hi hj]
    have e : (d'.toList.map encBB).getD i [] = encBB d'[i]! := by
      simp [List.getD_eq_getElem?_getD, hi, getElem!_pos]
    rw [e]
    have hjl : j < (encBB d'[i]!).length := hj
    simp [getElem!_pos, hjl]
  · intro b hb hS
    have hne : b ≠ g := by simpa using hS
    rw [hheap b hb, if_neg hne]
  · intro a ha
    unfold World.frozen?
    rw [hheap a.block ha]
    by_cases h : a.block = g
    · unfold Blk at hB
      rw [if_pos h, h, hB]
    · rw [if_neg h]
theorem perm_sorted {d d' : Array BB} (hp : PermIn 0 d.size d d') (hs : SortedIn (ltOf cfBB) 0 d.size d') : (d'.toList.map (·.1)).Perm (d.toList.map (·.1)) ∧ (d'.toList.map (·.1)).Pairwise (fun x y => x.1 ≤ y.1) := by
  obtain ⟨h1, _, h3⟩ := hp
  constructor
  · have h4 : d'.toList.Perm d.toList := by
      have e1 : d'.extract 0 d.size = d' := by rw [← h1]; simp
      have e2 : d.extract 0 d.size = d := by simp
      rw [e1, e2] at h3
      exact h3
    exact h4.map _
  · rw [List.pairwise_map, List.pairwise_iff_getElem]
    intro i j hi hj hij
    have h5 := hs i j (Nat.zero_le _) hij (by rw [← h1]; simpa using hj)
    rw [ltBB] at h5
    simp only [Array.length_toList] at hi hj
    rw [getElem!_pos d' i hi, getElem!_pos d' j hj] at h5
    simp only [Array.getElem_toList]
    simpa using h5
/-- Two lists of the same pieces, each rising by address. -/
theorem rise_unique : ∀ {l l' : List B}, l.Perm l' → l.Pairwise (fun x y => x.1 ≤ y.1) → l'.Pairwise (fun x y => x.1 < y.1) → l = l'
  | [], l', p, _, _ => p.nil_eq
  | x :: l, [], p, _, _ => absurd p.length_eq (by simp)
  | x :: l, y :: l', p, h, k => by
    obtain ⟨h1, h2⟩ := List.pairwise_cons.1 h
    obtain ⟨k1, k2⟩ := List.pairwise_cons.1 k
    have hxy : x = y := by
      have hx : x ∈ y :: l' := p.mem_iff.1 (by simp)
      have hy : y ∈ x :: l := p.mem_iff.2 (by simp)
      rcases List.mem_cons.1 hx with hx | hx
      · exact hx
      · rcases List.mem_cons.1 hy with hy | hy
        · exact hy.symm
        · have := k1 x hx; have := h1 y hy; omega
    subst hxy
    rw [rise_unique ((List.perm_cons x).1 p) h2 k2]
theorem sortBlocks {w : World} {A : Option Addr} {n c : Nat} {bs L : List B} {F : List Nat} (h : (Chunk.sl 96 3 (.slice A n c) (bs.map AR.encB)).holds w F) (hp : bs.Perm L) (hL : L.Pairwise (fun x y => x.1 < y.1)) (hpos : 0 < bs.length)
    (hb : ∀ b ∈ bs, 0 ≤ b.1 ∧ b.1 ≤ 4000000000) (hl : bs.length ≤ 4000000000) :
    Calls Try.prog 77 #[.slice A n c, .func (.func 78) #[] #[]] w fun e w' => e = .returned (.tuple #[]) ∧ ∃ F', (Chunk.sl 96 3 (.slice A n c) (L.map AR.encB)).holds w' F' ∧ Fr F w w' ∧ ∀ x ∈ F', x ∈ F ∨ w.heap.size ≤ x := by
  rcases h with ⟨_, h2, _⟩ | ⟨g, cap, h1, rfl, hR⟩
  · simp at h2; subst h2; simp at hpos
  · simp only [Value.slice.injEq] at h1
    obtain ⟨rfl, rfl, rfl⟩ := h1
    obtain ⟨d, hd, hds⟩ : ∃ d : Array BB, d.toList.map (·.1) = bs ∧ d.size = bs.length := by
      refine ⟨(bs.attach.map fun x => (⟨x.1, hb x.1 x.2⟩ : BB)).toArray, ?_, by rw [List.size_toArray, List.length_map, List.length_attach]⟩
      show (bs.attach.map fun x => (⟨x.1, hb x.1 x.2⟩ : BB)).map (·.1) = bs
      rw [List.map_map]
      exact List.attach_map_subtype_val bs
    have hdm : d.toList.map encBB = bs.map AR.encB := by rw [← hd, List.map_map]; rfl
    rw [← hdm] at hR
    have hH : HoldsK encBB 3 w g 0 d := by
      intro t ht
      rw [size_flatK] at ht
      obtain ⟨cur, hB, hcs, hnc, hcm, hl', hget⟩ := hR
      refine ⟨?_, frozen_plain hB _⟩
      have e := hget (t / 3) (by simp; omega) (t % 3) (Nat.mod_lt _ (by decide))
      rw [show t / 3 * 3 + t % 3 = t by omega] at e
      rw [Nat.zero_add]
      refine hB.cell ?_
      rw [e]
      have hi : t / 3 < d.size := by omega
      have e2 : (d.toList.map encBB).getD (t / 3) [] = encBB d[t / 3]! := by
        simp [List.getD_eq_getElem?_getD, hi, getElem!_pos]
      have e3 : t % 3 < (encBB d[t / 3]!).length := Nat.mod_lt _ (by decide)
      rw [e2, get_flatK _ _ _ _ ht]
      simp [getElem!_pos, e3]
    have hg : g < w.heap.size := hR.lt
    have hcon := Go.Proofs.AnyQ.slices_SortFunc Lay.sortB 3 agg96 size96 encBB (fun _ => rfl) (fun x v hv => by simp [encBB, AR.encB] at hv; rcases hv with rfl | rfl | rfl <;> rfl) cfBB swoBB 78 #[] g 0 c d w enters78 (cmpBB g 0 d.size w) hH hg (by omega)
    change Calls Try.prog 77 _ _ _ at hcon
    have e : (bs.map AR.encB).length = d.size := by simp [hds]
    rw [e]
    refine Calls.mono hcon ?_
    rintro e w' ⟨rfl, d', m, os, hp', hs', rfl⟩
    obtain ⟨r1, r2⟩ := sorted_row (m := m) (os := os) hp'.1 hR
    obtain ⟨q1, q2⟩ := perm_sorted hp' hs'
    have hfin : d'.toList.map (·.1) = L := rise_unique (q1.trans (by rw [hd]; exact hp)) q2 hL
    have hfin2 : d'.toList.map encBB = L.map AR.encB := by rw [← hfin, List.map_map]; rfl
    rw [hfin2] at r1
    refine ⟨rfl, [g], .inr ⟨g, c, ?_, rfl, r1⟩, r2, fun x hx => .inl hx⟩
    rw [List.length_map, ← hp.length_eq, hds]
end PA
end Go.Proofs.Ytebahglmdifmpaa
