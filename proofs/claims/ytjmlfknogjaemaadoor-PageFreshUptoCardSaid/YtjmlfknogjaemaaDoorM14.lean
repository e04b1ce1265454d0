/- Page: lines that differ: a map with lines as keys. -/
import Derived.Test.YtjmlfknogjaemaaDoorM12
import Derived.Test.YtjmlfknogjaemaaDoorM13
import Derived.Test.YtjmlfknogjaemaaDoorM8
import Derived.Test.YtjmlfknogjaemaaDoorM10
import Derived.Test.YtjmlfknogjaemaaDoorM5
import Derived.Test.YtjmlfknogjaemaaDoorProg
import Derived.KernelRfl
set_option linter.unusedVariables false
set_option linter.unusedSimpArgs false
set_option maxRecDepth 100000
namespace Go.Proofs.YtjmlfknogjaemaaDoor
open Go Go.Proofs.YtjmlfknogjaemaaDoor.Vc
namespace PG
open Vc.PG NI
abbrev Ar := GM.Arr 64
abbrev encA : Ar → Value := GM.encArr .u16 64
/-- Lines that are read. -/
def InA (w : World) (A : Option Addr) (n : Nat) (R : List (List Int)) : Prop := n = R.length ∧ (∀ r ∈ R, r.length = 64) ∧ (0 < n → ∃ b o, A = some ⟨b, o, none⟩ ∧ ∀ i, i < n → ∀ j, j < 64 → w.cell? ⟨b, o + i * 64 + j, none⟩ = some (.int .u16 ((R.getD i []).getD j 0)))
theorem under147 : Tryd.prog.underlying 111 = some (.map 89 3) := by kernel_rfl
theorem under125 : Tryd.prog.underlying 89 = some (.array 64 59) := by kernel_rfl
theorem under79 : Tryd.prog.underlying 59 = some (.int .u16) := by kernel_rfl
theorem keyA : GM.KeyLaw Tryd.prog 89 encA := by
  obtain ⟨i, h1, h2, h3, h4⟩ := info79
  exact GM.KeyLaw.arr under125 under79 h1 h3
theorem listX {X : List Int} (hX : X.length = 64) : (.agg #[.int .u16 (X.getD 0 0), .int .u16 (X.getD 1 0), .int .u16 (X.getD 2 0), .int .u16 (X.getD 3 0), .int .u16 (X.getD 4 0), .int .u16 (X.getD 5 0), .int .u16 (X.getD 6 0), .int .u16 (X.getD 7 0), .int .u16 (X.getD 8 0), .int .u16 (X.getD 9 0), .int .u16 (X.getD 10 0), .int .u16 (X.getD 11 0), .int .u16 (X.getD 12 0), .int .u16 (X.getD 13 0), .int .u16 (X.getD 14 0), .int .u16 (X.getD 15 0), .int .u16 (X.getD 16 0), .int .u16 (X.getD 17 0), .int .u16 (X.getD 18 0), .int .u16 (X.getD 19 0), .int .u16 (X.getD 20 0), .int .u16 (X.getD 21 0), .int .u16 (X.getD 22 0), .int .u16 (X.getD 23 0), .int .u16 (X.getD 24 0), .int .u16 (X.getD 25 0), .int .u16 (X.getD 26 0), .int .u16 (X.getD 27 0), .int .u16 (X.getD 28 0), .int .u16 (X.getD 29 0), .int .u16 (X.getD 30 0), .int .u16 (X.getD 31 0), .int .u16 (X.getD 32 0), .int .u16 (X.getD 33 0), .int .u16 (X.getD 34 0), .int .u16 (X.getD 35 0), .int .u16 (X.getD 36 0), .int .u16 (X.getD 37 0), .int .u16 (X.getD 38 0), .int .u16 (X.getD 39 0), .int .u16 (X.getD 40 0), .int .u16 (X.getD 41 0), .int .u16 (X.getD 42 0), .int .u16 (X.getD 43 0), .int .u16 (X.getD 44 0), .int .u16 (X.getD 45 0), .int .u16 (X.getD 46 0), .int .u16 (X.getD 47 0), .int .u16 (X.getD 48 0), .int .u16 (X.getD 49 0), .int .u16 (X.getD 50 0), .int .u16 (X.getD 51 0), .int .u16 (X.getD 52 0), .int .u16 (X.getD 53 0), .int .u16 (X.getD 54 0), .int .u16 (X.getD 55 0), .int .u16 (X.getD 56 0), .int .u16 (X.getD 57 0), .int .u16 (X.getD 58 0), .int .u16 (X.getD 59 0), .int .u16 (X.getD 60 0), .int .u16 (X.getD 61 0), .int .u16 (X.getD 62 0), .int .u16 (X.getD 63 0)] : Value) = encA ⟨X, hX⟩ := by
  have : X = (List.range 64).map fun j => X.getD j 0 := by
    refine List.ext_getElem (by simp [hX]) fun j hj hj2 => ?_
    simp [List.getD_eq_getElem?_getD, hj]
  show _ = Value.agg (X.map (Value.int .u16)).toArray
  conv => rhs; rw [this]
  rfl
theorem keys_put {l : List (Ar × Int)} {k : Ar} {v : Int} : (GM.put l k v).map (·.1) = if k ∈ l.map (·.1) then l.map (·.1) else l.map (·.1) ++ [k] := by
  unfold GM.put
  cases hx : GM.idx l k with
  | some j =>
    unfold GM.idx at hx
    obtain ⟨hj, hk, _⟩ := List.findIdx?_eq_some_iff_getElem.mp hx
    have hk : (l.map (·.1))[j] = k := by simpa using hk
    rw [if_pos (by rw [← hk]; exact List.getElem_mem hj)]
    dsimp only
    rw [List.map_set]
    apply List.ext_getElem (by simp)
    intro q h1 h2
    rw [List.getElem_set]
    split
    · rename_i h; subst h; exact hk.symm
    · rfl
  | none =>
    unfold GM.idx at hx
    rw [List.findIdx?_eq_none_iff] at hx
    rw [if_neg (fun hm => by have := hx k hm; simp at this)]
    simp
/-- What the map knows behind some lines. -/
def Seen (R : List (List Int)) (i : Nat) (l : List (Ar × Int)) : Prop := (∀ x : Ar, x ∈ l.map (·.1) ↔ x.1 ∈ R.take i) ∧ l.length ≤ i ∧ (l.length = i ↔ (R.take i).Nodup)
theorem Seen.step {R : List (List Int)} {i : Nat} {l : List (Ar × Int)} (h : Seen R i l) (hi : i < R.length) (hX : (R.getD i []).length = 64) (v : Int) : Seen R (i + 1) (GM.put l ⟨R.getD i [], hX⟩ v) := by
  obtain ⟨h1, h2, h3⟩ := h
  have et : R.take (i + 1) = R.take i ++ [R.getD i []] := by
    rw [List.take_succ_eq_append_getElem hi]; simp [List.getD_eq_getElem?_getD, hi]
  have hl : (GM.put l ⟨R.getD i [], hX⟩ v).length = ((GM.put l ⟨R.getD i [], hX⟩ v).map (·.1)).length := by rw [List.length_map]
  unfold Seen
  rw [hl, keys_put, et]
  generalize hx : (⟨R.getD i [], hX⟩ : Ar) = x
  have hx1 : x.1 = R.getD i [] := by rw [← hx]
  rw [← hx1]
  by_cases hm : x ∈ l.map (·.1)
  · rw [if_pos hm, List.length_map]
    refine ⟨fun y => ?_, by omega, ?_⟩
    · rw [h1, List.mem_append]
      constructor
      · exact .inl
      · rintro (h | h)
        · exact h
        · rw [List.mem_singleton] at h; rw [h]; exact (h1 x).1 hm
    · constructor
      · intro h; omega
      · intro h
        exact absurd ((h1 x).1 hm) (fun h5 => (List.nodup_append.1 h).2.2 x.1 h5 x.1 (by simp) rfl)
  · rw [if_neg hm, List.length_append, List.length_map]
    refine ⟨fun y => ?_, by simp; omega, ?_⟩
    · rw [List.mem_append, h1, List.mem_append, List.mem_singleton, List.mem_singleton]
      constructor
      · rintro (h | h)
        · exact .inl h
        · exact .inr (by rw [h])
      · rintro (h | h)
        · exact .inl h
        · exact .inr (Subtype.ext h)
    · have hno : x.1 ∉ R.take i := fun h => hm ((h1 x).2 h)
      simp only [List.length_singleton, List.nodup_append]
      constructor
      · intro h
        refine ⟨h3.1 (by omega), by simp, fun a ha c hc e => ?_⟩
        rw [List.mem_singleton] at hc
        exact hno (by rw [← hc, ← e]; exact ha)
      · intro h
        have := h3.2 h.1
        omega
abbrev mpA (r : Nat) (l : List (Ar × Int)) : Chunk := Chunk.map encA encN r l
theorem differC {w : World} {A : Option Addr} {n c : Nat} {R : List (List Int)} (h : InA w A n R) (hn : n ≤ 1000) :
    Calls Tryd.prog 51 #[.slice A n c] w fun e w' => e = .returned (.bool (decide R.Nodup)) ∧ Fr [] w w' := by
  refine Calls.mono (f51.calls (R := fun v w' => v = .bool (decide R.Nodup) ∧ Fr [] w w') ?_) ?_
  · unfold f51.VC
    have hl := h.1
    have hS := (St.start w).mapNew (encK := encA) (encV := encN)
    generalize World.alloc w (.map #[] 0) = w1 at *
    generalize w.heap.size = mp at *
    refine ⟨fun x w' r => ∃ i : Nat, x = (i : Int) ∧ i + r = n ∧ ∃ l, St [] w w' [mpA mp l] ∧ Seen R i l, ⟨n, 0, rfl, by omega, [], hS, by simp [Seen]⟩, ?_⟩
    rintro d x w2 r ⟨i, rfl, hir, l, hS, hseen⟩
    obtain ⟨ti, i1, i2, i3, i4⟩ := info3
    refine sel_of (fun hd => ?_) (fun hd => ?_)
    · have hi : i < n := by have := of_decide_eq_true hd; omega
      obtain ⟨b, o, rfl, hc0⟩ := h.2.2 (by omega)
      have hX : (R.getD i []).length = 64 := h.2.1 _ ((mem_getD [] _ _).2 ⟨i, by omega, rfl⟩)
      have hstep := hseen.step (by omega) hX
      have hc : ∀ j, j < 64 → w2.cell? ⟨b, o + (i : Int).toNat * 64 + j, none⟩ = some (.int .u16 ((R.getD i []).getD j 0)) := fun j hj => by
        rw [Int.toNat_natCast]; exact hS.frame.cell (hc0 i hi j hj)
      have hinc := inc i 1000 (by omega) (by omega)
      generalize R.getD i [] = X at *
      have hS1 := hS.alloc #[.int .u16 0, .int .u16 0, .int .u16 0, .int .u16 0, .int .u16 0, .int .u16 0, .int .u16 0, .int .u16 0, .int .u16 0, .int .u16 0, .int .u16 0, .int .u16 0, .int .u16 0, .int .u16 0, .int .u16 0, .int .u16 0, .int .u16 0, .int .u16 0, .int .u16 0, .int .u16 0, .int .u16 0, .int .u16 0, .int .u16 0, .int .u16 0, .int .u16 0, .int .u16 0, .int .u16 0, .int .u16 0, .int .u16 0, .int .u16 0, .int .u16 0, .int .u16 0, .int .u16 0, .int .u16 0, .int .u16 0, .int .u16 0, .int .u16 0, .int .u16 0, .int .u16 0, .int .u16 0, .int .u16 0, .int .u16 0, .int .u16 0, .int .u16 0, .int .u16 0, .int .u16 0, .int .u16 0, .int .u16 0, .int .u16 0, .int .u16 0, .int .u16 0, .int .u16 0, .int .u16 0, .int .u16 0, .int .u16 0, .int .u16 0, .int .u16 0, .int .u16 0, .int .u16 0, .int .u16 0, .int .u16 0, .int .u16 0, .int .u16 0, .int .u16 0] 89
      have hS2 := hS1.over 0 rfl [.int .u16 (X.getD 0 0), .int .u16 (X.getD 1 0), .int .u16 (X.getD 2 0), .int .u16 (X.getD 3 0), .int .u16 (X.getD 4 0), .int .u16 (X.getD 5 0), .int .u16 (X.getD 6 0), .int .u16 (X.getD 7 0), .int .u16 (X.getD 8 0), .int .u16 (X.getD 9 0), .int .u16 (X.getD 10 0), .int .u16 (X.getD 11 0), .int .u16 (X.getD 12 0), .int .u16 (X.getD 13 0), .int .u16 (X.getD 14 0), .int .u16 (X.getD 15 0), .int .u16 (X.getD 16 0), .int .u16 (X.getD 17 0), .int .u16 (X.getD 18 0), .int .u16 (X.getD 19 0), .int .u16 (X.getD 20 0), .int .u16 (X.getD 21 0), .int .u16 (X.getD 22 0), .int .u16 (X.getD 23 0), .int .u16 (X.getD 24 0), .int .u16 (X.getD 25 0), .int .u16 (X.getD 26 0), .int .u16 (X.getD 27 0), .int .u16 (X.getD 28 0), .int .u16 (X.getD 29 0), .int .u16 (X.getD 30 0), .int .u16 (X.getD 31 0), .int .u16 (X.getD 32 0), .int .u16 (X.getD 33 0), .int .u16 (X.getD 34 0), .int .u16 (X.getD 35 0), .int .u16 (X.getD 36 0), .int .u16 (X.getD 37 0), .int .u16 (X.getD 38 0), .int .u16 (X.getD 39 0), .int .u16 (X.getD 40 0), .int .u16 (X.getD 41 0), .int .u16 (X.getD 42 0), .int .u16 (X.getD 43 0), .int .u16 (X.getD 44 0), .int .u16 (X.getD 45 0), .int .u16 (X.getD 46 0), .int .u16 (X.getD 47 0), .int .u16 (X.getD 48 0), .int .u16 (X.getD 49 0), .int .u16 (X.getD 50 0), .int .u16 (X.getD 51 0), .int .u16 (X.getD 52 0), .int .u16 (X.getD 53 0), .int .u16 (X.getD 54 0), .int .u16 (X.getD 55 0), .int .u16 (X.getD 56 0), .int .u16 (X.getD 57 0), .int .u16 (X.getD 58 0), .int .u16 (X.getD 59 0), .int .u16 (X.getD 60 0), .int .u16 (X.getD 61 0), .int .u16 (X.getD 62 0), .int .u16 (X.getD 63 0)] rfl
      have hx := listX hX
      refine ⟨by omega, by omega, needPtr_of rfl ⟨_, hc 0 (by decide), _, hc 1 (by decide), _, hc 2 (by decide), _, hc 3 (by decide), _, hc 4 (by decide), _, hc 5 (by decide), _, hc 6 (by decide), _, hc 7 (by decide), _, hc 8 (by decide), _, hc 9 (by decide), _, hc 10 (by decide), _, hc 11 (by decide), _, hc 12 (by decide), _, hc 13 (by decide), _, hc 14 (by decide), _, hc 15 (by decide), _, hc 16 (by decide), _, hc 17 (by decide), _, hc 18 (by decide), _, hc 19 (by decide), _, hc 20 (by decide), _, hc 21 (by decide), _, hc 22 (by decide), _, hc 23 (by decide), _, hc 24 (by decide), _, hc 25 (by decide), _, hc 26 (by decide), _, hc 27 (by decide), _, hc 28 (by decide), _, hc 29 (by decide), _, hc 30 (by decide), _, hc 31 (by decide), _, hc 32 (by decide), _, hc 33 (by decide), _, hc 34 (by decide), _, hc 35 (by decide), _, hc 36 (by decide), _, hc 37 (by decide), _, hc 38 (by decide), _, hc 39 (by decide), _, hc 40 (by decide), _, hc 41 (by decide), _, hc 42 (by decide), _, hc 43 (by decide), _, hc 44 (by decide), _, hc 45 (by decide), _, hc 46 (by decide), _, hc 47 (by decide), _, hc 48 (by decide), _, hc 49 (by decide), _, hc 50 (by decide), _, hc 51 (by decide), _, hc 52 (by decide), _, hc 53 (by decide), _, hc 54 (by decide), _, hc 55 (by decide), _, hc 56 (by decide), _, hc 57 (by decide), _, hc 58 (by decide), _, hc 59 (by decide), _, hc 60 (by decide), _, hc 61 (by decide), _, hc 62 (by decide), _, hc 63 (by decide), (hS1.blk 0 rfl).can (by decide), ?_⟩⟩
      refine ⟨_, (hS2.blk 0 rfl).cell rfl, _, (hS2.blk 0 rfl).cell rfl, _, (hS2.blk 0 rfl).cell rfl, _, (hS2.blk 0 rfl).cell rfl, _, (hS2.blk 0 rfl).cell rfl, _, (hS2.blk 0 rfl).cell rfl, _, (hS2.blk 0 rfl).cell rfl, _, (hS2.blk 0 rfl).cell rfl, _, (hS2.blk 0 rfl).cell rfl, _, (hS2.blk 0 rfl).cell rfl, _, (hS2.blk 0 rfl).cell rfl, _, (hS2.blk 0 rfl).cell rfl, _, (hS2.blk 0 rfl).cell rfl, _, (hS2.blk 0 rfl).cell rfl, _, (hS2.blk 0 rfl).cell rfl, _, (hS2.blk 0 rfl).cell rfl, _, (hS2.blk 0 rfl).cell rfl, _, (hS2.blk 0 rfl).cell rfl, _, (hS2.blk 0 rfl).cell rfl, _, (hS2.blk 0 rfl).cell rfl, _, (hS2.blk 0 rfl).cell rfl, _, (hS2.blk 0 rfl).cell rfl, _, (hS2.blk 0 rfl).cell rfl, _, (hS2.blk 0 rfl).cell rfl, _, (hS2.blk 0 rfl).cell rfl, _, (hS2.blk 0 rfl).cell rfl, _, (hS2.blk 0 rfl).cell rfl, _, (hS2.blk 0 rfl).cell rfl, _, (hS2.blk 0 rfl).cell rfl, _, (hS2.blk 0 rfl).cell rfl, _, (hS2.blk 0 rfl).cell rfl, _, (hS2.blk 0 rfl).cell rfl, _, (hS2.blk 0 rfl).cell rfl, _, (hS2.blk 0 rfl).cell rfl, _, (hS2.blk 0 rfl).cell rfl, _, (hS2.blk 0 rfl).cell rfl, _, (hS2.blk 0 rfl).cell rfl, _, (hS2.blk 0 rfl).cell rfl, _, (hS2.blk 0 rfl).cell rfl, _, (hS2.blk 0 rfl).cell rfl, _, (hS2.blk 0 rfl).cell rfl, _, (hS2.blk 0 rfl).cell rfl, _, (hS2.blk 0 rfl).cell rfl, _, (hS2.blk 0 rfl).cell rfl, _, (hS2.blk 0 rfl).cell rfl, _, (hS2.blk 0 rfl).cell rfl, _, (hS2.blk 0 rfl).cell rfl, _, (hS2.blk 0 rfl).cell rfl, _, (hS2.blk 0 rfl).cell rfl, _, (hS2.blk 0 rfl).cell rfl, _, (hS2.blk 0 rfl).cell rfl, _, (hS2.blk 0 rfl).cell rfl, _, (hS2.blk 0 rfl).cell rfl, _, (hS2.blk 0 rfl).cell rfl, _, (hS2.blk 0 rfl).cell rfl, _, (hS2.blk 0 rfl).cell rfl, _, (hS2.blk 0 rfl).cell rfl, _, (hS2.blk 0 rfl).cell rfl, _, (hS2.blk 0 rfl).cell rfl, _, (hS2.blk 0 rfl).cell rfl, _, (hS2.blk 0 rfl).cell rfl, _, (hS2.blk 0 rfl).cell rfl, _, (hS2.blk 0 rfl).cell rfl, _, (hS2.blk 0 rfl).cell rfl, ?_⟩
      rw [hx, hinc]
      generalize setCs _ _ _ _ = w4 at *
      have hS2 := hS2.tail
      obtain ⟨st, w6, q1, q2, q3, q4⟩ := GM.entry under147 keyA i1 i2 (hS2.mapIs 0 rfl) ⟨X, hX⟩
      have q4' := q4 w6 (IntKind.i64.wrap (GM.get 0 l ⟨X, hX⟩ + 1)) rfl
      obtain ⟨w7, u1, u2, u3⟩ := q4'
      have hfin : ∃ l, St [] w w7 [mpA mp l] ∧ Seen R (i + 1) l := by
        obtain ⟨F, k1, _, k3⟩ := hS2.at 0 rfl
        exact ⟨_, k3 (F' := F) (c' := mpA mp _) (by rw [k1.1]; exact q3.trans u3) ⟨k1.1, u2⟩ (fun x hx => .inl hx), hstep _⟩
      refine ⟨?_, ?_, trivial⟩
      · have hlk := GM.look under147 keyA i1 i2 (hS2.drew.mapIs 0 rfl) ⟨X, hX⟩ false
        obtain ⟨st', w6', q1', q2', q3', q4''⟩ := GM.entry under147 keyA i1 i2 (hS2.drew.mapIs 0 rfl) ⟨X, hX⟩
        obtain ⟨w7', u1', u2', u3'⟩ := q4'' w6' (IntKind.i64.wrap (GM.get 0 l ⟨X, hX⟩ + 1)) rfl
        refine ⟨_, _, hlk, _, _, _, q1', _, u1', rfl, r - 1, by omega, i + 1, rfl, by omega, ?_⟩
        obtain ⟨F, k1, _, k3⟩ := hS2.drew.at 0 rfl
        exact ⟨_, k3 (F' := F) (c' := mpA mp _) (by rw [k1.1]; exact q3'.trans u3') ⟨k1.1, u2'⟩ (fun x hx => .inl hx), hstep _⟩
      · obtain ⟨st', w6', q1', q2', q3', q4''⟩ := GM.entry under147 keyA i1 i2 (hS2.drew.mapIs 0 rfl) ⟨X, hX⟩
        obtain ⟨w7', u1', u2', u3'⟩ := q4'' w6' (IntKind.i64.wrap (GM.get 0 l ⟨X, hX⟩ + 1)) rfl
        have hlk := GM.look under147 keyA i1 i2 q2' ⟨X, hX⟩ false
        rw [GM.get_ent] at hlk
        refine ⟨_, _, _, q1', _, _, hlk, _, u1', rfl, r - 1, by omega, i + 1, rfl, by omega, ?_⟩
        obtain ⟨F, k1, _, k3⟩ := hS2.drew.at 0 rfl
        exact ⟨_, k3 (F' := F) (c' := mpA mp _) (by rw [k1.1]; exact q3'.trans u3') ⟨k1.1, u2'⟩ (fun x hx => .inl hx), hstep _⟩
    · have hi : i = n := by have := of_decide_eq_false hd; omega
      refine ⟨_, _, GM.len under147 (hS.mapIs 0 rfl), ?_, hS.frame⟩
      have e := hseen.2.2
      rw [List.take_of_length_le (by omega)] at e
      congr 1
      rw [Bool.eq_iff_iff, decide_eq_true_iff, beq_iff_eq, ← e]
      omega
  · rintro e w' ⟨v, rfl, rfl, h⟩; exact ⟨rfl, h⟩
end PG
end Go.Proofs.YtjmlfknogjaemaaDoor
/- Page: lines of 64 numbers, filled up with 0. -/
set_option linter.unusedVariables false
set_option linter.unusedSimpArgs false
set_option maxRecDepth 10000
namespace Go.Proofs.YtjmlfknogjaemaaDoor.Vc
open Go
namespace PG
theorem shaped_iff (M : List (List Int)) (n m b : Nat) : shapedB M n m b = true ↔ M.length = n ∧ ∀ a, a < n → (M.getD a []).length = m ∧ ∀ q, q < m → (M.getD a []).getD q 0 < 2 ^ b := by
  unfold shapedB
  rw [Bool.and_eq_true, decide_eq_true_iff, List.all_eq_true]
  constructor
  · rintro ⟨h1, h2⟩
    refine ⟨h1, fun a ha => ?_⟩
    have := h2 _ ((mem_getD [] _ _).2 ⟨a, by omega, rfl⟩)
    rw [Bool.and_eq_true, decide_eq_true_iff, List.all_eq_true] at this
    refine ⟨this.1, fun q hq => ?_⟩
    have := this.2 _ ((mem_getD 0 _ _).2 ⟨q, by omega, rfl⟩)
    exact of_decide_eq_true this
  · rintro ⟨h1, h2⟩
    refine ⟨h1, fun r hr => ?_⟩
    obtain ⟨a, ha, rfl⟩ := (mem_getD [] _ _).1 hr
    obtain ⟨h3, h4⟩ := h2 a (by omega)
    rw [Bool.and_eq_true, decide_eq_true_iff, List.all_eq_true]
    refine ⟨h3, fun x hx => ?_⟩
    obtain ⟨q, hq, rfl⟩ := (mem_getD 0 _ _).1 hx
    exact decide_eq_true (h4 q (by omega))
/-- A row of 64, out of a long list. -/
def rowL (L : List Int) (a : Nat) : List Int := (List.range 64).map fun b => L.getD (a * 64 + b) 0
theorem rowL_len (L : List Int) (a : Nat) : (rowL L a).length = 64 := by simp [rowL]
theorem rowL_getD (L : List Int) (a b : Nat) (h : b < 64) : (rowL L a).getD b 0 = L.getD (a * 64 + b) 0 := by
  simp [rowL, List.getD_eq_getElem?_getD, h]
/-- The rows hold what f says, and 0 else. -/
theorem rows_nodup {L : List Int} {n m : Nat} {l : List (List Int)} (hl : l.length = n) (hm : m ≤ 64) (hlen : ∀ a, a < n → (l.getD a []).length = m) (h : ∀ a b, a < n → b < 64 → L.getD (a * 64 + b) 0 = if b < m then (l.getD a []).getD b 0 else 0) :
    ((List.range n).map (rowL L)).Nodup ↔ l.Nodup := by
  rw [nodup_getD [], nodup_getD []]
  simp only [List.length_map, List.length_range, hl]
  have e : ∀ a, a < n → ((List.range n).map (rowL L)).getD a [] = rowL L a := fun a ha => by simp [List.getD_eq_getElem?_getD, ha]
  have key : ∀ a b, a < n → b < n → (rowL L a = rowL L b ↔ l.getD a [] = l.getD b []) := by
    intro a b ha hb
    constructor
    · intro hab
      refine (ext_getD 0 _ _).2 ⟨by rw [hlen a ha, hlen b hb], fun q hq => ?_⟩
      rw [hlen a ha] at hq
      have h1 : (rowL L a).getD q 0 = (rowL L b).getD q 0 := by rw [hab]
      rw [rowL_getD _ _ _ (by omega), rowL_getD _ _ _ (by omega), h a q ha (by omega), h b q hb (by omega), if_pos hq, if_pos hq] at h1
      exact h1
    · intro hab
      refine (ext_getD 0 _ _).2 ⟨by rw [rowL_len, rowL_len], fun q hq => ?_⟩
      rw [rowL_len] at hq
      rw [rowL_getD _ _ _ hq, rowL_getD _ _ _ hq, h a q ha hq, h b q hb hq, hab]
  constructor
  · intro h1 a b hab hb he
    have := h1 a b hab hb
    rw [e a (by omega), e b hb] at this
    exact this ((key a b (by omega) hb).2 he)
  · intro h1 a b hab hb he
    rw [e a (by omega), e b hb] at he
    exact h1 a b hab hb ((key a b (by omega) hb).1 he)
theorem getD_set {α : Type} (d : α) (l : List α) (p q : Nat) (x : α) (hp : p < l.length) : (l.set p x).getD q d = if p = q then x else l.getD q d := by
  simp only [List.getD_eq_getElem?_getD, List.getElem?_set]
  by_cases h : p = q
  · subst h; simp [hp]
  · simp [h]
/-- Lines filled as far as row i, place j. -/
def Fill (M : List (List Int)) (n m i j : Nat) (Lr Lc : List Int) : Prop :=
  (∀ a c, a < n → c < 64 → Lr.getD (a * 64 + c) 0 = if (a < i ∨ a = i ∧ c < j) ∧ c < m then (M.getD a []).getD c 0 else 0) ∧
  (∀ a c, c < m → a < 64 → Lc.getD (c * 64 + a) 0 = if a < i ∨ a = i ∧ c < j then (M.getD a []).getD c 0 else 0)
theorem Fill.zero (M : List (List Int)) (n m p q : Nat) : Fill M n m 0 0 (List.replicate p 0) (List.replicate q 0) := by
  have e : ∀ p k : Nat, (List.replicate p (0 : Int)).getD k 0 = 0 := fun p k => by
    simp only [List.getD_eq_getElem?_getD, List.getElem?_replicate]
    split <;> rfl
  refine ⟨fun a c ha hc => ?_, fun a c ha hc => ?_⟩
  · rw [e, if_neg (by omega)]
  · rw [e, if_neg (by omega)]
theorem Fill.step {M : List (List Int)} {n m i j : Nat} {Lr Lc : List Int} (h : Fill M n m i j Lr Lc) (hr : Lr.length = n * 64) (hc : Lc.length = m * 64) (hi : i < n) (hj : j < m) (hn : n ≤ 64) (hm : m ≤ 64) :
    Fill M n m i (j + 1) (Lr.set (i * 64 + j) ((M.getD i []).getD j 0)) (Lc.set (j * 64 + i) ((M.getD i []).getD j 0)) := by
  refine ⟨fun a c ha hc2 => ?_, fun a c ha hc2 => ?_⟩
  · rw [getD_set 0 _ _ _ _ (by omega)]
    by_cases he : i = a ∧ j = c
    · obtain ⟨rfl, rfl⟩ := he
      rw [if_pos rfl, if_pos (by omega)]
    · rw [if_neg (by omega), h.1 a c ha hc2]
      by_cases hh : (a < i ∨ a = i ∧ c < j) ∧ c < m
      · rw [if_pos hh, if_pos (by omega)]
      · rw [if_neg hh, if_neg (by omega)]
  · rw [getD_set 0 _ _ _ _ (by omega)]
    by_cases he : i = a ∧ j = c
    · obtain ⟨rfl, rfl⟩ := he
      rw [if_pos rfl, if_pos (by omega)]
    · rw [if_neg (by omega), h.2 a c ha hc2]
      by_cases hh : a < i ∨ a = i ∧ c < j
      · rw [if_pos hh, if_pos (by omega)]
      · rw [if_neg hh, if_neg (by omega)]
theorem Fill.row {M : List (List Int)} {n m i : Nat} {Lr Lc : List Int} (h : Fill M n m i m Lr Lc) : Fill M n m (i + 1) 0 Lr Lc := by
  refine ⟨fun a c ha hc => ?_, fun a c ha hc => ?_⟩
  · rw [h.1 a c ha hc]
    by_cases hh : (a < i ∨ a = i ∧ c < m) ∧ c < m
    · rw [if_pos hh, if_pos (by omega)]
    · rw [if_neg hh, if_neg (by omega)]
  · rw [h.2 a c ha hc]
    by_cases hh : a < i ∨ a = i ∧ c < m
    · rw [if_pos hh, if_pos (by omega)]
    · rw [if_neg hh, if_neg (by omega)]
theorem Fill.rows {M : List (List Int)} {n m : Nat} {Lr Lc : List Int} (h : Fill M n m n 0 Lr Lc) (hl : M.length = n) (hm : m ≤ 64) (hlen : ∀ a, a < n → (M.getD a []).length = m) : ((List.range n).map (rowL Lr)).Nodup ↔ M.Nodup :=
  rows_nodup hl hm hlen fun a c ha hc => by
    rw [h.1 a c ha hc]
    by_cases hh : c < m
    · rw [if_pos (by omega), if_pos hh]
    · rw [if_neg (by omega), if_neg hh]
theorem col_getD (M : List (List Int)) (c : Nat) {a : Nat} (ha : a < M.length) : (col M c).getD a 0 = (M.getD a []).getD c 0 := by
  simp [col, List.getD_eq_getElem?_getD, ha]
theorem Fill.cols {M : List (List Int)} {n m : Nat} {Lr Lc : List Int} (h : Fill M n m n 0 Lr Lc) (hl : M.length = n) (hn : n ≤ 64) : ((List.range m).map (rowL Lc)).Nodup ↔ ((List.range m).map (col M)).Nodup := by
  have e : ∀ c, c < m → ((List.range m).map (col M)).getD c [] = col M c := fun c hc => by simp [List.getD_eq_getElem?_getD, hc]
  refine rows_nodup (n := m) (m := n) (by simp) hn (fun c hc => by rw [e c hc]; simp [col, hl]) fun c a hc ha => ?_
  rw [h.2 a c hc ha, e c hc]
  by_cases hh : a < n
  · rw [if_pos (by omega), if_pos hh, col_getD _ _ (by omega)]
  · rw [if_neg (by omega), if_neg hh]
theorem shr_ne {x : Int} {k : Nat} (hx : 0 ≤ x) (hk : k ≤ 16) : (shrI .i64 x (k : Int) != 0) = !decide (x < 2 ^ k) := by
  unfold shrI
  rw [show min ((k : Int).toNat) (IntKind.bits .i64) = k by rw [Int.toNat_natCast]; show min k 64 = k; omega]
  have hp : (0 : Int) < 2 ^ k := Int.pow_pos (by omega)
  generalize (2 : Int) ^ k = P at *
  rw [Int.fdiv_eq_ediv_of_nonneg _ (by omega)]
  by_cases h : x < P
  · rw [Int.ediv_eq_zero_of_lt hx h]; simp [h]
  · have : 1 ≤ x / P := (Int.le_ediv_iff_mul_le hp).2 (by omega)
    have h2 : x / P ≠ 0 := by omega
    simp [h, h2]
end PG
end Go.Proofs.YtjmlfknogjaemaaDoor.Vc
/- The plain statements of some functions, printed by vcgen.py. -/
set_option maxRecDepth 100000
set_option maxHeartbeats 4000000
set_option linter.unusedVariables false
namespace Go.Proofs.YtjmlfknogjaemaaDoor
open Go Go.Proofs.YtjmlfknogjaemaaDoor.Vc
theorem W8.mixed : Tryd.prog.follows .mixedOrders = true := by kernel_rfl
/-- gatehouse/graph.Valid -/
def f24.AL : Nat → Option Ann := fun r => match r with | 11 => some ⟨[(95, .int .i64)], [1, 5, 7, 8, 93, 94]⟩ | 16 => some ⟨[(106, .int .i64)], [1, 5, 7, 8, 9, 93, 94, 95, 104, 105]⟩ | _ => none
def f24.AC : Nat → Option Ann := fun _ => none
def f24.VC (Aa0_0 : Option Addr) (na0_0 ca0_0 : Nat) (Aa0_1 : Option Addr) (na0_1 ca0_1 : Nat) (Aa0_2 : Option Addr) (na0_2 ca0_2 : Nat) (Aa0_3 : Option Addr) (na0_3 ca0_3 : Nat) (Aa0_4 : Option Addr) (na0_4 ca0_4 : Nat) (Aa0_5 : Option Addr) (na0_5 ca0_5 : Nat) (w : World) (R : Value → World → Prop) : Prop :=
  let b0 := World.alloc w (.cells #[.slice Aa0_0 na0_0 ca0_0, .slice Aa0_1 na0_1 ca0_1, .slice Aa0_2 na0_2 ca0_2, .slice Aa0_3 na0_3 ca0_3, .slice Aa0_4 na0_4 ca0_4, .slice Aa0_5 na0_5 ca0_5] 32);
  ∃ d0 g0 h0,
  b0.cell? ⟨w.heap.size, 0, none⟩ = some (.slice d0 g0 h0) ∧
  sel (decide ((16 : Int) < ((g0 : Int) : Int))) (
  R (.bool false) b0) (
  ∃ i0 j0 k0,
  b0.cell? ⟨w.heap.size, 1, none⟩ = some (.slice i0 j0 k0) ∧
  sel (decide ((64 : Int) < ((j0 : Int) : Int))) (
  R (.bool false) b0) (
  ∃ p0 q0 t0,
  b0.cell? ⟨w.heap.size, 2, none⟩ = some (.slice p0 q0 t0) ∧
  sel (decide ((64 : Int) < ((q0 : Int) : Int))) (
  R (.bool false) b0) (
  ∃ u0 v0 x0,
  b0.cell? ⟨w.heap.size, 0, none⟩ = some (.slice u0 v0 x0) ∧
  Calls Tryd.prog 49 #[.slice u0 v0 x0] b0 fun y0 z0 =>
  ∃ b1,
  y0 = .returned (.bool b1) ∧
  sel (!b1) (
  R (.bool false) z0) (
  ∃ d1 g1 h1,
  z0.cell? ⟨w.heap.size, 1, none⟩ = some (.slice d1 g1 h1) ∧
  Calls Tryd.prog 49 #[.slice d1 g1 h1] z0 fun i1 j1 =>
  ∃ k1,
  i1 = .returned (.bool k1) ∧
  sel (!k1) (
  R (.bool false) j1) (
  ∃ p1 q1 t1,
  j1.cell? ⟨w.heap.size, 2, none⟩ = some (.slice p1 q1 t1) ∧
  Calls Tryd.prog 49 #[.slice p1 q1 t1] j1 fun u1 v1 =>
  ∃ x1,
  u1 = .returned (.bool x1) ∧
  sel (!x1) (
  R (.bool false) v1) (
  ∃ y1 z1 b2,
  v1.cell? ⟨w.heap.size, 3, none⟩ = some (.slice y1 z1 b2) ∧
  ∃ d2 g2 h2,
  v1.cell? ⟨w.heap.size, 1, none⟩ = some (.slice d2 g2 h2) ∧
  sel (((z1 : Int) : Int) != ((g2 : Int) : Int)) (
  R (.bool false) v1) (
  ∃ i2 j2 k2,
  v1.cell? ⟨w.heap.size, 4, none⟩ = some (.slice i2 j2 k2) ∧
  ∃ p2 q2 t2,
  v1.cell? ⟨w.heap.size, 2, none⟩ = some (.slice p2 q2 t2) ∧
  sel (((j2 : Int) : Int) != ((q2 : Int) : Int)) (
  R (.bool false) v1) (
  ∃ u2 v2 x2,
  v1.cell? ⟨w.heap.size, 3, none⟩ = some (.slice u2 v2 x2) ∧
  Calls Tryd.prog 50 #[.slice u2 v2 x2] v1 fun y2 z2 =>
  ∃ b3 d3,
  y2 = .returned (.tuple #[.int .i64 b3, .bool d3]) ∧
  ∃ g3 h3 i3,
  z2.cell? ⟨w.heap.size, 4, none⟩ = some (.slice g3 h3 i3) ∧
  Calls Tryd.prog 50 #[.slice g3 h3 i3] z2 fun j3 k3 =>
  ∃ p3 q3,
  j3 = .returned (.tuple #[.int .i64 p3, .bool q3]) ∧
  sel (!d3) (
  R (.bool false) k3) (
  sel (!q3) (
  R (.bool false) k3) (
  ∃ t3 u3 v3,
  k3.cell? ⟨w.heap.size, 5, none⟩ = some (.slice t3 u3 v3) ∧
  sel (((u3 : Int) : Int) != (b3 : Int)) (
  R (.bool false) k3) (
  (∃ x3 y3 z3,
  ∃ b4, (Instr.makeSlice 87 (.int .i64 b3) (.int .i64 b3)).run Tryd.prog k3.drew = .ok (.slice x3 y3 z3) b4 ∧
  ∃ d4 g4 h4,
  ∃ i4, (Instr.makeSlice 87 (.int .i64 p3) (.int .i64 p3)).run Tryd.prog b4 = .ok (.slice d4 g4 h4) i4 ∧
  ∃ j4 k4 p4,
  i4.cell? ⟨w.heap.size, 5, none⟩ = some (.slice j4 k4 p4) ∧
  ∃ q4 : Int → World → Nat → Prop,
  (∃ n, q4 0 i4 n) ∧
  ∀ t4 : Env, ∀ u4 v4 x4, q4 u4 v4 x4 →
  sel (decide ((u4 : Int) < ((k4 : Int) : Int))) (
  (0 : Int) ≤ u4 ∧ u4 < (k4 : Int) ∧
  needPtr j4 fun y4 z4 =>
  ∃ b5 d5 g5,
  v4.cell? ⟨y4, z4 + u4.toNat * 1, none⟩ = some (.slice b5 d5 g5) ∧
  sel (((d5 : Int) : Int) != (p3 : Int)) (
  R (.bool false) v4) (
  ∃ h5 : Int → World → Nat → Prop,
  (∃ n, h5 0 v4 n) ∧
  ∀ i5 : Env, ∀ j5 k5 p5, h5 j5 k5 p5 →
  sel (decide ((j5 : Int) < ((d5 : Int) : Int))) (
  (0 : Int) ≤ j5 ∧ j5 < (d5 : Int) ∧
  needPtr b5 fun q5 t5 =>
  ∃ u5,
  k5.cell? ⟨q5, t5 + j5.toNat * 1, none⟩ = some (.int .u16 u5) ∧
  let v5 : Int := IntKind.i64.wrap u5;
  ∃ x5 y5 z5,
  k5.cell? ⟨w.heap.size, 0, none⟩ = some (.slice x5 y5 z5) ∧
  (0 : Int) ≤ (y5 : Int) ∧
  let b6 : Int := shrI .i64 v5 (y5 : Int);
  sel ((b6 : Int) != (0 : Int)) (
  R (.bool false) k5) (
  (0 : Int) ≤ u4 ∧ u4 < (y3 : Int) ∧
  needPtr x3 fun d6 g6 =>
  (0 : Int) ≤ j5 ∧ j5 < (64 : Int) ∧
  (0 : Int) ≤ j5 ∧ j5 < (g4 : Int) ∧
  needPtr d4 fun h6 i6 =>
  canStore k5 d6 (g6 + u4.toNat * 64 + j5.toNat * 1) 1 ∧
  let j6 := setCs k5.drew d6 (g6 + u4.toNat * 64 + j5.toNat * 1) [.int .u16 u5];
  (0 : Int) ≤ u4 ∧ u4 < (64 : Int) ∧
  canStore j6 h6 (i6 + j5.toNat * 64 + u4.toNat * 1) 1 ∧
  let k6 := setCs j6 h6 (i6 + j5.toNat * 64 + u4.toNat * 1) [.int .u16 u5];
  let p6 : Int := IntKind.i64.wrap (j5 + 1);
  ([.pointer (some ⟨w.heap.size, 0, none⟩), .int .i64 p3, .slice x3 y3 z3, .slice d4 g4 h4, .int .i64 u4, .slice j4 k4 p4, .int .i64 (k4 : Int), .int .i64 u4, .slice b5 d5 g5, .int .i64 (d5 : Int)] : List Value) = ([.pointer (some ⟨w.heap.size, 0, none⟩), .int .i64 p3, .slice x3 y3 z3, .slice d4 g4 h4, .int .i64 u4, .slice j4 k4 p4, .int .i64 (k4 : Int), .int .i64 u4, .slice b5 d5 g5, .int .i64 (d5 : Int)] : List Value) ∧ ∃ m, m < p5 ∧ h5 p6 k6 m)) (
  let q6 : Int := IntKind.i64.wrap (u4 + 1);
  ([.pointer (some ⟨w.heap.size, 0, none⟩), .int .i64 p3, .slice x3 y3 z3, .slice d4 g4 h4, .slice j4 k4 p4, .int .i64 (k4 : Int)] : List Value) = ([.pointer (some ⟨w.heap.size, 0, none⟩), .int .i64 p3, .slice x3 y3 z3, .slice d4 g4 h4, .slice j4 k4 p4, .int .i64 (k4 : Int)] : List Value) ∧ ∃ m, m < x4 ∧ q4 q6 k5 m))) (
  Calls Tryd.prog 51 #[.slice x3 y3 z3] v4 fun t6 u6 =>
  ∃ v6,
  t6 = .returned (.bool v6) ∧
  sel v6 (
  Calls Tryd.prog 51 #[.slice d4 g4 h4] u6 fun x6 y6 =>
  ∃ z6,
  x6 = .returned (.bool z6) ∧
  R (.bool z6) y6) (
  R (.bool false) u6))) ∧
  (∃ b7 d7 g7,
  ∃ h7, (Instr.makeSlice 87 (.int .i64 p3) (.int .i64 p3)).run Tryd.prog k3.drew = .ok (.slice b7 d7 g7) h7 ∧
  ∃ i7 j7 k7,
  ∃ p7, (Instr.makeSlice 87 (.int .i64 b3) (.int .i64 b3)).run Tryd.prog h7 = .ok (.slice i7 j7 k7) p7 ∧
  ∃ q7 t7 u7,
  p7.cell? ⟨w.heap.size, 5, none⟩ = some (.slice q7 t7 u7) ∧
  ∃ v7 : Int → World → Nat → Prop,
  (∃ n, v7 0 p7 n) ∧
  ∀ x7 : Env, ∀ y7 z7 b8, v7 y7 z7 b8 →
  sel (decide ((y7 : Int) < ((t7 : Int) : Int))) (
  (0 : Int) ≤ y7 ∧ y7 < (t7 : Int) ∧
  needPtr q7 fun d8 g8 =>
  ∃ h8 i8 j8,
  z7.cell? ⟨d8, g8 + y7.toNat * 1, none⟩ = some (.slice h8 i8 j8) ∧
  sel (((i8 : Int) : Int) != (p3 : Int)) (
  R (.bool false) z7) (
  ∃ k8 : Int → World → Nat → Prop,
  (∃ n, k8 0 z7 n) ∧
  ∀ p8 : Env, ∀ q8 t8 u8, k8 q8 t8 u8 →
  sel (decide ((q8 : Int) < ((i8 : Int) : Int))) (
  (0 : Int) ≤ q8 ∧ q8 < (i8 : Int) ∧
  needPtr h8 fun v8 x8 =>
  ∃ y8,
  t8.cell? ⟨v8, x8 + q8.toNat * 1, none⟩ = some (.int .u16 y8) ∧
  let z8 : Int := IntKind.i64.wrap y8;
  ∃ b9 d9 g9,
  t8.cell? ⟨w.heap.size, 0, none⟩ = some (.slice b9 d9 g9) ∧
  (0 : Int) ≤ (d9 : Int) ∧
  let h9 : Int := shrI .i64 z8 (d9 : Int);
  sel ((h9 : Int) != (0 : Int)) (
  R (.bool false) t8) (
  (0 : Int) ≤ y7 ∧ y7 < (j7 : Int) ∧
  needPtr i7 fun i9 j9 =>
  (0 : Int) ≤ q8 ∧ q8 < (64 : Int) ∧
  (0 : Int) ≤ q8 ∧ q8 < (d7 : Int) ∧
  needPtr b7 fun k9 p9 =>
  canStore t8 i9 (j9 + y7.toNat * 64 + q8.toNat * 1) 1 ∧
  let q9 := setCs t8.drew i9 (j9 + y7.toNat * 64 + q8.toNat * 1) [.int .u16 y8];
  (0 : Int) ≤ y7 ∧ y7 < (64 : Int) ∧
  canStore q9 k9 (p9 + q8.toNat * 64 + y7.toNat * 1) 1 ∧
  let t9 := setCs q9 k9 (p9 + q8.toNat * 64 + y7.toNat * 1) [.int .u16 y8];
  let u9 : Int := IntKind.i64.wrap (q8 + 1);
  ([.pointer (some ⟨w.heap.size, 0, none⟩), .int .i64 p3, .slice i7 j7 k7, .slice b7 d7 g7, .int .i64 y7, .slice q7 t7 u7, .int .i64 (t7 : Int), .int .i64 y7, .slice h8 i8 j8, .int .i64 (i8 : Int)] : List Value) = ([.pointer (some ⟨w.heap.size, 0, none⟩), .int .i64 p3, .slice i7 j7 k7, .slice b7 d7 g7, .int .i64 y7, .slice q7 t7 u7, .int .i64 (t7 : Int), .int .i64 y7, .slice h8 i8 j8, .int .i64 (i8 : Int)] : List Value) ∧ ∃ m, m < u8 ∧ k8 u9 t9 m)) (
  let v9 : Int := IntKind.i64.wrap (y7 + 1);
  ([.pointer (some ⟨w.heap.size, 0, none⟩), .int .i64 p3, .slice i7 j7 k7, .slice b7 d7 g7, .slice q7 t7 u7, .int .i64 (t7 : Int)] : List Value) = ([.pointer (some ⟨w.heap.size, 0, none⟩), .int .i64 p3, .slice i7 j7 k7, .slice b7 d7 g7, .slice q7 t7 u7, .int .i64 (t7 : Int)] : List Value) ∧ ∃ m, m < b8 ∧ v7 v9 t8 m))) (
  Calls Tryd.prog 51 #[.slice i7 j7 k7] z7 fun x9 y9 =>
  ∃ z9,
  x9 = .returned (.bool z9) ∧
  sel z9 (
  Calls Tryd.prog 51 #[.slice b7 d7 g7] y9 fun bA dA =>
  ∃ gA,
  bA = .returned (.bool gA) ∧
  R (.bool gA) dA) (
  R (.bool false) y9))) ∧ True)))))))))))
theorem f24.eq (Aa0_0 : Option Addr) (na0_0 ca0_0 : Nat) (Aa0_1 : Option Addr) (na0_1 ca0_1 : Nat) (Aa0_2 : Option Addr) (na0_2 ca0_2 : Nat) (Aa0_3 : Option Addr) (na0_3 ca0_3 : Nat) (Aa0_4 : Option Addr) (na0_4 ca0_4 : Nat) (Aa0_5 : Option Addr) (na0_5 ca0_5 : Nat) (w : World) (R : Value → World → Prop) : f24.VC Aa0_0 na0_0 ca0_0 Aa0_1 na0_1 ca0_1 Aa0_2 na0_2 ca0_2 Aa0_3 na0_3 ca0_3 Aa0_4 na0_4 ca0_4 Aa0_5 na0_5 ca0_5 w R = funV Tryd.prog Tryd.f24 f24.AL f24.AC #[.agg #[.slice Aa0_0 na0_0 ca0_0, .slice Aa0_1 na0_1 ca0_1, .slice Aa0_2 na0_2 ca0_2, .slice Aa0_3 na0_3 ca0_3, .slice Aa0_4 na0_4 ca0_4, .slice Aa0_5 na0_5 ca0_5]] w R := by kernel_rfl
theorem f24.calls {Aa0_0 : Option Addr} {na0_0 ca0_0 : Nat} {Aa0_1 : Option Addr} {na0_1 ca0_1 : Nat} {Aa0_2 : Option Addr} {na0_2 ca0_2 : Nat} {Aa0_3 : Option Addr} {na0_3 ca0_3 : Nat} {Aa0_4 : Option Addr} {na0_4 ca0_4 : Nat} {Aa0_5 : Option Addr} {na0_5 ca0_5 : Nat} {w : World} {R : Value → World → Prop} (h : f24.VC Aa0_0 na0_0 ca0_0 Aa0_1 na0_1 ca0_1 Aa0_2 na0_2 ca0_2 Aa0_3 na0_3 ca0_3 Aa0_4 na0_4 ca0_4 Aa0_5 na0_5 ca0_5 w R) : Calls Tryd.prog 24 #[.agg #[.slice Aa0_0 na0_0 ca0_0, .slice Aa0_1 na0_1 ca0_1, .slice Aa0_2 na0_2 ca0_2, .slice Aa0_3 na0_3 ca0_3, .slice Aa0_4 na0_4 ca0_4, .slice Aa0_5 na0_5 ca0_5]] w fun e w' => ∃ v, e = .returned v ∧ R v w' :=
  funV_sound (fn := Tryd.f24) (AL := f24.AL) (AC := f24.AC) W8.mixed (by kernel_rfl) (by rw [← f24.eq Aa0_0 na0_0 ca0_0 Aa0_1 na0_1 ca0_1 Aa0_2 na0_2 ca0_2 Aa0_3 na0_3 ca0_3 Aa0_4 na0_4 ca0_4 Aa0_5 na0_5 ca0_5]; exact h)

end Go.Proofs.YtjmlfknogjaemaaDoor
