/- Page: what a laid page reads back to: the plain law. -/
import Derived.Test.YtjmlfknogjaemaaDoorM27
import Derived.Test.YtjmlfknogjaemaaDoorM30
import Derived.Test.YtjmlfknogjaemaaDoorM5
import Derived.Test.YtjmlfknogjaemaaDoorProg
import Derived.Test.YtjmlfknogjaemaaDoorM25
import Derived.KernelRfl
import Derived.Test.YtjmlfknogjaemaaDoorM7
import Derived.Test.YtjmlfknogjaemaaDoorM26
set_option linter.unusedVariables false
set_option linter.unusedSectionVars false
set_option linter.unusedSimpArgs false
set_option maxRecDepth 10000
namespace Go.Proofs.YtjmlfknogjaemaaDoor
open Go Go.Proofs.YtjmlfknogjaemaaDoor.Vc
namespace PG
open Vc.PG NI
theorem fm_congr {α β : Type} {f g : α → Option β} : ∀ {l : List α}, (∀ x ∈ l, f x = g x) → l.filterMap f = l.filterMap g
  | [], _ => rfl
  | x :: l, h => by
    rw [List.filterMap_cons, List.filterMap_cons, h x List.mem_cons_self, fm_congr fun y hy => h y (List.mem_cons_of_mem _ hy)]
theorem thing_num {L : List ByteArray} {s : ByteArray} (h : s ∈ L) : thing L (IX.num L s : Int) = (s, true) := by
  obtain ⟨g1, g2, g3⟩ := num_get h
  unfold thing
  rw [if_neg (by omega), show ((IX.num L s : Int) - 1).toNat = IX.num L s - 1 by omega, g3]
theorem great_sur : ∀ (l : List Int) (n m : Nat), great l n = some m → ∀ k : Nat, n < k → k ≤ m → (k : Int) ∈ l
  | [], n, m, h, k, h1, h2 => by simp [great] at h; omega
  | x :: l, n, m, h, k, h1, h2 => by
    rw [great] at h
    split at h
    · cases h
    · rename_i hx
      rcases Nat.lt_or_ge (max n x.toNat) k with h3 | h3
      · exact List.mem_cons_of_mem _ (great_sur l _ m h k h3 h2)
      · have : x = (k : Int) := by omega
        rw [this]; exact List.mem_cons_self
/-- The seats of a list of names. -/
def seatL (L l : List ByteArray) (n : List Int) : List Se := (l.zip n).map fun p => ((IX.num L p.1 : Int), p.2)
theorem seatL_len {L l : List ByteArray} {n : List Int} (h : l.length = n.length) : (seatL L l n).length = l.length := by
  unfold seatL; rw [List.length_map, List.length_zip]; omega
theorem seatL_snd {L l : List ByteArray} {n : List Int} (h : l.length = n.length) : (seatL L l n).map (·.2) = n := by
  unfold seatL
  rw [List.map_map]
  have e : ((fun x : Se => x.2) ∘ fun p : ByteArray × Int => ((IX.num L p.1 : Int), p.2)) = Prod.snd := rfl
  rw [e, List.map_snd_zip]
  omega
theorem seatL_mem {L l : List ByteArray} {n : List Int} (h : l.length = n.length) {p : Se} : p ∈ seatL L l n ↔ ∃ i, i < l.length ∧ p = ((IX.num L (l.getD i ByteArray.empty) : Int), n.getD i 0) := by
  unfold seatL
  constructor
  · intro hp
    obtain ⟨q, hq, rfl⟩ := List.mem_map.1 hp
    obtain ⟨i, hi, rfl⟩ := List.mem_iff_getElem.1 hq
    rw [List.length_zip] at hi
    refine ⟨i, by omega, ?_⟩
    simp [List.getD_eq_getElem?_getD, show i < l.length by omega, show i < n.length by omega]
  · rintro ⟨i, hi, rfl⟩
    refine List.mem_map.2 ⟨(l.getD i ByteArray.empty, n.getD i 0), ?_, rfl⟩
    refine List.mem_iff_getElem.2 ⟨i, by rw [List.length_zip]; omega, ?_⟩
    simp [List.getD_eq_getElem?_getD, hi, show i < n.length by omega]
def pickS (k : Int) (p : Pz) : Option Se := if 0 < p.1 ∧ p.1 % 4 = k then some (p.1 / 4, p.2) else none
theorem pick_ent {L l : List ByteArray} {n : List Int} (j k : Int) (hj : 1 ≤ j ∧ j ≤ 3) : (entP L (ensOf l j n)).filterMap (pickS k) = if j = k then seatL L l n else [] := by
  unfold entP ensOf
  rw [List.map_map, List.filterMap_map]
  have e : ∀ p : ByteArray × Int, (pickS k ∘ ((fun e : En => (keyE L e, e.2.2)) ∘ fun p : ByteArray × Int => (p.1, j, p.2))) p = if j = k then some ((IX.num L p.1 : Int), p.2) else none := by
    intro p
    show pickS k ((IX.num L p.1 : Int) * 4 + j, p.2) = _
    unfold pickS
    dsimp only
    by_cases h : j = k
    · rw [if_pos (by omega), if_pos h, show ((IX.num L p.1 : Int) * 4 + j) / 4 = (IX.num L p.1 : Int) by omega]
    · rw [if_neg (by omega), if_neg h]
  rw [fm_congr (fun p _ => e p)]
  by_cases h : j = k
  · simp only [if_pos h]
    unfold seatL
    rw [List.filterMap_eq_map']
  · simp only [if_neg h]
    exact List.filterMap_eq_nil_iff.2 fun _ _ => rfl
theorem cnt_perm {a : List Se} {b : List Int} (h : (a.map (·.2)).Perm b) (k : Int) : cnt a k = (b.filter fun x => decide (x = k)).length := by
  rw [cnt_map]
  exact (h.filter _).length_eq
theorem insP_eq_perm {a b : List Se} : ∀ (n : Nat), a.length = n → a.Perm b → a.Pairwise (fun x y => x.1 ≤ y.1) → b.Pairwise (fun x y => x.1 < y.1) → a = b := by
  intro n
  induction n generalizing a b with
  | zero =>
    intro h hp _ _
    have : a = [] := List.eq_nil_of_length_eq_zero h
    subst this
    exact (List.nil_perm.1 hp).symm
  | succ n ih =>
    intro h hp ha hb
    match a, h with
    | x :: a, h =>
      have hl := hp.length_eq
      match b, hl with
      | y :: b, hl =>
        have hxy : x = y := by
          have hx : x ∈ y :: b := hp.mem_iff.1 List.mem_cons_self
          have hy : y ∈ x :: a := hp.mem_iff.2 List.mem_cons_self
          rcases List.mem_cons.1 hx with h1 | h1
          · exact h1
          · rcases List.mem_cons.1 hy with h2 | h2
            · exact h2.symm
            · have h3 := (List.pairwise_cons.1 ha).1 y h2
              have h4 := (List.pairwise_cons.1 hb).1 x h1
              omega
        subst hxy
        rw [ih (by simpa using h) ((List.perm_cons x).1 hp) (List.pairwise_cons.1 ha).2 (List.pairwise_cons.1 hb).2]
section
variable {W : List Int} {L : List ByteArray} {v : Int} {g : Gd} {Z : List Pz} (h : LaidW W L v g Z) (hv : validP g = true) (hL : L.length ≤ 1048576)
include h hv
theorem LaidW.seated (hL : L.length ≤ 1048576) : seatedB W (tOf g) L = true := by
  obtain ⟨f1, f2, f3, f4, f5⟩ := h.full hv
  have hzl := h.zl
  unfold seatedB
  rw [List.all_eq_true]
  intro i hi
  rw [List.mem_range] at hi
  have hr := h.reads i (by omega)
  unfold okAt keyAt numAt
  rw [hr.1, hr.2]
  by_cases h0 : (Z.getD i pz0).1 = 0
  · have hz := h.tab.zero i (by omega) h0
    rw [hz]; rfl
  · have hm := h.tab.mem i (by omega) h0
    obtain ⟨j, j1, j2, j3, j4⟩ := h.tab.look h.reads hm
    have hpos : 0 < Z.length := by omega
    have hi2 := h.tab.one ((kfirst (Z.getD i pz0).1 Z.length + j) % Z.length) i (Nat.mod_lt _ hpos) (by omega) (by rw [j3]; exact h0) (by rw [j3])
    have key : ∃ (k : Int) (s : ByteArray), s ∈ L ∧ 1 ≤ k ∧ k ≤ 3 ∧ (Z.getD i pz0).1 = (IX.num L s : Int) * 4 + k := by
      have cases3 : ∀ {k : Int} {l : List ByteArray} {n : List Int} (hk : (k = 3 ∧ l = gA g ∧ n = upTo (gA g).length) ∨ (k = 1 ∧ l = gS g ∧ n = gF g) ∨ (k = 2 ∧ l = gO g ∧ n = gN g)), Z.getD i pz0 ∈ entP L (ensOf l k n) → ∃ (k : Int) (s : ByteArray), s ∈ L ∧ 1 ≤ k ∧ k ≤ 3 ∧ (Z.getD i pz0).1 = (IX.num L s : Int) * 4 + k := by
        intro k l n hk hp
        obtain ⟨e1, e2, e3, e4, e5, e6, e7⟩ := h.ent hv hk
        obtain ⟨q, hq, he⟩ := (ent_mem e1).1 hp
        exact ⟨k, _, e2 _ ((mem_getD ByteArray.empty _ _).2 ⟨q, hq, rfl⟩), e5, e6, by rw [he]⟩
      have hm' := hm
      unfold ens at hm'
      rw [ent_app, ent_app] at hm'
      rcases List.mem_append.1 hm' with hm' | hm'
      · rcases List.mem_append.1 hm' with hm' | hm'
        · exact cases3 (.inl ⟨rfl, rfl, rfl⟩) hm'
        · exact cases3 (.inr (.inl ⟨rfl, rfl, rfl⟩)) hm'
      · exact cases3 (.inr (.inr ⟨rfl, rfl, rfl⟩)) hm'
    obtain ⟨k, s, hs, hk1, hk3, hkey⟩ := key
    have hlook : lookP W ((Z.getD i pz0).1 / 4) ((Z.getD i pz0).1 % 4) = ((Z.getD i pz0).2, j + 1) := by
      have ht : (Vc.PG.tabP W).toNat = Z.length := by rw [h.tabP hv, h.zl]; rfl
      have hkn : keyN ((Z.getD i pz0).1 / 4) ((Z.getD i pz0).1 % 4) = (Z.getD i pz0).1 := by
        have := num_le L s
        rw [hkey, show ((IX.num L s : Int) * 4 + k) / 4 = (IX.num L s : Int) by omega, show ((IX.num L s : Int) * 4 + k) % 4 = k by omega]
        exact keyN_id (by omega) k (by omega)
      unfold lookP
      rw [if_neg (by rw [h.tabP hv]; omega), ht, hkn]
      exact j4
    rw [hlook]
    have hthing : (thingX L ((Z.getD i pz0).1 / 4)).2 = true := by
      rw [hkey, show ((IX.num L s : Int) * 4 + k) / 4 = (IX.num L s : Int) by omega]
      show (thing L (IX.num L s : Int)).2 = true
      rw [thing_num hs]
    have hlast : (pgHash (Z.getD i pz0).1 (tOf g : Int) + ((j + 1 : Nat) : Int) - 1) % (tOf g : Int) = (i : Int) := by
      have hi3 : (i : Int) = (((kfirst (Z.getD i pz0).1 Z.length + j) % Z.length : Nat) : Int) := by rw [hi2]
      rw [← hzl, ← kfirst_eq, hi3]
      generalize kfirst (Z.getD i pz0).1 Z.length = f
      rw [show (f : Int) + ((j + 1 : Nat) : Int) - 1 = ((f + j : Nat) : Int) by omega, ← Int.natCast_emod]
    rw [Bool.or_eq_true]
    right
    rw [Bool.and_eq_true, Bool.and_eq_true, Bool.and_eq_true]
    exact ⟨⟨⟨decide_eq_true (by omega), decide_eq_true (by omega)⟩, hthing⟩, decide_eq_true hlast⟩
theorem LaidW.filled : (Z.filter fun p => decide (p.1 ≠ 0)).Perm (entP L (ens g)) := by
  refine perm_of_sub ?_ (fun x hx => ?_) ?_
  · rw [List.Nodup, List.pairwise_filter, List.pairwise_iff_getElem]
    intro i j hi hj hij hp hq he
    have e1 : Z.getD i pz0 = Z[i] := by simp [List.getD_eq_getElem?_getD, hi]
    have e2 : Z.getD j pz0 = Z[j] := by simp [List.getD_eq_getElem?_getD, hj]
    have := h.tab.one i j hi hj (by rw [e1]; exact of_decide_eq_true hp) (by rw [e1, e2, he])
    omega
  · obtain ⟨h1, h2⟩ := List.mem_filter.1 hx
    obtain ⟨i, hi, rfl⟩ := (mem_getD pz0 _ _).1 h1
    exact h.tab.mem i hi (of_decide_eq_true h2)
  · rw [← List.countP_eq_length_filter]
    exact h.tab.full
theorem LaidW.raw {k : Int} {l : List ByteArray} {n : List Int} (hk : (k = 3 ∧ l = gA g ∧ n = upTo (gA g).length) ∨ (k = 1 ∧ l = gS g ∧ n = gF g) ∨ (k = 2 ∧ l = gO g ∧ n = gN g)) : (rawS W k (tOf g)).Perm (seatL L l n) := by
  have hzl := h.zl
  have e1 : rawS W k (tOf g) = Z.filterMap (pickS k) := by
    have hm : Z = (List.range Z.length).map fun i => Z.getD i pz0 := by
      apply List.ext_getElem (by simp)
      intro i h1 h2
      simp [List.getD_eq_getElem?_getD, h1]
    conv => rhs; rw [hm]
    rw [List.filterMap_map]
    unfold rawS
    rw [← hzl]
    refine fm_congr fun i hi => ?_
    rw [List.mem_range] at hi
    have hr := h.reads i hi
    unfold keyAt numAt
    rw [hr.1, hr.2]
    rfl
  have e2 : Z.filterMap (pickS k) = (Z.filter fun p => decide (p.1 ≠ 0)).filterMap (pickS k) := by
    rw [List.filterMap_filter]
    refine fm_congr fun p _ => ?_
    by_cases h0 : p.1 = 0
    · simp [pickS, h0]
    · simp [h0]
  have e3 : (entP L (ens g)).filterMap (pickS k) = seatL L l n := by
    unfold ens
    rw [ent_app, ent_app, List.filterMap_append, List.filterMap_append, pick_ent 3 k (by decide), pick_ent 1 k (by decide), pick_ent 2 k (by decide)]
    rcases hk with ⟨rfl, rfl, rfl⟩ | ⟨rfl, rfl, rfl⟩ | ⟨rfl, rfl, rfl⟩
    · simp
    · simp
    · simp
  rw [e1, e2, ← e3]
  exact (h.filled hv).filterMap _
theorem LaidW.seats {k : Int} {l : List ByteArray} {n : List Int} (hk : (k = 3 ∧ l = gA g ∧ n = upTo (gA g).length) ∨ (k = 1 ∧ l = gS g ∧ n = gF g) ∨ (k = 2 ∧ l = gO g ∧ n = gN g)) : (seatsP W k (tOf g)).Perm (seatL L l n) ∧ (seatsP W k (tOf g)).length = l.length := by
  have h1 : (seatsP W k (tOf g)).Perm (seatL L l n) := (srt_perm (rawS W k (tOf g))).trans (h.raw hv hk)
  exact ⟨h1, by rw [h1.length_eq, seatL_len (h.ent hv hk).1]⟩
theorem LaidW.spans {k : Int} {l : List ByteArray} {n : List Int} (hk : (k = 1 ∧ l = gS g ∧ n = gF g) ∨ (k = 2 ∧ l = gO g ∧ n = gN g)) : SpansP (seatsP W k (tOf g)) (topOf n) false := by
  have hk' : (k = 3 ∧ l = gA g ∧ n = upTo (gA g).length) ∨ (k = 1 ∧ l = gS g ∧ n = gF g) ∨ (k = 2 ∧ l = gO g ∧ n = gN g) := .inr hk
  obtain ⟨s1, s2⟩ := h.seats hv hk'
  have hn : great n 0 = some (topOf n) := by
    obtain ⟨_, _, q1, q2, _⟩ := valid_parts hv
    rcases hk with ⟨_, _, rfl⟩ | ⟨_, _, rfl⟩
    · exact q1
    · exact q2
  have e := seatL_snd (L := L) (h.ent hv hk').1
  have hp : ((seatsP W k (tOf g)).map (·.2)).Perm n := by
    have := s1.map (·.2)
    rw [e] at this
    exact this
  refine ⟨fun q hq => ⟨?_, fun hf => by cases hf⟩, fun i hi => ?_⟩
  · refine cnt_pos.2 ?_
    have hm := great_sur n 0 _ hn (q + 1) (by omega) (by omega)
    obtain ⟨p, hp1, hp2⟩ := List.mem_map.1 (hp.mem_iff.2 hm)
    exact ⟨p, hp1, hp2⟩
  · have hm : ((seatsP W k (tOf g)).getD i se0).2 ∈ n := hp.mem_iff.1 (List.mem_map.2 ⟨_, (mem_getD se0 _ _).2 ⟨i, hi, rfl⟩, rfl⟩)
    exact (great_ge n 0 _ hn).2 _ hm
theorem LaidW.maskP {x y : Nat} (hx : x < topOf (gF g)) (hy : y < topOf (gN g)) : Vc.PG.maskP W (tOf g) (W.getD 3 0) ((x + 1 : Nat) : Int) ((y + 1 : Nat) : Int) = ((gM g).getD x []).getD y 0 := by
  have hm := h.mask x hx y hy
  have h3 := h.h3
  unfold Vc.PG.maskP
  rw [h3]
  rw [show (4 + 2 * (tOf g : Int) + (((x + 1 : Nat) : Int) - 1) * (topOf (gN g) : Int) + (((y + 1 : Nat) : Int) - 1)).toNat = 4 + 2 * tOf g + x * topOf (gN g) + y by
    rw [show ((x + 1 : Nat) : Int) - 1 = (x : Int) by omega, show ((y + 1 : Nat) : Int) - 1 = (y : Int) by omega, show (x : Int) * (topOf (gN g) : Int) = ((x * topOf (gN g) : Nat) : Int) by rw [Int.natCast_mul]]
    generalize x * topOf (gN g) = p
    omega]
  exact hm
/-- The page is one that the document calls laid. -/
theorem LaidW.laid (hu : ∀ r ∈ gM g, ∀ x ∈ r, 0 ≤ x ∧ x < 65536) : LaidT W (tOf g) := by
  obtain ⟨⟨p1, p2, p3, p4, p5⟩, ⟨n1, n2, n3⟩, q1, q2, q3, q4, q5, q6, q7⟩ := valid_parts hv
  obtain ⟨sA1, sA2⟩ := h.seats hv (k := 3) (.inl ⟨rfl, rfl, rfl⟩)
  obtain ⟨sS1, sS2⟩ := h.seats hv (k := 1) (.inr (.inl ⟨rfl, rfl, rfl⟩))
  obtain ⟨sO1, sO2⟩ := h.seats hv (k := 2) (.inr (.inr ⟨rfl, rfl, rfl⟩))
  have hnl := names_len g
  have hsh := (shaped_iff _ _ _ _).1 q5
  unfold LaidT
  rw [sA2, sS2, sO2, h.h2, h.h3, Int.toNat_natCast, Int.toNat_natCast]
  refine ⟨by unfold tOf; rw [hnl], p1, p2, p3, ?_, h.spans hv (.inl ⟨rfl, rfl, rfl⟩), h.spans hv (.inr ⟨rfl, rfl, rfl⟩), ?_⟩
  · have hp : ((seatsP W 3 (tOf g)).map (·.2)).Perm (oneTo (gA g).length) := by
      have := sA1.map (·.2)
      rw [seatL_snd (by rw [upTo_len])] at this
      exact this
    refine ⟨fun k hk => ⟨?_, fun _ => ?_⟩, fun i hi => ?_⟩
    · obtain ⟨p, hp1, hp2⟩ := List.mem_map.1 (hp.mem_iff.2 (oneTo_mem (x := ((k + 1 : Nat) : Int)).2 (by omega)))
      exact cnt_pos.2 ⟨p, hp1, hp2⟩
    · rw [cnt_perm hp]
      exact nodup_once (oneTo_nodup _) _
    · exact oneTo_mem.1 (hp.mem_iff.1 (List.mem_map.2 ⟨_, (mem_getD se0 _ _).2 ⟨i, hi, rfl⟩, rfl⟩))
  · have hmk : ∀ x, x < topOf (gF g) → ∀ y, y < topOf (gN g) → mskN W (tOf g) x y = ((gM g).getD x []).getD y 0 := fun x hx y hy => h.maskP hv hx hy
    refine ⟨fun x hx y hy => ?_, fun x hx k hk he => ?_, fun y hy k hk he => ?_⟩
    · rw [hmk x hx y hy]
      refine ⟨?_, (hsh.2 x hx).2 y hy⟩
      have hr : (gM g).getD x [] ∈ gM g := (mem_getD _ _ _).2 ⟨x, by omega, rfl⟩
      have hl := (hsh.2 x hx).1
      exact (hu _ hr _ ((mem_getD 0 _ _).2 ⟨y, by omega, rfl⟩)).1
    · refine (nodup_getD [] (gM g)).1 q6 k x hk (by omega) ?_
      refine (ext_getD 0 _ _).2 ⟨by rw [(hsh.2 k (by omega)).1, (hsh.2 x hx).1], fun y hy => ?_⟩
      rw [(hsh.2 k (by omega)).1] at hy
      have := he y hy
      rw [hmk x hx y hy, hmk k (by omega) y hy] at this
      exact this.symm
    · have hd := (nodup_getD [] ((List.range (topOf (gN g))).map (col (gM g)))).1 q7 k y hk (by simpa using hy)
      refine hd ?_
      have ec : ∀ q, q < topOf (gN g) → ((List.range (topOf (gN g))).map (col (gM g))).getD q [] = col (gM g) q := fun q hq => by
        simp [List.getD_eq_getElem?_getD, hq]
      rw [ec k (by omega), ec y hy]
      unfold col
      refine List.map_inj_left.2 fun r hr => ?_
      obtain ⟨x, hx, rfl⟩ := (mem_getD [] _ _).1 hr
      have := he x (by omega)
      rw [hmk x (by omega) y hy, hmk x (by omega) k (by omega)] at this
      exact this.symm
/-- The page is read: the version, and a valid graph. -/
theorem LaidW.read (hL : L.length ≤ 1048576) (hN : L.Nodup) (hu : ∀ r ∈ gM g, ∀ x ∈ r, 0 ≤ x ∧ x < 65536) (hver : 1 ≤ v ∧ v ≤ 2147483647) : readP W L = (v, graphP W (tOf g) L, 0) ∧ validP (graphP W (tOf g) L) = true ∧ goodB W (tOf g) L = true := by
  obtain ⟨⟨p1, p2, p3, p4, p5⟩, ⟨n1, n2, n3⟩, q1, q2, q3, q4, q5, q6, q7⟩ := valid_parts hv
  have ht := h.tabP hv
  have hs := h.seated hv hL
  have hT := h.laid hv hu
  have f := h.full hv
  have hshape : shapeB W (tOf g) = true := by
    unfold shapeB
    rw [Bool.and_eq_true, decide_eq_true_iff, decide_eq_true_iff, h.h0, h.h2, h.h3, h.len]
    refine ⟨by omega, ?_⟩
    rw [show (topOf (gF g) : Int) * (topOf (gN g) : Int) = ((topOf (gF g) * topOf (gN g) : Nat) : Int) by rw [Int.natCast_mul]]
    generalize topOf (gF g) * topOf (gN g) = p
    omega
  have hb : 0 ≤ W.getD 2 0 ∧ 0 ≤ W.getD 3 0 := by rw [h.h2, h.h3]; omega
  have hg := (good_laid hN hb hs).2 hT
  have := (laid_read hN).1 (tOf g) ht (by omega) hshape hs hT
  rw [h.h0] at this
  refine ⟨this, ?_, hg⟩
  have hp := (good_parts.1 hg)
  exact hp.2.2.2.2.2.2
end
end PG
end Go.Proofs.YtjmlfknogjaemaaDoor
/- Page: the graph that is read back says what the graph says; with names of its own it is the graph (plain law). -/
set_option linter.unusedVariables false
set_option linter.unusedSimpArgs false
set_option linter.unusedSectionVars false
set_option maxRecDepth 10000
namespace Go.Proofs.YtjmlfknogjaemaaDoor
open Go Go.Proofs.YtjmlfknogjaemaaDoor.Vc
namespace PG
open Vc.PG NI
section
variable {W : List Int} {L : List ByteArray} {v : Int} {g : Gd} {Z : List Pz} (h : LaidW W L v g Z) (hv : validP g = true)
include h hv
theorem LaidW.acts (hL : L.length ≤ 1048576) : gA (graphP W (tOf g) L) = gA g := by
  obtain ⟨s1, s2⟩ := h.seats hv (k := 3) (.inl ⟨rfl, rfl, rfl⟩)
  obtain ⟨e1, e2, _⟩ := h.ent hv (k := 3) (.inl ⟨rfl, rfl, rfl⟩)
  show listedP L (seatsP W 3 (tOf g)) = gA g
  unfold listedP
  rw [s2]
  refine (ext_getD ByteArray.empty _ _).2 ⟨by simp, fun i hi => ?_⟩
  rw [List.length_map, List.length_range] at hi
  have e : ((List.range (gA g).length).map fun i => (thingX L ((seatOf (seatsP W 3 (tOf g)) ((i + 1 : Nat) : Int)).getD se0).1).1).getD i ByteArray.empty = (thingX L ((seatOf (seatsP W 3 (tOf g)) ((i + 1 : Nat) : Int)).getD se0).1).1 := by
    simp [List.getD_eq_getElem?_getD, hi]
  rw [e]
  have hm : ((IX.num L ((gA g).getD i ByteArray.empty) : Int), (upTo (gA g).length).getD i 0) ∈ seatsP W 3 (tOf g) := s1.mem_iff.2 ((seatL_mem e1).2 ⟨i, hi, rfl⟩)
  rw [upTo_get hi] at hm
  obtain ⟨p, hp⟩ := Option.isSome_iff_exists.1 (seatOf_isSome.2 ⟨_, hm, rfl⟩)
  rw [hp]
  obtain ⟨h1, h2⟩ := seatOf_some hp
  obtain ⟨j, hj, rfl⟩ := (seatL_mem e1).1 (s1.mem_iff.1 h1)
  dsimp only at h2
  rw [upTo_get hj] at h2
  have : j = i := by omega
  subst this
  show (thing L (IX.num L ((gA g).getD j ByteArray.empty) : Int)).1 = _
  rw [thing_num (e2 _ ((mem_getD _ _ _).2 ⟨j, hi, rfl⟩))]
end
theorem oneTo_get {n i : Nat} (h : i < n) : (oneTo n).getD i 0 = ((i + 1 : Nat) : Int) := upTo_get h
theorem oneTo_succ (n : Nat) : oneTo (n + 1) = oneTo n ++ [((n + 1 : Nat) : Int)] := by
  unfold oneTo
  rw [List.range_succ, List.map_append]; rfl
theorem namedGo_id (L : List ByteArray) : ∀ (ps : List (ByteArray × Int)) (t : List ByteArray × List Int × List Int) (m0 m : Nat), t.2.2 = oneTo m0 → great (ps.map (·.2)) m0 = some m → (∀ p ∈ ps, p.1 ∈ L) →
    (ps.map fun p => ((IX.num L p.1 : Int), p.2)).foldl (namedStep L) t = (t.1 ++ ps.map (·.1), t.2.1 ++ ps.map (·.2), oneTo m)
  | [], t, m0, m, h1, h2, _ => by
    simp [great] at h2
    subst h2
    obtain ⟨a, b, c⟩ := t
    dsimp only at h1
    simp [h1]
  | p :: ps, t, m0, m, h1, h2, h3 => by
    rw [List.map_cons, great] at h2
    split at h2
    · cases h2
    rename_i hx
    rw [List.map_cons, List.foldl_cons]
    have ht : (thingX L (IX.num L p.1 : Int)).1 = p.1 := by
      show (thing L (IX.num L p.1 : Int)).1 = p.1
      rw [thing_num (h3 p List.mem_cons_self)]
    have hstep : namedStep L t ((IX.num L p.1 : Int), p.2) = (t.1 ++ [p.1], t.2.1 ++ [p.2], oneTo (max m0 p.2.toNat)) := by
      unfold namedStep
      dsimp only
      rw [h1, ht]
      rcases Int.lt_or_le (m0 : Int) p.2 with h4 | h4
      · have hi : idxI (oneTo m0) p.2 = -1 := idxI_none 0 fun q hq => by
          rw [oneTo_len] at hq
          rw [oneTo_get hq]; omega
        have hm : max m0 p.2.toNat = m0 + 1 := by omega
        rw [hi, if_pos (by decide), hm, oneTo_succ, oneTo_len]
        rw [show ((m0 + 1 : Nat) : Int) = p.2 by omega]
      · have hi : idxI (oneTo m0) p.2 = ((p.2 - 1).toNat : Int) := idxI_some 0 (by rw [oneTo_len]; omega) (fun q hq => by
          rw [oneTo_get (by omega)]; omega) (by rw [oneTo_get (by omega)]; omega)
        have hm : max m0 p.2.toNat = m0 := by omega
        rw [hi, if_neg (by omega), hm]
        rw [show ((p.2 - 1).toNat : Int) + 1 = p.2 by omega]
    rw [hstep, namedGo_id L ps _ (max m0 p.2.toNat) m rfl h2 fun q hq => h3 q (List.mem_cons_of_mem _ hq)]
    simp [List.append_assoc]
theorem namedP_id {L l : List ByteArray} {n : List Int} {m : Nat} (hl : l.length = n.length) (hg : great n 0 = some m) (hin : ∀ s ∈ l, s ∈ L) : namedP L (seatL L l n) = (l, n, oneTo m) := by
  have e1 : (l.zip n).map (·.1) = l := List.map_fst_zip (by omega)
  have e2 : (l.zip n).map (·.2) = n := List.map_snd_zip (by omega)
  have := namedGo_id L (l.zip n) ([], [], []) 0 m rfl (by rw [e2]; exact hg) (fun p hp => hin _ (List.of_mem_zip hp).1)
  rw [e1, e2] at this
  exact this
theorem seatL_rise {L l : List ByteArray} {n : List Int} (hl : l.length = n.length) (c : Nat) (hc : ∀ i, i < l.length → IX.num L (l.getD i ByteArray.empty) = c + i + 1) : (seatL L l n).Pairwise (fun x y => x.1 < y.1) := by
  unfold seatL
  rw [List.pairwise_map, List.pairwise_iff_getElem]
  intro i j hi hj hij
  rw [List.length_zip] at hi hj
  have h1 := hc i (by omega)
  have h2 := hc j (by omega)
  simp only [List.getElem_zip]
  have e1 : l.getD i ByteArray.empty = l[i]'(by omega) := by simp [List.getD_eq_getElem?_getD, show i < l.length by omega]
  have e2 : l.getD j ByteArray.empty = l[j]'(by omega) := by simp [List.getD_eq_getElem?_getD, show j < l.length by omega]
  rw [e1] at h1
  rw [e2] at h2
  rw [h1, h2]
  omega
theorem LaidW.own {W : List Int} {v : Int} {g : Gd} {Z : List Pz} (h : LaidW W (names g) v g Z) (hv : validP g = true) (hN : (names g).Nodup) : graphP W (tOf g) (names g) = g := by
  obtain ⟨⟨p1, p2, p3, p4, p5⟩, _, q1, q2, q3, q4, q5, q6, q7⟩ := valid_parts hv
  have hnl := names_len g
  have hat : ∀ (i : Nat) (s : ByteArray), i < (names g).length → (names g).getD i ByteArray.empty = s → IX.num (names g) s = i + 1 := fun i s hi hs => by rw [← hs]; exact num_at hN hi
  have nS : ∀ i, i < (gS g).length → (names g).getD ((gA g).length + i) ByteArray.empty = (gS g).getD i ByteArray.empty := fun i hi => by
    unfold names
    rw [List.getD_eq_getElem?_getD, List.getElem?_append_left (by rw [List.length_append]; omega), List.getElem?_append_right (by omega), show (gA g).length + i - (gA g).length = i by omega, List.getD_eq_getElem?_getD]
  have nO : ∀ i, i < (gO g).length → (names g).getD ((gA g).length + (gS g).length + i) ByteArray.empty = (gO g).getD i ByteArray.empty := fun i hi => by
    unfold names
    rw [List.getD_eq_getElem?_getD, List.getElem?_append_right (by rw [List.length_append]; omega), List.length_append, show (gA g).length + (gS g).length + i - ((gA g).length + (gS g).length) = i by omega, List.getD_eq_getElem?_getD]
  have sS : seatsP W 1 (tOf g) = seatL (names g) (gS g) (gF g) := by
    obtain ⟨s1, s2⟩ := h.seats hv (k := 1) (.inr (.inl ⟨rfl, rfl, rfl⟩))
    exact insP_eq_perm _ rfl s1 (srt_sorted _) (seatL_rise p4.symm (gA g).length fun i hi => hat _ _ (by omega) (nS i hi))
  have sO : seatsP W 2 (tOf g) = seatL (names g) (gO g) (gN g) := by
    obtain ⟨s1, s2⟩ := h.seats hv (k := 2) (.inr (.inr ⟨rfl, rfl, rfl⟩))
    exact insP_eq_perm _ rfl s1 (srt_sorted _) (seatL_rise p5.symm ((gA g).length + (gS g).length) fun i hi => hat _ _ (by omega) (nO i hi))
  have hk := h.known
  have idS := namedP_id (L := names g) p4.symm q1 (fun s hs => hk s (by unfold names; simp [hs]))
  have idO := namedP_id (L := names g) p5.symm q2 (fun s hs => hk s (by unfold names; simp [hs]))
  have hA := h.acts hv (by omega)
  obtain ⟨hm, hrow⟩ := valid_rows hv
  have hM : masksP W (tOf g) (W.getD 3 0) (oneTo (topOf (gF g))) (oneTo (topOf (gN g))) = gM g := by
    unfold masksP
    refine (ext_getD [] _ _).2 ⟨by rw [List.length_map, oneTo_len, hm], fun x hx => ?_⟩
    rw [List.length_map, oneTo_len] at hx
    have ex : ((oneTo (topOf (gF g))).map fun r => (oneTo (topOf (gN g))).map fun y => Vc.PG.maskP W (tOf g) (W.getD 3 0) r y).getD x [] = (oneTo (topOf (gN g))).map fun y => Vc.PG.maskP W (tOf g) (W.getD 3 0) ((x + 1 : Nat) : Int) y := by
      simp [oneTo, List.getD_eq_getElem?_getD, hx]
    rw [ex]
    have hr := hrow _ ((mem_getD [] _ _).2 ⟨x, by omega, rfl⟩)
    refine (ext_getD 0 _ _).2 ⟨by rw [List.length_map, oneTo_len, hr], fun y hy => ?_⟩
    rw [List.length_map, oneTo_len] at hy
    have ey : ((oneTo (topOf (gN g))).map fun y => Vc.PG.maskP W (tOf g) (W.getD 3 0) ((x + 1 : Nat) : Int) y).getD y 0 = Vc.PG.maskP W (tOf g) (W.getD 3 0) ((x + 1 : Nat) : Int) ((y + 1 : Nat) : Int) := by
      simp [oneTo, List.getD_eq_getElem?_getD, hy]
    rw [ey]
    exact h.maskP hv hx hy
  unfold graphP at hA ⊢
  rw [sS, sO, idS, idO] at hA ⊢
  dsimp only at hA ⊢
  have hA : listedP (names g) (seatsP W 3 (tOf g)) = gA g := hA
  rw [hA, hM]
  rfl
end PG
end Go.Proofs.YtjmlfknogjaemaaDoor

/- Page: the law PageBack, the walk. -/
set_option linter.unusedVariables false
set_option linter.unusedSimpArgs false
set_option linter.unusedSectionVars false
set_option maxRecDepth 10000
namespace Go.Proofs.YtjmlfknogjaemaaDoor
open Go Go.Proofs.YtjmlfknogjaemaaDoor.Vc
namespace PG
open Vc.PG NI
/-- A laid page's words are small. -/
theorem LaidW.small {W : List Int} {L : List ByteArray} {v : Int} {g : Gd} {Z : List Pz} (h : LaidW W L v g Z) (hv : validP g = true) (hL : L.length ≤ 1048576) (hver : v ≤ 2147483647) (hu : ∀ r ∈ gM g, ∀ x ∈ r, 0 ≤ x ∧ x < 65536) (i : Nat) : W.getD i 0 ≤ 9223372036854775807 := by
  obtain ⟨⟨p1, p2, p3, p4, p5⟩, _, q1, q2, q3, q4, q5, q6, q7⟩ := valid_parts hv
  have ht := tOf_le hv
  have hzl := h.zl
  rcases Nat.lt_or_ge i 4 with h4 | h4
  · rcases (show i = 0 ∨ i = 1 ∨ i = 2 ∨ i = 3 by omega) with rfl | rfl | rfl | rfl
    · rw [h.h0]; omega
    · rw [h.h1]; omega
    · rw [h.h2]; omega
    · rw [h.h3]; omega
  rcases Nat.lt_or_ge i (4 + 2 * tOf g) with ht4 | ht4
  · have key : ∀ j, j < Z.length → (Z.getD j pz0).1 ≤ 9000000 ∧ (Z.getD j pz0).2 ≤ 9000000 := by
      intro j hj
      by_cases h0 : (Z.getD j pz0).1 = 0
      · rw [h.tab.zero j hj h0]; decide
      · have hm := h.tab.mem j hj h0
        have each : ∀ {k : Int} {l : List ByteArray} {n : List Int} (hk : (k = 3 ∧ l = gA g ∧ n = upTo (gA g).length) ∨ (k = 1 ∧ l = gS g ∧ n = gF g) ∨ (k = 2 ∧ l = gO g ∧ n = gN g)), (∀ i, i < l.length → n.getD i 0 ≤ 64) → Z.getD j pz0 ∈ entP L (ensOf l k n) → (Z.getD j pz0).1 ≤ 9000000 ∧ (Z.getD j pz0).2 ≤ 9000000 := by
          intro k l n hk hn hp
          obtain ⟨e1, e2, e3, e4, e5, e6, e7⟩ := h.ent hv hk
          obtain ⟨q, hq, he⟩ := (ent_mem e1).1 hp
          have h1 := hn q hq
          have h2 := num_le L (l.getD q ByteArray.empty)
          rw [he]
          exact ⟨by dsimp only; omega, by dsimp only; omega⟩
        unfold ens at hm
        rw [ent_app, ent_app] at hm
        rcases List.mem_append.1 hm with hm | hm
        · rcases List.mem_append.1 hm with hm | hm
          · exact each (.inl ⟨rfl, rfl, rfl⟩) (fun i hi => by rw [upTo_get hi]; omega) hm
          · exact each (.inr (.inl ⟨rfl, rfl, rfl⟩)) (fun i hi => by
              have := (great_ge _ _ _ q1).2 _ ((mem_getD 0 _ _).2 ⟨i, by omega, rfl⟩); omega) hm
        · exact each (.inr (.inr ⟨rfl, rfl, rfl⟩)) (fun i hi => by
              have := (great_ge _ _ _ q2).2 _ ((mem_getD 0 _ _).2 ⟨i, by omega, rfl⟩); omega) hm
    rcases (show (∃ j, j < tOf g ∧ i = 4 + 2 * j) ∨ ∃ j, j < tOf g ∧ i = 4 + 2 * j + 1 by
      rcases Nat.mod_two_eq_zero_or_one i with hm | hm
      · exact .inl ⟨(i - 4) / 2, by omega, by omega⟩
      · exact .inr ⟨(i - 4) / 2, by omega, by omega⟩) with ⟨j, hj, rfl⟩ | ⟨j, hj, rfl⟩
    · rw [(h.reads j (by omega)).1]
      have := (key j (by omega)).1; omega
    · rw [(h.reads j (by omega)).2]
      have := (key j (by omega)).2; omega
  · rcases Nat.lt_or_ge i W.length with hi | hi
    · have hlen := h.len
      have hpos : 0 < topOf (gN g) := by
        rcases Nat.eq_zero_or_pos (topOf (gN g)) with h0 | h0
        · rw [h0, Nat.mul_zero] at hlen; omega
        · exact h0
      have hdm := Nat.div_add_mod (i - (4 + 2 * tOf g)) (topOf (gN g))
      have hy := Nat.mod_lt (i - (4 + 2 * tOf g)) hpos
      have hx : (i - (4 + 2 * tOf g)) / topOf (gN g) < topOf (gF g) := Nat.div_lt_of_lt_mul (by rw [Nat.mul_comm (topOf (gN g)) (topOf (gF g))]; omega)
      have hm := h.mask _ hx _ hy
      rw [Nat.mul_comm] at hdm
      rw [show 4 + 2 * tOf g + (i - (4 + 2 * tOf g)) / topOf (gN g) * topOf (gN g) + (i - (4 + 2 * tOf g)) % topOf (gN g) = i by omega] at hm
      rw [hm]
      obtain ⟨r1, r2⟩ := valid_rows hv
      have hr : (gM g).getD ((i - (4 + 2 * tOf g)) / topOf (gN g)) [] ∈ gM g := (mem_getD _ _ _).2 ⟨_, by omega, rfl⟩
      have hl := r2 _ hr
      have := hu _ hr _ ((mem_getD 0 _ _).2 ⟨_, by rw [hl]; exact hy, rfl⟩)
      omega
    · rw [List.getD_eq_getElem?_getD, List.getElem?_eq_none hi]; decide
theorem lay_L {v : Int} {g : Gd} {l : List ByteArray} (h : (layP v g l).2.1 = 0) : (layP v g l).2.2 = all l (names g) := by
  unfold layP at h ⊢
  split at h
  · cases h
  split at h
  · cases h
  split at h
  · cases h
  rename_i hver hv0 hr
  rw [if_neg hver, if_neg hv0, if_neg hr]
  have hv : validP g = true := by cases h : validP g with | true => rfl | false => exact absurd h hv0
  rw [layZ_eq hv (by omega) []]
end PG
end Go.Proofs.YtjmlfknogjaemaaDoor
/- The plain statements of some functions, printed by vcgen.py. -/
set_option maxRecDepth 100000
set_option maxHeartbeats 4000000
set_option linter.unusedVariables false
namespace Go.Proofs.YtjmlfknogjaemaaDoor
open Go Go.Proofs.YtjmlfknogjaemaaDoor.Vc
end Go.Proofs.YtjmlfknogjaemaaDoor
/- PageFull, the walk: an index with room for one name. -/
set_option linter.unusedVariables false
set_option linter.unusedSectionVars false
set_option linter.unusedSimpArgs false
set_option maxRecDepth 10000
namespace Go.Proofs.YtjmlfknogjaemaaDoor
open Go Go.Proofs.YtjmlfknogjaemaaDoor.Vc
namespace PG
open Vc.PG NI
def sA : ByteArray := ⟨#[97]⟩
def sB : ByteArray := ⟨#[98]⟩
def s7 : ByteArray := ⟨#[55]⟩
section
variable {L : List ByteArray} (hL : L.length = 1048575) (hA : ¬ sA ∈ L) (hB : ¬ sB ∈ L) (h7 : s7 ∈ L)
include hL hA hB h7
end
end PG
end Go.Proofs.YtjmlfknogjaemaaDoor
