/- Page: the graph that is read back says what the graph says; with names of its own it is the graph (plain law). -/
import Derived.Test.YtjmlfknogjaemaaM48
import Derived.Test.YtjmlfknogjaemaaM4
import Derived.Test.YtjmlfknogjaemaaProg
import Derived.KernelRfl
set_option linter.unusedVariables false
set_option linter.unusedSimpArgs false
set_option linter.unusedSectionVars false
set_option maxRecDepth 10000
namespace Go.Proofs.Ytjmlfknogjaemaa
open Go Go.Proofs.Ytjmlfknogjaemaa.Vc
namespace PG
open Vc.PG NI
theorem idxI_get {l : List Int} {s : Int} (h : ¬ idxI l s < 0) : l.getD (idxI l s).toNat 0 = s ∧ (idxI l s).toNat < l.length := by
  unfold idxI at h ⊢
  split
  · rename_i j hj
    obtain ⟨h1, h2, _⟩ := List.findIdx?_eq_some_iff_getElem.1 hj
    refine ⟨?_, by simpa using h1⟩
    have := of_decide_eq_true h2
    simpa [List.getD_eq_getElem?_getD, h1] using this
  · rename_i hn
    rw [hn] at h
    exact absurd (by decide) h
theorem getD_snoc {l : List Int} {x : Int} {i : Nat} : (l ++ [x]).getD i 0 = if i < l.length then l.getD i 0 else if i = l.length then x else 0 := by
  rw [List.getD_eq_getElem?_getD, List.getD_eq_getElem?_getD, List.getElem?_append]
  by_cases h : i < l.length
  · rw [if_pos h, if_pos h]
  · rw [if_neg h, if_neg h]
    by_cases h2 : i = l.length
    · rw [if_pos h2, h2]; simp
    · rw [if_neg h2]
      have : i - l.length ≠ 0 := by omega
      obtain ⟨k, hk⟩ := Nat.exists_eq_succ_of_ne_zero this
      rw [hk]; simp
/-- What stands beside the names that are read: each class' old number. -/
theorem named_inv (L : List ByteArray) (ps : List Se) : ∀ n, n ≤ ps.length → (namedP L (ps.take n)).2.1.length = n ∧ ∀ i, i < n → 1 ≤ (namedP L (ps.take n)).2.1.getD i 0 ∧ (namedP L (ps.take n)).2.1.getD i 0 ≤ (namedP L (ps.take n)).2.2.length ∧ (namedP L (ps.take n)).2.2.getD ((namedP L (ps.take n)).2.1.getD i 0 - 1).toNat 0 = (ps.getD i se0).2 := by
  intro n
  induction n with
  | zero => intro _; exact ⟨rfl, fun i hi => by omega⟩
  | succ n ih =>
    intro hn
    obtain ⟨h1, h2⟩ := ih (by omega)
    have e : namedP L (ps.take (n + 1)) = namedStep L (namedP L (ps.take n)) (ps.getD n se0) := by
      rw [take_snoc se0 ps n (by omega), namedP_snoc]
    rw [e]
    generalize namedP L (ps.take n) = t at *
    generalize hp : ps.getD n se0 = p at *
    unfold namedStep
    split
    · rename_i hx
      dsimp only
      refine ⟨by rw [List.length_append, h1]; rfl, fun i hi => ?_⟩
      rw [getD_snoc, h1]
      by_cases hin : i < n
      · rw [if_pos hin]
        obtain ⟨a1, a2, a3⟩ := h2 i hin
        refine ⟨a1, by rw [List.length_append, List.length_singleton]; omega, ?_⟩
        rw [getD_snoc, if_pos (by omega)]
        exact a3
      · have : i = n := by omega
        subst this
        rw [if_neg hin, if_pos rfl]
        refine ⟨by omega, by rw [List.length_append, List.length_singleton]; omega, ?_⟩
        rw [getD_snoc, if_neg (by omega), if_pos (by omega), hp]
    · rename_i hx
      dsimp only
      obtain ⟨g1, g2⟩ := idxI_get hx
      refine ⟨by rw [List.length_append, h1]; rfl, fun i hi => ?_⟩
      rw [getD_snoc, h1]
      by_cases hin : i < n
      · rw [if_pos hin]
        exact h2 i hin
      · have : i = n := by omega
        subst this
        rw [if_neg hin, if_pos rfl]
        refine ⟨by omega, by omega, ?_⟩
        rw [show (idxI t.2.2 p.2 + 1 - 1).toNat = (idxI t.2.2 p.2).toNat by congr 1; omega, g1, hp]
section
variable {W : List Int} {L : List ByteArray} {v : Int} {g : Gd} {Z : List Pz} (h : LaidW W L v g Z) (hv : validP g = true)
include h hv
theorem LaidW.acts (hL : L.length ≤ 1048576) : gA (graphP W (tOf g) L) = gA g := by
  obtain ⟨s1, s2⟩ := h.seats hv (k := 3) (.inl ⟨rfl, rfl, rfl⟩)
  obtain ⟨e1, e2, _⟩ := h.ent hv (k := 3) (.inl ⟨rfl, rfl, rfl⟩)
  show listedP L (seatsP W 3 (tOf g)) = gA g
  unfold listedP
  rw [s2]
  refine (ext_getD ByteArray.empty _ _).2 ⟨by simp, fun i hi => ?_⟩
  rw [List.length_map, List.length_range] at hi
  have e : ((List.range (gA g).length).map fun i => (thingX L ((seatOf (seatsP W 3 (tOf g)) ((i + 1 : Nat) : Int)).getD se0).1).1).getD i ByteArray.empty = (thingX L ((seatOf (seatsP W 3 (tOf g)) ((i + 1 : Nat) : Int)).getD se0).1).1 := by
    simp [List.getD_eq_getElem?_getD, hi]
  rw [e]
  have hm : ((IX.num L ((gA g).getD i ByteArray.empty) : Int), (upTo (gA g).length).getD i 0) ∈ seatsP W 3 (tOf g) := s1.mem_iff.2 ((seatL_mem e1).2 ⟨i, hi, rfl⟩)
  rw [upTo_get hi] at hm
  obtain ⟨p, hp⟩ := Option.isSome_iff_exists.1 (seatOf_isSome.2 ⟨_, hm, rfl⟩)
  rw [hp]
  obtain ⟨h1, h2⟩ := seatOf_some hp
  obtain ⟨j, hj, rfl⟩ := (seatL_mem e1).1 (s1.mem_iff.1 h1)
  dsimp only at h2
  rw [upTo_get hj] at h2
  have : j = i := by omega
  subst this
  show (thing L (IX.num L ((gA g).getD j ByteArray.empty) : Int)).1 = _
  rw [thing_num (e2 _ ((mem_getD _ _ _).2 ⟨j, hi, rfl⟩))]
theorem LaidW.cls (hN : L.Nodup) (hL : L.length ≤ 1048576) {k : Int} {l : List ByteArray} {n : List Int} (hk : (k = 1 ∧ l = gS g ∧ n = gF g) ∨ (k = 2 ∧ l = gO g ∧ n = gN g)) (s : ByteArray) :
    match clsP l n s with
    | none => clsP (namedP L (seatsP W k (tOf g))).1 (namedP L (seatsP W k (tOf g))).2.1 s = none
    | some x => ∃ x' : Int, clsP (namedP L (seatsP W k (tOf g))).1 (namedP L (seatsP W k (tOf g))).2.1 s = some x' ∧ 1 ≤ x' ∧ x' ≤ (namedP L (seatsP W k (tOf g))).2.2.length ∧ (namedP L (seatsP W k (tOf g))).2.2.getD (x' - 1).toNat 0 = x := by
  have hk' : (k = 3 ∧ l = gA g ∧ n = upTo (gA g).length) ∨ (k = 1 ∧ l = gS g ∧ n = gF g) ∨ (k = 2 ∧ l = gO g ∧ n = gN g) := .inr hk
  obtain ⟨s1, s2⟩ := h.seats hv hk'
  obtain ⟨e1, e2, e3, e4, e5, e6, e7⟩ := h.ent hv hk'
  have hgood := seats_good (h.seated hv hL) k
  have hnames := named_names L (seatsP W k (tOf g))
  have hnd : (namedP L (seatsP W k (tOf g))).1.Nodup := by rw [hnames]; exact names_nodup hN hgood.1 hgood.2
  have hinv := named_inv L (seatsP W k (tOf g)) (seatsP W k (tOf g)).length (Nat.le_refl _)
  rw [List.take_length] at hinv
  generalize seatsP W k (tOf g) = ps at *
  have hnget : ∀ i, i < ps.length → (namedP L ps).1.getD i ByteArray.empty = (thing L (ps.getD i se0).1).1 := fun i hi => by
    rw [hnames]
    simp [List.getD_eq_getElem?_getD, hi]
  unfold clsP
  by_cases hs : s ∈ l
  · obtain ⟨g1, g2, g3⟩ := num_get hs
    rw [if_neg (show ¬ IX.num l s = 0 by omega)]
    dsimp only
    have hm : ((IX.num L s : Int), n.getD (IX.num l s - 1) 0) ∈ ps := s1.mem_iff.2 ((seatL_mem e1).2 ⟨IX.num l s - 1, by omega, by rw [g3]⟩)
    obtain ⟨i, hi, he⟩ := (mem_getD se0 _ _).1 hm
    have hget := hnget i hi
    rw [he, thing_num (e2 s hs)] at hget
    have hlen : (namedP L ps).1.length = ps.length := (namedP_len L ps).1
    have hnum := num_at hnd (i := i) (by omega)
    rw [hget] at hnum
    dsimp only at hnum
    rw [hnum, if_neg (by omega)]
    obtain ⟨a1, a2, a3⟩ := hinv.2 i hi
    refine ⟨_, rfl, a1, a2, ?_⟩
    rw [he] at a3
    exact a3
  · rw [if_pos (num_zero.2 hs)]
    dsimp only
    rw [if_pos]
    refine num_zero.2 fun hm => hs ?_
    rw [hnames] at hm
    obtain ⟨p, hp, rfl⟩ := List.mem_map.1 hm
    obtain ⟨j, hj, rfl⟩ := (seatL_mem e1).1 (s1.mem_iff.1 hp)
    have hmj : l.getD j ByteArray.empty ∈ l := (mem_getD _ _ _).2 ⟨j, hj, rfl⟩
    show (thing L (IX.num L (l.getD j ByteArray.empty) : Int)).1 ∈ l
    rw [thing_num (e2 _ hmj)]
    exact hmj
/-- The graph that is read decides as the graph does. -/
theorem LaidW.same (hN : L.Nodup) (hL : L.length ≤ 1048576) (s o a : ByteArray) : decG (graphP W (tOf g) L) s o a = decG g s o a := by
  have hact := h.acts hv hL
  have c1 := h.cls hv hN hL (k := 1) (.inl ⟨rfl, rfl, rfl⟩) s
  have c2 := h.cls hv hN hL (k := 2) (.inr ⟨rfl, rfl, rfl⟩) o
  obtain ⟨⟨p1, p2, p3, p4, p5⟩, _, q1, q2, q3, q4, q5, q6, q7⟩ := valid_parts hv
  have r1 := @cls_range (gS g) (gF g) _ q1 p4 s
  have r2 := @cls_range (gO g) (gN g) _ q2 p5 o
  unfold decG
  rw [hact]
  show (match clsP (namedP L (seatsP W 1 (tOf g))).1 (namedP L (seatsP W 1 (tOf g))).2.1 s, clsP (namedP L (seatsP W 2 (tOf g))).1 (namedP L (seatsP W 2 (tOf g))).2.1 o, clsP (gA g) (upTo (gA g).length) a with
    | some x, some y, some z => bitB (((masksP W (tOf g) (W.getD 3 0) (namedP L (seatsP W 1 (tOf g))).2.2 (namedP L (seatsP W 2 (tOf g))).2.2).getD (x - 1).toNat []).getD (y - 1).toNat 0) (z - 1)
    | _, _, _ => false) = _
  generalize clsP (gS g) (gF g) s = o1 at *
  generalize clsP (gO g) (gN g) o = o2 at *
  cases o1 with
  | none => dsimp only at c1; rw [c1]
  | some x =>
  dsimp only at c1
  obtain ⟨x', c1, x1, x2, x3⟩ := c1
  rw [c1]
  cases o2 with
  | none => dsimp only at c2; rw [c2]
  | some y =>
  dsimp only at c2
  obtain ⟨y', c2, y1, y2, y3⟩ := c2
  rw [c2]
  generalize clsP (gA g) (upTo (gA g).length) a = o3
  cases o3 with
  | none => rfl
  | some z =>
  dsimp only
  refine congrArg (fun q => bitB q (z - 1)) ?_
  have hx := r1 rfl
  have hy := r2 rfl
  have hm := h.maskP hv (x := (x - 1).toNat) (y := (y - 1).toNat) (by omega) (by omega)
  rw [show (((x - 1).toNat + 1 : Nat) : Int) = x by omega, show (((y - 1).toNat + 1 : Nat) : Int) = y by omega] at hm
  rw [← hm]
  unfold masksP
  generalize (namedP L (seatsP W 1 (tOf g))).2.2 = R at *
  generalize (namedP L (seatsP W 2 (tOf g))).2.2 = C at *
  have i1 : (x' - 1).toNat < R.length := by omega
  have i2 : (y' - 1).toNat < C.length := by omega
  rw [← x3, ← y3]
  clear hm x3 y3
  generalize (x' - 1).toNat = p at *
  generalize (y' - 1).toNat = q at *
  generalize W.getD 3 0 = c
  simp [List.getD_eq_getElem?_getD, i1, i2]
end
/-! ### Names of their own -/
theorem all_own : ∀ (ns l : List ByteArray), l.Nodup → (all l ns).length ≥ l.length + ns.length → (l ++ ns).Nodup ∧ all l ns = l ++ ns
  | [], l, h, _ => by simpa [all] using h
  | s :: ns, l, h, hlen => by
    have hl := all_len ns (IX.of l s)
    rw [List.length_cons] at hlen
    have hlen : (all (IX.of l s) ns).length ≥ l.length + (ns.length + 1) := hlen
    show (l ++ s :: ns).Nodup ∧ all (IX.of l s) ns = l ++ s :: ns
    by_cases h0 : IX.num l s = 0
    · by_cases hb : l.length ≥ 1048576
      · have e : IX.of l s = l := by unfold IX.of; rw [if_pos h0, if_pos hb]
        rw [e] at hl hlen; omega
      · have e : IX.of l s = l ++ [s] := by unfold IX.of; rw [if_pos h0, if_neg hb]
        rw [e] at hlen ⊢
        have hnd : (l ++ [s]).Nodup := by
          rw [List.nodup_append]
          refine ⟨h, by simp, fun a ha b hb => ?_⟩
          rw [List.mem_singleton] at hb; subst hb
          rintro rfl
          exact num_zero.1 h0 ha
        obtain ⟨h1, h2⟩ := all_own ns (l ++ [s]) hnd (by rw [List.length_append, List.length_singleton]; omega)
        rw [List.append_assoc] at h1 h2
        exact ⟨h1, h2⟩
    · have e : IX.of l s = l := by unfold IX.of; rw [if_neg h0]
      rw [e] at hl hlen; omega
theorem oneTo_get {n i : Nat} (h : i < n) : (oneTo n).getD i 0 = ((i + 1 : Nat) : Int) := upTo_get h
theorem oneTo_succ (n : Nat) : oneTo (n + 1) = oneTo n ++ [((n + 1 : Nat) : Int)] := by
  unfold oneTo
  rw [List.range_succ, List.map_append]; rfl
theorem namedGo_id (L : List ByteArray) : ∀ (ps : List (ByteArray × Int)) (t : List ByteArray × List Int × List Int) (m0 m : Nat), t.2.2 = oneTo m0 → great (ps.map (·.2)) m0 = some m → (∀ p ∈ ps, p.1 ∈ L) →
    (ps.map fun p => ((IX.num L p.1 : Int), p.2)).foldl (namedStep L) t = (t.1 ++ ps.map (·.1), t.2.1 ++ ps.map (·.2), oneTo m)
  | [], t, m0, m, h1, h2, _ => by
    simp [great] at h2
    subst h2
    obtain ⟨a, b, c⟩ := t
    dsimp only at h1
    simp [h1]
  | p :: ps, t, m0, m, h1, h2, h3 => by
    rw [List.map_cons, great] at h2
    split at h2
    · cases h2
    rename_i hx
    rw [List.map_cons, List.foldl_cons]
    have ht : (thingX L (IX.num L p.1 : Int)).1 = p.1 := by
      show (thing L (IX.num L p.1 : Int)).1 = p.1
      rw [thing_num (h3 p List.mem_cons_self)]
    have hstep : namedStep L t ((IX.num L p.1 : Int), p.2) = (t.1 ++ [p.1], t.2.1 ++ [p.2], oneTo (max m0 p.2.toNat)) := by
      unfold namedStep
      dsimp only
      rw [h1, ht]
      rcases Int.lt_or_le (m0 : Int) p.2 with h4 | h4
      · have hi : idxI (oneTo m0) p.2 = -1 := idxI_none 0 fun q hq => by
          rw [oneTo_len] at hq
          rw [oneTo_get hq]; omega
        have hm : max m0 p.2.toNat = m0 + 1 := by omega
        rw [hi, if_pos (by decide), hm, oneTo_succ, oneTo_len]
        rw [show ((m0 + 1 : Nat) : Int) = p.2 by omega]
      · have hi : idxI (oneTo m0) p.2 = ((p.2 - 1).toNat : Int) := idxI_some 0 (by rw [oneTo_len]; omega) (fun q hq => by
          rw [oneTo_get (by omega)]; omega) (by rw [oneTo_get (by omega)]; omega)
        have hm : max m0 p.2.toNat = m0 := by omega
        rw [hi, if_neg (by omega), hm]
        rw [show ((p.2 - 1).toNat : Int) + 1 = p.2 by omega]
    rw [hstep, namedGo_id L ps _ (max m0 p.2.toNat) m rfl h2 fun q hq => h3 q (List.mem_cons_of_mem _ hq)]
    simp [List.append_assoc]
theorem namedP_id {L l : List ByteArray} {n : List Int} {m : Nat} (hl : l.length = n.length) (hg : great n 0 = some m) (hin : ∀ s ∈ l, s ∈ L) : namedP L (seatL L l n) = (l, n, oneTo m) := by
  have e1 : (l.zip n).map (·.1) = l := List.map_fst_zip (by omega)
  have e2 : (l.zip n).map (·.2) = n := List.map_snd_zip (by omega)
  have := namedGo_id L (l.zip n) ([], [], []) 0 m rfl (by rw [e2]; exact hg) (fun p hp => hin _ (List.of_mem_zip hp).1)
  rw [e1, e2] at this
  exact this
theorem seatL_rise {L l : List ByteArray} {n : List Int} (hl : l.length = n.length) (c : Nat) (hc : ∀ i, i < l.length → IX.num L (l.getD i ByteArray.empty) = c + i + 1) : (seatL L l n).Pairwise (fun x y => x.1 < y.1) := by
  unfold seatL
  rw [List.pairwise_map, List.pairwise_iff_getElem]
  intro i j hi hj hij
  rw [List.length_zip] at hi hj
  have h1 := hc i (by omega)
  have h2 := hc j (by omega)
  simp only [List.getElem_zip]
  have e1 : l.getD i ByteArray.empty = l[i]'(by omega) := by simp [List.getD_eq_getElem?_getD, show i < l.length by omega]
  have e2 : l.getD j ByteArray.empty = l[j]'(by omega) := by simp [List.getD_eq_getElem?_getD, show j < l.length by omega]
  rw [e1] at h1
  rw [e2] at h2
  rw [h1, h2]
  omega
theorem LaidW.own {W : List Int} {v : Int} {g : Gd} {Z : List Pz} (h : LaidW W (names g) v g Z) (hv : validP g = true) (hN : (names g).Nodup) : graphP W (tOf g) (names g) = g := by
  obtain ⟨⟨p1, p2, p3, p4, p5⟩, _, q1, q2, q3, q4, q5, q6, q7⟩ := valid_parts hv
  have hnl := names_len g
  have hat : ∀ (i : Nat) (s : ByteArray), i < (names g).length → (names g).getD i ByteArray.empty = s → IX.num (names g) s = i + 1 := fun i s hi hs => by rw [← hs]; exact num_at hN hi
  have nS : ∀ i, i < (gS g).length → (names g).getD ((gA g).length + i) ByteArray.empty = (gS g).getD i ByteArray.empty := fun i hi => by
    unfold names
    rw [List.getD_eq_getElem?_getD, List.getElem?_append_left (by rw [List.length_append]; omega), List.getElem?_append_right (by omega), show (gA g).length + i - (gA g).length = i by omega, List.getD_eq_getElem?_getD]
  have nO : ∀ i, i < (gO g).length → (names g).getD ((gA g).length + (gS g).length + i) ByteArray.empty = (gO g).getD i ByteArray.empty := fun i hi => by
    unfold names
    rw [List.getD_eq_getElem?_getD, List.getElem?_append_right (by rw [List.length_append]; omega), List.length_append, show (gA g).length + (gS g).length + i - ((gA g).length + (gS g).length) = i by omega, List.getD_eq_getElem?_getD]
  have sS : seatsP W 1 (tOf g) = seatL (names g) (gS g) (gF g) := by
    obtain ⟨s1, s2⟩ := h.seats hv (k := 1) (.inr (.inl ⟨rfl, rfl, rfl⟩))
    exact insP_eq_perm _ rfl s1 (srt_sorted _) (seatL_rise p4.symm (gA g).length fun i hi => hat _ _ (by omega) (nS i hi))
  have sO : seatsP W 2 (tOf g) = seatL (names g) (gO g) (gN g) := by
    obtain ⟨s1, s2⟩ := h.seats hv (k := 2) (.inr (.inr ⟨rfl, rfl, rfl⟩))
    exact insP_eq_perm _ rfl s1 (srt_sorted _) (seatL_rise p5.symm ((gA g).length + (gS g).length) fun i hi => hat _ _ (by omega) (nO i hi))
  have hk := h.known
  have idS := namedP_id (L := names g) p4.symm q1 (fun s hs => hk s (by unfold names; simp [hs]))
  have idO := namedP_id (L := names g) p5.symm q2 (fun s hs => hk s (by unfold names; simp [hs]))
  have hA := h.acts hv (by omega)
  obtain ⟨hm, hrow⟩ := valid_rows hv
  have hM : masksP W (tOf g) (W.getD 3 0) (oneTo (topOf (gF g))) (oneTo (topOf (gN g))) = gM g := by
    unfold masksP
    refine (ext_getD [] _ _).2 ⟨by rw [List.length_map, oneTo_len, hm], fun x hx => ?_⟩
    rw [List.length_map, oneTo_len] at hx
    have ex : ((oneTo (topOf (gF g))).map fun r => (oneTo (topOf (gN g))).map fun y => Vc.PG.maskP W (tOf g) (W.getD 3 0) r y).getD x [] = (oneTo (topOf (gN g))).map fun y => Vc.PG.maskP W (tOf g) (W.getD 3 0) ((x + 1 : Nat) : Int) y := by
      simp [oneTo, List.getD_eq_getElem?_getD, hx]
    rw [ex]
    have hr := hrow _ ((mem_getD [] _ _).2 ⟨x, by omega, rfl⟩)
    refine (ext_getD 0 _ _).2 ⟨by rw [List.length_map, oneTo_len, hr], fun y hy => ?_⟩
    rw [List.length_map, oneTo_len] at hy
    have ey : ((oneTo (topOf (gN g))).map fun y => Vc.PG.maskP W (tOf g) (W.getD 3 0) ((x + 1 : Nat) : Int) y).getD y 0 = Vc.PG.maskP W (tOf g) (W.getD 3 0) ((x + 1 : Nat) : Int) ((y + 1 : Nat) : Int) := by
      simp [oneTo, List.getD_eq_getElem?_getD, hy]
    rw [ey]
    exact h.maskP hv hx hy
  unfold graphP at hA ⊢
  rw [sS, sO, idS, idO] at hA ⊢
  dsimp only at hA ⊢
  have hA : listedP (names g) (seatsP W 3 (tOf g)) = gA g := hA
  rw [hA, hM]
  rfl
/-- Another version: the first word alone. -/
theorem lay_ver {v u : Int} {g : Gd} {l : List ByteArray} (h : (layP v g l).2.1 = 0) (hu : 1 ≤ u ∧ u ≤ 2147483647) : layP u g l = ((layP v g l).1.set 0 u, 0, (layP v g l).2.2) := by
  unfold layP at h ⊢
  split at h
  · cases h
  split at h
  · cases h
  split at h
  · cases h
  rename_i hver hv hr
  rw [if_neg (show ¬ (u < 1 ∨ 2147483647 < u) by omega), if_neg hv, if_neg hr, if_neg hver, if_neg hv, if_neg hr]
  rfl
end PG
end Go.Proofs.Ytjmlfknogjaemaa
/- The plain statements of some functions, printed by vcgen.py. -/
set_option maxRecDepth 100000
set_option linter.unusedVariables false
namespace Go.Proofs.Ytjmlfknogjaemaa
open Go Go.Proofs.Ytjmlfknogjaemaa.Vc
theorem W26.mixed : Try.prog.follows .mixedOrders = true := by kernel_rfl
/-- gatehouse/gatehouselaw12.PageBack -/
def f7.AL : Nat → Option Ann := fun _ => none
def f7.AC : Nat → Option Ann := fun r => match r with | 1000014 => some ⟨[], []⟩ | _ => none
def f7.VC (xa0 : Int) (xa1 : Int) (Aa2_0 : Option Addr) (na2_0 ca2_0 : Nat) (Aa2_1 : Option Addr) (na2_1 ca2_1 : Nat) (Aa2_2 : Option Addr) (na2_2 ca2_2 : Nat) (Aa2_3 : Option Addr) (na2_3 ca2_3 : Nat) (Aa2_4 : Option Addr) (na2_4 ca2_4 : Nat) (Aa2_5 : Option Addr) (na2_5 ca2_5 : Nat) (w : World) (R : Value → World → Prop) : Prop :=
  let w_1 : World := World.alloc w (.cells #[.slice Aa2_0 na2_0 ca2_0, .slice Aa2_1 na2_1 ca2_1, .slice Aa2_2 na2_2 ca2_2, .slice Aa2_3 na2_3 ca2_3, .slice Aa2_4 na2_4 ca2_4, .slice Aa2_5 na2_5 ca2_5] 29);
  Calls Try.prog 10 #[] w_1 fun e_1 w_2 =>
  ∃ (b19 : Bool),
  e_1 = .returned (.bool b19) ∧
  ∃ (A20_0 : Option Addr) (n20_0 c20_0 : Nat),
  w_2.cell? ⟨w.heap.size, 0, none⟩ = some (.slice A20_0 n20_0 c20_0) ∧
  ∃ (A20_1 : Option Addr) (n20_1 c20_1 : Nat),
  w_2.cell? ⟨w.heap.size, 1, none⟩ = some (.slice A20_1 n20_1 c20_1) ∧
  ∃ (A20_2 : Option Addr) (n20_2 c20_2 : Nat),
  w_2.cell? ⟨w.heap.size, 2, none⟩ = some (.slice A20_2 n20_2 c20_2) ∧
  ∃ (A20_3 : Option Addr) (n20_3 c20_3 : Nat),
  w_2.cell? ⟨w.heap.size, 3, none⟩ = some (.slice A20_3 n20_3 c20_3) ∧
  ∃ (A20_4 : Option Addr) (n20_4 c20_4 : Nat),
  w_2.cell? ⟨w.heap.size, 4, none⟩ = some (.slice A20_4 n20_4 c20_4) ∧
  ∃ (A20_5 : Option Addr) (n20_5 c20_5 : Nat),
  w_2.cell? ⟨w.heap.size, 5, none⟩ = some (.slice A20_5 n20_5 c20_5) ∧
  Calls Try.prog 28 #[.agg #[.slice A20_0 n20_0 c20_0, .slice A20_1 n20_1 c20_1, .slice A20_2 n20_2 c20_2, .slice A20_3 n20_3 c20_3, .slice A20_4 n20_4 c20_4, .slice A20_5 n20_5 c20_5]] w_2 fun e_2 w_3 =>
  ∃ (b21 : Bool),
  e_2 = .returned (.bool b21) ∧
  sel (!b21) (
    R (.bool b19) w_3) (
    sel (decide ((xa0 : Int) < (1 : Int))) (
      R (.bool b19) w_3) (
      sel (decide ((2147483647 : Int) < (xa0 : Int))) (
        R (.bool b19) w_3) (
        sel (decide ((xa1 : Int) < (1 : Int))) (
          R (.bool b19) w_3) (
          sel (decide ((2147483647 : Int) < (xa1 : Int))) (
            R (.bool b19) w_3) (
            Calls Try.prog 29 #[] w_3 fun e_3 w_4 =>
            ∃ (p41 : Option Addr),
            e_3 = .returned (.pointer p41) ∧
            sel (Option.isNone p41) (
              R (.bool false) w_4) (
              ∃ (A46_0 : Option Addr) (n46_0 c46_0 : Nat),
              w_4.cell? ⟨w.heap.size, 0, none⟩ = some (.slice A46_0 n46_0 c46_0) ∧
              ∃ (A46_1 : Option Addr) (n46_1 c46_1 : Nat),
              w_4.cell? ⟨w.heap.size, 1, none⟩ = some (.slice A46_1 n46_1 c46_1) ∧
              ∃ (A46_2 : Option Addr) (n46_2 c46_2 : Nat),
              w_4.cell? ⟨w.heap.size, 2, none⟩ = some (.slice A46_2 n46_2 c46_2) ∧
              ∃ (A46_3 : Option Addr) (n46_3 c46_3 : Nat),
              w_4.cell? ⟨w.heap.size, 3, none⟩ = some (.slice A46_3 n46_3 c46_3) ∧
              ∃ (A46_4 : Option Addr) (n46_4 c46_4 : Nat),
              w_4.cell? ⟨w.heap.size, 4, none⟩ = some (.slice A46_4 n46_4 c46_4) ∧
              ∃ (A46_5 : Option Addr) (n46_5 c46_5 : Nat),
              w_4.cell? ⟨w.heap.size, 5, none⟩ = some (.slice A46_5 n46_5 c46_5) ∧
              Calls Try.prog 15 #[.agg #[.slice A46_0 n46_0 c46_0, .slice A46_1 n46_1 c46_1, .slice A46_2 n46_2 c46_2, .slice A46_3 n46_3 c46_3, .slice A46_4 n46_4 c46_4, .slice A46_5 n46_5 c46_5]] w_4 fun e_4 w_5 =>
              ∃ (A47_0 : Option Addr) (n47_0 c47_0 : Nat) (A47_1 : Option Addr) (n47_1 c47_1 : Nat) (A47_2 : Option Addr) (n47_2 c47_2 : Nat) (A47_3 : Option Addr) (n47_3 c47_3 : Nat) (A47_4 : Option Addr) (n47_4 c47_4 : Nat) (A47_5 : Option Addr) (n47_5 c47_5 : Nat),
              e_4 = .returned (.agg #[.slice A47_0 n47_0 c47_0, .slice A47_1 n47_1 c47_1, .slice A47_2 n47_2 c47_2, .slice A47_3 n47_3 c47_3, .slice A47_4 n47_4 c47_4, .slice A47_5 n47_5 c47_5]) ∧
              Calls Try.prog 17 #[.int .i64 xa0, .agg #[.slice A47_0 n47_0 c47_0, .slice A47_1 n47_1 c47_1, .slice A47_2 n47_2 c47_2, .slice A47_3 n47_3 c47_3, .slice A47_4 n47_4 c47_4, .slice A47_5 n47_5 c47_5], .pointer p41] w_5 fun e_5 w_6 =>
              ∃ (A49_0 : Option Addr) (n49_0 c49_0 : Nat) (x49_1 : Int),
              e_5 = .returned (.tuple #[.slice A49_0 n49_0 c49_0, .int .i64 x49_1]) ∧
              ∃ (A54_0 : Option Addr) (n54_0 c54_0 : Nat),
              w_6.cell? ⟨w.heap.size, 0, none⟩ = some (.slice A54_0 n54_0 c54_0) ∧
              ∃ (A54_1 : Option Addr) (n54_1 c54_1 : Nat),
              w_6.cell? ⟨w.heap.size, 1, none⟩ = some (.slice A54_1 n54_1 c54_1) ∧
              ∃ (A54_2 : Option Addr) (n54_2 c54_2 : Nat),
              w_6.cell? ⟨w.heap.size, 2, none⟩ = some (.slice A54_2 n54_2 c54_2) ∧
              ∃ (A54_3 : Option Addr) (n54_3 c54_3 : Nat),
              w_6.cell? ⟨w.heap.size, 3, none⟩ = some (.slice A54_3 n54_3 c54_3) ∧
              ∃ (A54_4 : Option Addr) (n54_4 c54_4 : Nat),
              w_6.cell? ⟨w.heap.size, 4, none⟩ = some (.slice A54_4 n54_4 c54_4) ∧
              ∃ (A54_5 : Option Addr) (n54_5 c54_5 : Nat),
              w_6.cell? ⟨w.heap.size, 5, none⟩ = some (.slice A54_5 n54_5 c54_5) ∧
              Calls Try.prog 15 #[.agg #[.slice A54_0 n54_0 c54_0, .slice A54_1 n54_1 c54_1, .slice A54_2 n54_2 c54_2, .slice A54_3 n54_3 c54_3, .slice A54_4 n54_4 c54_4, .slice A54_5 n54_5 c54_5]] w_6 fun e_6 w_7 =>
              ∃ (A55_0 : Option Addr) (n55_0 c55_0 : Nat) (A55_1 : Option Addr) (n55_1 c55_1 : Nat) (A55_2 : Option Addr) (n55_2 c55_2 : Nat) (A55_3 : Option Addr) (n55_3 c55_3 : Nat) (A55_4 : Option Addr) (n55_4 c55_4 : Nat) (A55_5 : Option Addr) (n55_5 c55_5 : Nat),
              e_6 = .returned (.agg #[.slice A55_0 n55_0 c55_0, .slice A55_1 n55_1 c55_1, .slice A55_2 n55_2 c55_2, .slice A55_3 n55_3 c55_3, .slice A55_4 n55_4 c55_4, .slice A55_5 n55_5 c55_5]) ∧
              Calls Try.prog 17 #[.int .i64 xa0, .agg #[.slice A55_0 n55_0 c55_0, .slice A55_1 n55_1 c55_1, .slice A55_2 n55_2 c55_2, .slice A55_3 n55_3 c55_3, .slice A55_4 n55_4 c55_4, .slice A55_5 n55_5 c55_5], .pointer p41] w_7 fun e_7 w_8 =>
              ∃ (A57_0 : Option Addr) (n57_0 c57_0 : Nat) (x57_1 : Int),
              e_7 = .returned (.tuple #[.slice A57_0 n57_0 c57_0, .int .i64 x57_1]) ∧
              ∃ (A62_0 : Option Addr) (n62_0 c62_0 : Nat),
              w_8.cell? ⟨w.heap.size, 0, none⟩ = some (.slice A62_0 n62_0 c62_0) ∧
              ∃ (A62_1 : Option Addr) (n62_1 c62_1 : Nat),
              w_8.cell? ⟨w.heap.size, 1, none⟩ = some (.slice A62_1 n62_1 c62_1) ∧
              ∃ (A62_2 : Option Addr) (n62_2 c62_2 : Nat),
              w_8.cell? ⟨w.heap.size, 2, none⟩ = some (.slice A62_2 n62_2 c62_2) ∧
              ∃ (A62_3 : Option Addr) (n62_3 c62_3 : Nat),
              w_8.cell? ⟨w.heap.size, 3, none⟩ = some (.slice A62_3 n62_3 c62_3) ∧
              ∃ (A62_4 : Option Addr) (n62_4 c62_4 : Nat),
              w_8.cell? ⟨w.heap.size, 4, none⟩ = some (.slice A62_4 n62_4 c62_4) ∧
              ∃ (A62_5 : Option Addr) (n62_5 c62_5 : Nat),
              w_8.cell? ⟨w.heap.size, 5, none⟩ = some (.slice A62_5 n62_5 c62_5) ∧
              Calls Try.prog 15 #[.agg #[.slice A62_0 n62_0 c62_0, .slice A62_1 n62_1 c62_1, .slice A62_2 n62_2 c62_2, .slice A62_3 n62_3 c62_3, .slice A62_4 n62_4 c62_4, .slice A62_5 n62_5 c62_5]] w_8 fun e_8 w_9 =>
              ∃ (A63_0 : Option Addr) (n63_0 c63_0 : Nat) (A63_1 : Option Addr) (n63_1 c63_1 : Nat) (A63_2 : Option Addr) (n63_2 c63_2 : Nat) (A63_3 : Option Addr) (n63_3 c63_3 : Nat) (A63_4 : Option Addr) (n63_4 c63_4 : Nat) (A63_5 : Option Addr) (n63_5 c63_5 : Nat),
              e_8 = .returned (.agg #[.slice A63_0 n63_0 c63_0, .slice A63_1 n63_1 c63_1, .slice A63_2 n63_2 c63_2, .slice A63_3 n63_3 c63_3, .slice A63_4 n63_4 c63_4, .slice A63_5 n63_5 c63_5]) ∧
              Calls Try.prog 17 #[.int .i64 xa1, .agg #[.slice A63_0 n63_0 c63_0, .slice A63_1 n63_1 c63_1, .slice A63_2 n63_2 c63_2, .slice A63_3 n63_3 c63_3, .slice A63_4 n63_4 c63_4, .slice A63_5 n63_5 c63_5], .pointer p41] w_9 fun e_9 w_10 =>
              ∃ (A65_0 : Option Addr) (n65_0 c65_0 : Nat) (x65_1 : Int),
              e_9 = .returned (.tuple #[.slice A65_0 n65_0 c65_0, .int .i64 x65_1]) ∧
              sel ((x49_1 : Int) != (0 : Int)) (
                R (.bool false) w_10) (
                sel ((x57_1 : Int) != (0 : Int)) (
                  R (.bool false) w_10) (
                  sel ((x65_1 : Int) != (0 : Int)) (
                    R (.bool false) w_10) (
                    Calls Try.prog 18 #[.slice A49_0 n49_0 c49_0, .slice A57_0 n57_0 c57_0] w_10 fun e_10 w_11 =>
                    ∃ (b81 : Bool),
                    e_10 = .returned (.bool b81) ∧
                    sel (!b81) (
                      R (.bool false) w_11) (
                      sel (((n65_0 : Int) : Int) != ((n49_0 : Int) : Int)) (
                        R (.bool false) w_11) (
                        sel (decide (((n49_0 : Int) : Int) < (4 : Int))) (
                          R (.bool false) w_11) (
                          (0 : Int) ≤ 0 ∧ 0 < (n49_0 : Int) ∧
                          needPtr A49_0 fun b98 o98 =>
                          ∃ (x99 : Int),
                          w_11.cell? ⟨b98, o98, none⟩ = some (.int .i64 x99) ∧
                          sel ((x99 : Int) != (xa0 : Int)) (
                            R (.bool false) w_11) (
                            (0 : Int) ≤ 0 ∧ 0 < (n65_0 : Int) ∧
                            needPtr A65_0 fun b105 o105 =>
                            ∃ (x106 : Int),
                            w_11.cell? ⟨b105, o105, none⟩ = some (.int .i64 x106) ∧
                            sel ((x106 : Int) != (xa1 : Int)) (
                              R (.bool false) w_11) (
                              (0 : Int) ≤ 0 ∧ 0 < (n65_0 : Int) ∧
                              needPtr A65_0 fun b112 o112 =>
                              canStore w_11 b112 o112 1 ∧
                              let w_12 : World := setCs w_11 b112 o112 [.int .i64 xa0];
                              ∃ (A116 : Option Addr) (n116 c116 : Nat),
                              w_12.cell? ⟨w.heap.size, 0, none⟩ = some (.slice A116 n116 c116) ∧
                              ∃ (A119 : Option Addr) (n119 c119 : Nat),
                              w_12.cell? ⟨w.heap.size, 1, none⟩ = some (.slice A119 n119 c119) ∧
                              let i121 : Int := IntKind.i64.wrap ((n116 : Int) + (n119 : Int));
                              ∃ (A123 : Option Addr) (n123 c123 : Nat),
                              w_12.cell? ⟨w.heap.size, 2, none⟩ = some (.slice A123 n123 c123) ∧
                              let i125 : Int := IntKind.i64.wrap (i121 + (n123 : Int));
                              Calls Try.prog 30 #[.pointer p41] w_12.drew fun e_11 w_13 =>
                              ∃ (x114 : Int),
                              e_11 = .returned (.int .i64 x114) ∧
                              (w_13.cell? ⟨w.heap.size, 2, none⟩ = some (.slice A123 n123 c123) ∧ w_13.cell? ⟨w.heap.size, 1, none⟩ = some (.slice A119 n119 c119) ∧ w_13.cell? ⟨w.heap.size, 0, none⟩ = some (.slice A116 n116 c116) ∧ True) ∧
                              sel (decide ((x114 : Int) < (i125 : Int))) (
                                sel b19 (
                                  Calls Try.prog 18 #[.slice A49_0 n49_0 c49_0, .slice A65_0 n65_0 c65_0] w_13 fun e_12 w_14 =>
                                  ∃ (b131 : Bool),
                                  e_12 = .returned (.bool b131) ∧
                                  R (.bool b131) w_14) (
                                  R (.bool false) w_13)) (
                                Calls Try.prog 27 #[.slice A49_0 n49_0 c49_0, .pointer p41] w_13 fun e_13 w_15 =>
                                ∃ (x136_0 : Int) (A136_1_0 : Option Addr) (n136_1_0 c136_1_0 : Nat) (A136_1_1 : Option Addr) (n136_1_1 c136_1_1 : Nat) (A136_1_2 : Option Addr) (n136_1_2 c136_1_2 : Nat) (A136_1_3 : Option Addr) (n136_1_3 c136_1_3 : Nat) (A136_1_4 : Option Addr) (n136_1_4 c136_1_4 : Nat) (A136_1_5 : Option Addr) (n136_1_5 c136_1_5 : Nat) (x136_2 : Int),
                                e_13 = .returned (.tuple #[.int .i64 x136_0, .agg #[.slice A136_1_0 n136_1_0 c136_1_0, .slice A136_1_1 n136_1_1 c136_1_1, .slice A136_1_2 n136_1_2 c136_1_2, .slice A136_1_3 n136_1_3 c136_1_3, .slice A136_1_4 n136_1_4 c136_1_4, .slice A136_1_5 n136_1_5 c136_1_5], .int .i64 x136_2]) ∧
                                let w_16 : World := World.alloc w_15 (.cells #[.slice none 0 0, .slice none 0 0, .slice none 0 0, .slice none 0 0, .slice none 0 0, .slice none 0 0] 29);
                                canStore w_16 w_15.heap.size 0 6 ∧
                                let w_17 : World := setCs w_16 w_15.heap.size 0 [.slice A136_1_0 n136_1_0 c136_1_0, .slice A136_1_1 n136_1_1 c136_1_1, .slice A136_1_2 n136_1_2 c136_1_2, .slice A136_1_3 n136_1_3 c136_1_3, .slice A136_1_4 n136_1_4 c136_1_4, .slice A136_1_5 n136_1_5 c136_1_5];
                                sel b19 (
                                  Calls Try.prog 18 #[.slice A49_0 n49_0 c49_0, .slice A65_0 n65_0 c65_0] w_17 fun e_14 w_18 =>
                                  ∃ (b144 : Bool),
                                  e_14 = .returned (.bool b144) ∧
                                  sel b144 (
                                    sel ((x136_2 : Int) == (0 : Int)) (
                                      sel ((x136_0 : Int) == (xa0 : Int)) (
                                        ∃ (A156_0 : Option Addr) (n156_0 c156_0 : Nat),
                                        w_18.cell? ⟨w.heap.size, 0, none⟩ = some (.slice A156_0 n156_0 c156_0) ∧
                                        ∃ (A156_1 : Option Addr) (n156_1 c156_1 : Nat),
                                        w_18.cell? ⟨w.heap.size, 1, none⟩ = some (.slice A156_1 n156_1 c156_1) ∧
                                        ∃ (A156_2 : Option Addr) (n156_2 c156_2 : Nat),
                                        w_18.cell? ⟨w.heap.size, 2, none⟩ = some (.slice A156_2 n156_2 c156_2) ∧
                                        ∃ (A156_3 : Option Addr) (n156_3 c156_3 : Nat),
                                        w_18.cell? ⟨w.heap.size, 3, none⟩ = some (.slice A156_3 n156_3 c156_3) ∧
                                        ∃ (A156_4 : Option Addr) (n156_4 c156_4 : Nat),
                                        w_18.cell? ⟨w.heap.size, 4, none⟩ = some (.slice A156_4 n156_4 c156_4) ∧
                                        ∃ (A156_5 : Option Addr) (n156_5 c156_5 : Nat),
                                        w_18.cell? ⟨w.heap.size, 5, none⟩ = some (.slice A156_5 n156_5 c156_5) ∧
                                        ∃ (A157_0 : Option Addr) (n157_0 c157_0 : Nat),
                                        w_18.cell? ⟨w_15.heap.size, 0, none⟩ = some (.slice A157_0 n157_0 c157_0) ∧
                                        ∃ (A157_1 : Option Addr) (n157_1 c157_1 : Nat),
                                        w_18.cell? ⟨w_15.heap.size, 1, none⟩ = some (.slice A157_1 n157_1 c157_1) ∧
                                        ∃ (A157_2 : Option Addr) (n157_2 c157_2 : Nat),
                                        w_18.cell? ⟨w_15.heap.size, 2, none⟩ = some (.slice A157_2 n157_2 c157_2) ∧
                                        ∃ (A157_3 : Option Addr) (n157_3 c157_3 : Nat),
                                        w_18.cell? ⟨w_15.heap.size, 3, none⟩ = some (.slice A157_3 n157_3 c157_3) ∧
                                        ∃ (A157_4 : Option Addr) (n157_4 c157_4 : Nat),
                                        w_18.cell? ⟨w_15.heap.size, 4, none⟩ = some (.slice A157_4 n157_4 c157_4) ∧
                                        ∃ (A157_5 : Option Addr) (n157_5 c157_5 : Nat),
                                        w_18.cell? ⟨w_15.heap.size, 5, none⟩ = some (.slice A157_5 n157_5 c157_5) ∧
                                        Calls Try.prog 22 #[.agg #[.slice A156_0 n156_0 c156_0, .slice A156_1 n156_1 c156_1, .slice A156_2 n156_2 c156_2, .slice A156_3 n156_3 c156_3, .slice A156_4 n156_4 c156_4, .slice A156_5 n156_5 c156_5], .agg #[.slice A157_0 n157_0 c157_0, .slice A157_1 n157_1 c157_1, .slice A157_2 n157_2 c157_2, .slice A157_3 n157_3 c157_3, .slice A157_4 n157_4 c157_4, .slice A157_5 n157_5 c157_5]] w_18 fun e_15 w_19 =>
                                        ∃ (b158 : Bool),
                                        e_15 = .returned (.bool b158) ∧
                                        R (.bool b158) w_19) (
                                        R (.bool false) w_18)) (
                                      R (.bool false) w_18)) (
                                    R (.bool false) w_18)) (
                                  R (.bool false) w_17))))))))))))))))
theorem f7.eq (xa0 : Int) (xa1 : Int) (Aa2_0 : Option Addr) (na2_0 ca2_0 : Nat) (Aa2_1 : Option Addr) (na2_1 ca2_1 : Nat) (Aa2_2 : Option Addr) (na2_2 ca2_2 : Nat) (Aa2_3 : Option Addr) (na2_3 ca2_3 : Nat) (Aa2_4 : Option Addr) (na2_4 ca2_4 : Nat) (Aa2_5 : Option Addr) (na2_5 ca2_5 : Nat) (w : World) (R : Value → World → Prop) : f7.VC xa0 xa1 Aa2_0 na2_0 ca2_0 Aa2_1 na2_1 ca2_1 Aa2_2 na2_2 ca2_2 Aa2_3 na2_3 ca2_3 Aa2_4 na2_4 ca2_4 Aa2_5 na2_5 ca2_5 w R = funV Try.prog Try.f7 f7.AL f7.AC #[.int .i64 xa0, .int .i64 xa1, .agg #[.slice Aa2_0 na2_0 ca2_0, .slice Aa2_1 na2_1 ca2_1, .slice Aa2_2 na2_2 ca2_2, .slice Aa2_3 na2_3 ca2_3, .slice Aa2_4 na2_4 ca2_4, .slice Aa2_5 na2_5 ca2_5]] w R := by kernel_rfl
theorem f7.calls {xa0 : Int} {xa1 : Int} {Aa2_0 : Option Addr} {na2_0 ca2_0 : Nat} {Aa2_1 : Option Addr} {na2_1 ca2_1 : Nat} {Aa2_2 : Option Addr} {na2_2 ca2_2 : Nat} {Aa2_3 : Option Addr} {na2_3 ca2_3 : Nat} {Aa2_4 : Option Addr} {na2_4 ca2_4 : Nat} {Aa2_5 : Option Addr} {na2_5 ca2_5 : Nat} {w : World} {R : Value → World → Prop} (h : f7.VC xa0 xa1 Aa2_0 na2_0 ca2_0 Aa2_1 na2_1 ca2_1 Aa2_2 na2_2 ca2_2 Aa2_3 na2_3 ca2_3 Aa2_4 na2_4 ca2_4 Aa2_5 na2_5 ca2_5 w R) : Calls Try.prog 7 #[.int .i64 xa0, .int .i64 xa1, .agg #[.slice Aa2_0 na2_0 ca2_0, .slice Aa2_1 na2_1 ca2_1, .slice Aa2_2 na2_2 ca2_2, .slice Aa2_3 na2_3 ca2_3, .slice Aa2_4 na2_4 ca2_4, .slice Aa2_5 na2_5 ca2_5]] w fun e w' => ∃ v, e = .returned v ∧ R v w' :=
  funV_sound (fn := Try.f7) (AL := f7.AL) (AC := f7.AC) W26.mixed (by kernel_rfl) (by rw [← f7.eq xa0 xa1 Aa2_0 na2_0 ca2_0 Aa2_1 na2_1 ca2_1 Aa2_2 na2_2 ca2_2 Aa2_3 na2_3 ca2_3 Aa2_4 na2_4 ca2_4 Aa2_5 na2_5 ca2_5]; exact h)

end Go.Proofs.Ytjmlfknogjaemaa
