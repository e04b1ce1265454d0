/- The document's table. -/
import Derived.Test.YtddbebhklmaeoaaM28
import Derived.Test.YtddbebhklmaeoaaM18
set_option linter.unusedVariables false
set_option linter.unusedSimpArgs false
set_option maxRecDepth 10000
namespace Go.Proofs.Ytddbebhklmaeoaa
open Go Go.Proofs.Ytddbebhklmaeoaa.Vc
namespace JG
open Vc.PG JD
abbrev encB (b : Bool) : Value := .bool b
theorem info4 : ∃ i, Try.prog.info? 4 = some i ∧ i.zero = some (.bool false) ∧ i.size = 1 ∧ i.bytes ≤ 1000 := ⟨Try.prog.types[4]!, by kernel_rfl, by kernel_rfl, by kernel_rfl, of_decide_eq_true (by kernel_rfl)⟩
theorem info81 : ∃ i, Try.prog.info? 81 = some i ∧ i.zero = some (.slice none 0 0) ∧ i.size = 1 ∧ i.bytes ≤ 1000 := ⟨Try.prog.types[81]!, by kernel_rfl, by kernel_rfl, by kernel_rfl, of_decide_eq_true (by kernel_rfl)⟩
theorem under81 : Try.prog.underlying 81 = some (.slice 4) := by kernel_rfl
theorem under77 : Try.prog.underlying 77 = some (.slice 81) := by kernel_rfl
theorem appB {S : List Nat} {w0 w : World} {L : List Chunk} (h : St S w0 w L) (i : Nat) {A : Option Addr} {n c : Nat} {l : List Bool} (hi : L[i]? = some (Chunk.ls encB 4 (.slice A n c) l)) (b : Bool) (hl : l.length ≤ 40000000) :
    ∃ (A' : Option Addr) (n' c' : Nat) (w' : World), (Builtin.append_ #[81, 81] 81 #[.slice A n c, .slice (some ⟨w.heap.size, 0, none⟩) 1 1]).run Try.prog (World.alloc w (.cells #[.bool b] 4)) = .ok (.slice A' n' c') w' ∧ St S w0 w' (L.set i (Chunk.ls encB 4 (.slice A' n' c') (l ++ [b]))) := by
  obtain ⟨ti, i1, i2, i3, i4⟩ := info4
  obtain ⟨g, cap, w', h1, h2⟩ := St.app (ty := 81) (enc := encB) (fun _ => rfl) under81 i1 i2 i3 rfl i4 h i hi b hl
  exact ⟨_, _, _, w', h1, h2⟩
theorem appS' {S : List Nat} {w0 w : World} {L : List Chunk} (h : St S w0 w L) (i : Nat) {A : Option Addr} {n c : Nat} {l : List Sl} (hi : L[i]? = some (Chunk.ls Sl.v 81 (.slice A n c) l)) (s : Sl) (hl : l.length ≤ 40000000) :
    ∃ (A' : Option Addr) (n' c' : Nat) (w' : World), (Builtin.append_ #[77, 77] 77 #[.slice A n c, .slice (some ⟨w.heap.size, 0, none⟩) 1 1]).run Try.prog (World.alloc w (.cells #[s.v] 81)) = .ok (.slice A' n' c') w' ∧ St S w0 w' (L.set i (Chunk.ls Sl.v 81 (.slice A' n' c') (l ++ [s]))) := by
  obtain ⟨ti, i1, i2, i3, i4⟩ := info81
  obtain ⟨g, cap, w', h1, h2⟩ := St.app (ty := 77) (enc := Sl.v) (fun _ => rfl) under77 i1 i2 i3 rfl i4 h i hi s hl
  exact ⟨_, _, _, w', h1, h2⟩
/-- Slices of bools that are read. -/
def RowsB (w : World) (ss : List Sl) (Y : List (List Bool)) : Prop := ss.length = Y.length ∧ ∀ a, a < Y.length → RdL .bool w (ss.getD a nilS) (Y.getD a [])
theorem RowsB.snoc {w : World} {ss : List Sl} {Y : List (List Bool)} {s : Sl} {r : List Bool} (h : RowsB w ss Y) (hr : RdL .bool w s r) : RowsB w (ss ++ [s]) (Y ++ [r]) := by
  have hl := h.1
  refine ⟨by simp [hl], fun a ha => ?_⟩
  rw [List.length_append, List.length_singleton] at ha
  rcases Nat.lt_or_ge a Y.length with h1 | h1
  · rw [List.getD_eq_getElem?_getD, List.getElem?_append_left (by omega), List.getD_eq_getElem?_getD, List.getElem?_append_left h1, ← List.getD_eq_getElem?_getD, ← List.getD_eq_getElem?_getD]
    exact h.2 a h1
  · have : a = Y.length := by omega
    subst this
    rw [List.getD_eq_getElem?_getD, List.getElem?_append_right (by omega), List.getD_eq_getElem?_getD, List.getElem?_append_right (Nat.le_refl _), hl, Nat.sub_self]
    exact hr
theorem map_getD {α β : Type} (f : α → β) (l : List α) (d : β) (e : α) {q : Nat} (h : q < l.length) : (l.map f).getD q d = f (l.getD q e) := by
  rw [List.getD_eq_getElem?_getD, List.getElem?_map, List.getD_eq_getElem?_getD, List.getElem?_eq_getElem h]; rfl
theorem bools_read {w : World} {F : List Nat} {z : Sl} {l : List Bool} (h : (Chunk.ls encB 4 z.v l).holds w F) : RdL .bool w z l :=
  sl_reads (e := .bool) 4 h (by simp) (fun q hq => by rw [map_getD _ _ _ false hq]; rfl)
theorem rows_read {w : World} {F : List Nat} {z : Sl} {ss : List Sl} {Y : List (List Bool)} (h : (Chunk.ls Sl.v 81 z.v ss).holds w F) (hr : RowsB w ss Y) : RdL (.sl .bool) w z Y :=
  sl_reads (e := .sl .bool) 81 h (by simp [hr.1]) (fun q hq => by rw [map_getD _ _ _ nilS (by rw [hr.1]; exact hq)]; exact rd_sl.2 ⟨_, rfl, hr.2 q hq⟩)
theorem range_snoc (f : Nat → Bool) (k : Nat) : (List.range (k + 1)).map f = (List.range k).map f ++ [f k] := by
  rw [List.range_succ, List.map_append]; rfl
theorem tabP_take {p : PolD} {l : List CalD} {q : Nat} (h : q < l.length + 1) : (tabP p l).take (q + 1) = (tabP p l).take q ++ [(List.range l.length).map (tabB p l ((q : Int) - 1))] := by
  have hl : (tabP p l).length = l.length + 1 := by simp [tabP]
  rw [List.take_add_one, List.getElem?_eq_getElem (by omega)]
  have := tabP_row (p := p) (l := l) h
  rw [List.getD_eq_getElem?_getD, List.getElem?_eq_getElem (by omega)] at this
  rw [← this]; rfl
theorem tabledR {w : World} {v : PV} {x : Sl} {p : PolD} {l : List CalD} (hp : InP w v p) (hc0 : RdL calT w x l) (sp : SmallP p) (sc : SmallC l) (hn : l.length ≤ 12) :
    Calls Try.prog 27 #[v.v, x.v] w fun e w' => ∃ (t : Nat) (y : Sl), e = .returned (.pointer (some ⟨t, 0, none⟩)) ∧ TabAt w' t x y p l ∧ Fr [] w w' := by
  refine Calls.mono (f27.calls (R := fun e w' => ∃ (t : Nat) (y : Sl), e = .pointer (some ⟨t, 0, none⟩) ∧ TabAt w' t x y p l ∧ Fr [] w w') ?_) ?_
  · dsimp only [f27.VC]
    have hl : x.2.1 = l.length := hc0.1
    have hS1 := (St.start w).alloc v.cells 28
    have hS2 := hS1.alloc #[x.v, .slice none 0 0] 117
    generalize World.alloc w (.cells v.cells 28) = w1 at *
    generalize w.heap.size = b1 at *
    change St [] w (World.alloc w1 (.cells #[.slice x.1 x.2.1 x.2.2, .slice none 0 0] 117)) _ at hS2
    generalize World.alloc w1 (.cells #[.slice x.1 x.2.1 x.2.2, .slice none 0 0] 117) = w2 at *
    generalize w1.heap.size = t at *
    have h0 := St.new hS2 (c := Chunk.keep (fun w => RowsB w [] ((tabP p l).take 0))) (F := []) (Fr.refl [] _) ⟨fun _ _ _ _ => ⟨rfl, fun q hq => by simp at hq⟩, by simp⟩ (by simp)
    have hS3 := (h0.nil 81 1)
    have hS4 : St [] w w2 (Chunk.blk t #[x.v, nilS.v] 117 :: Chunk.ls Sl.v 81 nilS.v [] :: Chunk.keep (fun w => RowsB w [] ((tabP p l).take 0)) :: Chunk.blk b1 v.cells 28 :: []) := hS3.sel [2, 0, 1, 3] (by decide) _ rfl
    refine ⟨fun i w' r => ∃ (q : Nat) (y : Sl) (ss : List Sl), i = (q : Int) - 1 ∧ q + r = l.length + 1 ∧ St [] w w' (Chunk.blk t #[x.v, y.v] 117 :: Chunk.ls Sl.v 81 y.v ss :: Chunk.keep (fun w => RowsB w ss ((tabP p l).take q)) :: Chunk.blk b1 v.cells 28 :: []), ⟨l.length + 1, 0, nilS, [], rfl, by omega, hS4⟩, ?_⟩
    clear h0 hS1 hS2 hS3 hS4
    rintro d i w3 r ⟨q, y, ss, rfl, hq, hS3⟩
    have hB1 := hS3.blk 3 rfl
    refine sel_of (fun hd => ?_) (fun hd => ?_)
    · have hi : q < l.length + 1 := by have := of_decide_eq_true hd; omega
      have hS4 := hS3.alloc #[.slice none 0 0, .slice none 0 0, .slice none 0 0, .slice none 0 0, .slice none 0 0, .slice none 0 0, .slice none 0 0, .slice none 0 0, .slice none 0 0, .slice none 0 0, .slice none 0 0] 28
      have hS5 := hS4.over 0 rfl v.l rfl
      refine ⟨_, _, _, hB1.cell rfl, _, _, _, hB1.cell rfl, _, _, _, hB1.cell rfl, _, _, _, hB1.cell rfl, _, _, _, hB1.cell rfl, _, _, _, hB1.cell rfl, _, _, _, hB1.cell rfl, _, _, _, hB1.cell rfl, _, _, _, hB1.cell rfl, _, _, _, hB1.cell rfl, _, _, _, hB1.cell rfl, (hS4.blk 0 rfl).can (by simp), ?_⟩
      generalize World.alloc w3 (.cells #[.slice none 0 0, .slice none 0 0, .slice none 0 0, .slice none 0 0, .slice none 0 0, .slice none 0 0, .slice none 0 0, .slice none 0 0, .slice none 0 0, .slice none 0 0, .slice none 0 0] 28) = w4 at *
      generalize w3.heap.size = b3 at *
      change St [] w (setCs w4 b3 0 [.slice v.a.1 v.a.2.1 v.a.2.2, .slice v.s.1 v.s.2.1 v.s.2.2, .slice v.r.1 v.r.2.1 v.r.2.2, .slice v.o.1 v.o.2.1 v.o.2.2, .slice v.g.1 v.g.2.1 v.g.2.2, .slice v.m.1 v.m.2.1 v.m.2.2, .slice v.i.1 v.i.2.1 v.i.2.2, .slice v.q.1 v.q.2.1 v.q.2.2, .slice v.t.1 v.t.2.1 v.t.2.2, .slice v.u.1 v.u.2.1 v.u.2.2, .slice v.e.1 v.e.2.1 v.e.2.2]) _ at hS5
      generalize setCs w4 b3 0 [.slice v.a.1 v.a.2.1 v.a.2.2, .slice v.s.1 v.s.2.1 v.s.2.2, .slice v.r.1 v.r.2.1 v.r.2.2, .slice v.o.1 v.o.2.1 v.o.2.2, .slice v.g.1 v.g.2.1 v.g.2.2, .slice v.m.1 v.m.2.1 v.m.2.2, .slice v.i.1 v.i.2.1 v.i.2.2, .slice v.q.1 v.q.2.1 v.q.2.2, .slice v.t.1 v.t.2.1 v.t.2.2, .slice v.u.1 v.u.2.1 v.u.2.2, .slice v.e.1 v.e.2.1 v.e.2.2] = w5 at *
      replace hS5 : St [] w w5 (Chunk.blk b3 v.cells 28 :: Chunk.blk t #[x.v, y.v] 117 :: Chunk.ls Sl.v 81 y.v ss :: Chunk.keep (fun w => RowsB w ss ((tabP p l).take q)) :: Chunk.blk b1 v.cells 28 :: []) := hS5
      refine ⟨fun w' => ∃ u : PV, InP w u (polAt p l ((q : Int) - 1)) ∧ SmallP (polAt p l ((q : Int) - 1)) ∧ St [] w w' (Chunk.blk b3 u.cells 28 :: Chunk.blk t #[x.v, y.v] 117 :: Chunk.ls Sl.v 81 y.v ss :: Chunk.keep (fun w => RowsB w ss ((tabP p l).take q)) :: Chunk.blk b1 v.cells 28 :: []), sel_of (fun h1 => ?_) (fun h1 => ⟨rfl, v, ?_, ?_, hS5⟩), ?_⟩
      · have h1 := of_decide_eq_true h1
        obtain ⟨z, hz⟩ : ∃ z : Nat, (q : Int) - 1 = (z : Int) := ⟨q - 1, by omega⟩
        rw [hz]
        have hpz : polAt p l (z : Int) = cPol (l.getD z cd) := by unfold polAt; rw [if_pos (by omega)]; rfl
        have hsz : SmallP (cPol (l.getD z cd)) := sc.p _ ((mem_getD cd _ _).2 ⟨z, by omega, rfl⟩)
        obtain ⟨bb, oo, hA, hc⟩ := RdL.call hc0 (by omega)
        obtain ⟨u, hu, _, _, hc1⟩ := hc z (by omega)
        have hc := fun j y h => hS5.frame.cell (hc1 j y h)
        refine ⟨by omega, by omega, needPtr_of hA ⟨_, _, _, hc 5 _ rfl, _, _, _, hc 6 _ rfl, _, _, _, hc 7 _ rfl, _, _, _, hc 8 _ rfl, _, _, _, hc 9 _ rfl, _, _, _, hc 10 _ rfl, _, _, _, hc 11 _ rfl, _, _, _, hc 12 _ rfl, _, _, _, hc 13 _ rfl, _, _, _, hc 14 _ rfl, _, _, _, hc 15 _ rfl, (hS5.blk 0 rfl).can (by simp), rfl, u, ?_, ?_, hS5.over 0 rfl u.l rfl⟩⟩
        · rw [hpz]; exact hu
        · rw [hpz]; exact hsz
      · unfold polAt; rw [if_neg (of_decide_eq_false h1)]; exact hp
      · unfold polAt; rw [if_neg (of_decide_eq_false h1)]; exact sp
      · rintro _ w7 ⟨u, hu, hsp, hS7⟩
        have hS7' : St [] w w7 (Chunk.ls encB 4 (.slice none 0 0) [] :: Chunk.blk b3 u.cells 28 :: Chunk.blk t #[x.v, y.v] 117 :: Chunk.ls Sl.v 81 y.v ss :: Chunk.keep (fun w => RowsB w ss ((tabP p l).take q)) :: Chunk.blk b1 v.cells 28 :: []) := hS7.nil 4 1
        refine ⟨fun A n c i w' r => ∃ k : Nat, i = (k : Int) ∧ k + r = x.2.1 ∧ St [] w w' (Chunk.ls encB 4 (.slice A n c) ((List.range k).map (tabB p l ((q : Int) - 1))) :: Chunk.blk b3 u.cells 28 :: Chunk.blk t #[x.v, y.v] 117 :: Chunk.ls Sl.v 81 y.v ss :: Chunk.keep (fun w => RowsB w ss ((tabP p l).take q)) :: Chunk.blk b1 v.cells 28 :: []), ⟨x.2.1, 0, rfl, by omega, hS7'⟩, ?_⟩
        clear hS7 hS7' hS5 hS4 hS3 hB1
        rintro d A n c i w8 r1 ⟨k, rfl, hk, hS8⟩
        refine sel_of (fun hd2 => ?_) (fun hd2 => ?_)
        · have hik : k < x.2.1 := by have := of_decide_eq_true hd2; omega
          obtain ⟨bb, oo, hA, hc⟩ := RdL.call hc0 (by omega)
          have hck : ∃ vk : PV, InP w vk (cPol (l.getD k cd)) ∧ ∀ j y, (calV (l.getD k cd) vk)[j]? = some y → w.cell? ⟨bb, oo + k * 19 + j, none⟩ = some y := by
            obtain ⟨vk, a, _, _, b⟩ := hc k hik; exact ⟨vk, a, b⟩
          obtain ⟨vk, hvk, hck⟩ := hck
          refine ⟨fun b w' => b = tabB p l ((q : Int) - 1) k ∧ St [] w w' (Chunk.ls encB 4 (.slice A n c) ((List.range k).map (tabB p l ((q : Int) - 1))) :: Chunk.blk b3 u.cells 28 :: Chunk.blk t #[x.v, y.v] 117 :: Chunk.ls Sl.v 81 y.v ss :: Chunk.keep (fun w => RowsB w ss ((tabP p l).take q)) :: Chunk.blk b1 v.cells 28 :: []), ?_, ?_⟩
          · refine ⟨fun b w' => b = (!cWrite (l.getD k cd) && (decide ((q : Int) - 1 < 0) || (cWrite (l.getD ((q : Int) - 1).toNat cd) && !cFailed (l.getD ((q : Int) - 1).toNat cd)))) ∧ St [] w w' (Chunk.ls encB 4 (.slice A n c) ((List.range k).map (tabB p l ((q : Int) - 1))) :: Chunk.blk b3 u.cells 28 :: Chunk.blk t #[x.v, y.v] 117 :: Chunk.ls Sl.v 81 y.v ss :: Chunk.keep (fun w => RowsB w ss ((tabP p l).take q)) :: Chunk.blk b1 v.cells 28 :: []), ?_, ?_⟩
            · refine ⟨by omega, by omega, needPtr_of hA ⟨_, hS8.frame.cell (hck 2 _ rfl), sel_of (fun h1 => sel_of (fun h2 => ⟨rfl, ?_, hS8⟩) (fun h2 => ?_)) (fun h1 => ⟨rfl, ?_, hS8⟩)⟩⟩
              · rw [show (!cWrite (l.getD k cd)) = true from h1, h2]; rfl
              · have h2' := of_decide_eq_false h2
                obtain ⟨z, hz⟩ : ∃ z : Nat, (q : Int) - 1 = (z : Int) := ⟨q - 1, by omega⟩
                rw [h2, hz]
                rw [show ((z : Int)).toNat = z from rfl]
                obtain ⟨vz, _, _, _, hcz⟩ := hc z (by omega)
                have hcz := fun j y h => hS8.frame.cell (hcz j y h)
                generalize hcl : l.getD z cd = cl at *
                refine ⟨by omega, by omega, needPtr_of hA ⟨_, hcz 0 _ rfl, _, hcz 1 _ rfl, _, hcz 2 _ rfl, _, hcz 3 _ rfl, _, hcz 4 _ rfl, _, _, _, hcz 5 _ rfl, _, _, _, hcz 6 _ rfl, _, _, _, hcz 7 _ rfl, _, _, _, hcz 8 _ rfl, _, _, _, hcz 9 _ rfl, _, _, _, hcz 10 _ rfl, _, _, _, hcz 11 _ rfl, _, _, _, hcz 12 _ rfl, _, _, _, hcz 13 _ rfl, _, _, _, hcz 14 _ rfl, _, _, _, hcz 15 _ rfl, _, hcz 16 _ rfl, _, hcz 17 _ rfl, _, hcz 18 _ rfl, Calls.mono (hS8.step0 (countsR cl vz)) ?_⟩⟩
                rintro _ w9 ⟨rfl, hS9⟩
                refine ⟨_, rfl, rfl, ?_, by rw [← hz]; exact hS9⟩
                rw [show (!cWrite (l.getD k cd)) = true from h1]; rfl
              · rw [show (!cWrite (l.getD k cd)) = false from h1]; rfl
            · rintro _ b50 w10 ⟨rfl, hS10⟩
              refine sel_of (fun h1 => ?_) (fun h1 => ⟨rfl, ?_, hS10⟩)
              · have hBu := hS10.blk 1 rfl
                have hcz := fun j y h => hS10.frame.cell (hck j y h)
                refine ⟨by omega, by omega, needPtr_of hA ⟨_, _, _, hBu.cell rfl, _, _, _, hBu.cell rfl, _, _, _, hBu.cell rfl, _, _, _, hBu.cell rfl, _, _, _, hBu.cell rfl, _, _, _, hBu.cell rfl, _, _, _, hBu.cell rfl, _, _, _, hBu.cell rfl, _, _, _, hBu.cell rfl, _, _, _, hBu.cell rfl, _, _, _, hBu.cell rfl, _, hcz 16 _ rfl, _, hcz 17 _ rfl, _, hcz 18 _ rfl, Calls.mono (hS10.drew.step0 (allowsR (hu.fr hS10.drew.frame) hsp _ _ _)) ?_⟩⟩
                rintro _ w11 ⟨rfl, hS11⟩
                refine ⟨_, rfl, rfl, ?_, hS11⟩
                unfold tabB
                rw [h1]; rfl
              · unfold tabB
                rw [h1]; rfl
          · rintro _ b10 w12 ⟨rfl, hS12⟩
            obtain ⟨A', n', c', w14, hrun, hS14⟩ := appB hS12 0 rfl (tabB p l ((q : Int) - 1) k) (by simp; omega)
            rw [inc k x.2.1 (by omega) (by omega), ]
            refine ⟨_, _, _, w14, hrun, rfl, r1 - 1, by omega, k + 1, rfl, by omega, ?_⟩
            rw [range_snoc]
            exact hS14
        · have hik : k = l.length := by have := of_decide_eq_false hd2; omega
          have hBt := hS8.blk 2 rfl
          obtain ⟨A', n', c', w16, hrun, hS16⟩ := appS' hS8 3 rfl (A, n, c) (by have := (hS8.says 4 rfl).1; rw [this]; simp [tabP]; omega)
          have hS17 := hS16.set 2 rfl 1 [Sl.v (A', n', c')]
          rw [putD] at hS17
          have ew : IntKind.i64.wrap ((q : Int) - 1 + 1) = ((q + 1 : Nat) : Int) - 1 := by rw [i64_id (by omega) (by omega)]; omega
          refine ⟨_, _, _, hBt.cell rfl, _, _, _, w16, hrun, (hS16.blk 2 rfl).can (by simp), ?_⟩
          rw [ew]
          refine ⟨rfl, r - 1, by omega, q + 1, (A', n', c'), ss ++ [(A, n, c)], rfl, by omega, ?_⟩
          have hS18 := hS17.keep 0 rfl (fun w => RdL .bool w (A, n, c) ((List.range l.length).map (tabB p l ((q : Int) - 1)))) (fun F w' hw => by rw [hik] at hw; exact bools_read (z := (A, n, c)) hw)
          have hS19 := St.both (hS18.sel [4, 0, 2, 3, 5] (by decide) [Chunk.keep (fun w => RowsB w ss ((tabP p l).take q)), Chunk.keep (fun w => RdL .bool w (A, n, c) ((List.range l.length).map (tabB p l ((q : Int) - 1)))), Chunk.blk t #[x.v, Sl.v (A', n', c')] 117, Chunk.ls Sl.v 81 (.slice A' n' c') (ss ++ [(A, n, c)]), Chunk.blk b1 v.cells 28] rfl)
          have hS20 := hS19.keep 0 rfl (fun w => RowsB w (ss ++ [(A, n, c)]) ((tabP p l).take (q + 1))) (fun F w' hw => by
            obtain ⟨g1, g2⟩ := Chunk.keep_says hw
            rw [tabP_take hi]
            exact g1.snoc g2)
          exact hS20.sel [1, 2, 0, 3] (by decide) _ rfl
    · have hi : q = l.length + 1 := by have := of_decide_eq_false hd; omega
      refine ⟨t, y, rfl, ⟨hS3.blk 0 rfl, hc0.fr hS3.frame, ?_⟩, hS3.frame⟩
      have hs := hS3.says 2 rfl
      rw [List.take_of_length_le (by simp [tabP]; omega)] at hs
      obtain ⟨F, hF, _⟩ := hS3.at 1 rfl
      exact rows_read hF hs
  · rintro e w' ⟨v, rfl, t, y, rfl, h⟩; exact ⟨t, y, rfl, h⟩
end JG
end Go.Proofs.Ytddbebhklmaeoaa
/- Which states lead on. -/
set_option linter.unusedVariables false
set_option linter.unusedSimpArgs false
set_option maxRecDepth 10000
namespace Go.Proofs.Ytddbebhklmaeoaa
open Go Go.Proofs.Ytddbebhklmaeoaa.Vc
namespace JG
open Vc.PG JD
abbrev gd : Sl × List Bool := (nilS, [])
def rowsG (G : List (Sl × List Bool)) : List Chunk := G.map fun g => Chunk.ls encB 4 g.1.v g.2
theorem rowsG_at {G : List (Sl × List Bool)} {q : Nat} (h : q < G.length) : (rowsG G)[q]? = some (Chunk.ls encB 4 (G.getD q gd).1.v (G.getD q gd).2) := by
  unfold rowsG
  rw [List.getElem?_map, List.getD_eq_getElem?_getD, List.getElem?_eq_getElem h]; rfl
theorem getD_set {α : Type} {l : List α} {i q : Nat} {a d : α} : (l.set i a).getD q d = if q = i ∧ i < l.length then a else l.getD q d := by
  rw [List.getD_eq_getElem?_getD, List.getElem?_set]
  by_cases h : i = q
  · subst h
    by_cases h2 : i < l.length
    · rw [if_pos rfl, if_pos h2, if_pos ⟨rfl, h2⟩]; rfl
    · rw [if_pos rfl, if_neg h2, if_neg (fun h => h2 h.2), List.getD_eq_getElem?_getD, List.getElem?_eq_none (by omega)]
  · rw [if_neg h, if_neg (fun hh => h hh.1.symm), List.getD_eq_getElem?_getD]
theorem goodGet {w w' : World} {A : Option Addr} {n c : Nat} {G : List (Sl × List Bool)} (h : St [] w w' (Chunk.ls Sl.v 81 (.slice A n c) (G.map (·.1)) :: rowsG G)) {q j : Nat} (hq : q < G.length) (hj : j < (G.getD q gd).2.length) :
    ∃ g g2, A = some ⟨g, 0, none⟩ ∧ (G.getD q gd).1.1 = some ⟨g2, 0, none⟩ ∧ w'.cell? ⟨g, 0 + (q : Int).toNat * 1, none⟩ = some (G.getD q gd).1.v ∧ (G.getD q gd).1.2.1 = (G.getD q gd).2.length ∧ w'.cell? ⟨g2, 0 + (j : Int).toNat * 1, none⟩ = some (.bool ((G.getD q gd).2.getD j false)) := by
  have hn := h.lsLen 0 rfl
  rw [List.length_map] at hn
  obtain ⟨g, e1, e2⟩ := h.lsGet nilS 0 rfl (by omega)
  have e3 := e2 q (by omega)
  rw [map_getD _ _ _ gd hq] at e3
  have hL := h.lsLen (q + 1) (show (Chunk.ls Sl.v 81 (.slice A n c) (G.map (·.1)) :: rowsG G)[q + 1]? = _ from rowsG_at hq)
  obtain ⟨g2, e4, e5⟩ := h.lsGet false (q + 1) (show (Chunk.ls Sl.v 81 (.slice A n c) (G.map (·.1)) :: rowsG G)[q + 1]? = _ from rowsG_at hq) (by omega)
  have e6 := e5 j (by omega)
  refine ⟨g, g2, e1, e4, ?_, hL, ?_⟩
  · rw [show 0 + (q : Int).toNat * 1 = q by simp]; exact e3
  · rw [show 0 + (j : Int).toNat * 1 = j by simp]; exact e6
theorem goodSet {w w' : World} {A : Option Addr} {n c : Nat} {G : List (Sl × List Bool)} {b : Chunk} (h : St [] w w' (b :: Chunk.ls Sl.v 81 (.slice A n c) (G.map (·.1)) :: rowsG G)) {q j : Nat} (hq : q < G.length) (hj : j < (G.getD q gd).2.length) (v : Bool) :
    ∃ g g2, A = some ⟨g, 0, none⟩ ∧ (G.getD q gd).1.1 = some ⟨g2, 0, none⟩ ∧ w'.cell? ⟨g, 0 + (q : Int).toNat * 1, none⟩ = some (G.getD q gd).1.v ∧ (G.getD q gd).1.2.1 = (G.getD q gd).2.length ∧ w'.cell? ⟨g2, 0 + (j : Int).toNat * 1, none⟩ = some (.bool ((G.getD q gd).2.getD j false)) ∧
      canStore w' g2 (0 + (j : Int).toNat * 1) 1 ∧ St [] w (setCs w' g2 (0 + (j : Int).toNat * 1) [.bool v]) (b :: Chunk.ls Sl.v 81 (.slice A n c) ((G.set q ((G.getD q gd).1, (G.getD q gd).2.set j v)).map (·.1)) :: rowsG (G.set q ((G.getD q gd).1, (G.getD q gd).2.set j v))) := by
  obtain ⟨g, g2, e1, e2, e3, e4, e5⟩ := goodGet h.tail hq hj
  obtain ⟨g3, e6, e7, e8⟩ := h.lsSet (q + 2) (show (b :: Chunk.ls Sl.v 81 (.slice A n c) (G.map (·.1)) :: rowsG G)[q + 2]? = _ from rowsG_at hq) hj v
  have : g3 = g2 := by
    have := e6.symm.trans e2
    injection this with this
    injection this
  subst this
  refine ⟨g, g3, e1, e2, e3, e4, e5, ?_, ?_⟩
  · rw [show 0 + (j : Int).toNat * 1 = j by simp]; exact e7
  · rw [show 0 + (j : Int).toNat * 1 = j by simp]
    have h1 : (G.set q ((G.getD q gd).1, (G.getD q gd).2.set j v)).map (·.1) = G.map (·.1) := by
      rw [List.map_set]
      apply List.ext_getElem?
      intro a
      rw [List.getElem?_set]
      split
      · rename_i h; subst h
        rw [List.length_map, if_pos hq, List.getElem?_map, List.getD_eq_getElem?_getD, List.getElem?_eq_getElem hq]; rfl
      · rfl
    have h2 : rowsG (G.set q ((G.getD q gd).1, (G.getD q gd).2.set j v)) = (rowsG G).set q (Chunk.ls encB 4 (G.getD q gd).1.v ((G.getD q gd).2.set j v)) := by
      unfold rowsG
      rw [List.map_set]
    rw [h1, h2]
    exact e8
theorem leadsR {w : World} {t : Nat} {x y : Sl} {p : PolD} {l : List CalD} (ht : TabAt w t x y p l) (hn : l.length ≤ 12) (hh : histB l = true) :
    Calls Try.prog 28 #[.pointer (some ⟨t, 0, none⟩)] w fun e w' => ∃ (z : Sl) (Y : List (List Bool)), e = .returned z.v ∧ RdL (.sl .bool) w' z Y ∧ Y.length = 2 ^ l.length ∧ (∀ S, S < 2 ^ l.length → (Y.getD S []).length = l.length + 1 ∧ ∀ last : Int, -1 ≤ last → last < l.length → (Y.getD S []).getD (last + 1).toNat false = (JL.path (histT p l) (S, last)).isSome) ∧ Fr [] w w' := by
  refine Calls.mono (f28.calls (R := fun e w' => ∃ (z : Sl) (Y : List (List Bool)), e = z.v ∧ RdL (.sl .bool) w' z Y ∧ Y.length = 2 ^ l.length ∧ (∀ S, S < 2 ^ l.length → (Y.getD S []).length = l.length + 1 ∧ ∀ last : Int, -1 ≤ last → last < l.length → (Y.getD S []).getD (last + 1).toNat false = (JL.path (histT p l) (S, last)).isSome) ∧ Fr [] w w') ?_) ?_
  · dsimp only [f28.VC]
    have hl : x.2.1 = l.length := ht.cal.1
    have hNb : 2 ^ l.length ≤ 4096 := Nat.pow_le_pow_right (n := 2) (i := l.length) (j := 12) (by decide) hn
    have hbits : ∀ w', Calls Try.prog 56 #[.int .i64 (x.2.1 : Int)] w' fun e w'' => e = .returned (.int .i64 ((2 ^ l.length : Nat) : Int)) ∧ w'' = w' := fun w' => by
      rw [hl]; exact bitR (w := w') l.length (by omega)
    have hor : ∀ S k : Nat, S < 2 ^ l.length → k < l.length → S ||| 2 ^ k < 2 ^ l.length := fun S k h1 h2 => Nat.or_lt_two_pow h1 (Nat.pow_lt_pow_right (by decide) h2)
    have hgt : ∀ S k : Nat, S.testBit k = false → S < S ||| 2 ^ k := fun S k h => by rw [← add_bit h]; have := Nat.two_pow_pos k; omega
    generalize hN : 2 ^ l.length = N at *
    refine ⟨_, _, _, ht.blk.cell rfl, ?_⟩
    have hS0 : St [] w w (Chunk.ls Sl.v 81 (.slice none 0 0) (([] : List (Sl × List Bool)).map (·.1)) :: rowsG []) := (St.start w).nil 81 1
    refine ⟨fun A n c i w' r => ∃ G : List (Sl × List Bool), i = (G.length : Int) ∧ G.length + r = N ∧ (∀ q, q < G.length → (G.getD q gd).2.length = l.length + 1) ∧ St [] w w' (Chunk.ls Sl.v 81 (.slice A n c) (G.map (·.1)) :: rowsG G), ⟨N, [], rfl, by simp, fun q hq => by simp at hq, hS0⟩, ?_⟩
    clear hS0
    rintro d A n c i w1 r ⟨G, rfl, hGr, hlen, hS1⟩
    refine Calls.mono (hbits w1) ?_
    rintro _ w2 ⟨rfl, rfl⟩
    refine ⟨_, rfl, sel_of (fun hd => ?_) (fun hd => ?_)⟩
    · have hi : G.length < N := by have := of_decide_eq_true hd; omega
      have hS2 : St [] w w2 (Chunk.ls encB 4 (.slice none 0 0) (List.replicate 0 false) :: Chunk.ls Sl.v 81 (.slice A n c) (G.map (·.1)) :: rowsG G) := hS1.nil 4 1
      have ei : IntKind.i64.wrap ((G.length : Int) + 1) = ((G.length + 1 : Nat) : Int) := inc G.length N (by omega) (by omega)
      rw [ei]
      refine ⟨fun A' n' c' i w' r => ∃ j : Nat, i = (j : Int) ∧ j + r = l.length + 1 ∧ St [] w w' (Chunk.ls encB 4 (.slice A' n' c') (List.replicate j false) :: Chunk.ls Sl.v 81 (.slice A n c) (G.map (·.1)) :: rowsG G), ⟨l.length + 1, 0, rfl, by omega, hS2⟩, ?_⟩
      rintro d A' n' c' i w3 r1 ⟨j, rfl, hj, hS3⟩
      refine sel_of (fun hd => ?_) (fun hd => ?_)
      · have hi : j < l.length + 1 := by have := of_decide_eq_true hd; omega
        obtain ⟨A2, n2, c2, w5, hrun, hS5⟩ := appB hS3 0 rfl false (by simp; omega)
        rw [inc j 100 (by omega) (by omega)]
        refine ⟨_, _, _, w5, hrun, rfl, r1 - 1, by omega, j + 1, rfl, by omega, ?_⟩
        rw [List.replicate_succ']
        exact hS5
      · have hi : j = l.length + 1 := by have := of_decide_eq_false hd; omega
        obtain ⟨A2, n2, c2, w7, hrun, hS7⟩ := appS' hS3 1 rfl (A', n', c') (by rw [List.length_map]; omega)
        refine ⟨_, _, _, w7, hrun, rfl, r - 1, by omega, G ++ [((A', n', c'), List.replicate j false)], ?_, ?_, ?_, ?_⟩
        · rw [List.length_append, List.length_singleton]
        · rw [List.length_append, List.length_singleton]; omega
        · intro q hq
          rw [List.length_append, List.length_singleton] at hq
          rcases Nat.lt_or_ge q G.length with h1 | h1
          · rw [List.getD_eq_getElem?_getD, List.getElem?_append_left h1, ← List.getD_eq_getElem?_getD]; exact hlen q h1
          · have : q = G.length := by omega
            subst this
            rw [List.getD_eq_getElem?_getD, List.getElem?_append_right (Nat.le_refl _), Nat.sub_self]
            simp [hi]
        · have e1 : (G ++ [((A', n', c'), List.replicate j false)]).map (·.1) = G.map (·.1) ++ [(A', n', c')] := by simp
          have e2 : rowsG (G ++ [((A', n', c'), List.replicate j false)]) = rowsG G ++ [Chunk.ls encB 4 (.slice A' n' c') (List.replicate j false)] := by simp [rowsG, Sl.v]
          rw [e1, e2]
          exact hS7.perm ((List.Perm.swap _ _ _).trans (List.Perm.cons _ (List.perm_append_singleton _ _).symm))
    · have hi : G.length = N := by have := of_decide_eq_false hd; omega
      refine Calls.mono (hbits w2) ?_
      rintro _ w8 ⟨rfl, rfl⟩
      have hnn := hS1.lsLen 0 rfl
      rw [List.length_map, hi] at hnn
      have hNp : 0 < N := by rw [← hN]; exact Nat.two_pow_pos _
      have e0 : IntKind.i64.wrap ((N : Int) - 1) = (N : Int) - 1 := i64_id (by omega) (by omega)
      refine ⟨_, rfl, fun i w' s => ∃ G : List (Sl × List Bool), i = (s : Int) - 1 ∧ s ≤ N ∧ G.length = N ∧ (∀ q, q < N → (G.getD q gd).2.length = l.length + 1) ∧ (∀ (S' : Nat) (last' : Int), S' < N → -1 ≤ last' → last' < (l.length : Int) → s ≤ S' → (G.getD S' gd).2.getD (last' + 1).toNat false = (JL.path (histT p l) (S', last')).isSome) ∧ St [] w w' (Chunk.ls Sl.v 81 (.slice A n c) (G.map (·.1)) :: rowsG G),
        ⟨N, G, e0, Nat.le_refl _, hi, fun q hq => hlen q (by omega), fun S' last' h1 _ _ h2 => by omega, hS1⟩, ?_⟩
      clear hS1 hlen hi hd hGr e0
      rintro d i w9 s1 ⟨G, rfl, hs1, hGl, hlen, hval, hS9⟩
      refine sel_of (fun hd => ?_) (fun hd => ?_)
      · obtain ⟨s, rfl⟩ : ∃ s, s1 = s + 1 := ⟨s1 - 1, by have := of_decide_eq_true hd; omega⟩
        have es : ((s + 1 : Nat) : Int) - 1 = (s : Int) := by omega
        rw [es]
        refine ⟨fun i w' r => ∃ j : Nat, i = (j : Int) - 1 ∧ j + r = l.length + 1 ∧ ∃ G : List (Sl × List Bool), G.length = N ∧ (∀ q, q < N → (G.getD q gd).2.length = l.length + 1) ∧ (∀ (S' : Nat) (last' : Int), S' < N → -1 ≤ last' → last' < (l.length : Int) → (s + 1 ≤ S' ∨ (S' = s ∧ last' < (j : Int) - 1)) → (G.getD S' gd).2.getD (last' + 1).toNat false = (JL.path (histT p l) (S', last')).isSome) ∧ St [] w w' (Chunk.ls Sl.v 81 (.slice A n c) (G.map (·.1)) :: rowsG G),
          ⟨l.length + 1, 0, rfl, by omega, G, hGl, hlen, fun S' last' h1 h2 h3 h4 => hval S' last' h1 h2 h3 (by omega), hS9⟩, ?_⟩
        clear hS9 hval hlen hGl G w9
        rintro d i w10 r3 ⟨j, rfl, hj, G, hGl, hlen, hval, hS10⟩
        refine sel_of (fun hd => ?_) (fun hd => ?_)
        · have hi : j < l.length + 1 := by have := of_decide_eq_true hd; omega
          refine ⟨fun w' => ∃ G : List (Sl × List Bool), G.length = N ∧ (∀ q, q < N → (G.getD q gd).2.length = l.length + 1) ∧ (∀ (S' : Nat) (last' : Int), S' < N → -1 ≤ last' → last' < (l.length : Int) → (s + 1 ≤ S' ∨ (S' = s ∧ last' < ((j + 1 : Nat) : Int) - 1)) → (G.getD S' gd).2.getD (last' + 1).toNat false = (JL.path (histT p l) (S', last')).isSome) ∧ St [] w w' (Chunk.ls Sl.v 81 (.slice A n c) (G.map (·.1)) :: rowsG G), ?_, ?_⟩
          · have hS11 := hS10.alloc #[.int .i64 0, .int .i64 0] 80
            have hS12 := hS11.over 0 rfl [.int .i64 (s : Int), .int .i64 ((j : Int) - 1)] rfl
            refine ⟨(hS11.blk 0 rfl).can (by simp), ?_⟩
            generalize World.alloc w10 (.cells #[.int .i64 0, .int .i64 0] 80) = w11 at *
            generalize w10.heap.size = b10 at *
            generalize setCs w11 b10 0 [.int .i64 (s : Int), .int .i64 ((j : Int) - 1)] = w12 at *
            replace hS12 : St [] w w12 (Chunk.blk b10 #[.int .i64 (s : Int), .int .i64 ((j : Int) - 1)] 80 :: Chunk.ls Sl.v 81 (.slice A n c) (G.map (·.1)) :: rowsG G) := hS12
            have hB := hS12.blk 0 rfl
            refine ⟨_, hB.cell rfl, _, hB.cell rfl, Calls.mono (hS12.step0 (fullR (ht.fr hS12.frame) hn s ((j : Int) - 1) (by omega))) ?_⟩
            rintro _ w13 ⟨rfl, hS13⟩
            refine ⟨_, rfl, ?_⟩
            refine ⟨fun b i w' r => ∃ k : Nat, i = (k : Int) ∧ k + r = l.length ∧ (b = true → (JL.path (histT p l) (s, (j : Int) - 1)).isSome = true) ∧ (b = false → JL.whole (histT p l) (s, (j : Int) - 1) = false ∧ ∀ a, a < k → ∀ z, JL.step (histT p l) (s, (j : Int) - 1) a = some z → JL.path (histT p l) z = none) ∧ St [] w w' (Chunk.blk b10 #[.int .i64 (s : Int), .int .i64 ((j : Int) - 1)] 80 :: Chunk.ls Sl.v 81 (.slice A n c) (G.map (·.1)) :: rowsG G),
              ⟨l.length, 0, rfl, by omega, fun h => by rw [JL.path_whole h]; rfl, fun h => ⟨h, fun a ha => by omega⟩, hS13⟩, ?_⟩
            clear hS10 hS11 hS12 hS13 hB
            rintro d b11 i w14 r4 ⟨k, rfl, hk, ht1, hf1, hS14⟩
            have hlate : ∀ q, q < G.length → q < N := fun q hq => by omega
            refine sel_of (fun hd2 => sel_of (fun hb => ?_) (fun hb => ?_)) (fun hd2 => ?_)
            · have hb : b11 = false := by simpa using hb
              subst hb
              obtain ⟨hw, hno⟩ := hf1 rfl
              clear ht1 hf1
              have hkl : k < l.length := by have := of_decide_eq_true hd2; omega
              have hB := hS14.blk 0 rfl
              refine ⟨_, hB.cell rfl, _, hB.cell rfl, Calls.mono (stepR (ht.fr hS14.frame) hn hh s ((j : Int) - 1) k (by omega) (by omega) (by omega) hkl) ?_⟩
              rintro _ w15 ⟨z0, z1, ok, rfl, hst, hf15⟩
              have hS15 := hS14.go hf15
              have hS16 := hS15.alloc #[.int .i64 0, .int .i64 0] 80
              have hS17 := hS16.over 0 rfl [.int .i64 z0, .int .i64 z1] rfl
              refine ⟨_, _, _, rfl, (hS16.blk 0 rfl).can (by simp), ?_⟩
              generalize World.alloc w15 (.cells #[.int .i64 0, .int .i64 0] 80) = w16 at *
              generalize w15.heap.size = b15 at *
              generalize setCs w16 b15 0 [.int .i64 z0, .int .i64 z1] = w17 at *
              replace hS17 : St [] w w17 (Chunk.blk b15 #[.int .i64 z0, .int .i64 z1] 80 :: Chunk.blk b10 #[.int .i64 (s : Int), .int .i64 ((j : Int) - 1)] 80 :: Chunk.ls Sl.v 81 (.slice A n c) (G.map (·.1)) :: rowsG G) := hS17
              have hB := hS17.blk 0 rfl
              rw [inc k 100 (by omega) (by omega)]
              unfold StpT at hst
              cases hstep : JL.step (histT p l) (s, (j : Int) - 1) k with
              | none =>
                rw [hstep] at hst
                have hst : ok = false := hst
                subst hst
                refine sel_false rfl ⟨rfl, r4 - 1, by omega, k + 1, rfl, by omega, (fun h => by cases h), fun _ => ⟨hw, fun a ha z hz => ?_⟩, hS17.drew.tail⟩
                rcases Nat.lt_or_ge a k with h1 | h1
                · exact hno a h1 z hz
                · have : a = k := by omega
                  rw [this, hstep] at hz; cases hz
              | some z =>
                rw [hstep] at hst
                obtain ⟨rfl, rfl, rfl⟩ := hst
                obtain ⟨Z, lz⟩ := z
                obtain ⟨hb0, _, _, hz1, hz2⟩ := JL.step_some hstep
                have hZ : Z = s ||| 2 ^ k := hz1
                have hZN : Z < N := by rw [hZ]; exact hor s k (by omega) hkl
                have hZs : s < Z := by rw [hZ]; exact hgt s k hb0
                have hlz : -1 ≤ lz ∧ lz < (l.length : Int) := by
                  have : lz = if (histT p l).counts k then (k : Int) else (j : Int) - 1 := hz2
                  rw [this]; split <;> omega
                obtain ⟨m, hm⟩ : ∃ m : Nat, lz + 1 = (m : Int) := ⟨(lz + 1).toNat, by omega⟩
                obtain ⟨g, g2, e1, e2, e3, e4, e5⟩ := goodGet hS17.tail.tail (q := Z) (j := m) (by omega) (by rw [hlen Z hZN]; omega)
                have hv := hval Z lz hZN hlz.1 hlz.2 (.inl (by omega))
                rw [show (lz + 1).toNat = m by omega] at hv
                rw [hv] at e5
                refine sel_true rfl ⟨_, hB.cell rfl, by omega, by omega, needPtr_of e1 ⟨_, _, _, e3, _, hB.cell rfl, ?_⟩⟩
                rw [i64_id (x := lz + 1) (by omega) (by omega), hm]
                refine ⟨by omega, by rw [e4, hlen Z hZN]; omega, needPtr_of e2 ⟨_, e5, rfl, r4 - 1, by omega, k + 1, rfl, by omega, fun h => ?_, fun h => ⟨hw, fun a ha z hz => ?_⟩, hS17.drew.tail⟩⟩
                · obtain ⟨rz, hrz⟩ := Option.isSome_iff_exists.1 h
                  rw [JL.path_first hw (show k < (histT p l).n from hkl) hno hstep hrz]; rfl
                · rcases Nat.lt_or_ge a k with h1 | h1
                  · exact hno a h1 z hz
                  · have : a = k := by omega
                    rw [this, hstep] at hz
                    injection hz with hz
                    rw [← hz]
                    cases hp : JL.path (histT p l) (Z, lz) with
                    | none => rfl
                    | some rr => rw [hp] at h; cases h
            · have hb : b11 = true := by simpa using hb
              have hans : b11 = (JL.path (histT p l) (s, (j : Int) - 1)).isSome := by rw [hb]; exact (ht1 hb).symm
              clear hf1 ht1 hb
              obtain ⟨g, g2, e1, e2, e3, e4, e5, hcan, hset⟩ := goodSet hS14 (q := s) (j := j) (by omega) (by rw [hlen s (by omega)]; omega) b11
              refine ⟨by omega, by omega, needPtr_of e1 ⟨_, _, _, e3, ?_⟩⟩
              rw [i64_id (x := (j : Int) - 1 + 1) (by omega) (by omega), show (j : Int) - 1 + 1 = (j : Int) by omega]
              refine ⟨by omega, by rw [e4, hlen s (by omega)]; omega, needPtr_of e2 ⟨hcan, rfl, _, ?_, ?_, ?_, hset.tail⟩⟩
              · rw [List.length_set]; exact hGl
              · intro q hq
                rw [getD_set]
                split
                · rw [List.length_set]; exact hlen s (by omega)
                · exact hlen q hq
              · intro S' last' hS' k1 k2 hh
                rw [getD_set]
                rcases hh with hh | ⟨hSs, hh⟩
                · rw [if_neg (by omega)]; exact hval S' last' hS' k1 k2 (.inl hh)
                · rw [hSs, if_pos ⟨rfl, by omega⟩]
                  rcases Int.lt_or_le last' ((j : Int) - 1) with h1 | h1
                  · have := hval s last' (by omega) k1 k2 (.inr ⟨rfl, h1⟩)
                    rw [← this, List.getD_eq_getElem?_getD, List.getElem?_set, if_neg (by omega), ← List.getD_eq_getElem?_getD]
                  · have hj : (last' + 1).toNat = j := by omega
                    have hl' : last' = (j : Int) - 1 := by omega
                    rw [hj, hl', List.getD_eq_getElem?_getD, List.getElem?_set, if_pos rfl, if_pos (by rw [hlen s (by omega)]; omega)]
                    exact hans
            · have hkl : k = l.length := by have := of_decide_eq_false hd2; omega
              have hans : b11 = (JL.path (histT p l) (s, (j : Int) - 1)).isSome := by
                cases hb : b11 with
                | true => exact (ht1 hb).symm
                | false =>
                  obtain ⟨hw, hno⟩ := hf1 hb
                  rw [JL.path_none hw (fun a ha => hno a (by have : a < l.length := ha; omega))]; rfl
              clear hf1 ht1
              obtain ⟨g, g2, e1, e2, e3, e4, e5, hcan, hset⟩ := goodSet hS14 (q := s) (j := j) (by omega) (by rw [hlen s (by omega)]; omega) b11
              refine ⟨by omega, by omega, needPtr_of e1 ⟨_, _, _, e3, ?_⟩⟩
              rw [i64_id (x := (j : Int) - 1 + 1) (by omega) (by omega), show (j : Int) - 1 + 1 = (j : Int) by omega]
              refine ⟨by omega, by rw [e4, hlen s (by omega)]; omega, needPtr_of e2 ⟨hcan, rfl, _, ?_, ?_, ?_, hset.tail⟩⟩
              · rw [List.length_set]; exact hGl
              · intro q hq
                rw [getD_set]
                split
                · rw [List.length_set]; exact hlen s (by omega)
                · exact hlen q hq
              · intro S' last' hS' k1 k2 hh
                rw [getD_set]
                rcases hh with hh | ⟨hSs, hh⟩
                · rw [if_neg (by omega)]; exact hval S' last' hS' k1 k2 (.inl hh)
                · rw [hSs, if_pos ⟨rfl, by omega⟩]
                  rcases Int.lt_or_le last' ((j : Int) - 1) with h1 | h1
                  · have := hval s last' (by omega) k1 k2 (.inr ⟨rfl, h1⟩)
                    rw [← this, List.getD_eq_getElem?_getD, List.getElem?_set, if_neg (by omega), ← List.getD_eq_getElem?_getD]
                  · have hj : (last' + 1).toNat = j := by omega
                    have hl' : last' = (j : Int) - 1 := by omega
                    rw [hj, hl', List.getD_eq_getElem?_getD, List.getElem?_set, if_pos rfl, if_pos (by rw [hlen s (by omega)]; omega)]
                    exact hans
          · rintro _ w20 ⟨G, q1, q2, q3, q4⟩
            have ej : IntKind.i64.wrap ((j : Int) - 1 + 1) = ((j + 1 : Nat) : Int) - 1 := by rw [i64_id (by omega) (by omega)]; omega
            rw [ej]
            exact ⟨rfl, r3 - 1, by omega, j + 1, rfl, by omega, G, q1, q2, q3, q4⟩
        · have hi : j = l.length + 1 := by have := of_decide_eq_false hd; omega
          have e1 : IntKind.i64.wrap ((s : Int) - 1) = (s : Int) - 1 := i64_id (by omega) (by omega)
          rw [e1]
          refine ⟨rfl, s, by omega, G, rfl, by omega, hGl, hlen, fun S' last' h1 h2 h3 h4 => hval S' last' h1 h2 h3 ?_, hS10⟩
          rcases Nat.lt_or_ge s S' with h5 | h5
          · exact .inl h5
          · exact .inr ⟨by omega, by omega⟩
      · have hs0 : s1 = 0 := by have := of_decide_eq_false hd; omega
        refine ⟨(A, n, c), G.map (·.2), rfl, ?_, by rw [List.length_map]; exact hGl, fun S hS => ?_, hS9.frame⟩
        · obtain ⟨F, hF, _⟩ := hS9.at 0 rfl
          refine rows_read (z := (A, n, c)) hF ⟨by simp, fun a ha => ?_⟩
          rw [List.length_map] at ha
          obtain ⟨F2, hF2, _⟩ := hS9.at (a + 1) (show (Chunk.ls Sl.v 81 (.slice A n c) (G.map (·.1)) :: rowsG G)[a + 1]? = _ from rowsG_at ha)
          rw [map_getD _ _ _ gd ha, map_getD _ _ _ gd ha]
          exact bools_read hF2
        · rw [map_getD _ _ _ gd (by omega)]
          exact ⟨hlen S hS, fun last h1 h2 => hval S last hS h1 h2 (by omega)⟩
  · rintro e w' ⟨v, rfl, z, Y, rfl, h⟩; exact ⟨z, Y, rfl, h⟩
end JG
end Go.Proofs.Ytddbebhklmaeoaa
