/- Page: Lay, as the program does it. -/
import Derived.Test.YtjmlfknogjaemaaDoorM17
import Derived.Test.YtjmlfknogjaemaaDoorM18
import Derived.Laws.CopyRow
import Derived.Test.YtjmlfknogjaemaaDoorM16
set_option linter.unusedVariables false
set_option linter.unusedSimpArgs false
set_option maxRecDepth 10000
namespace Go.Proofs.YtjmlfknogjaemaaDoor
open Go Go.Proofs.YtjmlfknogjaemaaDoor.Vc
namespace PG
open Vc.PG NI
theorem callT_of {P : Program} {f : FuncId} {first cap args : Array Value} {w : World} {post : Ending → World → Prop} (h : entersB P f = true) (hc : Calls P f (first ++ args ++ cap) w post) : callT P (.func (.func f) first cap) args w post := by
  unfold callT
  dsimp only
  rw [h]
  exact hc
theorem fr_setRow {w : World} {g : Nat} {cur : Array Value} {T : TypeId} (h : Blk w g cur T) (cs : Array Value) : Fr [g] w (w.setRow g cs) := by
  refine ⟨by simp, fun b hb hS => setRow_other w g b cs (by simpa using hS), rfl, rfl, fun a _ => frozen_setRow w g cs a⟩
theorem makeI (w : World) (n m : Nat) (hnm : n ≤ m) (hm : m ≤ 1000000) : (Instr.makeSlice 28 (.int .i64 (n : Int)) (.int .i64 (m : Int))).run Tryd.prog w = .ok (.slice (some ⟨w.heap.size, 0, none⟩) n m) (w.alloc (.cells ((List.replicate m (0 : Int)).map encN).toArray 3)) := by
  obtain ⟨i, h1, h2, h3, h4⟩ := info3
  have := run_make w (P := Tryd.prog) 28 3 i (.int .i64 0) under26 h1 h2 .i64 .i64 (n : Int) (m : Int) (by omega) (by omega) (by rw [h4]; omega) (by omega)
  rw [h3, Int.toNat_natCast, Int.toNat_natCast, Nat.mul_one] at this
  rw [this]
  congr 4
  rw [List.map_replicate]
  exact made_rep _ 1 m (by omega)
/-- What was made, as a list of n numbers with room for m. -/
theorem ls_of_made {b n m : Nat} (hnm : n ≤ m) (hm : m ≤ 1000000) {w : World} {F : List Nat} (h : (Chunk.blk b ((List.replicate m (0 : Int)).map encN).toArray 3).holds w F) : (ints (.slice (some ⟨b, 0, none⟩) n m) (List.replicate n 0)).holds w F := by
  refine .inr ⟨b, m, by simp, h.1, _, h.2, by simp, by simpa using hnm, by simp [maxLen]; omega, by simp, fun i hi j hj => ?_⟩
  have : j = 0 := by omega
  subst this
  simp at hi
  simp [List.getD_eq_getElem?_getD, hi, show i < m by omega]
/-- The first numbers of a list are copied over. -/
theorem copyI {S : List Nat} {w0 w : World} {L : List Chunk} (h : St S w0 w L) (i : Nat) {A : Option Addr} {n c : Nat} {l hd : List Int} (hi : L[i]? = some (ints (.slice A n c) l)) {b : Nat} (hb : Blk w b (hd.map encN).toArray 3) (hh : 0 < hd.length) (hn : hd.length ≤ l.length) :
    ∃ w', (Builtin.copy_ #[28, 28] 3 #[.slice A n c, .slice (some ⟨b, 0, none⟩) hd.length hd.length]).run Tryd.prog w = .ok (.int .i64 (hd.length : Int)) w' ∧ St S w0 w' (L.set i (ints (.slice A n c) (hd ++ l.drop hd.length))) := by
  obtain ⟨F, k1, _, k3⟩ := h.at i hi
  obtain ⟨ti, i1, i2, i3, i4⟩ := info3
  rcases k1 with ⟨k1, k2, _⟩ | ⟨g, cap, k1, rfl, k2⟩
  · rw [List.map_eq_nil_iff] at k2; subst k2; simp only [List.length_nil] at hn; omega
  · injection k1 with e1 e2 e3
    subst e1
    rw [List.length_map] at e2
    obtain ⟨cur, c1, c2, c3, c4, c5, c6⟩ := k2
    rw [List.length_map] at c3 c6
    rw [Nat.mul_one] at c2
    have hr := run_copy_row (P := Tryd.prog) w 28 28 3 3 g 0 n c ⟨b, 0, none⟩ hd.length hd.length cur 3 (hd.map encN) under26 (by rw [i1]; simp [i3]) c1 (by rw [List.length_map]; exact (Nat.min_eq_left (by omega)).symm)
      (fun j u hu => by rw [Addr.add_lit, Nat.zero_add]; exact hb.cell (by simpa using hu)) (by simp; omega) (by intro u hu; obtain ⟨a, _, rfl⟩ := List.mem_map.1 hu; rfl)
    rw [List.length_map] at hr
    have hrow : Row (w.setRow g (cur.toList.take 0 ++ hd.map encN ++ cur.toList.drop (0 + hd.length)).toArray) 3 1 g cap ((hd ++ l.drop hd.length).map fun a => [encN a]) := by
      refine ⟨(cur.toList.take 0 ++ hd.map encN ++ cur.toList.drop (0 + hd.length)).toArray, setRow_heap w g cur _ 3 (0, 0) c1, ?_, ?_, c4, ?_, ?_⟩
      · simp; omega
      · simp; omega
      · intro r hr; obtain ⟨a, _, rfl⟩ := List.mem_map.1 hr; rfl
      · intro q hq j hj
        have : j = 0 := by omega
        subst this
        simp only [List.length_map, List.length_append, List.length_drop] at hq
        simp only [Nat.mul_one, Nat.add_zero, List.take_zero, List.nil_append, Nat.zero_add]
        by_cases hqd : q < hd.length
        · simp [List.getElem?_append_left, hqd, List.getD_eq_getElem?_getD]
        · have hql : q < l.length := by omega
          have := c6 q hql 0 (by omega)
          simp only [Nat.mul_one, Nat.add_zero] at this
          have e : hd.length + (q - hd.length) = q := by omega
          have hqd' : hd.length ≤ q := by omega
          simp [List.getElem?_append_right, hqd', List.getD_eq_getElem?_getD, List.getElem?_drop, e, hql] at this ⊢
          exact this
    refine ⟨_, hr, k3 (F' := [g]) (fr_setRow c1 _) (.inr ⟨g, cap, ?_, rfl, hrow⟩) (fun x hx => .inl hx)⟩
    rw [e2, e3]; simp; omega
theorem enters49 : entersB Tryd.prog 28 = true ∧ entersB Tryd.prog 29 = true ∧ entersB Tryd.prog 30 = true ∧ entersB Tryd.prog 31 = true := ⟨by kernel_rfl, by kernel_rfl, by kernel_rfl, by kernel_rfl⟩
theorem num50 {w : World} {n i : Nat} (hi : i < n) (hn : n ≤ 100) : callT Tryd.prog (.func (.func 29) #[] #[]) #[.int .i64 (i : Int)] w fun e w' => e = .returned (.int .i64 ((upTo n).getD i 0)) ∧ w' = w := by
  refine callT_of enters49.2.1 (Calls.mono (f29.calls (R := fun v w' => v = .int .i64 ((upTo n).getD i 0) ∧ w' = w) ?_) ?_)
  · dsimp only [f29.VC]
    rw [inc i 1000 (by omega) (by omega)]
    exact ⟨by simp [upTo, List.getD_eq_getElem?_getD, hi], rfl⟩
  · rintro e w' ⟨v, rfl, rfl, h⟩; exact ⟨rfl, h⟩
theorem num51 {w : World} {b : Nat} {v : GV} {l : List Int} {i : Nat} (hb : Blk w b v.cells 32) (h : InW w v.f.1 v.f.2.1 l) (hi : i < v.f.2.1) : callT Tryd.prog (.func (.func 30) #[] #[.pointer (some ⟨b, 0, none⟩)]) #[.int .i64 (i : Int)] w fun e w' => e = .returned (.int .i64 (l.getD i 0)) ∧ w' = w := by
  refine callT_of enters49.2.2.1 (Calls.mono (f30.calls (R := fun v w' => v = .int .i64 (l.getD i 0) ∧ w' = w) ?_) ?_)
  · dsimp only [f30.VC]
    exact ⟨_, _, _, hb.cell rfl, by omega, by omega, h.need (Fr.refl _ _) rfl hi ⟨rfl, rfl⟩⟩
  · rintro e w' ⟨v, rfl, rfl, h⟩; exact ⟨rfl, h⟩
theorem num52 {w : World} {b : Nat} {v : GV} {l : List Int} {i : Nat} (hb : Blk w b v.cells 32) (h : InW w v.n.1 v.n.2.1 l) (hi : i < v.n.2.1) : callT Tryd.prog (.func (.func 31) #[] #[.pointer (some ⟨b, 0, none⟩)]) #[.int .i64 (i : Int)] w fun e w' => e = .returned (.int .i64 (l.getD i 0)) ∧ w' = w := by
  refine callT_of enters49.2.2.2 (Calls.mono (f31.calls (R := fun v w' => v = .int .i64 (l.getD i 0) ∧ w' = w) ?_) ?_)
  · dsimp only [f31.VC]
    exact ⟨_, _, _, hb.cell rfl, by omega, by omega, h.need (Fr.refl _ _) rfl hi ⟨rfl, rfl⟩⟩
  · rintro e w' ⟨v, rfl, rfl, h⟩; exact ⟨rfl, h⟩
theorem idxAt {S : List Nat} {w0 w : World} {L : List Chunk} (h : St S w0 w L) (i : Nat) {x : Nat} {l : List ByteArray} (hi : L[i]? = some (idxC x l)) : IdxAt w x l := by
  obtain ⟨F, hF, _⟩ := h.at i hi
  exact ⟨F, hF⟩
end PG
end Go.Proofs.YtjmlfknogjaemaaDoor
/- Page: Lay, as the program does it: the whole. -/
set_option linter.unusedVariables false
set_option linter.unusedSimpArgs false
set_option maxRecDepth 10000
set_option maxHeartbeats 800000
namespace Go.Proofs.YtjmlfknogjaemaaDoor
open Go Go.Proofs.YtjmlfknogjaemaaDoor.Vc
namespace PG
open Vc.PG NI
theorem InM.needG {F : List Nat} {w0 w : World} {A : Option Addr} {n : Nat} {M : List (List Int)} (h : ∀ w', Fr F w0 w' → InM w' A n M) (hf : Fr F w0 w) {i : Int} {q : Nat} (h0 : i = (q : Int)) (h1 : q < n) {K : Option Addr → Nat → Nat → Prop} (hk : ∀ B k c, (∀ w', Fr F w0 w' → InU w' B k (M.getD q [])) → K B k c) :
    needPtr A fun b o => ∃ B k c, w.cell? ⟨b, o + i.toNat * 1, none⟩ = some (.slice B k c) ∧ K B k c := by
  obtain ⟨b, o, hA, hc0⟩ := (h w0 (Fr.refl _ _)).2 (by omega)
  obtain ⟨B, k, c, hc, hU⟩ := hc0 q h1
  have hbl := World.block_lt_of_cell? w0 _ hc
  have hb : b ∉ F := by
    intro hbF
    have hfr : Fr F w0 (w0.setRow b #[]) := ⟨by simp, fun x hx hS => setRow_other w0 b x #[] (fun e => hS (by rw [e]; exact hbF)), rfl, rfl, fun a _ => frozen_setRow w0 b #[] a⟩
    obtain ⟨b', o', hA', hc'⟩ := (h _ hfr).2 (by omega)
    rw [hA] at hA'
    injection hA' with hA'
    injection hA' with e1 e2 _
    subst e1; subst e2
    obtain ⟨B', k', c', hc2, _⟩ := hc' q h1
    have hh : ∃ cs T fz, w0.heap[b]? = some (.cells cs T fz) := by
      unfold World.cell? at hc
      split at hc
      · rename_i h2; exact ⟨_, _, _, h2⟩
      · cases hc
    obtain ⟨cs, T, fz, hh⟩ := hh
    have := setRow_heap w0 b cs #[] T fz hh
    unfold World.cell? at hc2
    rw [this] at hc2
    simp at hc2
  have same : ∀ w', Fr F w0 w' → w'.cell? ⟨b, o + q, none⟩ = some (.slice B k c) := fun w' hf => by
    rw [← hc]
    exact World.cell?_of_block (a := ⟨b, o + q, none⟩) (hf.block b hbl hb)
  refine needPtr_of hA ⟨B, k, c, ?_, hk B k c fun w' hf => ?_⟩
  · rw [Nat.mul_one, h0, Int.toNat_natCast]
    exact same w hf
  · obtain ⟨b', o', hA', hc'⟩ := (h w' hf).2 (by omega)
    rw [hA] at hA'
    injection hA' with hA'
    injection hA' with e1 e2 _
    subst e1; subst e2
    obtain ⟨B', k', c', hc2, hU'⟩ := hc' q h1
    rw [same w' hf] at hc2
    injection hc2 with hc2
    injection hc2 with e1 e2 e3
    subst e1; subst e2; subst e3
    exact hU'
theorem flatZ_zero : ∀ t : Nat, flatZ (List.replicate t pz0) = List.replicate (2 * t) 0
  | 0 => rfl
  | t + 1 => by rw [List.replicate_succ, flatZ_cons, flatZ_zero t, show 2 * (t + 1) = 2 * t + 1 + 1 by omega]; rfl
theorem layC {F : List Nat} {w : World} {v : GV} {g : Gd} {x : Nat} {l : List ByteArray} (hI : St F w w [idxC x l]) (hg : ∀ w', Fr F w w' → InG w' v g) (hl : l.length ≤ 1048576) (hbig : v.a.2.1 ≤ 1100000 ∧ v.s.2.1 ≤ 1100000 ∧ v.o.2.1 ≤ 1100000) (ver : Int) :
    Calls Tryd.prog 9 #[.int .i64 ver, v.v, .pointer (some ⟨x, 0, none⟩)] w fun e w' => ∃ A n c, e = .returned (.tuple #[.slice A n c, .int .i64 (layP ver g l).2.1]) ∧ St F w w' [ints (.slice A n c) (layP ver g l).1, idxC x (layP ver g l).2.2] := by
  refine Calls.mono (f9.calls (R := fun u w' => ∃ A n c, u = .tuple #[.slice A n c, .int .i64 (layP ver g l).2.1] ∧ St F w w' [ints (.slice A n c) (layP ver g l).1, idxC x (layP ver g l).2.2]) ?_) ?_
  · dsimp only [f9.VC]
    have hS := (hI.alloc v.cells 32).alloc #[.pointer (some ⟨x, 0, none⟩)] 23
    generalize hb3 : (World.alloc w (.cells v.cells 32)).heap.size = b3 at *
    generalize World.alloc (World.alloc w (.cells v.cells 32)) (.cells #[.pointer (some ⟨x, 0, none⟩)] 23) = w2 at *
    generalize w.heap.size = b at *
    have bad : ∀ (er : Int) w', St F w w' [Chunk.blk b3 #[.pointer (some ⟨x, 0, none⟩)] 23, Chunk.blk b v.cells 32, idxC x l] → layP ver g l = ([], er, l) → ∃ A n c, Value.tuple #[.slice none 0 0, .int .i64 er] = .tuple #[.slice A n c, .int .i64 (layP ver g l).2.1] ∧ St F w w' [ints (.slice A n c) (layP ver g l).1, idxC x (layP ver g l).2.2] := by
      intro er w' hS he
      rw [he]
      exact ⟨none, 0, 0, rfl, (hS.tail.tail.nil 3 1)⟩
    refine ⟨fun w' => St F w w' [Chunk.blk b3 #[.pointer (some ⟨x, 0, none⟩)] 23, Chunk.blk b v.cells 32, idxC x l] ∧ 1 ≤ ver ∧ ver ≤ 2147483647 ∧ validP g = true ∧ l.length + freshN l g ≤ 1048576, ⟨_, (hS.blk 0 rfl).cell rfl, sel_false rfl (sel_of (fun h1 => bad 3 _ hS ?_) (fun h1 => sel_of (fun h2 => bad 3 _ hS ?_) (fun h2 => ?_)))⟩, ?_⟩
    · unfold layP; rw [if_pos (.inl (of_decide_eq_true h1))]
    · unfold layP; rw [if_pos (.inr (of_decide_eq_true h2))]
    · have h1 := of_decide_eq_false h1
      have h2 := of_decide_eq_false h2
      refine ⟨_, _, _, (hS.blk 1 rfl).cell rfl, _, _, _, (hS.blk 1 rfl).cell rfl, _, _, _, (hS.blk 1 rfl).cell rfl, _, _, _, (hS.blk 1 rfl).cell rfl, _, _, _, (hS.blk 1 rfl).cell rfl, _, _, _, (hS.blk 1 rfl).cell rfl, ?_⟩
      refine Calls.mono (hS.step0 (validC (hg _ hS.frame) hbig)) ?_
      rintro _ w3 ⟨rfl, hS⟩
      refine ⟨_, rfl, sel_of (fun hv => bad 120 _ hS ?_) (fun hv => ?_)⟩
      · have hv : validP g = false := by simpa using hv
        unfold layP; rw [if_neg (by omega), if_pos hv]
      have hv : validP g = true := by simpa using hv
      refine ⟨_, _, _, (hS.blk 1 rfl).cell rfl, _, _, _, (hS.blk 1 rfl).cell rfl, _, _, _, (hS.blk 1 rfl).cell rfl, _, _, _, (hS.blk 1 rfl).cell rfl, _, _, _, (hS.blk 1 rfl).cell rfl, _, _, _, (hS.blk 1 rfl).cell rfl, _, (hS.blk 0 rfl).cell rfl, ?_⟩
      refine Calls.mono (hS.step0 (roomC (hg _ hS.frame) (idxAt hS 2 rfl) hl hbig)) ?_
      rintro _ w4 ⟨rfl, hS⟩
      refine ⟨_, rfl, sel_of (fun h3 => bad 4 _ hS ?_) (fun h3 => ⟨rfl, hS, by omega, by omega, hv, ?_⟩)⟩
      · have h3 : ¬ l.length + freshN l g ≤ 1048576 := by simpa using h3
        unfold layP; rw [if_neg (by omega), if_neg (by rw [hv]; simp), if_pos (by omega)]
      · simpa using h3
    clear hS bad
    rintro d w5 ⟨hS, v1, v2, hv, hroom⟩
    have elay : layP ver g l = (pageZ (headP ver g) (layZ g l).2 ++ (gM g).flatten, 0, (layZ g l).1) := by
      unfold layP; rw [if_neg (by omega), if_neg (by rw [hv]; simp), if_neg (by omega)]
    rw [elay]
    obtain ⟨p1, p2, p3, p4, p5, p6, p7, p8, p9⟩ := valid_parts hv
    obtain ⟨q1, q2, q3, q4⟩ := tOf_small hv
    have q5 : 2 ≤ tOf g := (tabN_ge (by omega)).2
    have hnm := (hg w (Fr.refl _ _)).lens
    have la := (hg w (Fr.refl _ _)).a.1.1
    have ls := (hg w (Fr.refl _ _)).s.1.1
    have lo := (hg w (Fr.refl _ _)).o.1.1
    have lf := (hg w (Fr.refl _ _)).f.1.1
    have ln := (hg w (Fr.refl _ _)).n.1.1
    have lm := (hg w (Fr.refl _ _)).m.1.1
    have hnl := names_len g
    refine ⟨fun b8 o8 w' => o8 = 0 ∧ St F w w' [Chunk.blk b8 #[.int .i64 (tOf g : Int)] 3, Chunk.blk b3 #[.pointer (some ⟨x, 0, none⟩)] 23, Chunk.blk b v.cells 32, idxC x l], ?_, ?_⟩
    · refine ⟨_, _, _, (hS.blk 1 rfl).cell rfl, _, _, _, (hS.blk 1 rfl).cell rfl, _, _, _, (hS.blk 1 rfl).cell rfl, _, _, _, (hS.blk 1 rfl).cell rfl, _, _, _, (hS.blk 1 rfl).cell rfl, _, _, _, (hS.blk 1 rfl).cell rfl, ?_⟩
      refine Calls.mono (hS.step0 (placesC _ v hnm (by omega))) ?_
      rintro _ w6 ⟨rfl, hS⟩
      have h7 := hS.alloc #[.int .i64 0] 3
      have h8 := h7.over 0 rfl [.int .i64 (tOf g : Int)] rfl
      exact ⟨_, rfl, (h7.blk 0 rfl).can (by simp), rfl, rfl, h8⟩
    rintro d b8 o8 w9 ⟨rfl, hS⟩
    have esz : sizeP g = ((4 + 2 * tOf g + topOf (gF g) * topOf (gN g) : Nat) : Int) := by unfold sizeP; rw [if_pos hv]
    have hmul := Nat.mul_le_mul p5 p6
    refine ⟨fun b9 o9 w' => o9 = 0 ∧ ∃ P : Sl, St F w w' (pgK b9 b8 b3 x P (tOf g) (List.replicate (4 + 2 * tOf g) 0) l [Chunk.blk b v.cells 32]), ?_, ?_⟩
    · have e1 : IntKind.i64.wrap (4 + IntKind.i64.wrap (2 * (tOf g : Int))) = ((4 + 2 * tOf g : Nat) : Int) := by rw [i64_id (x := 2 * _) (by omega) (by omega), i64_id (by omega) (by omega)]; omega
      have hSd := hS.drew
      have mk : ∀ w', (Instr.makeSlice 28 (.int .i64 ((4 + 2 * tOf g : Nat) : Int)) (.int .i64 (sizeP g))).run Tryd.prog w' = .ok (.slice (some ⟨w'.heap.size, 0, none⟩) (4 + 2 * tOf g) (4 + 2 * tOf g + topOf (gF g) * topOf (gN g))) (w'.alloc (.cells ((List.replicate (4 + 2 * tOf g + topOf (gF g) * topOf (gN g)) (0 : Int)).map encN).toArray 3)) := by
        intro w'
        rw [esz]
        exact makeI w' _ _ (by omega) (by omega)
      have fin1 : ∀ w', St F w w' [Chunk.blk b8 #[.int .i64 (tOf g : Int)] 3, Chunk.blk b3 #[.pointer (some ⟨x, 0, none⟩)] 23, Chunk.blk b v.cells 32, idxC x l] → ∃ A n c w11, (Instr.makeSlice 28 (.int .i64 ((4 + 2 * tOf g : Nat) : Int)) (.int .i64 (sizeP g))).run Tryd.prog w' = .ok (.slice A n c) w11 ∧ canStore (World.alloc w11 (.cells #[.slice none 0 0] 28)) w11.heap.size 0 1 ∧
          ∃ P : Sl, St F w (setCs (World.alloc w11 (.cells #[.slice none 0 0] 28)) w11.heap.size 0 [.slice A n c]) (pgK w11.heap.size b8 b3 x P (tOf g) (List.replicate (4 + 2 * tOf g) 0) l [Chunk.blk b v.cells 32]) := by
        intro w' hS
        have h1 := (hS.alloc ((List.replicate (4 + 2 * tOf g + topOf (gF g) * topOf (gN g)) (0 : Int)).map encN).toArray 3).as 0 rfl _ (fun F' hF => ls_of_made (n := 4 + 2 * tOf g) (by omega) (by omega) hF)
        refine ⟨_, _, _, _, mk w', ?_⟩
        generalize w'.alloc (.cells ((List.replicate (4 + 2 * tOf g + topOf (gF g) * topOf (gN g)) (0 : Int)).map encN).toArray 3) = w11 at *
        have h2 := h1.alloc #[.slice none 0 0] 28
        have h3 := h2.over 0 rfl [.slice (some ⟨w'.heap.size, 0, none⟩) (4 + 2 * tOf g) (4 + 2 * tOf g + topOf (gF g) * topOf (gN g))] rfl
        exact ⟨(h2.blk 0 rfl).can (by simp), (some ⟨w'.heap.size, 0, none⟩, 4 + 2 * tOf g, 4 + 2 * tOf g + topOf (gF g) * topOf (gN g)), h3.sel [0, 1, 2, 3, 5, 4] (by decide) _ rfl⟩
      have fin2 : ∀ w' bc, St F w w' [Chunk.blk bc #[.slice none 0 0] 28, Chunk.blk b8 #[.int .i64 (tOf g : Int)] 3, Chunk.blk b3 #[.pointer (some ⟨x, 0, none⟩)] 23, Chunk.blk b v.cells 32, idxC x l] → ∃ A n c w11, (Instr.makeSlice 28 (.int .i64 ((4 + 2 * tOf g : Nat) : Int)) (.int .i64 (sizeP g))).run Tryd.prog w' = .ok (.slice A n c) w11 ∧ canStore w11 bc 0 1 ∧
          ∃ P : Sl, St F w (setCs w11 bc 0 [.slice A n c]) (pgK bc b8 b3 x P (tOf g) (List.replicate (4 + 2 * tOf g) 0) l [Chunk.blk b v.cells 32]) := by
        intro w' bc hS
        have h1 := (hS.alloc ((List.replicate (4 + 2 * tOf g + topOf (gF g) * topOf (gN g)) (0 : Int)).map encN).toArray 3).as 0 rfl _ (fun F' hF => ls_of_made (n := 4 + 2 * tOf g) (by omega) (by omega) hF)
        refine ⟨_, _, _, _, mk w', ?_⟩
        generalize w'.alloc (.cells ((List.replicate (4 + 2 * tOf g + topOf (gF g) * topOf (gN g)) (0 : Int)).map encN).toArray 3) = w11 at *
        have h3 := h1.over 1 rfl [.slice (some ⟨w'.heap.size, 0, none⟩) (4 + 2 * tOf g) (4 + 2 * tOf g + topOf (gF g) * topOf (gN g))] rfl
        exact ⟨(h1.blk 1 rfl).can (by simp), (some ⟨w'.heap.size, 0, none⟩, 4 + 2 * tOf g, 4 + 2 * tOf g + topOf (gF g) * topOf (gN g)), h3.sel [1, 0, 2, 3, 5, 4] (by decide) _ rfl⟩
      refine ⟨_, _, _, (hS.blk 2 rfl).cell rfl, _, _, _, (hS.blk 2 rfl).cell rfl, _, _, _, (hS.blk 2 rfl).cell rfl, _, _, _, (hS.blk 2 rfl).cell rfl, _, _, _, (hS.blk 2 rfl).cell rfl, _, _, _, (hS.blk 2 rfl).cell rfl, ⟨_, (hS.blk 0 rfl).cell rfl, ?_⟩, ?_, ?_, trivial⟩
      · rw [e1]
        refine ⟨?_, ?_, trivial⟩
        · refine Calls.mono (hSd.step0 (sizeC (hg _ hSd.frame) hbig)) ?_
          rintro _ w10 ⟨rfl, hS⟩
          refine ⟨_, rfl, ?_, ?_, trivial⟩
          · obtain ⟨A, n, c, w11, r1, r2, r3⟩ := fin1 _ hS
            exact ⟨A, n, c, w11, r1, r2, rfl, rfl, r3⟩
          · obtain ⟨A, n, c, w11, r1, r2, r3⟩ := fin2 _ _ (hS.alloc #[.slice none 0 0] 28)
            exact ⟨A, n, c, w11, r1, r2, rfl, rfl, r3⟩
        · have hA := hSd.alloc #[.slice none 0 0] 28
          refine Calls.mono (hA.step0 (sizeC (hg _ hA.frame) hbig)) ?_
          rintro _ w10 ⟨rfl, hS⟩
          obtain ⟨A, n, c, w11, r1, r2, r3⟩ := fin2 _ _ hS
          exact ⟨_, rfl, A, n, c, w11, r1, r2, rfl, rfl, r3⟩
      · refine Calls.mono (hSd.step0 (sizeC (hg _ hSd.frame) hbig)) ?_
        rintro _ w10 ⟨rfl, hS⟩
        refine ⟨_, rfl, _, (hS.blk 0 rfl).cell rfl, ?_⟩
        rw [e1]
        refine ⟨?_, ?_, trivial⟩
        · obtain ⟨A, n, c, w11, r1, r2, r3⟩ := fin1 _ hS
          exact ⟨A, n, c, w11, r1, r2, rfl, rfl, r3⟩
        · obtain ⟨A, n, c, w11, r1, r2, r3⟩ := fin2 _ _ (hS.alloc #[.slice none 0 0] 28)
          exact ⟨A, n, c, w11, r1, r2, rfl, rfl, r3⟩
      · have hA := hSd.alloc #[.slice none 0 0] 28
        refine ⟨⟨_, (hA.blk 1 rfl).cell rfl, ?_⟩, ?_, trivial⟩
        · rw [e1]
          refine Calls.mono (hA.step0 (sizeC (hg _ hA.frame) hbig)) ?_
          rintro _ w10 ⟨rfl, hS⟩
          obtain ⟨A, n, c, w11, r1, r2, r3⟩ := fin2 _ _ hS
          exact ⟨_, rfl, A, n, c, w11, r1, r2, rfl, rfl, r3⟩
        · refine Calls.mono (hA.step0 (sizeC (hg _ hA.frame) hbig)) ?_
          rintro _ w10 ⟨rfl, hS⟩
          refine ⟨_, rfl, _, (hS.blk 1 rfl).cell rfl, ?_⟩
          rw [e1]
          obtain ⟨A, n, c, w11, r1, r2, r3⟩ := fin2 _ _ hS
          exact ⟨A, n, c, w11, r1, r2, rfl, rfl, r3⟩
    clear hS
    rintro d b9 o9 w35 ⟨rfl, P, hS⟩
    have hhd : (headP ver g).length = 4 := rfl
    have hSd := hS.drew
    have hA := hSd.alloc #[.int .i64 ver, .int .i64 (tOf g : Int), .int .i64 (topOf (gF g) : Int), .int .i64 (topOf (gN g) : Int)] 3
    obtain ⟨w39, rcopy, hS39⟩ := copyI hA 2 (l := List.replicate (4 + 2 * tOf g) 0) (hd := headP ver g) rfl (b := w35.drew.heap.size) (hA.blk 0 rfl) (by rw [hhd]; omega) (by rw [hhd]; simp)
    have e39 : headP ver g ++ (List.replicate (4 + 2 * tOf g) (0 : Int)).drop (headP ver g).length = pageZ (headP ver g) (List.replicate (tOf g) pz0) := by
      unfold pageZ
      rw [flatZ_zero, hhd, List.drop_replicate]
      congr 2; omega
    rw [e39] at hS39
    have hM3 : St F w w39 (pgK b9 b8 b3 x P (tOf g) (pageZ (headP ver g) (List.replicate (tOf g) pz0)) l [Chunk.blk b v.cells 32]) := hS39.tail
    have gf : (great (gF g) 0).isSome = true := by rw [p3]; rfl
    have gn : (great (gN g) 0).isSome = true := by rw [p4]; rfl
    have bf : v.f.2.1 ≤ 1000000000 := by omega
    have bn : v.n.2.1 ≤ 1000000000 := by omega
    refine ⟨fun w' => St F w w' (pgK b9 b8 b3 x P (tOf g) (pageZ (headP ver g) (List.replicate (tOf g) pz0)) l [Chunk.blk b v.cells 32]), ?_, ?_⟩
    · have cF := classesC (c := v.f.2.2) (hg _ hSd.frame).f.1 bf gf
      have cN := classesC (c := v.n.2.2) (hg _ hSd.frame).n.1 bn gn
      have lP : w35.cell? ⟨b9, 0, none⟩ = some P.v := (hS.blk 0 rfl).cell rfl
      have lPd : w35.drew.cell? ⟨b9, 0, none⟩ = some P.v := (hSd.blk 0 rfl).cell rfl
      have lT : w35.cell? ⟨b8, 0, none⟩ = some (.int .i64 (tOf g : Int)) := (hS.blk 2 rfl).cell rfl
      have lTd : w35.drew.cell? ⟨b8, 0, none⟩ = some (.int .i64 (tOf g : Int)) := (hSd.blk 2 rfl).cell rfl
      have lF : w35.cell? ⟨b, 3, none⟩ = some v.f.v := (hS.blk 5 rfl).cell rfl
      have lFd : w35.drew.cell? ⟨b, 3, none⟩ = some v.f.v := (hSd.blk 5 rfl).cell rfl
      have lN : w35.cell? ⟨b, 4, none⟩ = some v.n.v := (hS.blk 5 rfl).cell rfl
      have lNd : w35.drew.cell? ⟨b, 4, none⟩ = some v.n.v := (hSd.blk 5 rfl).cell rfl
      repeat' (first
        | exact trivial
        | with_reducible refine ⟨_, _, _, lP, ?_⟩
        | with_reducible refine ⟨_, _, _, lPd, ?_⟩
        | with_reducible refine ⟨_, lT, ?_⟩
        | with_reducible refine ⟨_, lTd, ?_⟩
        | with_reducible refine ⟨_, _, _, lF, ?_⟩
        | with_reducible refine ⟨_, _, _, lFd, ?_⟩
        | with_reducible refine ⟨_, _, _, lN, ?_⟩
        | with_reducible refine ⟨_, _, _, lNd, ?_⟩
        | (with_reducible refine Calls.mono cF ?_
           rintro _ wq ⟨rfl, hq⟩
           rw [hq]
           refine ⟨_, rfl, ?_⟩)
        | (with_reducible refine Calls.mono cN ?_
           rintro _ wq ⟨rfl, hq⟩
           rw [hq]
           refine ⟨_, rfl, ?_⟩)
        | exact ⟨_, _, rcopy, rfl, hM3⟩
        | refine And.intro ?_ ?_
        | fail)
    clear hM3 hS39 rcopy hA hSd hS
    rintro d w40 hS
    refine ⟨fun fu fi ca w' => Value.func (.func fu) fi ca = .func (.func 28) #[] #[.pointer (some ⟨b3, 0, none⟩), .pointer (some ⟨b8, 0, none⟩), .pointer (some ⟨b9, 0, none⟩)] ∧ w' = w40, ⟨rfl, rfl, rfl⟩, ?_⟩
    rintro d fu fi ca w41 ⟨h, rfl⟩
    cases h
    have hk1 := ens_kind (l := gA g) (n := upTo (gA g).length) (k := 3) (by omega)
    have hk2 := ens_kind (l := gS g) (n := gF g) (k := 1) (by omega)
    have hk3 := ens_kind (l := gO g) (n := gN g) (k := 2) (by omega)
    have hu : (gA g).length = (upTo (gA g).length).length := by simp [upTo]
    have he1 := ens_len (k := 3) hu
    have he2 := ens_len (l := gS g) (n := gF g) (k := 1) (by omega)
    have he3 := ens_len (l := gO g) (n := gN g) (k := 2) (by omega)
    have hz0 := full_zero (tOf g)
    have i1 := layGo_inv (ensOf (gA g) 3 (upTo (gA g).length)) (l, List.replicate (tOf g) pz0) hk1 (by rw [hz0]; simp; omega) hl
    have ez : (List.replicate (tOf g) pz0).length = tOf g := by simp
    dsimp only at i1
    rw [hz0, ez] at i1
    have i2 := layGo_inv (ensOf (gS g) 1 (gF g)) _ hk2 (by rw [i1.1, i1.2.1]; omega) i1.2.2
    rw [i1.1, i1.2.1] at i2
    have i3 := layGo_inv (ensOf (gO g) 2 (gN g)) _ hk3 (by rw [i2.1, i2.2.1]; omega) i2.2.2
    rw [i2.1, i2.2.1] at i3
    have efin : layZ g l = layGo (ensOf (gO g) 2 (gN g)) (layGo (ensOf (gS g) 1 (gF g)) (layGo (ensOf (gA g) 3 (upTo (gA g).length)) (l, List.replicate (tOf g) pz0))) := by
      unfold layZ ens
      simp only [layGo, List.foldl_append]
    have K1 := putC (nums := upTo (gA g).length) (names := gA g) (k := 3) (f := 29) (cap := #[]) (n := v.a.2.1) (c := v.a.2.2) hS hhd ez q2 q1 (by rw [hz0]; omega) hl (by omega) (fun w' hf => (hg w' hf).a.1) hu (fun w' l' W' i hS hi => num50 (by omega) (by omega))
    generalize layGo (ensOf (gA g) 3 (upTo (gA g).length)) (l, List.replicate (tOf g) pz0) = s1 at *
    refine ⟨fun w' => St F w w' (pgK b9 b8 b3 x P (tOf g) (pageZ (headP ver g) s1.2) s1.1 [Chunk.blk b v.cells 32]), ⟨_, _, _, (hS.blk 5 rfl).cell rfl, callT_of enters49.1 (Calls.mono K1 ?_)⟩, ?_⟩
    · rintro _ w42 ⟨rfl, hS⟩
      exact ⟨rfl, rfl, hS⟩
    clear K1 hS
    rintro d w43 hS
    have K2 := putC (nums := gF g) (names := gS g) (k := 1) (f := 30) (cap := #[.pointer (some ⟨b, 0, none⟩)]) (n := v.s.2.1) (c := v.s.2.2) hS hhd i1.2.1 q2 q1 (by rw [i1.1]; omega) i1.2.2 (by omega) (fun w' hf => (hg w' hf).s.1) (by omega) (fun w' l' W' i hS hi => num51 (hS.blk 5 rfl) (hg _ hS.frame).f.1 (by omega))
    have K2e : ((1 : Nat) : Int) = 1 := rfl
    rw [K2e] at K2
    generalize layGo (ensOf (gS g) 1 (gF g)) s1 = s2 at *
    refine ⟨fun w' => St F w w' (pgK b9 b8 b3 x P (tOf g) (pageZ (headP ver g) s2.2) s2.1 [Chunk.blk b v.cells 32]), ⟨_, _, _, (hS.blk 5 rfl).cell rfl, callT_of enters49.1 (Calls.mono K2 ?_)⟩, ?_⟩
    · rintro _ w42 ⟨rfl, hS⟩
      exact ⟨rfl, rfl, hS⟩
    clear K2 hS
    rintro d w44 hS
    have K3 := putC (nums := gN g) (names := gO g) (k := 2) (f := 31) (cap := #[.pointer (some ⟨b, 0, none⟩)]) (n := v.o.2.1) (c := v.o.2.2) hS hhd i2.2.1 q2 q1 (by rw [i2.1]; omega) i2.2.2 (by omega) (fun w' hf => (hg w' hf).o.1) (by omega) (fun w' l' W' i hS hi => num52 (hS.blk 5 rfl) (hg _ hS.frame).n.1 (by omega))
    have K3e : ((2 : Nat) : Int) = 2 := rfl
    rw [K3e] at K3
    rw [← efin] at K3
    have zlen : (layZ g l).2.length = tOf g := by rw [efin]; exact i3.2.1
    generalize layZ g l = s3 at *
    refine ⟨fun w' => St F w w' (pgK b9 b8 b3 x P (tOf g) (pageZ (headP ver g) s3.2) s3.1 [Chunk.blk b v.cells 32]), ⟨_, _, _, (hS.blk 5 rfl).cell rfl, callT_of enters49.1 (Calls.mono K3 ?_)⟩, ?_⟩
    · rintro _ w42 ⟨rfl, hS⟩
      exact ⟨rfl, rfl, hS⟩
    clear K3 hS
    rintro d w45 hS
    have hlp := pageZ_len hhd s3.2
    generalize pageZ (headP ver g) s3.2 = PZ at *
    refine ⟨_, _, _, (hS.blk 5 rfl).cell rfl, ?_⟩
    have hm4 : (gM g).length = topOf (gF g) := ((shaped_iff _ _ _ _).1 p7).1
    have hml : ∀ i, i ≤ topOf (gF g) → ((gM g).take i).flatten.length = i * topOf (gN g) := by
      intro i hi
      have : ∀ r ∈ (gM g).take i, r.length = topOf (gN g) := fun r hr => by
        obtain ⟨a, ha, rfl⟩ := (mem_getD [] _ _).1 (List.mem_of_mem_take hr)
        exact row_len hv (by omega)
      rw [List.length_flatten]
      have e : ((gM g).take i).map List.length = List.replicate i (topOf (gN g)) := by
        apply List.ext_getElem (by simp; omega)
        intro q h1 h2
        simp at h1
        simp only [List.getElem_map, List.getElem_replicate]
        exact this _ (List.getElem_mem _)
      rw [e]; simp
    refine ⟨fun y w' r => ∃ i : Nat, y = (i : Int) ∧ i + r = topOf (gF g) ∧ ∃ P : Sl, St F w w' (pgK b9 b8 b3 x P (tOf g) (PZ ++ ((gM g).take i).flatten) s3.1 [Chunk.blk b v.cells 32]), ⟨topOf (gF g), 0, rfl, by omega, P, by rw [List.take_zero, List.flatten_nil, List.append_nil]; exact hS⟩, ?_⟩
    clear hS
    rintro d y w46 r ⟨i, rfl, hir, P, hS⟩
    refine sel_of (fun hd => ?_) (fun hd => ?_)
    · have hi : i < topOf (gF g) := by have := of_decide_eq_true hd; omega
      have hrl := row_len hv hi
      have hlen := hml i (by omega)
      have hmi : i * topOf (gN g) ≤ 4096 := by
        have := Nat.mul_le_mul (show i ≤ 64 by omega) p6
        omega
      refine ⟨by omega, by omega, InM.needG (fun w' hf => (hg w' hf).m.1) hS.frame rfl (by omega) fun B k c hU => ?_⟩
      have hk := (hU w (Fr.refl _ _)).1
      refine ⟨fun y w' q => ∃ j : Nat, y = (j : Int) ∧ j + q = topOf (gN g) ∧ ∃ P : Sl, St F w w' (pgK b9 b8 b3 x P (tOf g) (PZ ++ ((gM g).take i).flatten ++ ((gM g).getD i []).take j) s3.1 [Chunk.blk b v.cells 32]), ⟨topOf (gN g), 0, rfl, by omega, P, by rw [List.take_zero, List.append_nil]; exact hS⟩, ?_⟩
      clear hS
      rintro d y w47 q ⟨j, rfl, hjq, P, hS⟩
      refine sel_of (fun hd => ?_) (fun hd => ?_)
      · have hj : j < topOf (gN g) := by have := of_decide_eq_true hd; omega
        have hu : 0 ≤ ((gM g).getD i []).getD j 0 ∧ ((gM g).getD i []).getD j 0 < 65536 := by
          refine (hg w (Fr.refl _ _)).u ((gM g).getD i []) ?_ _ ?_
          · exact (mem_getD [] _ _).2 ⟨i, by omega, rfl⟩
          · exact (mem_getD 0 _ _).2 ⟨j, by omega, rfl⟩
        obtain ⟨A', n', c', w48, r1, hS1⟩ := appI hS 1 rfl (((gM g).getD i []).getD j 0) (by simp only [List.length_append, List.length_take]; omega)
        have hS2 := hS1.over 0 rfl [.slice A' n' c'] rfl
        refine ⟨by omega, by omega, (hU _ hS.frame).need rfl (by omega) ⟨_, _, _, (hS.blk 0 rfl).cell rfl, ?_⟩⟩
        rw [i64_id (x := ((gM g).getD i []).getD j 0) (by omega) (by omega), inc j 1000 (by omega) (by omega)]
        refine ⟨_, _, _, _, r1, (hS1.blk 0 rfl).can (by simp), rfl, q - 1, by omega, j + 1, rfl, by omega, (A', n', c'), ?_⟩
        have e1 : PZ ++ ((gM g).take i).flatten ++ ((gM g).getD i []).take (j + 1) = PZ ++ ((gM g).take i).flatten ++ ((gM g).getD i []).take j ++ [((gM g).getD i []).getD j 0] := by
          rw [take_snoc 0 _ j (by omega), ← List.append_assoc]
        rw [e1]
        exact hS2
      · have hj : j = topOf (gN g) := by have := of_decide_eq_false hd; omega
        rw [inc i 1000 (by omega) (by omega)]
        refine ⟨rfl, r - 1, by omega, i + 1, rfl, by omega, P, ?_⟩
        rw [List.take_of_length_le (l := (gM g).getD i []) (by omega)] at hS
        have e1 : PZ ++ ((gM g).take (i + 1)).flatten = PZ ++ ((gM g).take i).flatten ++ (gM g).getD i [] := by
          rw [take_snoc [] (gM g) i (by omega), List.flatten_append, ← List.append_assoc]
          simp
        rw [e1]
        exact hS
    · have hi : i = topOf (gF g) := by have := of_decide_eq_false hd; omega
      rw [List.take_of_length_le (by omega)] at hS
      exact ⟨_, _, _, (hS.blk 0 rfl).cell rfl, _, _, _, rfl, hS.sel [1, 4] (by decide) _ rfl⟩
  · rintro e w' ⟨v, rfl, A, n, c, rfl, h⟩; exact ⟨_, _, _, rfl, h⟩
end PG
end Go.Proofs.YtjmlfknogjaemaaDoor
/- Records of several cells: one more on a list. -/
set_option linter.unusedVariables false
set_option linter.unusedSimpArgs false
namespace Go.Proofs.YtjmlfknogjaemaaDoor.Vc
open Go
/-- A list of records. -/
abbrev Chunk.lr {α : Type} (enc : α → List Value) (e : TypeId) (s : Nat) (v : Value) (l : List α) : Chunk := Chunk.sl e s v (l.map enc)
theorem St.appR {α : Type} {enc : α → List Value} {s : Nat} (hs : 0 < s) (hlen : ∀ a, (enc a).length = s) (henc : ∀ a, ∀ u ∈ enc a, u.oneCell' = true) {P : Program} {t ty e : TypeId} {ti : TypeInfo} {z : Value} (ht : P.underlying t = some (.slice e)) (hti : P.info? e = some ti) (hz : ti.zero = some z) (hsize : ti.size = s) (hzs : z.cells.size = s) (hb : ti.bytes ≤ 1000)
    {S : List Nat} {w0 w : World} {L : List Chunk} (h : St S w0 w L) (i : Nat) {A : Option Addr} {n c : Nat} {l : List α} (hi : L[i]? = some (Chunk.lr enc e s (.slice A n c) l)) (a : α) (hl : l.length ≤ 40000000) :
    ∃ A' n' c' w', (Builtin.append_ #[t, t] ty #[.slice A n c, .slice (some ⟨w.heap.size, 0, Option.none⟩) 1 1]).run P (World.alloc w (.cells (enc a).toArray e)) = .ok (.slice A' n' c') w' ∧
      St S w0 w' (L.set i (Chunk.lr enc e s (.slice A' n' c') (l ++ [a]))) := by
  have h2 := h.alloc (enc a).toArray e
  have el : (l.map enc).length = l.length := by simp
  obtain ⟨g', cap', w3, hrun, h3⟩ := h2.append (P := P) (t := t) (ty := ty) (r := enc a) (i + 1) ht hti hz hsize hzs hs (by simpa using hi) (h2.blk 0 rfl) rfl (hlen a) (henc a) (by rw [el]; have := Nat.mul_le_mul (show l.length + 1 ≤ 40000001 by omega) hb; omega) (by rw [el]; simp [maxLen]; omega)
  rw [el] at hrun h3
  refine ⟨_, _, _, w3, hrun, ?_⟩
  have h4 := h3.tail
  rw [show (l.map enc) ++ [enc a] = (l ++ [a]).map enc by simp] at h4
  exact h4
theorem St.lrLen {α : Type} {enc : α → List Value} {s : Nat} {S : List Nat} {w0 w : World} {L : List Chunk} (h : St S w0 w L) (i : Nat) {e : TypeId} {A : Option Addr} {n c : Nat} {l : List α} (hi : L[i]? = some (Chunk.lr enc e s (.slice A n c) l)) : n = l.length := by
  have := h.slLen i hi
  rwa [List.length_map] at this
theorem St.lrGet {α : Type} (d : α) {enc : α → List Value} {s : Nat} {S : List Nat} {w0 w : World} {L : List Chunk} (h : St S w0 w L) (i : Nat) {e : TypeId} {A : Option Addr} {n c : Nat} {l : List α} (hi : L[i]? = some (Chunk.lr enc e s (.slice A n c) l)) (hp : 0 < n) :
    ∃ g, A = some ⟨g, 0, Option.none⟩ ∧ ∀ q, q < n → ∀ j x, j < s → (enc (l.getD q d))[j]? = some x → w.cell? ⟨g, q * s + j, Option.none⟩ = some x := by
  have hn := h.lrLen i hi
  obtain ⟨g, hg, hc⟩ := h.slGet i hi (by simp; omega)
  refine ⟨g, hg, fun q hq j x hj hx => ?_⟩
  exact hc q j x (by simp; omega) hj (by
    rw [← hx]
    simp [List.getD_eq_getElem?_getD, show q < l.length by omega])
theorem flat_at {s : Nat} (hs : 0 < s) : ∀ {rs : List (List Value)}, (∀ r ∈ rs, r.length = s) → ∀ j, rs.flatten[j]? = (rs.getD (j / s) [])[j % s]?
  | [], _, j => by simp
  | r :: rs, h, j => by
    have hr := h r List.mem_cons_self
    rw [List.flatten_cons]
    by_cases hj : j < s
    · rw [List.getElem?_append_left (by omega), Nat.div_eq_of_lt hj, Nat.mod_eq_of_lt hj]; rfl
    · rw [List.getElem?_append_right (by omega), flat_at hs (fun x hx => h x (List.mem_cons_of_mem _ hx)), hr]
      obtain ⟨q, rfl⟩ : ∃ q, j = q + s := ⟨j - s, by omega⟩
      rw [Nat.add_sub_cancel, Nat.add_div_right _ hs, Nat.add_mod_right]; rfl
/-- Many records more, that lie anywhere. -/
theorem St.appManyR {α : Type} (d : α) {enc : α → List Value} {s : Nat} (hs : 0 < s) (hlen : ∀ a, (enc a).length = s) (henc : ∀ a, ∀ u ∈ enc a, u.oneCell' = true) {P : Program} {t ty e : TypeId} {ti : TypeInfo} {z : Value} (ht : P.underlying t = some (.slice e)) (hti : P.info? e = some ti) (hz : ti.zero = some z) (hsize : ti.size = s) (hzs : z.cells.size = s) (hb : ti.bytes ≤ 1000)
    {S : List Nat} {w0 w : World} {L : List Chunk} (h : St S w0 w L) (i : Nat) {A : Option Addr} {n c : Nat} {l : List α} (hi : L[i]? = some (Chunk.lr enc e s (.slice A n c) l)) {A2 : Option Addr} {n2 c2 : Nat} {k : List α}
    (hn : n2 = k.length) (hk : 0 < n2 → ∃ b o, A2 = some ⟨b, o, Option.none⟩ ∧ ∀ q, q < n2 → ∀ j x, j < s → (enc (k.getD q d))[j]? = some x → w.cell? ⟨b, o + (q * s + j), Option.none⟩ = some x) (hl : l.length + k.length ≤ 40000000) :
    ∃ A' n' c' w', (Builtin.append_ #[t, t] ty #[.slice A n c, .slice A2 n2 c2]).run P w = .ok (.slice A' n' c') w' ∧ St S w0 w' (L.set i (Chunk.lr enc e s (.slice A' n' c') (l ++ k))) := by
  have hil : i < L.length := (List.getElem?_eq_some_iff.1 hi).1
  rcases Nat.eq_zero_or_pos n2 with h0 | h0
  · subst h0
    have hk0 : k = [] := List.eq_nil_of_length_eq_zero hn.symm
    subst hk0
    have hsrc : Src P ti.size t (.slice A2 0 c2) 0 [] w := by
      cases A2 with
      | none => exact Src.ofNil w ht c2
      | some a => exact Src.ofSlice w ht a 0 c2 [] (by simp) (by simp) (by simp)
    have hle : n ≤ c := by
      obtain ⟨F, h1, _⟩ := h.at i hi
      rcases h1 with ⟨h1, h2, _⟩ | ⟨g, cap, h1, _, h2⟩
      · injection h1 with _ e1 e2; omega
      · injection h1 with _ e1 e2
        obtain ⟨_, _, _, h5, _⟩ := h2
        omega
    refine ⟨A, n, c, w, run_append_nothing w t t ty e ti ht hti A n c hle _ hsrc, ?_⟩
    rw [List.append_nil]
    have e : L.set i (Chunk.lr enc e s (.slice A n c) l) = L := by
      apply List.ext_getElem?
      intro q
      by_cases hq : q = i
      · subst hq; rw [List.getElem?_set_self hil, hi]
      · rw [List.getElem?_set_ne (Ne.symm hq)]
    rw [e]; exact h
  · obtain ⟨b, o, rfl, hc⟩ := hk h0
    obtain ⟨F, k1, _, k3⟩ := h.at i hi
    have el : (l.map enc).length = l.length := by simp
    have ek : (k.map enc).length = k.length := by simp
    have hks : ∀ x ∈ k.map enc, x.length = s := fun x hx => by obtain ⟨a, _, rfl⟩ := List.mem_map.1 hx; exact hlen a
    obtain ⟨g', cap', w', hrun, hR, hg⟩ := append_rowsA (P := P) (w := w) (t := t) (ty := ty) (e := e) (i := ti) (z := z) (s := s) (rs := l.map enc) (v := .slice A n c) (news := k.map enc) (a0 := ⟨b, o, Option.none⟩) (c := c2) ht hti hz hsize hzs hs
      (by
        rcases k1 with ⟨k1, k2, _⟩ | ⟨g, cap, k1, _, k2⟩
        · exact .inl ⟨k1, k2⟩
        · exact .inr ⟨g, cap, k1, k2⟩)
      (by
        intro j u hu
        have hj : j < k.length * s := by
          have := (List.getElem?_eq_some_iff.1 hu).1
          rwa [flat_len hks, ek] at this
        have hq : j / s < k.length := (Nat.div_lt_iff_lt_mul hs).2 hj
        rw [flat_at hs hks] at hu
        rw [Addr.add_lit, ← hc (j / s) (by omega) (j % s) u (Nat.mod_lt _ hs) (by
          rw [← hu]
          simp [List.getD_eq_getElem?_getD, hq])]
        rw [Nat.mul_comm (j / s) s, Nat.div_add_mod])
      hks (by intro u hu; obtain ⟨r, hr, hu⟩ := List.mem_flatten.1 hu; obtain ⟨a, _, rfl⟩ := List.mem_map.1 hr; exact henc a u hu) (fun x hx => by obtain ⟨a, _, rfl⟩ := List.mem_map.1 hx; exact hlen a) (by rw [ek]; omega) (by rw [el, ek]; have := Nat.mul_le_mul (show l.length + k.length ≤ 40000000 by omega) hb; omega) (by rw [el, ek]; simp [maxLen]; omega)
    rw [el, ek] at hrun
    rw [← List.map_append] at hR
    rw [← hn] at hrun
    refine ⟨_, _, _, w', hrun, ?_⟩
    have eN : l.length + n2 = ((l ++ k).map enc).length := by simp; omega
    rw [eN]
    rcases hg with ⟨hv, hf⟩ | ⟨hge, hf⟩
    · refine k3 (F' := [g']) (hf.mono ?_) (.inr ⟨g', cap', rfl, rfl, hR⟩) ?_
      · intro x hx
        rcases k1 with ⟨k1, _, _⟩ | ⟨g, cap, k1, rfl, _⟩
        · rw [k1] at hv; cases hv
        · rw [k1] at hv; injection hv with e1 e2 e3; simp at e1; subst e1; exact hx
      · intro x hx
        rcases k1 with ⟨k1, _, _⟩ | ⟨g, cap, k1, rfl, _⟩
        · rw [k1] at hv; cases hv
        · rw [k1] at hv; injection hv with e1 e2 e3; simp at e1; subst e1; exact .inl hx
    · exact k3 (F' := [g']) (hf.mono (by simp)) (.inr ⟨g', cap', rfl, rfl, hR⟩) (fun x hx => by simp at hx; subst hx; exact .inr hge)
end Go.Proofs.YtjmlfknogjaemaaDoor.Vc
