/- Two lists of pairs, one behind the other, as the library joins them. -/
import Derived.Test.YtddbebhklmaeoaaM10
import Derived.Test.YtddbebhklmaeoaaM11
import Derived.Test.YtddbebhklmaeoaaM7
import Derived.Test.YtddbebhklmaeoaaM9
set_option linter.unusedVariables false
set_option linter.unusedSimpArgs false
set_option maxRecDepth 10000
namespace Go.Proofs.Ytddbebhklmaeoaa
open Go Go.Proofs.Ytddbebhklmaeoaa.Vc
namespace JG
open Vc.PG JD
theorem run_append_zeros {P : Program} {w : World} (t u ty e : TypeId) (i : TypeInfo) (z : Value) (ht : P.underlying t = some (.slice e)) (hu : P.underlying u = some (.int .i64)) (hi : P.info? e = some i) (hz : i.zero = some z) (hzs : z.cells.size = i.size) (hs : 0 < i.size)
    (n : Nat) (h0 : 0 < n) (h63 : (n : Int) ≤ 100000000) (h48 : i.bytes ≤ 1000) :
    (Builtin.append_ #[t, u] ty #[.slice none 0 0, .int .i64 (n : Int)]).run P w =
      .ok (.slice (some ⟨w.heap.size, 0, none⟩) n (grownCap w n 0 e)) (w.drew.alloc (.cells (Builtin.zeroCells z.cells n ++ Builtin.zeroCells z.cells (grownCap w n 0 e - n)) e)) := by
  have hn : n ≠ 0 := by omega
  have hw : IntKind.i64.wrap (n : Int) = (n : Int) := i64_id (by omega) (by omega)
  have hnb : n * i.bytes ≤ 100000000 * 1000 := Nat.mul_le_mul (by omega) h48
  have hb1 : ¬ (281474976710656 < (n : Int) * (i.bytes : Int)) := by
    rw [← Int.natCast_mul]; omega
  have hai : ∀ w, (asIntOf (.int .i64 (n : Int))).run P w = .ok (.i64, (n : Int)) w := fun w => rfl
  have h63' : ¬ (9223372036854775807 < (n : Int)) := by omega
  have h48' : ¬ (281474976710656 < Builtin.nextslicecap n 0 * i.bytes) := by rw [nextslicecap_zero h0]; omega
  have hns : ¬ (n * i.size = 0) := by
    have := Nat.mul_pos h0 hs; omega
  have hneg : ¬ ((n : Int) < 0) := by omega
  have hsz : i.size ≠ 0 := by omega
  simp [Builtin.append_, run_underlying ht, run_underlying hu, sizeOf, typeInfo, zeroValue, hi, hz, asInt, hai, hb1, hw, hn, hneg, h63', h48', Question.forced, run_firstCells_none, newRow, grownCap, hsz]
  try omega
theorem under24 : Try.prog.underlying 24 = some (.slice 147) := by kernel_rfl
theorem under3 : Try.prog.underlying 3 = some (.int .i64) := by kernel_rfl
theorem info147 : ∃ i, Try.prog.info? 147 = some i ∧ i.zero = some (.agg #[.string ⟨#[]⟩, .string ⟨#[]⟩]) ∧ i.size = 2 ∧ i.bytes = 32 := ⟨Try.prog.types[147]!, by kernel_rfl, by kernel_rfl, by kernel_rfl, by kernel_rfl⟩
abbrev lrP (v : Value) (l : List PairD) : Chunk := Chunk.lr (flatV pairT) 147 2 v l
theorem growR {w : World} (n : Nat) (hn : n ≤ 10000000) : Calls Try.prog 105 #[.slice none 0 0, .int .i64 (n : Int)] w fun e w' => ∃ (A : Option Addr) (c : Nat), e = .returned (.slice A 0 c) ∧ St [] w w' [lrP (.slice A 0 c) []] := by
  refine Calls.mono (f105.calls (R := fun v w' => ∃ (A : Option Addr) (c : Nat), v = .slice A 0 c ∧ St [] w w' [lrP (.slice A 0 c) []]) ?_) ?_
  · dsimp only [f105.VC]
    refine sel_false (decide_eq_false (by omega)) ⟨0, w, rfl, ?_⟩
    rw [show IntKind.i64.wrap (0 - ((0 : Nat) : Int)) = 0 from rfl, i64_id (x := (n : Int) - 0) (by omega) (by omega), Int.sub_zero]
    refine sel_of (fun hd => ?_) (fun hd => ?_)
    · have hd : 0 < n := by have := of_decide_eq_true hd; omega
      obtain ⟨ti, i1, i2, i3, i4⟩ := info147
      have hrun := run_append_zeros (P := Try.prog) (w := w) 24 3 24 147 ti _ under24 under3 i1 i2 (by rw [i3]; rfl) (by omega) n hd (by omega) (by omega)
      have hge := grownCap_ge w n 0 147
      refine ⟨0, w, rfl, by omega, by omega, _, _, _, _, hrun, by omega, by omega, _, _, rfl, ?_⟩
      refine (St.start w).new (F := [w.heap.size]) (Fr.refl [] w).drew.alloc (.inr ⟨w.heap.size, _, rfl, rfl, _, Blk.newd, ?_, by simp, grownCap_le_maxLen w n 0 147 (by simp [maxLen]; omega), by simp, by simp⟩) (by simp)
      rw [Array.size_append, size_zeroCells, size_zeroCells]
      rw [show (Value.agg #[.string ⟨#[]⟩, .string ⟨#[]⟩]).cells.size = 2 from rfl]
      omega
    · exact ⟨none, 0, rfl, (St.start w).nil 147 2⟩
  · rintro e w' ⟨v, rfl, A, c, rfl, h⟩; exact ⟨A, c, rfl, h⟩
theorem concatR {w : World} {b : Nat} {x y : Sl} {N F : List PairD} (hB : Blk w b #[x.v, y.v] 24) (hx : RdL pairT w x N) (hy : RdL pairT w y F) (hN : N.length ≤ 1100000) (hF : F.length ≤ 1100000) :
    Calls Try.prog 89 #[.slice (some ⟨b, 0, none⟩) 2 2] w fun e w' => ∃ z : Sl, e = .returned z.v ∧ Fr [] w w' ∧ RdL pairT w' z (N ++ F) := by
  refine Calls.mono (f89.calls (R := fun v w' => ∃ z : Sl, v = z.v ∧ Fr [] w w' ∧ RdL pairT w' z (N ++ F)) ?_) ?_
  · dsimp only [f89.VC]
    have hlx : x.2.1 = N.length := hx.1
    have hly : y.2.1 = F.length := hy.1
    have two : ∀ i : Nat, i < 2 → i = 0 ∨ i = 1 := by omega
    refine ⟨fun s i w' r => w' = w ∧ ∃ k : Nat, i = (k : Int) ∧ k + r = 2 ∧ s = ((if k = 0 then 0 else if k = 1 then N.length else N.length + F.length : Nat) : Int), ⟨2, rfl, 0, rfl, rfl, rfl⟩, ?_⟩
    rintro d s i w1 r ⟨rfl, k, rfl, hk, rfl⟩
    refine sel_of (fun hd => ?_) (fun hd => ?_)
    · have hk2 : k < 2 := by have := of_decide_eq_true hd; omega
      rcases two k hk2 with rfl | rfl
      · refine ⟨by omega, by omega, needPtr_of rfl ⟨_, _, _, hB.cell (i := 0) rfl, ?_⟩⟩
        rw [hlx, i64_id (x := ((if (0 : Nat) = 0 then 0 else if (0 : Nat) = 1 then N.length else N.length + F.length : Nat) : Int) + (N.length : Int)) (by simp <;> omega) (by simp <;> omega)]
        exact sel_false (decide_eq_false (by simp)) ⟨rfl, 1, by omega, rfl, 1, rfl, rfl, by simp⟩
      · refine ⟨by omega, by omega, needPtr_of rfl ⟨_, _, _, hB.cell (i := 1) rfl, ?_⟩⟩
        rw [hly, i64_id (x := ((if (1 : Nat) = 0 then 0 else if (1 : Nat) = 1 then N.length else N.length + F.length : Nat) : Int) + (F.length : Int)) (by simp <;> omega) (by simp <;> omega)]
        exact sel_false (decide_eq_false (by simp; omega)) ⟨rfl, 0, by omega, rfl, 2, rfl, rfl, by simp⟩
    · have hk2 : k = 2 := by have := of_decide_eq_false hd; omega
      subst hk2
      rw [show ((if (2 : Nat) = 0 then 0 else if (2 : Nat) = 1 then N.length else N.length + F.length : Nat) : Int) = ((N.length + F.length : Nat) : Int) by simp]
      refine Calls.mono (growR (N.length + F.length) (by omega)) ?_
      rintro _ w2 ⟨A, c, rfl, hS2⟩
      refine ⟨_, _, _, rfl, ?_⟩
      refine ⟨fun A n c i w' r => ∃ k : Nat, i = (k : Int) ∧ k + r = 2 ∧ St [] w1 w' [lrP (.slice A n c) (if k = 0 then [] else if k = 1 then N else N ++ F)], ⟨2, 0, rfl, rfl, hS2⟩, ?_⟩
      rintro d A n c i w3 r ⟨k, rfl, hk, hS3⟩
      have hB3 := hS3.frame.blk hB (by simp)
      obtain ⟨ti, i1, i2, i3, i4⟩ := info147
      have app : ∀ {l : List PairD} {z : Sl} {k : List PairD}, RdL pairT w3 z k → St [] w1 w3 [lrP (.slice A n c) l] → l.length + k.length ≤ 40000000 →
          ∃ A' n' c' w', (Builtin.append_ #[24, 24] 24 #[.slice A n c, .slice z.1 z.2.1 z.2.2]).run Try.prog w3 = .ok (.slice A' n' c') w' ∧ St [] w1 w' [lrP (.slice A' n' c') (l ++ k)] := by
        intro l z k hz hS hl
        exact hS.appManyR pd (enc := flatV pairT) (s := 2) (by decide) (fun _ => rfl) (by intro a u hu; simp [flatV] at hu; rcases hu with rfl | rfl <;> rfl) under24 i1 i2 i3 rfl (by omega) 0 rfl hz.1
          (fun hp => by
            obtain ⟨b, o, h1, h2⟩ := RdL.flat (e := pairT) rfl hz hp
            refine ⟨b, o, h1, fun q hq j x _ hx => ?_⟩
            have := h2 q hq j x hx
            rwa [Nat.add_assoc] at this) hl
      refine sel_of (fun hd => ?_) (fun hd => ?_)
      · have hk2 : k < 2 := by have := of_decide_eq_true hd; omega
        rcases two k hk2 with rfl | rfl
        · obtain ⟨A', n', c', w', hrun, hS'⟩ := app (hx.fr hS3.frame) hS3 (by simp; omega)
          exact ⟨by omega, by omega, needPtr_of rfl ⟨_, _, _, hB3.cell (i := 0) rfl, _, _, _, _, hrun, rfl, 1, by omega, 1, rfl, rfl, by simpa using hS'⟩⟩
        · obtain ⟨A', n', c', w', hrun, hS'⟩ := app (hy.fr hS3.frame) hS3 (by simp; omega)
          exact ⟨by omega, by omega, needPtr_of rfl ⟨_, _, _, hB3.cell (i := 1) rfl, _, _, _, _, hrun, rfl, 0, by omega, 2, rfl, rfl, by simpa using hS'⟩⟩
      · have hk2 : k = 2 := by have := of_decide_eq_false hd; omega
        subst hk2
        refine ⟨(A, n, c), rfl, hS3.frame, ?_⟩
        obtain ⟨G, h1, _⟩ := hS3.at 0 rfl
        have h1 : (lrP (.slice A n c) (N ++ F)).holds w3 G := by simpa using h1
        exact lr_reads (e := pairT) rfl 147 (x := (A, n, c)) h1 (fun _ _ => rfl)
  · rintro e w' ⟨v, rfl, z, rfl, h⟩; exact ⟨z, rfl, h⟩
end JG
end Go.Proofs.Ytddbebhklmaeoaa
/- Maps as owned pieces of memory. -/
set_option linter.unusedVariables false
set_option linter.unusedSimpArgs false
namespace Go.Proofs.Ytddbebhklmaeoaa.Vc
open Go
section
variable {K V : Type} [DecidableEq K]
def Chunk.map (encK : K → Value) (encV : V → Value) (r : Nat) (l : List (K × V)) : Chunk where
  holds w F := F = [r] ∧ GM.MapIs encK encV w r l
  fr h hf hS := ⟨h.1, h.2.fr hf (hS r (by simp [h.1]))⟩
  lt h x hx := by
    rw [h.1] at hx
    simp at hx
    subst hx
    exact h.2.lt
variable {encK : K → Value} {encV : V → Value} {S : List Nat} {w0 w : World} {L : List Chunk} {P : Program} {t kt et : TypeId} {r : Nat} {l : List (K × V)}
theorem St.mapNew (h : St S w0 w L) : St S w0 (World.alloc w (.map #[] 0)) (Chunk.map encK encV w.heap.size [] :: L) :=
  h.new (Fr.refl [] w).allocM ⟨rfl, GM.MapIs.new w⟩ (by simp)
theorem St.mapIs (h : St S w0 w L) (i : Nat) (hi : L[i]? = some (Chunk.map encK encV r l)) : GM.MapIs encK encV w r l := by
  obtain ⟨F, h1, _⟩ := h.at i hi
  exact h1.2
theorem St.mapUpd (h : St S w0 w L) (i : Nat) (hi : L[i]? = some (Chunk.map encK encV r l)) (ht : P.underlying t = some (.map kt et)) (hk : GM.KeyLaw P kt encK) (k : K) (v : V) :
    ∃ w', (Instr.mapUpdate t (.map (some r)) (encK k) (encV v)).run P w = .ok () w' ∧ St S w0 w' (L.set i (Chunk.map encK encV r (GM.put l k v))) := by
  obtain ⟨F, h1, _, h3⟩ := h.at i hi
  obtain ⟨w', q1, q2, q3⟩ := GM.upd ht hk h1.2 k v
  exact ⟨w', q1, h3 (F' := F) (by rw [h1.1]; exact q3) ⟨h1.1, q2⟩ (fun x hx => .inl hx)⟩
end
end Go.Proofs.Ytddbebhklmaeoaa.Vc
/- A map from each name to what it leads to, in the pairs' order. -/
set_option linter.unusedVariables false
set_option linter.unusedSimpArgs false
set_option maxRecDepth 10000
namespace Go.Proofs.Ytddbebhklmaeoaa
open Go Go.Proofs.Ytddbebhklmaeoaa.Vc
namespace JG
open Vc.PG JD
abbrev encL (x : Sl) : Value := x.v
abbrev nilS : Sl := (none, 0, 0)
/-- What a name leads to. -/
def toOf (E : List PairD) (x : ByteArray) : List ByteArray := (E.filter fun q => decide (q.1 = x)).map (·.2.1)
theorem mem_toOf {E : List PairD} {x y : ByteArray} : y ∈ toOf E x ↔ ∃ q ∈ E, q.1 = x ∧ q.2.1 = y := by
  unfold toOf
  simp only [List.mem_map, List.mem_filter, decide_eq_true_iff]
  exact ⟨fun ⟨q, ⟨h1, h2⟩, h3⟩ => ⟨q, h1, h2, h3⟩, fun ⟨q, h1, h2, h3⟩ => ⟨q, ⟨h1, h2⟩, h3⟩⟩
theorem toOf_snoc (E : List PairD) (q : PairD) (x : ByteArray) : toOf (E ++ [q]) x = if q.1 = x then toOf E x ++ [q.2.1] else toOf E x := by
  unfold toOf
  rw [List.filter_append, List.map_append]
  by_cases h : q.1 = x
  · rw [if_pos h, List.filter_cons_of_pos (by simp [h])]; rfl
  · rw [if_neg h, List.filter_cons_of_neg (by simp [h])]; simp
theorem toOf_len (E : List PairD) (x : ByteArray) : (toOf E x).length ≤ E.length := by
  unfold toOf
  rw [List.length_map]; exact List.length_filter_le _ _
theorem under165 : Try.prog.underlying 165 = some (.map 9 22) := by kernel_rfl
theorem under9 : Try.prog.underlying 9 = some .string := by kernel_rfl
theorem info22 : ∃ i, Try.prog.info? 22 = some i ∧ i.zero = some (encL nilS) := ⟨Try.prog.types[22]!, by kernel_rfl, by kernel_rfl⟩
theorem keyS : GM.KeyLaw Try.prog 9 encS := GM.KeyLaw.text under9
theorem lookL {w : World} {r : Nat} {l : List (ByteArray × Sl)} (h : GM.MapIs encS encL w r l) (k : ByteArray) : (Instr.lookup 165 (.map (some r)) (.string k) false).run Try.prog w = .ok (GM.get nilS l k).v w := by
  obtain ⟨i, h1, h2⟩ := info22
  exact GM.look under165 keyS h1 h2 h k false
theorem idx_some {l : List (ByteArray × Sl)} {x : ByteArray} {j : Nat} (h : GM.idx l x = some j) : ∃ v, l[j]? = some (x, v) := by
  unfold GM.idx at h
  obtain ⟨hj, h1, _⟩ := List.findIdx?_eq_some_iff_getElem.mp h
  simp only [List.length_map] at hj
  simp only [List.getElem_map, decide_eq_true_iff] at h1
  exact ⟨l[j].2, by rw [List.getElem?_eq_getElem hj, ← h1]⟩
theorem idx_none {l : List (ByteArray × Sl)} {x : ByteArray} (h : GM.idx l x = none) : x ∉ l.map (·.1) := by
  unfold GM.idx at h
  rw [List.findIdx?_eq_none_iff] at h
  intro hm
  have := h x hm
  simp at this
/-- Each name's list. -/
def LinesAt (w : World) (r : Nat) (E : List PairD) : Prop := ∃ ks, GM.MapIs encS encL w r ks ∧ ∀ x, RdL .str w (GM.get nilS ks x) (toOf E x)
theorem LinesAt.fr {w w' : World} {r : Nat} {E : List PairD} (h : LinesAt w r E) (hf : Fr [] w w') : LinesAt w' r E := by
  obtain ⟨ks, h1, h2⟩ := h
  exact ⟨ks, h1.fr hf (by simp), fun x => (h2 x).fr hf⟩
/-- The lists of a map that grows. -/
def entL (E : List PairD) (ks : List (ByteArray × Sl)) : List Chunk := ks.map fun k => Chunk.ls encS 9 k.2.v (toOf E k.1)
theorem entL_at {E : List PairD} {ks : List (ByteArray × Sl)} {j : Nat} {x : ByteArray} {v : Sl} (h : ks[j]? = some (x, v)) : (entL E ks)[j]? = some (Chunk.ls encS 9 v.v (toOf E x)) := by
  unfold entL
  rw [List.getElem?_map, h]; rfl
theorem linesR {w : World} {x : Sl} {E : List PairD} (hx : RdL pairT w x E) (hE : E.length ≤ 2200000) : Calls Try.prog 102 #[x.v] w fun e w' => ∃ r : Nat, e = .returned (.map (some r)) ∧ Fr [] w w' ∧ LinesAt w' r E := by
  refine Calls.mono (f102.calls (R := fun v w' => ∃ r : Nat, v = .map (some r) ∧ Fr [] w w' ∧ LinesAt w' r E) ?_) ?_
  · dsimp only [f102.VC]
    have hl : x.2.1 = E.length := hx.1
    have hS0 := (St.start w).mapNew (encK := encS) (encV := encL)
    generalize World.alloc w (.map #[] 0) = w1 at *
    generalize w.heap.size = r at *
    refine ⟨fun i w' m => ∃ (k : Nat) (ks : List (ByteArray × Sl)), i = (k : Int) ∧ k + m = x.2.1 ∧ St [] w w' (Chunk.map encS encL r ks :: entL (E.take k) ks) ∧ (ks.map (·.1)).Nodup ∧ ∀ y, y ∉ ks.map (·.1) → toOf (E.take k) y = [],
      ⟨x.2.1, 0, [], rfl, by omega, hS0, by simp, fun y _ => by simp [toOf]⟩, ?_⟩
    rintro d i w2 m ⟨k, ks, rfl, hk, hS2, hnd, hout⟩
    refine sel_of (fun hd => ?_) (fun hd => ?_)
    · have hk2 : k < x.2.1 := by have := of_decide_eq_true hd; omega
      obtain ⟨bb, oo, hA, hc⟩ := RdL.pair (hx.fr hS2.frame) (by omega)
      obtain ⟨c1, c2⟩ := hc k hk2
      have hS3 := hS2.alloc #[.string ⟨#[]⟩, .string ⟨#[]⟩] 147
      have hS4 := hS3.over 0 rfl [.string (E.getD k pd).1, .string (E.getD k pd).2.1] rfl
      refine ⟨by omega, by omega, needPtr_of hA ⟨_, c1, _, c2, (hS3.blk 0 rfl).can (by decide), ?_⟩⟩
      have hinc : IntKind.i64.wrap ((k : Int) + 1) = ((k + 1 : Nat) : Int) := inc k 100000000 (by omega) (by omega)
      rw [hinc]
      have htk : E.take (k + 1) = E.take k ++ [E.getD k pd] := by
        rw [List.take_add_one, List.getD_eq_getElem?_getD, List.getElem?_eq_getElem (show k < E.length by omega)]; rfl
      generalize E.getD k pd = q at *
      generalize World.alloc w2 (.cells #[.string ⟨#[]⟩, .string ⟨#[]⟩] 147) = w3 at *
      generalize w2.heap.size = b4 at *
      generalize setCs w3 b4 0 [.string q.1, .string q.2.1] = w4 at *
      have hB4 := hS4.blk 0 rfl
      have cc : ∀ w', Blk w' b4 #[.string q.1, .string q.2.1] 147 → (w'.cell? ⟨b4, 1, none⟩ = some (.string q.2.1) ∧ w'.cell? ⟨b4, 0, none⟩ = some (.string q.1) ∧ w'.cell? ⟨b4, 0, none⟩ = some (.string q.1) ∧ True) := fun w' h => ⟨h.cell rfl, h.cell rfl, h.cell rfl, trivial⟩
      have hS5 := hS4.drew
      have hM5 : GM.MapIs encS encL w4.drew r ks := hS5.mapIs 1 rfl
      have hM6 : GM.MapIs encS encL (World.alloc w4.drew (.cells #[.string q.2.1] 9)) r ks := (hS5.alloc #[.string q.2.1] 9).mapIs 2 rfl
      -- appended and put
      have main : ∃ (A' : Option Addr) (n' c' : Nat) (w7 w8 : World), (Builtin.append_ #[22, 22] 22 #[(GM.get nilS ks q.1).v, .slice (some ⟨w4.heap.size, 0, none⟩) 1 1]).run Try.prog (World.alloc w4.drew (.cells #[.string q.2.1] 9)) = .ok (.slice A' n' c') w7 ∧
          Blk w7 b4 #[.string q.1, .string q.2.1] 147 ∧ (Instr.mapUpdate 165 (.map (some r)) (.string q.1) (.slice A' n' c')).run Try.prog w7 = .ok () w8 ∧ Blk w8 b4 #[.string q.1, .string q.2.1] 147 ∧
          St [] w w8 (Chunk.map encS encL r (GM.put ks q.1 (A', n', c')) :: entL (E.take (k + 1)) (GM.put ks q.1 (A', n', c'))) ∧ ((GM.put ks q.1 (A', n', c')).map (·.1)).Nodup ∧ ∀ y, y ∉ (GM.put ks q.1 (A', n', c')).map (·.1) → toOf (E.take (k + 1)) y = [] := by
        have hS5' : St [] w w4.drew (Chunk.blk b4 #[.string q.1, .string q.2.1] 147 :: Chunk.map encS encL r ks :: entL (E.take k) ks) := hS5
        have hlen : ∀ y, (toOf (E.take k) y).length ≤ 40000000 := fun y => by
          have := toOf_len (E.take k) y
          have : (E.take k).length ≤ E.length := by rw [List.length_take]; omega
          omega
        cases hix : GM.idx ks q.1 with
        | some j =>
          obtain ⟨v, hj⟩ := idx_some hix
          have hjl : j < ks.length := (List.getElem?_eq_some_iff.1 hj).1
          have hg : GM.get nilS ks q.1 = v := by
            unfold GM.get
            rw [hix]
            simp only [List.getD_eq_getElem?_getD, List.getElem?_map, hj]; rfl
          have hp : ∀ v', GM.put ks q.1 v' = ks.set j (q.1, v') := fun v' => by unfold GM.put; rw [hix]
          rw [hg]
          obtain ⟨A', n', c', w7, hrun, hS7⟩ := appS hS5' (j + 2) (by simpa using entL_at hj) q.2.1 (hlen _)
          have hS7 : St [] w w7 (Chunk.blk b4 #[.string q.1, .string q.2.1] 147 :: Chunk.map encS encL r ks :: (entL (E.take k) ks).set j (Chunk.ls encS 9 (.slice A' n' c') (toOf (E.take k) q.1 ++ [q.2.1]))) := hS7
          obtain ⟨w8, hup, hS8⟩ := hS7.mapUpd 1 rfl under165 keyS q.1 ((A', n', c') : Sl)
          have hS8 : St [] w w8 (Chunk.blk b4 #[.string q.1, .string q.2.1] 147 :: Chunk.map encS encL r (GM.put ks q.1 (A', n', c')) :: (entL (E.take k) ks).set j (Chunk.ls encS 9 (.slice A' n' c') (toOf (E.take k) q.1 ++ [q.2.1]))) := hS8
          have keys : (ks.set j (q.1, ((A', n', c') : Sl))).map (·.1) = ks.map (·.1) := by
            rw [List.map_set]
            apply List.ext_getElem?
            intro i
            by_cases hi : i = j
            · subst hi
              rw [List.getElem?_set_self (by simpa using hjl), List.getElem?_map, hj]; rfl
            · rw [List.getElem?_set_ne (Ne.symm hi)]
          refine ⟨A', n', c', w7, w8, hrun, hS7.blk 0 rfl, hup, hS8.blk 0 rfl, ?_, ?_, ?_⟩
          · have e : (entL (E.take k) ks).set j (Chunk.ls encS 9 (.slice A' n' c') (toOf (E.take k) q.1 ++ [q.2.1])) = entL (E.take (k + 1)) (GM.put ks q.1 (A', n', c')) := by
              rw [hp]
              unfold entL
              apply List.ext_getElem?
              intro i
              rw [List.getElem?_map]
              by_cases hi : i = j
              · subst hi
                rw [List.getElem?_set_self (by simpa using hjl), List.getElem?_set_self hjl, Option.map_some, htk, toOf_snoc, if_pos rfl]
              · rw [List.getElem?_set_ne (Ne.symm hi), List.getElem?_set_ne (Ne.symm hi), List.getElem?_map]
                cases hki : ks[i]? with
                | none => rfl
                | some y =>
                  have hne : ¬ q.1 = y.1 := by
                    intro e
                    have hil : i < ks.length := (List.getElem?_eq_some_iff.1 hki).1
                    have h1 : (ks.map (·.1))[i]? = some y.1 := by rw [List.getElem?_map, hki]; rfl
                    have h2 : (ks.map (·.1))[j]? = some q.1 := by rw [List.getElem?_map, hj]; rfl
                    rw [← e] at h1
                    exact hi ((List.getElem?_inj (by simpa using hil) hnd).1 (h1.trans h2.symm))
                  rw [Option.map_some, Option.map_some, htk, toOf_snoc, if_neg hne]
            rw [← e]; exact hS8.tail
          · rw [hp, keys]; exact hnd
          · intro y hy
            rw [hp, keys] at hy
            rw [htk, toOf_snoc, if_neg, hout y hy]
            rintro rfl
            exact hy (List.mem_map.2 ⟨_, List.mem_of_getElem? hj, rfl⟩)
        | none =>
          have hnk := idx_none hix
          have hg : GM.get nilS ks q.1 = nilS := by unfold GM.get; rw [hix]
          have hp : ∀ v', GM.put ks q.1 v' = ks ++ [(q.1, v')] := fun v' => by unfold GM.put; rw [hix]
          rw [hg]
          obtain ⟨A', n', c', w7, hrun, hS7⟩ := appS (l := []) (hS5'.nil 9 1) 0 rfl q.2.1 (by simp)
          have hS7 : St [] w w7 (Chunk.ls encS 9 (.slice A' n' c') [q.2.1] :: Chunk.blk b4 #[.string q.1, .string q.2.1] 147 :: Chunk.map encS encL r ks :: entL (E.take k) ks) := hS7
          obtain ⟨w8, hup, hS8⟩ := hS7.mapUpd 2 rfl under165 keyS q.1 ((A', n', c') : Sl)
          have hS8 : St [] w w8 (Chunk.ls encS 9 (.slice A' n' c') [q.2.1] :: Chunk.blk b4 #[.string q.1, .string q.2.1] 147 :: Chunk.map encS encL r (GM.put ks q.1 (A', n', c')) :: entL (E.take k) ks) := hS8
          refine ⟨A', n', c', w7, w8, hrun, hS7.blk 1 rfl, hup, hS8.blk 1 rfl, ?_, ?_, ?_⟩
          · have e : entL (E.take k) ks ++ [Chunk.ls encS 9 (.slice A' n' c') [q.2.1]] = entL (E.take (k + 1)) (GM.put ks q.1 (A', n', c')) := by
              rw [hp]
              unfold entL
              rw [List.map_append]
              congr 1
              · apply List.map_congr_left
                intro y hy
                have hne : ¬ q.1 = y.1 := fun e => hnk (e ▸ List.mem_map.2 ⟨y, hy, rfl⟩)
                rw [htk, toOf_snoc, if_neg hne]
              · rw [List.map_singleton, htk, toOf_snoc, if_pos rfl, hout _ hnk]; rfl
            rw [← e]
            refine ((hS8.perm (List.Perm.swap _ _ _)).tail).perm ?_
            exact (List.Perm.swap _ _ _).trans (List.Perm.cons _ (List.perm_append_comm (l₁ := [_])))
          · rw [hp, List.map_append, List.nodup_append]
            refine ⟨hnd, by simp, ?_⟩
            intro a ha b hb
            simp only [List.map_cons, List.map_nil, List.mem_singleton] at hb
            subst hb
            exact fun e => hnk (e ▸ ha)
          · intro y hy
            rw [hp, List.map_append] at hy
            simp only [List.map_cons, List.map_nil, List.mem_append, List.mem_singleton, not_or] at hy
            rw [htk, toOf_snoc, if_neg (fun e => hy.2 e.symm), hout y hy.1]
      obtain ⟨A', n', c', w7, w8, hrun, hB7, hup, hB8, hS8, hnd8, hout8⟩ := main
      have fin : ∃ m', m' < m ∧ ∃ (k' : Nat) (ks : List (ByteArray × Sl)), ((k + 1 : Nat) : Int) = (k' : Int) ∧ k' + m' = x.2.1 ∧ St [] w w8 (Chunk.map encS encL r ks :: entL (E.take k') ks) ∧ (ks.map (·.1)).Nodup ∧ ∀ y, y ∉ ks.map (·.1) → toOf (E.take k') y = [] :=
        ⟨m - 1, by omega, k + 1, _, rfl, by omega, hS8, hnd8, hout8⟩
      refine ⟨_, hB4.cell rfl, _, hB4.cell rfl, _, hB4.cell rfl, ⟨_, _, _, _, lookL hM5 q.1, cc _ hB4.drew, cc _ hB4.drew.alloc, _, _, _, _, hrun, cc _ hB7, _, hup, cc _ hB8, rfl, fin⟩, ⟨cc _ hB4.drew.alloc, _, _, _, _, lookL hM6 q.1, cc _ hB4.drew.alloc, _, _, _, _, hrun, cc _ hB7, _, hup, cc _ hB8, rfl, fin⟩, trivial⟩
    · have hk2 : k = x.2.1 := by have := of_decide_eq_false hd; omega
      rw [List.take_of_length_le (by omega)] at hS2 hout
      refine ⟨r, rfl, hS2.frame, ks, hS2.mapIs 0 rfl, fun y => ?_⟩
      cases hix : GM.idx ks y with
      | some j =>
        obtain ⟨v, hj⟩ := idx_some hix
        have hg : GM.get nilS ks y = v := by
          unfold GM.get
          rw [hix]
          simp only [List.getD_eq_getElem?_getD, List.getElem?_map, hj]; rfl
        rw [hg]
        exact rdS hS2 (j + 1) (by simpa using entL_at hj)
      | none =>
        have hg : GM.get nilS ks y = nilS := by unfold GM.get; rw [hix]
        rw [hg, hout y (idx_none hix)]
        exact RdL.nil 0 none
  · rintro e w' ⟨v, rfl, z, rfl, h⟩; exact ⟨z, rfl, h⟩
end JG
end Go.Proofs.Ytddbebhklmaeoaa
