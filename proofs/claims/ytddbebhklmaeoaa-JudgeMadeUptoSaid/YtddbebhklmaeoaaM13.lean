/- What is reached from a name, as the program goes about it. -/
import Derived.Test.YtddbebhklmaeoaaM12
import Derived.Test.YtddbebhklmaeoaaM8
set_option linter.unusedVariables false
set_option linter.unusedSimpArgs false
set_option maxRecDepth 10000
namespace Go.Proofs.Ytddbebhklmaeoaa
open Go Go.Proofs.Ytddbebhklmaeoaa.Vc
namespace JG
open Vc.PG JD
/-- A list gone on with what is not there yet. -/
def putA : List ByteArray → List ByteArray → List ByteArray
  | l, [] => l
  | l, x :: t => putA (if memB l x = true then l else l ++ [x]) t
theorem putA_snoc : ∀ (t l : List ByteArray) (x : ByteArray), putA l (t ++ [x]) = if memB (putA l t) x = true then putA l t else putA l t ++ [x]
  | [], l, x => rfl
  | y :: t, l, x => putA_snoc t _ x
theorem mem_putA : ∀ (t l : List ByteArray) (y : ByteArray), y ∈ putA l t ↔ y ∈ l ∨ y ∈ t
  | [], l, y => by simp [putA]
  | x :: t, l, y => by
    rw [putA, mem_putA t]
    split
    · rename_i h
      have h := (memB_iff _ _).1 h
      simp only [List.mem_cons]
      constructor
      · rintro (h' | h')
        · exact .inl h'
        · exact .inr (.inr h')
      · rintro (h' | rfl | h')
        · exact .inl h'
        · exact .inl h
        · exact .inr h'
    · simp only [List.mem_append, List.mem_cons, List.not_mem_nil, or_false]
      constructor
      · rintro ((h' | h') | h')
        · exact .inl h'
        · exact .inr (.inl h')
        · exact .inr (.inr h')
      · rintro (h' | h' | h')
        · exact .inl (.inl h')
        · exact .inl (.inr h')
        · exact .inr h'
theorem putA_nodup : ∀ (t l : List ByteArray), l.Nodup → (putA l t).Nodup
  | [], l, h => h
  | x :: t, l, h => by
    rw [putA]
    refine putA_nodup t _ ?_
    split
    · exact h
    · rename_i hm
      have hm : ¬ x ∈ l := fun hh => hm ((memB_iff _ _).2 hh)
      rw [List.nodup_append]
      refine ⟨h, by simp, ?_⟩
      intro a ha b hb
      rw [List.mem_singleton] at hb; subst hb
      exact fun e => hm (e ▸ ha)
theorem putA_pre : ∀ (t l : List ByteArray), l <+: putA l t
  | [], l => List.prefix_rfl
  | x :: t, l => by
    rw [putA]
    refine List.IsPrefix.trans ?_ (putA_pre t _)
    split
    · exact List.prefix_rfl
    · exact List.prefix_append _ _
theorem putA_len (t l : List ByteArray) : (putA l t).length ≤ l.length + t.length := by
  induction t generalizing l with
  | nil => simp [putA]
  | cons x t ih =>
    rw [putA]
    refine Nat.le_trans (ih _) ?_
    split <;> simp <;> omega
theorem getD_pre {l l' : List ByteArray} (h : l <+: l') {k : Nat} (hk : k < l.length) : l'.getD k ByteArray.empty = l.getD k ByteArray.empty := by
  obtain ⟨t, rfl⟩ := h
  rw [List.getD_eq_getElem?_getD, List.getElem?_append_left hk, List.getD_eq_getElem?_getD]
abbrev encU (_ : Unit) : Value := .agg #[]
abbrev setC (r : Nat) (l : List ByteArray) : Chunk := Chunk.map encS encU r (l.map fun s => (s, ()))
theorem under101 : Try.prog.underlying 101 = some (.map 9 150) := by kernel_rfl
theorem info150 : ∃ i, Try.prog.info? 150 = some i ∧ i.zero = some (encU ()) := ⟨Try.prog.types[150]!, by kernel_rfl, by kernel_rfl⟩
theorem has_set (l : List ByteArray) (s : ByteArray) : GM.has (l.map fun s => (s, ())) s = memB l s := by
  unfold GM.has GM.idx memB
  rw [List.map_map]
  have : ((fun x : ByteArray × Unit => x.1) ∘ fun s => (s, ())) = id := rfl
  rw [this, List.map_id, List.findIdx?_isSome]
theorem put_set {l : List ByteArray} {s : ByteArray} (h : memB l s = false) : GM.put (l.map fun s => (s, ())) s () = (l ++ [s]).map fun s => (s, ()) := by
  have h2 := has_set l s
  rw [h] at h2
  unfold GM.put
  unfold GM.has at h2
  cases hx : GM.idx (l.map fun s => (s, ())) s with
  | none => simp
  | some j => rw [hx] at h2; cases h2
theorem lookU {w : World} {r : Nat} {l : List ByteArray} (h : GM.MapIs encS encU w r (l.map fun s => (s, ()))) (s : ByteArray) : (Instr.lookup 101 (.map (some r)) (.string s) true).run Try.prog w = .ok (.tuple #[.agg #[], .bool (memB l s)]) w := by
  obtain ⟨i, h1, h2⟩ := info150
  have := GM.look under101 keyS (d := ()) h1 h2 h s true
  rw [has_set] at this
  exact this
theorem putR {S : List Nat} {w0 w : World} {K : List Chunk} {x : Sl} {things : List ByteArray} {a1 a2 r : Nat} {A : Option Addr} {n c : Nat} {l : List ByteArray}
    (h : St S w0 w (Chunk.blk a1 #[.map (some r)] 101 :: setC r l :: Chunk.blk a2 #[.slice A n c] 22 :: Chunk.ls encS 9 (.slice A n c) l :: K))
    (hT : ∀ w' c1 c2 c3 c4, St S w0 w' (c1 :: c2 :: c3 :: c4 :: K) → RdL .str w' x things) (hn : things.length ≤ 10000000) (hl : l.length ≤ 10000000) :
    Calls Try.prog 107 #[x.v, .pointer (some ⟨a1, 0, none⟩), .pointer (some ⟨a2, 0, none⟩)] w fun e w' => e = .returned (.tuple #[]) ∧ ∃ (A : Option Addr) (n c : Nat),
      St S w0 w' (Chunk.blk a1 #[.map (some r)] 101 :: setC r (putA l things) :: Chunk.blk a2 #[.slice A n c] 22 :: Chunk.ls encS 9 (.slice A n c) (putA l things) :: K) := by
  refine Calls.mono (f107.calls (R := fun v w' => v = .tuple #[] ∧ ∃ (A : Option Addr) (n c : Nat),
      St S w0 w' (Chunk.blk a1 #[.map (some r)] 101 :: setC r (putA l things) :: Chunk.blk a2 #[.slice A n c] 22 :: Chunk.ls encS 9 (.slice A n c) (putA l things) :: K)) ?_) ?_
  · dsimp only [f107.VC]
    have hl0 : x.2.1 = things.length := (hT _ _ _ _ _ h).1
    refine ⟨fun i w' m => ∃ (k : Nat) (A : Option Addr) (n c : Nat), i = (k : Int) ∧ k + m = x.2.1 ∧
      St S w0 w' (Chunk.blk a1 #[.map (some r)] 101 :: setC r (putA l (things.take k)) :: Chunk.blk a2 #[.slice A n c] 22 :: Chunk.ls encS 9 (.slice A n c) (putA l (things.take k)) :: K),
      ⟨x.2.1, 0, A, n, c, rfl, by omega, by simpa [putA] using h⟩, ?_⟩
    rintro d i w1 m ⟨k, A, n, c, rfl, hk, hS⟩
    refine sel_of (fun hd => ?_) (fun hd => ?_)
    · have hk2 : k < x.2.1 := by have := of_decide_eq_true hd; omega
      obtain ⟨bb, oo, hA, hc⟩ := RdL.str (hT _ _ _ _ _ hS) (by omega)
      have hc := hc k hk2
      have hM : GM.MapIs encS encU w1 r _ := hS.mapIs 1 rfl
      have htk : things.take (k + 1) = things.take k ++ [things.getD k ByteArray.empty] := by
        rw [List.take_add_one, List.getD_eq_getElem?_getD, List.getElem?_eq_getElem (show k < things.length by omega)]; rfl
      generalize things.getD k ByteArray.empty = s at *
      have hS3 := hS.alloc #[] 150
      have hS4 := hS3.set 0 rfl 0 []
      have hinc : IntKind.i64.wrap ((k : Int) + 1) = ((k + 1 : Nat) : Int) := inc k 100000000 (by omega) (by omega)
      rw [hinc]
      refine ⟨by omega, by omega, needPtr_of hA ⟨_, hc, _, (hS.blk 0 rfl).cell rfl, _, w1, lookU hM s, (hS3.blk 0 rfl).can (by decide), ?_⟩⟩
      have hS4 := hS4.tail
      generalize setCs (World.alloc w1 (.cells #[] 150)) w1.heap.size 0 [] = w4 at *
      have hlen : (putA l (things.take k)).length ≤ 20000000 := by
        have := putA_len (things.take k) l
        rw [List.length_take] at this
        omega
      refine sel_of (fun hm => ?_) (fun hm => ?_)
      · have hm : memB (putA l (things.take k)) s = false := by simpa using hm
        obtain ⟨w5, hup, hS5⟩ := hS4.mapUpd 1 rfl under101 keyS s ()
        rw [put_set hm] at hS5
        have hS5 : St S w0 w5 (Chunk.blk a1 #[.map (some r)] 101 :: setC r (putA l (things.take k) ++ [s]) :: Chunk.blk a2 #[.slice A n c] 22 :: Chunk.ls encS 9 (.slice A n c) (putA l (things.take k)) :: K) := hS5
        obtain ⟨A', n', c', w7, hrun, hS7⟩ := appS hS5 3 rfl s (by omega)
        have hS7 : St S w0 w7 (Chunk.blk a1 #[.map (some r)] 101 :: setC r (putA l (things.take k) ++ [s]) :: Chunk.blk a2 #[.slice A n c] 22 :: Chunk.ls encS 9 (.slice A' n' c') (putA l (things.take k) ++ [s]) :: K) := hS7
        have hS8 := hS7.over 2 rfl [.slice A' n' c'] rfl
        have e : putA l (things.take (k + 1)) = putA l (things.take k) ++ [s] := by rw [htk, putA_snoc, if_neg (by rw [hm]; decide)]
        refine ⟨_, (hS4.blk 0 rfl).cell rfl, w5, hup, _, _, _, (hS5.blk 2 rfl).cell rfl, _, _, _, w7, hrun, (hS7.blk 2 rfl).can (by simp), rfl, m - 1, by omega, k + 1, A', n', c', rfl, by omega, ?_⟩
        rw [e]; exact hS8
      · have hm : memB (putA l (things.take k)) s = true := by simpa using hm
        have e : putA l (things.take (k + 1)) = putA l (things.take k) := by rw [htk, putA_snoc, if_pos hm]
        refine ⟨rfl, m - 1, by omega, k + 1, A, n, c, rfl, by omega, ?_⟩
        rw [e]; exact hS4
    · have hk2 : k = x.2.1 := by have := of_decide_eq_false hd; omega
      rw [List.take_of_length_le (by omega)] at hS
      exact ⟨rfl, A, n, c, hS⟩
  · rintro e w' ⟨v, rfl, rfl, h⟩; exact ⟨rfl, h⟩
theorem callT_of {P : Program} {f : FuncId} {first cap args : Array Value} {w : World} {post : Ending → World → Prop} (h : entersB P f = true) (hc : Calls P f (first ++ args ++ cap) w post) : callT P (.func (.func f) first cap) args w post := by
  unfold callT
  dsimp only
  rw [h]
  exact hc
theorem enters104 : entersB Try.prog 104 = true := by kernel_rfl
theorem nextR {w0 w : World} {m r : Nat} {E : List PairD} (hf : Fr [] w0 w) (hm : w0.cell? ⟨m, 0, none⟩ = some (.map (some r))) (hL : LinesAt w0 r E) (s : ByteArray) :
    callT Try.prog (.func (.func 104) #[] #[.pointer (some ⟨m, 0, none⟩)]) #[.string s] w fun e w' => w' = w ∧ ∃ z : Sl, e = .returned z.v ∧ ∀ w', Fr [] w0 w' → RdL .str w' z (toOf E s) := by
  refine callT_of enters104 (Calls.mono (f104.calls (R := fun v w' => w' = w ∧ ∃ z : Sl, v = z.v ∧ ∀ w', Fr [] w0 w' → RdL .str w' z (toOf E s)) ?_) ?_)
  · dsimp only [f104.VC]
    obtain ⟨ks, h1, h2⟩ := hL
    exact ⟨_, hf.cell hm, _, _, _, w, lookL (h1.fr hf (by simp)) s, rfl, _, rfl, fun w' h => (h2 s).fr h⟩
  · rintro e w' ⟨v, rfl, rfl, z, rfl, h⟩; exact ⟨rfl, z, rfl, h⟩
theorem neq168 (cap : Array Value) (x y : Operand) (w : World) : (do eqGuard .neq 168 x y (.func (.func 104) #[] cap) .nilFunc; binOp .neq 168 (.func (.func 104) #[] cap) .nilFunc : Sem Value).run Try.prog w = .ok (.bool true) w := by
  rw [Sem.run_bind, show (eqGuard .neq 168 x y (.func (.func 104) #[] cap) .nilFunc).run Try.prog w = .ok () w from by simp [eqGuard], Result.andThen_ok]
  refine run_neq_of (b := false) rfl ?_
  rw [Op.equalIn, Sem.run_bind, run_underlying (d := .func #[9] #[22] false) (by kernel_rfl)]
  rfl
/-- A list that is new, and read. -/
abbrev kS (z : Sl) (l : List ByteArray) : Chunk := Chunk.keep fun w => RdL .str w z l
/-- What is reached: the first one ahead. -/
theorem closeR {w : World} {b m r : Nat} {E : List PairD} {s : ByteArray} (hb : Blk w b #[.string s] 9) (hm : w.cell? ⟨m, 0, none⟩ = some (.map (some r))) (hL : LinesAt w r E) (hE : E.length ≤ 2200000) :
    Calls Try.prog 103 #[.slice (some ⟨b, 0, none⟩) 1 1, .func (.func 104) #[] #[.pointer (some ⟨m, 0, none⟩)]] w fun e w' => ∃ (z : Sl) (l : List ByteArray), e = .returned z.v ∧ St [] w w' [kS z l] ∧ IsUps E s l ∧ l.length ≤ 2200001 := by
  refine Calls.mono (f103.calls (R := fun v w' => ∃ (z : Sl) (l : List ByteArray), v = z.v ∧ St [] w w' [kS z l] ∧ IsUps E s l ∧ l.length ≤ 2200001) ?_) ?_
  · dsimp only [f103.VC]
    have hS1 := (St.start w).mapNew (encK := encS) (encV := encU)
    have hS2 := hS1.alloc #[.map none] 101
    have hS3 := hS2.over 0 rfl [.map (some w.heap.size)] rfl
    have hS4 := (hS3.nil 9 1).alloc #[.slice none 0 0] 22
    refine ⟨(hS2.blk 0 rfl).can (by decide), ?_⟩
    generalize World.alloc w (.map #[] 0) = w1 at *
    generalize w.heap.size = r1 at *
    generalize World.alloc w1 (.cells #[.map none] 101) = w2 at *
    generalize w1.heap.size = a1 at *
    generalize setCs w2 a1 0 [.map (some r1)] = w3 at *
    generalize World.alloc w3 (.cells #[.slice none 0 0] 22) = w4 at *
    generalize w3.heap.size = a2 at *
    have hS4 : St [] w w4 [Chunk.blk a1 #[.map (some r1)] 101, setC r1 [], Chunk.blk a2 #[.slice none 0 0] 22, Chunk.ls encS 9 (.slice none 0 0) []] :=
      hS4.sel [2, 3, 0, 1] (by decide) _ rfl
    have one : ∀ w' c1 c2 c3 c4, St [] w w' (c1 :: c2 :: c3 :: c4 :: []) → RdL .str w' (some ⟨b, 0, none⟩, 1, 1) [s] := by
      intro w' c1 c2 c3 c4 h
      have hb' := h.frame.blk hb (by simp)
      refine ⟨rfl, Nat.le_refl _, fun _ => ⟨b, 0, rfl, fun q hq => ?_⟩⟩
      have : q = 0 := by have hq : q < 1 := hq; omega
      subst this
      refine ⟨[.string s], rfl, fun j v hv => ?_⟩
      cases j with
      | zero => simp at hv; subst hv; exact hb'.cell rfl
      | succ j => simp at hv
    have hput := putR (K := []) (x := (some ⟨b, 0, none⟩, 1, 1)) (things := [s]) (l := []) hS4 one (by simp) (by simp)
    refine Calls.mono hput ?_
    rintro _ w5 ⟨rfl, A5, n5, c5, hS5⟩
    have e0 : putA [] [s] = [s] := rfl
    rw [e0] at hS5
    have bound : ∀ l : List ByteArray, l.Nodup → (∀ x ∈ l, Rch E s x) → l.length ≤ E.length + 1 := by
      intro l h1 h2
      have := nodup_le h1 (fun x hx => rch_in (h2 x hx))
      simp only [List.length_cons, List.length_map] at this
      omega
    refine ⟨rfl, fun i w' t => ∃ (k : Nat) (l : List ByteArray) (A : Option Addr) (n c : Nat), i = (k : Int) ∧ k ≤ l.length ∧ k + t = E.length + 1 ∧
      St [] w w' [Chunk.blk a1 #[.map (some r1)] 101, setC r1 l, Chunk.blk a2 #[.slice A n c] 22, Chunk.ls encS 9 (.slice A n c) l] ∧ s ∈ l ∧ (∀ x ∈ l, Rch E s x) ∧ l.Nodup ∧
      ∀ q ∈ E, ∀ j, j < k → l.getD j ByteArray.empty = q.1 → q.2.1 ∈ l,
      ⟨E.length + 1, 0, [s], A5, n5, c5, rfl, by simp, by omega, hS5, by simp, (fun x hx => by rw [List.mem_singleton] at hx; subst hx; exact .refl), by simp, fun q _ j hj => by omega⟩, ?_⟩
    rintro d i w6 t ⟨k, l, A, n, c, rfl, hkl, hkt, hS6, h0, hr, hnd, hcl⟩
    have hn : n = l.length := hS6.lsLen 3 rfl
    have hbd := bound l hnd hr
    refine ⟨true, fun w' => neq168 _ _ _ w', sel_true rfl ⟨_, _, _, (hS6.blk 2 rfl).cell rfl, sel_of (fun hd => ?_) (fun hd => ?_)⟩⟩
    · have hk2 : k < n := by have := of_decide_eq_true hd; omega
      obtain ⟨bb, oo, hA, hc⟩ := RdL.str (rdS hS6 3 rfl) (show 0 < n by omega)
      refine ⟨_, _, _, (hS6.blk 2 rfl).cell rfl, by omega, by omega, needPtr_of hA ⟨_, hc k hk2, ?_⟩⟩
      have hf6 := hS6.frame
      refine callT_mono (nextR hf6 hm hL (l.getD k ByteArray.empty)) ?_
      rintro _ w7 ⟨rfl, z, rfl, hz⟩
      have hinc : IntKind.i64.wrap ((k : Int) + 1) = ((k + 1 : Nat) : Int) := inc k 100000000 (by omega) (by omega)
      rw [hinc]
      have htl := toOf_len E (l.getD k ByteArray.empty)
      refine ⟨_, _, _, rfl, Calls.mono (putR (K := []) hS6 (fun w' _ _ _ _ h => hz w' h.frame) (by omega) (by omega)) ?_⟩
      rintro _ w8 ⟨rfl, A8, n8, c8, hS8⟩
      have hpre := putA_pre (toOf E (l.getD k ByteArray.empty)) l
      have hlk : l.getD k ByteArray.empty ∈ l := (mem_getD ByteArray.empty _ _).2 ⟨k, by omega, rfl⟩
      refine ⟨rfl, rfl, t - 1, by omega, k + 1, _, A8, n8, c8, rfl, ?_, by omega, hS8, (mem_putA _ _ _).2 (.inl h0), fun x hx => ?_, putA_nodup _ _ hnd, fun q hq j hj he => ?_⟩
      · have := hpre.length_le
        omega
      · rcases (mem_putA _ _ _).1 hx with hx | hx
        · exact hr x hx
        · obtain ⟨q, hq, e1, e2⟩ := mem_toOf.1 hx
          rw [← e2]; exact .step q (hr _ hlk) hq e1
      · rw [getD_pre hpre (by omega)] at he
        rw [mem_putA]
        rcases Nat.lt_or_ge j k with hjk | hjk
        · exact .inl (hcl q hq j hjk he)
        · have : j = k := by omega
          subst this
          exact .inr (mem_toOf.2 ⟨q, hq, he.symm, rfl⟩)
    · have hk2 : k = l.length := by have := of_decide_eq_false hd; omega
      refine ⟨_, _, _, (hS6.blk 2 rfl).cell rfl, (A, n, c), l, rfl, (hS6.keep 3 rfl (fun w => RdL .str w (A, n, c) l) (fun F w h => lr_reads (e := .str) rfl 9 h (fun _ _ => rfl))).sel [3] (by decide) _ rfl, isUps_of h0 hr fun q hq hm => ?_, by omega⟩
      obtain ⟨j, hj, he⟩ := (mem_getD ByteArray.empty _ _).1 hm
      exact hcl q hq j (by omega) he
  · rintro e w' ⟨v, rfl, z, l, rfl, h⟩; exact ⟨z, l, rfl, h⟩
end JG
end Go.Proofs.Ytddbebhklmaeoaa
/- Sides: who a subject is, what an object is; a rule speaks of them. -/
set_option linter.unusedVariables false
set_option linter.unusedSimpArgs false
set_option maxRecDepth 10000
namespace Go.Proofs.Ytddbebhklmaeoaa
open Go Go.Proofs.Ytddbebhklmaeoaa.Vc
namespace JG
open Vc.PG JD
theorem upC {w : World} {x : Sl} {E : List PairD} (hx : RdL pairT w x E) (hE : E.length ≤ 2200000) (s : ByteArray) :
    Calls Try.prog 88 #[x.v, .string s] w fun e w' => ∃ (z : Sl) (l : List ByteArray), e = .returned z.v ∧ St [] w w' [kS z l] ∧ IsUps E s l ∧ l.length ≤ 2200001 := by
  refine Calls.mono (f88.calls (R := fun v w' => ∃ (z : Sl) (l : List ByteArray), v = z.v ∧ St [] w w' [kS z l] ∧ IsUps E s l ∧ l.length ≤ 2200001) ?_) ?_
  · dsimp only [f88.VC]
    refine Calls.mono (linesR hx hE) ?_
    rintro _ w1 ⟨r, rfl, hf1, hL⟩
    have hS := ((St.start w).go hf1).alloc #[.map none] 165
    have hS3 := hS.over 0 rfl [.map (some r)] rfl
    have hS4 := hS3.alloc #[.string s] 9
    refine ⟨_, rfl, (hS.blk 0 rfl).can (by decide), ?_⟩
    have hf4 : Fr [] w1 (World.alloc (setCs (World.alloc w1 (.cells #[.map none] 165)) w1.heap.size 0 [.map (some r)]) (.cells #[.string s] 9)) := ((Fr.refl [] w1).alloc.set (.inr (Nat.le_refl _))).alloc
    generalize World.alloc w1 (.cells #[.map none] 165) = w2 at *
    generalize w1.heap.size = m at *
    generalize setCs w2 m 0 [.map (some r)] = w3 at *
    generalize World.alloc w3 (.cells #[.string s] 9) = w4 at *
    generalize w3.heap.size = b at *
    refine Calls.mono (closeR (hS4.blk 0 rfl) ((hS4.blk 1 rfl).cell rfl) (hL.fr hf4) hE) ?_
    rintro _ w5 ⟨z, l, rfl, hf5, h⟩
    exact ⟨_, _, _, rfl, z, l, rfl, (hS4.gone hf5).sel [0] (by decide) _ rfl, h⟩
  · rintro e w' ⟨v, rfl, z, l, rfl, h⟩; exact ⟨z, l, rfl, h⟩
theorem put_set' (l : List ByteArray) (s : ByteArray) : GM.put (l.map fun s => (s, ())) s () = (if memB l s = true then l else l ++ [s]).map fun s => (s, ()) := by
  cases hm : memB l s with
  | false => rw [put_set hm, if_neg (by decide)]
  | true =>
    rw [if_pos rfl]
    have h2 := has_set l s
    rw [hm] at h2
    unfold GM.has at h2
    unfold GM.put
    cases hx : GM.idx (l.map fun s => (s, ())) s with
    | none => rw [hx] at h2; cases h2
    | some j =>
      unfold GM.idx at hx
      obtain ⟨hj, h1, _⟩ := List.findIdx?_eq_some_iff_getElem.mp hx
      simp only [List.length_map] at hj
      simp only [List.getElem_map, decide_eq_true_iff] at h1
      dsimp only
      apply List.ext_getElem?
      intro i
      by_cases hi : i = j
      · subst hi
        rw [List.getElem?_set_self (by simpa using hj), List.getElem?_map, List.getElem?_eq_getElem hj, ← h1]; rfl
      · rw [List.getElem?_set_ne (Ne.symm hi)]
/-- A set of names. -/
def SetAt (w : World) (r : Nat) (P : ByteArray → Prop) : Prop := ∃ l : List ByteArray, GM.MapIs encS encU w r (l.map fun s => (s, ())) ∧ ∀ y, y ∈ l ↔ P y
theorem SetAt.fr {w w' : World} {r : Nat} {P : ByteArray → Prop} (h : SetAt w r P) (hf : Fr [] w w') : SetAt w' r P := by
  obtain ⟨l, h1, h2⟩ := h
  exact ⟨l, h1.fr hf (by simp), h2⟩
/-- A set that is new, and looked into. -/
abbrev kSet (r : Nat) (P : ByteArray → Prop) : Chunk := Chunk.keep fun w => SetAt w r P
abbrev Side (s : ByteArray) (t : Nat) (r : Nat) : Value := .agg #[.string s, .float .f64 t, .map (some r)]
theorem standC {w : World} {x y : Sl} {N F : List PairD} (hx : RdL pairT w x N) (hy : RdL pairT w y F) (hN : N.length ≤ 1100000) (hF : F.length ≤ 1100000) (s : ByteArray) :
    Calls Try.prog 65 #[.string s, x.v, y.v] w fun e w' => ∃ r : Nat, e = .returned (Side s 0 r) ∧ St [] w w' [kSet r (Rch (N ++ F) s)] := by
  refine Calls.mono (f65.calls (R := fun v w' => ∃ r : Nat, v = Side s 0 r ∧ St [] w w' [kSet r (Rch (N ++ F) s)]) ?_) ?_
  · dsimp only [f65.VC]
    have hS1 := (St.start w).alloc #[.string ⟨#[]⟩, .float .f64 0, .map none] 103
    have hS2 := hS1.mapNew (encK := encS) (encV := encU)
    have hS3 := hS2.alloc #[.string ⟨#[]⟩, .float .f64 0, .map none] 103
    have hS4 := hS3.over 0 rfl [.string s, .float .f64 0, .map (some (World.alloc w (.cells #[.string ⟨#[]⟩, .float .f64 0, .map none] 103)).heap.size)] rfl
    have hS5 := hS4.alloc #[x.v, y.v] 24
    refine ⟨(hS3.blk 0 rfl).can (by decide), ?_⟩
    generalize World.alloc w (.cells #[.string ⟨#[]⟩, .float .f64 0, .map none] 103) = w1 at *
    generalize w.heap.size = b0 at *
    generalize World.alloc w1 (.map #[] 0) = w2 at *
    generalize w1.heap.size = r at *
    generalize World.alloc w2 (.cells #[.string ⟨#[]⟩, .float .f64 0, .map none] 103) = w3 at *
    generalize w2.heap.size = b2 at *
    generalize setCs w3 b2 0 [.string s, .float .f64 0, .map (some r)] = w4 at *
    generalize World.alloc w4 (.cells #[x.v, y.v] 24) = w5 at *
    generalize w4.heap.size = b4 at *
    refine Calls.mono (concatR (hS5.blk 0 rfl) (hx.fr hS5.frame) (hy.fr hS5.frame) hN hF) ?_
    rintro _ w6 ⟨z, rfl, hf6, hz⟩
    have hS6 := hS5.go hf6
    refine ⟨_, _, _, rfl, Calls.mono (upC hz (by rw [List.length_append]; omega) s) ?_⟩
    rintro _ w7 ⟨u, l, rfl, hf7, hl, hlen⟩
    have hS7 : St [] w w7 [kS u l, Chunk.blk b2 #[.string s, .float .f64 0, .map (some r)] 103, setC r [], Chunk.blk b0 #[.string ⟨#[]⟩, .float .f64 0, .map none] 103] := (hS6.gone hf7).sel [0, 2, 3, 4] (by decide) _ rfl
    have hul : u.2.1 = l.length := (hS7.says 0 rfl).1
    refine ⟨_, _, _, rfl, fun i w' m => ∃ k : Nat, i = (k : Int) ∧ k + m = u.2.1 ∧ St [] w w' [kS u l, Chunk.blk b2 #[.string s, .float .f64 0, .map (some r)] 103, setC r (putA [] (l.take k)), Chunk.blk b0 #[.string ⟨#[]⟩, .float .f64 0, .map none] 103],
      ⟨u.2.1, 0, rfl, by omega, hS7⟩, ?_⟩
    rintro d i w8 m ⟨k, rfl, hk, hS8⟩
    have hu8 := hS8.says 0 rfl
    refine sel_of (fun hd => ?_) (fun hd => ?_)
    · have hk2 : k < u.2.1 := by have := of_decide_eq_true hd; omega
      obtain ⟨bb, oo, hA, hc⟩ := RdL.str hu8 (by omega)
      have htk : l.take (k + 1) = l.take k ++ [l.getD k ByteArray.empty] := by
        rw [List.take_add_one, List.getD_eq_getElem?_getD, List.getElem?_eq_getElem (show k < l.length by omega)]; rfl
      obtain ⟨w9, hup, hS9⟩ := hS8.mapUpd 2 rfl under101 keyS (l.getD k ByteArray.empty) ()
      rw [put_set', ← putA_snoc, ← htk] at hS9
      have hinc : IntKind.i64.wrap ((k : Int) + 1) = ((k + 1 : Nat) : Int) := inc k 100000000 (by omega) (by omega)
      rw [hinc]
      refine ⟨by omega, by omega, needPtr_of hA ⟨_, hc k hk2, _, (hS8.blk 1 rfl).cell rfl, w9, hup, rfl, m - 1, by omega, k + 1, rfl, by omega, hS9⟩⟩
    · have hk2 : k = u.2.1 := by have := of_decide_eq_false hd; omega
      rw [List.take_of_length_le (by omega)] at hS8
      have hS10 := hS8.over 3 rfl [.string s, .float .f64 0, .map (some r)] rfl
      have hb := hS8.blk 1 rfl
      refine ⟨_, hb.cell rfl, _, hb.cell rfl, _, hb.cell rfl, (hS8.blk 3 rfl).can (by decide), ?_⟩
      have hb := hS10.blk 3 rfl
      refine ⟨_, hb.cell rfl, _, hb.cell rfl, _, hb.cell rfl, r, rfl, (hS10.keep 2 rfl (fun w => SetAt w r (Rch (N ++ F) s)) (fun F0 w' h => ⟨putA [] l, h.2, fun y => ?_⟩)).sel [2] (by decide) _ rfl⟩
      rw [mem_putA, ← hl y]
      simp
  · rintro e w' ⟨v, rfl, r, rfl, h⟩; exact ⟨r, rfl, h⟩
end JG
end Go.Proofs.Ytddbebhklmaeoaa
/- What a policy allows, as the program goes about it. -/
set_option linter.unusedVariables false
set_option linter.unusedSimpArgs false
set_option maxRecDepth 10000
namespace Go.Proofs.Ytddbebhklmaeoaa
open Go Go.Proofs.Ytddbebhklmaeoaa.Vc
namespace JG
open Vc.PG JD
/-- Work told of by any relation, beside what is owned. -/
theorem step0' {S : List Nat} {w0 w : World} {L : List Chunk} {P : Program} {f : FuncId} {args : Array Value} (h : St S w0 w L) {R : Bool → Prop} (hc : Calls P f args w fun e w' => ∃ m : Bool, e = .returned (.bool m) ∧ R m ∧ Fr [] w w') :
    Calls P f args w fun e w' => ∃ m : Bool, e = .returned (.bool m) ∧ R m ∧ St S w0 w' L :=
  hc.mono fun e w' ⟨m, h1, h2, h3⟩ => ⟨m, h1, h2, h.go h3⟩
theorem indexC {w : World} {x : Sl} {l : List ByteArray} (h : RdL .str w x l) (hn : l.length ≤ 1000000000) (s : ByteArray) : Calls Try.prog 66 #[x.v, .string s] w fun e w' => e = .returned (.int .i64 (idxI l s)) ∧ w' = w := by
  refine Calls.mono (f66.calls (R := fun v w' => v = .int .i64 (idxI l s) ∧ w' = w) ?_) ?_
  · dsimp only [f66.VC]
    have hl : x.2.1 = l.length := h.1
    refine ⟨fun i w' r => w' = w ∧ ∃ k : Nat, i = (k : Int) ∧ k + r = x.2.1 ∧ ∀ a, a < k → l.getD a ByteArray.empty ≠ s, ⟨x.2.1, rfl, 0, rfl, by omega, fun a ha => by omega⟩, ?_⟩
    rintro d i w1 r ⟨rfl, k, rfl, hk, hno⟩
    refine sel_of (fun hd => ?_) (fun hd => ?_)
    · have hi : k < x.2.1 := by have := of_decide_eq_true hd; omega
      obtain ⟨b, o, hA, hc⟩ := RdL.str h (by omega)
      refine ⟨by omega, by omega, needPtr_of hA ⟨_, hc k hi, sel_of (fun hs => ?_) (fun hs => ?_)⟩⟩
      · have hs : s = l.getD k ByteArray.empty := of_decide_eq_true hs
        exact ⟨by rw [idxI_some ByteArray.empty (by omega) hno hs.symm], rfl⟩
      · have hs : s ≠ l.getD k ByteArray.empty := of_decide_eq_false hs
        rw [inc k x.2.1 (by omega) (by omega)]
        refine ⟨rfl, r - 1, by omega, rfl, k + 1, rfl, by omega, fun a ha => ?_⟩
        rcases Nat.lt_or_ge a k with h1 | h1
        · exact hno a h1
        · have : a = k := by omega
          subst this; exact fun h => hs h.symm
    · have hi : k = x.2.1 := by have := of_decide_eq_false hd; omega
      exact ⟨by rw [idxI_none ByteArray.empty fun q hq => hno q (by omega)], rfl⟩
  · rintro e w' ⟨v, rfl, rfl, h⟩; exact ⟨rfl, h⟩
theorem containsC {w : World} {x : Sl} {l : List ByteArray} (h : RdL .str w x l) (hn : l.length ≤ 1000000000) (s : ByteArray) : Calls Try.prog 41 #[x.v, .string s] w fun e w' => e = .returned (.bool (memB l s)) ∧ w' = w := by
  refine Calls.mono (f41.calls (R := fun v w' => v = .bool (memB l s) ∧ w' = w) ?_) ?_
  · dsimp only [f41.VC]
    refine Calls.mono (indexC h hn s) ?_
    rintro _ w1 ⟨rfl, rfl⟩
    exact ⟨_, rfl, by rw [idxI_mem], rfl⟩
  · rintro e w' ⟨v, rfl, rfl, h⟩; exact ⟨rfl, h⟩
theorem indexT {w : World} {x : Sl} {l : List TriD} (h : RdL triT w x l) (hn : l.length ≤ 1000000000) (a b c : ByteArray) : Calls Try.prog 90 #[x.v, Tri a b c] w fun e w' => e = .returned (.int .i64 (idxI l (a, b, c, ()))) ∧ Fr [] w w' := by
  refine Calls.mono (f90.calls (R := fun v w' => v = .int .i64 (idxI l (a, b, c, ())) ∧ Fr [] w w') ?_) ?_
  · dsimp only [f90.VC]
    have hl : x.2.1 = l.length := h.1
    have hS := (St.start w).alloc #[.string a, .string b, .string c] 37
    generalize World.alloc w (.cells #[.string a, .string b, .string c] 37) = w1 at *
    generalize w.heap.size = b1 at *
    refine ⟨fun i w' r => St [] w w' [Chunk.blk b1 #[.string a, .string b, .string c] 37] ∧ ∃ k : Nat, i = (k : Int) ∧ k + r = x.2.1 ∧ ∀ q, q < k → l.getD q td ≠ (a, b, c, ()), ⟨x.2.1, hS, 0, rfl, by omega, fun a ha => by omega⟩, ?_⟩
    rintro d i w2 r ⟨hS, k, rfl, hk, hno⟩
    have hB := hS.blk 0 rfl
    refine sel_of (fun hd => ?_) (fun hd => ?_)
    · have hi : k < x.2.1 := by have := of_decide_eq_true hd; omega
      obtain ⟨b', o, hA, hc⟩ := RdL.tri (h.fr hS.frame) (by omega)
      obtain ⟨c1, c2, c3⟩ := hc k hi
      refine ⟨by omega, by omega, needPtr_of hA ⟨_, hB.cell rfl, _, hB.cell rfl, _, hB.cell rfl, _, c1, _, c2, _, c3, _, fun w' => eqTri _ _ _ _ _ _ w', sel_of (fun hs => ?_) (fun hs => ?_)⟩⟩
      · have hs := of_decide_eq_true hs
        refine ⟨?_, hS.frame.drew⟩
        rw [idxI_some td (by omega) hno]
        exact Prod.ext hs.1.symm (Prod.ext hs.2.1.symm (Prod.ext hs.2.2.symm rfl))
      · have hs := of_decide_eq_false hs
        rw [inc k x.2.1 (by omega) (by omega)]
        refine ⟨rfl, r - 1, by omega, hS.drew, k + 1, rfl, by omega, fun q hq => ?_⟩
        rcases Nat.lt_or_ge q k with h1 | h1
        · exact hno q h1
        · have : q = k := by omega
          subst this
          intro he
          rw [he] at hs
          exact hs ⟨rfl, rfl, rfl⟩
    · have hi : k = x.2.1 := by have := of_decide_eq_false hd; omega
      exact ⟨by rw [idxI_none td fun q hq => hno q (by omega)], hS.frame⟩
  · rintro e w' ⟨v, rfl, rfl, h⟩; exact ⟨rfl, h⟩
theorem containsT {w : World} {x : Sl} {l : List TriD} (h : RdL triT w x l) (hn : l.length ≤ 1000000000) (a b c : ByteArray) : Calls Try.prog 68 #[x.v, Tri a b c] w fun e w' => e = .returned (.bool (memB l (a, b, c, ()))) ∧ Fr [] w w' := by
  refine Calls.mono (f68.calls (R := fun v w' => v = .bool (memB l (a, b, c, ())) ∧ Fr [] w w') ?_) ?_
  · dsimp only [f68.VC]
    have hS := (St.start w).alloc #[.string a, .string b, .string c] 37
    generalize World.alloc w (.cells #[.string a, .string b, .string c] 37) = w1 at *
    generalize w.heap.size = b1 at *
    have hB := hS.blk 0 rfl
    refine ⟨_, hB.cell rfl, _, hB.cell rfl, _, hB.cell rfl, Calls.mono (hS.step0 (indexT (h.fr hS.frame) hn a b c)) ?_⟩
    rintro _ w2 ⟨rfl, hS⟩
    exact ⟨_, rfl, by rw [idxI_mem], hS.frame⟩
  · rintro e w' ⟨v, rfl, rfl, h⟩; exact ⟨rfl, h⟩
theorem passC {w : World} (r : RuleD) (u : Sl) (t : Nat) : Calls Try.prog 92 #[.agg (ruleV r u).toArray, .float .f64 t] w fun e w' => e = .returned (.bool (passP geF ltF r t)) ∧ Fr [] w w' := by
  obtain ⟨dn, who, what, acts, cond, lev, _⟩ := r
  refine Calls.mono (f92.calls (R := fun v w' => v = .bool (passP geF ltF (dn, who, what, acts, cond, lev, ()) t) ∧ Fr [] w w') ?_) ?_
  · dsimp only [f92.VC]
    have hS := (St.start w).alloc #[.bool dn, .string who, .string what, u.v, .int .i8 cond, .float .f64 lev] 88
    generalize World.alloc w (.cells #[.bool dn, .string who, .string what, u.v, .int .i8 cond, .float .f64 lev] 88) = w1 at *
    generalize w.heap.size = b at *
    have hB := hS.blk 0 rfl
    have hf := hS.frame
    have key : passP geF ltF (dn, who, what, acts, cond, lev, ()) t = (decide (cond = 0) || (decide (cond = 1) && geF t lev) || (decide (cond = 2) && ltF t lev)) := rfl
    rw [key]
    refine ⟨_, hB.cell rfl, sel_of (fun h => ?_) (fun h => ?_)⟩
    · have h : cond = 0 := eq_of_beq h
      subst h; exact ⟨by simp, hf⟩
    · have h0 : cond ≠ 0 := beq_eq_false_iff_ne.1 h
      refine sel_of (fun h => ?_) (fun h => ?_)
      · have h : cond = 1 := eq_of_beq h
        subst h
        exact ⟨_, hB.cell rfl, _, fun w' => run_ge _ _ w', by simp, hf⟩
      · have h1 : cond ≠ 1 := beq_eq_false_iff_ne.1 h
        refine sel_of (fun h => ?_) (fun h => ?_)
        · have h : cond = 2 := eq_of_beq h
          subst h
          exact ⟨_, hB.cell rfl, _, fun w' => run_lt _ _ w', by simp, hf⟩
        · have h2 : cond ≠ 2 := beq_eq_false_iff_ne.1 h
          exact ⟨by simp [h0, h1, h2], hf⟩
  · rintro e w' ⟨v, rfl, rfl, h⟩; exact ⟨rfl, h⟩
theorem namesC {w : World} (r : RuleD) {u : Sl} (hu : RdL .str w u (rActs r)) (hr : (rActs r).length ≤ 1000000000) (s : ByteArray) : Calls Try.prog 67 #[.agg (ruleV r u).toArray, .string s] w fun e w' => ∃ m : Bool, e = .returned (.bool m) ∧ (m = true ↔ Named r s) ∧ Fr [] w w' := by
  refine Calls.mono (f67.calls (R := fun e w' => ∃ m : Bool, e = .bool m ∧ (m = true ↔ Named r s) ∧ Fr [] w w') ?_) ?_
  · dsimp only [f67.VC]
    have hS := (St.start w).alloc (ruleV r u).toArray 88
    change St [] w (World.alloc w (.cells #[.bool r.1, .string r.2.1, .string r.2.2.1, .slice u.1 u.2.1 u.2.2, .int .i8 r.2.2.2.2.1, .float .f64 r.2.2.2.2.2.1] 88)) _ at hS
    generalize World.alloc w (.cells #[.bool r.1, .string r.2.1, .string r.2.2.1, .slice u.1 u.2.1 u.2.2, .int .i8 r.2.2.2.2.1, .float .f64 r.2.2.2.2.2.1] 88) = w1 at *
    generalize w.heap.size = b1 at *
    have hB := hS.blk 0 rfl
    have hul : u.2.1 = (rActs r).length := hu.1
    refine ⟨_, _, _, hB.cell rfl, sel_of (fun h => ?_) (fun h => ?_)⟩
    · have h : (u.2.1 : Int) = 0 := eq_of_beq h
      exact ⟨true, rfl, ⟨fun _ => .inl (List.eq_nil_of_length_eq_zero (by omega)), fun _ => rfl⟩, hS.frame⟩
    · have h : (u.2.1 : Int) ≠ 0 := beq_eq_false_iff_ne.1 h
      refine ⟨_, _, _, hB.cell rfl, Calls.mono (containsC (hu.fr hS.frame) hr s) ?_⟩
      rintro _ w2 ⟨rfl, rfl⟩
      refine ⟨_, rfl, _, rfl, ?_, hS.frame⟩
      rw [memB_iff]
      refine ⟨.inr, fun hn => hn.elim (fun hn => ?_) id⟩
      rw [hn] at hul; simp at hul; omega
  · rintro e w' ⟨v, rfl, m, rfl, h⟩; exact ⟨m, rfl, h⟩
theorem hasC {w : World} {s : ByteArray} {t r : Nat} {P : ByteArray → Prop} (h : SetAt w r P) (y : ByteArray) : Calls Try.prog 91 #[Side s t r, .string y] w fun e w' => ∃ m : Bool, e = .returned (.bool m) ∧ (m = true ↔ P y) ∧ Fr [] w w' := by
  refine Calls.mono (f91.calls (R := fun e w' => ∃ m : Bool, e = .bool m ∧ (m = true ↔ P y) ∧ Fr [] w w') ?_) ?_
  · dsimp only [f91.VC]
    have hS := (St.start w).alloc #[.string s, .float .f64 t, .map (some r)] 103
    generalize World.alloc w (.cells #[.string s, .float .f64 t, .map (some r)] 103) = w1 at *
    generalize w.heap.size = b1 at *
    obtain ⟨l, hM, hl⟩ := h.fr hS.frame
    have hS3 := hS.alloc #[] 150
    refine ⟨_, (hS.blk 0 rfl).cell rfl, _, w1, lookU hM y, (hS3.blk 0 rfl).can (by decide), _, rfl, ?_, (hS3.set 0 rfl 0 []).frame⟩
    rw [memB_iff, hl]
  · rintro e w' ⟨v, rfl, m, rfl, h⟩; exact ⟨m, rfl, h⟩
theorem speaksC {w : World} (r : RuleD) (u : Sl) {s o : ByteArray} {t t' rs ro : Nat} {P Q : ByteArray → Prop} (hs : SetAt w rs P) (ho : SetAt w ro Q) :
    Calls Try.prog 69 #[.agg (ruleV r u).toArray, Side s t rs, Side o t' ro] w fun e w' => ∃ m : Bool, e = .returned (.bool m) ∧ (m = true ↔ P (rWho r) ∧ Q (rWhat r) ∧ passP geF ltF r t = true) ∧ Fr [] w w' := by
  refine Calls.mono (f69.calls (R := fun e w' => ∃ m : Bool, e = .bool m ∧ (m = true ↔ P (rWho r) ∧ Q (rWhat r) ∧ passP geF ltF r t = true) ∧ Fr [] w w') ?_) ?_
  · dsimp only [f69.VC]
    have hS := (((St.start w).alloc (ruleV r u).toArray 88).alloc #[.string s, .float .f64 t, .map (some rs)] 103).alloc #[.string o, .float .f64 t', .map (some ro)] 103
    change St [] w (World.alloc (World.alloc (World.alloc w (.cells #[.bool r.1, .string r.2.1, .string r.2.2.1, .slice u.1 u.2.1 u.2.2, .int .i8 r.2.2.2.2.1, .float .f64 r.2.2.2.2.2.1] 88)) (.cells #[.string s, .float .f64 t, .map (some rs)] 103)) (.cells #[.string o, .float .f64 t', .map (some ro)] 103)) _ at hS
    generalize World.alloc w (.cells #[.bool r.1, .string r.2.1, .string r.2.2.1, .slice u.1 u.2.1 u.2.2, .int .i8 r.2.2.2.2.1, .float .f64 r.2.2.2.2.2.1] 88) = w1 at *
    generalize w.heap.size = b1 at *
    generalize World.alloc w1 (.cells #[.string s, .float .f64 t, .map (some rs)] 103) = w2 at *
    generalize w1.heap.size = b2 at *
    generalize World.alloc w2 (.cells #[.string o, .float .f64 t', .map (some ro)] 103) = w3 at *
    generalize w2.heap.size = b3 at *
    have hB1 := hS.blk 2 rfl
    have hB2 := hS.blk 1 rfl
    refine ⟨_, hB2.cell rfl, _, hB2.cell rfl, _, hB2.cell rfl, _, hB1.cell rfl, Calls.mono (step0' hS (hasC (s := s) (t := t) (hs.fr hS.frame) (rWho r))) ?_⟩
    rintro _ w4 ⟨m, rfl, hm, hS⟩
    have hB1 := hS.blk 2 rfl
    have hB2 := hS.blk 1 rfl
    have hB3 := hS.blk 0 rfl
    refine ⟨_, rfl, sel_of (fun m1 => ?_) (fun m1 => ⟨false, rfl, ⟨(fun h => by cases h), fun h => by rw [hm.2 h.1] at m1; cases m1⟩, hS.frame⟩)⟩
    refine ⟨_, hB3.cell rfl, _, hB3.cell rfl, _, hB3.cell rfl, _, hB1.cell rfl, Calls.mono (step0' hS (hasC (s := o) (t := t') (ho.fr hS.frame) (rWhat r))) ?_⟩
    rintro _ w5 ⟨m', rfl, hm', hS⟩
    have hB1 := hS.blk 2 rfl
    have hB2 := hS.blk 1 rfl
    refine ⟨_, rfl, sel_of (fun m2 => ?_) (fun m2 => ⟨false, rfl, ⟨(fun h => by cases h), fun h => by rw [hm'.2 h.2.1] at m2; cases m2⟩, hS.frame⟩)⟩
    refine ⟨_, hB1.cell rfl, _, hB1.cell rfl, _, hB1.cell rfl, _, _, _, hB1.cell rfl, _, hB1.cell rfl, _, hB1.cell rfl, _, hB2.cell rfl, Calls.mono (hS.step0 (passC r u t)) ?_⟩
    rintro _ w6 ⟨rfl, hS⟩
    exact ⟨_, rfl, _, rfl, ⟨fun h => ⟨hm.1 m1, hm'.1 m2, h⟩, fun h => h.2.2⟩, hS.frame⟩
  · rintro e w' ⟨v, rfl, m, rfl, h⟩; exact ⟨m, rfl, h⟩
end JG
end Go.Proofs.Ytddbebhklmaeoaa
