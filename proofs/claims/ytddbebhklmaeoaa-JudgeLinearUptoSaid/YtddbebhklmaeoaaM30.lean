/- Linear, as the document has it. -/
import Derived.Test.YtddbebhklmaeoaaM29
set_option linter.unusedVariables false
set_option linter.unusedSimpArgs false
set_option maxRecDepth 10000
namespace Go.Proofs.Ytddbebhklmaeoaa
open Go Go.Proofs.Ytddbebhklmaeoaa.Vc
namespace JG
open Vc.PG JD
section
variable {H : JL.Hist}
theorem path_some {s : JL.State} {r : List Nat} (hw : JL.whole H s = false) (h : JL.path H s = some r) : ∃ k z rest, k < H.n ∧ r = k :: rest ∧ JL.step H s k = some z ∧ JL.path H z = some rest ∧ ∀ i, i < k → ∀ z, JL.step H s i = some z → JL.path H z = none := by
  have hex : ∃ k, k < H.n ∧ ∃ z, JL.step H s k = some z ∧ ∃ rest, JL.path H z = some rest := by
    refine Classical.byContradiction fun hno => ?_
    rw [JL.path_none hw (fun k hk z hz => ?_)] at h
    · cases h
    · cases hp : JL.path H z with
      | none => rfl
      | some rest => exact absurd ⟨k, hk, z, hz, rest, hp⟩ hno
  have least : ∀ k, (k < H.n ∧ ∃ z, JL.step H s k = some z ∧ ∃ rest, JL.path H z = some rest) → ∃ k, (k < H.n ∧ ∃ z, JL.step H s k = some z ∧ ∃ rest, JL.path H z = some rest) ∧ ∀ i, i < k → ¬ (i < H.n ∧ ∃ z, JL.step H s i = some z ∧ ∃ rest, JL.path H z = some rest) := by
    intro k
    induction k using Nat.strongRecOn with
    | _ k ih =>
      intro hk
      by_cases hi : ∃ i, i < k ∧ (i < H.n ∧ ∃ z, JL.step H s i = some z ∧ ∃ rest, JL.path H z = some rest)
      · obtain ⟨i, hik, hi⟩ := hi
        exact ih i hik hi
      · exact ⟨k, hk, fun i hik h => hi ⟨i, hik, h⟩⟩
  obtain ⟨k0, hk0⟩ := hex
  obtain ⟨k, ⟨hk, z, hz, rest, hp⟩, hmin⟩ := least k0 hk0
  have hno : ∀ i, i < k → ∀ z, JL.step H s i = some z → JL.path H z = none := fun i hi z hz => by
    cases hp : JL.path H z with
    | none => rfl
    | some rest => exact absurd ⟨by omega, z, hz, rest, hp⟩ (hmin i hi)
  have := JL.path_first hw hk hno hz hp
  rw [h] at this
  injection this with this
  exact ⟨k, z, rest, hk, this, hz, hp, hno⟩
theorem path_len : ∀ (r : List Nat) {s : JL.State}, JL.path H s = some r → r.length ≤ JL.left H s.1
  | [], s, _ => Nat.zero_le _
  | a :: r, s, h => by
    cases hw : JL.whole H s with
    | true => rw [JL.path_whole hw] at h; cases h
    | false =>
      obtain ⟨k, z, rest, hk, he, hz, hp, _⟩ := path_some hw h
      injection he with h1 h2
      subst h2
      have := path_len r hp
      have hl := JL.left_step hk hz
      rw [List.length_cons]; omega
end
theorem St.rebase {w w0 w' : World} {L : List Chunk} (h : St [] w0 w' L) (hf : Fr [] w w0) : St [] w w' L := by
  obtain ⟨h1, Fs, h2, h3⟩ := h
  refine ⟨hf.trans h1, Fs, fun i b hb => ⟨(h2 i b hb).1, fun x hx => ?_⟩, h3⟩
  rcases (h2 i b hb).2 x hx with h | h
  · cases h
  · exact .inr (Nat.le_trans hf.1 h)
theorem linearR {w : World} {v : PV} {x : Sl} {p : PolD} {l : List CalD} (hp : InP w v p) (hc0 : RdL calT w x l) (sp : SmallP p) (sc : SmallC l) :
    Calls Try.prog 8 #[v.v, x.v] w fun e w' => ∃ o : Sl, e = .returned (.tuple #[o.v, .bool (ansP p l).isSome, .int .i64 (fitE l)]) ∧ St [] w w' [Chunk.sl 3 1 o.v (rowsI (fnd (ansP p l)))] := by
  refine Calls.mono (f8.calls (R := fun e w' => ∃ o : Sl, e = .tuple #[o.v, .bool (ansP p l).isSome, .int .i64 (fitE l)] ∧ St [] w w' [Chunk.sl 3 1 o.v (rowsI (fnd (ansP p l)))]) ?_) ?_
  · dsimp only [f8.VC]
    have hS1 := (St.start w).alloc v.cells 28
    generalize World.alloc w (.cells v.cells 28) = w1 at *
    generalize w.heap.size = b1 at *
    refine Calls.mono (hS1.step0 (fitsR (hc0.fr hS1.frame) sc.n)) ?_
    rintro _ w2 ⟨rfl, hS2⟩
    refine ⟨_, rfl, sel_of (fun he => ?_) (fun he => ?_)⟩
    · have he : fitE l ≠ 0 := bne_iff_ne.1 he
      refine ⟨(none, 0, 0), by rw [show ansP p l = none from if_neg he]; rfl, ?_⟩
      rw [show ansP p l = none from if_neg he]
      exact hS2.tail.nil 3 1
    have he : fitE l = 0 := bne_eq_false_iff_eq.1 he
    obtain ⟨hn, hh⟩ := fit_few he
    have hl : x.2.1 = l.length := hc0.1
    have hB1 := hS2.blk 0 rfl
    rw [show ansP p l = JL.path (histOf p l) (0, -1) from if_pos he, he, ← pathT_eq (p := p) (l := l) (s := (0, -1)) (.inl (by decide))]
    refine ⟨_, _, _, hB1.cell rfl, _, _, _, hB1.cell rfl, _, _, _, hB1.cell rfl, _, _, _, hB1.cell rfl, _, _, _, hB1.cell rfl, _, _, _, hB1.cell rfl, _, _, _, hB1.cell rfl, _, _, _, hB1.cell rfl, _, _, _, hB1.cell rfl, _, _, _, hB1.cell rfl, _, _, _, hB1.cell rfl, Calls.mono (tabledR (hp.fr hS2.frame) (hc0.fr hS2.frame) sp sc hn) ?_⟩
    rintro _ w3 ⟨t, y, rfl, ht3, hf3⟩
    refine ⟨_, rfl, Calls.mono (leadsR ht3 hn hh) ?_⟩
    rintro _ w4 ⟨z, Y, rfl, hY, hYl, hYv, hf4⟩
    have ht := ht3.fr hf4
    have hf04 := (hS2.frame.trans hf3).trans hf4
    have hNb : 2 ^ l.length ≤ 4096 := Nat.pow_le_pow_right (n := 2) (i := l.length) (j := 12) (by decide) hn
    have hor : ∀ S k : Nat, S < 2 ^ l.length → k < l.length → S ||| 2 ^ k < 2 ^ l.length := fun S k h1 h2 => Nat.or_lt_two_pow h1 (Nat.pow_lt_pow_right (by decide) h2)
    have hNp : 0 < 2 ^ l.length := Nat.two_pow_pos _
    generalize hN : 2 ^ l.length = N at *
    clear ht3 hf3 hf4 hB1 hS2 hS1
    have hzl : z.2.1 = N := by rw [hY.1]; exact hYl
    -- what the table of leads says
    have hlook : ∀ w', Fr [] w4 w' → ∀ (S : Nat) (last : Int) (m : Nat), S < N → -1 ≤ last → last < (l.length : Int) → last + 1 = (m : Int) → ∃ b1 o1 b2 o2 : Nat, ∃ s : Sl, z.1 = some ⟨b1, o1, none⟩ ∧ w'.cell? ⟨b1, o1 + S * 1, none⟩ = some s.v ∧ s.2.1 = l.length + 1 ∧ s.1 = some ⟨b2, o2, none⟩ ∧ w'.cell? ⟨b2, o2 + m * 1, none⟩ = some (.bool (JL.path (histT p l) (S, last)).isSome) := by
      intro w' hf S last m hS k1 k2 hm
      obtain ⟨bz, oz, hA, hc⟩ := RdL.lists (hY.fr hf) (by omega)
      obtain ⟨s, hs, hcs⟩ := hc S (by omega)
      obtain ⟨q1, q2⟩ := hYv S hS
      have hsl : s.2.1 = l.length + 1 := by rw [hs.1]; exact q1
      obtain ⟨bs, os, hAs, hcb⟩ := RdL.bools hs (by omega)
      have hv := q2 last k1 k2
      rw [hm] at hv
      refine ⟨bz, oz, bs, os, s, hA, hcs, hsl, hAs, ?_⟩
      rw [← hv]
      exact hcb m (by omega)
    have hS5 := (St.start w4).alloc #[.int .i64 0, .int .i64 0] 80
    have hS6 := hS5.over 0 rfl [.int .i64 0, .int .i64 (-1)] rfl
    refine ⟨_, _, _, rfl, (hS5.blk 0 rfl).can (by simp), ?_⟩
    generalize World.alloc w4 (.cells #[.int .i64 0, .int .i64 0] 80) = w5 at *
    generalize w4.heap.size = b5 at *
    generalize setCs w5 b5 0 [.int .i64 0, .int .i64 (-1)] = w6 at *
    replace hS6 : St [] w4 w6 (Chunk.blk b5 #[.int .i64 ((0 : Nat) : Int), .int .i64 (-1)] 80 :: []) := hS6
    obtain ⟨z1, z2, z3, z4, s, e1, e2, e3, e4, e5⟩ := hlook w6 hS6.frame 0 (-1) 0 hNp (by decide) (by omega) rfl
    refine ⟨by decide, by omega, needPtr_of e1 ⟨_, _, _, e2, by decide, by omega, needPtr_of e4 ⟨_, e5, sel_of (fun h => ?_) (fun h => ?_)⟩⟩⟩
    · have hp0 : JL.path (histT p l) (0, -1) = none := by
        cases hh : JL.path (histT p l) (0, -1) with
        | none => rfl
        | some r => rw [hh] at h; cases h
      rw [hp0]
      exact ⟨nilS, rfl, St.rebase (hS6.tail.nil 3 1) hf04⟩
    obtain ⟨r0, hr0⟩ : ∃ r0, JL.path (histT p l) (0, -1) = some r0 := Option.isSome_iff_exists.1 (by simpa using h)
    rw [hr0]
    have hr0l : r0.length ≤ 12 := by
      have h1 : r0.length ≤ JL.left (histT p l) 0 := path_len r0 hr0
      have h2 : JL.left (histT p l) 0 ≤ (List.range l.length).length := List.countP_le_length
      rw [List.length_range] at h2
      omega
    have hS7 : St [] w4 w6 (Chunk.sl 3 1 (.slice none 0 0) (rowsI []) :: Chunk.blk b5 #[.int .i64 ((0 : Nat) : Int), .int .i64 (-1)] 80 :: []) := hS6.nil 3 1
    refine ⟨fun A n c w' r => ∃ (ord rest : List Nat) (S : Nat) (lz : Int), rest.length = r ∧ r0 = ord ++ rest ∧ S < N ∧ -1 ≤ lz ∧ lz < (l.length : Int) ∧ JL.path (histT p l) (S, lz) = some rest ∧ St [] w4 w' (Chunk.sl 3 1 (.slice A n c) (rowsI ord) :: Chunk.blk b5 #[.int .i64 (S : Int), .int .i64 lz] 80 :: []), ⟨r0.length, [], r0, 0, -1, rfl, rfl, hNp, by decide, by omega, hr0, hS7⟩, ?_⟩
    clear hS5 hS6 hS7 e1 e2 e3 e4 e5 z1 z2 z3 z4 s h hr0
    rintro d A n c w7 r ⟨ord, rest, S, lz, rfl, hor0, hSN, k1, k2, hpath, hS7⟩
    have hB := hS7.blk 1 rfl
    refine ⟨_, hB.cell rfl, _, hB.cell rfl, Calls.mono (hS7.step0 (fullR (ht.fr hS7.frame) hn S lz (by omega))) ?_⟩
    rintro _ w8 ⟨rfl, hS8⟩
    refine ⟨_, rfl, sel_of (fun hw => ?_) (fun hw => ?_)⟩
    · rw [JL.path_whole hw] at hpath
      injection hpath with hpath
      subst hpath
      rw [List.append_nil] at hor0
      subst hor0
      exact ⟨(A, n, c), rfl, St.rebase (hS8.sel [0] (by decide) [_] rfl) hf04⟩
    · have hw : JL.whole (histT p l) (S, lz) = false := hw
      refine ⟨fun A' n' c' i w' r1 => A = A' ∧ n = n' ∧ c = c' ∧ ∃ k : Nat, i = (k : Int) ∧ k + r1 = x.2.1 ∧ (∀ a, a < k → ∀ z, JL.step (histT p l) (S, lz) a = some z → JL.path (histT p l) z = none) ∧ St [] w4 w' (Chunk.sl 3 1 (.slice A n c) (rowsI ord) :: Chunk.blk b5 #[.int .i64 (S : Int), .int .i64 lz] 80 :: []), ⟨x.2.1, rfl, rfl, rfl, 0, rfl, by omega, fun a ha => by omega, hS8⟩, ?_⟩
      clear hS8 hB hS7
      rintro d _ _ _ i w9 r1 ⟨rfl, rfl, rfl, k, rfl, hk, hno, hS9⟩
      refine sel_of (fun hd => ?_) (fun hd => ?_)
      · have hi : k < x.2.1 := by have := of_decide_eq_true hd; omega
        have hkl : k < l.length := by omega
        have hB := hS9.blk 1 rfl
        refine ⟨_, hB.cell rfl, _, hB.cell rfl, Calls.mono (stepR (ht.fr hS9.frame) hn hh S lz k (by omega) k1 k2 hkl) ?_⟩
        rintro _ w10 ⟨z0, z1, ok, rfl, hst, hf10⟩
        have hS10 := hS9.go hf10
        have hS11 := hS10.alloc #[.int .i64 0, .int .i64 0] 80
        have hS12 := hS11.over 0 rfl [.int .i64 z0, .int .i64 z1] rfl
        refine ⟨_, _, _, rfl, (hS11.blk 0 rfl).can (by simp), ?_⟩
        generalize World.alloc w10 (.cells #[.int .i64 0, .int .i64 0] 80) = w11 at *
        generalize w10.heap.size = b10 at *
        generalize setCs w11 b10 0 [.int .i64 z0, .int .i64 z1] = w12 at *
        replace hS12 : St [] w4 w12 (Chunk.blk b10 #[.int .i64 z0, .int .i64 z1] 80 :: Chunk.sl 3 1 (.slice A n c) (rowsI ord) :: Chunk.blk b5 #[.int .i64 (S : Int), .int .i64 lz] 80 :: []) := hS12
        have hB := hS12.blk 0 rfl
        rw [inc k x.2.1 (by omega) (by omega)]
        have next : (∀ z, JL.step (histT p l) (S, lz) k = some z → JL.path (histT p l) z = none) → ∀ w', St [] w4 w' (Chunk.sl 3 1 (.slice A n c) (rowsI ord) :: Chunk.blk b5 #[.int .i64 (S : Int), .int .i64 lz] 80 :: []) → ∃ m, m < r1 ∧ A = A ∧ n = n ∧ c = c ∧ ∃ k' : Nat, ((k + 1 : Nat) : Int) = (k' : Int) ∧ k' + m = x.2.1 ∧ (∀ a, a < k' → ∀ z, JL.step (histT p l) (S, lz) a = some z → JL.path (histT p l) z = none) ∧ St [] w4 w' (Chunk.sl 3 1 (.slice A n c) (rowsI ord) :: Chunk.blk b5 #[.int .i64 (S : Int), .int .i64 lz] 80 :: []) := fun h w' hw' =>
          ⟨r1 - 1, by omega, rfl, rfl, rfl, k + 1, rfl, by omega, fun a ha => by
            rcases Nat.lt_or_ge a k with h1 | h1
            · exact hno a h1
            · have : a = k := by omega
              rw [this]; exact h, hw'⟩
        unfold StpT at hst
        cases hstep : JL.step (histT p l) (S, lz) k with
        | none =>
          rw [hstep] at hst
          have hst : ok = false := hst
          subst hst
          exact sel_false rfl ⟨rfl, next (fun z hz => by rw [hstep] at hz; cases hz) _ hS12.drew.tail⟩
        | some zz =>
          rw [hstep] at hst
          obtain ⟨rfl, rfl, rfl⟩ := hst
          obtain ⟨Z, lz2⟩ := zz
          obtain ⟨hb0, _, _, hz1, hz2⟩ := JL.step_some hstep
          have hZ : Z = S ||| 2 ^ k := hz1
          have hZN : Z < N := by rw [hZ]; exact hor S k hSN hkl
          have hlz : -1 ≤ lz2 ∧ lz2 < (l.length : Int) := by
            have : lz2 = if (histT p l).counts k then (k : Int) else lz := hz2
            rw [this]; split <;> omega
          obtain ⟨m, hm⟩ : ∃ m : Nat, lz2 + 1 = (m : Int) := ⟨(lz2 + 1).toNat, by omega⟩
          obtain ⟨y1, y2, y3, y4, s, e1, e2, e3, e4, e5⟩ := hlook w12 hS12.frame Z lz2 m hZN hlz.1 hlz.2 hm
          refine sel_true rfl ⟨_, hB.cell rfl, by omega, by omega, needPtr_of e1 ⟨_, _, _, e2, _, hB.cell rfl, ?_⟩⟩
          rw [i64_id (x := lz2 + 1) (by omega) (by omega), hm]
          refine ⟨by omega, by omega, needPtr_of e4 ⟨_, e5, sel_of (fun h => ?_) (fun h => ?_)⟩⟩
          · obtain ⟨rz, hrz⟩ := Option.isSome_iff_exists.1 h
            have hpf := JL.path_first hw (show k < (histT p l).n from hkl) hno hstep hrz
            rw [hpath] at hpf
            injection hpf with hpf
            have hol : ord.length + rest.length = r0.length := by rw [hor0, List.length_append]
            obtain ⟨o', w14, hrun, hS14⟩ := appI (o := (A, n, c)) hS12.drew 1 rfl k (by omega)
            replace hS14 : St [] w4 w14 (Chunk.blk b10 #[.int .i64 (Z : Int), .int .i64 lz2] 80 :: Chunk.sl 3 1 o'.v (rowsI (ord ++ [k])) :: Chunk.blk b5 #[.int .i64 (S : Int), .int .i64 lz] 80 :: []) := hS14
            have hB := hS14.blk 0 rfl
            have hS15 := hS14.over 2 rfl [.int .i64 (Z : Int), .int .i64 lz2] rfl
            refine ⟨_, _, _, w14, hrun, _, hB.cell rfl, _, hB.cell rfl, (hS14.blk 2 rfl).can (by simp), rfl, rz.length, ?_, ord ++ [k], rz, Z, lz2, rfl, ?_, hZN, hlz.1, hlz.2, hrz, hS15.tail⟩
            · rw [hpf, List.length_cons]; omega
            · rw [hor0, hpf]; simp
          · refine ⟨rfl, next (fun z hz => ?_) _ hS12.drew.tail⟩
            rw [hstep] at hz
            injection hz with hz
            rw [← hz]
            cases hp : JL.path (histT p l) (Z, lz2) with
            | none => rfl
            | some rr => rw [hp] at h; cases h
      · have hi : k = l.length := by have := of_decide_eq_false hd; omega
        have := JL.path_none hw (fun a ha => hno a (by have : a < l.length := ha; omega))
        rw [hpath] at this; cases this
  · rintro e w' ⟨v, rfl, o, rfl, h⟩; exact ⟨o, rfl, h⟩
end JG
end Go.Proofs.Ytddbebhklmaeoaa
/- Small functions of the statements. -/
set_option linter.unusedVariables false
set_option linter.unusedSimpArgs false
set_option maxRecDepth 10000
namespace Go.Proofs.Ytddbebhklmaeoaa
open Go Go.Proofs.Ytddbebhklmaeoaa.Vc
namespace JG
open Vc.PG JD
abbrev bX : ByteArray := ⟨#[120]⟩
abbrev bA : ByteArray := ⟨#[97]⟩
abbrev bO : ByteArray := ⟨#[111]⟩
abbrev one64 : Nat := 4607182418800017408
abbrev ruleO : RuleD := (false, bA, bO, [], 0, 0, ())
abbrev shutP : PolD := ([bX], [(bA, one64, ())], [], [bO], [], [], [], [], [], [], [], ())
abbrev openP : PolD := ([bX], [(bA, one64, ())], [], [bO], [], [], [], [], [], [ruleO], [], ())
abbrev entT : TriD := (bA, bO, bX, ())
theorem open_allows : allowsB geF ltF openP entT = true := by
  refine (allowsB_iff _ _ _ _).2 ⟨one64, if_pos rfl, List.mem_singleton.2 rfl, List.mem_singleton.2 rfl, ⟨ruleO, List.mem_singleton.2 rfl, ⟨.refl, .refl, rfl⟩, .inl rfl⟩, fun r hr _ _ => ?_, fun h => by cases h⟩
  have : r = ruleO := List.mem_singleton.1 hr
  rw [this]
theorem shut_allows : allowsB geF ltF shutP entT = false := by
  cases h : allowsB geF ltF shutP entT with
  | false => rfl
  | true =>
    obtain ⟨_, _, _, _, ⟨r, hr, _⟩, _⟩ := (allowsB_iff _ _ _ _).1 h
    cases hr
theorem shut_small : SmallP shutP := ⟨by decide, by decide, by decide, by decide, by decide, by decide, by decide, by decide, by decide, by decide, by decide, fun r hr => by cases hr⟩
theorem open_small : SmallP openP := ⟨by decide, by decide, by decide, by decide, by decide, by decide, by decide, by decide, by decide, by decide, by decide, fun r hr => by
  have : r = ruleO := List.mem_singleton.1 hr
  rw [this]; decide⟩
theorem rdl_blk {e : Ty} {w : World} {b : Nat} {T : TypeId} (rs : List (List Value)) (l : List (Den e)) (hB : Blk w b rs.flatten.toArray T) (hrs : ∀ r ∈ rs, r.length = e.w) (hl : rs.length = l.length) (hm : rs.length ≤ maxLen) (hr : ∀ q, q < l.length → Rd w e (rs.getD q []) (l.getD q (Den.dflt e))) : RdL e w (some ⟨b, 0, none⟩, rs.length, rs.length) l :=
  sl_reads (F := [b]) T (sl_of_blk (F := [b]) rs hrs hm ⟨rfl, hB⟩) hl hr
theorem rdl_one {e : Ty} {w : World} {b : Nat} {T : TypeId} (r : List Value) (d : Den e) (hB : Blk w b r.toArray T) (hr : Rd w e r d) : RdL e w (some ⟨b, 0, none⟩, 1, 1) [d] :=
  rdl_blk [r] [d] (by simpa using hB) (fun x hx => by rw [List.mem_singleton.1 hx]; exact hr.len) rfl (by simp [maxLen]) (fun q hq => by
    have : q = 0 := by simp at hq; exact hq
    subst this; exact hr)
theorem shutR {w : World} : Calls Try.prog 24 #[] w fun e w' => ∃ u : PV, e = .returned u.v ∧ St [] w w' [kP u shutP] := by
  refine Calls.mono (f24.calls (R := fun e w' => ∃ u : PV, e = u.v ∧ St [] w w' [kP u shutP]) ?_) ?_
  · dsimp only [f24.VC]
    have hS := (((St.start w).alloc #[.slice none 0 0, .slice none 0 0, .slice none 0 0, .slice none 0 0, .slice none 0 0, .slice none 0 0, .slice none 0 0, .slice none 0 0, .slice none 0 0, .slice none 0 0, .slice none 0 0] 28).alloc #[.string bX] 9).alloc #[.string bA, .float .f64 one64] 110 |>.alloc #[.string bO] 9
    generalize World.alloc w (.cells #[.slice none 0 0, .slice none 0 0, .slice none 0 0, .slice none 0 0, .slice none 0 0, .slice none 0 0, .slice none 0 0, .slice none 0 0, .slice none 0 0, .slice none 0 0, .slice none 0 0] 28) = w1 at *
    generalize w.heap.size = b0 at *
    generalize World.alloc w1 (.cells #[.string bX] 9) = w2 at *
    generalize w1.heap.size = b1 at *
    generalize World.alloc w2 (.cells #[.string bA, .float .f64 one64] 110) = w3 at *
    generalize w2.heap.size = b2 at *
    generalize World.alloc w3 (.cells #[.string bO] 9) = w4 at *
    generalize w3.heap.size = b3 at *
    obtain ⟨u, hu⟩ : ∃ u : PV, u = ⟨(some ⟨b1, 0, none⟩, 1, 1), (some ⟨b2, 0, none⟩, 1, 1), nilS, (some ⟨b3, 0, none⟩, 1, 1), nilS, nilS, nilS, nilS, nilS, nilS, nilS⟩ := ⟨_, rfl⟩
    have hS5 := hS.over 3 rfl u.l rfl
    have hB := hS5.blk 3 rfl
    refine ⟨(hS.blk 3 rfl).can (by simp), ?_⟩
    have e : ([.slice u.a.1 u.a.2.1 u.a.2.2, .slice u.s.1 u.s.2.1 u.s.2.2, .slice u.r.1 u.r.2.1 u.r.2.2, .slice u.o.1 u.o.2.1 u.o.2.2, .slice u.g.1 u.g.2.1 u.g.2.2, .slice u.m.1 u.m.2.1 u.m.2.2, .slice u.i.1 u.i.2.1 u.i.2.2, .slice u.q.1 u.q.2.1 u.q.2.2, .slice u.t.1 u.t.2.1 u.t.2.2, .slice u.u.1 u.u.2.1 u.u.2.2, .slice u.e.1 u.e.2.1 u.e.2.2] : List Value) = [.slice (some ⟨b1, 0, none⟩) 1 1, .slice (some ⟨b2, 0, none⟩) 1 1, .slice none 0 0, .slice (some ⟨b3, 0, none⟩) 1 1, .slice none 0 0, .slice none 0 0, .slice none 0 0, .slice none 0 0, .slice none 0 0, .slice none 0 0, .slice none 0 0] := by rw [hu]
    rw [← e]
    change St [] w (setCs w4 b0 0 [.slice u.a.1 u.a.2.1 u.a.2.2, .slice u.s.1 u.s.2.1 u.s.2.2, .slice u.r.1 u.r.2.1 u.r.2.2, .slice u.o.1 u.o.2.1 u.o.2.2, .slice u.g.1 u.g.2.1 u.g.2.2, .slice u.m.1 u.m.2.1 u.m.2.2, .slice u.i.1 u.i.2.1 u.i.2.2, .slice u.q.1 u.q.2.1 u.q.2.2, .slice u.t.1 u.t.2.1 u.t.2.2, .slice u.u.1 u.u.2.1 u.u.2.2, .slice u.e.1 u.e.2.1 u.e.2.2]) _ at hS5
    change Blk (setCs w4 b0 0 [.slice u.a.1 u.a.2.1 u.a.2.2, .slice u.s.1 u.s.2.1 u.s.2.2, .slice u.r.1 u.r.2.1 u.r.2.2, .slice u.o.1 u.o.2.1 u.o.2.2, .slice u.g.1 u.g.2.1 u.g.2.2, .slice u.m.1 u.m.2.1 u.m.2.2, .slice u.i.1 u.i.2.1 u.i.2.2, .slice u.q.1 u.q.2.1 u.q.2.2, .slice u.t.1 u.t.2.1 u.t.2.2, .slice u.u.1 u.u.2.1 u.u.2.2, .slice u.e.1 u.e.2.1 u.e.2.2]) _ _ _ at hB
    have hK := St.keepAll (hS5.sel [2, 1, 0] (by decide) [Chunk.blk b1 #[.string bX] 9, Chunk.blk b2 #[.string bA, .float .f64 one64] 110, Chunk.blk b3 #[.string bO] 9] rfl) (fun w => InP w u shutP) (fun w h1 h2 => by
      obtain ⟨G1, g1⟩ := h1
      obtain ⟨G2, g2⟩ := h2 (Chunk.blk b2 #[.string bA, .float .f64 one64] 110) List.mem_cons_self
      obtain ⟨G3, g3⟩ := h2 (Chunk.blk b3 #[.string bO] 9) (List.mem_cons_of_mem _ (List.mem_singleton.2 rfl))
      have q1 : Blk w b1 #[.string bX] 9 := g1.2
      have q2 : Blk w b2 #[.string bA, .float .f64 one64] 110 := g2.2
      have q3 : Blk w b3 #[.string bO] 9 := g3.2
      rw [hu]
      exact ⟨rdl_one (e := .str) _ _ q1 rfl, rdl_one (e := subjT) _ _ q2 ⟨[_], _, rfl, rfl, [_], [], rfl, rfl, rfl⟩, RdL.nil _ _, rdl_one (e := .str) _ _ q3 rfl, RdL.nil _ _, RdL.nil _ _, RdL.nil _ _, RdL.nil _ _, RdL.nil _ _, RdL.nil _ _, RdL.nil _ _⟩)
    clear e hS hS5
    generalize setCs w4 b0 0 [.slice u.a.1 u.a.2.1 u.a.2.2, .slice u.s.1 u.s.2.1 u.s.2.2, .slice u.r.1 u.r.2.1 u.r.2.2, .slice u.o.1 u.o.2.1 u.o.2.2, .slice u.g.1 u.g.2.1 u.g.2.2, .slice u.m.1 u.m.2.1 u.m.2.2, .slice u.i.1 u.i.2.1 u.i.2.2, .slice u.q.1 u.q.2.1 u.q.2.2, .slice u.t.1 u.t.2.1 u.t.2.2, .slice u.u.1 u.u.2.1 u.u.2.2, .slice u.e.1 u.e.2.1 u.e.2.2] = w5 at *
    exact ⟨_, _, _, hB.cell rfl, _, _, _, hB.cell rfl, _, _, _, hB.cell rfl, _, _, _, hB.cell rfl, _, _, _, hB.cell rfl, _, _, _, hB.cell rfl, _, _, _, hB.cell rfl, _, _, _, hB.cell rfl, _, _, _, hB.cell rfl, _, _, _, hB.cell rfl, _, _, _, hB.cell rfl, u, rfl, hK⟩
  · rintro e w' ⟨v, rfl, u, rfl, h⟩; exact ⟨u, rfl, h⟩
theorem openR {w : World} : Calls Try.prog 22 #[] w fun e w' => ∃ u : PV, e = .returned u.v ∧ St [] w w' [kP u openP] := by
  refine Calls.mono (f22.calls (R := fun e w' => ∃ u : PV, e = u.v ∧ St [] w w' [kP u openP]) ?_) ?_
  · dsimp only [f22.VC]
    have hS := (St.start w).alloc #[.slice none 0 0, .slice none 0 0, .slice none 0 0, .slice none 0 0, .slice none 0 0, .slice none 0 0, .slice none 0 0, .slice none 0 0, .slice none 0 0, .slice none 0 0, .slice none 0 0] 28
    generalize World.alloc w (.cells #[.slice none 0 0, .slice none 0 0, .slice none 0 0, .slice none 0 0, .slice none 0 0, .slice none 0 0, .slice none 0 0, .slice none 0 0, .slice none 0 0, .slice none 0 0, .slice none 0 0] 28) = w1 at *
    generalize w.heap.size = b0 at *
    refine Calls.mono shutR ?_
    rintro _ w2 ⟨u0, rfl, hf2⟩
    have hS2 := hS.gone hf2
    have hS3 := hS2.alloc #[.slice none 0 0, .slice none 0 0, .slice none 0 0, .slice none 0 0, .slice none 0 0, .slice none 0 0, .slice none 0 0, .slice none 0 0, .slice none 0 0, .slice none 0 0, .slice none 0 0] 28
    have hS4 := hS3.over 0 rfl u0.l rfl
    refine ⟨_, _, _, _, _, _, _, _, _, _, _, _, _, _, _, _, _, _, _, _, _, _, _, _, _, _, _, _, _, _, _, _, _, rfl, (hS3.blk 0 rfl).can (by simp), ?_⟩
    change St [] w (setCs (World.alloc w2 (.cells #[.slice none 0 0, .slice none 0 0, .slice none 0 0, .slice none 0 0, .slice none 0 0, .slice none 0 0, .slice none 0 0, .slice none 0 0, .slice none 0 0, .slice none 0 0, .slice none 0 0] 28)) w2.heap.size 0 [.slice u0.a.1 u0.a.2.1 u0.a.2.2, .slice u0.s.1 u0.s.2.1 u0.s.2.2, .slice u0.r.1 u0.r.2.1 u0.r.2.2, .slice u0.o.1 u0.o.2.1 u0.o.2.2, .slice u0.g.1 u0.g.2.1 u0.g.2.2, .slice u0.m.1 u0.m.2.1 u0.m.2.2, .slice u0.i.1 u0.i.2.1 u0.i.2.2, .slice u0.q.1 u0.q.2.1 u0.q.2.2, .slice u0.t.1 u0.t.2.1 u0.t.2.2, .slice u0.u.1 u0.u.2.1 u0.u.2.2, .slice u0.e.1 u0.e.2.1 u0.e.2.2]) _ at hS4
    generalize setCs (World.alloc w2 (.cells #[.slice none 0 0, .slice none 0 0, .slice none 0 0, .slice none 0 0, .slice none 0 0, .slice none 0 0, .slice none 0 0, .slice none 0 0, .slice none 0 0, .slice none 0 0, .slice none 0 0] 28)) w2.heap.size 0 [.slice u0.a.1 u0.a.2.1 u0.a.2.2, .slice u0.s.1 u0.s.2.1 u0.s.2.2, .slice u0.r.1 u0.r.2.1 u0.r.2.2, .slice u0.o.1 u0.o.2.1 u0.o.2.2, .slice u0.g.1 u0.g.2.1 u0.g.2.2, .slice u0.m.1 u0.m.2.1 u0.m.2.2, .slice u0.i.1 u0.i.2.1 u0.i.2.2, .slice u0.q.1 u0.q.2.1 u0.q.2.2, .slice u0.t.1 u0.t.2.1 u0.t.2.2, .slice u0.u.1 u0.u.2.1 u0.u.2.2, .slice u0.e.1 u0.e.2.1 u0.e.2.2] = w4 at *
    generalize w2.heap.size = b2 at *
    replace hS4 : St [] w w4 [Chunk.blk b2 u0.cells 28, kP u0 shutP, Chunk.blk b0 #[.slice none 0 0, .slice none 0 0, .slice none 0 0, .slice none 0 0, .slice none 0 0, .slice none 0 0, .slice none 0 0, .slice none 0 0, .slice none 0 0, .slice none 0 0, .slice none 0 0] 28] := hS4
    have hS5 := hS4.alloc #[.bool false, .string bA, .string bO, .slice none 0 0, .int .i8 0, .float .f64 0] 88
    generalize World.alloc w4 (.cells #[.bool false, .string bA, .string bO, .slice none 0 0, .int .i8 0, .float .f64 0] 88) = w5 at *
    generalize w4.heap.size = b4 at *
    obtain ⟨u, hu⟩ : ∃ u : PV, u = ⟨u0.a, u0.s, u0.r, u0.o, u0.g, u0.m, u0.i, u0.q, u0.t, (some ⟨b4, 0, none⟩, 1, 1), u0.e⟩ := ⟨_, rfl⟩
    have hS6 := hS5.set 1 rfl 9 [.slice (some ⟨b4, 0, none⟩) 1 1]
    have e : Vc.putA u0.cells 9 [.slice (some ⟨b4, 0, none⟩) 1 1] = u.cells := by rw [hu]; rfl
    rw [e] at hS6
    refine ⟨(hS5.blk 1 rfl).can (by simp), ?_⟩
    generalize setCs w5 b2 9 [.slice (some ⟨b4, 0, none⟩) 1 1] = w6 at *
    replace hS6 : St [] w w6 [Chunk.blk b4 #[.bool false, .string bA, .string bO, .slice none 0 0, .int .i8 0, .float .f64 0] 88, Chunk.blk b2 u.cells 28, kP u0 shutP, Chunk.blk b0 #[.slice none 0 0, .slice none 0 0, .slice none 0 0, .slice none 0 0, .slice none 0 0, .slice none 0 0, .slice none 0 0, .slice none 0 0, .slice none 0 0, .slice none 0 0, .slice none 0 0] 28] := hS6
    have hB := hS6.blk 1 rfl
    have hS7 := hS6.over 3 rfl u.l rfl
    refine ⟨_, _, _, hB.cell rfl, _, _, _, hB.cell rfl, _, _, _, hB.cell rfl, _, _, _, hB.cell rfl, _, _, _, hB.cell rfl, _, _, _, hB.cell rfl, _, _, _, hB.cell rfl, _, _, _, hB.cell rfl, _, _, _, hB.cell rfl, _, _, _, hB.cell rfl, _, _, _, hB.cell rfl, (hS6.blk 3 rfl).can (by simp), ?_⟩
    clear hB
    change St [] w (setCs w6 b0 0 [.slice u.a.1 u.a.2.1 u.a.2.2, .slice u.s.1 u.s.2.1 u.s.2.2, .slice u.r.1 u.r.2.1 u.r.2.2, .slice u.o.1 u.o.2.1 u.o.2.2, .slice u.g.1 u.g.2.1 u.g.2.2, .slice u.m.1 u.m.2.1 u.m.2.2, .slice u.i.1 u.i.2.1 u.i.2.2, .slice u.q.1 u.q.2.1 u.q.2.2, .slice u.t.1 u.t.2.1 u.t.2.2, .slice u.u.1 u.u.2.1 u.u.2.2, .slice u.e.1 u.e.2.1 u.e.2.2]) _ at hS7
    generalize setCs w6 b0 0 [.slice u.a.1 u.a.2.1 u.a.2.2, .slice u.s.1 u.s.2.1 u.s.2.2, .slice u.r.1 u.r.2.1 u.r.2.2, .slice u.o.1 u.o.2.1 u.o.2.2, .slice u.g.1 u.g.2.1 u.g.2.2, .slice u.m.1 u.m.2.1 u.m.2.2, .slice u.i.1 u.i.2.1 u.i.2.2, .slice u.q.1 u.q.2.1 u.q.2.2, .slice u.t.1 u.t.2.1 u.t.2.2, .slice u.u.1 u.u.2.1 u.u.2.2, .slice u.e.1 u.e.2.1 u.e.2.2] = w7 at *
    have hB := hS7.blk 3 rfl
    have hK := St.keepAll (hS7.sel [0, 2] (by decide) [Chunk.blk b4 #[.bool false, .string bA, .string bO, .slice none 0 0, .int .i8 0, .float .f64 0] 88, kP u0 shutP] rfl) (fun w => InP w u openP) (fun w h1 h2 => by
      obtain ⟨G1, g1⟩ := h1
      obtain ⟨G2, g2⟩ := h2 _ (List.mem_singleton.2 rfl)
      have q1 : Blk w b4 #[.bool false, .string bA, .string bO, .slice none 0 0, .int .i8 0, .float .f64 0] 88 := g1.2
      have q2 : InP w u0 shutP := Chunk.keep_says g2
      rw [hu]
      exact ⟨q2.a, q2.s, q2.r, q2.o, q2.g, q2.m, q2.i, q2.q, q2.t, rdl_one (e := ruleT) (ruleV ruleO nilS) _ q1 (rd_rule.2 ⟨nilS, rfl, RdL.nil _ _, rfl⟩), q2.e⟩)
    exact ⟨_, _, _, hB.cell rfl, _, _, _, hB.cell rfl, _, _, _, hB.cell rfl, _, _, _, hB.cell rfl, _, _, _, hB.cell rfl, _, _, _, hB.cell rfl, _, _, _, hB.cell rfl, _, _, _, hB.cell rfl, _, _, _, hB.cell rfl, _, _, _, hB.cell rfl, _, _, _, hB.cell rfl, u, rfl, hK⟩
  · rintro e w' ⟨v, rfl, u, rfl, h⟩; exact ⟨u, rfl, h⟩
theorem entryR {w : World} : Calls Try.prog 23 #[] w fun e w' => e = .returned (Tri bA bO bX) ∧ Fr [] w w' := by
  refine Calls.mono (f23.calls (R := fun e w' => e = Tri bA bO bX ∧ Fr [] w w') ?_) ?_
  · dsimp only [f23.VC]
    have hS := (St.start w).alloc #[.string ⟨#[]⟩, .string ⟨#[]⟩, .string ⟨#[]⟩] 37
    have hS2 := hS.over 0 rfl [.string bA, .string bO, .string bX] rfl
    have hB := hS2.blk 0 rfl
    exact ⟨(hS.blk 0 rfl).can (by simp), _, hB.cell rfl, _, hB.cell rfl, _, hB.cell rfl, rfl, hS2.frame⟩
  · rintro e w' ⟨v, rfl, rfl, h⟩; exact ⟨rfl, h⟩
theorem ints_read {w : World} {F : List Nat} {z : Sl} {l : List Int} (h : (Chunk.ls encI 3 z.v l).holds w F) (hf : ∀ x ∈ l, (Lit.int .i64 x).wf = true) : RdL (.int .i64) w z l :=
  sl_reads (e := .int .i64) 3 h (by simp) (fun q hq => by rw [map_getD _ _ _ 0 hq]; exact ⟨rfl, hf _ ((mem_getD 0 _ _).2 ⟨q, hq, rfl⟩)⟩)
end JG
end Go.Proofs.Ytddbebhklmaeoaa
