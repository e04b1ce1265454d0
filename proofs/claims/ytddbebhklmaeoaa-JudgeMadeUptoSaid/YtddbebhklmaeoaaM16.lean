/- A policy copied: in memory of its own, the same. -/
import Derived.Test.YtddbebhklmaeoaaM14
import Derived.Test.YtddbebhklmaeoaaM15
set_option linter.unusedVariables false
set_option linter.unusedSimpArgs false
set_option maxRecDepth 10000
namespace Go.Proofs.Ytddbebhklmaeoaa
open Go Go.Proofs.Ytddbebhklmaeoaa.Vc
namespace JG
open Vc.PG JD
theorem St.both {S : List Nat} {w0 w : World} {L : List Chunk} {p q : World → Prop} (h : St S w0 w (Chunk.keep p :: Chunk.keep q :: L)) : St S w0 w (Chunk.keep (fun w => p w ∧ q w) :: L) := by
  refine (Vc.St.join h).as 0 rfl _ fun F hF => ?_
  exact Chunk.kept (fun F w hw => by
    obtain ⟨F1, F2, _, h1, h2, _⟩ := hw
    exact ⟨Chunk.keep_says h1, Chunk.keep_says h2⟩) hF
/-- What may be appended at once. -/
structure App (e : Ty) (t TE : TypeId) : Prop where
  flat : flatB e = true
  pos : 0 < e.w
  len : ∀ d : Den e, (flatV e d).length = e.w
  one : ∀ (d : Den e), ∀ u ∈ flatV e d, u.oneCell' = true
  under : Try.prog.underlying t = some (.slice TE)
  info : ∃ ti z, Try.prog.info? TE = some ti ∧ ti.zero = some z ∧ ti.size = e.w ∧ z.cells.size = e.w ∧ ti.bytes ≤ 1000
theorem flat_len (w : World) : ∀ {e : Ty}, flatB e = true → ∀ d : Den e, (flatV e d).length = e.w
  | .int k, _, _ => rfl
  | .bool, _, _ => rfl
  | .str, _, _ => rfl
  | .flt k, _, _ => rfl
  | .unit, _, _ => rfl
  | .pair a b, hb, d => by
    have hb : (flatB a && flatB b) = true := hb
    rw [Bool.and_eq_true] at hb
    show (flatV a d.1 ++ flatV b d.2).length = a.w + b.w
    rw [List.length_append, flat_len w hb.1, flat_len w hb.2]
  | .sl _, hb, _ => by cases hb
theorem flat_one : ∀ {e : Ty}, flatB e = true → ∀ d : Den e, ∀ u ∈ flatV e d, u.oneCell' = true
  | .int k, _, d, u, h => by simp only [flatV, List.mem_singleton] at h; subst h; rfl
  | .bool, _, d, u, h => by simp only [flatV, List.mem_singleton] at h; subst h; rfl
  | .str, _, d, u, h => by simp only [flatV, List.mem_singleton] at h; subst h; rfl
  | .flt k, _, d, u, h => by simp only [flatV, List.mem_singleton] at h; subst h; rfl
  | .unit, _, d, u, h => by simp [flatV] at h
  | .pair a b, hb, d, u, h => by
    have hb : (flatB a && flatB b) = true := hb
    rw [Bool.and_eq_true] at hb
    have h : u ∈ flatV a d.1 ++ flatV b d.2 := h
    rcases List.mem_append.1 h with h | h
    · exact flat_one hb.1 d.1 u h
    · exact flat_one hb.2 d.2 u h
  | .sl _, hb, _, _, _ => by cases hb
theorem App.mk' {e : Ty} {t TE : TypeId} (w : World) (h1 : flatB e = true) (h2 : 0 < e.w) (h3 : Try.prog.underlying t = some (.slice TE)) (h4 : ∃ ti z, Try.prog.info? TE = some ti ∧ ti.zero = some z ∧ ti.size = e.w ∧ z.cells.size = e.w ∧ ti.bytes ≤ 1000) : App e t TE :=
  ⟨h1, h2, flat_len w h1, flat_one h1, h3, h4⟩
/-- A list gone on with many things that are read. -/
theorem appAll {e : Ty} {t TE : TypeId} (ha : App e t TE) {S : List Nat} {w0 w : World} {L : List Chunk} (h : St S w0 w L) (i : Nat) {A : Option Addr} {n c : Nat} {l : List (Den e)} (hi : L[i]? = some (Chunk.lr (flatV e) TE e.w (.slice A n c) l)) {x : Sl} {k : List (Den e)} (hx : RdL e w x k) (hl : l.length + k.length ≤ 40000000) :
    ∃ A' n' c' w', (Builtin.append_ #[t, t] t #[.slice A n c, .slice x.1 x.2.1 x.2.2]).run Try.prog w = .ok (.slice A' n' c') w' ∧ St S w0 w' (L.set i (Chunk.lr (flatV e) TE e.w (.slice A' n' c') (l ++ k))) := by
  obtain ⟨ti, z, i1, i2, i3, i4, i5⟩ := ha.info
  exact h.appManyR (Den.dflt e) (enc := flatV e) (s := e.w) ha.pos ha.len ha.one ha.under i1 i2 i3 i4 i5 i hi hx.1
    (fun hp => by
      obtain ⟨b, o, h1, h2⟩ := RdL.flat ha.flat hx hp
      refine ⟨b, o, h1, fun q hq j y _ hy => ?_⟩
      have := h2 q hq j y hy
      rwa [Nat.add_assoc] at this) hl
/-- A list anew. -/
theorem appNil {e : Ty} {t TE : TypeId} (ha : App e t TE) {S : List Nat} {w0 w : World} {L : List Chunk} (h : St S w0 w L) {x : Sl} {k : List (Den e)} (hx : RdL e w x k) (hl : k.length ≤ 30000000) :
    ∃ (z : Sl) (w' : World), (Builtin.append_ #[t, t] t #[.slice none 0 0, .slice x.1 x.2.1 x.2.2]).run Try.prog w = .ok (.slice z.1 z.2.1 z.2.2) w' ∧ St S w0 w' (Chunk.keep (fun w => RdL e w z k) :: L) := by
  obtain ⟨A', n', c', w', h1, h2⟩ := appAll ha (h.nil TE e.w) 0 (l := []) rfl hx (by simpa using Nat.le_trans hl (by decide))
  refine ⟨(A', n', c'), w', h1, ?_⟩
  rw [List.nil_append] at h2
  exact h2.keep 0 rfl (fun w => RdL e w (A', n', c') k) (fun F w0 h => lr_reads ha.flat TE h hx.fine)
theorem app22 : App .str 22 9 := App.mk' default rfl (by decide) (by kernel_rfl) ⟨Try.prog.types[9]!, ((Try.prog.types[9]!).zero).get!, by kernel_rfl, by kernel_rfl, by kernel_rfl, by kernel_rfl, of_decide_eq_true (by kernel_rfl)⟩
theorem app23 : App subjT 23 110 := App.mk' default rfl (by decide) (by kernel_rfl) ⟨Try.prog.types[110]!, ((Try.prog.types[110]!).zero).get!, by kernel_rfl, by kernel_rfl, by kernel_rfl, by kernel_rfl, of_decide_eq_true (by kernel_rfl)⟩
theorem app24 : App pairT 24 147 := App.mk' default rfl (by decide) (by kernel_rfl) ⟨Try.prog.types[147]!, ((Try.prog.types[147]!).zero).get!, by kernel_rfl, by kernel_rfl, by kernel_rfl, by kernel_rfl, of_decide_eq_true (by kernel_rfl)⟩
theorem app26 : App triT 26 37 := App.mk' default rfl (by decide) (by kernel_rfl) ⟨Try.prog.types[37]!, ((Try.prog.types[37]!).zero).get!, by kernel_rfl, by kernel_rfl, by kernel_rfl, by kernel_rfl, of_decide_eq_true (by kernel_rfl)⟩
theorem textsR {S : List Nat} {w0 w : World} {L : List Chunk} (h : St S w0 w L) {x : Sl} {l : List ByteArray} (hx : RdL .str w x l) (hl : l.length ≤ 30000000) :
    Calls Try.prog 31 #[x.v, .slice none 0 0] w fun e w' => ∃ z : Sl, e = .returned z.v ∧ St S w0 w' (kS z l :: L) := by
  refine Calls.mono (f31.calls (R := fun v w' => ∃ z : Sl, v = z.v ∧ St S w0 w' (kS z l :: L)) ?_) ?_
  · dsimp only [f31.VC]
    obtain ⟨A', n', c', w1, h1, h2⟩ := appAll app22 (h.nil 9 1) 0 (l := []) rfl hx (by simpa using Nat.le_trans hl (by decide))
    obtain ⟨A2, n2, c2, w2, h3, h4⟩ := appAll app22 h2 0 rfl (x := (none, 0, 0)) (k := []) (RdL.nil 0 none) (by simpa using Nat.le_trans hl (by decide))
    refine ⟨_, _, _, w1, h1, _, _, _, w2, h3, (A2, n2, c2), rfl, ?_⟩
    have h4 : St S w0 w2 (Chunk.lr (flatV .str) 9 1 (.slice A2 n2 c2) (([] ++ l) ++ []) :: L) := h4
    rw [List.append_nil, List.nil_append] at h4
    exact h4.keep 0 rfl (fun w => RdL .str w (A2, n2, c2) l) (fun F w0 h => lr_reads (e := .str) rfl 9 h (fun _ _ => rfl))
  · rintro e w' ⟨v, rfl, z, rfl, h⟩; exact ⟨z, rfl, h⟩
theorem St.fold {S : List Nat} {w0 w : World} : ∀ (L : List Chunk) (c : Chunk), St S w0 w (c :: L) → St S w0 w [L.foldl Chunk.star c]
  | [], c, h => h
  | d :: L, c, h => St.fold L (Chunk.star c d) (Vc.St.join h)
theorem fold_says {w : World} : ∀ (L : List Chunk) (c : Chunk) (F : List Nat), (L.foldl Chunk.star c).holds w F → (∃ G, c.holds w G) ∧ ∀ d ∈ L, ∃ G, d.holds w G
  | [], c, F, h => ⟨⟨F, h⟩, by simp⟩
  | d :: L, c, F, h => by
    obtain ⟨⟨G, F1, F2, _, h1, h2, _⟩, h3⟩ := fold_says L (Chunk.star c d) F h
    exact ⟨⟨F1, h1⟩, fun x hx => by
      rcases List.mem_cons.1 hx with rfl | hx
      · exact ⟨F2, h2⟩
      · exact h3 x hx⟩
theorem St.keepAll {S : List Nat} {w0 w : World} {c : Chunk} {L : List Chunk} (h : St S w0 w (c :: L)) (p : World → Prop) (hp : ∀ w, (∃ G, c.holds w G) → (∀ d ∈ L, ∃ G, d.holds w G) → p w) : St S w0 w [Chunk.keep p] :=
  Vc.St.keep (St.fold L c h) 0 rfl p fun F w hF => by
    obtain ⟨h1, h2⟩ := fold_says L c F hF
    exact hp w h1 h2
theorem Rows.fr {w w' : World} {rows : List (List Value)} {l : List RuleD} (h : Rows w rows l) (hf : Fr [] w w') : Rows w' rows l := ⟨h.1, fun q hq => (h.2 q hq).fr hf⟩
abbrev kP (u : PV) (p : PolD) : Chunk := Chunk.keep fun w => InP w u p
theorem copyR {w : World} {v : PV} {p : PolD} (h : InP w v p) (hb : SmallP p) : Calls Try.prog 10 #[v.v] w fun e w' => ∃ u : PV, e = .returned u.v ∧ St [] w w' [kP u p] := by
  refine Calls.mono (f10.calls (R := fun x w' => ∃ u : PV, x = u.v ∧ St [] w w' [kP u p]) ?_) ?_
  · dsimp only [f10.VC]
    have hS := ((St.start w).alloc v.cells 28).alloc #[.slice none 0 0, .slice none 0 0, .slice none 0 0, .slice none 0 0, .slice none 0 0, .slice none 0 0, .slice none 0 0, .slice none 0 0, .slice none 0 0, .slice none 0 0, .slice none 0 0] 28
    generalize World.alloc w (.cells v.cells 28) = w1 at *
    generalize w.heap.size = b1 at *
    generalize World.alloc w1 (.cells #[.slice none 0 0, .slice none 0 0, .slice none 0 0, .slice none 0 0, .slice none 0 0, .slice none 0 0, .slice none 0 0, .slice none 0 0, .slice none 0 0, .slice none 0 0, .slice none 0 0] 28) = w2 at *
    generalize w1.heap.size = b2 at *
    have hB := hS.blk 1 rfl
    have hT := hS.drew
    refine ⟨fun b o w' => o = 0 ∧ ∃ zA zR zO zG : Sl, St [] w w' [Chunk.blk b #[zA.v, .slice none 0 0, zR.v, zO.v, zG.v, .slice none 0 0, .slice none 0 0, .slice none 0 0, .slice none 0 0, .slice none 0 0, .slice none 0 0] 28,
      kS zA (pAct p), kS zR (pRol p), kS zO (pObj p), kS zG (pGrp p), Chunk.blk b2 #[.slice none 0 0, .slice none 0 0, .slice none 0 0, .slice none 0 0, .slice none 0 0, .slice none 0 0, .slice none 0 0, .slice none 0 0, .slice none 0 0, .slice none 0 0, .slice none 0 0] 28, Chunk.blk b1 v.cells 28],
      ⟨_, _, _, hB.cell rfl, _, _, _, hB.cell rfl, _, _, _, hB.cell rfl, _, _, _, hB.cell rfl, ?_⟩, ?_⟩
    · skip
      refine ⟨?_, ?_, trivial⟩
      · skip
        refine Calls.mono (textsR hT (h.fr hT.frame).a (Nat.le_trans hb.a (by decide))) ?_
        rintro _ w101 ⟨zA, rfl, hT1⟩
        refine ⟨_, _, _, rfl, ⟨(hT1.blk 2 rfl).cell rfl, (hT1.blk 2 rfl).cell rfl, (hT1.blk 2 rfl).cell rfl, (hT1.blk 2 rfl).cell rfl, trivial⟩, ?_⟩
        refine ⟨?_, ?_, trivial⟩
        · skip
          refine Calls.mono (textsR hT1 (h.fr hT1.frame).r (Nat.le_trans hb.r (by decide))) ?_
          rintro _ w102 ⟨zR, rfl, hT2⟩
          refine ⟨_, _, _, rfl, ⟨(hT2.blk 3 rfl).cell rfl, (hT2.blk 3 rfl).cell rfl, (hT2.blk 3 rfl).cell rfl, (hT2.blk 3 rfl).cell rfl, trivial⟩, ?_⟩
          refine ⟨?_, ?_, trivial⟩
          · skip
            refine Calls.mono (textsR hT2 (h.fr hT2.frame).o (Nat.le_trans hb.o (by decide))) ?_
            rintro _ w103 ⟨zO, rfl, hT3⟩
            refine ⟨_, _, _, rfl, ⟨(hT3.blk 4 rfl).cell rfl, (hT3.blk 4 rfl).cell rfl, (hT3.blk 4 rfl).cell rfl, (hT3.blk 4 rfl).cell rfl, trivial⟩, ?_⟩
            refine ⟨?_, ?_, trivial⟩
            · skip
              refine Calls.mono (textsR hT3 (h.fr hT3.frame).g (Nat.le_trans hb.g (by decide))) ?_
              rintro _ w104 ⟨zG, rfl, hT4⟩
              refine ⟨_, _, _, rfl, ⟨(hT4.blk 5 rfl).cell rfl, (hT4.blk 5 rfl).cell rfl, (hT4.blk 5 rfl).cell rfl, (hT4.blk 5 rfl).cell rfl, trivial⟩, ?_⟩
              have hT5 := hT4.alloc #[.slice none 0 0, .slice none 0 0, .slice none 0 0, .slice none 0 0, .slice none 0 0, .slice none 0 0, .slice none 0 0, .slice none 0 0, .slice none 0 0, .slice none 0 0, .slice none 0 0] 28
              refine ⟨⟨(hT5.blk 6 rfl).cell rfl, (hT5.blk 6 rfl).cell rfl, (hT5.blk 6 rfl).cell rfl, (hT5.blk 6 rfl).cell rfl, trivial⟩, ?_⟩
              have hT6 := hT5.over 0 rfl [zA.v, .slice none 0 0, zR.v, zO.v, zG.v, .slice none 0 0, .slice none 0 0, .slice none 0 0, .slice none 0 0, .slice none 0 0, .slice none 0 0] rfl
              exact ⟨(hT5.blk 0 rfl).can (by decide), ⟨(hT6.blk 6 rfl).cell rfl, (hT6.blk 6 rfl).cell rfl, (hT6.blk 6 rfl).cell rfl, (hT6.blk 6 rfl).cell rfl, trivial⟩, rfl, rfl, zA, zR, zO, zG, hT6.sel [0, 4, 3, 2, 1, 5, 6] (by decide) _ rfl⟩
            · skip
              have hT7 := hT3.alloc #[.slice none 0 0, .slice none 0 0, .slice none 0 0, .slice none 0 0, .slice none 0 0, .slice none 0 0, .slice none 0 0, .slice none 0 0, .slice none 0 0, .slice none 0 0, .slice none 0 0] 28
              refine ⟨⟨(hT7.blk 5 rfl).cell rfl, (hT7.blk 5 rfl).cell rfl, (hT7.blk 5 rfl).cell rfl, (hT7.blk 5 rfl).cell rfl, trivial⟩, ?_⟩
              refine Calls.mono (textsR hT7 (h.fr hT7.frame).g (Nat.le_trans hb.g (by decide))) ?_
              rintro _ w108 ⟨zG, rfl, hT8⟩
              refine ⟨_, _, _, rfl, ⟨(hT8.blk 6 rfl).cell rfl, (hT8.blk 6 rfl).cell rfl, (hT8.blk 6 rfl).cell rfl, (hT8.blk 6 rfl).cell rfl, trivial⟩, ?_⟩
              have hT9 := hT8.over 1 rfl [zA.v, .slice none 0 0, zR.v, zO.v, zG.v, .slice none 0 0, .slice none 0 0, .slice none 0 0, .slice none 0 0, .slice none 0 0, .slice none 0 0] rfl
              exact ⟨(hT8.blk 1 rfl).can (by decide), ⟨(hT9.blk 6 rfl).cell rfl, (hT9.blk 6 rfl).cell rfl, (hT9.blk 6 rfl).cell rfl, (hT9.blk 6 rfl).cell rfl, trivial⟩, rfl, rfl, zA, zR, zO, zG, hT9.sel [1, 4, 3, 2, 0, 5, 6] (by decide) _ rfl⟩
          · skip
            have hT10 := hT2.alloc #[.slice none 0 0, .slice none 0 0, .slice none 0 0, .slice none 0 0, .slice none 0 0, .slice none 0 0, .slice none 0 0, .slice none 0 0, .slice none 0 0, .slice none 0 0, .slice none 0 0] 28
            refine ⟨⟨(hT10.blk 4 rfl).cell rfl, (hT10.blk 4 rfl).cell rfl, (hT10.blk 4 rfl).cell rfl, (hT10.blk 4 rfl).cell rfl, trivial⟩, ?_⟩
            refine Calls.mono (textsR hT10 (h.fr hT10.frame).o (Nat.le_trans hb.o (by decide))) ?_
            rintro _ w111 ⟨zO, rfl, hT11⟩
            refine ⟨_, _, _, rfl, ⟨(hT11.blk 5 rfl).cell rfl, (hT11.blk 5 rfl).cell rfl, (hT11.blk 5 rfl).cell rfl, (hT11.blk 5 rfl).cell rfl, trivial⟩, ?_⟩
            refine Calls.mono (textsR hT11 (h.fr hT11.frame).g (Nat.le_trans hb.g (by decide))) ?_
            rintro _ w112 ⟨zG, rfl, hT12⟩
            refine ⟨_, _, _, rfl, ⟨(hT12.blk 6 rfl).cell rfl, (hT12.blk 6 rfl).cell rfl, (hT12.blk 6 rfl).cell rfl, (hT12.blk 6 rfl).cell rfl, trivial⟩, ?_⟩
            have hT13 := hT12.over 2 rfl [zA.v, .slice none 0 0, zR.v, zO.v, zG.v, .slice none 0 0, .slice none 0 0, .slice none 0 0, .slice none 0 0, .slice none 0 0, .slice none 0 0] rfl
            exact ⟨(hT12.blk 2 rfl).can (by decide), ⟨(hT13.blk 6 rfl).cell rfl, (hT13.blk 6 rfl).cell rfl, (hT13.blk 6 rfl).cell rfl, (hT13.blk 6 rfl).cell rfl, trivial⟩, rfl, rfl, zA, zR, zO, zG, hT13.sel [2, 4, 3, 1, 0, 5, 6] (by decide) _ rfl⟩
        · skip
          have hT14 := hT1.alloc #[.slice none 0 0, .slice none 0 0, .slice none 0 0, .slice none 0 0, .slice none 0 0, .slice none 0 0, .slice none 0 0, .slice none 0 0, .slice none 0 0, .slice none 0 0, .slice none 0 0] 28
          refine ⟨⟨(hT14.blk 3 rfl).cell rfl, (hT14.blk 3 rfl).cell rfl, (hT14.blk 3 rfl).cell rfl, (hT14.blk 3 rfl).cell rfl, trivial⟩, ?_⟩
          refine Calls.mono (textsR hT14 (h.fr hT14.frame).r (Nat.le_trans hb.r (by decide))) ?_
          rintro _ w115 ⟨zR, rfl, hT15⟩
          refine ⟨_, _, _, rfl, ⟨(hT15.blk 4 rfl).cell rfl, (hT15.blk 4 rfl).cell rfl, (hT15.blk 4 rfl).cell rfl, (hT15.blk 4 rfl).cell rfl, trivial⟩, ?_⟩
          refine Calls.mono (textsR hT15 (h.fr hT15.frame).o (Nat.le_trans hb.o (by decide))) ?_
          rintro _ w116 ⟨zO, rfl, hT16⟩
          refine ⟨_, _, _, rfl, ⟨(hT16.blk 5 rfl).cell rfl, (hT16.blk 5 rfl).cell rfl, (hT16.blk 5 rfl).cell rfl, (hT16.blk 5 rfl).cell rfl, trivial⟩, ?_⟩
          refine Calls.mono (textsR hT16 (h.fr hT16.frame).g (Nat.le_trans hb.g (by decide))) ?_
          rintro _ w117 ⟨zG, rfl, hT17⟩
          refine ⟨_, _, _, rfl, ⟨(hT17.blk 6 rfl).cell rfl, (hT17.blk 6 rfl).cell rfl, (hT17.blk 6 rfl).cell rfl, (hT17.blk 6 rfl).cell rfl, trivial⟩, ?_⟩
          have hT18 := hT17.over 3 rfl [zA.v, .slice none 0 0, zR.v, zO.v, zG.v, .slice none 0 0, .slice none 0 0, .slice none 0 0, .slice none 0 0, .slice none 0 0, .slice none 0 0] rfl
          exact ⟨(hT17.blk 3 rfl).can (by decide), ⟨(hT18.blk 6 rfl).cell rfl, (hT18.blk 6 rfl).cell rfl, (hT18.blk 6 rfl).cell rfl, (hT18.blk 6 rfl).cell rfl, trivial⟩, rfl, rfl, zA, zR, zO, zG, hT18.sel [3, 4, 2, 1, 0, 5, 6] (by decide) _ rfl⟩
      · skip
        have hT19 := hT.alloc #[.slice none 0 0, .slice none 0 0, .slice none 0 0, .slice none 0 0, .slice none 0 0, .slice none 0 0, .slice none 0 0, .slice none 0 0, .slice none 0 0, .slice none 0 0, .slice none 0 0] 28
        refine ⟨⟨(hT19.blk 2 rfl).cell rfl, (hT19.blk 2 rfl).cell rfl, (hT19.blk 2 rfl).cell rfl, (hT19.blk 2 rfl).cell rfl, trivial⟩, ?_⟩
        refine Calls.mono (textsR hT19 (h.fr hT19.frame).a (Nat.le_trans hb.a (by decide))) ?_
        rintro _ w120 ⟨zA, rfl, hT20⟩
        refine ⟨_, _, _, rfl, ⟨(hT20.blk 3 rfl).cell rfl, (hT20.blk 3 rfl).cell rfl, (hT20.blk 3 rfl).cell rfl, (hT20.blk 3 rfl).cell rfl, trivial⟩, ?_⟩
        refine Calls.mono (textsR hT20 (h.fr hT20.frame).r (Nat.le_trans hb.r (by decide))) ?_
        rintro _ w121 ⟨zR, rfl, hT21⟩
        refine ⟨_, _, _, rfl, ⟨(hT21.blk 4 rfl).cell rfl, (hT21.blk 4 rfl).cell rfl, (hT21.blk 4 rfl).cell rfl, (hT21.blk 4 rfl).cell rfl, trivial⟩, ?_⟩
        refine Calls.mono (textsR hT21 (h.fr hT21.frame).o (Nat.le_trans hb.o (by decide))) ?_
        rintro _ w122 ⟨zO, rfl, hT22⟩
        refine ⟨_, _, _, rfl, ⟨(hT22.blk 5 rfl).cell rfl, (hT22.blk 5 rfl).cell rfl, (hT22.blk 5 rfl).cell rfl, (hT22.blk 5 rfl).cell rfl, trivial⟩, ?_⟩
        refine Calls.mono (textsR hT22 (h.fr hT22.frame).g (Nat.le_trans hb.g (by decide))) ?_
        rintro _ w123 ⟨zG, rfl, hT23⟩
        refine ⟨_, _, _, rfl, ⟨(hT23.blk 6 rfl).cell rfl, (hT23.blk 6 rfl).cell rfl, (hT23.blk 6 rfl).cell rfl, (hT23.blk 6 rfl).cell rfl, trivial⟩, ?_⟩
        have hT24 := hT23.over 4 rfl [zA.v, .slice none 0 0, zR.v, zO.v, zG.v, .slice none 0 0, .slice none 0 0, .slice none 0 0, .slice none 0 0, .slice none 0 0, .slice none 0 0] rfl
        exact ⟨(hT23.blk 4 rfl).can (by decide), ⟨(hT24.blk 6 rfl).cell rfl, (hT24.blk 6 rfl).cell rfl, (hT24.blk 6 rfl).cell rfl, (hT24.blk 6 rfl).cell rfl, trivial⟩, rfl, rfl, zA, zR, zO, zG, hT24.sel [4, 3, 2, 1, 0, 5, 6] (by decide) _ rfl⟩
    · rintro d b o w3 ⟨rfl, zA, zR, zO, zG, hS⟩
      obtain ⟨zS, w4, runS, hSS⟩ := appNil app23 hS ((h.fr hS.frame).s) (Nat.le_trans hb.s (by decide))
      have hSS' : St [] w _ (Chunk.keep (fun w => RdL subjT w zS (pSub p)) :: Chunk.blk b #[zA.v, zS.v, zR.v, zO.v, zG.v, .slice none 0 0, .slice none 0 0, .slice none 0 0, .slice none 0 0, .slice none 0 0, .slice none 0 0] 28 :: [kS zA (pAct p), kS zR (pRol p), kS zO (pObj p), kS zG (pGrp p), Chunk.blk b2 #[.slice none 0 0, .slice none 0 0, .slice none 0 0, .slice none 0 0, .slice none 0 0, .slice none 0 0, .slice none 0 0, .slice none 0 0, .slice none 0 0, .slice none 0 0, .slice none 0 0] 28, Chunk.blk b1 v.cells 28]) := hSS.set 1 rfl 1 [zS.v]
      refine ⟨_, _, _, (hS.blk 0 rfl).cell rfl, _, _, _, (hS.blk 6 rfl).cell rfl, _, _, _, w4, runS, (hSS.blk 1 rfl).can (by simp), ?_⟩
      change St [] w (setCs w4 b (0 + 1) [.slice zS.1 zS.2.1 zS.2.2]) _ at hSS'
      generalize setCs w4 b (0 + 1) [.slice zS.1 zS.2.1 zS.2.2] = w5 at *
      obtain ⟨zM, w6, runM, hSM⟩ := appNil app24 hSS' ((h.fr hSS'.frame).m) (Nat.le_trans hb.m (by decide))
      have hSM' : St [] w _ (Chunk.keep (fun w => RdL pairT w zM (pMem p)) :: Chunk.keep (fun w => RdL subjT w zS (pSub p)) :: Chunk.blk b #[zA.v, zS.v, zR.v, zO.v, zG.v, zM.v, .slice none 0 0, .slice none 0 0, .slice none 0 0, .slice none 0 0, .slice none 0 0] 28 :: [kS zA (pAct p), kS zR (pRol p), kS zO (pObj p), kS zG (pGrp p), Chunk.blk b2 #[.slice none 0 0, .slice none 0 0, .slice none 0 0, .slice none 0 0, .slice none 0 0, .slice none 0 0, .slice none 0 0, .slice none 0 0, .slice none 0 0, .slice none 0 0, .slice none 0 0] 28, Chunk.blk b1 v.cells 28]) := hSM.set 2 rfl 5 [zM.v]
      refine ⟨_, _, _, (hSS'.blk 1 rfl).cell rfl, _, _, _, (hSS'.blk 7 rfl).cell rfl, _, _, _, w6, runM, (hSM.blk 2 rfl).can (by simp), ?_⟩
      change St [] w (setCs w6 b (0 + 5) [.slice zM.1 zM.2.1 zM.2.2]) _ at hSM'
      generalize setCs w6 b (0 + 5) [.slice zM.1 zM.2.1 zM.2.2] = w7 at *
      obtain ⟨zI, w8, runI, hSI⟩ := appNil app24 hSM' ((h.fr hSM'.frame).i) (Nat.le_trans hb.i (by decide))
      have hSI' : St [] w _ (Chunk.keep (fun w => RdL pairT w zI (pInh p)) :: Chunk.keep (fun w => RdL pairT w zM (pMem p)) :: Chunk.keep (fun w => RdL subjT w zS (pSub p)) :: Chunk.blk b #[zA.v, zS.v, zR.v, zO.v, zG.v, zM.v, zI.v, .slice none 0 0, .slice none 0 0, .slice none 0 0, .slice none 0 0] 28 :: [kS zA (pAct p), kS zR (pRol p), kS zO (pObj p), kS zG (pGrp p), Chunk.blk b2 #[.slice none 0 0, .slice none 0 0, .slice none 0 0, .slice none 0 0, .slice none 0 0, .slice none 0 0, .slice none 0 0, .slice none 0 0, .slice none 0 0, .slice none 0 0, .slice none 0 0] 28, Chunk.blk b1 v.cells 28]) := hSI.set 3 rfl 6 [zI.v]
      refine ⟨_, _, _, (hSM'.blk 2 rfl).cell rfl, _, _, _, (hSM'.blk 8 rfl).cell rfl, _, _, _, w8, runI, (hSI.blk 3 rfl).can (by simp), ?_⟩
      change St [] w (setCs w8 b (0 + 6) [.slice zI.1 zI.2.1 zI.2.2]) _ at hSI'
      generalize setCs w8 b (0 + 6) [.slice zI.1 zI.2.1 zI.2.2] = w9 at *
      obtain ⟨zQ, w10, runQ, hSQ⟩ := appNil app24 hSI' ((h.fr hSI'.frame).q) (Nat.le_trans hb.q (by decide))
      have hSQ' : St [] w _ (Chunk.keep (fun w => RdL pairT w zQ (pPar p)) :: Chunk.keep (fun w => RdL pairT w zI (pInh p)) :: Chunk.keep (fun w => RdL pairT w zM (pMem p)) :: Chunk.keep (fun w => RdL subjT w zS (pSub p)) :: Chunk.blk b #[zA.v, zS.v, zR.v, zO.v, zG.v, zM.v, zI.v, zQ.v, .slice none 0 0, .slice none 0 0, .slice none 0 0] 28 :: [kS zA (pAct p), kS zR (pRol p), kS zO (pObj p), kS zG (pGrp p), Chunk.blk b2 #[.slice none 0 0, .slice none 0 0, .slice none 0 0, .slice none 0 0, .slice none 0 0, .slice none 0 0, .slice none 0 0, .slice none 0 0, .slice none 0 0, .slice none 0 0, .slice none 0 0] 28, Chunk.blk b1 v.cells 28]) := hSQ.set 4 rfl 7 [zQ.v]
      refine ⟨_, _, _, (hSI'.blk 3 rfl).cell rfl, _, _, _, (hSI'.blk 9 rfl).cell rfl, _, _, _, w10, runQ, (hSQ.blk 4 rfl).can (by simp), ?_⟩
      change St [] w (setCs w10 b (0 + 7) [.slice zQ.1 zQ.2.1 zQ.2.2]) _ at hSQ'
      generalize setCs w10 b (0 + 7) [.slice zQ.1 zQ.2.1 zQ.2.2] = w11 at *
      obtain ⟨zT, w12, runT, hST⟩ := appNil app24 hSQ' ((h.fr hSQ'.frame).t) (Nat.le_trans hb.t (by decide))
      have hST' : St [] w _ (Chunk.keep (fun w => RdL pairT w zT (pWit p)) :: Chunk.keep (fun w => RdL pairT w zQ (pPar p)) :: Chunk.keep (fun w => RdL pairT w zI (pInh p)) :: Chunk.keep (fun w => RdL pairT w zM (pMem p)) :: Chunk.keep (fun w => RdL subjT w zS (pSub p)) :: Chunk.blk b #[zA.v, zS.v, zR.v, zO.v, zG.v, zM.v, zI.v, zQ.v, zT.v, .slice none 0 0, .slice none 0 0] 28 :: [kS zA (pAct p), kS zR (pRol p), kS zO (pObj p), kS zG (pGrp p), Chunk.blk b2 #[.slice none 0 0, .slice none 0 0, .slice none 0 0, .slice none 0 0, .slice none 0 0, .slice none 0 0, .slice none 0 0, .slice none 0 0, .slice none 0 0, .slice none 0 0, .slice none 0 0] 28, Chunk.blk b1 v.cells 28]) := hST.set 5 rfl 8 [zT.v]
      refine ⟨_, _, _, (hSQ'.blk 4 rfl).cell rfl, _, _, _, (hSQ'.blk 10 rfl).cell rfl, _, _, _, w12, runT, (hST.blk 5 rfl).can (by simp), ?_⟩
      change St [] w (setCs w12 b (0 + 8) [.slice zT.1 zT.2.1 zT.2.2]) _ at hST'
      generalize setCs w12 b (0 + 8) [.slice zT.1 zT.2.1 zT.2.2] = w13 at *
      have hl : v.u.2.1 = (pRul p).length := h.u.1
      have hbs : (pRul p).length ≤ 1100000 := hb.u
      refine ⟨fun i w' m => ∃ (k : Nat) (rows : List (List Value)) (A : Option Addr) (n c : Nat), i = (k : Int) ∧ k + m = v.u.2.1 ∧
        St [] w w' (Chunk.sl 88 6 (.slice A n c) rows :: Chunk.keep (fun w => Rows w rows ((pRul p).take k)) :: Chunk.blk b #[zA.v, zS.v, zR.v, zO.v, zG.v, zM.v, zI.v, zQ.v, zT.v, .slice A n c, .slice none 0 0] 28 :: Chunk.keep (fun w => RdL pairT w zT (pWit p)) :: Chunk.keep (fun w => RdL pairT w zQ (pPar p)) :: Chunk.keep (fun w => RdL pairT w zI (pInh p)) :: Chunk.keep (fun w => RdL pairT w zM (pMem p)) :: Chunk.keep (fun w => RdL subjT w zS (pSub p)) :: [kS zA (pAct p), kS zR (pRol p), kS zO (pObj p), kS zG (pGrp p), Chunk.blk b2 #[.slice none 0 0, .slice none 0 0, .slice none 0 0, .slice none 0 0, .slice none 0 0, .slice none 0 0, .slice none 0 0, .slice none 0 0, .slice none 0 0, .slice none 0 0, .slice none 0 0] 28, Chunk.blk b1 v.cells 28]),
        ⟨v.u.2.1, 0, [], none, 0, 0, rfl, by omega, ?_⟩, ?_⟩
      · have h0 := (hST'.perm (L' := Chunk.blk b #[zA.v, zS.v, zR.v, zO.v, zG.v, zM.v, zI.v, zQ.v, zT.v, .slice none 0 0, .slice none 0 0] 28 :: Chunk.keep (fun w => RdL pairT w zT (pWit p)) :: Chunk.keep (fun w => RdL pairT w zQ (pPar p)) :: Chunk.keep (fun w => RdL pairT w zI (pInh p)) :: Chunk.keep (fun w => RdL pairT w zM (pMem p)) :: Chunk.keep (fun w => RdL subjT w zS (pSub p)) :: [kS zA (pAct p), kS zR (pRol p), kS zO (pObj p), kS zG (pGrp p), Chunk.blk b2 #[.slice none 0 0, .slice none 0 0, .slice none 0 0, .slice none 0 0, .slice none 0 0, .slice none 0 0, .slice none 0 0, .slice none 0 0, .slice none 0 0, .slice none 0 0, .slice none 0 0] 28, Chunk.blk b1 v.cells 28]) ?_).nil 88 6
        · have h1 := St.new h0 (c := Chunk.keep (fun w => Rows w [] ((pRul p).take 0))) (F := []) (Fr.refl [] _) ⟨fun _ _ _ _ => ⟨rfl, fun q hq => by simp at hq⟩, by simp⟩ (by simp)
          exact h1.perm (List.Perm.swap _ _ _)
        · exact (List.perm_middle (l₁ := [Chunk.keep (fun w => RdL pairT w zT (pWit p)), Chunk.keep (fun w => RdL pairT w zQ (pPar p)), Chunk.keep (fun w => RdL pairT w zI (pInh p)), Chunk.keep (fun w => RdL pairT w zM (pMem p)), Chunk.keep (fun w => RdL subjT w zS (pSub p))]) (l₂ := [kS zA (pAct p), kS zR (pRol p), kS zO (pObj p), kS zG (pGrp p), Chunk.blk b2 #[.slice none 0 0, .slice none 0 0, .slice none 0 0, .slice none 0 0, .slice none 0 0, .slice none 0 0, .slice none 0 0, .slice none 0 0, .slice none 0 0, .slice none 0 0, .slice none 0 0] 28, Chunk.blk b1 v.cells 28]))
      rintro d2 i w14 m ⟨k, rows, A, n, c, rfl, hk, hS⟩
      have hi3 : ∀ w', Fr [] w w' → InP w' v p := fun w' hf => h.fr hf
      refine ⟨_, _, _, (hS.blk 13 rfl).cell rfl, sel_of (fun hd => ?_) (fun hd => ?_)⟩
      · have hi : k < v.u.2.1 := by have := of_decide_eq_true hd; omega
        obtain ⟨bb, oo, hA, hc⟩ := RdL.rule ((h.fr hS.frame).u) (by omega)
        obtain ⟨u, hu, hc⟩ := hc k hi
        have htk : (pRul p).take (k + 1) = (pRul p).take k ++ [(pRul p).getD k rd0] := by
          rw [List.take_add_one, List.getD_eq_getElem?_getD, List.getElem?_eq_getElem (show k < (pRul p).length by omega)]; rfl
        have hmem : (pRul p).getD k rd0 ∈ pRul p := (mem_getD rd0 _ _).2 ⟨k, by omega, rfl⟩
        have hxl := hb.x _ hmem
        have hwf : (Lit.int .i8 ((pRul p).getD k rd0).2.2.2.2.1).wf = true := by
          obtain ⟨b5, o5, _, h5⟩ := h.u.2.2 (by omega)
          obtain ⟨es, h6, _⟩ := h5 k hi
          obtain ⟨_, _, _, h7⟩ := rd_rule.1 h6
          exact h7
        generalize (pRul p).getD k rd0 = r at *
        have hS5 := hS.alloc #[.bool false, .string ⟨#[]⟩, .string ⟨#[]⟩, .slice none 0 0, .int .i8 0, .float .f64 0] 88
        have hS6 := hS5.over 0 rfl (ruleV r u) rfl
        have hu6 := hu.fr ((Fr.refl [] w14).alloc (cs := #[.bool false, .string ⟨#[]⟩, .string ⟨#[]⟩, .slice none 0 0, .int .i8 0, .float .f64 0]) (T := 88) |>.set (g := w14.heap.size) (o := 0) (vs := ruleV r u) (.inr (Nat.le_refl _)))
        refine ⟨_, _, _, (hS.blk 13 rfl).cell rfl, by omega, by omega, needPtr_of hA ⟨_, hc 0 _ rfl, _, hc 1 _ rfl, _, hc 2 _ rfl, _, _, _, hc 3 _ rfl, _, hc 4 _ rfl, _, hc 5 _ rfl, (hS5.blk 0 rfl).can (by decide), ?_⟩⟩
        generalize World.alloc w14 (.cells #[.bool false, .string ⟨#[]⟩, .string ⟨#[]⟩, .slice none 0 0, .int .i8 0, .float .f64 0] 88) = w15 at *
        generalize w14.heap.size = b5 at *
        change St [] w (setCs w15 b5 0 [.bool r.1, .string r.2.1, .string r.2.2.1, .slice u.1 u.2.1 u.2.2, .int .i8 r.2.2.2.2.1, .float .f64 r.2.2.2.2.2.1]) _ at hS6
        change RdL .str (setCs w15 b5 0 [.bool r.1, .string r.2.1, .string r.2.2.1, .slice u.1 u.2.1 u.2.2, .int .i8 r.2.2.2.2.1, .float .f64 r.2.2.2.2.2.1]) u (rActs r) at hu6
        generalize setCs w15 b5 0 [.bool r.1, .string r.2.1, .string r.2.2.1, .slice u.1 u.2.1 u.2.2, .int .i8 r.2.2.2.2.1, .float .f64 r.2.2.2.2.2.1] = w16 at *
        refine ⟨_, _, _, (hS6.blk 0 rfl).cell rfl, Calls.mono (textsR hS6 hu6 (Nat.le_trans hxl (by decide))) ?_⟩
        rintro _ w17 ⟨z, rfl, hS7⟩
        have hS8 := hS7.over 1 rfl (ruleV r z) rfl
        have hS8 := hS7.set 1 rfl 3 [z.v]
        refine ⟨_, _, _, rfl, (hS7.blk 1 rfl).can (by simp), ?_⟩
        change St [] w (setCs w17 b5 3 [.slice z.1 z.2.1 z.2.2]) (kS z (rActs r) :: Chunk.blk b5 (ruleV r z).toArray 88 :: Chunk.sl 88 6 (.slice A n c) rows :: Chunk.keep (fun w => Rows w rows ((pRul p).take k)) :: Chunk.blk b #[zA.v, zS.v, zR.v, zO.v, zG.v, zM.v, zI.v, zQ.v, zT.v, .slice A n c, .slice none 0 0] 28 :: Chunk.keep (fun w => RdL pairT w zT (pWit p)) :: Chunk.keep (fun w => RdL pairT w zQ (pPar p)) :: Chunk.keep (fun w => RdL pairT w zI (pInh p)) :: Chunk.keep (fun w => RdL pairT w zM (pMem p)) :: Chunk.keep (fun w => RdL subjT w zS (pSub p)) :: [kS zA (pAct p), kS zR (pRol p), kS zO (pObj p), kS zG (pGrp p), Chunk.blk b2 #[.slice none 0 0, .slice none 0 0, .slice none 0 0, .slice none 0 0, .slice none 0 0, .slice none 0 0, .slice none 0 0, .slice none 0 0, .slice none 0 0, .slice none 0 0, .slice none 0 0] 28, Chunk.blk b1 v.cells 28]) at hS8
        generalize setCs w17 b5 3 [.slice z.1 z.2.1 z.2.2] = w18 at *
        have hB := hS8.blk 1 rfl
        have hS9 := hS8.alloc (ruleV r z).toArray 88
        obtain ⟨ti, zz, i1, i2, i3, i4, i5⟩ := info88
        have hrl : rows.length = k := by
          have := (hS8.says 3 rfl).1
          rw [this, List.length_take]; omega
        obtain ⟨g', cap', w19, hrun, hS10⟩ := hS9.append 3 under25 i1 i2 i4 i3 (by decide) rfl (r := ruleV r z) (ty := 25) (hS9.blk 0 rfl) rfl rfl (by intro x hx; simp at hx; rcases hx with rfl | rfl | rfl | rfl | rfl | rfl <;> rfl)
          (by rw [i5, hrl]; omega) (by rw [hrl]; simp [maxLen]; omega)
        have hS10 : St [] w w19 (Chunk.blk w18.heap.size (ruleV r z).toArray 88 :: kS z (rActs r) :: Chunk.blk b5 (ruleV r z).toArray 88 :: Chunk.sl 88 6 (.slice (some ⟨g', 0, none⟩) (rows.length + 1) cap') (rows ++ [ruleV r z]) :: Chunk.keep (fun w => Rows w rows ((pRul p).take k)) :: Chunk.blk b #[zA.v, zS.v, zR.v, zO.v, zG.v, zM.v, zI.v, zQ.v, zT.v, .slice A n c, .slice none 0 0] 28 :: Chunk.keep (fun w => RdL pairT w zT (pWit p)) :: Chunk.keep (fun w => RdL pairT w zQ (pPar p)) :: Chunk.keep (fun w => RdL pairT w zI (pInh p)) :: Chunk.keep (fun w => RdL pairT w zM (pMem p)) :: Chunk.keep (fun w => RdL subjT w zS (pSub p)) :: [kS zA (pAct p), kS zR (pRol p), kS zO (pObj p), kS zG (pGrp p), Chunk.blk b2 #[.slice none 0 0, .slice none 0 0, .slice none 0 0, .slice none 0 0, .slice none 0 0, .slice none 0 0, .slice none 0 0, .slice none 0 0, .slice none 0 0, .slice none 0 0, .slice none 0 0] 28, Chunk.blk b1 v.cells 28]) := hS10
        have hS11 : St [] w _ (Chunk.blk w18.heap.size (ruleV r z).toArray 88 :: kS z (rActs r) :: Chunk.blk b5 (ruleV r z).toArray 88 :: Chunk.sl 88 6 (.slice (some ⟨g', 0, none⟩) (rows.length + 1) cap') (rows ++ [ruleV r z]) :: Chunk.keep (fun w => Rows w rows ((pRul p).take k)) :: Chunk.blk b #[zA.v, zS.v, zR.v, zO.v, zG.v, zM.v, zI.v, zQ.v, zT.v, (.slice (some ⟨g', 0, none⟩) (rows.length + 1) cap'), .slice none 0 0] 28 :: Chunk.keep (fun w => RdL pairT w zT (pWit p)) :: Chunk.keep (fun w => RdL pairT w zQ (pPar p)) :: Chunk.keep (fun w => RdL pairT w zI (pInh p)) :: Chunk.keep (fun w => RdL pairT w zM (pMem p)) :: Chunk.keep (fun w => RdL subjT w zS (pSub p)) :: [kS zA (pAct p), kS zR (pRol p), kS zO (pObj p), kS zG (pGrp p), Chunk.blk b2 #[.slice none 0 0, .slice none 0 0, .slice none 0 0, .slice none 0 0, .slice none 0 0, .slice none 0 0, .slice none 0 0, .slice none 0 0, .slice none 0 0, .slice none 0 0, .slice none 0 0] 28, Chunk.blk b1 v.cells 28]) := hS10.set 5 rfl 9 [.slice (some ⟨g', 0, none⟩) (rows.length + 1) cap']
        have hinc : IntKind.i64.wrap ((k : Int) + 1) = ((k + 1 : Nat) : Int) := inc k 100000000 (by omega) (by omega)
        rw [hinc]
        have hS12 := St.both (hS11.sel [4, 1, 3, 5, 6, 7, 8, 9, 10, 11, 12, 13, 14, 15, 16] (by decide) (Chunk.keep (fun w => Rows w rows ((pRul p).take k)) :: kS z (rActs r) :: Chunk.sl 88 6 (.slice (some ⟨g', 0, none⟩) (rows.length + 1) cap') (rows ++ [ruleV r z]) :: Chunk.blk b #[zA.v, zS.v, zR.v, zO.v, zG.v, zM.v, zI.v, zQ.v, zT.v, (.slice (some ⟨g', 0, none⟩) (rows.length + 1) cap'), .slice none 0 0] 28 :: Chunk.keep (fun w => RdL pairT w zT (pWit p)) :: Chunk.keep (fun w => RdL pairT w zQ (pPar p)) :: Chunk.keep (fun w => RdL pairT w zI (pInh p)) :: Chunk.keep (fun w => RdL pairT w zM (pMem p)) :: Chunk.keep (fun w => RdL subjT w zS (pSub p)) :: [kS zA (pAct p), kS zR (pRol p), kS zO (pObj p), kS zG (pGrp p), Chunk.blk b2 #[.slice none 0 0, .slice none 0 0, .slice none 0 0, .slice none 0 0, .slice none 0 0, .slice none 0 0, .slice none 0 0, .slice none 0 0, .slice none 0 0, .slice none 0 0, .slice none 0 0] 28, Chunk.blk b1 v.cells 28]) rfl)
        have hS13 := hS12.keep 0 rfl (fun w => Rows w (rows ++ [ruleV r z]) ((pRul p).take (k + 1))) (fun F w' hw => by
          obtain ⟨h1, h2⟩ := Chunk.keep_says hw
          have hlt : ((pRul p).take k).length = k := by rw [List.length_take]; omega
          refine ⟨by simp [htk, hrl, hlt], fun q hq => ?_⟩
          rw [htk, List.length_append, hlt, List.length_singleton] at hq
          rcases Nat.lt_or_ge q k with hq2 | hq2
          · rw [htk, List.getD_eq_getElem?_getD, List.getElem?_append_left (by omega), List.getD_eq_getElem?_getD, List.getElem?_append_left (by omega), ← List.getD_eq_getElem?_getD, ← List.getD_eq_getElem?_getD]
            exact h1.2 q (by omega)
          · have : q = k := by omega
            subst this
            rw [htk, List.getD_eq_getElem?_getD, List.getElem?_append_right (by omega), List.getD_eq_getElem?_getD, List.getElem?_append_right (by omega), hrl, hlt, Nat.sub_self]
            exact rd_rule.2 ⟨z, rfl, h2, hwf⟩)
        refine ⟨_, _, _, (hS8.blk 4 rfl).cell rfl, _, hB.cell rfl, _, hB.cell rfl, _, hB.cell rfl, _, _, _, hB.cell rfl, _, hB.cell rfl, _, hB.cell rfl, _, _, _, w19, hrun, (hS10.blk 5 rfl).can (by simp), rfl, m - 1, by omega, k + 1, rows ++ [ruleV r z], some ⟨g', 0, none⟩, rows.length + 1, cap', rfl, by omega, hS13.perm (List.Perm.swap _ _ _)⟩
      · have hi : k = v.u.2.1 := by have := of_decide_eq_false hd; omega
        rw [List.take_of_length_le (by omega)] at hS
        obtain ⟨zE, w20, runE, hSE⟩ := appNil app26 hS ((h.fr hS.frame).e) (Nat.le_trans hb.e (by decide))
        have hSE' : St [] w _ (Chunk.keep (fun w => RdL triT w zE (pExc p)) :: Chunk.sl 88 6 (.slice A n c) rows :: Chunk.keep (fun w => Rows w rows (pRul p)) :: Chunk.blk b #[zA.v, zS.v, zR.v, zO.v, zG.v, zM.v, zI.v, zQ.v, zT.v, .slice A n c, zE.v] 28 :: Chunk.keep (fun w => RdL pairT w zT (pWit p)) :: Chunk.keep (fun w => RdL pairT w zQ (pPar p)) :: Chunk.keep (fun w => RdL pairT w zI (pInh p)) :: Chunk.keep (fun w => RdL pairT w zM (pMem p)) :: Chunk.keep (fun w => RdL subjT w zS (pSub p)) :: [kS zA (pAct p), kS zR (pRol p), kS zO (pObj p), kS zG (pGrp p), Chunk.blk b2 #[.slice none 0 0, .slice none 0 0, .slice none 0 0, .slice none 0 0, .slice none 0 0, .slice none 0 0, .slice none 0 0, .slice none 0 0, .slice none 0 0, .slice none 0 0, .slice none 0 0] 28, Chunk.blk b1 v.cells 28]) := hSE.set 3 rfl 10 [zE.v]
        refine ⟨_, _, _, (hS.blk 2 rfl).cell rfl, _, _, _, (hS.blk 13 rfl).cell rfl, _, _, _, w20, runE, (hSE.blk 3 rfl).can (by simp), ?_⟩
        change St [] w (setCs w20 b (0 + 10) [.slice zE.1 zE.2.1 zE.2.2]) _ at hSE'
        generalize setCs w20 b (0 + 10) [.slice zE.1 zE.2.1 zE.2.2] = w21 at *
        iterate 11 refine ⟨_, _, _, (hSE'.blk 3 rfl).cell rfl, ?_⟩
        have hSF := hSE'.over 13 rfl [zA.v, zS.v, zR.v, zO.v, zG.v, zM.v, zI.v, zQ.v, zT.v, .slice A n c, zE.v] rfl
        refine ⟨(hSE'.blk 13 rfl).can (by decide), ?_⟩
        have hBF := hSF.blk 13 rfl
        iterate 11 refine ⟨_, _, _, hBF.cell rfl, ?_⟩
        refine ⟨⟨zA, zS, zR, zO, zG, zM, zI, zQ, zT, (A, n, c), zE⟩, rfl, ?_⟩
        refine St.keepAll (hSF.sel [9, 8, 10, 11, 12, 7, 6, 5, 4, 0, 1, 2] (by decide) (kS zA (pAct p) :: [Chunk.keep (fun w => RdL subjT w zS (pSub p)), kS zR (pRol p), kS zO (pObj p), kS zG (pGrp p), Chunk.keep (fun w => RdL pairT w zM (pMem p)), Chunk.keep (fun w => RdL pairT w zI (pInh p)), Chunk.keep (fun w => RdL pairT w zQ (pPar p)), Chunk.keep (fun w => RdL pairT w zT (pWit p)), Chunk.keep (fun w => RdL triT w zE (pExc p)), Chunk.sl 88 6 (.slice A n c) rows, Chunk.keep (fun w => Rows w rows (pRul p))]) rfl) _ ?_
        intro w' ⟨G, hG⟩ hall
        have kp : ∀ {q : World → Prop}, Chunk.keep q ∈ _ → q w' := fun hq => by
          obtain ⟨G, hG⟩ := hall _ hq
          exact Chunk.keep_says hG
        obtain ⟨G2, hG2⟩ := hall (Chunk.sl 88 6 (.slice A n c) rows) (List.mem_of_getElem? (i := 9) rfl)
        have hRows : Rows w' rows (pRul p) := kp (List.mem_of_getElem? (i := 10) rfl)
        exact ⟨Chunk.keep_says hG, kp (List.mem_of_getElem? (i := 0) rfl), kp (List.mem_of_getElem? (i := 1) rfl), kp (List.mem_of_getElem? (i := 2) rfl), kp (List.mem_of_getElem? (i := 3) rfl), kp (List.mem_of_getElem? (i := 4) rfl), kp (List.mem_of_getElem? (i := 5) rfl), kp (List.mem_of_getElem? (i := 6) rfl), kp (List.mem_of_getElem? (i := 7) rfl), sl_reads (e := ruleT) (x := (A, n, c)) 88 hG2 hRows.1 (fun q hq => hRows.2 q hq), kp (List.mem_of_getElem? (i := 8) rfl)⟩
  · rintro e w' ⟨v, rfl, u, rfl, h⟩; exact ⟨u, rfl, h⟩
end JG
end Go.Proofs.Ytddbebhklmaeoaa
/- Two readings of one thing: they are the same (but for numbers that are not themselves). -/
set_option linter.unusedVariables false
set_option linter.unusedSimpArgs false
set_option maxRecDepth 10000
namespace Go.Proofs.Ytddbebhklmaeoaa
open Go Go.Proofs.Ytddbebhklmaeoaa.Vc
namespace JG
open Vc.PG JD
theorem RdL.int {w : World} {x : Sl} {l : List Int} (h : RdL (.int .i64) w x l) (hp : 0 < x.2.1) : ∃ b o, x.1 = some ⟨b, o, none⟩ ∧ ∀ q, q < x.2.1 → w.cell? ⟨b, o + q * 1, none⟩ = some (.int .i64 (l.getD q 0)) := by
  obtain ⟨b, o, h1, h2⟩ := RdL.flat (e := .int .i64) rfl h hp
  exact ⟨b, o, h1, fun q hq => h2 q hq 0 _ rfl⟩
end JG
end Go.Proofs.Ytddbebhklmaeoaa
