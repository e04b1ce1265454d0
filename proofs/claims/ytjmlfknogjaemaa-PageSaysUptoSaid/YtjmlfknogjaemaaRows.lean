/-
  No cell of these rows narrows 'for every input' (looked for: loops, veiled, ifaces, maps, wideKeys, modest, calm, conditions, laid).
  DERIVED. THE GIVEN ROWS OF THIS SEAT. 7 by the template 'for every input the law returns true; each argument reads behind the call as it read before'; 0 by the template 'total and deterministic' (their statements: YtjmlfknogjaemaaTotals.lean).
  GIVEN WITH THE SEED: the statements are not yours to turn. If you find one false, say at which input.
  Laid BY PROGRAM, IN A SANDBOX (cutbox-rows.mjs): the forced cells as the released guide's own fill.sh prints them over the translation c67101bb5984c7cd… (all of the seat's roots in one cut). By AI agents, Wed Nov 11 2026. No macro, syntax, notation, axiom, sorry.
-/
import Derived.Test.YtjmlfknogjaemaaChecked
import GoSem.Claim
import GoSem.ClaimJoined
import GoSem.ClaimMapViews
import Derived.JoinedTies
import Derived.KernelRfl
namespace Go.Proofs.Ytjmlfknogjaemaa
/- THE CELL 'sum', in the pinned program and in every row, IS THE sha256 OF THE DUMP (.gsa) THAT YtjmlfknogjaemaaProg.lean LOADS. Nothing in Lean hashes anything: it is a label: what it is worth is what the hold of that sum in a sandbox is worth. -/
noncomputable def Try.pinned : Pinned := { name := "ytjmlfknogjaemaa", sum := "c67101bb5984c7cdcbcf8ecfda0ee12fb11b7df0840109648d7484daaadf5f12", checked := Try.checked }
namespace Rows
def none {H : Type} : Left H := { results := [], args := [] }

/-- 'gatehouselaw12.PageHash': WHATEVER THE INPUT: true; the input reads as it did. -/
def pageHashSpec : ChangeSpec := { name := "pageHash", fn := fun _ => fun
  | [d1, d2] => { results := [.lit (.bool true)], args := [d1, d2] }
  | _ => none }
def pageHashRow : OpenClaim := { program := "ytjmlfknogjaemaa", sum := "c67101bb5984c7cdcbcf8ecfda0ee12fb11b7df0840109648d7484daaadf5f12", func := "gatehouse/gatehouselaw12.PageHash", spec := "pageHash", unfollowed := true, recurses := true, plainKeys := false, apart := false }
def PageHashSaid : Prop := pageHashRow.holds Try.pinned (OpenSpec.ofChange pageHashSpec)

/-- ITS FALSE NEIGHBOUR: 'it returns false'. Refute it at one input. -/
def pageHashWrong : ChangeSpec := { name := "pageHash", fn := fun _ => fun
  | [d1, d2] => { results := [.lit (.bool false)], args := [d1, d2] }
  | _ => none }
def PageHashWrongFalsely : Prop := pageHashRow.holds Try.pinned (OpenSpec.ofChange pageHashWrong)

/-- 'gatehouselaw12.PageLay': WHATEVER THE INPUT: true; the input reads as it did. -/
def pageLaySpec : ChangeSpec := { name := "pageLay", fn := fun _ => fun
  | [d1, d2, d3, d4] => { results := [.lit (.bool true)], args := [d1, d2, d3, d4] }
  | _ => none }
def pageLayRow : OpenClaim := { program := "ytjmlfknogjaemaa", sum := "c67101bb5984c7cdcbcf8ecfda0ee12fb11b7df0840109648d7484daaadf5f12", func := "gatehouse/gatehouselaw12.PageLay", spec := "pageLay", unfollowed := true, recurses := true, plainKeys := false, apart := false }
def PageLaySaid : Prop := pageLayRow.holds Try.pinned (OpenSpec.ofChange pageLaySpec)

/-- ITS FALSE NEIGHBOUR: 'it returns false'. Refute it at one input. -/
def pageLayWrong : ChangeSpec := { name := "pageLay", fn := fun _ => fun
  | [d1, d2, d3, d4] => { results := [.lit (.bool false)], args := [d1, d2, d3, d4] }
  | _ => none }
def PageLayWrongFalsely : Prop := pageLayRow.holds Try.pinned (OpenSpec.ofChange pageLayWrong)

/-- 'gatehouselaw12.PageAsked': WHATEVER THE INPUT: true; the input reads as it did. -/
def pageAskedSpec : ChangeSpec := { name := "pageAsked", fn := fun _ => fun
  | [d1, d2, d3] => { results := [.lit (.bool true)], args := [d1, d2, d3] }
  | _ => none }
def pageAskedRow : OpenClaim := { program := "ytjmlfknogjaemaa", sum := "c67101bb5984c7cdcbcf8ecfda0ee12fb11b7df0840109648d7484daaadf5f12", func := "gatehouse/gatehouselaw12.PageAsked", spec := "pageAsked", unfollowed := true, recurses := true, plainKeys := false, apart := false }
def PageAskedSaid : Prop := pageAskedRow.holds Try.pinned (OpenSpec.ofChange pageAskedSpec)

/-- ITS FALSE NEIGHBOUR: 'it returns false'. Refute it at one input. -/
def pageAskedWrong : ChangeSpec := { name := "pageAsked", fn := fun _ => fun
  | [d1, d2, d3] => { results := [.lit (.bool false)], args := [d1, d2, d3] }
  | _ => none }
def PageAskedWrongFalsely : Prop := pageAskedRow.holds Try.pinned (OpenSpec.ofChange pageAskedWrong)

/-- 'gatehouselaw12.PageRead': WHATEVER THE INPUT: true; the input reads as it did. -/
def pageReadSpec : ChangeSpec := { name := "pageRead", fn := fun _ => fun
  | [d1, d2] => { results := [.lit (.bool true)], args := [d1, d2] }
  | _ => none }
def pageReadRow : OpenClaim := { program := "ytjmlfknogjaemaa", sum := "c67101bb5984c7cdcbcf8ecfda0ee12fb11b7df0840109648d7484daaadf5f12", func := "gatehouse/gatehouselaw12.PageRead", spec := "pageRead", unfollowed := true, recurses := true, plainKeys := false, apart := false }
def PageReadSaid : Prop := pageReadRow.holds Try.pinned (OpenSpec.ofChange pageReadSpec)

/-- ITS FALSE NEIGHBOUR: 'it returns false'. Refute it at one input. -/
def pageReadWrong : ChangeSpec := { name := "pageRead", fn := fun _ => fun
  | [d1, d2] => { results := [.lit (.bool false)], args := [d1, d2] }
  | _ => none }
def PageReadWrongFalsely : Prop := pageReadRow.holds Try.pinned (OpenSpec.ofChange pageReadWrong)

/-- 'gatehouselaw12.PageBack': WHATEVER THE INPUT: true; the input reads as it did. -/
def pageBackSpec : ChangeSpec := { name := "pageBack", fn := fun _ => fun
  | [d1, d2, d3] => { results := [.lit (.bool true)], args := [d1, d2, d3] }
  | _ => none }
def pageBackRow : OpenClaim := { program := "ytjmlfknogjaemaa", sum := "c67101bb5984c7cdcbcf8ecfda0ee12fb11b7df0840109648d7484daaadf5f12", func := "gatehouse/gatehouselaw12.PageBack", spec := "pageBack", unfollowed := true, recurses := true, plainKeys := false, apart := false }
def PageBackSaid : Prop := pageBackRow.holds Try.pinned (OpenSpec.ofChange pageBackSpec)

/-- ITS FALSE NEIGHBOUR: 'it returns false'. Refute it at one input. -/
def pageBackWrong : ChangeSpec := { name := "pageBack", fn := fun _ => fun
  | [d1, d2, d3] => { results := [.lit (.bool false)], args := [d1, d2, d3] }
  | _ => none }
def PageBackWrongFalsely : Prop := pageBackRow.holds Try.pinned (OpenSpec.ofChange pageBackWrong)

/-- 'gatehouselaw12.PageTable': WHATEVER THE INPUT: true; the input reads as it did. -/
def pageTableSpec : ChangeSpec := { name := "pageTable", fn := fun _ => fun
  | [d1, d2, d3] => { results := [.lit (.bool true)], args := [d1, d2, d3] }
  | _ => none }
def pageTableRow : OpenClaim := { program := "ytjmlfknogjaemaa", sum := "c67101bb5984c7cdcbcf8ecfda0ee12fb11b7df0840109648d7484daaadf5f12", func := "gatehouse/gatehouselaw12.PageTable", spec := "pageTable", unfollowed := true, recurses := true, plainKeys := false, apart := false }
def PageTableSaid : Prop := pageTableRow.holds Try.pinned (OpenSpec.ofChange pageTableSpec)

/-- ITS FALSE NEIGHBOUR: 'it returns false'. Refute it at one input. -/
def pageTableWrong : ChangeSpec := { name := "pageTable", fn := fun _ => fun
  | [d1, d2, d3] => { results := [.lit (.bool false)], args := [d1, d2, d3] }
  | _ => none }
def PageTableWrongFalsely : Prop := pageTableRow.holds Try.pinned (OpenSpec.ofChange pageTableWrong)

/-- 'gatehouselaw12.PageSays': WHATEVER THE INPUT: true; the input reads as it did. -/
def pageSaysSpec : ChangeSpec := { name := "pageSays", fn := fun _ => fun
  | [d1, d2, d3, d4, d5] => { results := [.lit (.bool true)], args := [d1, d2, d3, d4, d5] }
  | _ => none }
def pageSaysRow : OpenClaim := { program := "ytjmlfknogjaemaa", sum := "c67101bb5984c7cdcbcf8ecfda0ee12fb11b7df0840109648d7484daaadf5f12", func := "gatehouse/gatehouselaw12.PageSays", spec := "pageSays", unfollowed := true, recurses := true, plainKeys := false, apart := false }
def PageSaysSaid : Prop := pageSaysRow.holds Try.pinned (OpenSpec.ofChange pageSaysSpec)

/-- ITS FALSE NEIGHBOUR: 'it returns false'. Refute it at one input. -/
def pageSaysWrong : ChangeSpec := { name := "pageSays", fn := fun _ => fun
  | [d1, d2, d3, d4, d5] => { results := [.lit (.bool false)], args := [d1, d2, d3, d4, d5] }
  | _ => none }
def PageSaysWrongFalsely : Prop := pageSaysRow.holds Try.pinned (OpenSpec.ofChange pageSaysWrong)

/- THE SECOND FORM. 'bulk': how many values and letters a reading holds, each counted each time it is reached (what is shared counts as often as it is met; a slice's spare places count too). A statement '..UptoSaid' is the law's where the arguments, and the package variables that the reading takes, are together of bulk at most 1048576: NARROWER than '..Said'. Prove '..Said' where nothing that the law and all that it calls make is longer than what came in: it says more and counts as full. Else prove '..UptoSaid'. A law counts once. -/
mutual
def uptoBulk {H : Type} : DataW H → Nat
  | .lit (.string bytes) => bytes.length + 1
  | .lit _ => 1
  | .nil => 1
  | .ptr d => uptoBulk d + 1
  | .slice elems spare => uptoBulkAll elems + uptoBulkAll spare + 1
  | .agg parts => uptoBulkAll parts + 1
  | .iface _ d => uptoBulk d + 1
  | .map entries => uptoBulkEntries entries + 1
  | .held _ => 1
def uptoBulkAll {H : Type} : List (DataW H) → Nat
  | [] => 0
  | d :: r => uptoBulk d + uptoBulkAll r
def uptoBulkEntries {H : Type} : List (Lit × DataW H) → Nat
  | [] => 0
  | x :: r => uptoBulkEntry x + uptoBulkEntries r
def uptoBulkEntry {H : Type} : Lit × DataW H → Nat
  | (.string bytes, d) => bytes.length + uptoBulk d + 1
  | (_, d) => uptoBulk d + 1
 end
def uptoSmall : (H : Type) → List (DataW H) → Bool := fun _ ds => decide (uptoBulkAll ds ≤ 1048576)
def OpenSpec.upto (s : _root_.Go.ChangeSpec) : _root_.Go.OpenSpec := { _root_.Go.OpenSpec.ofChange s with cond := some uptoSmall }

/-- 'gatehouselaw12.PageHash', WHERE WHAT IT READS IS OF BULK AT MOST 1048576: true; the input reads as it did. -/
def pageHashUptoRow : OpenClaim := { program := "ytjmlfknogjaemaa", sum := "c67101bb5984c7cdcbcf8ecfda0ee12fb11b7df0840109648d7484daaadf5f12", func := "gatehouse/gatehouselaw12.PageHash", spec := "pageHash", unfollowed := true, recurses := true, plainKeys := false, apart := false, narrowed := true }
def PageHashUptoSaid : Prop := pageHashUptoRow.holds Try.pinned (OpenSpec.upto pageHashSpec)

/-- 'gatehouselaw12.PageLay', WHERE WHAT IT READS IS OF BULK AT MOST 1048576: true; the input reads as it did. -/
def pageLayUptoRow : OpenClaim := { program := "ytjmlfknogjaemaa", sum := "c67101bb5984c7cdcbcf8ecfda0ee12fb11b7df0840109648d7484daaadf5f12", func := "gatehouse/gatehouselaw12.PageLay", spec := "pageLay", unfollowed := true, recurses := true, plainKeys := false, apart := false, narrowed := true }
def PageLayUptoSaid : Prop := pageLayUptoRow.holds Try.pinned (OpenSpec.upto pageLaySpec)

/-- 'gatehouselaw12.PageAsked', WHERE WHAT IT READS IS OF BULK AT MOST 1048576: true; the input reads as it did. -/
def pageAskedUptoRow : OpenClaim := { program := "ytjmlfknogjaemaa", sum := "c67101bb5984c7cdcbcf8ecfda0ee12fb11b7df0840109648d7484daaadf5f12", func := "gatehouse/gatehouselaw12.PageAsked", spec := "pageAsked", unfollowed := true, recurses := true, plainKeys := false, apart := false, narrowed := true }
def PageAskedUptoSaid : Prop := pageAskedUptoRow.holds Try.pinned (OpenSpec.upto pageAskedSpec)

/-- 'gatehouselaw12.PageRead', WHERE WHAT IT READS IS OF BULK AT MOST 1048576: true; the input reads as it did. -/
def pageReadUptoRow : OpenClaim := { program := "ytjmlfknogjaemaa", sum := "c67101bb5984c7cdcbcf8ecfda0ee12fb11b7df0840109648d7484daaadf5f12", func := "gatehouse/gatehouselaw12.PageRead", spec := "pageRead", unfollowed := true, recurses := true, plainKeys := false, apart := false, narrowed := true }
def PageReadUptoSaid : Prop := pageReadUptoRow.holds Try.pinned (OpenSpec.upto pageReadSpec)

/-- 'gatehouselaw12.PageBack', WHERE WHAT IT READS IS OF BULK AT MOST 1048576: true; the input reads as it did. -/
def pageBackUptoRow : OpenClaim := { program := "ytjmlfknogjaemaa", sum := "c67101bb5984c7cdcbcf8ecfda0ee12fb11b7df0840109648d7484daaadf5f12", func := "gatehouse/gatehouselaw12.PageBack", spec := "pageBack", unfollowed := true, recurses := true, plainKeys := false, apart := false, narrowed := true }
def PageBackUptoSaid : Prop := pageBackUptoRow.holds Try.pinned (OpenSpec.upto pageBackSpec)

/-- 'gatehouselaw12.PageTable', WHERE WHAT IT READS IS OF BULK AT MOST 1048576: true; the input reads as it did. -/
def pageTableUptoRow : OpenClaim := { program := "ytjmlfknogjaemaa", sum := "c67101bb5984c7cdcbcf8ecfda0ee12fb11b7df0840109648d7484daaadf5f12", func := "gatehouse/gatehouselaw12.PageTable", spec := "pageTable", unfollowed := true, recurses := true, plainKeys := false, apart := false, narrowed := true }
def PageTableUptoSaid : Prop := pageTableUptoRow.holds Try.pinned (OpenSpec.upto pageTableSpec)

/-- 'gatehouselaw12.PageSays', WHERE WHAT IT READS IS OF BULK AT MOST 1048576: true; the input reads as it did. -/
def pageSaysUptoRow : OpenClaim := { program := "ytjmlfknogjaemaa", sum := "c67101bb5984c7cdcbcf8ecfda0ee12fb11b7df0840109648d7484daaadf5f12", func := "gatehouse/gatehouselaw12.PageSays", spec := "pageSays", unfollowed := true, recurses := true, plainKeys := false, apart := false, narrowed := true }
def PageSaysUptoSaid : Prop := pageSaysUptoRow.holds Try.pinned (OpenSpec.upto pageSaysSpec)

end Rows
end Go.Proofs.Ytjmlfknogjaemaa
