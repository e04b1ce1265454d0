/-
  No cell of these rows narrows 'for every input' (looked for: loops, veiled, ifaces, maps, wideKeys, modest, calm, conditions, laid).
  DERIVED. THE GIVEN ROWS OF THIS SEAT. 8 by the template 'for every input the law returns true; each argument reads behind the call as it read before'; 0 by the template 'total and deterministic' (their statements: YtebahglmdifmpaaTotals.lean).
  GIVEN WITH THE SEED: the statements are not yours to turn. If you find one false, say at which input.
  Laid BY PROGRAM, IN A SANDBOX (cutbox-rows.mjs): the forced cells as the released guide's own fill.sh prints them over the translation 0ee70a182dfe6a14… (all of the seat's roots in one cut). By AI agents, Wed Nov 11 2026. No macro, syntax, notation, axiom, sorry.
-/
import Derived.Test.YtebahglmdifmpaaChecked
import GoSem.Claim
import GoSem.ClaimJoined
import GoSem.ClaimMapViews
import Derived.JoinedTies
import Derived.KernelRfl
namespace Go.Proofs.Ytebahglmdifmpaa
/- THE CELL 'sum', in the pinned program and in every row, IS THE sha256 OF THE DUMP (.gsa) THAT YtebahglmdifmpaaProg.lean LOADS. Nothing in Lean hashes anything: it is a label: what it is worth is what the hold of that sum in a sandbox is worth. -/
noncomputable def Try.pinned : Pinned := { name := "ytebahglmdifmpaa", sum := "0ee70a182dfe6a142de9941f3cbb9162029a963766d2b32a9d40eb1da35c2104", checked := Try.checked }
namespace Rows
def none {H : Type} : Left H := { results := [], args := [] }

/-- 'gatehouselaw15.ArenaHeapTexts': WHATEVER THE INPUT: true; the input reads as it did. -/
def arenaHeapTextsSpec : ChangeSpec := { name := "arenaHeapTexts", fn := fun _ => fun
  | [d1, d2] => { results := [.lit (.bool true)], args := [d1, d2] }
  | _ => none }
def arenaHeapTextsRow : OpenClaim := { program := "ytebahglmdifmpaa", sum := "0ee70a182dfe6a142de9941f3cbb9162029a963766d2b32a9d40eb1da35c2104", func := "gatehouse/gatehouselaw15.ArenaHeapTexts", spec := "arenaHeapTexts", unfollowed := true, recurses := true, apart := false }
def ArenaHeapTextsSaid : Prop := arenaHeapTextsRow.holds Try.pinned (OpenSpec.ofChange arenaHeapTextsSpec)

/-- ITS FALSE NEIGHBOUR: 'it returns false'. Refute it at one input. -/
def arenaHeapTextsWrong : ChangeSpec := { name := "arenaHeapTexts", fn := fun _ => fun
  | [d1, d2] => { results := [.lit (.bool false)], args := [d1, d2] }
  | _ => none }
def ArenaHeapTextsWrongFalsely : Prop := arenaHeapTextsRow.holds Try.pinned (OpenSpec.ofChange arenaHeapTextsWrong)

/-- 'gatehouselaw15.ArenaHeaps': WHATEVER THE INPUT: true; the input reads as it did. -/
def arenaHeapsSpec : ChangeSpec := { name := "arenaHeaps", fn := fun _ => fun
  | [d1, d2] => { results := [.lit (.bool true)], args := [d1, d2] }
  | _ => none }
def arenaHeapsRow : OpenClaim := { program := "ytebahglmdifmpaa", sum := "0ee70a182dfe6a142de9941f3cbb9162029a963766d2b32a9d40eb1da35c2104", func := "gatehouse/gatehouselaw15.ArenaHeaps", spec := "arenaHeaps", unfollowed := true, recurses := true, apart := false }
def ArenaHeapsSaid : Prop := arenaHeapsRow.holds Try.pinned (OpenSpec.ofChange arenaHeapsSpec)

/-- ITS FALSE NEIGHBOUR: 'it returns false'. Refute it at one input. -/
def arenaHeapsWrong : ChangeSpec := { name := "arenaHeaps", fn := fun _ => fun
  | [d1, d2] => { results := [.lit (.bool false)], args := [d1, d2] }
  | _ => none }
def ArenaHeapsWrongFalsely : Prop := arenaHeapsRow.holds Try.pinned (OpenSpec.ofChange arenaHeapsWrong)

/-- 'gatehouselaw15.ArenaHeapSorts': WHATEVER THE INPUT: true; the input reads as it did. -/
def arenaHeapSortsSpec : ChangeSpec := { name := "arenaHeapSorts", fn := fun _ => fun
  | [d1, d2] => { results := [.lit (.bool true)], args := [d1, d2] }
  | _ => none }
def arenaHeapSortsRow : OpenClaim := { program := "ytebahglmdifmpaa", sum := "0ee70a182dfe6a142de9941f3cbb9162029a963766d2b32a9d40eb1da35c2104", func := "gatehouse/gatehouselaw15.ArenaHeapSorts", spec := "arenaHeapSorts", unfollowed := true, recurses := true, apart := false }
def ArenaHeapSortsSaid : Prop := arenaHeapSortsRow.holds Try.pinned (OpenSpec.ofChange arenaHeapSortsSpec)

/-- ITS FALSE NEIGHBOUR: 'it returns false'. Refute it at one input. -/
def arenaHeapSortsWrong : ChangeSpec := { name := "arenaHeapSorts", fn := fun _ => fun
  | [d1, d2] => { results := [.lit (.bool false)], args := [d1, d2] }
  | _ => none }
def ArenaHeapSortsWrongFalsely : Prop := arenaHeapSortsRow.holds Try.pinned (OpenSpec.ofChange arenaHeapSortsWrong)

/-- 'gatehouselaw15.ArenaHeapAny': WHATEVER THE INPUT: true; the input reads as it did. -/
def arenaHeapAnySpec : ChangeSpec := { name := "arenaHeapAny", fn := fun _ => fun
  | [d1, d2] => { results := [.lit (.bool true)], args := [d1, d2] }
  | _ => none }
def arenaHeapAnyRow : OpenClaim := { program := "ytebahglmdifmpaa", sum := "0ee70a182dfe6a142de9941f3cbb9162029a963766d2b32a9d40eb1da35c2104", func := "gatehouse/gatehouselaw15.ArenaHeapAny", spec := "arenaHeapAny", unfollowed := true, recurses := true, apart := false }
def ArenaHeapAnySaid : Prop := arenaHeapAnyRow.holds Try.pinned (OpenSpec.ofChange arenaHeapAnySpec)

/-- ITS FALSE NEIGHBOUR: 'it returns false'. Refute it at one input. -/
def arenaHeapAnyWrong : ChangeSpec := { name := "arenaHeapAny", fn := fun _ => fun
  | [d1, d2] => { results := [.lit (.bool false)], args := [d1, d2] }
  | _ => none }
def ArenaHeapAnyWrongFalsely : Prop := arenaHeapAnyRow.holds Try.pinned (OpenSpec.ofChange arenaHeapAnyWrong)

/-- 'gatehouselaw15.ArenaLists': WHATEVER THE INPUT: true; the input reads as it did. -/
def arenaListsSpec : ChangeSpec := { name := "arenaLists", fn := fun _ => fun
  | [d1, d2] => { results := [.lit (.bool true)], args := [d1, d2] }
  | _ => none }
def arenaListsRow : OpenClaim := { program := "ytebahglmdifmpaa", sum := "0ee70a182dfe6a142de9941f3cbb9162029a963766d2b32a9d40eb1da35c2104", func := "gatehouse/gatehouselaw15.ArenaLists", spec := "arenaLists", unfollowed := true, recurses := true, apart := false }
def ArenaListsSaid : Prop := arenaListsRow.holds Try.pinned (OpenSpec.ofChange arenaListsSpec)

/-- ITS FALSE NEIGHBOUR: 'it returns false'. Refute it at one input. -/
def arenaListsWrong : ChangeSpec := { name := "arenaLists", fn := fun _ => fun
  | [d1, d2] => { results := [.lit (.bool false)], args := [d1, d2] }
  | _ => none }
def ArenaListsWrongFalsely : Prop := arenaListsRow.holds Try.pinned (OpenSpec.ofChange arenaListsWrong)

/-- 'gatehouselaw15.ArenaPieces': WHATEVER THE INPUT: true; the input reads as it did. -/
def arenaPiecesSpec : ChangeSpec := { name := "arenaPieces", fn := fun _ => fun
  | [d1, d2, d3] => { results := [.lit (.bool true)], args := [d1, d2, d3] }
  | _ => none }
def arenaPiecesRow : OpenClaim := { program := "ytebahglmdifmpaa", sum := "0ee70a182dfe6a142de9941f3cbb9162029a963766d2b32a9d40eb1da35c2104", func := "gatehouse/gatehouselaw15.ArenaPieces", spec := "arenaPieces", unfollowed := true, recurses := true, apart := false }
def ArenaPiecesSaid : Prop := arenaPiecesRow.holds Try.pinned (OpenSpec.ofChange arenaPiecesSpec)

/-- ITS FALSE NEIGHBOUR: 'it returns false'. Refute it at one input. -/
def arenaPiecesWrong : ChangeSpec := { name := "arenaPieces", fn := fun _ => fun
  | [d1, d2, d3] => { results := [.lit (.bool false)], args := [d1, d2, d3] }
  | _ => none }
def ArenaPiecesWrongFalsely : Prop := arenaPiecesRow.holds Try.pinned (OpenSpec.ofChange arenaPiecesWrong)

/-- 'gatehouselaw15.ArenaBack': WHATEVER THE INPUT: true; the input reads as it did. -/
def arenaBackSpec : ChangeSpec := { name := "arenaBack", fn := fun _ => fun
  | [d1, d2, d3] => { results := [.lit (.bool true)], args := [d1, d2, d3] }
  | _ => none }
def arenaBackRow : OpenClaim := { program := "ytebahglmdifmpaa", sum := "0ee70a182dfe6a142de9941f3cbb9162029a963766d2b32a9d40eb1da35c2104", func := "gatehouse/gatehouselaw15.ArenaBack", spec := "arenaBack", unfollowed := true, recurses := true, apart := false }
def ArenaBackSaid : Prop := arenaBackRow.holds Try.pinned (OpenSpec.ofChange arenaBackSpec)

/-- ITS FALSE NEIGHBOUR: 'it returns false'. Refute it at one input. -/
def arenaBackWrong : ChangeSpec := { name := "arenaBack", fn := fun _ => fun
  | [d1, d2, d3] => { results := [.lit (.bool false)], args := [d1, d2, d3] }
  | _ => none }
def ArenaBackWrongFalsely : Prop := arenaBackRow.holds Try.pinned (OpenSpec.ofChange arenaBackWrong)

/-- 'gatehouselaw15.ArenaExact': WHATEVER THE INPUT: true; the input reads as it did. -/
def arenaExactSpec : ChangeSpec := { name := "arenaExact", fn := fun _ => fun
  | [d1, d2] => { results := [.lit (.bool true)], args := [d1, d2] }
  | _ => none }
def arenaExactRow : OpenClaim := { program := "ytebahglmdifmpaa", sum := "0ee70a182dfe6a142de9941f3cbb9162029a963766d2b32a9d40eb1da35c2104", func := "gatehouse/gatehouselaw15.ArenaExact", spec := "arenaExact", unfollowed := true, recurses := true, apart := false }
def ArenaExactSaid : Prop := arenaExactRow.holds Try.pinned (OpenSpec.ofChange arenaExactSpec)

/-- ITS FALSE NEIGHBOUR: 'it returns false'. Refute it at one input. -/
def arenaExactWrong : ChangeSpec := { name := "arenaExact", fn := fun _ => fun
  | [d1, d2] => { results := [.lit (.bool false)], args := [d1, d2] }
  | _ => none }
def ArenaExactWrongFalsely : Prop := arenaExactRow.holds Try.pinned (OpenSpec.ofChange arenaExactWrong)

/- THE SECOND FORM. 'bulk': how many values and letters a reading holds, each counted each time it is reached (what is shared counts as often as it is met; a slice's spare places count too). A statement '..UptoSaid' is the law's where the arguments, and the package variables that the reading takes, are together of bulk at most 1048576: NARROWER than '..Said'. Prove '..Said' where nothing that the law and all that it calls make is longer than what came in: it says more and counts as full. Else prove '..UptoSaid'. A law counts once. -/
mutual
def uptoBulk {H : Type} : DataW H → Nat
  | .lit (.string bytes) => bytes.length + 1
  | .lit _ => 1
  | .nil => 1
  | .ptr d => uptoBulk d + 1
  | .slice elems spare => uptoBulkAll elems + uptoBulkAll spare + 1
  | .agg parts => uptoBulkAll parts + 1
  | .iface _ d => uptoBulk d + 1
  | .map entries => uptoBulkEntries entries + 1
  | .held _ => 1
def uptoBulkAll {H : Type} : List (DataW H) → Nat
  | [] => 0
  | d :: r => uptoBulk d + uptoBulkAll r
def uptoBulkEntries {H : Type} : List (Lit × DataW H) → Nat
  | [] => 0
  | x :: r => uptoBulkEntry x + uptoBulkEntries r
def uptoBulkEntry {H : Type} : Lit × DataW H → Nat
  | (.string bytes, d) => bytes.length + uptoBulk d + 1
  | (_, d) => uptoBulk d + 1
 end
def uptoSmall : (H : Type) → List (DataW H) → Bool := fun _ ds => decide (uptoBulkAll ds ≤ 1048576)
def OpenSpec.upto (s : _root_.Go.ChangeSpec) : _root_.Go.OpenSpec := { _root_.Go.OpenSpec.ofChange s with cond := some uptoSmall }

/-- 'gatehouselaw15.ArenaHeapTexts', WHERE WHAT IT READS IS OF BULK AT MOST 1048576: true; the input reads as it did. -/
def arenaHeapTextsUptoRow : OpenClaim := { program := "ytebahglmdifmpaa", sum := "0ee70a182dfe6a142de9941f3cbb9162029a963766d2b32a9d40eb1da35c2104", func := "gatehouse/gatehouselaw15.ArenaHeapTexts", spec := "arenaHeapTexts", unfollowed := true, recurses := true, apart := false, narrowed := true }
def ArenaHeapTextsUptoSaid : Prop := arenaHeapTextsUptoRow.holds Try.pinned (OpenSpec.upto arenaHeapTextsSpec)

/-- 'gatehouselaw15.ArenaHeaps', WHERE WHAT IT READS IS OF BULK AT MOST 1048576: true; the input reads as it did. -/
def arenaHeapsUptoRow : OpenClaim := { program := "ytebahglmdifmpaa", sum := "0ee70a182dfe6a142de9941f3cbb9162029a963766d2b32a9d40eb1da35c2104", func := "gatehouse/gatehouselaw15.ArenaHeaps", spec := "arenaHeaps", unfollowed := true, recurses := true, apart := false, narrowed := true }
def ArenaHeapsUptoSaid : Prop := arenaHeapsUptoRow.holds Try.pinned (OpenSpec.upto arenaHeapsSpec)

/-- 'gatehouselaw15.ArenaHeapSorts', WHERE WHAT IT READS IS OF BULK AT MOST 1048576: true; the input reads as it did. -/
def arenaHeapSortsUptoRow : OpenClaim := { program := "ytebahglmdifmpaa", sum := "0ee70a182dfe6a142de9941f3cbb9162029a963766d2b32a9d40eb1da35c2104", func := "gatehouse/gatehouselaw15.ArenaHeapSorts", spec := "arenaHeapSorts", unfollowed := true, recurses := true, apart := false, narrowed := true }
def ArenaHeapSortsUptoSaid : Prop := arenaHeapSortsUptoRow.holds Try.pinned (OpenSpec.upto arenaHeapSortsSpec)

/-- 'gatehouselaw15.ArenaHeapAny', WHERE WHAT IT READS IS OF BULK AT MOST 1048576: true; the input reads as it did. -/
def arenaHeapAnyUptoRow : OpenClaim := { program := "ytebahglmdifmpaa", sum := "0ee70a182dfe6a142de9941f3cbb9162029a963766d2b32a9d40eb1da35c2104", func := "gatehouse/gatehouselaw15.ArenaHeapAny", spec := "arenaHeapAny", unfollowed := true, recurses := true, apart := false, narrowed := true }
def ArenaHeapAnyUptoSaid : Prop := arenaHeapAnyUptoRow.holds Try.pinned (OpenSpec.upto arenaHeapAnySpec)

/-- 'gatehouselaw15.ArenaLists', WHERE WHAT IT READS IS OF BULK AT MOST 1048576: true; the input reads as it did. -/
def arenaListsUptoRow : OpenClaim := { program := "ytebahglmdifmpaa", sum := "0ee70a182dfe6a142de9941f3cbb9162029a963766d2b32a9d40eb1da35c2104", func := "gatehouse/gatehouselaw15.ArenaLists", spec := "arenaLists", unfollowed := true, recurses := true, apart := false, narrowed := true }
def ArenaListsUptoSaid : Prop := arenaListsUptoRow.holds Try.pinned (OpenSpec.upto arenaListsSpec)

/-- 'gatehouselaw15.ArenaPieces', WHERE WHAT IT READS IS OF BULK AT MOST 1048576: true; the input reads as it did. -/
def arenaPiecesUptoRow : OpenClaim := { program := "ytebahglmdifmpaa", sum := "0ee70a182dfe6a142de9941f3cbb9162029a963766d2b32a9d40eb1da35c2104", func := "gatehouse/gatehouselaw15.ArenaPieces", spec := "arenaPieces", unfollowed := true, recurses := true, apart := false, narrowed := true }
def ArenaPiecesUptoSaid : Prop := arenaPiecesUptoRow.holds Try.pinned (OpenSpec.upto arenaPiecesSpec)

/-- 'gatehouselaw15.ArenaBack', WHERE WHAT IT READS IS OF BULK AT MOST 1048576: true; the input reads as it did. -/
def arenaBackUptoRow : OpenClaim := { program := "ytebahglmdifmpaa", sum := "0ee70a182dfe6a142de9941f3cbb9162029a963766d2b32a9d40eb1da35c2104", func := "gatehouse/gatehouselaw15.ArenaBack", spec := "arenaBack", unfollowed := true, recurses := true, apart := false, narrowed := true }
def ArenaBackUptoSaid : Prop := arenaBackUptoRow.holds Try.pinned (OpenSpec.upto arenaBackSpec)

/-- 'gatehouselaw15.ArenaExact', WHERE WHAT IT READS IS OF BULK AT MOST 1048576: true; the input reads as it did. -/
def arenaExactUptoRow : OpenClaim := { program := "ytebahglmdifmpaa", sum := "0ee70a182dfe6a142de9941f3cbb9162029a963766d2b32a9d40eb1da35c2104", func := "gatehouse/gatehouselaw15.ArenaExact", spec := "arenaExact", unfollowed := true, recurses := true, apart := false, narrowed := true }
def ArenaExactUptoSaid : Prop := arenaExactUptoRow.holds Try.pinned (OpenSpec.upto arenaExactSpec)

end Rows
end Go.Proofs.Ytebahglmdifmpaa
