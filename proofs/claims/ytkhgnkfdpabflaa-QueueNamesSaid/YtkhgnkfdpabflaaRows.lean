/-
  No cell of these rows narrows 'for every input' (looked for: loops, veiled, ifaces, maps, wideKeys, modest, calm, conditions, laid).
  DERIVED. THE GIVEN ROWS OF THIS SEAT. 6 by the template 'for every input the law returns true; each argument reads behind the call as it read before'; 0 by the template 'total and deterministic' (their statements: YtkhgnkfdpabflaaTotals.lean).
  GIVEN WITH THE SEED: the statements are not yours to turn. If you find one false, say at which input.
  Laid BY PROGRAM, IN A SANDBOX (cutbox-rows.mjs): the forced cells as the released guide's own fill.sh prints them over the translation 6ea2fdb52aaacc00… (all of the seat's roots in one cut). By AI agents, Wed Nov 11 2026. No macro, syntax, notation, axiom, sorry.
-/
import Derived.Test.YtkhgnkfdpabflaaChecked
import GoSem.Claim
import GoSem.ClaimJoined
import GoSem.ClaimMapViews
import Derived.JoinedTies
import Derived.KernelRfl
namespace Go.Proofs.Ytkhgnkfdpabflaa
/- THE CELL 'sum', in the pinned program and in every row, IS THE sha256 OF THE DUMP (.gsa) THAT YtkhgnkfdpabflaaProg.lean LOADS. Nothing in Lean hashes anything: it is a label: what it is worth is what the hold of that sum in a sandbox is worth. -/
noncomputable def Try.pinned : Pinned := { name := "ytkhgnkfdpabflaa", sum := "6ea2fdb52aaacc0064c22f56c6fe8f3094cc03e8458d6069f77180503a727c78", checked := Try.checked }
namespace Rows
def none {H : Type} : Left H := { results := [], args := [] }

/-- 'spiritlevellaw38.QueueChains': WHATEVER THE INPUT: true; the input reads as it did. -/
def queueChainsSpec : ChangeSpec := { name := "queueChains", fn := fun _ => fun
  | [d1, d2, d3, d4, d5] => { results := [.lit (.bool true)], args := [d1, d2, d3, d4, d5] }
  | _ => none }
def queueChainsRow : OpenClaim := { program := "ytkhgnkfdpabflaa", sum := "6ea2fdb52aaacc0064c22f56c6fe8f3094cc03e8458d6069f77180503a727c78", func := "spiritlevel/spiritlevellaw38.QueueChains", spec := "queueChains", unfollowed := true, recurses := true, apart := false }
def QueueChainsSaid : Prop := queueChainsRow.holds Try.pinned (OpenSpec.ofChange queueChainsSpec)

/-- ITS FALSE NEIGHBOUR: 'it returns false'. Refute it at one input. -/
def queueChainsWrong : ChangeSpec := { name := "queueChains", fn := fun _ => fun
  | [d1, d2, d3, d4, d5] => { results := [.lit (.bool false)], args := [d1, d2, d3, d4, d5] }
  | _ => none }
def QueueChainsWrongFalsely : Prop := queueChainsRow.holds Try.pinned (OpenSpec.ofChange queueChainsWrong)

/-- 'spiritlevellaw38.QueueTells': WHATEVER THE INPUT: true; the input reads as it did. -/
def queueTellsSpec : ChangeSpec := { name := "queueTells", fn := fun _ => fun
  | [d1, d2] => { results := [.lit (.bool true)], args := [d1, d2] }
  | _ => none }
def queueTellsRow : OpenClaim := { program := "ytkhgnkfdpabflaa", sum := "6ea2fdb52aaacc0064c22f56c6fe8f3094cc03e8458d6069f77180503a727c78", func := "spiritlevel/spiritlevellaw38.QueueTells", spec := "queueTells", inPlace := ["slices.overlaps[spiritlevel/api.Wait]"], unfollowed := true, recurses := true, apart := false }
def QueueTellsSaid : Prop := queueTellsRow.holds Try.pinned (OpenSpec.ofChange queueTellsSpec)

/-- ITS FALSE NEIGHBOUR: 'it returns false'. Refute it at one input. -/
def queueTellsWrong : ChangeSpec := { name := "queueTells", fn := fun _ => fun
  | [d1, d2] => { results := [.lit (.bool false)], args := [d1, d2] }
  | _ => none }
def QueueTellsWrongFalsely : Prop := queueTellsRow.holds Try.pinned (OpenSpec.ofChange queueTellsWrong)

/-- 'spiritlevellaw38.QueueFirst': WHATEVER THE INPUT: true; the input reads as it did. -/
def queueFirstSpec : ChangeSpec := { name := "queueFirst", fn := fun _ => fun
  | [d1, d2] => { results := [.lit (.bool true)], args := [d1, d2] }
  | _ => none }
def queueFirstRow : OpenClaim := { program := "ytkhgnkfdpabflaa", sum := "6ea2fdb52aaacc0064c22f56c6fe8f3094cc03e8458d6069f77180503a727c78", func := "spiritlevel/spiritlevellaw38.QueueFirst", spec := "queueFirst", inPlace := ["slices.overlaps[spiritlevel/api.Wait]"], unfollowed := true, recurses := true, apart := false }
def QueueFirstSaid : Prop := queueFirstRow.holds Try.pinned (OpenSpec.ofChange queueFirstSpec)

/-- ITS FALSE NEIGHBOUR: 'it returns false'. Refute it at one input. -/
def queueFirstWrong : ChangeSpec := { name := "queueFirst", fn := fun _ => fun
  | [d1, d2] => { results := [.lit (.bool false)], args := [d1, d2] }
  | _ => none }
def QueueFirstWrongFalsely : Prop := queueFirstRow.holds Try.pinned (OpenSpec.ofChange queueFirstWrong)

/-- 'spiritlevellaw38.QueueBack': WHATEVER THE INPUT: true; the input reads as it did. -/
def queueBackSpec : ChangeSpec := { name := "queueBack", fn := fun _ => fun
  | [d1, d2] => { results := [.lit (.bool true)], args := [d1, d2] }
  | _ => none }
def queueBackRow : OpenClaim := { program := "ytkhgnkfdpabflaa", sum := "6ea2fdb52aaacc0064c22f56c6fe8f3094cc03e8458d6069f77180503a727c78", func := "spiritlevel/spiritlevellaw38.QueueBack", spec := "queueBack", inPlace := ["slices.overlaps[spiritlevel/api.Wait]"], unfollowed := true, recurses := true, apart := false }
def QueueBackSaid : Prop := queueBackRow.holds Try.pinned (OpenSpec.ofChange queueBackSpec)

/-- ITS FALSE NEIGHBOUR: 'it returns false'. Refute it at one input. -/
def queueBackWrong : ChangeSpec := { name := "queueBack", fn := fun _ => fun
  | [d1, d2] => { results := [.lit (.bool false)], args := [d1, d2] }
  | _ => none }
def QueueBackWrongFalsely : Prop := queueBackRow.holds Try.pinned (OpenSpec.ofChange queueBackWrong)

/-- 'spiritlevellaw38.QueueRest': WHATEVER THE INPUT: true; the input reads as it did. -/
def queueRestSpec : ChangeSpec := { name := "queueRest", fn := fun _ => fun
  | [d1, d2, d3] => { results := [.lit (.bool true)], args := [d1, d2, d3] }
  | _ => none }
def queueRestRow : OpenClaim := { program := "ytkhgnkfdpabflaa", sum := "6ea2fdb52aaacc0064c22f56c6fe8f3094cc03e8458d6069f77180503a727c78", func := "spiritlevel/spiritlevellaw38.QueueRest", spec := "queueRest", inPlace := ["slices.overlaps[spiritlevel/api.Wait]"], unfollowed := true, recurses := true, apart := false }
def QueueRestSaid : Prop := queueRestRow.holds Try.pinned (OpenSpec.ofChange queueRestSpec)

/-- ITS FALSE NEIGHBOUR: 'it returns false'. Refute it at one input. -/
def queueRestWrong : ChangeSpec := { name := "queueRest", fn := fun _ => fun
  | [d1, d2, d3] => { results := [.lit (.bool false)], args := [d1, d2, d3] }
  | _ => none }
def QueueRestWrongFalsely : Prop := queueRestRow.holds Try.pinned (OpenSpec.ofChange queueRestWrong)

/-- 'spiritlevellaw38.QueueNames': WHATEVER THE INPUT: true; the input reads as it did. -/
def queueNamesSpec : ChangeSpec := { name := "queueNames", fn := fun _ => fun
  | [] => { results := [.lit (.bool true)], args := [] }
  | _ => none }
def queueNamesRow : OpenClaim := { program := "ytkhgnkfdpabflaa", sum := "6ea2fdb52aaacc0064c22f56c6fe8f3094cc03e8458d6069f77180503a727c78", func := "spiritlevel/spiritlevellaw38.QueueNames", spec := "queueNames", inPlace := ["slices.overlaps[spiritlevel/api.Wait]"], unfollowed := true, recurses := true, apart := false }
def QueueNamesSaid : Prop := queueNamesRow.holds Try.pinned (OpenSpec.ofChange queueNamesSpec)

/-- ITS FALSE NEIGHBOUR: 'it returns false'. Refute it at one input. -/
def queueNamesWrong : ChangeSpec := { name := "queueNames", fn := fun _ => fun
  | [] => { results := [.lit (.bool false)], args := [] }
  | _ => none }
def QueueNamesWrongFalsely : Prop := queueNamesRow.holds Try.pinned (OpenSpec.ofChange queueNamesWrong)

/- THE SECOND FORM. 'bulk': how many values and letters a reading holds, each counted each time it is reached (what is shared counts as often as it is met; a slice's spare places count too). A statement '..UptoSaid' is the law's where the arguments, and the package variables that the reading takes, are together of bulk at most 1048576: NARROWER than '..Said'. Prove '..Said' where nothing that the law and all that it calls make is longer than what came in: it says more and counts as full. Else prove '..UptoSaid'. A law counts once. -/
mutual
def uptoBulk {H : Type} : DataW H → Nat
  | .lit (.string bytes) => bytes.length + 1
  | .lit _ => 1
  | .nil => 1
  | .ptr d => uptoBulk d + 1
  | .slice elems spare => uptoBulkAll elems + uptoBulkAll spare + 1
  | .agg parts => uptoBulkAll parts + 1
  | .iface _ d => uptoBulk d + 1
  | .map entries => uptoBulkEntries entries + 1
  | .held _ => 1
def uptoBulkAll {H : Type} : List (DataW H) → Nat
  | [] => 0
  | d :: r => uptoBulk d + uptoBulkAll r
def uptoBulkEntries {H : Type} : List (Lit × DataW H) → Nat
  | [] => 0
  | x :: r => uptoBulkEntry x + uptoBulkEntries r
def uptoBulkEntry {H : Type} : Lit × DataW H → Nat
  | (.string bytes, d) => bytes.length + uptoBulk d + 1
  | (_, d) => uptoBulk d + 1
 end
def uptoSmall : (H : Type) → List (DataW H) → Bool := fun _ ds => decide (uptoBulkAll ds ≤ 1048576)
def OpenSpec.upto (s : _root_.Go.ChangeSpec) : _root_.Go.OpenSpec := { _root_.Go.OpenSpec.ofChange s with cond := some uptoSmall }

/-- 'spiritlevellaw38.QueueChains', WHERE WHAT IT READS IS OF BULK AT MOST 1048576: true; the input reads as it did. -/
def queueChainsUptoRow : OpenClaim := { program := "ytkhgnkfdpabflaa", sum := "6ea2fdb52aaacc0064c22f56c6fe8f3094cc03e8458d6069f77180503a727c78", func := "spiritlevel/spiritlevellaw38.QueueChains", spec := "queueChains", unfollowed := true, recurses := true, apart := false, narrowed := true }
def QueueChainsUptoSaid : Prop := queueChainsUptoRow.holds Try.pinned (OpenSpec.upto queueChainsSpec)

/-- 'spiritlevellaw38.QueueTells', WHERE WHAT IT READS IS OF BULK AT MOST 1048576: true; the input reads as it did. -/
def queueTellsUptoRow : OpenClaim := { program := "ytkhgnkfdpabflaa", sum := "6ea2fdb52aaacc0064c22f56c6fe8f3094cc03e8458d6069f77180503a727c78", func := "spiritlevel/spiritlevellaw38.QueueTells", spec := "queueTells", inPlace := ["slices.overlaps[spiritlevel/api.Wait]"], unfollowed := true, recurses := true, apart := false, narrowed := true }
def QueueTellsUptoSaid : Prop := queueTellsUptoRow.holds Try.pinned (OpenSpec.upto queueTellsSpec)

/-- 'spiritlevellaw38.QueueFirst', WHERE WHAT IT READS IS OF BULK AT MOST 1048576: true; the input reads as it did. -/
def queueFirstUptoRow : OpenClaim := { program := "ytkhgnkfdpabflaa", sum := "6ea2fdb52aaacc0064c22f56c6fe8f3094cc03e8458d6069f77180503a727c78", func := "spiritlevel/spiritlevellaw38.QueueFirst", spec := "queueFirst", inPlace := ["slices.overlaps[spiritlevel/api.Wait]"], unfollowed := true, recurses := true, apart := false, narrowed := true }
def QueueFirstUptoSaid : Prop := queueFirstUptoRow.holds Try.pinned (OpenSpec.upto queueFirstSpec)

/-- 'spiritlevellaw38.QueueBack', WHERE WHAT IT READS IS OF BULK AT MOST 1048576: true; the input reads as it did. -/
def queueBackUptoRow : OpenClaim := { program := "ytkhgnkfdpabflaa", sum := "6ea2fdb52aaacc0064c22f56c6fe8f3094cc03e8458d6069f77180503a727c78", func := "spiritlevel/spiritlevellaw38.QueueBack", spec := "queueBack", inPlace := ["slices.overlaps[spiritlevel/api.Wait]"], unfollowed := true, recurses := true, apart := false, narrowed := true }
def QueueBackUptoSaid : Prop := queueBackUptoRow.holds Try.pinned (OpenSpec.upto queueBackSpec)

/-- 'spiritlevellaw38.QueueRest', WHERE WHAT IT READS IS OF BULK AT MOST 1048576: true; the input reads as it did. -/
def queueRestUptoRow : OpenClaim := { program := "ytkhgnkfdpabflaa", sum := "6ea2fdb52aaacc0064c22f56c6fe8f3094cc03e8458d6069f77180503a727c78", func := "spiritlevel/spiritlevellaw38.QueueRest", spec := "queueRest", inPlace := ["slices.overlaps[spiritlevel/api.Wait]"], unfollowed := true, recurses := true, apart := false, narrowed := true }
def QueueRestUptoSaid : Prop := queueRestUptoRow.holds Try.pinned (OpenSpec.upto queueRestSpec)

/-- 'spiritlevellaw38.QueueNames', WHERE WHAT IT READS IS OF BULK AT MOST 1048576: true; the input reads as it did. -/
def queueNamesUptoRow : OpenClaim := { program := "ytkhgnkfdpabflaa", sum := "6ea2fdb52aaacc0064c22f56c6fe8f3094cc03e8458d6069f77180503a727c78", func := "spiritlevel/spiritlevellaw38.QueueNames", spec := "queueNames", inPlace := ["slices.overlaps[spiritlevel/api.Wait]"], unfollowed := true, recurses := true, apart := false, narrowed := true }
def QueueNamesUptoSaid : Prop := queueNamesUptoRow.holds Try.pinned (OpenSpec.upto queueNamesSpec)

end Rows
end Go.Proofs.Ytkhgnkfdpabflaa
