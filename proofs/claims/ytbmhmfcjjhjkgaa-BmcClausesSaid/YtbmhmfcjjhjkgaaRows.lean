/-
  No cell of these rows narrows 'for every input' (looked for: loops, veiled, ifaces, maps, wideKeys, modest, calm, conditions, laid).
  DERIVED. THE GIVEN ROWS OF THIS SEAT. 8 by the template 'for every input the law returns true; each argument reads behind the call as it read before'; 0 by the template 'total and deterministic' (their statements: YtbmhmfcjjhjkgaaTotals.lean).
  GIVEN WITH THE SEED: the statements are not yours to turn. If you find one false, say at which input.
  Laid BY PROGRAM, IN A SANDBOX (cutbox-rows.mjs): the forced cells as the released guide's own fill.sh prints them over the translation 74773c85d680bbce… (all of the seat's roots in one cut). By AI agents, Wed Nov 11 2026. No macro, syntax, notation, axiom, sorry.
-/
import Derived.Test.YtbmhmfcjjhjkgaaChecked
import GoSem.Claim
import GoSem.ClaimJoined
import GoSem.ClaimMapViews
import Derived.JoinedTies
import Derived.KernelRfl
namespace Go.Proofs.Ytbmhmfcjjhjkgaa
/- THE CELL 'sum', in the pinned program and in every row, IS THE sha256 OF THE DUMP (.gsa) THAT YtbmhmfcjjhjkgaaProg.lean LOADS. Nothing in Lean hashes anything: it is a label: what it is worth is what the hold of that sum in a sandbox is worth. -/
noncomputable def Try.pinned : Pinned := { name := "ytbmhmfcjjhjkgaa", sum := "74773c85d680bbce48b784b6826b01b2eedf2c53b7596eab201300cfe65f27f6", checked := Try.checked }
namespace Rows
def none {H : Type} : Left H := { results := [], args := [] }

/-- 'spiritlevellaw37.FramesTells': WHATEVER THE INPUT: true; the input reads as it did. -/
def framesTellsSpec : ChangeSpec := { name := "framesTells", fn := fun _ => fun
  | [d1, d2, d3, d4, d5] => { results := [.lit (.bool true)], args := [d1, d2, d3, d4, d5] }
  | _ => none }
def framesTellsRow : OpenClaim := { program := "ytbmhmfcjjhjkgaa", sum := "74773c85d680bbce48b784b6826b01b2eedf2c53b7596eab201300cfe65f27f6", func := "spiritlevel/spiritlevellaw37.FramesTells", spec := "framesTells", unfollowed := true, recurses := true, apart := false }
def FramesTellsSaid : Prop := framesTellsRow.holds Try.pinned (OpenSpec.ofChange framesTellsSpec)

/-- ITS FALSE NEIGHBOUR: 'it returns false'. Refute it at one input. -/
def framesTellsWrong : ChangeSpec := { name := "framesTells", fn := fun _ => fun
  | [d1, d2, d3, d4, d5] => { results := [.lit (.bool false)], args := [d1, d2, d3, d4, d5] }
  | _ => none }
def FramesTellsWrongFalsely : Prop := framesTellsRow.holds Try.pinned (OpenSpec.ofChange framesTellsWrong)

/-- 'spiritlevellaw39.ShrinkStates': WHATEVER THE INPUT: true; the input reads as it did. -/
def shrinkStatesSpec : ChangeSpec := { name := "shrinkStates", fn := fun _ => fun
  | [d1, d2, d3, d4] => { results := [.lit (.bool true)], args := [d1, d2, d3, d4] }
  | _ => none }
def shrinkStatesRow : OpenClaim := { program := "ytbmhmfcjjhjkgaa", sum := "74773c85d680bbce48b784b6826b01b2eedf2c53b7596eab201300cfe65f27f6", func := "spiritlevel/spiritlevellaw39.ShrinkStates", spec := "shrinkStates", unfollowed := true, recurses := true, apart := false }
def ShrinkStatesSaid : Prop := shrinkStatesRow.holds Try.pinned (OpenSpec.ofChange shrinkStatesSpec)

/-- ITS FALSE NEIGHBOUR: 'it returns false'. Refute it at one input. -/
def shrinkStatesWrong : ChangeSpec := { name := "shrinkStates", fn := fun _ => fun
  | [d1, d2, d3, d4] => { results := [.lit (.bool false)], args := [d1, d2, d3, d4] }
  | _ => none }
def ShrinkStatesWrongFalsely : Prop := shrinkStatesRow.holds Try.pinned (OpenSpec.ofChange shrinkStatesWrong)

/-- 'spiritlevellaw23.UnrollTells': WHATEVER THE INPUT: true; the input reads as it did. -/
def unrollTellsSpec : ChangeSpec := { name := "unrollTells", fn := fun _ => fun
  | [d1, d2] => { results := [.lit (.bool true)], args := [d1, d2] }
  | _ => none }
def unrollTellsRow : OpenClaim := { program := "ytbmhmfcjjhjkgaa", sum := "74773c85d680bbce48b784b6826b01b2eedf2c53b7596eab201300cfe65f27f6", func := "spiritlevel/spiritlevellaw23.UnrollTells", spec := "unrollTells", unfollowed := true, recurses := true, apart := false }
def UnrollTellsSaid : Prop := unrollTellsRow.holds Try.pinned (OpenSpec.ofChange unrollTellsSpec)

/-- ITS FALSE NEIGHBOUR: 'it returns false'. Refute it at one input. -/
def unrollTellsWrong : ChangeSpec := { name := "unrollTells", fn := fun _ => fun
  | [d1, d2] => { results := [.lit (.bool false)], args := [d1, d2] }
  | _ => none }
def UnrollTellsWrongFalsely : Prop := unrollTellsRow.holds Try.pinned (OpenSpec.ofChange unrollTellsWrong)

/-- 'spiritlevellaw23.UnrollMore': WHATEVER THE INPUT: true; the input reads as it did. -/
def unrollMoreSpec : ChangeSpec := { name := "unrollMore", fn := fun _ => fun
  | [d1, d2, d3] => { results := [.lit (.bool true)], args := [d1, d2, d3] }
  | _ => none }
def unrollMoreRow : OpenClaim := { program := "ytbmhmfcjjhjkgaa", sum := "74773c85d680bbce48b784b6826b01b2eedf2c53b7596eab201300cfe65f27f6", func := "spiritlevel/spiritlevellaw23.UnrollMore", spec := "unrollMore", unfollowed := true, recurses := true, apart := false }
def UnrollMoreSaid : Prop := unrollMoreRow.holds Try.pinned (OpenSpec.ofChange unrollMoreSpec)

/-- ITS FALSE NEIGHBOUR: 'it returns false'. Refute it at one input. -/
def unrollMoreWrong : ChangeSpec := { name := "unrollMore", fn := fun _ => fun
  | [d1, d2, d3] => { results := [.lit (.bool false)], args := [d1, d2, d3] }
  | _ => none }
def UnrollMoreWrongFalsely : Prop := unrollMoreRow.holds Try.pinned (OpenSpec.ofChange unrollMoreWrong)

/-- 'spiritlevellaw36.BmcClauses': WHATEVER THE INPUT: true; the input reads as it did. -/
def bmcClausesSpec : ChangeSpec := { name := "bmcClauses", fn := fun _ => fun
  | [d1, d2] => { results := [.lit (.bool true)], args := [d1, d2] }
  | _ => none }
def bmcClausesRow : OpenClaim := { program := "ytbmhmfcjjhjkgaa", sum := "74773c85d680bbce48b784b6826b01b2eedf2c53b7596eab201300cfe65f27f6", func := "spiritlevel/spiritlevellaw36.BmcClauses", spec := "bmcClauses", unfollowed := true, recurses := true, apart := false }
def BmcClausesSaid : Prop := bmcClausesRow.holds Try.pinned (OpenSpec.ofChange bmcClausesSpec)

/-- ITS FALSE NEIGHBOUR: 'it returns false'. Refute it at one input. -/
def bmcClausesWrong : ChangeSpec := { name := "bmcClauses", fn := fun _ => fun
  | [d1, d2] => { results := [.lit (.bool false)], args := [d1, d2] }
  | _ => none }
def BmcClausesWrongFalsely : Prop := bmcClausesRow.holds Try.pinned (OpenSpec.ofChange bmcClausesWrong)

/-- 'spiritlevellaw23.UnrollNames': WHATEVER THE INPUT: true; the input reads as it did. -/
def unrollNamesSpec : ChangeSpec := { name := "unrollNames", fn := fun _ => fun
  | [] => { results := [.lit (.bool true)], args := [] }
  | _ => none }
def unrollNamesRow : OpenClaim := { program := "ytbmhmfcjjhjkgaa", sum := "74773c85d680bbce48b784b6826b01b2eedf2c53b7596eab201300cfe65f27f6", func := "spiritlevel/spiritlevellaw23.UnrollNames", spec := "unrollNames", unfollowed := true, recurses := true, apart := false }
def UnrollNamesSaid : Prop := unrollNamesRow.holds Try.pinned (OpenSpec.ofChange unrollNamesSpec)

/-- ITS FALSE NEIGHBOUR: 'it returns false'. Refute it at one input. -/
def unrollNamesWrong : ChangeSpec := { name := "unrollNames", fn := fun _ => fun
  | [] => { results := [.lit (.bool false)], args := [] }
  | _ => none }
def UnrollNamesWrongFalsely : Prop := unrollNamesRow.holds Try.pinned (OpenSpec.ofChange unrollNamesWrong)

/-- 'spiritlevellaw23.UnrollFree': WHATEVER THE INPUT: true; the input reads as it did. -/
def unrollFreeSpec : ChangeSpec := { name := "unrollFree", fn := fun _ => fun
  | [d1, d2, d3] => { results := [.lit (.bool true)], args := [d1, d2, d3] }
  | _ => none }
def unrollFreeRow : OpenClaim := { program := "ytbmhmfcjjhjkgaa", sum := "74773c85d680bbce48b784b6826b01b2eedf2c53b7596eab201300cfe65f27f6", func := "spiritlevel/spiritlevellaw23.UnrollFree", spec := "unrollFree", unfollowed := true, recurses := true, apart := false }
def UnrollFreeSaid : Prop := unrollFreeRow.holds Try.pinned (OpenSpec.ofChange unrollFreeSpec)

/-- ITS FALSE NEIGHBOUR: 'it returns false'. Refute it at one input. -/
def unrollFreeWrong : ChangeSpec := { name := "unrollFree", fn := fun _ => fun
  | [d1, d2, d3] => { results := [.lit (.bool false)], args := [d1, d2, d3] }
  | _ => none }
def UnrollFreeWrongFalsely : Prop := unrollFreeRow.holds Try.pinned (OpenSpec.ofChange unrollFreeWrong)

/-- 'spiritlevellaw23.UnrollRuns': WHATEVER THE INPUT: true; the input reads as it did. -/
def unrollRunsSpec : ChangeSpec := { name := "unrollRuns", fn := fun _ => fun
  | [d1, d2] => { results := [.lit (.bool true)], args := [d1, d2] }
  | _ => none }
def unrollRunsRow : OpenClaim := { program := "ytbmhmfcjjhjkgaa", sum := "74773c85d680bbce48b784b6826b01b2eedf2c53b7596eab201300cfe65f27f6", func := "spiritlevel/spiritlevellaw23.UnrollRuns", spec := "unrollRuns", unfollowed := true, recurses := true, apart := false }
def UnrollRunsSaid : Prop := unrollRunsRow.holds Try.pinned (OpenSpec.ofChange unrollRunsSpec)

/-- ITS FALSE NEIGHBOUR: 'it returns false'. Refute it at one input. -/
def unrollRunsWrong : ChangeSpec := { name := "unrollRuns", fn := fun _ => fun
  | [d1, d2] => { results := [.lit (.bool false)], args := [d1, d2] }
  | _ => none }
def UnrollRunsWrongFalsely : Prop := unrollRunsRow.holds Try.pinned (OpenSpec.ofChange unrollRunsWrong)

/- THE SECOND FORM. 'bulk': how many values and letters a reading holds, each counted each time it is reached (what is shared counts as often as it is met; a slice's spare places count too). A statement '..UptoSaid' is the law's where the arguments, and the package variables that the reading takes, are together of bulk at most 1048576: NARROWER than '..Said'. Prove '..Said' where nothing that the law and all that it calls make is longer than what came in: it says more and counts as full. Else prove '..UptoSaid'. A law counts once. -/
mutual
def uptoBulk {H : Type} : DataW H → Nat
  | .lit (.string bytes) => bytes.length + 1
  | .lit _ => 1
  | .nil => 1
  | .ptr d => uptoBulk d + 1
  | .slice elems spare => uptoBulkAll elems + uptoBulkAll spare + 1
  | .agg parts => uptoBulkAll parts + 1
  | .iface _ d => uptoBulk d + 1
  | .map entries => uptoBulkEntries entries + 1
  | .held _ => 1
def uptoBulkAll {H : Type} : List (DataW H) → Nat
  | [] => 0
  | d :: r => uptoBulk d + uptoBulkAll r
def uptoBulkEntries {H : Type} : List (Lit × DataW H) → Nat
  | [] => 0
  | x :: r => uptoBulkEntry x + uptoBulkEntries r
def uptoBulkEntry {H : Type} : Lit × DataW H → Nat
  | (.string bytes, d) => bytes.length + uptoBulk d + 1
  | (_, d) => uptoBulk d + 1
 end
def uptoSmall : (H : Type) → List (DataW H) → Bool := fun _ ds => decide (uptoBulkAll ds ≤ 1048576)
def OpenSpec.upto (s : _root_.Go.ChangeSpec) : _root_.Go.OpenSpec := { _root_.Go.OpenSpec.ofChange s with cond := some uptoSmall }

/-- 'spiritlevellaw37.FramesTells', WHERE WHAT IT READS IS OF BULK AT MOST 1048576: true; the input reads as it did. -/
def framesTellsUptoRow : OpenClaim := { program := "ytbmhmfcjjhjkgaa", sum := "74773c85d680bbce48b784b6826b01b2eedf2c53b7596eab201300cfe65f27f6", func := "spiritlevel/spiritlevellaw37.FramesTells", spec := "framesTells", unfollowed := true, recurses := true, apart := false, narrowed := true }
def FramesTellsUptoSaid : Prop := framesTellsUptoRow.holds Try.pinned (OpenSpec.upto framesTellsSpec)

/-- 'spiritlevellaw39.ShrinkStates', WHERE WHAT IT READS IS OF BULK AT MOST 1048576: true; the input reads as it did. -/
def shrinkStatesUptoRow : OpenClaim := { program := "ytbmhmfcjjhjkgaa", sum := "74773c85d680bbce48b784b6826b01b2eedf2c53b7596eab201300cfe65f27f6", func := "spiritlevel/spiritlevellaw39.ShrinkStates", spec := "shrinkStates", unfollowed := true, recurses := true, apart := false, narrowed := true }
def ShrinkStatesUptoSaid : Prop := shrinkStatesUptoRow.holds Try.pinned (OpenSpec.upto shrinkStatesSpec)

/-- 'spiritlevellaw23.UnrollTells', WHERE WHAT IT READS IS OF BULK AT MOST 1048576: true; the input reads as it did. -/
def unrollTellsUptoRow : OpenClaim := { program := "ytbmhmfcjjhjkgaa", sum := "74773c85d680bbce48b784b6826b01b2eedf2c53b7596eab201300cfe65f27f6", func := "spiritlevel/spiritlevellaw23.UnrollTells", spec := "unrollTells", unfollowed := true, recurses := true, apart := false, narrowed := true }
def UnrollTellsUptoSaid : Prop := unrollTellsUptoRow.holds Try.pinned (OpenSpec.upto unrollTellsSpec)

/-- 'spiritlevellaw23.UnrollMore', WHERE WHAT IT READS IS OF BULK AT MOST 1048576: true; the input reads as it did. -/
def unrollMoreUptoRow : OpenClaim := { program := "ytbmhmfcjjhjkgaa", sum := "74773c85d680bbce48b784b6826b01b2eedf2c53b7596eab201300cfe65f27f6", func := "spiritlevel/spiritlevellaw23.UnrollMore", spec := "unrollMore", unfollowed := true, recurses := true, apart := false, narrowed := true }
def UnrollMoreUptoSaid : Prop := unrollMoreUptoRow.holds Try.pinned (OpenSpec.upto unrollMoreSpec)

/-- 'spiritlevellaw36.BmcClauses', WHERE WHAT IT READS IS OF BULK AT MOST 1048576: true; the input reads as it did. -/
def bmcClausesUptoRow : OpenClaim := { program := "ytbmhmfcjjhjkgaa", sum := "74773c85d680bbce48b784b6826b01b2eedf2c53b7596eab201300cfe65f27f6", func := "spiritlevel/spiritlevellaw36.BmcClauses", spec := "bmcClauses", unfollowed := true, recurses := true, apart := false, narrowed := true }
def BmcClausesUptoSaid : Prop := bmcClausesUptoRow.holds Try.pinned (OpenSpec.upto bmcClausesSpec)

/-- 'spiritlevellaw23.UnrollNames', WHERE WHAT IT READS IS OF BULK AT MOST 1048576: true; the input reads as it did. -/
def unrollNamesUptoRow : OpenClaim := { program := "ytbmhmfcjjhjkgaa", sum := "74773c85d680bbce48b784b6826b01b2eedf2c53b7596eab201300cfe65f27f6", func := "spiritlevel/spiritlevellaw23.UnrollNames", spec := "unrollNames", unfollowed := true, recurses := true, apart := false, narrowed := true }
def UnrollNamesUptoSaid : Prop := unrollNamesUptoRow.holds Try.pinned (OpenSpec.upto unrollNamesSpec)

/-- 'spiritlevellaw23.UnrollFree', WHERE WHAT IT READS IS OF BULK AT MOST 1048576: true; the input reads as it did. -/
def unrollFreeUptoRow : OpenClaim := { program := "ytbmhmfcjjhjkgaa", sum := "74773c85d680bbce48b784b6826b01b2eedf2c53b7596eab201300cfe65f27f6", func := "spiritlevel/spiritlevellaw23.UnrollFree", spec := "unrollFree", unfollowed := true, recurses := true, apart := false, narrowed := true }
def UnrollFreeUptoSaid : Prop := unrollFreeUptoRow.holds Try.pinned (OpenSpec.upto unrollFreeSpec)

/-- 'spiritlevellaw23.UnrollRuns', WHERE WHAT IT READS IS OF BULK AT MOST 1048576: true; the input reads as it did. -/
def unrollRunsUptoRow : OpenClaim := { program := "ytbmhmfcjjhjkgaa", sum := "74773c85d680bbce48b784b6826b01b2eedf2c53b7596eab201300cfe65f27f6", func := "spiritlevel/spiritlevellaw23.UnrollRuns", spec := "unrollRuns", unfollowed := true, recurses := true, apart := false, narrowed := true }
def UnrollRunsUptoSaid : Prop := unrollRunsUptoRow.holds Try.pinned (OpenSpec.upto unrollRunsSpec)

end Rows
end Go.Proofs.Ytbmhmfcjjhjkgaa
