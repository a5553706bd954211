/-
  No cell of these rows narrows 'for every input' (looked for: loops, veiled, ifaces, maps, wideKeys, modest, calm, conditions, laid).
  DERIVED. THE GIVEN ROWS OF THIS SEAT. 7 by the template 'for every input the law returns true; each argument reads behind the call as it read before'; 0 by the template 'total and deterministic' (their statements: YtcgjebaomhfbdaaGreatTotals.lean).
  GIVEN WITH THE SEED: the statements are not yours to turn. If you find one false, say at which input.
  Laid BY PROGRAM, IN A SANDBOX (cutbox-rows.mjs): the forced cells as the released guide's own fill.sh prints them over the translation 11a6264cd2a42ac0… (all of the seat's roots in one cut). By AI agents, Wed Nov 11 2026. No macro, syntax, notation, axiom, sorry.
-/
import Derived.Test.YtcgjebaomhfbdaaGreatChecked
import GoSem.Claim
import GoSem.ClaimJoined
import GoSem.ClaimMapViews
import Derived.JoinedTies
import Derived.KernelRfl
namespace Go.Proofs.YtcgjebaomhfbdaaGreat
/- THE CELL 'sum', in the pinned program and in every row, IS THE sha256 OF THE DUMP (.gsa) THAT YtcgjebaomhfbdaaGreatProg.lean LOADS. Nothing in Lean hashes anything: it is a label: what it is worth is what the hold of that sum in a sandbox is worth. -/
noncomputable def Tryz.pinned : Pinned := { name := "ytcgjebaomhfbdaagreat", sum := "11a6264cd2a42ac05be94570a4fdacfc186b97cf0216bdd64147b4d55446b671", checked := Tryz.checked }
namespace Rows
def none {H : Type} : Left H := { results := [], args := [] }

/-- 'spiritlevellaw36.BmcNames': WHATEVER THE INPUT: true; the input reads as it did. -/
def bmcNamesSpec : ChangeSpec := { name := "bmcNames", fn := fun _ => fun
  | [] => { results := [.lit (.bool true)], args := [] }
  | _ => none }
def bmcNamesRow : OpenClaim := { program := "ytcgjebaomhfbdaagreat", sum := "11a6264cd2a42ac05be94570a4fdacfc186b97cf0216bdd64147b4d55446b671", func := "spiritlevel/spiritlevellaw36.BmcNames", spec := "bmcNames", unfollowed := true, recurses := true, apart := false }
def BmcNamesSaid : Prop := bmcNamesRow.holds Tryz.pinned (OpenSpec.ofChange bmcNamesSpec)

/-- ITS FALSE NEIGHBOUR: 'it returns false'. Refute it at one input. -/
def bmcNamesWrong : ChangeSpec := { name := "bmcNames", fn := fun _ => fun
  | [] => { results := [.lit (.bool false)], args := [] }
  | _ => none }
def BmcNamesWrongFalsely : Prop := bmcNamesRow.holds Tryz.pinned (OpenSpec.ofChange bmcNamesWrong)

/-- 'spiritlevellaw37.FramesNames': WHATEVER THE INPUT: true; the input reads as it did. -/
def framesNamesSpec : ChangeSpec := { name := "framesNames", fn := fun _ => fun
  | [] => { results := [.lit (.bool true)], args := [] }
  | _ => none }
def framesNamesRow : OpenClaim := { program := "ytcgjebaomhfbdaagreat", sum := "11a6264cd2a42ac05be94570a4fdacfc186b97cf0216bdd64147b4d55446b671", func := "spiritlevel/spiritlevellaw37.FramesNames", spec := "framesNames", unfollowed := true, recurses := true, apart := false }
def FramesNamesSaid : Prop := framesNamesRow.holds Tryz.pinned (OpenSpec.ofChange framesNamesSpec)

/-- ITS FALSE NEIGHBOUR: 'it returns false'. Refute it at one input. -/
def framesNamesWrong : ChangeSpec := { name := "framesNames", fn := fun _ => fun
  | [] => { results := [.lit (.bool false)], args := [] }
  | _ => none }
def FramesNamesWrongFalsely : Prop := framesNamesRow.holds Tryz.pinned (OpenSpec.ofChange framesNamesWrong)

/-- 'spiritlevellaw39.ShrinkNames': WHATEVER THE INPUT: true; the input reads as it did. -/
def shrinkNamesSpec : ChangeSpec := { name := "shrinkNames", fn := fun _ => fun
  | [] => { results := [.lit (.bool true)], args := [] }
  | _ => none }
def shrinkNamesRow : OpenClaim := { program := "ytcgjebaomhfbdaagreat", sum := "11a6264cd2a42ac05be94570a4fdacfc186b97cf0216bdd64147b4d55446b671", func := "spiritlevel/spiritlevellaw39.ShrinkNames", spec := "shrinkNames", unfollowed := true, recurses := true, apart := false }
def ShrinkNamesSaid : Prop := shrinkNamesRow.holds Tryz.pinned (OpenSpec.ofChange shrinkNamesSpec)

/-- ITS FALSE NEIGHBOUR: 'it returns false'. Refute it at one input. -/
def shrinkNamesWrong : ChangeSpec := { name := "shrinkNames", fn := fun _ => fun
  | [] => { results := [.lit (.bool false)], args := [] }
  | _ => none }
def ShrinkNamesWrongFalsely : Prop := shrinkNamesRow.holds Tryz.pinned (OpenSpec.ofChange shrinkNamesWrong)

/-- 'spiritlevellaw40.PushNames': WHATEVER THE INPUT: true; the input reads as it did. -/
def pushNamesSpec : ChangeSpec := { name := "pushNames", fn := fun _ => fun
  | [] => { results := [.lit (.bool true)], args := [] }
  | _ => none }
def pushNamesRow : OpenClaim := { program := "ytcgjebaomhfbdaagreat", sum := "11a6264cd2a42ac05be94570a4fdacfc186b97cf0216bdd64147b4d55446b671", func := "spiritlevel/spiritlevellaw40.PushNames", spec := "pushNames", unfollowed := true, recurses := true, apart := false }
def PushNamesSaid : Prop := pushNamesRow.holds Tryz.pinned (OpenSpec.ofChange pushNamesSpec)

/-- ITS FALSE NEIGHBOUR: 'it returns false'. Refute it at one input. -/
def pushNamesWrong : ChangeSpec := { name := "pushNames", fn := fun _ => fun
  | [] => { results := [.lit (.bool false)], args := [] }
  | _ => none }
def PushNamesWrongFalsely : Prop := pushNamesRow.holds Tryz.pinned (OpenSpec.ofChange pushNamesWrong)

/-- 'spiritlevellaw41.PdrNames': WHATEVER THE INPUT: true; the input reads as it did. -/
def pdrNamesSpec : ChangeSpec := { name := "pdrNames", fn := fun _ => fun
  | [] => { results := [.lit (.bool true)], args := [] }
  | _ => none }
def pdrNamesRow : OpenClaim := { program := "ytcgjebaomhfbdaagreat", sum := "11a6264cd2a42ac05be94570a4fdacfc186b97cf0216bdd64147b4d55446b671", func := "spiritlevel/spiritlevellaw41.PdrNames", spec := "pdrNames", inPlace := ["slices.overlaps[spiritlevel/api.Wait]"], unfollowed := true, recurses := true, apart := false }
def PdrNamesSaid : Prop := pdrNamesRow.holds Tryz.pinned (OpenSpec.ofChange pdrNamesSpec)

/-- ITS FALSE NEIGHBOUR: 'it returns false'. Refute it at one input. -/
def pdrNamesWrong : ChangeSpec := { name := "pdrNames", fn := fun _ => fun
  | [] => { results := [.lit (.bool false)], args := [] }
  | _ => none }
def PdrNamesWrongFalsely : Prop := pdrNamesRow.holds Tryz.pinned (OpenSpec.ofChange pdrNamesWrong)

/-- 'spiritlevellaw44.BudgetNames': WHATEVER THE INPUT: true; the input reads as it did. -/
def budgetNamesSpec : ChangeSpec := { name := "budgetNames", fn := fun _ => fun
  | [] => { results := [.lit (.bool true)], args := [] }
  | _ => none }
def budgetNamesRow : OpenClaim := { program := "ytcgjebaomhfbdaagreat", sum := "11a6264cd2a42ac05be94570a4fdacfc186b97cf0216bdd64147b4d55446b671", func := "spiritlevel/spiritlevellaw44.BudgetNames", spec := "budgetNames", inPlace := ["slices.overlaps[spiritlevel/api.Wait]"], unfollowed := true, recurses := true, apart := false }
def BudgetNamesSaid : Prop := budgetNamesRow.holds Tryz.pinned (OpenSpec.ofChange budgetNamesSpec)

/-- ITS FALSE NEIGHBOUR: 'it returns false'. Refute it at one input. -/
def budgetNamesWrong : ChangeSpec := { name := "budgetNames", fn := fun _ => fun
  | [] => { results := [.lit (.bool false)], args := [] }
  | _ => none }
def BudgetNamesWrongFalsely : Prop := budgetNamesRow.holds Tryz.pinned (OpenSpec.ofChange budgetNamesWrong)

/-- 'spiritlevellaw42.VerdictNames': WHATEVER THE INPUT: true; the input reads as it did. -/
def verdictNamesSpec : ChangeSpec := { name := "verdictNames", fn := fun _ => fun
  | [] => { results := [.lit (.bool true)], args := [] }
  | _ => none }
def verdictNamesRow : OpenClaim := { program := "ytcgjebaomhfbdaagreat", sum := "11a6264cd2a42ac05be94570a4fdacfc186b97cf0216bdd64147b4d55446b671", func := "spiritlevel/spiritlevellaw42.VerdictNames", spec := "verdictNames", inPlace := ["slices.overlaps[spiritlevel/api.Wait]"], unfollowed := true, recurses := true, apart := false }
def VerdictNamesSaid : Prop := verdictNamesRow.holds Tryz.pinned (OpenSpec.ofChange verdictNamesSpec)

/-- ITS FALSE NEIGHBOUR: 'it returns false'. Refute it at one input. -/
def verdictNamesWrong : ChangeSpec := { name := "verdictNames", fn := fun _ => fun
  | [] => { results := [.lit (.bool false)], args := [] }
  | _ => none }
def VerdictNamesWrongFalsely : Prop := verdictNamesRow.holds Tryz.pinned (OpenSpec.ofChange verdictNamesWrong)

/- THE SECOND FORM. 'bulk': how many values and letters a reading holds, each counted each time it is reached (what is shared counts as often as it is met; a slice's spare places count too). A statement '..UptoSaid' is the law's where the arguments, and the package variables that the reading takes, are together of bulk at most 1048576: NARROWER than '..Said'. Prove '..Said' where nothing that the law and all that it calls make is longer than what came in: it says more and counts as full. Else prove '..UptoSaid'. A law counts once. -/
mutual
def uptoBulk {H : Type} : DataW H → Nat
  | .lit (.string bytes) => bytes.length + 1
  | .lit _ => 1
  | .nil => 1
  | .ptr d => uptoBulk d + 1
  | .slice elems spare => uptoBulkAll elems + uptoBulkAll spare + 1
  | .agg parts => uptoBulkAll parts + 1
  | .iface _ d => uptoBulk d + 1
  | .map entries => uptoBulkEntries entries + 1
  | .held _ => 1
def uptoBulkAll {H : Type} : List (DataW H) → Nat
  | [] => 0
  | d :: r => uptoBulk d + uptoBulkAll r
def uptoBulkEntries {H : Type} : List (Lit × DataW H) → Nat
  | [] => 0
  | x :: r => uptoBulkEntry x + uptoBulkEntries r
def uptoBulkEntry {H : Type} : Lit × DataW H → Nat
  | (.string bytes, d) => bytes.length + uptoBulk d + 1
  | (_, d) => uptoBulk d + 1
 end
def uptoSmall : (H : Type) → List (DataW H) → Bool := fun _ ds => decide (uptoBulkAll ds ≤ 1048576)
def OpenSpec.upto (s : _root_.Go.ChangeSpec) : _root_.Go.OpenSpec := { _root_.Go.OpenSpec.ofChange s with cond := some uptoSmall }

/-- 'spiritlevellaw36.BmcNames', WHERE WHAT IT READS IS OF BULK AT MOST 1048576: true; the input reads as it did. -/
def bmcNamesUptoRow : OpenClaim := { program := "ytcgjebaomhfbdaagreat", sum := "11a6264cd2a42ac05be94570a4fdacfc186b97cf0216bdd64147b4d55446b671", func := "spiritlevel/spiritlevellaw36.BmcNames", spec := "bmcNames", unfollowed := true, recurses := true, apart := false, narrowed := true }
def BmcNamesUptoSaid : Prop := bmcNamesUptoRow.holds Tryz.pinned (OpenSpec.upto bmcNamesSpec)

/-- 'spiritlevellaw37.FramesNames', WHERE WHAT IT READS IS OF BULK AT MOST 1048576: true; the input reads as it did. -/
def framesNamesUptoRow : OpenClaim := { program := "ytcgjebaomhfbdaagreat", sum := "11a6264cd2a42ac05be94570a4fdacfc186b97cf0216bdd64147b4d55446b671", func := "spiritlevel/spiritlevellaw37.FramesNames", spec := "framesNames", unfollowed := true, recurses := true, apart := false, narrowed := true }
def FramesNamesUptoSaid : Prop := framesNamesUptoRow.holds Tryz.pinned (OpenSpec.upto framesNamesSpec)

/-- 'spiritlevellaw39.ShrinkNames', WHERE WHAT IT READS IS OF BULK AT MOST 1048576: true; the input reads as it did. -/
def shrinkNamesUptoRow : OpenClaim := { program := "ytcgjebaomhfbdaagreat", sum := "11a6264cd2a42ac05be94570a4fdacfc186b97cf0216bdd64147b4d55446b671", func := "spiritlevel/spiritlevellaw39.ShrinkNames", spec := "shrinkNames", unfollowed := true, recurses := true, apart := false, narrowed := true }
def ShrinkNamesUptoSaid : Prop := shrinkNamesUptoRow.holds Tryz.pinned (OpenSpec.upto shrinkNamesSpec)

/-- 'spiritlevellaw40.PushNames', WHERE WHAT IT READS IS OF BULK AT MOST 1048576: true; the input reads as it did. -/
def pushNamesUptoRow : OpenClaim := { program := "ytcgjebaomhfbdaagreat", sum := "11a6264cd2a42ac05be94570a4fdacfc186b97cf0216bdd64147b4d55446b671", func := "spiritlevel/spiritlevellaw40.PushNames", spec := "pushNames", unfollowed := true, recurses := true, apart := false, narrowed := true }
def PushNamesUptoSaid : Prop := pushNamesUptoRow.holds Tryz.pinned (OpenSpec.upto pushNamesSpec)

/-- 'spiritlevellaw41.PdrNames', WHERE WHAT IT READS IS OF BULK AT MOST 1048576: true; the input reads as it did. -/
def pdrNamesUptoRow : OpenClaim := { program := "ytcgjebaomhfbdaagreat", sum := "11a6264cd2a42ac05be94570a4fdacfc186b97cf0216bdd64147b4d55446b671", func := "spiritlevel/spiritlevellaw41.PdrNames", spec := "pdrNames", inPlace := ["slices.overlaps[spiritlevel/api.Wait]"], unfollowed := true, recurses := true, apart := false, narrowed := true }
def PdrNamesUptoSaid : Prop := pdrNamesUptoRow.holds Tryz.pinned (OpenSpec.upto pdrNamesSpec)

/-- 'spiritlevellaw44.BudgetNames', WHERE WHAT IT READS IS OF BULK AT MOST 1048576: true; the input reads as it did. -/
def budgetNamesUptoRow : OpenClaim := { program := "ytcgjebaomhfbdaagreat", sum := "11a6264cd2a42ac05be94570a4fdacfc186b97cf0216bdd64147b4d55446b671", func := "spiritlevel/spiritlevellaw44.BudgetNames", spec := "budgetNames", inPlace := ["slices.overlaps[spiritlevel/api.Wait]"], unfollowed := true, recurses := true, apart := false, narrowed := true }
def BudgetNamesUptoSaid : Prop := budgetNamesUptoRow.holds Tryz.pinned (OpenSpec.upto budgetNamesSpec)

/-- 'spiritlevellaw42.VerdictNames', WHERE WHAT IT READS IS OF BULK AT MOST 1048576: true; the input reads as it did. -/
def verdictNamesUptoRow : OpenClaim := { program := "ytcgjebaomhfbdaagreat", sum := "11a6264cd2a42ac05be94570a4fdacfc186b97cf0216bdd64147b4d55446b671", func := "spiritlevel/spiritlevellaw42.VerdictNames", spec := "verdictNames", inPlace := ["slices.overlaps[spiritlevel/api.Wait]"], unfollowed := true, recurses := true, apart := false, narrowed := true }
def VerdictNamesUptoSaid : Prop := verdictNamesUptoRow.holds Tryz.pinned (OpenSpec.upto verdictNamesSpec)

end Rows
end Go.Proofs.YtcgjebaomhfbdaaGreat
