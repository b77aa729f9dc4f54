/-
  No cell of these rows narrows 'for every input' (looked for: loops, veiled, ifaces, maps, wideKeys, modest, calm, conditions, laid).
  DERIVED. THE GIVEN ROWS OF THIS SEAT. 5 by the template 'for every input the law returns true; each argument reads behind the call as it read before'; 0 by the template 'total and deterministic' (their statements: YtbbikkncobgabaaTotals.lean).
  GIVEN WITH THE SEED: the statements are not yours to turn. If you find one false, say at which input.
  Laid BY PROGRAM, IN A SANDBOX (cutbox-rows.mjs): the forced cells as the released guide's own fill.sh prints them over the translation e9d2ad0b78cd9226… (all of the seat's roots in one cut). By AI agents, Wed Nov 11 2026. No macro, syntax, notation, axiom, sorry.
-/
import Derived.Test.YtbbikkncobgabaaChecked
import GoSem.Claim
import GoSem.ClaimJoined
import GoSem.ClaimMapViews
import Derived.JoinedTies
import Derived.KernelRfl
namespace Go.Proofs.Ytbbikkncobgabaa
/- THE CELL 'sum', in the pinned program and in every row, IS THE sha256 OF THE DUMP (.gsa) THAT YtbbikkncobgabaaProg.lean LOADS. Nothing in Lean hashes anything: it is a label: what it is worth is what the hold of that sum in a sandbox is worth. -/
noncomputable def Try.pinned : Pinned := { name := "ytbbikkncobgabaa", sum := "e9d2ad0b78cd92260250a18aa6be015755ca8c743d253f55dfc5c7ca78176070", checked := Try.checked }
namespace Rows
def none {H : Type} : Left H := { results := [], args := [] }

/-- 'scrivenerlaw01.SumOf': WHATEVER THE INPUT: true; the input reads as it did. -/
def sumOfSpec : ChangeSpec := { name := "sumOf", fn := fun _ => fun
  | [d] => { results := [.lit (.bool true)], args := [d] }
  | _ => none }
def sumOfRow : OpenClaim := { program := "ytbbikkncobgabaa", sum := "e9d2ad0b78cd92260250a18aa6be015755ca8c743d253f55dfc5c7ca78176070", func := "scrivener/scrivenerlaw01.SumOf", spec := "sumOf", unfollowed := true, recurses := true, apart := false }
def SumOfSaid : Prop := sumOfRow.holds Try.pinned (OpenSpec.ofChange sumOfSpec)

/-- ITS FALSE NEIGHBOUR: 'it returns false'. Refute it at one input. -/
def sumOfWrong : ChangeSpec := { name := "sumOf", fn := fun _ => fun
  | [d] => { results := [.lit (.bool false)], args := [d] }
  | _ => none }
def SumOfWrongFalsely : Prop := sumOfRow.holds Try.pinned (OpenSpec.ofChange sumOfWrong)

/-- 'scrivenerlaw01.SumSeals': WHATEVER THE INPUT: true; the input reads as it did. -/
def sumSealsSpec : ChangeSpec := { name := "sumSeals", fn := fun _ => fun
  | [d] => { results := [.lit (.bool true)], args := [d] }
  | _ => none }
def sumSealsRow : OpenClaim := { program := "ytbbikkncobgabaa", sum := "e9d2ad0b78cd92260250a18aa6be015755ca8c743d253f55dfc5c7ca78176070", func := "scrivener/scrivenerlaw01.SumSeals", spec := "sumSeals", unfollowed := true, recurses := true, apart := false }
def SumSealsSaid : Prop := sumSealsRow.holds Try.pinned (OpenSpec.ofChange sumSealsSpec)

/-- ITS FALSE NEIGHBOUR: 'it returns false'. Refute it at one input. -/
def sumSealsWrong : ChangeSpec := { name := "sumSeals", fn := fun _ => fun
  | [d] => { results := [.lit (.bool false)], args := [d] }
  | _ => none }
def SumSealsWrongFalsely : Prop := sumSealsRow.holds Try.pinned (OpenSpec.ofChange sumSealsWrong)

/-- 'scrivenerlaw01.SumGoesOn': WHATEVER THE INPUT: true; the input reads as it did. -/
def sumGoesOnSpec : ChangeSpec := { name := "sumGoesOn", fn := fun _ => fun
  | [d1, d2, d3, d4, d5, d6] => { results := [.lit (.bool true)], args := [d1, d2, d3, d4, d5, d6] }
  | _ => none }
def sumGoesOnRow : OpenClaim := { program := "ytbbikkncobgabaa", sum := "e9d2ad0b78cd92260250a18aa6be015755ca8c743d253f55dfc5c7ca78176070", func := "scrivener/scrivenerlaw01.SumGoesOn", spec := "sumGoesOn", unfollowed := true, recurses := true, apart := false }
def SumGoesOnSaid : Prop := sumGoesOnRow.holds Try.pinned (OpenSpec.ofChange sumGoesOnSpec)

/-- ITS FALSE NEIGHBOUR: 'it returns false'. Refute it at one input. -/
def sumGoesOnWrong : ChangeSpec := { name := "sumGoesOn", fn := fun _ => fun
  | [d1, d2, d3, d4, d5, d6] => { results := [.lit (.bool false)], args := [d1, d2, d3, d4, d5, d6] }
  | _ => none }
def SumGoesOnWrongFalsely : Prop := sumGoesOnRow.holds Try.pinned (OpenSpec.ofChange sumGoesOnWrong)

/-- 'scrivenerlaw01.SumOneForAll': WHATEVER THE INPUT: true; the input reads as it did. -/
def sumOneForAllSpec : ChangeSpec := { name := "sumOneForAll", fn := fun _ => fun
  | [d1, d2] => { results := [.lit (.bool true)], args := [d1, d2] }
  | _ => none }
def sumOneForAllRow : OpenClaim := { program := "ytbbikkncobgabaa", sum := "e9d2ad0b78cd92260250a18aa6be015755ca8c743d253f55dfc5c7ca78176070", func := "scrivener/scrivenerlaw01.SumOneForAll", spec := "sumOneForAll", unfollowed := true, recurses := true, apart := false }
def SumOneForAllSaid : Prop := sumOneForAllRow.holds Try.pinned (OpenSpec.ofChange sumOneForAllSpec)

/-- ITS FALSE NEIGHBOUR: 'it returns false'. Refute it at one input. -/
def sumOneForAllWrong : ChangeSpec := { name := "sumOneForAll", fn := fun _ => fun
  | [d1, d2] => { results := [.lit (.bool false)], args := [d1, d2] }
  | _ => none }
def SumOneForAllWrongFalsely : Prop := sumOneForAllRow.holds Try.pinned (OpenSpec.ofChange sumOneForAllWrong)

/-- 'scrivenerlaw01.SumFar': WHATEVER THE INPUT: true; the input reads as it did. -/
def sumFarSpec : ChangeSpec := { name := "sumFar", fn := fun _ => fun
  | [d1, d2, d3] => { results := [.lit (.bool true)], args := [d1, d2, d3] }
  | _ => none }
def sumFarRow : OpenClaim := { program := "ytbbikkncobgabaa", sum := "e9d2ad0b78cd92260250a18aa6be015755ca8c743d253f55dfc5c7ca78176070", func := "scrivener/scrivenerlaw01.SumFar", spec := "sumFar", unfollowed := true, recurses := true, apart := false }
def SumFarSaid : Prop := sumFarRow.holds Try.pinned (OpenSpec.ofChange sumFarSpec)

/-- ITS FALSE NEIGHBOUR: 'it returns false'. Refute it at one input. -/
def sumFarWrong : ChangeSpec := { name := "sumFar", fn := fun _ => fun
  | [d1, d2, d3] => { results := [.lit (.bool false)], args := [d1, d2, d3] }
  | _ => none }
def SumFarWrongFalsely : Prop := sumFarRow.holds Try.pinned (OpenSpec.ofChange sumFarWrong)

/- THE SECOND FORM. 'bulk': how many values and letters a reading holds, each counted each time it is reached (what is shared counts as often as it is met; a slice's spare places count too). A statement '..UptoSaid' is the law's where the arguments, and the package variables that the reading takes, are together of bulk at most 1048576: NARROWER than '..Said'. Prove '..Said' where nothing that the law and all that it calls make is longer than what came in: it says more and counts as full. Else prove '..UptoSaid'. A law counts once. -/
mutual
def uptoBulk {H : Type} : DataW H → Nat
  | .lit (.string bytes) => bytes.length + 1
  | .lit _ => 1
  | .nil => 1
  | .ptr d => uptoBulk d + 1
  | .slice elems spare => uptoBulkAll elems + uptoBulkAll spare + 1
  | .agg parts => uptoBulkAll parts + 1
  | .iface _ d => uptoBulk d + 1
  | .map entries => uptoBulkEntries entries + 1
  | .held _ => 1
def uptoBulkAll {H : Type} : List (DataW H) → Nat
  | [] => 0
  | d :: r => uptoBulk d + uptoBulkAll r
def uptoBulkEntries {H : Type} : List (Lit × DataW H) → Nat
  | [] => 0
  | x :: r => uptoBulkEntry x + uptoBulkEntries r
def uptoBulkEntry {H : Type} : Lit × DataW H → Nat
  | (.string bytes, d) => bytes.length + uptoBulk d + 1
  | (_, d) => uptoBulk d + 1
 end
def uptoSmall : (H : Type) → List (DataW H) → Bool := fun _ ds => decide (uptoBulkAll ds ≤ 1048576)
def OpenSpec.upto (s : _root_.Go.ChangeSpec) : _root_.Go.OpenSpec := { _root_.Go.OpenSpec.ofChange s with cond := some uptoSmall }

/-- 'scrivenerlaw01.SumOf', WHERE WHAT IT READS IS OF BULK AT MOST 1048576: true; the input reads as it did. -/
def sumOfUptoRow : OpenClaim := { program := "ytbbikkncobgabaa", sum := "e9d2ad0b78cd92260250a18aa6be015755ca8c743d253f55dfc5c7ca78176070", func := "scrivener/scrivenerlaw01.SumOf", spec := "sumOf", unfollowed := true, recurses := true, apart := false, narrowed := true }
def SumOfUptoSaid : Prop := sumOfUptoRow.holds Try.pinned (OpenSpec.upto sumOfSpec)

/-- 'scrivenerlaw01.SumSeals', WHERE WHAT IT READS IS OF BULK AT MOST 1048576: true; the input reads as it did. -/
def sumSealsUptoRow : OpenClaim := { program := "ytbbikkncobgabaa", sum := "e9d2ad0b78cd92260250a18aa6be015755ca8c743d253f55dfc5c7ca78176070", func := "scrivener/scrivenerlaw01.SumSeals", spec := "sumSeals", unfollowed := true, recurses := true, apart := false, narrowed := true }
def SumSealsUptoSaid : Prop := sumSealsUptoRow.holds Try.pinned (OpenSpec.upto sumSealsSpec)

/-- 'scrivenerlaw01.SumGoesOn', WHERE WHAT IT READS IS OF BULK AT MOST 1048576: true; the input reads as it did. -/
def sumGoesOnUptoRow : OpenClaim := { program := "ytbbikkncobgabaa", sum := "e9d2ad0b78cd92260250a18aa6be015755ca8c743d253f55dfc5c7ca78176070", func := "scrivener/scrivenerlaw01.SumGoesOn", spec := "sumGoesOn", unfollowed := true, recurses := true, apart := false, narrowed := true }
def SumGoesOnUptoSaid : Prop := sumGoesOnUptoRow.holds Try.pinned (OpenSpec.upto sumGoesOnSpec)

/-- 'scrivenerlaw01.SumOneForAll', WHERE WHAT IT READS IS OF BULK AT MOST 1048576: true; the input reads as it did. -/
def sumOneForAllUptoRow : OpenClaim := { program := "ytbbikkncobgabaa", sum := "e9d2ad0b78cd92260250a18aa6be015755ca8c743d253f55dfc5c7ca78176070", func := "scrivener/scrivenerlaw01.SumOneForAll", spec := "sumOneForAll", unfollowed := true, recurses := true, apart := false, narrowed := true }
def SumOneForAllUptoSaid : Prop := sumOneForAllUptoRow.holds Try.pinned (OpenSpec.upto sumOneForAllSpec)

/-- 'scrivenerlaw01.SumFar', WHERE WHAT IT READS IS OF BULK AT MOST 1048576: true; the input reads as it did. -/
def sumFarUptoRow : OpenClaim := { program := "ytbbikkncobgabaa", sum := "e9d2ad0b78cd92260250a18aa6be015755ca8c743d253f55dfc5c7ca78176070", func := "scrivener/scrivenerlaw01.SumFar", spec := "sumFar", unfollowed := true, recurses := true, apart := false, narrowed := true }
def SumFarUptoSaid : Prop := sumFarUptoRow.holds Try.pinned (OpenSpec.upto sumFarSpec)

end Rows
end Go.Proofs.Ytbbikkncobgabaa
