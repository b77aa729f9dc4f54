/-
  NARROWER THAN 'FOR EVERY INPUT', by the rows' own cells (each row's printed sentence says how): CodePuts: laid · CodeEach: laid · CodeGets: laid · CodeNobody: laid · CodeTwo: laid · CodeBehind: laid · CodeStays: laid · WireDecodes: laid · WireBack: laid · WireSpoilt: laid · WireEncodes: laid.
  DERIVED. THE GIVEN ROWS OF THIS SEAT. 11 by the template 'for every input the law returns true; each argument reads behind the call as it read before'; 0 by the template 'total and deterministic' (their statements: YtbbikkncobgabaaDoorTotals.lean).
  GIVEN WITH THE SEED: the statements are not yours to turn. If you find one false, say at which input.
  Laid BY PROGRAM, IN A SANDBOX (cutbox-rows.mjs): the forced cells as the released guide's own fill.sh prints them over the translation 0cfea8f4cee46b13… (all of the seat's roots in one cut). By AI agents, Wed Nov 11 2026. No macro, syntax, notation, axiom, sorry.
-/
import Derived.Test.YtbbikkncobgabaaDoorChecked
import GoSem.Claim
import GoSem.ClaimJoined
import GoSem.ClaimMapViews
import Derived.JoinedTies
import Derived.KernelRfl
namespace Go.Proofs.YtbbikkncobgabaaDoor
/- THE CELL 'sum', in the pinned program and in every row, IS THE sha256 OF THE DUMP (.gsa) THAT YtbbikkncobgabaaDoorProg.lean LOADS. Nothing in Lean hashes anything: it is a label: what it is worth is what the hold of that sum in a sandbox is worth. -/
noncomputable def Tryd.pinned : Pinned := { name := "ytbbikkncobgabaadoor", sum := "0cfea8f4cee46b13bf132feb5fdf49cee6c330afa9f2215f2041a28e0f6ffe75", checked := Tryd.checked }
namespace Rows
def none {H : Type} : Left H := { results := [], args := [] }

/- WHAT THE LISTED PACKAGE-LEVEL VARIABLES READ AS WHEN THE CALL BEGINS. Each datum BY PROGRAM (the guide's laid-datum.mjs) off the statement by which the dump's own 'gosem.cut.vars' lays the variable. In a bare row this is a premise. The card (YtbbikkncobgabaaDoorCards.lean) ties it to the program's text. -/
def laid_bytes_ErrTooLarge {H : Type} : DataW H := .iface "*errors.errorString" (.ptr (.agg [.lit (.string [98, 121, 116, 101, 115, 46, 66, 117, 102, 102, 101, 114, 58, 32, 116, 111, 111, 32, 108, 97, 114, 103, 101])]))

/-- 'scrivenerlaw02.CodePuts': WHATEVER THE INPUT: true; the input reads as it did. -/
def codePutsSpec : ChangeSpec := { name := "codePuts", fn := fun _ => fun
  | [d] => { results := [.lit (.bool true)], args := [d] }
  | _ => none }
def codePutsRow : OpenClaim := { program := "ytbbikkncobgabaadoor", sum := "0cfea8f4cee46b13bf132feb5fdf49cee6c330afa9f2215f2041a28e0f6ffe75", func := "scrivener/scrivenerlaw02.CodePuts", spec := "codePuts", unfollowed := true, recurses := true, named := ["bytes.ErrTooLarge"], apart := false, laid := [("bytes.ErrTooLarge", laid_bytes_ErrTooLarge)] }
def CodePutsSaid : Prop := codePutsRow.holds Tryd.pinned (OpenSpec.ofChange codePutsSpec)

/-- ITS FALSE NEIGHBOUR: 'it returns false'. Refute it at one input. -/
def codePutsWrong : ChangeSpec := { name := "codePuts", fn := fun _ => fun
  | [d] => { results := [.lit (.bool false)], args := [d] }
  | _ => none }
def CodePutsWrongFalsely : Prop := codePutsRow.holds Tryd.pinned (OpenSpec.ofChange codePutsWrong)

/-- 'scrivenerlaw02.CodeEach': WHATEVER THE INPUT: true; the input reads as it did. -/
def codeEachSpec : ChangeSpec := { name := "codeEach", fn := fun _ => fun
  | [d1, d2, d3] => { results := [.lit (.bool true)], args := [d1, d2, d3] }
  | _ => none }
def codeEachRow : OpenClaim := { program := "ytbbikkncobgabaadoor", sum := "0cfea8f4cee46b13bf132feb5fdf49cee6c330afa9f2215f2041a28e0f6ffe75", func := "scrivener/scrivenerlaw02.CodeEach", spec := "codeEach", unfollowed := true, recurses := true, named := ["bytes.ErrTooLarge"], apart := false, laid := [("bytes.ErrTooLarge", laid_bytes_ErrTooLarge)] }
def CodeEachSaid : Prop := codeEachRow.holds Tryd.pinned (OpenSpec.ofChange codeEachSpec)

/-- ITS FALSE NEIGHBOUR: 'it returns false'. Refute it at one input. -/
def codeEachWrong : ChangeSpec := { name := "codeEach", fn := fun _ => fun
  | [d1, d2, d3] => { results := [.lit (.bool false)], args := [d1, d2, d3] }
  | _ => none }
def CodeEachWrongFalsely : Prop := codeEachRow.holds Tryd.pinned (OpenSpec.ofChange codeEachWrong)

/-- 'scrivenerlaw02.CodeGets': WHATEVER THE INPUT: true; the input reads as it did. -/
def codeGetsSpec : ChangeSpec := { name := "codeGets", fn := fun _ => fun
  | [d1, d2] => { results := [.lit (.bool true)], args := [d1, d2] }
  | _ => none }
def codeGetsRow : OpenClaim := { program := "ytbbikkncobgabaadoor", sum := "0cfea8f4cee46b13bf132feb5fdf49cee6c330afa9f2215f2041a28e0f6ffe75", func := "scrivener/scrivenerlaw02.CodeGets", spec := "codeGets", unfollowed := true, recurses := true, named := ["bytes.ErrTooLarge"], apart := false, laid := [("bytes.ErrTooLarge", laid_bytes_ErrTooLarge)] }
def CodeGetsSaid : Prop := codeGetsRow.holds Tryd.pinned (OpenSpec.ofChange codeGetsSpec)

/-- ITS FALSE NEIGHBOUR: 'it returns false'. Refute it at one input. -/
def codeGetsWrong : ChangeSpec := { name := "codeGets", fn := fun _ => fun
  | [d1, d2] => { results := [.lit (.bool false)], args := [d1, d2] }
  | _ => none }
def CodeGetsWrongFalsely : Prop := codeGetsRow.holds Tryd.pinned (OpenSpec.ofChange codeGetsWrong)

/-- 'scrivenerlaw02.CodeNobody': WHATEVER THE INPUT: true; the input reads as it did. -/
def codeNobodySpec : ChangeSpec := { name := "codeNobody", fn := fun _ => fun
  | [d] => { results := [.lit (.bool true)], args := [d] }
  | _ => none }
def codeNobodyRow : OpenClaim := { program := "ytbbikkncobgabaadoor", sum := "0cfea8f4cee46b13bf132feb5fdf49cee6c330afa9f2215f2041a28e0f6ffe75", func := "scrivener/scrivenerlaw02.CodeNobody", spec := "codeNobody", unfollowed := true, recurses := true, named := ["bytes.ErrTooLarge"], apart := false, laid := [("bytes.ErrTooLarge", laid_bytes_ErrTooLarge)] }
def CodeNobodySaid : Prop := codeNobodyRow.holds Tryd.pinned (OpenSpec.ofChange codeNobodySpec)

/-- ITS FALSE NEIGHBOUR: 'it returns false'. Refute it at one input. -/
def codeNobodyWrong : ChangeSpec := { name := "codeNobody", fn := fun _ => fun
  | [d] => { results := [.lit (.bool false)], args := [d] }
  | _ => none }
def CodeNobodyWrongFalsely : Prop := codeNobodyRow.holds Tryd.pinned (OpenSpec.ofChange codeNobodyWrong)

/-- 'scrivenerlaw02.CodeTwo': WHATEVER THE INPUT: true; the input reads as it did. -/
def codeTwoSpec : ChangeSpec := { name := "codeTwo", fn := fun _ => fun
  | [d1, d2] => { results := [.lit (.bool true)], args := [d1, d2] }
  | _ => none }
def codeTwoRow : OpenClaim := { program := "ytbbikkncobgabaadoor", sum := "0cfea8f4cee46b13bf132feb5fdf49cee6c330afa9f2215f2041a28e0f6ffe75", func := "scrivener/scrivenerlaw02.CodeTwo", spec := "codeTwo", unfollowed := true, recurses := true, named := ["bytes.ErrTooLarge"], apart := false, laid := [("bytes.ErrTooLarge", laid_bytes_ErrTooLarge)] }
def CodeTwoSaid : Prop := codeTwoRow.holds Tryd.pinned (OpenSpec.ofChange codeTwoSpec)

/-- ITS FALSE NEIGHBOUR: 'it returns false'. Refute it at one input. -/
def codeTwoWrong : ChangeSpec := { name := "codeTwo", fn := fun _ => fun
  | [d1, d2] => { results := [.lit (.bool false)], args := [d1, d2] }
  | _ => none }
def CodeTwoWrongFalsely : Prop := codeTwoRow.holds Tryd.pinned (OpenSpec.ofChange codeTwoWrong)

/-- 'scrivenerlaw02.CodeBehind': WHATEVER THE INPUT: true; the input reads as it did. -/
def codeBehindSpec : ChangeSpec := { name := "codeBehind", fn := fun _ => fun
  | [d1, d2, d3, d4] => { results := [.lit (.bool true)], args := [d1, d2, d3, d4] }
  | _ => none }
def codeBehindRow : OpenClaim := { program := "ytbbikkncobgabaadoor", sum := "0cfea8f4cee46b13bf132feb5fdf49cee6c330afa9f2215f2041a28e0f6ffe75", func := "scrivener/scrivenerlaw02.CodeBehind", spec := "codeBehind", unfollowed := true, recurses := true, named := ["bytes.ErrTooLarge"], apart := false, laid := [("bytes.ErrTooLarge", laid_bytes_ErrTooLarge)] }
def CodeBehindSaid : Prop := codeBehindRow.holds Tryd.pinned (OpenSpec.ofChange codeBehindSpec)

/-- ITS FALSE NEIGHBOUR: 'it returns false'. Refute it at one input. -/
def codeBehindWrong : ChangeSpec := { name := "codeBehind", fn := fun _ => fun
  | [d1, d2, d3, d4] => { results := [.lit (.bool false)], args := [d1, d2, d3, d4] }
  | _ => none }
def CodeBehindWrongFalsely : Prop := codeBehindRow.holds Tryd.pinned (OpenSpec.ofChange codeBehindWrong)

/-- 'scrivenerlaw02.CodeStays': WHATEVER THE INPUT: true; the input reads as it did. -/
def codeStaysSpec : ChangeSpec := { name := "codeStays", fn := fun _ => fun
  | [d1, d2, d3] => { results := [.lit (.bool true)], args := [d1, d2, d3] }
  | _ => none }
def codeStaysRow : OpenClaim := { program := "ytbbikkncobgabaadoor", sum := "0cfea8f4cee46b13bf132feb5fdf49cee6c330afa9f2215f2041a28e0f6ffe75", func := "scrivener/scrivenerlaw02.CodeStays", spec := "codeStays", unfollowed := true, recurses := true, named := ["bytes.ErrTooLarge"], apart := false, laid := [("bytes.ErrTooLarge", laid_bytes_ErrTooLarge)] }
def CodeStaysSaid : Prop := codeStaysRow.holds Tryd.pinned (OpenSpec.ofChange codeStaysSpec)

/-- ITS FALSE NEIGHBOUR: 'it returns false'. Refute it at one input. -/
def codeStaysWrong : ChangeSpec := { name := "codeStays", fn := fun _ => fun
  | [d1, d2, d3] => { results := [.lit (.bool false)], args := [d1, d2, d3] }
  | _ => none }
def CodeStaysWrongFalsely : Prop := codeStaysRow.holds Tryd.pinned (OpenSpec.ofChange codeStaysWrong)

/-- 'scrivenerlaw24.WireDecodes': WHATEVER THE INPUT: true; the input reads as it did. -/
def wireDecodesSpec : ChangeSpec := { name := "wireDecodes", fn := fun _ => fun
  | [d] => { results := [.lit (.bool true)], args := [d] }
  | _ => none }
def wireDecodesRow : OpenClaim := { program := "ytbbikkncobgabaadoor", sum := "0cfea8f4cee46b13bf132feb5fdf49cee6c330afa9f2215f2041a28e0f6ffe75", func := "scrivener/scrivenerlaw24.WireDecodes", spec := "wireDecodes", unfollowed := true, recurses := true, named := ["bytes.ErrTooLarge"], apart := false, laid := [("bytes.ErrTooLarge", laid_bytes_ErrTooLarge)] }
def WireDecodesSaid : Prop := wireDecodesRow.holds Tryd.pinned (OpenSpec.ofChange wireDecodesSpec)

/-- ITS FALSE NEIGHBOUR: 'it returns false'. Refute it at one input. -/
def wireDecodesWrong : ChangeSpec := { name := "wireDecodes", fn := fun _ => fun
  | [d] => { results := [.lit (.bool false)], args := [d] }
  | _ => none }
def WireDecodesWrongFalsely : Prop := wireDecodesRow.holds Tryd.pinned (OpenSpec.ofChange wireDecodesWrong)

/-- 'scrivenerlaw24.WireBack': WHATEVER THE INPUT: true; the input reads as it did. -/
def wireBackSpec : ChangeSpec := { name := "wireBack", fn := fun _ => fun
  | [d1, d2, d3] => { results := [.lit (.bool true)], args := [d1, d2, d3] }
  | _ => none }
def wireBackRow : OpenClaim := { program := "ytbbikkncobgabaadoor", sum := "0cfea8f4cee46b13bf132feb5fdf49cee6c330afa9f2215f2041a28e0f6ffe75", func := "scrivener/scrivenerlaw24.WireBack", spec := "wireBack", unfollowed := true, recurses := true, named := ["bytes.ErrTooLarge"], apart := false, laid := [("bytes.ErrTooLarge", laid_bytes_ErrTooLarge)] }
def WireBackSaid : Prop := wireBackRow.holds Tryd.pinned (OpenSpec.ofChange wireBackSpec)

/-- ITS FALSE NEIGHBOUR: 'it returns false'. Refute it at one input. -/
def wireBackWrong : ChangeSpec := { name := "wireBack", fn := fun _ => fun
  | [d1, d2, d3] => { results := [.lit (.bool false)], args := [d1, d2, d3] }
  | _ => none }
def WireBackWrongFalsely : Prop := wireBackRow.holds Tryd.pinned (OpenSpec.ofChange wireBackWrong)

/-- 'scrivenerlaw24.WireSpoilt': WHATEVER THE INPUT: true; the input reads as it did. -/
def wireSpoiltSpec : ChangeSpec := { name := "wireSpoilt", fn := fun _ => fun
  | [d1, d2] => { results := [.lit (.bool true)], args := [d1, d2] }
  | _ => none }
def wireSpoiltRow : OpenClaim := { program := "ytbbikkncobgabaadoor", sum := "0cfea8f4cee46b13bf132feb5fdf49cee6c330afa9f2215f2041a28e0f6ffe75", func := "scrivener/scrivenerlaw24.WireSpoilt", spec := "wireSpoilt", unfollowed := true, recurses := true, named := ["bytes.ErrTooLarge"], apart := false, laid := [("bytes.ErrTooLarge", laid_bytes_ErrTooLarge)] }
def WireSpoiltSaid : Prop := wireSpoiltRow.holds Tryd.pinned (OpenSpec.ofChange wireSpoiltSpec)

/-- ITS FALSE NEIGHBOUR: 'it returns false'. Refute it at one input. -/
def wireSpoiltWrong : ChangeSpec := { name := "wireSpoilt", fn := fun _ => fun
  | [d1, d2] => { results := [.lit (.bool false)], args := [d1, d2] }
  | _ => none }
def WireSpoiltWrongFalsely : Prop := wireSpoiltRow.holds Tryd.pinned (OpenSpec.ofChange wireSpoiltWrong)

/-- 'scrivenerlaw24.WireEncodes': WHATEVER THE INPUT: true; the input reads as it did. -/
def wireEncodesSpec : ChangeSpec := { name := "wireEncodes", fn := fun _ => fun
  | [d1, d2] => { results := [.lit (.bool true)], args := [d1, d2] }
  | _ => none }
def wireEncodesRow : OpenClaim := { program := "ytbbikkncobgabaadoor", sum := "0cfea8f4cee46b13bf132feb5fdf49cee6c330afa9f2215f2041a28e0f6ffe75", func := "scrivener/scrivenerlaw24.WireEncodes", spec := "wireEncodes", unfollowed := true, recurses := true, named := ["bytes.ErrTooLarge"], apart := false, laid := [("bytes.ErrTooLarge", laid_bytes_ErrTooLarge)] }
def WireEncodesSaid : Prop := wireEncodesRow.holds Tryd.pinned (OpenSpec.ofChange wireEncodesSpec)

/-- ITS FALSE NEIGHBOUR: 'it returns false'. Refute it at one input. -/
def wireEncodesWrong : ChangeSpec := { name := "wireEncodes", fn := fun _ => fun
  | [d1, d2] => { results := [.lit (.bool false)], args := [d1, d2] }
  | _ => none }
def WireEncodesWrongFalsely : Prop := wireEncodesRow.holds Tryd.pinned (OpenSpec.ofChange wireEncodesWrong)

/- THE SECOND FORM. 'bulk': how many values and letters a reading holds, each counted each time it is reached (what is shared counts as often as it is met; a slice's spare places count too). A statement '..UptoSaid' is the law's where the arguments, and the package variables that the reading takes, are together of bulk at most 1048576: NARROWER than '..Said'. Prove '..Said' where nothing that the law and all that it calls make is longer than what came in: it says more and counts as full. Else prove '..UptoSaid'. A law counts once. -/
mutual
def uptoBulk {H : Type} : DataW H → Nat
  | .lit (.string bytes) => bytes.length + 1
  | .lit _ => 1
  | .nil => 1
  | .ptr d => uptoBulk d + 1
  | .slice elems spare => uptoBulkAll elems + uptoBulkAll spare + 1
  | .agg parts => uptoBulkAll parts + 1
  | .iface _ d => uptoBulk d + 1
  | .map entries => uptoBulkEntries entries + 1
  | .held _ => 1
def uptoBulkAll {H : Type} : List (DataW H) → Nat
  | [] => 0
  | d :: r => uptoBulk d + uptoBulkAll r
def uptoBulkEntries {H : Type} : List (Lit × DataW H) → Nat
  | [] => 0
  | x :: r => uptoBulkEntry x + uptoBulkEntries r
def uptoBulkEntry {H : Type} : Lit × DataW H → Nat
  | (.string bytes, d) => bytes.length + uptoBulk d + 1
  | (_, d) => uptoBulk d + 1
 end
def uptoSmall : (H : Type) → List (DataW H) → Bool := fun _ ds => decide (uptoBulkAll ds ≤ 1048576)
def OpenSpec.upto (s : _root_.Go.ChangeSpec) : _root_.Go.OpenSpec := { _root_.Go.OpenSpec.ofChange s with cond := some uptoSmall }

/-- 'scrivenerlaw02.CodePuts', WHERE WHAT IT READS IS OF BULK AT MOST 1048576: true; the input reads as it did. -/
def codePutsUptoRow : OpenClaim := { program := "ytbbikkncobgabaadoor", sum := "0cfea8f4cee46b13bf132feb5fdf49cee6c330afa9f2215f2041a28e0f6ffe75", func := "scrivener/scrivenerlaw02.CodePuts", spec := "codePuts", unfollowed := true, recurses := true, named := ["bytes.ErrTooLarge"], apart := false, laid := [("bytes.ErrTooLarge", laid_bytes_ErrTooLarge)], narrowed := true }
def CodePutsUptoSaid : Prop := codePutsUptoRow.holds Tryd.pinned (OpenSpec.upto codePutsSpec)

/-- 'scrivenerlaw02.CodeEach', WHERE WHAT IT READS IS OF BULK AT MOST 1048576: true; the input reads as it did. -/
def codeEachUptoRow : OpenClaim := { program := "ytbbikkncobgabaadoor", sum := "0cfea8f4cee46b13bf132feb5fdf49cee6c330afa9f2215f2041a28e0f6ffe75", func := "scrivener/scrivenerlaw02.CodeEach", spec := "codeEach", unfollowed := true, recurses := true, named := ["bytes.ErrTooLarge"], apart := false, laid := [("bytes.ErrTooLarge", laid_bytes_ErrTooLarge)], narrowed := true }
def CodeEachUptoSaid : Prop := codeEachUptoRow.holds Tryd.pinned (OpenSpec.upto codeEachSpec)

/-- 'scrivenerlaw02.CodeGets', WHERE WHAT IT READS IS OF BULK AT MOST 1048576: true; the input reads as it did. -/
def codeGetsUptoRow : OpenClaim := { program := "ytbbikkncobgabaadoor", sum := "0cfea8f4cee46b13bf132feb5fdf49cee6c330afa9f2215f2041a28e0f6ffe75", func := "scrivener/scrivenerlaw02.CodeGets", spec := "codeGets", unfollowed := true, recurses := true, named := ["bytes.ErrTooLarge"], apart := false, laid := [("bytes.ErrTooLarge", laid_bytes_ErrTooLarge)], narrowed := true }
def CodeGetsUptoSaid : Prop := codeGetsUptoRow.holds Tryd.pinned (OpenSpec.upto codeGetsSpec)

/-- 'scrivenerlaw02.CodeNobody', WHERE WHAT IT READS IS OF BULK AT MOST 1048576: true; the input reads as it did. -/
def codeNobodyUptoRow : OpenClaim := { program := "ytbbikkncobgabaadoor", sum := "0cfea8f4cee46b13bf132feb5fdf49cee6c330afa9f2215f2041a28e0f6ffe75", func := "scrivener/scrivenerlaw02.CodeNobody", spec := "codeNobody", unfollowed := true, recurses := true, named := ["bytes.ErrTooLarge"], apart := false, laid := [("bytes.ErrTooLarge", laid_bytes_ErrTooLarge)], narrowed := true }
def CodeNobodyUptoSaid : Prop := codeNobodyUptoRow.holds Tryd.pinned (OpenSpec.upto codeNobodySpec)

/-- 'scrivenerlaw02.CodeTwo', WHERE WHAT IT READS IS OF BULK AT MOST 1048576: true; the input reads as it did. -/
def codeTwoUptoRow : OpenClaim := { program := "ytbbikkncobgabaadoor", sum := "0cfea8f4cee46b13bf132feb5fdf49cee6c330afa9f2215f2041a28e0f6ffe75", func := "scrivener/scrivenerlaw02.CodeTwo", spec := "codeTwo", unfollowed := true, recurses := true, named := ["bytes.ErrTooLarge"], apart := false, laid := [("bytes.ErrTooLarge", laid_bytes_ErrTooLarge)], narrowed := true }
def CodeTwoUptoSaid : Prop := codeTwoUptoRow.holds Tryd.pinned (OpenSpec.upto codeTwoSpec)

/-- 'scrivenerlaw02.CodeBehind', WHERE WHAT IT READS IS OF BULK AT MOST 1048576: true; the input reads as it did. -/
def codeBehindUptoRow : OpenClaim := { program := "ytbbikkncobgabaadoor", sum := "0cfea8f4cee46b13bf132feb5fdf49cee6c330afa9f2215f2041a28e0f6ffe75", func := "scrivener/scrivenerlaw02.CodeBehind", spec := "codeBehind", unfollowed := true, recurses := true, named := ["bytes.ErrTooLarge"], apart := false, laid := [("bytes.ErrTooLarge", laid_bytes_ErrTooLarge)], narrowed := true }
def CodeBehindUptoSaid : Prop := codeBehindUptoRow.holds Tryd.pinned (OpenSpec.upto codeBehindSpec)

/-- 'scrivenerlaw02.CodeStays', WHERE WHAT IT READS IS OF BULK AT MOST 1048576: true; the input reads as it did. -/
def codeStaysUptoRow : OpenClaim := { program := "ytbbikkncobgabaadoor", sum := "0cfea8f4cee46b13bf132feb5fdf49cee6c330afa9f2215f2041a28e0f6ffe75", func := "scrivener/scrivenerlaw02.CodeStays", spec := "codeStays", unfollowed := true, recurses := true, named := ["bytes.ErrTooLarge"], apart := false, laid := [("bytes.ErrTooLarge", laid_bytes_ErrTooLarge)], narrowed := true }
def CodeStaysUptoSaid : Prop := codeStaysUptoRow.holds Tryd.pinned (OpenSpec.upto codeStaysSpec)

/-- 'scrivenerlaw24.WireDecodes', WHERE WHAT IT READS IS OF BULK AT MOST 1048576: true; the input reads as it did. -/
def wireDecodesUptoRow : OpenClaim := { program := "ytbbikkncobgabaadoor", sum := "0cfea8f4cee46b13bf132feb5fdf49cee6c330afa9f2215f2041a28e0f6ffe75", func := "scrivener/scrivenerlaw24.WireDecodes", spec := "wireDecodes", unfollowed := true, recurses := true, named := ["bytes.ErrTooLarge"], apart := false, laid := [("bytes.ErrTooLarge", laid_bytes_ErrTooLarge)], narrowed := true }
def WireDecodesUptoSaid : Prop := wireDecodesUptoRow.holds Tryd.pinned (OpenSpec.upto wireDecodesSpec)

/-- 'scrivenerlaw24.WireBack', WHERE WHAT IT READS IS OF BULK AT MOST 1048576: true; the input reads as it did. -/
def wireBackUptoRow : OpenClaim := { program := "ytbbikkncobgabaadoor", sum := "0cfea8f4cee46b13bf132feb5fdf49cee6c330afa9f2215f2041a28e0f6ffe75", func := "scrivener/scrivenerlaw24.WireBack", spec := "wireBack", unfollowed := true, recurses := true, named := ["bytes.ErrTooLarge"], apart := false, laid := [("bytes.ErrTooLarge", laid_bytes_ErrTooLarge)], narrowed := true }
def WireBackUptoSaid : Prop := wireBackUptoRow.holds Tryd.pinned (OpenSpec.upto wireBackSpec)

/-- 'scrivenerlaw24.WireSpoilt', WHERE WHAT IT READS IS OF BULK AT MOST 1048576: true; the input reads as it did. -/
def wireSpoiltUptoRow : OpenClaim := { program := "ytbbikkncobgabaadoor", sum := "0cfea8f4cee46b13bf132feb5fdf49cee6c330afa9f2215f2041a28e0f6ffe75", func := "scrivener/scrivenerlaw24.WireSpoilt", spec := "wireSpoilt", unfollowed := true, recurses := true, named := ["bytes.ErrTooLarge"], apart := false, laid := [("bytes.ErrTooLarge", laid_bytes_ErrTooLarge)], narrowed := true }
def WireSpoiltUptoSaid : Prop := wireSpoiltUptoRow.holds Tryd.pinned (OpenSpec.upto wireSpoiltSpec)

/-- 'scrivenerlaw24.WireEncodes', WHERE WHAT IT READS IS OF BULK AT MOST 1048576: true; the input reads as it did. -/
def wireEncodesUptoRow : OpenClaim := { program := "ytbbikkncobgabaadoor", sum := "0cfea8f4cee46b13bf132feb5fdf49cee6c330afa9f2215f2041a28e0f6ffe75", func := "scrivener/scrivenerlaw24.WireEncodes", spec := "wireEncodes", unfollowed := true, recurses := true, named := ["bytes.ErrTooLarge"], apart := false, laid := [("bytes.ErrTooLarge", laid_bytes_ErrTooLarge)], narrowed := true }
def WireEncodesUptoSaid : Prop := wireEncodesUptoRow.holds Tryd.pinned (OpenSpec.upto wireEncodesSpec)

end Rows
end Go.Proofs.YtbbikkncobgabaaDoor
