/-
  NARROWER THAN 'FOR EVERY INPUT', by the rows' own cells (each row's printed sentence says how): ReachFinds: loops, laid.
  DERIVED. THE GIVEN ROWS OF THIS SEAT. 1 by the template 'for every input the law returns true; each argument reads behind the call as it read before'; 0 by the template 'total and deterministic' (their statements: YtafapnolamcdmaaGreatDoorTotals.lean).
  GIVEN WITH THE SEED: the statements are not yours to turn. If you find one false, say at which input.
  Laid BY PROGRAM, IN A SANDBOX (cutbox-rows.mjs): the forced cells as the released guide's own fill.sh prints them over the translation 55b64858b1645615… (all of the seat's roots in one cut). By AI agents, Wed Nov 11 2026. No macro, syntax, notation, axiom, sorry.
-/
import Derived.Test.YtafapnolamcdmaaGreatDoorChecked
import GoSem.Claim
import GoSem.ClaimJoined
import GoSem.ClaimMapViews
import Derived.JoinedTies
import Derived.KernelRfl
namespace Go.Proofs.YtafapnolamcdmaaGreatDoor
/- THE CELL 'sum', in the pinned program and in every row, IS THE sha256 OF THE DUMP (.gsa) THAT YtafapnolamcdmaaGreatDoorProg.lean LOADS. Nothing in Lean hashes anything: it is a label: what it is worth is what the hold of that sum in a sandbox is worth. -/
noncomputable def Tryz.pinned : Pinned := { name := "ytafapnolamcdmaagreatdoor", sum := "55b64858b16456159ce470d68a91d757ce5faa0e626e6c5ff80fa6190fe80331", checked := Tryz.checked }
namespace Rows
def none {H : Type} : Left H := { results := [], args := [] }

/- WHAT THE LISTED PACKAGE-LEVEL VARIABLES READ AS WHEN THE CALL BEGINS. Each datum BY PROGRAM (the guide's laid-datum.mjs) off the statement by which the dump's own 'gosem.cut.vars' lays the variable. In a bare row this is a premise. The card (YtafapnolamcdmaaGreatDoorCards.lean) ties it to the program's text. -/
def laid_errors_errorType {H : Type} : DataW H := .iface "internal/reflectlite.rtype" (.agg [.ptr (.lit (.string [101, 114, 114, 111, 114]))])
def laid_lustrum_api_ErrText {H : Type} : DataW H := .iface "*errors.errorString" (.ptr (.agg [.lit (.string [108, 117, 115, 116, 114, 117, 109, 58, 32, 116, 101, 120, 116])]))
def laid_lustrum_api_ErrBound {H : Type} : DataW H := .iface "*errors.errorString" (.ptr (.agg [.lit (.string [108, 117, 115, 116, 114, 117, 109, 58, 32, 98, 111, 117, 110, 100])]))
def laid_lustrum_api_ErrShape {H : Type} : DataW H := .iface "*errors.errorString" (.ptr (.agg [.lit (.string [108, 117, 115, 116, 114, 117, 109, 58, 32, 115, 104, 97, 112, 101])]))
def laid_lustrum_api_ErrName {H : Type} : DataW H := .iface "*errors.errorString" (.ptr (.agg [.lit (.string [108, 117, 115, 116, 114, 117, 109, 58, 32, 110, 97, 109, 101])]))
def laid_lustrum_api_ErrType {H : Type} : DataW H := .iface "*errors.errorString" (.ptr (.agg [.lit (.string [108, 117, 115, 116, 114, 117, 109, 58, 32, 116, 121, 112, 101])]))
def laid_lustrum_api_ErrCycle {H : Type} : DataW H := .iface "*errors.errorString" (.ptr (.agg [.lit (.string [108, 117, 115, 116, 114, 117, 109, 58, 32, 99, 121, 99, 108, 101])]))
def laid_lustrum_api_ErrFirst {H : Type} : DataW H := .iface "*errors.errorString" (.ptr (.agg [.lit (.string [108, 117, 115, 116, 114, 117, 109, 58, 32, 102, 105, 114, 115, 116])]))
def laid_lustrum_api_ErrProof {H : Type} : DataW H := .iface "*errors.errorString" (.ptr (.agg [.lit (.string [108, 117, 115, 116, 114, 117, 109, 58, 32, 112, 114, 111, 111, 102])]))
def laid_lustrum_api_ErrNone {H : Type} : DataW H := .iface "*errors.errorString" (.ptr (.agg [.lit (.string [108, 117, 115, 116, 114, 117, 109, 58, 32, 110, 111, 110, 101])]))
def laid_lustrum_tree_levels {H : Type} : DataW H := .agg [.slice [.lit (.string [111, 114]), .lit (.string [120, 111, 114])] [], .slice [.lit (.string [97, 110, 100])] [], .slice [.lit (.string [61]), .lit (.string [60, 62]), .lit (.string [60]), .lit (.string [60, 61]), .lit (.string [62]), .lit (.string [62, 61]), .lit (.string [61, 62])] [], .slice [.lit (.string [43]), .lit (.string [45])] [], .slice [.lit (.string [42]), .lit (.string [47]), .lit (.string [109, 111, 100])] []]

/-- 'lustrumlaw2.ReachFinds': WHATEVER THE INPUT: true; the input reads as it did. -/
def reachFindsSpec : ChangeSpec := { name := "reachFinds", fn := fun _ => fun
  | [d1, d2, d3] => { results := [.lit (.bool true)], args := [d1, d2, d3] }
  | _ => none }
def reachFindsRow : OpenClaim := { program := "ytafapnolamcdmaagreatdoor", sum := "55b64858b16456159ce470d68a91d757ce5faa0e626e6c5ff80fa6190fe80331", func := "lustrum/lustrumlaw2.ReachFinds", spec := "reachFinds", inPlace := ["internal/abi.NoEscape", "internal/reflectlite.ValueOf", "(internal/reflectlite.Value).Type", "(internal/reflectlite.Value).IsNil", "internal/reflectlite.TypeOf", "(internal/reflectlite.Value).Elem", "(internal/reflectlite.Value).Set"], unfollowed := true, recurses := true, named := ["lustrum/api.ErrBound", "lustrum/api.ErrType", "lustrum/api.ErrFirst", "lustrum/api.ErrCycle", "lustrum/api.ErrShape", "lustrum/tree.levels", "lustrum/api.ErrText", "lustrum/api.ErrName", "lustrum/api.ErrProof", "lustrum/api.ErrNone", "errors.errorType"], loops := true, apart := false, laid := [("errors.errorType", laid_errors_errorType), ("lustrum/api.ErrText", laid_lustrum_api_ErrText), ("lustrum/api.ErrBound", laid_lustrum_api_ErrBound), ("lustrum/api.ErrShape", laid_lustrum_api_ErrShape), ("lustrum/api.ErrName", laid_lustrum_api_ErrName), ("lustrum/api.ErrType", laid_lustrum_api_ErrType), ("lustrum/api.ErrCycle", laid_lustrum_api_ErrCycle), ("lustrum/api.ErrFirst", laid_lustrum_api_ErrFirst), ("lustrum/api.ErrProof", laid_lustrum_api_ErrProof), ("lustrum/api.ErrNone", laid_lustrum_api_ErrNone), ("lustrum/tree.levels", laid_lustrum_tree_levels)] }
def ReachFindsSaid : Prop := reachFindsRow.holds Tryz.pinned (OpenSpec.ofChange reachFindsSpec)

/-- ITS FALSE NEIGHBOUR: 'it returns false'. Refute it at one input. -/
def reachFindsWrong : ChangeSpec := { name := "reachFinds", fn := fun _ => fun
  | [d1, d2, d3] => { results := [.lit (.bool false)], args := [d1, d2, d3] }
  | _ => none }
def ReachFindsWrongFalsely : Prop := reachFindsRow.holds Tryz.pinned (OpenSpec.ofChange reachFindsWrong)

/- THE SECOND FORM. 'bulk': how many values and letters a reading holds, each counted each time it is reached (what is shared counts as often as it is met; a slice's spare places count too). A statement '..UptoSaid' is the law's where the arguments, and the package variables that the reading takes, are together of bulk at most 1048576: NARROWER than '..Said'. Prove '..Said' where nothing that the law and all that it calls make is longer than what came in: it says more and counts as full. Else prove '..UptoSaid'. A law counts once. -/
mutual
def uptoBulk {H : Type} : DataW H → Nat
  | .lit (.string bytes) => bytes.length + 1
  | .lit _ => 1
  | .nil => 1
  | .ptr d => uptoBulk d + 1
  | .slice elems spare => uptoBulkAll elems + uptoBulkAll spare + 1
  | .agg parts => uptoBulkAll parts + 1
  | .iface _ d => uptoBulk d + 1
  | .map entries => uptoBulkEntries entries + 1
  | .held _ => 1
def uptoBulkAll {H : Type} : List (DataW H) → Nat
  | [] => 0
  | d :: r => uptoBulk d + uptoBulkAll r
def uptoBulkEntries {H : Type} : List (Lit × DataW H) → Nat
  | [] => 0
  | x :: r => uptoBulkEntry x + uptoBulkEntries r
def uptoBulkEntry {H : Type} : Lit × DataW H → Nat
  | (.string bytes, d) => bytes.length + uptoBulk d + 1
  | (_, d) => uptoBulk d + 1
 end
def uptoSmall : (H : Type) → List (DataW H) → Bool := fun _ ds => decide (uptoBulkAll ds ≤ 1048576)
def OpenSpec.upto (s : _root_.Go.ChangeSpec) : _root_.Go.OpenSpec := { _root_.Go.OpenSpec.ofChange s with cond := some uptoSmall }

/-- 'lustrumlaw2.ReachFinds', WHERE WHAT IT READS IS OF BULK AT MOST 1048576: true; the input reads as it did. -/
def reachFindsUptoRow : OpenClaim := { program := "ytafapnolamcdmaagreatdoor", sum := "55b64858b16456159ce470d68a91d757ce5faa0e626e6c5ff80fa6190fe80331", func := "lustrum/lustrumlaw2.ReachFinds", spec := "reachFinds", inPlace := ["internal/abi.NoEscape", "internal/reflectlite.ValueOf", "(internal/reflectlite.Value).Type", "(internal/reflectlite.Value).IsNil", "internal/reflectlite.TypeOf", "(internal/reflectlite.Value).Elem", "(internal/reflectlite.Value).Set"], unfollowed := true, recurses := true, named := ["lustrum/api.ErrBound", "lustrum/api.ErrType", "lustrum/api.ErrFirst", "lustrum/api.ErrCycle", "lustrum/api.ErrShape", "lustrum/tree.levels", "lustrum/api.ErrText", "lustrum/api.ErrName", "lustrum/api.ErrProof", "lustrum/api.ErrNone", "errors.errorType"], loops := true, apart := false, laid := [("errors.errorType", laid_errors_errorType), ("lustrum/api.ErrText", laid_lustrum_api_ErrText), ("lustrum/api.ErrBound", laid_lustrum_api_ErrBound), ("lustrum/api.ErrShape", laid_lustrum_api_ErrShape), ("lustrum/api.ErrName", laid_lustrum_api_ErrName), ("lustrum/api.ErrType", laid_lustrum_api_ErrType), ("lustrum/api.ErrCycle", laid_lustrum_api_ErrCycle), ("lustrum/api.ErrFirst", laid_lustrum_api_ErrFirst), ("lustrum/api.ErrProof", laid_lustrum_api_ErrProof), ("lustrum/api.ErrNone", laid_lustrum_api_ErrNone), ("lustrum/tree.levels", laid_lustrum_tree_levels)], narrowed := true }
def ReachFindsUptoSaid : Prop := reachFindsUptoRow.holds Tryz.pinned (OpenSpec.upto reachFindsSpec)

end Rows
end Go.Proofs.YtafapnolamcdmaaGreatDoor
