/-
  NARROWER THAN 'FOR EVERY INPUT', by the rows' own cells (each row's printed sentence says how): OrderIs: loops, laid · OrderHolds: laid · LexTexts: laid.
  DERIVED. THE GIVEN ROWS OF THIS SEAT. 3 by the template 'for every input the law returns true; each argument reads behind the call as it read before'; 0 by the template 'total and deterministic' (their statements: YtminjdmgfiellaaDoorTotals.lean).
  GIVEN WITH THE SEED: the statements are not yours to turn. If you find one false, say at which input.
  Laid BY PROGRAM, IN A SANDBOX (cutbox-rows.mjs): the forced cells as the released guide's own fill.sh prints them over the translation 52046898290ca837… (all of the seat's roots in one cut). By AI agents, Wed Nov 11 2026. No macro, syntax, notation, axiom, sorry.
-/
import Derived.Test.YtminjdmgfiellaaDoorChecked
import GoSem.Claim
import GoSem.ClaimJoined
import GoSem.ClaimMapViews
import Derived.JoinedTies
import Derived.KernelRfl
namespace Go.Proofs.YtminjdmgfiellaaDoor
/- THE CELL 'sum', in the pinned program and in every row, IS THE sha256 OF THE DUMP (.gsa) THAT YtminjdmgfiellaaDoorProg.lean LOADS. Nothing in Lean hashes anything: it is a label: what it is worth is what the hold of that sum in a sandbox is worth. -/
noncomputable def Tryd.pinned : Pinned := { name := "ytminjdmgfiellaadoor", sum := "52046898290ca83733c773e21d897b07cfd74bcacbdc2fda510f13c4abb0f60d", checked := Tryd.checked }
namespace Rows
def none {H : Type} : Left H := { results := [], args := [] }

/- WHAT THE LISTED PACKAGE-LEVEL VARIABLES READ AS WHEN THE CALL BEGINS. Each datum BY PROGRAM (the guide's laid-datum.mjs) off the statement by which the dump's own 'gosem.cut.vars' lays the variable. In a bare row this is a premise. The card (YtminjdmgfiellaaDoorCards.lean) ties it to the program's text. -/
def laid_errors_errorType {H : Type} : DataW H := .iface "internal/reflectlite.rtype" (.agg [.ptr (.lit (.string [101, 114, 114, 111, 114]))])
def laid_lustrum_api_ErrText {H : Type} : DataW H := .iface "*errors.errorString" (.ptr (.agg [.lit (.string [108, 117, 115, 116, 114, 117, 109, 58, 32, 116, 101, 120, 116])]))
def laid_lustrum_api_ErrBound {H : Type} : DataW H := .iface "*errors.errorString" (.ptr (.agg [.lit (.string [108, 117, 115, 116, 114, 117, 109, 58, 32, 98, 111, 117, 110, 100])]))
def laid_lustrum_api_ErrShape {H : Type} : DataW H := .iface "*errors.errorString" (.ptr (.agg [.lit (.string [108, 117, 115, 116, 114, 117, 109, 58, 32, 115, 104, 97, 112, 101])]))
def laid_lustrum_api_ErrName {H : Type} : DataW H := .iface "*errors.errorString" (.ptr (.agg [.lit (.string [108, 117, 115, 116, 114, 117, 109, 58, 32, 110, 97, 109, 101])]))
def laid_lustrum_api_ErrType {H : Type} : DataW H := .iface "*errors.errorString" (.ptr (.agg [.lit (.string [108, 117, 115, 116, 114, 117, 109, 58, 32, 116, 121, 112, 101])]))
def laid_lustrum_api_ErrCycle {H : Type} : DataW H := .iface "*errors.errorString" (.ptr (.agg [.lit (.string [108, 117, 115, 116, 114, 117, 109, 58, 32, 99, 121, 99, 108, 101])]))
def laid_lustrum_api_ErrFirst {H : Type} : DataW H := .iface "*errors.errorString" (.ptr (.agg [.lit (.string [108, 117, 115, 116, 114, 117, 109, 58, 32, 102, 105, 114, 115, 116])]))
def laid_lustrum_api_ErrProof {H : Type} : DataW H := .iface "*errors.errorString" (.ptr (.agg [.lit (.string [108, 117, 115, 116, 114, 117, 109, 58, 32, 112, 114, 111, 111, 102])]))
def laid_lustrum_api_ErrNone {H : Type} : DataW H := .iface "*errors.errorString" (.ptr (.agg [.lit (.string [108, 117, 115, 116, 114, 117, 109, 58, 32, 110, 111, 110, 101])]))
def laid_lustrum_tree_levels {H : Type} : DataW H := .agg [.slice [.lit (.string [111, 114]), .lit (.string [120, 111, 114])] [], .slice [.lit (.string [97, 110, 100])] [], .slice [.lit (.string [61]), .lit (.string [60, 62]), .lit (.string [60]), .lit (.string [60, 61]), .lit (.string [62]), .lit (.string [62, 61]), .lit (.string [61, 62])] [], .slice [.lit (.string [43]), .lit (.string [45])] [], .slice [.lit (.string [42]), .lit (.string [47]), .lit (.string [109, 111, 100])] []]
def laid_math_bits_deBruijn32tab {H : Type} : DataW H := .agg [.lit (.int .u8 0), .lit (.int .u8 1), .lit (.int .u8 28), .lit (.int .u8 2), .lit (.int .u8 29), .lit (.int .u8 14), .lit (.int .u8 24), .lit (.int .u8 3), .lit (.int .u8 30), .lit (.int .u8 22), .lit (.int .u8 20), .lit (.int .u8 15), .lit (.int .u8 25), .lit (.int .u8 17), .lit (.int .u8 4), .lit (.int .u8 8), .lit (.int .u8 31), .lit (.int .u8 27), .lit (.int .u8 13), .lit (.int .u8 23), .lit (.int .u8 21), .lit (.int .u8 19), .lit (.int .u8 16), .lit (.int .u8 7), .lit (.int .u8 26), .lit (.int .u8 12), .lit (.int .u8 18), .lit (.int .u8 6), .lit (.int .u8 11), .lit (.int .u8 5), .lit (.int .u8 10), .lit (.int .u8 9)]
def laid_math_bits_deBruijn64tab {H : Type} : DataW H := .agg [.lit (.int .u8 0), .lit (.int .u8 1), .lit (.int .u8 56), .lit (.int .u8 2), .lit (.int .u8 57), .lit (.int .u8 49), .lit (.int .u8 28), .lit (.int .u8 3), .lit (.int .u8 61), .lit (.int .u8 58), .lit (.int .u8 42), .lit (.int .u8 50), .lit (.int .u8 38), .lit (.int .u8 29), .lit (.int .u8 17), .lit (.int .u8 4), .lit (.int .u8 62), .lit (.int .u8 47), .lit (.int .u8 59), .lit (.int .u8 36), .lit (.int .u8 45), .lit (.int .u8 43), .lit (.int .u8 51), .lit (.int .u8 22), .lit (.int .u8 53), .lit (.int .u8 39), .lit (.int .u8 33), .lit (.int .u8 30), .lit (.int .u8 24), .lit (.int .u8 18), .lit (.int .u8 12), .lit (.int .u8 5), .lit (.int .u8 63), .lit (.int .u8 55), .lit (.int .u8 48), .lit (.int .u8 27), .lit (.int .u8 60), .lit (.int .u8 41), .lit (.int .u8 37), .lit (.int .u8 16), .lit (.int .u8 46), .lit (.int .u8 35), .lit (.int .u8 44), .lit (.int .u8 21), .lit (.int .u8 52), .lit (.int .u8 32), .lit (.int .u8 23), .lit (.int .u8 11), .lit (.int .u8 54), .lit (.int .u8 26), .lit (.int .u8 40), .lit (.int .u8 15), .lit (.int .u8 34), .lit (.int .u8 20), .lit (.int .u8 31), .lit (.int .u8 10), .lit (.int .u8 25), .lit (.int .u8 14), .lit (.int .u8 19), .lit (.int .u8 9), .lit (.int .u8 13), .lit (.int .u8 8), .lit (.int .u8 7), .lit (.int .u8 6)]
def laid_internal_strconv_uint64pow10 {H : Type} : DataW H := .agg [.lit (.int .u64 1), .lit (.int .u64 10), .lit (.int .u64 100), .lit (.int .u64 1000), .lit (.int .u64 10000), .lit (.int .u64 100000), .lit (.int .u64 1000000), .lit (.int .u64 10000000), .lit (.int .u64 100000000), .lit (.int .u64 1000000000), .lit (.int .u64 10000000000), .lit (.int .u64 100000000000), .lit (.int .u64 1000000000000), .lit (.int .u64 10000000000000), .lit (.int .u64 100000000000000), .lit (.int .u64 1000000000000000), .lit (.int .u64 10000000000000000), .lit (.int .u64 100000000000000000), .lit (.int .u64 1000000000000000000), .lit (.int .u64 10000000000000000000)]
def laid_strconv_ErrRange {H : Type} : DataW H := .iface "*errors.errorString" (.ptr (.agg [.lit (.string [118, 97, 108, 117, 101, 32, 111, 117, 116, 32, 111, 102, 32, 114, 97, 110, 103, 101])]))
def laid_strconv_ErrSyntax {H : Type} : DataW H := .iface "*errors.errorString" (.ptr (.agg [.lit (.string [105, 110, 118, 97, 108, 105, 100, 32, 115, 121, 110, 116, 97, 120])]))
def laid_lustrum_lex_words {H : Type} : DataW H := .slice [.lit (.string [97, 110, 100]), .lit (.string [97, 115, 115, 101, 114, 116]), .lit (.string [98, 111, 111, 108]), .lit (.string [99, 104, 101, 99, 107]), .lit (.string [101, 108, 115, 101]), .lit (.string [102, 97, 108, 115, 101]), .lit (.string [102, 98, 121]), .lit (.string [105, 102]), .lit (.string [105, 110, 116]), .lit (.string [108, 101, 116]), .lit (.string [109, 111, 100]), .lit (.string [110, 111, 100, 101]), .lit (.string [110, 111, 116]), .lit (.string [111, 114]), .lit (.string [112, 114, 101]), .lit (.string [114, 101, 116, 117, 114, 110, 115]), .lit (.string [116, 101, 108]), .lit (.string [116, 104, 101, 110]), .lit (.string [116, 114, 117, 101]), .lit (.string [118, 97, 114]), .lit (.string [120, 111, 114])] []
def laid_lustrum_lex_ops {H : Type} : DataW H := .slice [.lit (.string [60, 62]), .lit (.string [60, 61]), .lit (.string [62, 61]), .lit (.string [61, 62]), .lit (.string [45, 62]), .lit (.string [40]), .lit (.string [41]), .lit (.string [44]), .lit (.string [59]), .lit (.string [58]), .lit (.string [61]), .lit (.string [60]), .lit (.string [62]), .lit (.string [43]), .lit (.string [45]), .lit (.string [42]), .lit (.string [47])] []

/-- 'lustrumlaw2.OrderIs': WHATEVER THE INPUT: true; the input reads as it did. -/
def orderIsSpec : ChangeSpec := { name := "orderIs", fn := fun _ => fun
  | [d] => { results := [.lit (.bool true)], args := [d] }
  | _ => none }
def orderIsRow : OpenClaim := { program := "ytminjdmgfiellaadoor", sum := "52046898290ca83733c773e21d897b07cfd74bcacbdc2fda510f13c4abb0f60d", func := "lustrum/lustrumlaw2.OrderIs", spec := "orderIs", inPlace := ["internal/reflectlite.ValueOf", "(internal/reflectlite.Value).Type", "(internal/reflectlite.Value).IsNil", "internal/reflectlite.TypeOf", "(internal/reflectlite.Value).Elem", "(internal/reflectlite.Value).Set"], unfollowed := true, recurses := true, named := ["lustrum/api.ErrCycle", "lustrum/api.ErrShape", "lustrum/api.ErrBound", "lustrum/api.ErrType", "lustrum/tree.levels", "lustrum/api.ErrFirst", "lustrum/api.ErrText", "lustrum/api.ErrName", "lustrum/api.ErrProof", "lustrum/api.ErrNone", "errors.errorType"], loops := true, apart := false, laid := [("errors.errorType", laid_errors_errorType), ("lustrum/api.ErrText", laid_lustrum_api_ErrText), ("lustrum/api.ErrBound", laid_lustrum_api_ErrBound), ("lustrum/api.ErrShape", laid_lustrum_api_ErrShape), ("lustrum/api.ErrName", laid_lustrum_api_ErrName), ("lustrum/api.ErrType", laid_lustrum_api_ErrType), ("lustrum/api.ErrCycle", laid_lustrum_api_ErrCycle), ("lustrum/api.ErrFirst", laid_lustrum_api_ErrFirst), ("lustrum/api.ErrProof", laid_lustrum_api_ErrProof), ("lustrum/api.ErrNone", laid_lustrum_api_ErrNone), ("lustrum/tree.levels", laid_lustrum_tree_levels)] }
def OrderIsSaid : Prop := orderIsRow.holds Tryd.pinned (OpenSpec.ofChange orderIsSpec)

/-- ITS FALSE NEIGHBOUR: 'it returns false'. Refute it at one input. -/
def orderIsWrong : ChangeSpec := { name := "orderIs", fn := fun _ => fun
  | [d] => { results := [.lit (.bool false)], args := [d] }
  | _ => none }
def OrderIsWrongFalsely : Prop := orderIsRow.holds Tryd.pinned (OpenSpec.ofChange orderIsWrong)

/-- 'lustrumlaw2.OrderHolds': WHATEVER THE INPUT: true; the input reads as it did. -/
def orderHoldsSpec : ChangeSpec := { name := "orderHolds", fn := fun _ => fun
  | [d] => { results := [.lit (.bool true)], args := [d] }
  | _ => none }
def orderHoldsRow : OpenClaim := { program := "ytminjdmgfiellaadoor", sum := "52046898290ca83733c773e21d897b07cfd74bcacbdc2fda510f13c4abb0f60d", func := "lustrum/lustrumlaw2.OrderHolds", spec := "orderHolds", inPlace := ["internal/reflectlite.ValueOf", "(internal/reflectlite.Value).Type", "(internal/reflectlite.Value).IsNil", "internal/reflectlite.TypeOf", "(internal/reflectlite.Value).Elem", "(internal/reflectlite.Value).Set"], unfollowed := true, recurses := true, named := ["lustrum/api.ErrCycle", "lustrum/api.ErrShape", "lustrum/api.ErrBound", "lustrum/api.ErrType", "lustrum/tree.levels", "lustrum/api.ErrFirst", "lustrum/api.ErrText", "lustrum/api.ErrName", "lustrum/api.ErrProof", "lustrum/api.ErrNone", "errors.errorType"], apart := false, laid := [("errors.errorType", laid_errors_errorType), ("lustrum/api.ErrText", laid_lustrum_api_ErrText), ("lustrum/api.ErrBound", laid_lustrum_api_ErrBound), ("lustrum/api.ErrShape", laid_lustrum_api_ErrShape), ("lustrum/api.ErrName", laid_lustrum_api_ErrName), ("lustrum/api.ErrType", laid_lustrum_api_ErrType), ("lustrum/api.ErrCycle", laid_lustrum_api_ErrCycle), ("lustrum/api.ErrFirst", laid_lustrum_api_ErrFirst), ("lustrum/api.ErrProof", laid_lustrum_api_ErrProof), ("lustrum/api.ErrNone", laid_lustrum_api_ErrNone), ("lustrum/tree.levels", laid_lustrum_tree_levels)] }
def OrderHoldsSaid : Prop := orderHoldsRow.holds Tryd.pinned (OpenSpec.ofChange orderHoldsSpec)

/-- ITS FALSE NEIGHBOUR: 'it returns false'. Refute it at one input. -/
def orderHoldsWrong : ChangeSpec := { name := "orderHolds", fn := fun _ => fun
  | [d] => { results := [.lit (.bool false)], args := [d] }
  | _ => none }
def OrderHoldsWrongFalsely : Prop := orderHoldsRow.holds Tryd.pinned (OpenSpec.ofChange orderHoldsWrong)

/-- 'lustrumlaw1.LexTexts': WHATEVER THE INPUT: true; the input reads as it did. -/
def lexTextsSpec : ChangeSpec := { name := "lexTexts", fn := fun _ => fun
  | [d] => { results := [.lit (.bool true)], args := [d] }
  | _ => none }
def lexTextsRow : OpenClaim := { program := "ytminjdmgfiellaadoor", sum := "52046898290ca83733c773e21d897b07cfd74bcacbdc2fda510f13c4abb0f60d", func := "lustrum/lustrumlaw1.LexTexts", spec := "lexTexts", inPlace := ["internal/abi.NoEscape", "internal/reflectlite.ValueOf", "(internal/reflectlite.Value).Type", "(internal/reflectlite.Value).IsNil", "internal/reflectlite.TypeOf", "(internal/reflectlite.Value).Elem", "(internal/reflectlite.Value).Set"], unfollowed := true, recurses := true, named := ["lustrum/api.ErrBound", "lustrum/api.ErrText", "lustrum/lex.words", "lustrum/lex.ops", "strconv.ErrSyntax", "strconv.ErrRange", "internal/strconv.uint64pow10", "math/bits.deBruijn32tab", "math/bits.deBruijn64tab", "lustrum/api.ErrShape", "lustrum/api.ErrName", "lustrum/api.ErrType", "lustrum/api.ErrCycle", "lustrum/api.ErrFirst", "lustrum/api.ErrProof", "lustrum/api.ErrNone", "errors.errorType"], apart := false, laid := [("math/bits.deBruijn32tab", laid_math_bits_deBruijn32tab), ("math/bits.deBruijn64tab", laid_math_bits_deBruijn64tab), ("internal/strconv.uint64pow10", laid_internal_strconv_uint64pow10), ("errors.errorType", laid_errors_errorType), ("lustrum/api.ErrText", laid_lustrum_api_ErrText), ("lustrum/api.ErrBound", laid_lustrum_api_ErrBound), ("lustrum/api.ErrShape", laid_lustrum_api_ErrShape), ("lustrum/api.ErrName", laid_lustrum_api_ErrName), ("lustrum/api.ErrType", laid_lustrum_api_ErrType), ("lustrum/api.ErrCycle", laid_lustrum_api_ErrCycle), ("lustrum/api.ErrFirst", laid_lustrum_api_ErrFirst), ("lustrum/api.ErrProof", laid_lustrum_api_ErrProof), ("lustrum/api.ErrNone", laid_lustrum_api_ErrNone), ("strconv.ErrRange", laid_strconv_ErrRange), ("strconv.ErrSyntax", laid_strconv_ErrSyntax), ("lustrum/lex.words", laid_lustrum_lex_words), ("lustrum/lex.ops", laid_lustrum_lex_ops)] }
def LexTextsSaid : Prop := lexTextsRow.holds Tryd.pinned (OpenSpec.ofChange lexTextsSpec)

/-- ITS FALSE NEIGHBOUR: 'it returns false'. Refute it at one input. -/
def lexTextsWrong : ChangeSpec := { name := "lexTexts", fn := fun _ => fun
  | [d] => { results := [.lit (.bool false)], args := [d] }
  | _ => none }
def LexTextsWrongFalsely : Prop := lexTextsRow.holds Tryd.pinned (OpenSpec.ofChange lexTextsWrong)

/- THE SECOND FORM. 'bulk': how many values and letters a reading holds, each counted each time it is reached (what is shared counts as often as it is met; a slice's spare places count too). A statement '..UptoSaid' is the law's where the arguments, and the package variables that the reading takes, are together of bulk at most 1048576: NARROWER than '..Said'. Prove '..Said' where nothing that the law and all that it calls make is longer than what came in: it says more and counts as full. Else prove '..UptoSaid'. A law counts once. -/
mutual
def uptoBulk {H : Type} : DataW H → Nat
  | .lit (.string bytes) => bytes.length + 1
  | .lit _ => 1
  | .nil => 1
  | .ptr d => uptoBulk d + 1
  | .slice elems spare => uptoBulkAll elems + uptoBulkAll spare + 1
  | .agg parts => uptoBulkAll parts + 1
  | .iface _ d => uptoBulk d + 1
  | .map entries => uptoBulkEntries entries + 1
  | .held _ => 1
def uptoBulkAll {H : Type} : List (DataW H) → Nat
  | [] => 0
  | d :: r => uptoBulk d + uptoBulkAll r
def uptoBulkEntries {H : Type} : List (Lit × DataW H) → Nat
  | [] => 0
  | x :: r => uptoBulkEntry x + uptoBulkEntries r
def uptoBulkEntry {H : Type} : Lit × DataW H → Nat
  | (.string bytes, d) => bytes.length + uptoBulk d + 1
  | (_, d) => uptoBulk d + 1
 end
def uptoSmall : (H : Type) → List (DataW H) → Bool := fun _ ds => decide (uptoBulkAll ds ≤ 1048576)
def OpenSpec.upto (s : _root_.Go.ChangeSpec) : _root_.Go.OpenSpec := { _root_.Go.OpenSpec.ofChange s with cond := some uptoSmall }

/-- 'lustrumlaw2.OrderIs', WHERE WHAT IT READS IS OF BULK AT MOST 1048576: true; the input reads as it did. -/
def orderIsUptoRow : OpenClaim := { program := "ytminjdmgfiellaadoor", sum := "52046898290ca83733c773e21d897b07cfd74bcacbdc2fda510f13c4abb0f60d", func := "lustrum/lustrumlaw2.OrderIs", spec := "orderIs", inPlace := ["internal/reflectlite.ValueOf", "(internal/reflectlite.Value).Type", "(internal/reflectlite.Value).IsNil", "internal/reflectlite.TypeOf", "(internal/reflectlite.Value).Elem", "(internal/reflectlite.Value).Set"], unfollowed := true, recurses := true, named := ["lustrum/api.ErrCycle", "lustrum/api.ErrShape", "lustrum/api.ErrBound", "lustrum/api.ErrType", "lustrum/tree.levels", "lustrum/api.ErrFirst", "lustrum/api.ErrText", "lustrum/api.ErrName", "lustrum/api.ErrProof", "lustrum/api.ErrNone", "errors.errorType"], loops := true, apart := false, laid := [("errors.errorType", laid_errors_errorType), ("lustrum/api.ErrText", laid_lustrum_api_ErrText), ("lustrum/api.ErrBound", laid_lustrum_api_ErrBound), ("lustrum/api.ErrShape", laid_lustrum_api_ErrShape), ("lustrum/api.ErrName", laid_lustrum_api_ErrName), ("lustrum/api.ErrType", laid_lustrum_api_ErrType), ("lustrum/api.ErrCycle", laid_lustrum_api_ErrCycle), ("lustrum/api.ErrFirst", laid_lustrum_api_ErrFirst), ("lustrum/api.ErrProof", laid_lustrum_api_ErrProof), ("lustrum/api.ErrNone", laid_lustrum_api_ErrNone), ("lustrum/tree.levels", laid_lustrum_tree_levels)], narrowed := true }
def OrderIsUptoSaid : Prop := orderIsUptoRow.holds Tryd.pinned (OpenSpec.upto orderIsSpec)

/-- 'lustrumlaw2.OrderHolds', WHERE WHAT IT READS IS OF BULK AT MOST 1048576: true; the input reads as it did. -/
def orderHoldsUptoRow : OpenClaim := { program := "ytminjdmgfiellaadoor", sum := "52046898290ca83733c773e21d897b07cfd74bcacbdc2fda510f13c4abb0f60d", func := "lustrum/lustrumlaw2.OrderHolds", spec := "orderHolds", inPlace := ["internal/reflectlite.ValueOf", "(internal/reflectlite.Value).Type", "(internal/reflectlite.Value).IsNil", "internal/reflectlite.TypeOf", "(internal/reflectlite.Value).Elem", "(internal/reflectlite.Value).Set"], unfollowed := true, recurses := true, named := ["lustrum/api.ErrCycle", "lustrum/api.ErrShape", "lustrum/api.ErrBound", "lustrum/api.ErrType", "lustrum/tree.levels", "lustrum/api.ErrFirst", "lustrum/api.ErrText", "lustrum/api.ErrName", "lustrum/api.ErrProof", "lustrum/api.ErrNone", "errors.errorType"], apart := false, laid := [("errors.errorType", laid_errors_errorType), ("lustrum/api.ErrText", laid_lustrum_api_ErrText), ("lustrum/api.ErrBound", laid_lustrum_api_ErrBound), ("lustrum/api.ErrShape", laid_lustrum_api_ErrShape), ("lustrum/api.ErrName", laid_lustrum_api_ErrName), ("lustrum/api.ErrType", laid_lustrum_api_ErrType), ("lustrum/api.ErrCycle", laid_lustrum_api_ErrCycle), ("lustrum/api.ErrFirst", laid_lustrum_api_ErrFirst), ("lustrum/api.ErrProof", laid_lustrum_api_ErrProof), ("lustrum/api.ErrNone", laid_lustrum_api_ErrNone), ("lustrum/tree.levels", laid_lustrum_tree_levels)], narrowed := true }
def OrderHoldsUptoSaid : Prop := orderHoldsUptoRow.holds Tryd.pinned (OpenSpec.upto orderHoldsSpec)

/-- 'lustrumlaw1.LexTexts', WHERE WHAT IT READS IS OF BULK AT MOST 1048576: true; the input reads as it did. -/
def lexTextsUptoRow : OpenClaim := { program := "ytminjdmgfiellaadoor", sum := "52046898290ca83733c773e21d897b07cfd74bcacbdc2fda510f13c4abb0f60d", func := "lustrum/lustrumlaw1.LexTexts", spec := "lexTexts", inPlace := ["internal/abi.NoEscape", "internal/reflectlite.ValueOf", "(internal/reflectlite.Value).Type", "(internal/reflectlite.Value).IsNil", "internal/reflectlite.TypeOf", "(internal/reflectlite.Value).Elem", "(internal/reflectlite.Value).Set"], unfollowed := true, recurses := true, named := ["lustrum/api.ErrBound", "lustrum/api.ErrText", "lustrum/lex.words", "lustrum/lex.ops", "strconv.ErrSyntax", "strconv.ErrRange", "internal/strconv.uint64pow10", "math/bits.deBruijn32tab", "math/bits.deBruijn64tab", "lustrum/api.ErrShape", "lustrum/api.ErrName", "lustrum/api.ErrType", "lustrum/api.ErrCycle", "lustrum/api.ErrFirst", "lustrum/api.ErrProof", "lustrum/api.ErrNone", "errors.errorType"], apart := false, laid := [("math/bits.deBruijn32tab", laid_math_bits_deBruijn32tab), ("math/bits.deBruijn64tab", laid_math_bits_deBruijn64tab), ("internal/strconv.uint64pow10", laid_internal_strconv_uint64pow10), ("errors.errorType", laid_errors_errorType), ("lustrum/api.ErrText", laid_lustrum_api_ErrText), ("lustrum/api.ErrBound", laid_lustrum_api_ErrBound), ("lustrum/api.ErrShape", laid_lustrum_api_ErrShape), ("lustrum/api.ErrName", laid_lustrum_api_ErrName), ("lustrum/api.ErrType", laid_lustrum_api_ErrType), ("lustrum/api.ErrCycle", laid_lustrum_api_ErrCycle), ("lustrum/api.ErrFirst", laid_lustrum_api_ErrFirst), ("lustrum/api.ErrProof", laid_lustrum_api_ErrProof), ("lustrum/api.ErrNone", laid_lustrum_api_ErrNone), ("strconv.ErrRange", laid_strconv_ErrRange), ("strconv.ErrSyntax", laid_strconv_ErrSyntax), ("lustrum/lex.words", laid_lustrum_lex_words), ("lustrum/lex.ops", laid_lustrum_lex_ops)], narrowed := true }
def LexTextsUptoSaid : Prop := lexTextsUptoRow.holds Tryd.pinned (OpenSpec.upto lexTextsSpec)

end Rows
end Go.Proofs.YtminjdmgfiellaaDoor
