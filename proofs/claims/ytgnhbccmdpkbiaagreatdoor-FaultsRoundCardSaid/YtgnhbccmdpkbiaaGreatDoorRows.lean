/-
  NARROWER THAN 'FOR EVERY INPUT', by the rows' own cells (each row's printed sentence says how): FaultsBuilds: laid · FaultsWraps: laid · FaultsJoins: laid · FaultsAsks: laid · FaultsIs: laid · FaultsRound: laid · FaultsTexts: laid · FaultsKnown: laid.
  DERIVED. THE GIVEN ROWS OF THIS SEAT. 8 by the template 'for every input the law returns true; each argument reads behind the call as it read before'; 0 by the template 'total and deterministic' (their statements: YtgnhbccmdpkbiaaGreatDoorTotals.lean).
  GIVEN WITH THE SEED: the statements are not yours to turn. If you find one false, say at which input.
  Laid BY PROGRAM, IN A SANDBOX (cutbox-rows.mjs): the forced cells as the released guide's own fill.sh prints them over the translation d76eb97ab1d68f77… (all of the seat's roots in one cut). By AI agents, Wed Nov 11 2026. No macro, syntax, notation, axiom, sorry.
-/
import Derived.Test.YtgnhbccmdpkbiaaGreatDoorChecked
import GoSem.PinnedTables
import GoSem.Claim
import GoSem.ClaimJoined
import GoSem.ClaimMapViews
import Derived.JoinedTies
import Derived.KernelRfl
namespace Go.Proofs.YtgnhbccmdpkbiaaGreatDoor
/- THE CELL 'sum', in the pinned program and in every row, IS THE sha256 OF THE DUMP (.gsa) THAT YtgnhbccmdpkbiaaGreatDoorProg.lean LOADS. Nothing in Lean hashes anything: it is a label: what it is worth is what the hold of that sum in a sandbox is worth. -/
noncomputable def Tryz.pinned : Pinned := { name := "ytgnhbccmdpkbiaagreatdoor", sum := "d76eb97ab1d68f7773588d5a540b5dfa9db2253c308e0e3f975406e6e4b80cc8", checked := Tryz.checked }
namespace Rows
def none {H : Type} : Left H := { results := [], args := [] }

/- WHAT THE LISTED PACKAGE-LEVEL VARIABLES READ AS WHEN THE CALL BEGINS. Each datum BY PROGRAM (the guide's laid-datum.mjs) off the statement by which the dump's own 'gosem.cut.vars' lays the variable. In a bare row this is a premise. The card (YtgnhbccmdpkbiaaGreatDoorCards.lean) ties it to the program's text. -/
def laid_math_bits_deBruijn32tab {H : Type} : DataW H := .agg [.lit (.int .u8 0), .lit (.int .u8 1), .lit (.int .u8 28), .lit (.int .u8 2), .lit (.int .u8 29), .lit (.int .u8 14), .lit (.int .u8 24), .lit (.int .u8 3), .lit (.int .u8 30), .lit (.int .u8 22), .lit (.int .u8 20), .lit (.int .u8 15), .lit (.int .u8 25), .lit (.int .u8 17), .lit (.int .u8 4), .lit (.int .u8 8), .lit (.int .u8 31), .lit (.int .u8 27), .lit (.int .u8 13), .lit (.int .u8 23), .lit (.int .u8 21), .lit (.int .u8 19), .lit (.int .u8 16), .lit (.int .u8 7), .lit (.int .u8 26), .lit (.int .u8 12), .lit (.int .u8 18), .lit (.int .u8 6), .lit (.int .u8 11), .lit (.int .u8 5), .lit (.int .u8 10), .lit (.int .u8 9)]
def laid_math_bits_deBruijn64tab {H : Type} : DataW H := .agg [.lit (.int .u8 0), .lit (.int .u8 1), .lit (.int .u8 56), .lit (.int .u8 2), .lit (.int .u8 57), .lit (.int .u8 49), .lit (.int .u8 28), .lit (.int .u8 3), .lit (.int .u8 61), .lit (.int .u8 58), .lit (.int .u8 42), .lit (.int .u8 50), .lit (.int .u8 38), .lit (.int .u8 29), .lit (.int .u8 17), .lit (.int .u8 4), .lit (.int .u8 62), .lit (.int .u8 47), .lit (.int .u8 59), .lit (.int .u8 36), .lit (.int .u8 45), .lit (.int .u8 43), .lit (.int .u8 51), .lit (.int .u8 22), .lit (.int .u8 53), .lit (.int .u8 39), .lit (.int .u8 33), .lit (.int .u8 30), .lit (.int .u8 24), .lit (.int .u8 18), .lit (.int .u8 12), .lit (.int .u8 5), .lit (.int .u8 63), .lit (.int .u8 55), .lit (.int .u8 48), .lit (.int .u8 27), .lit (.int .u8 60), .lit (.int .u8 41), .lit (.int .u8 37), .lit (.int .u8 16), .lit (.int .u8 46), .lit (.int .u8 35), .lit (.int .u8 44), .lit (.int .u8 21), .lit (.int .u8 52), .lit (.int .u8 32), .lit (.int .u8 23), .lit (.int .u8 11), .lit (.int .u8 54), .lit (.int .u8 26), .lit (.int .u8 40), .lit (.int .u8 15), .lit (.int .u8 34), .lit (.int .u8 20), .lit (.int .u8 31), .lit (.int .u8 10), .lit (.int .u8 25), .lit (.int .u8 14), .lit (.int .u8 19), .lit (.int .u8 9), .lit (.int .u8 13), .lit (.int .u8 8), .lit (.int .u8 7), .lit (.int .u8 6)]
def laid_internal_strconv_uint64pow10 {H : Type} : DataW H := .agg [.lit (.int .u64 1), .lit (.int .u64 10), .lit (.int .u64 100), .lit (.int .u64 1000), .lit (.int .u64 10000), .lit (.int .u64 100000), .lit (.int .u64 1000000), .lit (.int .u64 10000000), .lit (.int .u64 100000000), .lit (.int .u64 1000000000), .lit (.int .u64 10000000000), .lit (.int .u64 100000000000), .lit (.int .u64 1000000000000), .lit (.int .u64 10000000000000), .lit (.int .u64 100000000000000), .lit (.int .u64 1000000000000000), .lit (.int .u64 10000000000000000), .lit (.int .u64 100000000000000000), .lit (.int .u64 1000000000000000000), .lit (.int .u64 10000000000000000000)]
def laid_unicode_utf8_acceptRanges {H : Type} : DataW H := .agg [.agg [.lit (.int .u8 128), .lit (.int .u8 191)], .agg [.lit (.int .u8 160), .lit (.int .u8 191)], .agg [.lit (.int .u8 128), .lit (.int .u8 159)], .agg [.lit (.int .u8 144), .lit (.int .u8 191)], .agg [.lit (.int .u8 128), .lit (.int .u8 143)], .agg [.lit (.int .u8 0), .lit (.int .u8 0)], .agg [.lit (.int .u8 0), .lit (.int .u8 0)], .agg [.lit (.int .u8 0), .lit (.int .u8 0)], .agg [.lit (.int .u8 0), .lit (.int .u8 0)], .agg [.lit (.int .u8 0), .lit (.int .u8 0)], .agg [.lit (.int .u8 0), .lit (.int .u8 0)], .agg [.lit (.int .u8 0), .lit (.int .u8 0)], .agg [.lit (.int .u8 0), .lit (.int .u8 0)], .agg [.lit (.int .u8 0), .lit (.int .u8 0)], .agg [.lit (.int .u8 0), .lit (.int .u8 0)], .agg [.lit (.int .u8 0), .lit (.int .u8 0)]]
def laid_errors_errorType {H : Type} : DataW H := .iface "internal/reflectlite.rtype" (.agg [.ptr (.lit (.string [101, 114, 114, 111, 114]))])
def laid_spillway_faults_names {H : Type} : DataW H := .agg [.lit (.string []), .lit (.string [115, 104, 117, 116, 100, 111, 119, 110]), .lit (.string [110, 111, 45, 98, 97, 99, 107, 101, 110, 100]), .lit (.string [113, 117, 101, 117, 101, 45, 102, 117, 108, 108]), .lit (.string [100, 101, 97, 100, 108, 105, 110, 101]), .lit (.string [99, 97, 110, 99, 101, 108, 101, 100]), .lit (.string [100, 105, 97, 108]), .lit (.string [114, 101, 102, 117, 115, 101, 100]), .lit (.string [114, 101, 115, 101, 116]), .lit (.string [116, 114, 117, 110, 99, 97, 116, 101, 100]), .lit (.string [109, 97, 108, 102, 111, 114, 109, 101, 100]), .lit (.string [116, 111, 111, 45, 108, 97, 114, 103, 101]), .lit (.string [115, 117, 114, 112, 108, 117, 115]), .lit (.string [111, 112, 101, 110]), .lit (.string [100, 111, 119, 110]), .lit (.string [99, 108, 111, 115, 101, 100]), .lit (.string [101, 120, 104, 97, 117, 115, 116, 101, 100])]
/-- One of Go's own tables, pinned by name: the form's constant. -/
def laid_unicode_utf8_first : DataW Unit := Go.Pinned.utf8First
def laid_strconv_ErrRange {H : Type} : DataW H := .iface "*errors.errorString" (.ptr (.agg [.lit (.string [118, 97, 108, 117, 101, 32, 111, 117, 116, 32, 111, 102, 32, 114, 97, 110, 103, 101])]))
def laid_strconv_ErrSyntax {H : Type} : DataW H := .iface "*errors.errorString" (.ptr (.agg [.lit (.string [105, 110, 118, 97, 108, 105, 100, 32, 115, 121, 110, 116, 97, 120])]))

/-- 'spillwaylaw03.FaultsBuilds': WHATEVER THE INPUT: true; the input reads as it did. -/
def faultsBuildsSpec : ChangeSpec := { name := "faultsBuilds", fn := fun _ => fun
  | [d] => { results := [.lit (.bool true)], args := [d] }
  | _ => none }
def faultsBuildsRow : OpenClaim := { program := "ytgnhbccmdpkbiaagreatdoor", sum := "d76eb97ab1d68f7773588d5a540b5dfa9db2253c308e0e3f975406e6e4b80cc8", func := "spillway/spillwaylaw03.FaultsBuilds", spec := "faultsBuilds", inPlace := ["internal/bytealg.IndexByteString", "internal/bytealg.IndexString", "internal/abi.NoEscape", "internal/reflectlite.ValueOf", "(internal/reflectlite.Value).Type", "(internal/reflectlite.Value).IsNil", "internal/reflectlite.TypeOf", "(internal/reflectlite.Value).Elem", "(internal/reflectlite.Value).Set"], unfollowed := true, recurses := true, named := ["unicode/utf8.first", "unicode/utf8.acceptRanges", "spillway/faults.names", "internal/strconv.uint64pow10", "math/bits.deBruijn32tab", "math/bits.deBruijn64tab", "errors.errorType", "internal/bytealg.MaxLen"], apart := false, laid := [("math/bits.deBruijn32tab", laid_math_bits_deBruijn32tab), ("math/bits.deBruijn64tab", laid_math_bits_deBruijn64tab), ("internal/strconv.uint64pow10", laid_internal_strconv_uint64pow10), ("unicode/utf8.acceptRanges", laid_unicode_utf8_acceptRanges), ("errors.errorType", laid_errors_errorType), ("spillway/faults.names", laid_spillway_faults_names), ("unicode/utf8.first", laid_unicode_utf8_first)] }
def FaultsBuildsSaid : Prop := faultsBuildsRow.holds Tryz.pinned (OpenSpec.ofChange faultsBuildsSpec)

/-- ITS FALSE NEIGHBOUR: 'it returns false'. Refute it at one input. -/
def faultsBuildsWrong : ChangeSpec := { name := "faultsBuilds", fn := fun _ => fun
  | [d] => { results := [.lit (.bool false)], args := [d] }
  | _ => none }
def FaultsBuildsWrongFalsely : Prop := faultsBuildsRow.holds Tryz.pinned (OpenSpec.ofChange faultsBuildsWrong)

/-- 'spillwaylaw03.FaultsWraps': WHATEVER THE INPUT: true; the input reads as it did. -/
def faultsWrapsSpec : ChangeSpec := { name := "faultsWraps", fn := fun _ => fun
  | [d1, d2] => { results := [.lit (.bool true)], args := [d1, d2] }
  | _ => none }
def faultsWrapsRow : OpenClaim := { program := "ytgnhbccmdpkbiaagreatdoor", sum := "d76eb97ab1d68f7773588d5a540b5dfa9db2253c308e0e3f975406e6e4b80cc8", func := "spillway/spillwaylaw03.FaultsWraps", spec := "faultsWraps", inPlace := ["internal/bytealg.IndexByteString", "internal/bytealg.IndexString", "internal/abi.NoEscape", "internal/reflectlite.ValueOf", "(internal/reflectlite.Value).Type", "(internal/reflectlite.Value).IsNil", "internal/reflectlite.TypeOf", "(internal/reflectlite.Value).Elem", "(internal/reflectlite.Value).Set"], unfollowed := true, recurses := true, named := ["unicode/utf8.first", "unicode/utf8.acceptRanges", "spillway/faults.names", "internal/strconv.uint64pow10", "math/bits.deBruijn32tab", "math/bits.deBruijn64tab", "errors.errorType", "internal/bytealg.MaxLen"], apart := false, laid := [("math/bits.deBruijn32tab", laid_math_bits_deBruijn32tab), ("math/bits.deBruijn64tab", laid_math_bits_deBruijn64tab), ("internal/strconv.uint64pow10", laid_internal_strconv_uint64pow10), ("unicode/utf8.acceptRanges", laid_unicode_utf8_acceptRanges), ("errors.errorType", laid_errors_errorType), ("spillway/faults.names", laid_spillway_faults_names), ("unicode/utf8.first", laid_unicode_utf8_first)] }
def FaultsWrapsSaid : Prop := faultsWrapsRow.holds Tryz.pinned (OpenSpec.ofChange faultsWrapsSpec)

/-- ITS FALSE NEIGHBOUR: 'it returns false'. Refute it at one input. -/
def faultsWrapsWrong : ChangeSpec := { name := "faultsWraps", fn := fun _ => fun
  | [d1, d2] => { results := [.lit (.bool false)], args := [d1, d2] }
  | _ => none }
def FaultsWrapsWrongFalsely : Prop := faultsWrapsRow.holds Tryz.pinned (OpenSpec.ofChange faultsWrapsWrong)

/-- 'spillwaylaw03.FaultsJoins': WHATEVER THE INPUT: true; the input reads as it did. -/
def faultsJoinsSpec : ChangeSpec := { name := "faultsJoins", fn := fun _ => fun
  | [d] => { results := [.lit (.bool true)], args := [d] }
  | _ => none }
def faultsJoinsRow : OpenClaim := { program := "ytgnhbccmdpkbiaagreatdoor", sum := "d76eb97ab1d68f7773588d5a540b5dfa9db2253c308e0e3f975406e6e4b80cc8", func := "spillway/spillwaylaw03.FaultsJoins", spec := "faultsJoins", inPlace := ["internal/bytealg.IndexByteString", "internal/bytealg.IndexString", "internal/abi.NoEscape", "internal/reflectlite.ValueOf", "(internal/reflectlite.Value).Type", "(internal/reflectlite.Value).IsNil", "internal/reflectlite.TypeOf", "(internal/reflectlite.Value).Elem", "(internal/reflectlite.Value).Set"], unfollowed := true, recurses := true, named := ["unicode/utf8.first", "unicode/utf8.acceptRanges", "spillway/faults.names", "internal/strconv.uint64pow10", "math/bits.deBruijn32tab", "math/bits.deBruijn64tab", "errors.errorType", "internal/bytealg.MaxLen"], apart := false, laid := [("math/bits.deBruijn32tab", laid_math_bits_deBruijn32tab), ("math/bits.deBruijn64tab", laid_math_bits_deBruijn64tab), ("internal/strconv.uint64pow10", laid_internal_strconv_uint64pow10), ("unicode/utf8.acceptRanges", laid_unicode_utf8_acceptRanges), ("errors.errorType", laid_errors_errorType), ("spillway/faults.names", laid_spillway_faults_names), ("unicode/utf8.first", laid_unicode_utf8_first)] }
def FaultsJoinsSaid : Prop := faultsJoinsRow.holds Tryz.pinned (OpenSpec.ofChange faultsJoinsSpec)

/-- ITS FALSE NEIGHBOUR: 'it returns false'. Refute it at one input. -/
def faultsJoinsWrong : ChangeSpec := { name := "faultsJoins", fn := fun _ => fun
  | [d] => { results := [.lit (.bool false)], args := [d] }
  | _ => none }
def FaultsJoinsWrongFalsely : Prop := faultsJoinsRow.holds Tryz.pinned (OpenSpec.ofChange faultsJoinsWrong)

/-- 'spillwaylaw03.FaultsAsks': WHATEVER THE INPUT: true; the input reads as it did. -/
def faultsAsksSpec : ChangeSpec := { name := "faultsAsks", fn := fun _ => fun
  | [d1, d2] => { results := [.lit (.bool true)], args := [d1, d2] }
  | _ => none }
def faultsAsksRow : OpenClaim := { program := "ytgnhbccmdpkbiaagreatdoor", sum := "d76eb97ab1d68f7773588d5a540b5dfa9db2253c308e0e3f975406e6e4b80cc8", func := "spillway/spillwaylaw03.FaultsAsks", spec := "faultsAsks", inPlace := ["internal/bytealg.IndexByteString", "internal/bytealg.IndexString", "internal/abi.NoEscape", "internal/reflectlite.ValueOf", "(internal/reflectlite.Value).Type", "(internal/reflectlite.Value).IsNil", "internal/reflectlite.TypeOf", "(internal/reflectlite.Value).Elem", "(internal/reflectlite.Value).Set"], unfollowed := true, recurses := true, named := ["unicode/utf8.first", "unicode/utf8.acceptRanges", "spillway/faults.names", "internal/strconv.uint64pow10", "math/bits.deBruijn32tab", "math/bits.deBruijn64tab", "errors.errorType", "internal/bytealg.MaxLen"], apart := false, laid := [("math/bits.deBruijn32tab", laid_math_bits_deBruijn32tab), ("math/bits.deBruijn64tab", laid_math_bits_deBruijn64tab), ("internal/strconv.uint64pow10", laid_internal_strconv_uint64pow10), ("unicode/utf8.acceptRanges", laid_unicode_utf8_acceptRanges), ("errors.errorType", laid_errors_errorType), ("spillway/faults.names", laid_spillway_faults_names), ("unicode/utf8.first", laid_unicode_utf8_first)] }
def FaultsAsksSaid : Prop := faultsAsksRow.holds Tryz.pinned (OpenSpec.ofChange faultsAsksSpec)

/-- ITS FALSE NEIGHBOUR: 'it returns false'. Refute it at one input. -/
def faultsAsksWrong : ChangeSpec := { name := "faultsAsks", fn := fun _ => fun
  | [d1, d2] => { results := [.lit (.bool false)], args := [d1, d2] }
  | _ => none }
def FaultsAsksWrongFalsely : Prop := faultsAsksRow.holds Tryz.pinned (OpenSpec.ofChange faultsAsksWrong)

/-- 'spillwaylaw03.FaultsIs': WHATEVER THE INPUT: true; the input reads as it did. -/
def faultsIsSpec : ChangeSpec := { name := "faultsIs", fn := fun _ => fun
  | [d1, d2] => { results := [.lit (.bool true)], args := [d1, d2] }
  | _ => none }
def faultsIsRow : OpenClaim := { program := "ytgnhbccmdpkbiaagreatdoor", sum := "d76eb97ab1d68f7773588d5a540b5dfa9db2253c308e0e3f975406e6e4b80cc8", func := "spillway/spillwaylaw03.FaultsIs", spec := "faultsIs", inPlace := ["internal/bytealg.IndexByteString", "internal/bytealg.IndexString", "internal/abi.NoEscape", "internal/reflectlite.ValueOf", "(internal/reflectlite.Value).Type", "(internal/reflectlite.Value).IsNil", "internal/reflectlite.TypeOf", "(internal/reflectlite.Value).Elem", "(internal/reflectlite.Value).Set"], unfollowed := true, recurses := true, named := ["unicode/utf8.first", "unicode/utf8.acceptRanges", "spillway/faults.names", "internal/strconv.uint64pow10", "math/bits.deBruijn32tab", "math/bits.deBruijn64tab", "errors.errorType", "internal/bytealg.MaxLen"], apart := false, laid := [("math/bits.deBruijn32tab", laid_math_bits_deBruijn32tab), ("math/bits.deBruijn64tab", laid_math_bits_deBruijn64tab), ("internal/strconv.uint64pow10", laid_internal_strconv_uint64pow10), ("unicode/utf8.acceptRanges", laid_unicode_utf8_acceptRanges), ("errors.errorType", laid_errors_errorType), ("spillway/faults.names", laid_spillway_faults_names), ("unicode/utf8.first", laid_unicode_utf8_first)] }
def FaultsIsSaid : Prop := faultsIsRow.holds Tryz.pinned (OpenSpec.ofChange faultsIsSpec)

/-- ITS FALSE NEIGHBOUR: 'it returns false'. Refute it at one input. -/
def faultsIsWrong : ChangeSpec := { name := "faultsIs", fn := fun _ => fun
  | [d1, d2] => { results := [.lit (.bool false)], args := [d1, d2] }
  | _ => none }
def FaultsIsWrongFalsely : Prop := faultsIsRow.holds Tryz.pinned (OpenSpec.ofChange faultsIsWrong)

/-- 'spillwaylaw03.FaultsRound': WHATEVER THE INPUT: true; the input reads as it did. -/
def faultsRoundSpec : ChangeSpec := { name := "faultsRound", fn := fun _ => fun
  | [d1, d2, d3] => { results := [.lit (.bool true)], args := [d1, d2, d3] }
  | _ => none }
def faultsRoundRow : OpenClaim := { program := "ytgnhbccmdpkbiaagreatdoor", sum := "d76eb97ab1d68f7773588d5a540b5dfa9db2253c308e0e3f975406e6e4b80cc8", func := "spillway/spillwaylaw03.FaultsRound", spec := "faultsRound", inPlace := ["internal/bytealg.IndexByteString", "internal/bytealg.IndexString", "internal/abi.NoEscape", "internal/reflectlite.ValueOf", "(internal/reflectlite.Value).Type", "(internal/reflectlite.Value).IsNil", "internal/reflectlite.TypeOf", "(internal/reflectlite.Value).Elem", "(internal/reflectlite.Value).Set"], unfollowed := true, recurses := true, named := ["unicode/utf8.first", "unicode/utf8.acceptRanges", "spillway/faults.names", "internal/strconv.uint64pow10", "math/bits.deBruijn32tab", "math/bits.deBruijn64tab", "errors.errorType", "strconv.ErrSyntax", "strconv.ErrRange", "internal/bytealg.MaxLen"], apart := false, laid := [("math/bits.deBruijn32tab", laid_math_bits_deBruijn32tab), ("math/bits.deBruijn64tab", laid_math_bits_deBruijn64tab), ("internal/strconv.uint64pow10", laid_internal_strconv_uint64pow10), ("unicode/utf8.acceptRanges", laid_unicode_utf8_acceptRanges), ("errors.errorType", laid_errors_errorType), ("strconv.ErrRange", laid_strconv_ErrRange), ("strconv.ErrSyntax", laid_strconv_ErrSyntax), ("spillway/faults.names", laid_spillway_faults_names), ("unicode/utf8.first", laid_unicode_utf8_first)] }
def FaultsRoundSaid : Prop := faultsRoundRow.holds Tryz.pinned (OpenSpec.ofChange faultsRoundSpec)

/-- ITS FALSE NEIGHBOUR: 'it returns false'. Refute it at one input. -/
def faultsRoundWrong : ChangeSpec := { name := "faultsRound", fn := fun _ => fun
  | [d1, d2, d3] => { results := [.lit (.bool false)], args := [d1, d2, d3] }
  | _ => none }
def FaultsRoundWrongFalsely : Prop := faultsRoundRow.holds Tryz.pinned (OpenSpec.ofChange faultsRoundWrong)

/-- 'spillwaylaw03.FaultsTexts': WHATEVER THE INPUT: true; the input reads as it did. -/
def faultsTextsSpec : ChangeSpec := { name := "faultsTexts", fn := fun _ => fun
  | [d1, d2] => { results := [.lit (.bool true)], args := [d1, d2] }
  | _ => none }
def faultsTextsRow : OpenClaim := { program := "ytgnhbccmdpkbiaagreatdoor", sum := "d76eb97ab1d68f7773588d5a540b5dfa9db2253c308e0e3f975406e6e4b80cc8", func := "spillway/spillwaylaw03.FaultsTexts", spec := "faultsTexts", inPlace := ["internal/bytealg.IndexByteString", "internal/bytealg.IndexString", "internal/abi.NoEscape", "internal/reflectlite.ValueOf", "(internal/reflectlite.Value).Type", "(internal/reflectlite.Value).IsNil", "internal/reflectlite.TypeOf", "(internal/reflectlite.Value).Elem", "(internal/reflectlite.Value).Set"], unfollowed := true, recurses := true, named := ["unicode/utf8.first", "unicode/utf8.acceptRanges", "spillway/faults.names", "internal/strconv.uint64pow10", "math/bits.deBruijn32tab", "math/bits.deBruijn64tab", "errors.errorType", "strconv.ErrSyntax", "strconv.ErrRange", "internal/bytealg.MaxLen"], apart := false, laid := [("math/bits.deBruijn32tab", laid_math_bits_deBruijn32tab), ("math/bits.deBruijn64tab", laid_math_bits_deBruijn64tab), ("internal/strconv.uint64pow10", laid_internal_strconv_uint64pow10), ("unicode/utf8.acceptRanges", laid_unicode_utf8_acceptRanges), ("errors.errorType", laid_errors_errorType), ("strconv.ErrRange", laid_strconv_ErrRange), ("strconv.ErrSyntax", laid_strconv_ErrSyntax), ("spillway/faults.names", laid_spillway_faults_names), ("unicode/utf8.first", laid_unicode_utf8_first)] }
def FaultsTextsSaid : Prop := faultsTextsRow.holds Tryz.pinned (OpenSpec.ofChange faultsTextsSpec)

/-- ITS FALSE NEIGHBOUR: 'it returns false'. Refute it at one input. -/
def faultsTextsWrong : ChangeSpec := { name := "faultsTexts", fn := fun _ => fun
  | [d1, d2] => { results := [.lit (.bool false)], args := [d1, d2] }
  | _ => none }
def FaultsTextsWrongFalsely : Prop := faultsTextsRow.holds Tryz.pinned (OpenSpec.ofChange faultsTextsWrong)

/-- 'spillwaylaw03.FaultsKnown': WHATEVER THE INPUT: true; the input reads as it did. -/
def faultsKnownSpec : ChangeSpec := { name := "faultsKnown", fn := fun _ => fun
  | [] => { results := [.lit (.bool true)], args := [] }
  | _ => none }
def faultsKnownRow : OpenClaim := { program := "ytgnhbccmdpkbiaagreatdoor", sum := "d76eb97ab1d68f7773588d5a540b5dfa9db2253c308e0e3f975406e6e4b80cc8", func := "spillway/spillwaylaw03.FaultsKnown", spec := "faultsKnown", inPlace := ["internal/bytealg.IndexByteString", "internal/bytealg.IndexString", "internal/abi.NoEscape", "internal/reflectlite.ValueOf", "(internal/reflectlite.Value).Type", "(internal/reflectlite.Value).IsNil", "internal/reflectlite.TypeOf", "(internal/reflectlite.Value).Elem", "(internal/reflectlite.Value).Set"], unfollowed := true, recurses := true, named := ["unicode/utf8.first", "unicode/utf8.acceptRanges", "spillway/faults.names", "strconv.ErrSyntax", "strconv.ErrRange", "internal/strconv.uint64pow10", "math/bits.deBruijn32tab", "math/bits.deBruijn64tab", "errors.errorType", "internal/bytealg.MaxLen"], apart := false, laid := [("math/bits.deBruijn32tab", laid_math_bits_deBruijn32tab), ("math/bits.deBruijn64tab", laid_math_bits_deBruijn64tab), ("internal/strconv.uint64pow10", laid_internal_strconv_uint64pow10), ("unicode/utf8.acceptRanges", laid_unicode_utf8_acceptRanges), ("errors.errorType", laid_errors_errorType), ("strconv.ErrRange", laid_strconv_ErrRange), ("strconv.ErrSyntax", laid_strconv_ErrSyntax), ("spillway/faults.names", laid_spillway_faults_names), ("unicode/utf8.first", laid_unicode_utf8_first)] }
def FaultsKnownSaid : Prop := faultsKnownRow.holds Tryz.pinned (OpenSpec.ofChange faultsKnownSpec)

/-- ITS FALSE NEIGHBOUR: 'it returns false'. Refute it at one input. -/
def faultsKnownWrong : ChangeSpec := { name := "faultsKnown", fn := fun _ => fun
  | [] => { results := [.lit (.bool false)], args := [] }
  | _ => none }
def FaultsKnownWrongFalsely : Prop := faultsKnownRow.holds Tryz.pinned (OpenSpec.ofChange faultsKnownWrong)

/- THE SECOND FORM. 'bulk': how many values and letters a reading holds, each counted each time it is reached (what is shared counts as often as it is met; a slice's spare places count too). A statement '..UptoSaid' is the law's where the arguments, and the package variables that the reading takes, are together of bulk at most 1048576: NARROWER than '..Said'. Prove '..Said' where nothing that the law and all that it calls make is longer than what came in: it says more and counts as full. Else prove '..UptoSaid'. A law counts once. -/
mutual
def uptoBulk {H : Type} : DataW H → Nat
  | .lit (.string bytes) => bytes.length + 1
  | .lit _ => 1
  | .nil => 1
  | .ptr d => uptoBulk d + 1
  | .slice elems spare => uptoBulkAll elems + uptoBulkAll spare + 1
  | .agg parts => uptoBulkAll parts + 1
  | .iface _ d => uptoBulk d + 1
  | .map entries => uptoBulkEntries entries + 1
  | .held _ => 1
def uptoBulkAll {H : Type} : List (DataW H) → Nat
  | [] => 0
  | d :: r => uptoBulk d + uptoBulkAll r
def uptoBulkEntries {H : Type} : List (Lit × DataW H) → Nat
  | [] => 0
  | x :: r => uptoBulkEntry x + uptoBulkEntries r
def uptoBulkEntry {H : Type} : Lit × DataW H → Nat
  | (.string bytes, d) => bytes.length + uptoBulk d + 1
  | (_, d) => uptoBulk d + 1
 end
def uptoSmall : (H : Type) → List (DataW H) → Bool := fun _ ds => decide (uptoBulkAll ds ≤ 1048576)
def OpenSpec.upto (s : _root_.Go.ChangeSpec) : _root_.Go.OpenSpec := { _root_.Go.OpenSpec.ofChange s with cond := some uptoSmall }

/-- 'spillwaylaw03.FaultsBuilds', WHERE WHAT IT READS IS OF BULK AT MOST 1048576: true; the input reads as it did. -/
def faultsBuildsUptoRow : OpenClaim := { program := "ytgnhbccmdpkbiaagreatdoor", sum := "d76eb97ab1d68f7773588d5a540b5dfa9db2253c308e0e3f975406e6e4b80cc8", func := "spillway/spillwaylaw03.FaultsBuilds", spec := "faultsBuilds", inPlace := ["internal/bytealg.IndexByteString", "internal/bytealg.IndexString", "internal/abi.NoEscape", "internal/reflectlite.ValueOf", "(internal/reflectlite.Value).Type", "(internal/reflectlite.Value).IsNil", "internal/reflectlite.TypeOf", "(internal/reflectlite.Value).Elem", "(internal/reflectlite.Value).Set"], unfollowed := true, recurses := true, named := ["unicode/utf8.first", "unicode/utf8.acceptRanges", "spillway/faults.names", "internal/strconv.uint64pow10", "math/bits.deBruijn32tab", "math/bits.deBruijn64tab", "errors.errorType", "internal/bytealg.MaxLen"], apart := false, laid := [("math/bits.deBruijn32tab", laid_math_bits_deBruijn32tab), ("math/bits.deBruijn64tab", laid_math_bits_deBruijn64tab), ("internal/strconv.uint64pow10", laid_internal_strconv_uint64pow10), ("unicode/utf8.acceptRanges", laid_unicode_utf8_acceptRanges), ("errors.errorType", laid_errors_errorType), ("spillway/faults.names", laid_spillway_faults_names), ("unicode/utf8.first", laid_unicode_utf8_first)], narrowed := true }
def FaultsBuildsUptoSaid : Prop := faultsBuildsUptoRow.holds Tryz.pinned (OpenSpec.upto faultsBuildsSpec)

/-- 'spillwaylaw03.FaultsWraps', WHERE WHAT IT READS IS OF BULK AT MOST 1048576: true; the input reads as it did. -/
def faultsWrapsUptoRow : OpenClaim := { program := "ytgnhbccmdpkbiaagreatdoor", sum := "d76eb97ab1d68f7773588d5a540b5dfa9db2253c308e0e3f975406e6e4b80cc8", func := "spillway/spillwaylaw03.FaultsWraps", spec := "faultsWraps", inPlace := ["internal/bytealg.IndexByteString", "internal/bytealg.IndexString", "internal/abi.NoEscape", "internal/reflectlite.ValueOf", "(internal/reflectlite.Value).Type", "(internal/reflectlite.Value).IsNil", "internal/reflectlite.TypeOf", "(internal/reflectlite.Value).Elem", "(internal/reflectlite.Value).Set"], unfollowed := true, recurses := true, named := ["unicode/utf8.first", "unicode/utf8.acceptRanges", "spillway/faults.names", "internal/strconv.uint64pow10", "math/bits.deBruijn32tab", "math/bits.deBruijn64tab", "errors.errorType", "internal/bytealg.MaxLen"], apart := false, laid := [("math/bits.deBruijn32tab", laid_math_bits_deBruijn32tab), ("math/bits.deBruijn64tab", laid_math_bits_deBruijn64tab), ("internal/strconv.uint64pow10", laid_internal_strconv_uint64pow10), ("unicode/utf8.acceptRanges", laid_unicode_utf8_acceptRanges), ("errors.errorType", laid_errors_errorType), ("spillway/faults.names", laid_spillway_faults_names), ("unicode/utf8.first", laid_unicode_utf8_first)], narrowed := true }
def FaultsWrapsUptoSaid : Prop := faultsWrapsUptoRow.holds Tryz.pinned (OpenSpec.upto faultsWrapsSpec)

/-- 'spillwaylaw03.FaultsJoins', WHERE WHAT IT READS IS OF BULK AT MOST 1048576: true; the input reads as it did. -/
def faultsJoinsUptoRow : OpenClaim := { program := "ytgnhbccmdpkbiaagreatdoor", sum := "d76eb97ab1d68f7773588d5a540b5dfa9db2253c308e0e3f975406e6e4b80cc8", func := "spillway/spillwaylaw03.FaultsJoins", spec := "faultsJoins", inPlace := ["internal/bytealg.IndexByteString", "internal/bytealg.IndexString", "internal/abi.NoEscape", "internal/reflectlite.ValueOf", "(internal/reflectlite.Value).Type", "(internal/reflectlite.Value).IsNil", "internal/reflectlite.TypeOf", "(internal/reflectlite.Value).Elem", "(internal/reflectlite.Value).Set"], unfollowed := true, recurses := true, named := ["unicode/utf8.first", "unicode/utf8.acceptRanges", "spillway/faults.names", "internal/strconv.uint64pow10", "math/bits.deBruijn32tab", "math/bits.deBruijn64tab", "errors.errorType", "internal/bytealg.MaxLen"], apart := false, laid := [("math/bits.deBruijn32tab", laid_math_bits_deBruijn32tab), ("math/bits.deBruijn64tab", laid_math_bits_deBruijn64tab), ("internal/strconv.uint64pow10", laid_internal_strconv_uint64pow10), ("unicode/utf8.acceptRanges", laid_unicode_utf8_acceptRanges), ("errors.errorType", laid_errors_errorType), ("spillway/faults.names", laid_spillway_faults_names), ("unicode/utf8.first", laid_unicode_utf8_first)], narrowed := true }
def FaultsJoinsUptoSaid : Prop := faultsJoinsUptoRow.holds Tryz.pinned (OpenSpec.upto faultsJoinsSpec)

/-- 'spillwaylaw03.FaultsAsks', WHERE WHAT IT READS IS OF BULK AT MOST 1048576: true; the input reads as it did. -/
def faultsAsksUptoRow : OpenClaim := { program := "ytgnhbccmdpkbiaagreatdoor", sum := "d76eb97ab1d68f7773588d5a540b5dfa9db2253c308e0e3f975406e6e4b80cc8", func := "spillway/spillwaylaw03.FaultsAsks", spec := "faultsAsks", inPlace := ["internal/bytealg.IndexByteString", "internal/bytealg.IndexString", "internal/abi.NoEscape", "internal/reflectlite.ValueOf", "(internal/reflectlite.Value).Type", "(internal/reflectlite.Value).IsNil", "internal/reflectlite.TypeOf", "(internal/reflectlite.Value).Elem", "(internal/reflectlite.Value).Set"], unfollowed := true, recurses := true, named := ["unicode/utf8.first", "unicode/utf8.acceptRanges", "spillway/faults.names", "internal/strconv.uint64pow10", "math/bits.deBruijn32tab", "math/bits.deBruijn64tab", "errors.errorType", "internal/bytealg.MaxLen"], apart := false, laid := [("math/bits.deBruijn32tab", laid_math_bits_deBruijn32tab), ("math/bits.deBruijn64tab", laid_math_bits_deBruijn64tab), ("internal/strconv.uint64pow10", laid_internal_strconv_uint64pow10), ("unicode/utf8.acceptRanges", laid_unicode_utf8_acceptRanges), ("errors.errorType", laid_errors_errorType), ("spillway/faults.names", laid_spillway_faults_names), ("unicode/utf8.first", laid_unicode_utf8_first)], narrowed := true }
def FaultsAsksUptoSaid : Prop := faultsAsksUptoRow.holds Tryz.pinned (OpenSpec.upto faultsAsksSpec)

/-- 'spillwaylaw03.FaultsIs', WHERE WHAT IT READS IS OF BULK AT MOST 1048576: true; the input reads as it did. -/
def faultsIsUptoRow : OpenClaim := { program := "ytgnhbccmdpkbiaagreatdoor", sum := "d76eb97ab1d68f7773588d5a540b5dfa9db2253c308e0e3f975406e6e4b80cc8", func := "spillway/spillwaylaw03.FaultsIs", spec := "faultsIs", inPlace := ["internal/bytealg.IndexByteString", "internal/bytealg.IndexString", "internal/abi.NoEscape", "internal/reflectlite.ValueOf", "(internal/reflectlite.Value).Type", "(internal/reflectlite.Value).IsNil", "internal/reflectlite.TypeOf", "(internal/reflectlite.Value).Elem", "(internal/reflectlite.Value).Set"], unfollowed := true, recurses := true, named := ["unicode/utf8.first", "unicode/utf8.acceptRanges", "spillway/faults.names", "internal/strconv.uint64pow10", "math/bits.deBruijn32tab", "math/bits.deBruijn64tab", "errors.errorType", "internal/bytealg.MaxLen"], apart := false, laid := [("math/bits.deBruijn32tab", laid_math_bits_deBruijn32tab), ("math/bits.deBruijn64tab", laid_math_bits_deBruijn64tab), ("internal/strconv.uint64pow10", laid_internal_strconv_uint64pow10), ("unicode/utf8.acceptRanges", laid_unicode_utf8_acceptRanges), ("errors.errorType", laid_errors_errorType), ("spillway/faults.names", laid_spillway_faults_names), ("unicode/utf8.first", laid_unicode_utf8_first)], narrowed := true }
def FaultsIsUptoSaid : Prop := faultsIsUptoRow.holds Tryz.pinned (OpenSpec.upto faultsIsSpec)

/-- 'spillwaylaw03.FaultsRound', WHERE WHAT IT READS IS OF BULK AT MOST 1048576: true; the input reads as it did. -/
def faultsRoundUptoRow : OpenClaim := { program := "ytgnhbccmdpkbiaagreatdoor", sum := "d76eb97ab1d68f7773588d5a540b5dfa9db2253c308e0e3f975406e6e4b80cc8", func := "spillway/spillwaylaw03.FaultsRound", spec := "faultsRound", inPlace := ["internal/bytealg.IndexByteString", "internal/bytealg.IndexString", "internal/abi.NoEscape", "internal/reflectlite.ValueOf", "(internal/reflectlite.Value).Type", "(internal/reflectlite.Value).IsNil", "internal/reflectlite.TypeOf", "(internal/reflectlite.Value).Elem", "(internal/reflectlite.Value).Set"], unfollowed := true, recurses := true, named := ["unicode/utf8.first", "unicode/utf8.acceptRanges", "spillway/faults.names", "internal/strconv.uint64pow10", "math/bits.deBruijn32tab", "math/bits.deBruijn64tab", "errors.errorType", "strconv.ErrSyntax", "strconv.ErrRange", "internal/bytealg.MaxLen"], apart := false, laid := [("math/bits.deBruijn32tab", laid_math_bits_deBruijn32tab), ("math/bits.deBruijn64tab", laid_math_bits_deBruijn64tab), ("internal/strconv.uint64pow10", laid_internal_strconv_uint64pow10), ("unicode/utf8.acceptRanges", laid_unicode_utf8_acceptRanges), ("errors.errorType", laid_errors_errorType), ("strconv.ErrRange", laid_strconv_ErrRange), ("strconv.ErrSyntax", laid_strconv_ErrSyntax), ("spillway/faults.names", laid_spillway_faults_names), ("unicode/utf8.first", laid_unicode_utf8_first)], narrowed := true }
def FaultsRoundUptoSaid : Prop := faultsRoundUptoRow.holds Tryz.pinned (OpenSpec.upto faultsRoundSpec)

/-- 'spillwaylaw03.FaultsTexts', WHERE WHAT IT READS IS OF BULK AT MOST 1048576: true; the input reads as it did. -/
def faultsTextsUptoRow : OpenClaim := { program := "ytgnhbccmdpkbiaagreatdoor", sum := "d76eb97ab1d68f7773588d5a540b5dfa9db2253c308e0e3f975406e6e4b80cc8", func := "spillway/spillwaylaw03.FaultsTexts", spec := "faultsTexts", inPlace := ["internal/bytealg.IndexByteString", "internal/bytealg.IndexString", "internal/abi.NoEscape", "internal/reflectlite.ValueOf", "(internal/reflectlite.Value).Type", "(internal/reflectlite.Value).IsNil", "internal/reflectlite.TypeOf", "(internal/reflectlite.Value).Elem", "(internal/reflectlite.Value).Set"], unfollowed := true, recurses := true, named := ["unicode/utf8.first", "unicode/utf8.acceptRanges", "spillway/faults.names", "internal/strconv.uint64pow10", "math/bits.deBruijn32tab", "math/bits.deBruijn64tab", "errors.errorType", "strconv.ErrSyntax", "strconv.ErrRange", "internal/bytealg.MaxLen"], apart := false, laid := [("math/bits.deBruijn32tab", laid_math_bits_deBruijn32tab), ("math/bits.deBruijn64tab", laid_math_bits_deBruijn64tab), ("internal/strconv.uint64pow10", laid_internal_strconv_uint64pow10), ("unicode/utf8.acceptRanges", laid_unicode_utf8_acceptRanges), ("errors.errorType", laid_errors_errorType), ("strconv.ErrRange", laid_strconv_ErrRange), ("strconv.ErrSyntax", laid_strconv_ErrSyntax), ("spillway/faults.names", laid_spillway_faults_names), ("unicode/utf8.first", laid_unicode_utf8_first)], narrowed := true }
def FaultsTextsUptoSaid : Prop := faultsTextsUptoRow.holds Tryz.pinned (OpenSpec.upto faultsTextsSpec)

/-- 'spillwaylaw03.FaultsKnown', WHERE WHAT IT READS IS OF BULK AT MOST 1048576: true; the input reads as it did. -/
def faultsKnownUptoRow : OpenClaim := { program := "ytgnhbccmdpkbiaagreatdoor", sum := "d76eb97ab1d68f7773588d5a540b5dfa9db2253c308e0e3f975406e6e4b80cc8", func := "spillway/spillwaylaw03.FaultsKnown", spec := "faultsKnown", inPlace := ["internal/bytealg.IndexByteString", "internal/bytealg.IndexString", "internal/abi.NoEscape", "internal/reflectlite.ValueOf", "(internal/reflectlite.Value).Type", "(internal/reflectlite.Value).IsNil", "internal/reflectlite.TypeOf", "(internal/reflectlite.Value).Elem", "(internal/reflectlite.Value).Set"], unfollowed := true, recurses := true, named := ["unicode/utf8.first", "unicode/utf8.acceptRanges", "spillway/faults.names", "strconv.ErrSyntax", "strconv.ErrRange", "internal/strconv.uint64pow10", "math/bits.deBruijn32tab", "math/bits.deBruijn64tab", "errors.errorType", "internal/bytealg.MaxLen"], apart := false, laid := [("math/bits.deBruijn32tab", laid_math_bits_deBruijn32tab), ("math/bits.deBruijn64tab", laid_math_bits_deBruijn64tab), ("internal/strconv.uint64pow10", laid_internal_strconv_uint64pow10), ("unicode/utf8.acceptRanges", laid_unicode_utf8_acceptRanges), ("errors.errorType", laid_errors_errorType), ("strconv.ErrRange", laid_strconv_ErrRange), ("strconv.ErrSyntax", laid_strconv_ErrSyntax), ("spillway/faults.names", laid_spillway_faults_names), ("unicode/utf8.first", laid_unicode_utf8_first)], narrowed := true }
def FaultsKnownUptoSaid : Prop := faultsKnownUptoRow.holds Tryz.pinned (OpenSpec.upto faultsKnownSpec)

end Rows
end Go.Proofs.YtgnhbccmdpkbiaaGreatDoor
