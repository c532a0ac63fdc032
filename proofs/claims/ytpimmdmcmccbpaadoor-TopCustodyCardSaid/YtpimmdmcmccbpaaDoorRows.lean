/-
  NARROWER THAN 'FOR EVERY INPUT', by the rows' own cells (each row's printed sentence says how): TopTamper: laid · TopCustody: laid · CustodyAdds: laid · CustodyVerifies: laid · CustodySound: laid · CustodyDetects: laid · CustodyErrors: laid · CustodyTraces: laid · CustodyNil: laid · CustodyPermit: laid.
  DERIVED. THE GIVEN ROWS OF THIS SEAT. 10 by the template 'for every input the law returns true; each argument reads behind the call as it read before'; 0 by the template 'total and deterministic' (their statements: YtpimmdmcmccbpaaDoorTotals.lean).
  GIVEN WITH THE SEED: the statements are not yours to turn. If you find one false, say at which input.
  Laid BY PROGRAM, IN A SANDBOX (cutbox-rows.mjs): the forced cells as the released guide's own fill.sh prints them over the translation 7fa32fe748fd9ba4… (all of the seat's roots in one cut). By AI agents, Wed Nov 11 2026. No macro, syntax, notation, axiom, sorry.
-/
import Derived.Test.YtpimmdmcmccbpaaDoorChecked
import GoSem.Claim
import GoSem.ClaimJoined
import GoSem.ClaimMapViews
import Derived.JoinedTies
import Derived.KernelRfl
namespace Go.Proofs.YtpimmdmcmccbpaaDoor
/- THE CELL 'sum', in the pinned program and in every row, IS THE sha256 OF THE DUMP (.gsa) THAT YtpimmdmcmccbpaaDoorProg.lean LOADS. Nothing in Lean hashes anything: it is a label: what it is worth is what the hold of that sum in a sandbox is worth. -/
noncomputable def Tryd.pinned : Pinned := { name := "ytpimmdmcmccbpaadoor", sum := "7fa32fe748fd9ba4b6ae4c22e94991edd935dc019c70932d7ae121c7abf359df", checked := Tryd.checked }
namespace Rows
def none {H : Type} : Left H := { results := [], args := [] }

/- WHAT THE LISTED PACKAGE-LEVEL VARIABLES READ AS WHEN THE CALL BEGINS. Each datum BY PROGRAM (the guide's laid-datum.mjs) off the statement by which the dump's own 'gosem.cut.vars' lays the variable. In a bare row this is a premise. The card (YtpimmdmcmccbpaaDoorCards.lean) ties it to the program's text. -/
def laid_math_bits_deBruijn32tab {H : Type} : DataW H := .agg [.lit (.int .u8 0), .lit (.int .u8 1), .lit (.int .u8 28), .lit (.int .u8 2), .lit (.int .u8 29), .lit (.int .u8 14), .lit (.int .u8 24), .lit (.int .u8 3), .lit (.int .u8 30), .lit (.int .u8 22), .lit (.int .u8 20), .lit (.int .u8 15), .lit (.int .u8 25), .lit (.int .u8 17), .lit (.int .u8 4), .lit (.int .u8 8), .lit (.int .u8 31), .lit (.int .u8 27), .lit (.int .u8 13), .lit (.int .u8 23), .lit (.int .u8 21), .lit (.int .u8 19), .lit (.int .u8 16), .lit (.int .u8 7), .lit (.int .u8 26), .lit (.int .u8 12), .lit (.int .u8 18), .lit (.int .u8 6), .lit (.int .u8 11), .lit (.int .u8 5), .lit (.int .u8 10), .lit (.int .u8 9)]
def laid_math_bits_deBruijn64tab {H : Type} : DataW H := .agg [.lit (.int .u8 0), .lit (.int .u8 1), .lit (.int .u8 56), .lit (.int .u8 2), .lit (.int .u8 57), .lit (.int .u8 49), .lit (.int .u8 28), .lit (.int .u8 3), .lit (.int .u8 61), .lit (.int .u8 58), .lit (.int .u8 42), .lit (.int .u8 50), .lit (.int .u8 38), .lit (.int .u8 29), .lit (.int .u8 17), .lit (.int .u8 4), .lit (.int .u8 62), .lit (.int .u8 47), .lit (.int .u8 59), .lit (.int .u8 36), .lit (.int .u8 45), .lit (.int .u8 43), .lit (.int .u8 51), .lit (.int .u8 22), .lit (.int .u8 53), .lit (.int .u8 39), .lit (.int .u8 33), .lit (.int .u8 30), .lit (.int .u8 24), .lit (.int .u8 18), .lit (.int .u8 12), .lit (.int .u8 5), .lit (.int .u8 63), .lit (.int .u8 55), .lit (.int .u8 48), .lit (.int .u8 27), .lit (.int .u8 60), .lit (.int .u8 41), .lit (.int .u8 37), .lit (.int .u8 16), .lit (.int .u8 46), .lit (.int .u8 35), .lit (.int .u8 44), .lit (.int .u8 21), .lit (.int .u8 52), .lit (.int .u8 32), .lit (.int .u8 23), .lit (.int .u8 11), .lit (.int .u8 54), .lit (.int .u8 26), .lit (.int .u8 40), .lit (.int .u8 15), .lit (.int .u8 34), .lit (.int .u8 20), .lit (.int .u8 31), .lit (.int .u8 10), .lit (.int .u8 25), .lit (.int .u8 14), .lit (.int .u8 19), .lit (.int .u8 9), .lit (.int .u8 13), .lit (.int .u8 8), .lit (.int .u8 7), .lit (.int .u8 6)]
def laid_internal_strconv_uint64pow10 {H : Type} : DataW H := .agg [.lit (.int .u64 1), .lit (.int .u64 10), .lit (.int .u64 100), .lit (.int .u64 1000), .lit (.int .u64 10000), .lit (.int .u64 100000), .lit (.int .u64 1000000), .lit (.int .u64 10000000), .lit (.int .u64 100000000), .lit (.int .u64 1000000000), .lit (.int .u64 10000000000), .lit (.int .u64 100000000000), .lit (.int .u64 1000000000000), .lit (.int .u64 10000000000000), .lit (.int .u64 100000000000000), .lit (.int .u64 1000000000000000), .lit (.int .u64 10000000000000000), .lit (.int .u64 100000000000000000), .lit (.int .u64 1000000000000000000), .lit (.int .u64 10000000000000000000)]

/-- 'sawmilltop.TopTamper': WHATEVER THE INPUT: true; the input reads as it did. -/
def topTamperSpec : ChangeSpec := { name := "topTamper", fn := fun _ => fun
  | [d1, d2, d3] => { results := [.lit (.bool true)], args := [d1, d2, d3] }
  | _ => none }
def topTamperRow : OpenClaim := { program := "ytpimmdmcmccbpaadoor", sum := "7fa32fe748fd9ba4b6ae4c22e94991edd935dc019c70932d7ae121c7abf359df", func := "sawmill/sawmilltop.TopTamper", spec := "topTamper", inPlace := ["internal/abi.NoEscape", "internal/bytealg.MakeNoZero"], unfollowed := true, recurses := true, named := ["internal/strconv.uint64pow10", "math/bits.deBruijn32tab", "math/bits.deBruijn64tab"], apart := false, laid := [("math/bits.deBruijn32tab", laid_math_bits_deBruijn32tab), ("math/bits.deBruijn64tab", laid_math_bits_deBruijn64tab), ("internal/strconv.uint64pow10", laid_internal_strconv_uint64pow10)] }
def TopTamperSaid : Prop := topTamperRow.holds Tryd.pinned (OpenSpec.ofChange topTamperSpec)

/-- ITS FALSE NEIGHBOUR: 'it returns false'. Refute it at one input. -/
def topTamperWrong : ChangeSpec := { name := "topTamper", fn := fun _ => fun
  | [d1, d2, d3] => { results := [.lit (.bool false)], args := [d1, d2, d3] }
  | _ => none }
def TopTamperWrongFalsely : Prop := topTamperRow.holds Tryd.pinned (OpenSpec.ofChange topTamperWrong)

/-- 'sawmilltop.TopCustody': WHATEVER THE INPUT: true; the input reads as it did. -/
def topCustodySpec : ChangeSpec := { name := "topCustody", fn := fun _ => fun
  | [d] => { results := [.lit (.bool true)], args := [d] }
  | _ => none }
def topCustodyRow : OpenClaim := { program := "ytpimmdmcmccbpaadoor", sum := "7fa32fe748fd9ba4b6ae4c22e94991edd935dc019c70932d7ae121c7abf359df", func := "sawmill/sawmilltop.TopCustody", spec := "topCustody", inPlace := ["internal/abi.NoEscape", "internal/bytealg.MakeNoZero"], unfollowed := true, recurses := true, named := ["internal/strconv.uint64pow10", "math/bits.deBruijn32tab", "math/bits.deBruijn64tab"], apart := false, laid := [("math/bits.deBruijn32tab", laid_math_bits_deBruijn32tab), ("math/bits.deBruijn64tab", laid_math_bits_deBruijn64tab), ("internal/strconv.uint64pow10", laid_internal_strconv_uint64pow10)] }
def TopCustodySaid : Prop := topCustodyRow.holds Tryd.pinned (OpenSpec.ofChange topCustodySpec)

/-- ITS FALSE NEIGHBOUR: 'it returns false'. Refute it at one input. -/
def topCustodyWrong : ChangeSpec := { name := "topCustody", fn := fun _ => fun
  | [d] => { results := [.lit (.bool false)], args := [d] }
  | _ => none }
def TopCustodyWrongFalsely : Prop := topCustodyRow.holds Tryd.pinned (OpenSpec.ofChange topCustodyWrong)

/-- 'sawmilllaw54.CustodyAdds': WHATEVER THE INPUT: true; the input reads as it did. -/
def custodyAddsSpec : ChangeSpec := { name := "custodyAdds", fn := fun _ => fun
  | [d] => { results := [.lit (.bool true)], args := [d] }
  | _ => none }
def custodyAddsRow : OpenClaim := { program := "ytpimmdmcmccbpaadoor", sum := "7fa32fe748fd9ba4b6ae4c22e94991edd935dc019c70932d7ae121c7abf359df", func := "sawmill/sawmilllaw54.CustodyAdds", spec := "custodyAdds", inPlace := ["internal/abi.NoEscape", "internal/bytealg.MakeNoZero"], unfollowed := true, recurses := true, named := ["internal/strconv.uint64pow10", "math/bits.deBruijn32tab", "math/bits.deBruijn64tab"], apart := false, laid := [("math/bits.deBruijn32tab", laid_math_bits_deBruijn32tab), ("math/bits.deBruijn64tab", laid_math_bits_deBruijn64tab), ("internal/strconv.uint64pow10", laid_internal_strconv_uint64pow10)] }
def CustodyAddsSaid : Prop := custodyAddsRow.holds Tryd.pinned (OpenSpec.ofChange custodyAddsSpec)

/-- ITS FALSE NEIGHBOUR: 'it returns false'. Refute it at one input. -/
def custodyAddsWrong : ChangeSpec := { name := "custodyAdds", fn := fun _ => fun
  | [d] => { results := [.lit (.bool false)], args := [d] }
  | _ => none }
def CustodyAddsWrongFalsely : Prop := custodyAddsRow.holds Tryd.pinned (OpenSpec.ofChange custodyAddsWrong)

/-- 'sawmilllaw54.CustodyVerifies': WHATEVER THE INPUT: true; the input reads as it did. -/
def custodyVerifiesSpec : ChangeSpec := { name := "custodyVerifies", fn := fun _ => fun
  | [d] => { results := [.lit (.bool true)], args := [d] }
  | _ => none }
def custodyVerifiesRow : OpenClaim := { program := "ytpimmdmcmccbpaadoor", sum := "7fa32fe748fd9ba4b6ae4c22e94991edd935dc019c70932d7ae121c7abf359df", func := "sawmill/sawmilllaw54.CustodyVerifies", spec := "custodyVerifies", inPlace := ["internal/abi.NoEscape", "internal/bytealg.MakeNoZero"], unfollowed := true, recurses := true, named := ["internal/strconv.uint64pow10", "math/bits.deBruijn32tab", "math/bits.deBruijn64tab"], apart := false, laid := [("math/bits.deBruijn32tab", laid_math_bits_deBruijn32tab), ("math/bits.deBruijn64tab", laid_math_bits_deBruijn64tab), ("internal/strconv.uint64pow10", laid_internal_strconv_uint64pow10)] }
def CustodyVerifiesSaid : Prop := custodyVerifiesRow.holds Tryd.pinned (OpenSpec.ofChange custodyVerifiesSpec)

/-- ITS FALSE NEIGHBOUR: 'it returns false'. Refute it at one input. -/
def custodyVerifiesWrong : ChangeSpec := { name := "custodyVerifies", fn := fun _ => fun
  | [d] => { results := [.lit (.bool false)], args := [d] }
  | _ => none }
def CustodyVerifiesWrongFalsely : Prop := custodyVerifiesRow.holds Tryd.pinned (OpenSpec.ofChange custodyVerifiesWrong)

/-- 'sawmilllaw54.CustodySound': WHATEVER THE INPUT: true; the input reads as it did. -/
def custodySoundSpec : ChangeSpec := { name := "custodySound", fn := fun _ => fun
  | [d1, d2] => { results := [.lit (.bool true)], args := [d1, d2] }
  | _ => none }
def custodySoundRow : OpenClaim := { program := "ytpimmdmcmccbpaadoor", sum := "7fa32fe748fd9ba4b6ae4c22e94991edd935dc019c70932d7ae121c7abf359df", func := "sawmill/sawmilllaw54.CustodySound", spec := "custodySound", inPlace := ["internal/abi.NoEscape", "internal/bytealg.MakeNoZero"], unfollowed := true, recurses := true, named := ["internal/strconv.uint64pow10", "math/bits.deBruijn32tab", "math/bits.deBruijn64tab"], apart := false, laid := [("math/bits.deBruijn32tab", laid_math_bits_deBruijn32tab), ("math/bits.deBruijn64tab", laid_math_bits_deBruijn64tab), ("internal/strconv.uint64pow10", laid_internal_strconv_uint64pow10)] }
def CustodySoundSaid : Prop := custodySoundRow.holds Tryd.pinned (OpenSpec.ofChange custodySoundSpec)

/-- ITS FALSE NEIGHBOUR: 'it returns false'. Refute it at one input. -/
def custodySoundWrong : ChangeSpec := { name := "custodySound", fn := fun _ => fun
  | [d1, d2] => { results := [.lit (.bool false)], args := [d1, d2] }
  | _ => none }
def CustodySoundWrongFalsely : Prop := custodySoundRow.holds Tryd.pinned (OpenSpec.ofChange custodySoundWrong)

/-- 'sawmilllaw54.CustodyDetects': WHATEVER THE INPUT: true; the input reads as it did. -/
def custodyDetectsSpec : ChangeSpec := { name := "custodyDetects", fn := fun _ => fun
  | [d1, d2] => { results := [.lit (.bool true)], args := [d1, d2] }
  | _ => none }
def custodyDetectsRow : OpenClaim := { program := "ytpimmdmcmccbpaadoor", sum := "7fa32fe748fd9ba4b6ae4c22e94991edd935dc019c70932d7ae121c7abf359df", func := "sawmill/sawmilllaw54.CustodyDetects", spec := "custodyDetects", inPlace := ["internal/abi.NoEscape", "internal/bytealg.MakeNoZero"], unfollowed := true, recurses := true, named := ["internal/strconv.uint64pow10", "math/bits.deBruijn32tab", "math/bits.deBruijn64tab"], apart := false, laid := [("math/bits.deBruijn32tab", laid_math_bits_deBruijn32tab), ("math/bits.deBruijn64tab", laid_math_bits_deBruijn64tab), ("internal/strconv.uint64pow10", laid_internal_strconv_uint64pow10)] }
def CustodyDetectsSaid : Prop := custodyDetectsRow.holds Tryd.pinned (OpenSpec.ofChange custodyDetectsSpec)

/-- ITS FALSE NEIGHBOUR: 'it returns false'. Refute it at one input. -/
def custodyDetectsWrong : ChangeSpec := { name := "custodyDetects", fn := fun _ => fun
  | [d1, d2] => { results := [.lit (.bool false)], args := [d1, d2] }
  | _ => none }
def CustodyDetectsWrongFalsely : Prop := custodyDetectsRow.holds Tryd.pinned (OpenSpec.ofChange custodyDetectsWrong)

/-- 'sawmilllaw54.CustodyErrors': WHATEVER THE INPUT: true; the input reads as it did. -/
def custodyErrorsSpec : ChangeSpec := { name := "custodyErrors", fn := fun _ => fun
  | [d1, d2] => { results := [.lit (.bool true)], args := [d1, d2] }
  | _ => none }
def custodyErrorsRow : OpenClaim := { program := "ytpimmdmcmccbpaadoor", sum := "7fa32fe748fd9ba4b6ae4c22e94991edd935dc019c70932d7ae121c7abf359df", func := "sawmill/sawmilllaw54.CustodyErrors", spec := "custodyErrors", inPlace := ["internal/abi.NoEscape", "internal/bytealg.MakeNoZero"], unfollowed := true, recurses := true, named := ["internal/strconv.uint64pow10", "math/bits.deBruijn32tab", "math/bits.deBruijn64tab"], apart := false, laid := [("math/bits.deBruijn32tab", laid_math_bits_deBruijn32tab), ("math/bits.deBruijn64tab", laid_math_bits_deBruijn64tab), ("internal/strconv.uint64pow10", laid_internal_strconv_uint64pow10)] }
def CustodyErrorsSaid : Prop := custodyErrorsRow.holds Tryd.pinned (OpenSpec.ofChange custodyErrorsSpec)

/-- ITS FALSE NEIGHBOUR: 'it returns false'. Refute it at one input. -/
def custodyErrorsWrong : ChangeSpec := { name := "custodyErrors", fn := fun _ => fun
  | [d1, d2] => { results := [.lit (.bool false)], args := [d1, d2] }
  | _ => none }
def CustodyErrorsWrongFalsely : Prop := custodyErrorsRow.holds Tryd.pinned (OpenSpec.ofChange custodyErrorsWrong)

/-- 'sawmilllaw54.CustodyTraces': WHATEVER THE INPUT: true; the input reads as it did. -/
def custodyTracesSpec : ChangeSpec := { name := "custodyTraces", fn := fun _ => fun
  | [d1, d2] => { results := [.lit (.bool true)], args := [d1, d2] }
  | _ => none }
def custodyTracesRow : OpenClaim := { program := "ytpimmdmcmccbpaadoor", sum := "7fa32fe748fd9ba4b6ae4c22e94991edd935dc019c70932d7ae121c7abf359df", func := "sawmill/sawmilllaw54.CustodyTraces", spec := "custodyTraces", inPlace := ["internal/abi.NoEscape", "internal/bytealg.MakeNoZero"], unfollowed := true, recurses := true, named := ["internal/strconv.uint64pow10", "math/bits.deBruijn32tab", "math/bits.deBruijn64tab"], apart := false, laid := [("math/bits.deBruijn32tab", laid_math_bits_deBruijn32tab), ("math/bits.deBruijn64tab", laid_math_bits_deBruijn64tab), ("internal/strconv.uint64pow10", laid_internal_strconv_uint64pow10)] }
def CustodyTracesSaid : Prop := custodyTracesRow.holds Tryd.pinned (OpenSpec.ofChange custodyTracesSpec)

/-- ITS FALSE NEIGHBOUR: 'it returns false'. Refute it at one input. -/
def custodyTracesWrong : ChangeSpec := { name := "custodyTraces", fn := fun _ => fun
  | [d1, d2] => { results := [.lit (.bool false)], args := [d1, d2] }
  | _ => none }
def CustodyTracesWrongFalsely : Prop := custodyTracesRow.holds Tryd.pinned (OpenSpec.ofChange custodyTracesWrong)

/-- 'sawmilllaw54.CustodyNil': WHATEVER THE INPUT: true; the input reads as it did. -/
def custodyNilSpec : ChangeSpec := { name := "custodyNil", fn := fun _ => fun
  | [d] => { results := [.lit (.bool true)], args := [d] }
  | _ => none }
def custodyNilRow : OpenClaim := { program := "ytpimmdmcmccbpaadoor", sum := "7fa32fe748fd9ba4b6ae4c22e94991edd935dc019c70932d7ae121c7abf359df", func := "sawmill/sawmilllaw54.CustodyNil", spec := "custodyNil", inPlace := ["internal/abi.NoEscape", "internal/bytealg.MakeNoZero"], unfollowed := true, recurses := true, named := ["internal/strconv.uint64pow10", "math/bits.deBruijn32tab", "math/bits.deBruijn64tab"], apart := false, laid := [("math/bits.deBruijn32tab", laid_math_bits_deBruijn32tab), ("math/bits.deBruijn64tab", laid_math_bits_deBruijn64tab), ("internal/strconv.uint64pow10", laid_internal_strconv_uint64pow10)] }
def CustodyNilSaid : Prop := custodyNilRow.holds Tryd.pinned (OpenSpec.ofChange custodyNilSpec)

/-- ITS FALSE NEIGHBOUR: 'it returns false'. Refute it at one input. -/
def custodyNilWrong : ChangeSpec := { name := "custodyNil", fn := fun _ => fun
  | [d] => { results := [.lit (.bool false)], args := [d] }
  | _ => none }
def CustodyNilWrongFalsely : Prop := custodyNilRow.holds Tryd.pinned (OpenSpec.ofChange custodyNilWrong)

/-- 'sawmilllaw54.CustodyPermit': WHATEVER THE INPUT: true; the input reads as it did. -/
def custodyPermitSpec : ChangeSpec := { name := "custodyPermit", fn := fun _ => fun
  | [d] => { results := [.lit (.bool true)], args := [d] }
  | _ => none }
def custodyPermitRow : OpenClaim := { program := "ytpimmdmcmccbpaadoor", sum := "7fa32fe748fd9ba4b6ae4c22e94991edd935dc019c70932d7ae121c7abf359df", func := "sawmill/sawmilllaw54.CustodyPermit", spec := "custodyPermit", inPlace := ["internal/abi.NoEscape", "internal/bytealg.MakeNoZero"], unfollowed := true, recurses := true, named := ["internal/strconv.uint64pow10", "math/bits.deBruijn32tab", "math/bits.deBruijn64tab"], apart := false, laid := [("math/bits.deBruijn32tab", laid_math_bits_deBruijn32tab), ("math/bits.deBruijn64tab", laid_math_bits_deBruijn64tab), ("internal/strconv.uint64pow10", laid_internal_strconv_uint64pow10)] }
def CustodyPermitSaid : Prop := custodyPermitRow.holds Tryd.pinned (OpenSpec.ofChange custodyPermitSpec)

/-- ITS FALSE NEIGHBOUR: 'it returns false'. Refute it at one input. -/
def custodyPermitWrong : ChangeSpec := { name := "custodyPermit", fn := fun _ => fun
  | [d] => { results := [.lit (.bool false)], args := [d] }
  | _ => none }
def CustodyPermitWrongFalsely : Prop := custodyPermitRow.holds Tryd.pinned (OpenSpec.ofChange custodyPermitWrong)

/- THE SECOND FORM. 'bulk': how many values and letters a reading holds, each counted each time it is reached (what is shared counts as often as it is met; a slice's spare places count too). A statement '..UptoSaid' is the law's where the arguments, and the package variables that the reading takes, are together of bulk at most 1048576: NARROWER than '..Said'. Prove '..Said' where nothing that the law and all that it calls make is longer than what came in: it says more and counts as full. Else prove '..UptoSaid'. A law counts once. -/
mutual
def uptoBulk {H : Type} : DataW H → Nat
  | .lit (.string bytes) => bytes.length + 1
  | .lit _ => 1
  | .nil => 1
  | .ptr d => uptoBulk d + 1
  | .slice elems spare => uptoBulkAll elems + uptoBulkAll spare + 1
  | .agg parts => uptoBulkAll parts + 1
  | .iface _ d => uptoBulk d + 1
  | .map entries => uptoBulkEntries entries + 1
  | .held _ => 1
def uptoBulkAll {H : Type} : List (DataW H) → Nat
  | [] => 0
  | d :: r => uptoBulk d + uptoBulkAll r
def uptoBulkEntries {H : Type} : List (Lit × DataW H) → Nat
  | [] => 0
  | x :: r => uptoBulkEntry x + uptoBulkEntries r
def uptoBulkEntry {H : Type} : Lit × DataW H → Nat
  | (.string bytes, d) => bytes.length + uptoBulk d + 1
  | (_, d) => uptoBulk d + 1
 end
def uptoSmall : (H : Type) → List (DataW H) → Bool := fun _ ds => decide (uptoBulkAll ds ≤ 1048576)
def OpenSpec.upto (s : _root_.Go.ChangeSpec) : _root_.Go.OpenSpec := { _root_.Go.OpenSpec.ofChange s with cond := some uptoSmall }

/-- 'sawmilltop.TopTamper', WHERE WHAT IT READS IS OF BULK AT MOST 1048576: true; the input reads as it did. -/
def topTamperUptoRow : OpenClaim := { program := "ytpimmdmcmccbpaadoor", sum := "7fa32fe748fd9ba4b6ae4c22e94991edd935dc019c70932d7ae121c7abf359df", func := "sawmill/sawmilltop.TopTamper", spec := "topTamper", inPlace := ["internal/abi.NoEscape", "internal/bytealg.MakeNoZero"], unfollowed := true, recurses := true, named := ["internal/strconv.uint64pow10", "math/bits.deBruijn32tab", "math/bits.deBruijn64tab"], apart := false, laid := [("math/bits.deBruijn32tab", laid_math_bits_deBruijn32tab), ("math/bits.deBruijn64tab", laid_math_bits_deBruijn64tab), ("internal/strconv.uint64pow10", laid_internal_strconv_uint64pow10)], narrowed := true }
def TopTamperUptoSaid : Prop := topTamperUptoRow.holds Tryd.pinned (OpenSpec.upto topTamperSpec)

/-- 'sawmilltop.TopCustody', WHERE WHAT IT READS IS OF BULK AT MOST 1048576: true; the input reads as it did. -/
def topCustodyUptoRow : OpenClaim := { program := "ytpimmdmcmccbpaadoor", sum := "7fa32fe748fd9ba4b6ae4c22e94991edd935dc019c70932d7ae121c7abf359df", func := "sawmill/sawmilltop.TopCustody", spec := "topCustody", inPlace := ["internal/abi.NoEscape", "internal/bytealg.MakeNoZero"], unfollowed := true, recurses := true, named := ["internal/strconv.uint64pow10", "math/bits.deBruijn32tab", "math/bits.deBruijn64tab"], apart := false, laid := [("math/bits.deBruijn32tab", laid_math_bits_deBruijn32tab), ("math/bits.deBruijn64tab", laid_math_bits_deBruijn64tab), ("internal/strconv.uint64pow10", laid_internal_strconv_uint64pow10)], narrowed := true }
def TopCustodyUptoSaid : Prop := topCustodyUptoRow.holds Tryd.pinned (OpenSpec.upto topCustodySpec)

/-- 'sawmilllaw54.CustodyAdds', WHERE WHAT IT READS IS OF BULK AT MOST 1048576: true; the input reads as it did. -/
def custodyAddsUptoRow : OpenClaim := { program := "ytpimmdmcmccbpaadoor", sum := "7fa32fe748fd9ba4b6ae4c22e94991edd935dc019c70932d7ae121c7abf359df", func := "sawmill/sawmilllaw54.CustodyAdds", spec := "custodyAdds", inPlace := ["internal/abi.NoEscape", "internal/bytealg.MakeNoZero"], unfollowed := true, recurses := true, named := ["internal/strconv.uint64pow10", "math/bits.deBruijn32tab", "math/bits.deBruijn64tab"], apart := false, laid := [("math/bits.deBruijn32tab", laid_math_bits_deBruijn32tab), ("math/bits.deBruijn64tab", laid_math_bits_deBruijn64tab), ("internal/strconv.uint64pow10", laid_internal_strconv_uint64pow10)], narrowed := true }
def CustodyAddsUptoSaid : Prop := custodyAddsUptoRow.holds Tryd.pinned (OpenSpec.upto custodyAddsSpec)

/-- 'sawmilllaw54.CustodyVerifies', WHERE WHAT IT READS IS OF BULK AT MOST 1048576: true; the input reads as it did. -/
def custodyVerifiesUptoRow : OpenClaim := { program := "ytpimmdmcmccbpaadoor", sum := "7fa32fe748fd9ba4b6ae4c22e94991edd935dc019c70932d7ae121c7abf359df", func := "sawmill/sawmilllaw54.CustodyVerifies", spec := "custodyVerifies", inPlace := ["internal/abi.NoEscape", "internal/bytealg.MakeNoZero"], unfollowed := true, recurses := true, named := ["internal/strconv.uint64pow10", "math/bits.deBruijn32tab", "math/bits.deBruijn64tab"], apart := false, laid := [("math/bits.deBruijn32tab", laid_math_bits_deBruijn32tab), ("math/bits.deBruijn64tab", laid_math_bits_deBruijn64tab), ("internal/strconv.uint64pow10", laid_internal_strconv_uint64pow10)], narrowed := true }
def CustodyVerifiesUptoSaid : Prop := custodyVerifiesUptoRow.holds Tryd.pinned (OpenSpec.upto custodyVerifiesSpec)

/-- 'sawmilllaw54.CustodySound', WHERE WHAT IT READS IS OF BULK AT MOST 1048576: true; the input reads as it did. -/
def custodySoundUptoRow : OpenClaim := { program := "ytpimmdmcmccbpaadoor", sum := "7fa32fe748fd9ba4b6ae4c22e94991edd935dc019c70932d7ae121c7abf359df", func := "sawmill/sawmilllaw54.CustodySound", spec := "custodySound", inPlace := ["internal/abi.NoEscape", "internal/bytealg.MakeNoZero"], unfollowed := true, recurses := true, named := ["internal/strconv.uint64pow10", "math/bits.deBruijn32tab", "math/bits.deBruijn64tab"], apart := false, laid := [("math/bits.deBruijn32tab", laid_math_bits_deBruijn32tab), ("math/bits.deBruijn64tab", laid_math_bits_deBruijn64tab), ("internal/strconv.uint64pow10", laid_internal_strconv_uint64pow10)], narrowed := true }
def CustodySoundUptoSaid : Prop := custodySoundUptoRow.holds Tryd.pinned (OpenSpec.upto custodySoundSpec)

/-- 'sawmilllaw54.CustodyDetects', WHERE WHAT IT READS IS OF BULK AT MOST 1048576: true; the input reads as it did. -/
def custodyDetectsUptoRow : OpenClaim := { program := "ytpimmdmcmccbpaadoor", sum := "7fa32fe748fd9ba4b6ae4c22e94991edd935dc019c70932d7ae121c7abf359df", func := "sawmill/sawmilllaw54.CustodyDetects", spec := "custodyDetects", inPlace := ["internal/abi.NoEscape", "internal/bytealg.MakeNoZero"], unfollowed := true, recurses := true, named := ["internal/strconv.uint64pow10", "math/bits.deBruijn32tab", "math/bits.deBruijn64tab"], apart := false, laid := [("math/bits.deBruijn32tab", laid_math_bits_deBruijn32tab), ("math/bits.deBruijn64tab", laid_math_bits_deBruijn64tab), ("internal/strconv.uint64pow10", laid_internal_strconv_uint64pow10)], narrowed := true }
def CustodyDetectsUptoSaid : Prop := custodyDetectsUptoRow.holds Tryd.pinned (OpenSpec.upto custodyDetectsSpec)

/-- 'sawmilllaw54.CustodyErrors', WHERE WHAT IT READS IS OF BULK AT MOST 1048576: true; the input reads as it did. -/
def custodyErrorsUptoRow : OpenClaim := { program := "ytpimmdmcmccbpaadoor", sum := "7fa32fe748fd9ba4b6ae4c22e94991edd935dc019c70932d7ae121c7abf359df", func := "sawmill/sawmilllaw54.CustodyErrors", spec := "custodyErrors", inPlace := ["internal/abi.NoEscape", "internal/bytealg.MakeNoZero"], unfollowed := true, recurses := true, named := ["internal/strconv.uint64pow10", "math/bits.deBruijn32tab", "math/bits.deBruijn64tab"], apart := false, laid := [("math/bits.deBruijn32tab", laid_math_bits_deBruijn32tab), ("math/bits.deBruijn64tab", laid_math_bits_deBruijn64tab), ("internal/strconv.uint64pow10", laid_internal_strconv_uint64pow10)], narrowed := true }
def CustodyErrorsUptoSaid : Prop := custodyErrorsUptoRow.holds Tryd.pinned (OpenSpec.upto custodyErrorsSpec)

/-- 'sawmilllaw54.CustodyTraces', WHERE WHAT IT READS IS OF BULK AT MOST 1048576: true; the input reads as it did. -/
def custodyTracesUptoRow : OpenClaim := { program := "ytpimmdmcmccbpaadoor", sum := "7fa32fe748fd9ba4b6ae4c22e94991edd935dc019c70932d7ae121c7abf359df", func := "sawmill/sawmilllaw54.CustodyTraces", spec := "custodyTraces", inPlace := ["internal/abi.NoEscape", "internal/bytealg.MakeNoZero"], unfollowed := true, recurses := true, named := ["internal/strconv.uint64pow10", "math/bits.deBruijn32tab", "math/bits.deBruijn64tab"], apart := false, laid := [("math/bits.deBruijn32tab", laid_math_bits_deBruijn32tab), ("math/bits.deBruijn64tab", laid_math_bits_deBruijn64tab), ("internal/strconv.uint64pow10", laid_internal_strconv_uint64pow10)], narrowed := true }
def CustodyTracesUptoSaid : Prop := custodyTracesUptoRow.holds Tryd.pinned (OpenSpec.upto custodyTracesSpec)

/-- 'sawmilllaw54.CustodyNil', WHERE WHAT IT READS IS OF BULK AT MOST 1048576: true; the input reads as it did. -/
def custodyNilUptoRow : OpenClaim := { program := "ytpimmdmcmccbpaadoor", sum := "7fa32fe748fd9ba4b6ae4c22e94991edd935dc019c70932d7ae121c7abf359df", func := "sawmill/sawmilllaw54.CustodyNil", spec := "custodyNil", inPlace := ["internal/abi.NoEscape", "internal/bytealg.MakeNoZero"], unfollowed := true, recurses := true, named := ["internal/strconv.uint64pow10", "math/bits.deBruijn32tab", "math/bits.deBruijn64tab"], apart := false, laid := [("math/bits.deBruijn32tab", laid_math_bits_deBruijn32tab), ("math/bits.deBruijn64tab", laid_math_bits_deBruijn64tab), ("internal/strconv.uint64pow10", laid_internal_strconv_uint64pow10)], narrowed := true }
def CustodyNilUptoSaid : Prop := custodyNilUptoRow.holds Tryd.pinned (OpenSpec.upto custodyNilSpec)

/-- 'sawmilllaw54.CustodyPermit', WHERE WHAT IT READS IS OF BULK AT MOST 1048576: true; the input reads as it did. -/
def custodyPermitUptoRow : OpenClaim := { program := "ytpimmdmcmccbpaadoor", sum := "7fa32fe748fd9ba4b6ae4c22e94991edd935dc019c70932d7ae121c7abf359df", func := "sawmill/sawmilllaw54.CustodyPermit", spec := "custodyPermit", inPlace := ["internal/abi.NoEscape", "internal/bytealg.MakeNoZero"], unfollowed := true, recurses := true, named := ["internal/strconv.uint64pow10", "math/bits.deBruijn32tab", "math/bits.deBruijn64tab"], apart := false, laid := [("math/bits.deBruijn32tab", laid_math_bits_deBruijn32tab), ("math/bits.deBruijn64tab", laid_math_bits_deBruijn64tab), ("internal/strconv.uint64pow10", laid_internal_strconv_uint64pow10)], narrowed := true }
def CustodyPermitUptoSaid : Prop := custodyPermitUptoRow.holds Tryd.pinned (OpenSpec.upto custodyPermitSpec)

end Rows
end Go.Proofs.YtpimmdmcmccbpaaDoor
