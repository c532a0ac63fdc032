/-
  NARROWER THAN 'FOR EVERY INPUT', by the rows' own cells (each row's printed sentence says how): UnitsDivides: laid · UnitsScales: laid · UnitsMoves: laid · UnitsRoots: laid · UnitsTexts: laid · UnitsFloors: laid · UnitsProducts: laid · UnitsSteps: laid · UnitsBack: laid.
  DERIVED. THE GIVEN ROWS OF THIS SEAT. 9 by the template 'for every input the law returns true; each argument reads behind the call as it read before'; 0 by the template 'total and deterministic' (their statements: YtknfdnlmkjhmcaaDoorTotals.lean).
  GIVEN WITH THE SEED: the statements are not yours to turn. If you find one false, say at which input.
  Laid BY PROGRAM, IN A SANDBOX (cutbox-rows.mjs): the forced cells as the released guide's own fill.sh prints them over the translation 473616268a7f6c7a… (all of the seat's roots in one cut). By AI agents, Wed Nov 11 2026. No macro, syntax, notation, axiom, sorry.
-/
import Derived.Test.YtknfdnlmkjhmcaaDoorChecked
import GoSem.Claim
import GoSem.ClaimJoined
import GoSem.ClaimMapViews
import Derived.JoinedTies
import Derived.KernelRfl
namespace Go.Proofs.YtknfdnlmkjhmcaaDoor
/- THE CELL 'sum', in the pinned program and in every row, IS THE sha256 OF THE DUMP (.gsa) THAT YtknfdnlmkjhmcaaDoorProg.lean LOADS. Nothing in Lean hashes anything: it is a label: what it is worth is what the hold of that sum in a sandbox is worth. -/
noncomputable def Tryd.pinned : Pinned := { name := "ytknfdnlmkjhmcaadoor", sum := "473616268a7f6c7a92099404828ec7d3c63319428a40a31b94e3d5348ae5fe3d", checked := Tryd.checked }
namespace Rows
def none {H : Type} : Left H := { results := [], args := [] }

/- WHAT THE LISTED PACKAGE-LEVEL VARIABLES READ AS WHEN THE CALL BEGINS. Each datum BY PROGRAM (the guide's laid-datum.mjs) off the statement by which the dump's own 'gosem.cut.vars' lays the variable. In a bare row this is a premise. The card (YtknfdnlmkjhmcaaDoorCards.lean) ties it to the program's text. -/
def laid_math_bits_deBruijn32tab {H : Type} : DataW H := .agg [.lit (.int .u8 0), .lit (.int .u8 1), .lit (.int .u8 28), .lit (.int .u8 2), .lit (.int .u8 29), .lit (.int .u8 14), .lit (.int .u8 24), .lit (.int .u8 3), .lit (.int .u8 30), .lit (.int .u8 22), .lit (.int .u8 20), .lit (.int .u8 15), .lit (.int .u8 25), .lit (.int .u8 17), .lit (.int .u8 4), .lit (.int .u8 8), .lit (.int .u8 31), .lit (.int .u8 27), .lit (.int .u8 13), .lit (.int .u8 23), .lit (.int .u8 21), .lit (.int .u8 19), .lit (.int .u8 16), .lit (.int .u8 7), .lit (.int .u8 26), .lit (.int .u8 12), .lit (.int .u8 18), .lit (.int .u8 6), .lit (.int .u8 11), .lit (.int .u8 5), .lit (.int .u8 10), .lit (.int .u8 9)]
def laid_math_bits_deBruijn64tab {H : Type} : DataW H := .agg [.lit (.int .u8 0), .lit (.int .u8 1), .lit (.int .u8 56), .lit (.int .u8 2), .lit (.int .u8 57), .lit (.int .u8 49), .lit (.int .u8 28), .lit (.int .u8 3), .lit (.int .u8 61), .lit (.int .u8 58), .lit (.int .u8 42), .lit (.int .u8 50), .lit (.int .u8 38), .lit (.int .u8 29), .lit (.int .u8 17), .lit (.int .u8 4), .lit (.int .u8 62), .lit (.int .u8 47), .lit (.int .u8 59), .lit (.int .u8 36), .lit (.int .u8 45), .lit (.int .u8 43), .lit (.int .u8 51), .lit (.int .u8 22), .lit (.int .u8 53), .lit (.int .u8 39), .lit (.int .u8 33), .lit (.int .u8 30), .lit (.int .u8 24), .lit (.int .u8 18), .lit (.int .u8 12), .lit (.int .u8 5), .lit (.int .u8 63), .lit (.int .u8 55), .lit (.int .u8 48), .lit (.int .u8 27), .lit (.int .u8 60), .lit (.int .u8 41), .lit (.int .u8 37), .lit (.int .u8 16), .lit (.int .u8 46), .lit (.int .u8 35), .lit (.int .u8 44), .lit (.int .u8 21), .lit (.int .u8 52), .lit (.int .u8 32), .lit (.int .u8 23), .lit (.int .u8 11), .lit (.int .u8 54), .lit (.int .u8 26), .lit (.int .u8 40), .lit (.int .u8 15), .lit (.int .u8 34), .lit (.int .u8 20), .lit (.int .u8 31), .lit (.int .u8 10), .lit (.int .u8 25), .lit (.int .u8 14), .lit (.int .u8 19), .lit (.int .u8 9), .lit (.int .u8 13), .lit (.int .u8 8), .lit (.int .u8 7), .lit (.int .u8 6)]
def laid_internal_strconv_uint64pow10 {H : Type} : DataW H := .agg [.lit (.int .u64 1), .lit (.int .u64 10), .lit (.int .u64 100), .lit (.int .u64 1000), .lit (.int .u64 10000), .lit (.int .u64 100000), .lit (.int .u64 1000000), .lit (.int .u64 10000000), .lit (.int .u64 100000000), .lit (.int .u64 1000000000), .lit (.int .u64 10000000000), .lit (.int .u64 100000000000), .lit (.int .u64 1000000000000), .lit (.int .u64 10000000000000), .lit (.int .u64 100000000000000), .lit (.int .u64 1000000000000000), .lit (.int .u64 10000000000000000), .lit (.int .u64 100000000000000000), .lit (.int .u64 1000000000000000000), .lit (.int .u64 10000000000000000000)]

/-- 'sawmilllaw01.UnitsDivides': WHATEVER THE INPUT: true; the input reads as it did. -/
def unitsDividesSpec : ChangeSpec := { name := "unitsDivides", fn := fun _ => fun
  | [d1, d2] => { results := [.lit (.bool true)], args := [d1, d2] }
  | _ => none }
def unitsDividesRow : OpenClaim := { program := "ytknfdnlmkjhmcaadoor", sum := "473616268a7f6c7a92099404828ec7d3c63319428a40a31b94e3d5348ae5fe3d", func := "sawmill/sawmilllaw01.UnitsDivides", spec := "unitsDivides", inPlace := ["internal/abi.NoEscape", "internal/bytealg.MakeNoZero"], unfollowed := true, recurses := true, named := ["math/bits.divideError", "math/bits.overflowError", "internal/strconv.uint64pow10", "math/bits.deBruijn32tab", "math/bits.deBruijn64tab"], apart := false, laid := [("math/bits.deBruijn32tab", laid_math_bits_deBruijn32tab), ("math/bits.deBruijn64tab", laid_math_bits_deBruijn64tab), ("internal/strconv.uint64pow10", laid_internal_strconv_uint64pow10)] }
def UnitsDividesSaid : Prop := unitsDividesRow.holds Tryd.pinned (OpenSpec.ofChange unitsDividesSpec)

/-- ITS FALSE NEIGHBOUR: 'it returns false'. Refute it at one input. -/
def unitsDividesWrong : ChangeSpec := { name := "unitsDivides", fn := fun _ => fun
  | [d1, d2] => { results := [.lit (.bool false)], args := [d1, d2] }
  | _ => none }
def UnitsDividesWrongFalsely : Prop := unitsDividesRow.holds Tryd.pinned (OpenSpec.ofChange unitsDividesWrong)

/-- 'sawmilllaw01.UnitsScales': WHATEVER THE INPUT: true; the input reads as it did. -/
def unitsScalesSpec : ChangeSpec := { name := "unitsScales", fn := fun _ => fun
  | [d1, d2, d3] => { results := [.lit (.bool true)], args := [d1, d2, d3] }
  | _ => none }
def unitsScalesRow : OpenClaim := { program := "ytknfdnlmkjhmcaadoor", sum := "473616268a7f6c7a92099404828ec7d3c63319428a40a31b94e3d5348ae5fe3d", func := "sawmill/sawmilllaw01.UnitsScales", spec := "unitsScales", inPlace := ["internal/abi.NoEscape", "internal/bytealg.MakeNoZero"], unfollowed := true, recurses := true, named := ["math/bits.divideError", "math/bits.overflowError", "internal/strconv.uint64pow10", "math/bits.deBruijn32tab", "math/bits.deBruijn64tab"], apart := false, laid := [("math/bits.deBruijn32tab", laid_math_bits_deBruijn32tab), ("math/bits.deBruijn64tab", laid_math_bits_deBruijn64tab), ("internal/strconv.uint64pow10", laid_internal_strconv_uint64pow10)] }
def UnitsScalesSaid : Prop := unitsScalesRow.holds Tryd.pinned (OpenSpec.ofChange unitsScalesSpec)

/-- ITS FALSE NEIGHBOUR: 'it returns false'. Refute it at one input. -/
def unitsScalesWrong : ChangeSpec := { name := "unitsScales", fn := fun _ => fun
  | [d1, d2, d3] => { results := [.lit (.bool false)], args := [d1, d2, d3] }
  | _ => none }
def UnitsScalesWrongFalsely : Prop := unitsScalesRow.holds Tryd.pinned (OpenSpec.ofChange unitsScalesWrong)

/-- 'sawmilllaw01.UnitsMoves': WHATEVER THE INPUT: true; the input reads as it did. -/
def unitsMovesSpec : ChangeSpec := { name := "unitsMoves", fn := fun _ => fun
  | [d1, d2, d3] => { results := [.lit (.bool true)], args := [d1, d2, d3] }
  | _ => none }
def unitsMovesRow : OpenClaim := { program := "ytknfdnlmkjhmcaadoor", sum := "473616268a7f6c7a92099404828ec7d3c63319428a40a31b94e3d5348ae5fe3d", func := "sawmill/sawmilllaw01.UnitsMoves", spec := "unitsMoves", inPlace := ["internal/abi.NoEscape", "internal/bytealg.MakeNoZero"], unfollowed := true, recurses := true, named := ["math/bits.divideError", "math/bits.overflowError", "internal/strconv.uint64pow10", "math/bits.deBruijn32tab", "math/bits.deBruijn64tab"], apart := false, laid := [("math/bits.deBruijn32tab", laid_math_bits_deBruijn32tab), ("math/bits.deBruijn64tab", laid_math_bits_deBruijn64tab), ("internal/strconv.uint64pow10", laid_internal_strconv_uint64pow10)] }
def UnitsMovesSaid : Prop := unitsMovesRow.holds Tryd.pinned (OpenSpec.ofChange unitsMovesSpec)

/-- ITS FALSE NEIGHBOUR: 'it returns false'. Refute it at one input. -/
def unitsMovesWrong : ChangeSpec := { name := "unitsMoves", fn := fun _ => fun
  | [d1, d2, d3] => { results := [.lit (.bool false)], args := [d1, d2, d3] }
  | _ => none }
def UnitsMovesWrongFalsely : Prop := unitsMovesRow.holds Tryd.pinned (OpenSpec.ofChange unitsMovesWrong)

/-- 'sawmilllaw01.UnitsRoots': WHATEVER THE INPUT: true; the input reads as it did. -/
def unitsRootsSpec : ChangeSpec := { name := "unitsRoots", fn := fun _ => fun
  | [d] => { results := [.lit (.bool true)], args := [d] }
  | _ => none }
def unitsRootsRow : OpenClaim := { program := "ytknfdnlmkjhmcaadoor", sum := "473616268a7f6c7a92099404828ec7d3c63319428a40a31b94e3d5348ae5fe3d", func := "sawmill/sawmilllaw01.UnitsRoots", spec := "unitsRoots", inPlace := ["internal/abi.NoEscape", "internal/bytealg.MakeNoZero"], unfollowed := true, recurses := true, named := ["math/bits.divideError", "math/bits.overflowError", "internal/strconv.uint64pow10", "math/bits.deBruijn32tab", "math/bits.deBruijn64tab"], apart := false, laid := [("math/bits.deBruijn32tab", laid_math_bits_deBruijn32tab), ("math/bits.deBruijn64tab", laid_math_bits_deBruijn64tab), ("internal/strconv.uint64pow10", laid_internal_strconv_uint64pow10)] }
def UnitsRootsSaid : Prop := unitsRootsRow.holds Tryd.pinned (OpenSpec.ofChange unitsRootsSpec)

/-- ITS FALSE NEIGHBOUR: 'it returns false'. Refute it at one input. -/
def unitsRootsWrong : ChangeSpec := { name := "unitsRoots", fn := fun _ => fun
  | [d] => { results := [.lit (.bool false)], args := [d] }
  | _ => none }
def UnitsRootsWrongFalsely : Prop := unitsRootsRow.holds Tryd.pinned (OpenSpec.ofChange unitsRootsWrong)

/-- 'sawmilllaw01.UnitsTexts': WHATEVER THE INPUT: true; the input reads as it did. -/
def unitsTextsSpec : ChangeSpec := { name := "unitsTexts", fn := fun _ => fun
  | [d1, d2, d3] => { results := [.lit (.bool true)], args := [d1, d2, d3] }
  | _ => none }
def unitsTextsRow : OpenClaim := { program := "ytknfdnlmkjhmcaadoor", sum := "473616268a7f6c7a92099404828ec7d3c63319428a40a31b94e3d5348ae5fe3d", func := "sawmill/sawmilllaw01.UnitsTexts", spec := "unitsTexts", inPlace := ["internal/abi.NoEscape", "internal/bytealg.MakeNoZero"], unfollowed := true, recurses := true, named := ["math/bits.divideError", "math/bits.overflowError", "internal/strconv.uint64pow10", "math/bits.deBruijn32tab", "math/bits.deBruijn64tab"], apart := false, laid := [("math/bits.deBruijn32tab", laid_math_bits_deBruijn32tab), ("math/bits.deBruijn64tab", laid_math_bits_deBruijn64tab), ("internal/strconv.uint64pow10", laid_internal_strconv_uint64pow10)] }
def UnitsTextsSaid : Prop := unitsTextsRow.holds Tryd.pinned (OpenSpec.ofChange unitsTextsSpec)

/-- ITS FALSE NEIGHBOUR: 'it returns false'. Refute it at one input. -/
def unitsTextsWrong : ChangeSpec := { name := "unitsTexts", fn := fun _ => fun
  | [d1, d2, d3] => { results := [.lit (.bool false)], args := [d1, d2, d3] }
  | _ => none }
def UnitsTextsWrongFalsely : Prop := unitsTextsRow.holds Tryd.pinned (OpenSpec.ofChange unitsTextsWrong)

/-- 'sawmilllaw01.UnitsFloors': WHATEVER THE INPUT: true; the input reads as it did. -/
def unitsFloorsSpec : ChangeSpec := { name := "unitsFloors", fn := fun _ => fun
  | [d1, d2] => { results := [.lit (.bool true)], args := [d1, d2] }
  | _ => none }
def unitsFloorsRow : OpenClaim := { program := "ytknfdnlmkjhmcaadoor", sum := "473616268a7f6c7a92099404828ec7d3c63319428a40a31b94e3d5348ae5fe3d", func := "sawmill/sawmilllaw01.UnitsFloors", spec := "unitsFloors", inPlace := ["internal/abi.NoEscape", "internal/bytealg.MakeNoZero"], unfollowed := true, recurses := true, named := ["math/bits.divideError", "math/bits.overflowError", "internal/strconv.uint64pow10", "math/bits.deBruijn32tab", "math/bits.deBruijn64tab"], apart := false, laid := [("math/bits.deBruijn32tab", laid_math_bits_deBruijn32tab), ("math/bits.deBruijn64tab", laid_math_bits_deBruijn64tab), ("internal/strconv.uint64pow10", laid_internal_strconv_uint64pow10)] }
def UnitsFloorsSaid : Prop := unitsFloorsRow.holds Tryd.pinned (OpenSpec.ofChange unitsFloorsSpec)

/-- ITS FALSE NEIGHBOUR: 'it returns false'. Refute it at one input. -/
def unitsFloorsWrong : ChangeSpec := { name := "unitsFloors", fn := fun _ => fun
  | [d1, d2] => { results := [.lit (.bool false)], args := [d1, d2] }
  | _ => none }
def UnitsFloorsWrongFalsely : Prop := unitsFloorsRow.holds Tryd.pinned (OpenSpec.ofChange unitsFloorsWrong)

/-- 'sawmilllaw01.UnitsProducts': WHATEVER THE INPUT: true; the input reads as it did. -/
def unitsProductsSpec : ChangeSpec := { name := "unitsProducts", fn := fun _ => fun
  | [d1, d2, d3] => { results := [.lit (.bool true)], args := [d1, d2, d3] }
  | _ => none }
def unitsProductsRow : OpenClaim := { program := "ytknfdnlmkjhmcaadoor", sum := "473616268a7f6c7a92099404828ec7d3c63319428a40a31b94e3d5348ae5fe3d", func := "sawmill/sawmilllaw01.UnitsProducts", spec := "unitsProducts", inPlace := ["internal/abi.NoEscape", "internal/bytealg.MakeNoZero"], unfollowed := true, recurses := true, named := ["math/bits.divideError", "math/bits.overflowError", "internal/strconv.uint64pow10", "math/bits.deBruijn32tab", "math/bits.deBruijn64tab"], apart := false, laid := [("math/bits.deBruijn32tab", laid_math_bits_deBruijn32tab), ("math/bits.deBruijn64tab", laid_math_bits_deBruijn64tab), ("internal/strconv.uint64pow10", laid_internal_strconv_uint64pow10)] }
def UnitsProductsSaid : Prop := unitsProductsRow.holds Tryd.pinned (OpenSpec.ofChange unitsProductsSpec)

/-- ITS FALSE NEIGHBOUR: 'it returns false'. Refute it at one input. -/
def unitsProductsWrong : ChangeSpec := { name := "unitsProducts", fn := fun _ => fun
  | [d1, d2, d3] => { results := [.lit (.bool false)], args := [d1, d2, d3] }
  | _ => none }
def UnitsProductsWrongFalsely : Prop := unitsProductsRow.holds Tryd.pinned (OpenSpec.ofChange unitsProductsWrong)

/-- 'sawmilllaw01.UnitsSteps': WHATEVER THE INPUT: true; the input reads as it did. -/
def unitsStepsSpec : ChangeSpec := { name := "unitsSteps", fn := fun _ => fun
  | [d1, d2, d3] => { results := [.lit (.bool true)], args := [d1, d2, d3] }
  | _ => none }
def unitsStepsRow : OpenClaim := { program := "ytknfdnlmkjhmcaadoor", sum := "473616268a7f6c7a92099404828ec7d3c63319428a40a31b94e3d5348ae5fe3d", func := "sawmill/sawmilllaw01.UnitsSteps", spec := "unitsSteps", inPlace := ["internal/abi.NoEscape", "internal/bytealg.MakeNoZero"], unfollowed := true, recurses := true, named := ["math/bits.divideError", "math/bits.overflowError", "internal/strconv.uint64pow10", "math/bits.deBruijn32tab", "math/bits.deBruijn64tab"], apart := false, laid := [("math/bits.deBruijn32tab", laid_math_bits_deBruijn32tab), ("math/bits.deBruijn64tab", laid_math_bits_deBruijn64tab), ("internal/strconv.uint64pow10", laid_internal_strconv_uint64pow10)] }
def UnitsStepsSaid : Prop := unitsStepsRow.holds Tryd.pinned (OpenSpec.ofChange unitsStepsSpec)

/-- ITS FALSE NEIGHBOUR: 'it returns false'. Refute it at one input. -/
def unitsStepsWrong : ChangeSpec := { name := "unitsSteps", fn := fun _ => fun
  | [d1, d2, d3] => { results := [.lit (.bool false)], args := [d1, d2, d3] }
  | _ => none }
def UnitsStepsWrongFalsely : Prop := unitsStepsRow.holds Tryd.pinned (OpenSpec.ofChange unitsStepsWrong)

/-- 'sawmilllaw01.UnitsBack': WHATEVER THE INPUT: true; the input reads as it did. -/
def unitsBackSpec : ChangeSpec := { name := "unitsBack", fn := fun _ => fun
  | [d1, d2, d3] => { results := [.lit (.bool true)], args := [d1, d2, d3] }
  | _ => none }
def unitsBackRow : OpenClaim := { program := "ytknfdnlmkjhmcaadoor", sum := "473616268a7f6c7a92099404828ec7d3c63319428a40a31b94e3d5348ae5fe3d", func := "sawmill/sawmilllaw01.UnitsBack", spec := "unitsBack", inPlace := ["internal/abi.NoEscape", "internal/bytealg.MakeNoZero"], unfollowed := true, recurses := true, named := ["math/bits.divideError", "math/bits.overflowError", "internal/strconv.uint64pow10", "math/bits.deBruijn32tab", "math/bits.deBruijn64tab"], apart := false, laid := [("math/bits.deBruijn32tab", laid_math_bits_deBruijn32tab), ("math/bits.deBruijn64tab", laid_math_bits_deBruijn64tab), ("internal/strconv.uint64pow10", laid_internal_strconv_uint64pow10)] }
def UnitsBackSaid : Prop := unitsBackRow.holds Tryd.pinned (OpenSpec.ofChange unitsBackSpec)

/-- ITS FALSE NEIGHBOUR: 'it returns false'. Refute it at one input. -/
def unitsBackWrong : ChangeSpec := { name := "unitsBack", fn := fun _ => fun
  | [d1, d2, d3] => { results := [.lit (.bool false)], args := [d1, d2, d3] }
  | _ => none }
def UnitsBackWrongFalsely : Prop := unitsBackRow.holds Tryd.pinned (OpenSpec.ofChange unitsBackWrong)

/- THE SECOND FORM. 'bulk': how many values and letters a reading holds, each counted each time it is reached (what is shared counts as often as it is met; a slice's spare places count too). A statement '..UptoSaid' is the law's where the arguments, and the package variables that the reading takes, are together of bulk at most 1048576: NARROWER than '..Said'. Prove '..Said' where nothing that the law and all that it calls make is longer than what came in: it says more and counts as full. Else prove '..UptoSaid'. A law counts once. -/
mutual
def uptoBulk {H : Type} : DataW H → Nat
  | .lit (.string bytes) => bytes.length + 1
  | .lit _ => 1
  | .nil => 1
  | .ptr d => uptoBulk d + 1
  | .slice elems spare => uptoBulkAll elems + uptoBulkAll spare + 1
  | .agg parts => uptoBulkAll parts + 1
  | .iface _ d => uptoBulk d + 1
  | .map entries => uptoBulkEntries entries + 1
  | .held _ => 1
def uptoBulkAll {H : Type} : List (DataW H) → Nat
  | [] => 0
  | d :: r => uptoBulk d + uptoBulkAll r
def uptoBulkEntries {H : Type} : List (Lit × DataW H) → Nat
  | [] => 0
  | x :: r => uptoBulkEntry x + uptoBulkEntries r
def uptoBulkEntry {H : Type} : Lit × DataW H → Nat
  | (.string bytes, d) => bytes.length + uptoBulk d + 1
  | (_, d) => uptoBulk d + 1
 end
def uptoSmall : (H : Type) → List (DataW H) → Bool := fun _ ds => decide (uptoBulkAll ds ≤ 1048576)
def OpenSpec.upto (s : _root_.Go.ChangeSpec) : _root_.Go.OpenSpec := { _root_.Go.OpenSpec.ofChange s with cond := some uptoSmall }

/-- 'sawmilllaw01.UnitsDivides', WHERE WHAT IT READS IS OF BULK AT MOST 1048576: true; the input reads as it did. -/
def unitsDividesUptoRow : OpenClaim := { program := "ytknfdnlmkjhmcaadoor", sum := "473616268a7f6c7a92099404828ec7d3c63319428a40a31b94e3d5348ae5fe3d", func := "sawmill/sawmilllaw01.UnitsDivides", spec := "unitsDivides", inPlace := ["internal/abi.NoEscape", "internal/bytealg.MakeNoZero"], unfollowed := true, recurses := true, named := ["math/bits.divideError", "math/bits.overflowError", "internal/strconv.uint64pow10", "math/bits.deBruijn32tab", "math/bits.deBruijn64tab"], apart := false, laid := [("math/bits.deBruijn32tab", laid_math_bits_deBruijn32tab), ("math/bits.deBruijn64tab", laid_math_bits_deBruijn64tab), ("internal/strconv.uint64pow10", laid_internal_strconv_uint64pow10)], narrowed := true }
def UnitsDividesUptoSaid : Prop := unitsDividesUptoRow.holds Tryd.pinned (OpenSpec.upto unitsDividesSpec)

/-- 'sawmilllaw01.UnitsScales', WHERE WHAT IT READS IS OF BULK AT MOST 1048576: true; the input reads as it did. -/
def unitsScalesUptoRow : OpenClaim := { program := "ytknfdnlmkjhmcaadoor", sum := "473616268a7f6c7a92099404828ec7d3c63319428a40a31b94e3d5348ae5fe3d", func := "sawmill/sawmilllaw01.UnitsScales", spec := "unitsScales", inPlace := ["internal/abi.NoEscape", "internal/bytealg.MakeNoZero"], unfollowed := true, recurses := true, named := ["math/bits.divideError", "math/bits.overflowError", "internal/strconv.uint64pow10", "math/bits.deBruijn32tab", "math/bits.deBruijn64tab"], apart := false, laid := [("math/bits.deBruijn32tab", laid_math_bits_deBruijn32tab), ("math/bits.deBruijn64tab", laid_math_bits_deBruijn64tab), ("internal/strconv.uint64pow10", laid_internal_strconv_uint64pow10)], narrowed := true }
def UnitsScalesUptoSaid : Prop := unitsScalesUptoRow.holds Tryd.pinned (OpenSpec.upto unitsScalesSpec)

/-- 'sawmilllaw01.UnitsMoves', WHERE WHAT IT READS IS OF BULK AT MOST 1048576: true; the input reads as it did. -/
def unitsMovesUptoRow : OpenClaim := { program := "ytknfdnlmkjhmcaadoor", sum := "473616268a7f6c7a92099404828ec7d3c63319428a40a31b94e3d5348ae5fe3d", func := "sawmill/sawmilllaw01.UnitsMoves", spec := "unitsMoves", inPlace := ["internal/abi.NoEscape", "internal/bytealg.MakeNoZero"], unfollowed := true, recurses := true, named := ["math/bits.divideError", "math/bits.overflowError", "internal/strconv.uint64pow10", "math/bits.deBruijn32tab", "math/bits.deBruijn64tab"], apart := false, laid := [("math/bits.deBruijn32tab", laid_math_bits_deBruijn32tab), ("math/bits.deBruijn64tab", laid_math_bits_deBruijn64tab), ("internal/strconv.uint64pow10", laid_internal_strconv_uint64pow10)], narrowed := true }
def UnitsMovesUptoSaid : Prop := unitsMovesUptoRow.holds Tryd.pinned (OpenSpec.upto unitsMovesSpec)

/-- 'sawmilllaw01.UnitsRoots', WHERE WHAT IT READS IS OF BULK AT MOST 1048576: true; the input reads as it did. -/
def unitsRootsUptoRow : OpenClaim := { program := "ytknfdnlmkjhmcaadoor", sum := "473616268a7f6c7a92099404828ec7d3c63319428a40a31b94e3d5348ae5fe3d", func := "sawmill/sawmilllaw01.UnitsRoots", spec := "unitsRoots", inPlace := ["internal/abi.NoEscape", "internal/bytealg.MakeNoZero"], unfollowed := true, recurses := true, named := ["math/bits.divideError", "math/bits.overflowError", "internal/strconv.uint64pow10", "math/bits.deBruijn32tab", "math/bits.deBruijn64tab"], apart := false, laid := [("math/bits.deBruijn32tab", laid_math_bits_deBruijn32tab), ("math/bits.deBruijn64tab", laid_math_bits_deBruijn64tab), ("internal/strconv.uint64pow10", laid_internal_strconv_uint64pow10)], narrowed := true }
def UnitsRootsUptoSaid : Prop := unitsRootsUptoRow.holds Tryd.pinned (OpenSpec.upto unitsRootsSpec)

/-- 'sawmilllaw01.UnitsTexts', WHERE WHAT IT READS IS OF BULK AT MOST 1048576: true; the input reads as it did. -/
def unitsTextsUptoRow : OpenClaim := { program := "ytknfdnlmkjhmcaadoor", sum := "473616268a7f6c7a92099404828ec7d3c63319428a40a31b94e3d5348ae5fe3d", func := "sawmill/sawmilllaw01.UnitsTexts", spec := "unitsTexts", inPlace := ["internal/abi.NoEscape", "internal/bytealg.MakeNoZero"], unfollowed := true, recurses := true, named := ["math/bits.divideError", "math/bits.overflowError", "internal/strconv.uint64pow10", "math/bits.deBruijn32tab", "math/bits.deBruijn64tab"], apart := false, laid := [("math/bits.deBruijn32tab", laid_math_bits_deBruijn32tab), ("math/bits.deBruijn64tab", laid_math_bits_deBruijn64tab), ("internal/strconv.uint64pow10", laid_internal_strconv_uint64pow10)], narrowed := true }
def UnitsTextsUptoSaid : Prop := unitsTextsUptoRow.holds Tryd.pinned (OpenSpec.upto unitsTextsSpec)

/-- 'sawmilllaw01.UnitsFloors', WHERE WHAT IT READS IS OF BULK AT MOST 1048576: true; the input reads as it did. -/
def unitsFloorsUptoRow : OpenClaim := { program := "ytknfdnlmkjhmcaadoor", sum := "473616268a7f6c7a92099404828ec7d3c63319428a40a31b94e3d5348ae5fe3d", func := "sawmill/sawmilllaw01.UnitsFloors", spec := "unitsFloors", inPlace := ["internal/abi.NoEscape", "internal/bytealg.MakeNoZero"], unfollowed := true, recurses := true, named := ["math/bits.divideError", "math/bits.overflowError", "internal/strconv.uint64pow10", "math/bits.deBruijn32tab", "math/bits.deBruijn64tab"], apart := false, laid := [("math/bits.deBruijn32tab", laid_math_bits_deBruijn32tab), ("math/bits.deBruijn64tab", laid_math_bits_deBruijn64tab), ("internal/strconv.uint64pow10", laid_internal_strconv_uint64pow10)], narrowed := true }
def UnitsFloorsUptoSaid : Prop := unitsFloorsUptoRow.holds Tryd.pinned (OpenSpec.upto unitsFloorsSpec)

/-- 'sawmilllaw01.UnitsProducts', WHERE WHAT IT READS IS OF BULK AT MOST 1048576: true; the input reads as it did. -/
def unitsProductsUptoRow : OpenClaim := { program := "ytknfdnlmkjhmcaadoor", sum := "473616268a7f6c7a92099404828ec7d3c63319428a40a31b94e3d5348ae5fe3d", func := "sawmill/sawmilllaw01.UnitsProducts", spec := "unitsProducts", inPlace := ["internal/abi.NoEscape", "internal/bytealg.MakeNoZero"], unfollowed := true, recurses := true, named := ["math/bits.divideError", "math/bits.overflowError", "internal/strconv.uint64pow10", "math/bits.deBruijn32tab", "math/bits.deBruijn64tab"], apart := false, laid := [("math/bits.deBruijn32tab", laid_math_bits_deBruijn32tab), ("math/bits.deBruijn64tab", laid_math_bits_deBruijn64tab), ("internal/strconv.uint64pow10", laid_internal_strconv_uint64pow10)], narrowed := true }
def UnitsProductsUptoSaid : Prop := unitsProductsUptoRow.holds Tryd.pinned (OpenSpec.upto unitsProductsSpec)

/-- 'sawmilllaw01.UnitsSteps', WHERE WHAT IT READS IS OF BULK AT MOST 1048576: true; the input reads as it did. -/
def unitsStepsUptoRow : OpenClaim := { program := "ytknfdnlmkjhmcaadoor", sum := "473616268a7f6c7a92099404828ec7d3c63319428a40a31b94e3d5348ae5fe3d", func := "sawmill/sawmilllaw01.UnitsSteps", spec := "unitsSteps", inPlace := ["internal/abi.NoEscape", "internal/bytealg.MakeNoZero"], unfollowed := true, recurses := true, named := ["math/bits.divideError", "math/bits.overflowError", "internal/strconv.uint64pow10", "math/bits.deBruijn32tab", "math/bits.deBruijn64tab"], apart := false, laid := [("math/bits.deBruijn32tab", laid_math_bits_deBruijn32tab), ("math/bits.deBruijn64tab", laid_math_bits_deBruijn64tab), ("internal/strconv.uint64pow10", laid_internal_strconv_uint64pow10)], narrowed := true }
def UnitsStepsUptoSaid : Prop := unitsStepsUptoRow.holds Tryd.pinned (OpenSpec.upto unitsStepsSpec)

/-- 'sawmilllaw01.UnitsBack', WHERE WHAT IT READS IS OF BULK AT MOST 1048576: true; the input reads as it did. -/
def unitsBackUptoRow : OpenClaim := { program := "ytknfdnlmkjhmcaadoor", sum := "473616268a7f6c7a92099404828ec7d3c63319428a40a31b94e3d5348ae5fe3d", func := "sawmill/sawmilllaw01.UnitsBack", spec := "unitsBack", inPlace := ["internal/abi.NoEscape", "internal/bytealg.MakeNoZero"], unfollowed := true, recurses := true, named := ["math/bits.divideError", "math/bits.overflowError", "internal/strconv.uint64pow10", "math/bits.deBruijn32tab", "math/bits.deBruijn64tab"], apart := false, laid := [("math/bits.deBruijn32tab", laid_math_bits_deBruijn32tab), ("math/bits.deBruijn64tab", laid_math_bits_deBruijn64tab), ("internal/strconv.uint64pow10", laid_internal_strconv_uint64pow10)], narrowed := true }
def UnitsBackUptoSaid : Prop := unitsBackUptoRow.holds Tryd.pinned (OpenSpec.upto unitsBackSpec)

end Rows
end Go.Proofs.YtknfdnlmkjhmcaaDoor
