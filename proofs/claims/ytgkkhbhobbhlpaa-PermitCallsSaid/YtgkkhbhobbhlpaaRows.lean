/-
  No cell of these rows narrows 'for every input' (looked for: loops, veiled, ifaces, maps, wideKeys, modest, calm, conditions, laid).
  DERIVED. THE GIVEN ROWS OF THIS SEAT. 12 by the template 'for every input the law returns true; each argument reads behind the call as it read before'; 0 by the template 'total and deterministic' (their statements: YtgkkhbhobbhlpaaTotals.lean).
  GIVEN WITH THE SEED: the statements are not yours to turn. If you find one false, say at which input.
  Laid BY PROGRAM, IN A SANDBOX (cutbox-rows.mjs): the forced cells as the released guide's own fill.sh prints them over the translation a70742238b1dcbe0… (all of the seat's roots in one cut). By AI agents, Wed Nov 11 2026. No macro, syntax, notation, axiom, sorry.
-/
import Derived.Test.YtgkkhbhobbhlpaaChecked
import GoSem.Claim
import GoSem.ClaimJoined
import GoSem.ClaimMapViews
import Derived.JoinedTies
import Derived.KernelRfl
namespace Go.Proofs.Ytgkkhbhobbhlpaa
/- THE CELL 'sum', in the pinned program and in every row, IS THE sha256 OF THE DUMP (.gsa) THAT YtgkkhbhobbhlpaaProg.lean LOADS. Nothing in Lean hashes anything: it is a label: what it is worth is what the hold of that sum in a sandbox is worth. -/
noncomputable def Try.pinned : Pinned := { name := "ytgkkhbhobbhlpaa", sum := "a70742238b1dcbe0f00156d3d483b852170b4b8501ae5fc564e139e0833e6821", checked := Try.checked }
namespace Rows
def none {H : Type} : Left H := { results := [], args := [] }

/-- 'sawmilllaw53.PermitCalls': WHATEVER THE INPUT: true; the input reads as it did. -/
def permitCallsSpec : ChangeSpec := { name := "permitCalls", fn := fun _ => fun
  | [d] => { results := [.lit (.bool true)], args := [d] }
  | _ => none }
def permitCallsRow : OpenClaim := { program := "ytgkkhbhobbhlpaa", sum := "a70742238b1dcbe0f00156d3d483b852170b4b8501ae5fc564e139e0833e6821", func := "sawmill/sawmilllaw53.PermitCalls", spec := "permitCalls", unfollowed := true, recurses := true, apart := false }
def PermitCallsSaid : Prop := permitCallsRow.holds Try.pinned (OpenSpec.ofChange permitCallsSpec)

/-- ITS FALSE NEIGHBOUR: 'it returns false'. Refute it at one input. -/
def permitCallsWrong : ChangeSpec := { name := "permitCalls", fn := fun _ => fun
  | [d] => { results := [.lit (.bool false)], args := [d] }
  | _ => none }
def PermitCallsWrongFalsely : Prop := permitCallsRow.holds Try.pinned (OpenSpec.ofChange permitCallsWrong)

/-- 'sawmilllaw53.PermitQuotas': WHATEVER THE INPUT: true; the input reads as it did. -/
def permitQuotasSpec : ChangeSpec := { name := "permitQuotas", fn := fun _ => fun
  | [d] => { results := [.lit (.bool true)], args := [d] }
  | _ => none }
def permitQuotasRow : OpenClaim := { program := "ytgkkhbhobbhlpaa", sum := "a70742238b1dcbe0f00156d3d483b852170b4b8501ae5fc564e139e0833e6821", func := "sawmill/sawmilllaw53.PermitQuotas", spec := "permitQuotas", unfollowed := true, recurses := true, apart := false }
def PermitQuotasSaid : Prop := permitQuotasRow.holds Try.pinned (OpenSpec.ofChange permitQuotasSpec)

/-- ITS FALSE NEIGHBOUR: 'it returns false'. Refute it at one input. -/
def permitQuotasWrong : ChangeSpec := { name := "permitQuotas", fn := fun _ => fun
  | [d] => { results := [.lit (.bool false)], args := [d] }
  | _ => none }
def PermitQuotasWrongFalsely : Prop := permitQuotasRow.holds Try.pinned (OpenSpec.ofChange permitQuotasWrong)

/-- 'sawmilllaw53.PermitTwice': WHATEVER THE INPUT: true; the input reads as it did. -/
def permitTwiceSpec : ChangeSpec := { name := "permitTwice", fn := fun _ => fun
  | [d1, d2, d3] => { results := [.lit (.bool true)], args := [d1, d2, d3] }
  | _ => none }
def permitTwiceRow : OpenClaim := { program := "ytgkkhbhobbhlpaa", sum := "a70742238b1dcbe0f00156d3d483b852170b4b8501ae5fc564e139e0833e6821", func := "sawmill/sawmilllaw53.PermitTwice", spec := "permitTwice", unfollowed := true, recurses := true, apart := false }
def PermitTwiceSaid : Prop := permitTwiceRow.holds Try.pinned (OpenSpec.ofChange permitTwiceSpec)

/-- ITS FALSE NEIGHBOUR: 'it returns false'. Refute it at one input. -/
def permitTwiceWrong : ChangeSpec := { name := "permitTwice", fn := fun _ => fun
  | [d1, d2, d3] => { results := [.lit (.bool false)], args := [d1, d2, d3] }
  | _ => none }
def PermitTwiceWrongFalsely : Prop := permitTwiceRow.holds Try.pinned (OpenSpec.ofChange permitTwiceWrong)

/-- 'sawmilllaw53.PermitFells': WHATEVER THE INPUT: true; the input reads as it did. -/
def permitFellsSpec : ChangeSpec := { name := "permitFells", fn := fun _ => fun
  | [d1, d2, d3] => { results := [.lit (.bool true)], args := [d1, d2, d3] }
  | _ => none }
def permitFellsRow : OpenClaim := { program := "ytgkkhbhobbhlpaa", sum := "a70742238b1dcbe0f00156d3d483b852170b4b8501ae5fc564e139e0833e6821", func := "sawmill/sawmilllaw53.PermitFells", spec := "permitFells", unfollowed := true, recurses := true, apart := false }
def PermitFellsSaid : Prop := permitFellsRow.holds Try.pinned (OpenSpec.ofChange permitFellsSpec)

/-- ITS FALSE NEIGHBOUR: 'it returns false'. Refute it at one input. -/
def permitFellsWrong : ChangeSpec := { name := "permitFells", fn := fun _ => fun
  | [d1, d2, d3] => { results := [.lit (.bool false)], args := [d1, d2, d3] }
  | _ => none }
def PermitFellsWrongFalsely : Prop := permitFellsRow.holds Try.pinned (OpenSpec.ofChange permitFellsWrong)

/-- 'sawmilllaw53.PermitNil': WHATEVER THE INPUT: true; the input reads as it did. -/
def permitNilSpec : ChangeSpec := { name := "permitNil", fn := fun _ => fun
  | [d1, d2] => { results := [.lit (.bool true)], args := [d1, d2] }
  | _ => none }
def permitNilRow : OpenClaim := { program := "ytgkkhbhobbhlpaa", sum := "a70742238b1dcbe0f00156d3d483b852170b4b8501ae5fc564e139e0833e6821", func := "sawmill/sawmilllaw53.PermitNil", spec := "permitNil", unfollowed := true, recurses := true, apart := false }
def PermitNilSaid : Prop := permitNilRow.holds Try.pinned (OpenSpec.ofChange permitNilSpec)

/-- ITS FALSE NEIGHBOUR: 'it returns false'. Refute it at one input. -/
def permitNilWrong : ChangeSpec := { name := "permitNil", fn := fun _ => fun
  | [d1, d2] => { results := [.lit (.bool false)], args := [d1, d2] }
  | _ => none }
def PermitNilWrongFalsely : Prop := permitNilRow.holds Try.pinned (OpenSpec.ofChange permitNilWrong)

/-- 'sawmilllaw32.StackPlaces': WHATEVER THE INPUT: true; the input reads as it did. -/
def stackPlacesSpec : ChangeSpec := { name := "stackPlaces", fn := fun _ => fun
  | [d1, d2] => { results := [.lit (.bool true)], args := [d1, d2] }
  | _ => none }
def stackPlacesRow : OpenClaim := { program := "ytgkkhbhobbhlpaa", sum := "a70742238b1dcbe0f00156d3d483b852170b4b8501ae5fc564e139e0833e6821", func := "sawmill/sawmilllaw32.StackPlaces", spec := "stackPlaces", named := ["math/bits.divideError", "math/bits.overflowError"], apart := false }
def StackPlacesSaid : Prop := stackPlacesRow.holds Try.pinned (OpenSpec.ofChange stackPlacesSpec)

/-- ITS FALSE NEIGHBOUR: 'it returns false'. Refute it at one input. -/
def stackPlacesWrong : ChangeSpec := { name := "stackPlaces", fn := fun _ => fun
  | [d1, d2] => { results := [.lit (.bool false)], args := [d1, d2] }
  | _ => none }
def StackPlacesWrongFalsely : Prop := stackPlacesRow.holds Try.pinned (OpenSpec.ofChange stackPlacesWrong)

/-- 'sawmilllaw32.StackSizes': WHATEVER THE INPUT: true; the input reads as it did. -/
def stackSizesSpec : ChangeSpec := { name := "stackSizes", fn := fun _ => fun
  | [d1, d2, d3] => { results := [.lit (.bool true)], args := [d1, d2, d3] }
  | _ => none }
def stackSizesRow : OpenClaim := { program := "ytgkkhbhobbhlpaa", sum := "a70742238b1dcbe0f00156d3d483b852170b4b8501ae5fc564e139e0833e6821", func := "sawmill/sawmilllaw32.StackSizes", spec := "stackSizes", named := ["math/bits.divideError", "math/bits.overflowError"], apart := false }
def StackSizesSaid : Prop := stackSizesRow.holds Try.pinned (OpenSpec.ofChange stackSizesSpec)

/-- ITS FALSE NEIGHBOUR: 'it returns false'. Refute it at one input. -/
def stackSizesWrong : ChangeSpec := { name := "stackSizes", fn := fun _ => fun
  | [d1, d2, d3] => { results := [.lit (.bool false)], args := [d1, d2, d3] }
  | _ => none }
def StackSizesWrongFalsely : Prop := stackSizesRow.holds Try.pinned (OpenSpec.ofChange stackSizesWrong)

/-- 'sawmilllaw32.StackWeights': WHATEVER THE INPUT: true; the input reads as it did. -/
def stackWeightsSpec : ChangeSpec := { name := "stackWeights", fn := fun _ => fun
  | [d1, d2, d3] => { results := [.lit (.bool true)], args := [d1, d2, d3] }
  | _ => none }
def stackWeightsRow : OpenClaim := { program := "ytgkkhbhobbhlpaa", sum := "a70742238b1dcbe0f00156d3d483b852170b4b8501ae5fc564e139e0833e6821", func := "sawmill/sawmilllaw32.StackWeights", spec := "stackWeights", named := ["math/bits.divideError", "math/bits.overflowError"], apart := false }
def StackWeightsSaid : Prop := stackWeightsRow.holds Try.pinned (OpenSpec.ofChange stackWeightsSpec)

/-- ITS FALSE NEIGHBOUR: 'it returns false'. Refute it at one input. -/
def stackWeightsWrong : ChangeSpec := { name := "stackWeights", fn := fun _ => fun
  | [d1, d2, d3] => { results := [.lit (.bool false)], args := [d1, d2, d3] }
  | _ => none }
def StackWeightsWrongFalsely : Prop := stackWeightsRow.holds Try.pinned (OpenSpec.ofChange stackWeightsWrong)

/-- 'sawmilllaw32.StackSplits': WHATEVER THE INPUT: true; the input reads as it did. -/
def stackSplitsSpec : ChangeSpec := { name := "stackSplits", fn := fun _ => fun
  | [d1, d2] => { results := [.lit (.bool true)], args := [d1, d2] }
  | _ => none }
def stackSplitsRow : OpenClaim := { program := "ytgkkhbhobbhlpaa", sum := "a70742238b1dcbe0f00156d3d483b852170b4b8501ae5fc564e139e0833e6821", func := "sawmill/sawmilllaw32.StackSplits", spec := "stackSplits", named := ["math/bits.divideError", "math/bits.overflowError"], apart := false }
def StackSplitsSaid : Prop := stackSplitsRow.holds Try.pinned (OpenSpec.ofChange stackSplitsSpec)

/-- ITS FALSE NEIGHBOUR: 'it returns false'. Refute it at one input. -/
def stackSplitsWrong : ChangeSpec := { name := "stackSplits", fn := fun _ => fun
  | [d1, d2] => { results := [.lit (.bool false)], args := [d1, d2] }
  | _ => none }
def StackSplitsWrongFalsely : Prop := stackSplitsRow.holds Try.pinned (OpenSpec.ofChange stackSplitsWrong)

/-- 'sawmilllaw32.StackKeeps': WHATEVER THE INPUT: true; the input reads as it did. -/
def stackKeepsSpec : ChangeSpec := { name := "stackKeeps", fn := fun _ => fun
  | [d1, d2] => { results := [.lit (.bool true)], args := [d1, d2] }
  | _ => none }
def stackKeepsRow : OpenClaim := { program := "ytgkkhbhobbhlpaa", sum := "a70742238b1dcbe0f00156d3d483b852170b4b8501ae5fc564e139e0833e6821", func := "sawmill/sawmilllaw32.StackKeeps", spec := "stackKeeps", named := ["math/bits.divideError", "math/bits.overflowError"], apart := false }
def StackKeepsSaid : Prop := stackKeepsRow.holds Try.pinned (OpenSpec.ofChange stackKeepsSpec)

/-- ITS FALSE NEIGHBOUR: 'it returns false'. Refute it at one input. -/
def stackKeepsWrong : ChangeSpec := { name := "stackKeeps", fn := fun _ => fun
  | [d1, d2] => { results := [.lit (.bool false)], args := [d1, d2] }
  | _ => none }
def StackKeepsWrongFalsely : Prop := stackKeepsRow.holds Try.pinned (OpenSpec.ofChange stackKeepsWrong)

/-- 'sawmilllaw32.StackGrows': WHATEVER THE INPUT: true; the input reads as it did. -/
def stackGrowsSpec : ChangeSpec := { name := "stackGrows", fn := fun _ => fun
  | [d1, d2, d3] => { results := [.lit (.bool true)], args := [d1, d2, d3] }
  | _ => none }
def stackGrowsRow : OpenClaim := { program := "ytgkkhbhobbhlpaa", sum := "a70742238b1dcbe0f00156d3d483b852170b4b8501ae5fc564e139e0833e6821", func := "sawmill/sawmilllaw32.StackGrows", spec := "stackGrows", named := ["math/bits.divideError", "math/bits.overflowError"], apart := false }
def StackGrowsSaid : Prop := stackGrowsRow.holds Try.pinned (OpenSpec.ofChange stackGrowsSpec)

/-- ITS FALSE NEIGHBOUR: 'it returns false'. Refute it at one input. -/
def stackGrowsWrong : ChangeSpec := { name := "stackGrows", fn := fun _ => fun
  | [d1, d2, d3] => { results := [.lit (.bool false)], args := [d1, d2, d3] }
  | _ => none }
def StackGrowsWrongFalsely : Prop := stackGrowsRow.holds Try.pinned (OpenSpec.ofChange stackGrowsWrong)

/-- 'sawmilllaw32.StackWeighs': WHATEVER THE INPUT: true; the input reads as it did. -/
def stackWeighsSpec : ChangeSpec := { name := "stackWeighs", fn := fun _ => fun
  | [d1, d2, d3] => { results := [.lit (.bool true)], args := [d1, d2, d3] }
  | _ => none }
def stackWeighsRow : OpenClaim := { program := "ytgkkhbhobbhlpaa", sum := "a70742238b1dcbe0f00156d3d483b852170b4b8501ae5fc564e139e0833e6821", func := "sawmill/sawmilllaw32.StackWeighs", spec := "stackWeighs", named := ["math/bits.divideError", "math/bits.overflowError"], apart := false }
def StackWeighsSaid : Prop := stackWeighsRow.holds Try.pinned (OpenSpec.ofChange stackWeighsSpec)

/-- ITS FALSE NEIGHBOUR: 'it returns false'. Refute it at one input. -/
def stackWeighsWrong : ChangeSpec := { name := "stackWeighs", fn := fun _ => fun
  | [d1, d2, d3] => { results := [.lit (.bool false)], args := [d1, d2, d3] }
  | _ => none }
def StackWeighsWrongFalsely : Prop := stackWeighsRow.holds Try.pinned (OpenSpec.ofChange stackWeighsWrong)

/- THE SECOND FORM. 'bulk': how many values and letters a reading holds, each counted each time it is reached (what is shared counts as often as it is met; a slice's spare places count too). A statement '..UptoSaid' is the law's where the arguments, and the package variables that the reading takes, are together of bulk at most 1048576: NARROWER than '..Said'. Prove '..Said' where nothing that the law and all that it calls make is longer than what came in: it says more and counts as full. Else prove '..UptoSaid'. A law counts once. -/
mutual
def uptoBulk {H : Type} : DataW H → Nat
  | .lit (.string bytes) => bytes.length + 1
  | .lit _ => 1
  | .nil => 1
  | .ptr d => uptoBulk d + 1
  | .slice elems spare => uptoBulkAll elems + uptoBulkAll spare + 1
  | .agg parts => uptoBulkAll parts + 1
  | .iface _ d => uptoBulk d + 1
  | .map entries => uptoBulkEntries entries + 1
  | .held _ => 1
def uptoBulkAll {H : Type} : List (DataW H) → Nat
  | [] => 0
  | d :: r => uptoBulk d + uptoBulkAll r
def uptoBulkEntries {H : Type} : List (Lit × DataW H) → Nat
  | [] => 0
  | x :: r => uptoBulkEntry x + uptoBulkEntries r
def uptoBulkEntry {H : Type} : Lit × DataW H → Nat
  | (.string bytes, d) => bytes.length + uptoBulk d + 1
  | (_, d) => uptoBulk d + 1
 end
def uptoSmall : (H : Type) → List (DataW H) → Bool := fun _ ds => decide (uptoBulkAll ds ≤ 1048576)
def OpenSpec.upto (s : _root_.Go.ChangeSpec) : _root_.Go.OpenSpec := { _root_.Go.OpenSpec.ofChange s with cond := some uptoSmall }

/-- 'sawmilllaw53.PermitCalls', WHERE WHAT IT READS IS OF BULK AT MOST 1048576: true; the input reads as it did. -/
def permitCallsUptoRow : OpenClaim := { program := "ytgkkhbhobbhlpaa", sum := "a70742238b1dcbe0f00156d3d483b852170b4b8501ae5fc564e139e0833e6821", func := "sawmill/sawmilllaw53.PermitCalls", spec := "permitCalls", unfollowed := true, recurses := true, apart := false, narrowed := true }
def PermitCallsUptoSaid : Prop := permitCallsUptoRow.holds Try.pinned (OpenSpec.upto permitCallsSpec)

/-- 'sawmilllaw53.PermitQuotas', WHERE WHAT IT READS IS OF BULK AT MOST 1048576: true; the input reads as it did. -/
def permitQuotasUptoRow : OpenClaim := { program := "ytgkkhbhobbhlpaa", sum := "a70742238b1dcbe0f00156d3d483b852170b4b8501ae5fc564e139e0833e6821", func := "sawmill/sawmilllaw53.PermitQuotas", spec := "permitQuotas", unfollowed := true, recurses := true, apart := false, narrowed := true }
def PermitQuotasUptoSaid : Prop := permitQuotasUptoRow.holds Try.pinned (OpenSpec.upto permitQuotasSpec)

/-- 'sawmilllaw53.PermitTwice', WHERE WHAT IT READS IS OF BULK AT MOST 1048576: true; the input reads as it did. -/
def permitTwiceUptoRow : OpenClaim := { program := "ytgkkhbhobbhlpaa", sum := "a70742238b1dcbe0f00156d3d483b852170b4b8501ae5fc564e139e0833e6821", func := "sawmill/sawmilllaw53.PermitTwice", spec := "permitTwice", unfollowed := true, recurses := true, apart := false, narrowed := true }
def PermitTwiceUptoSaid : Prop := permitTwiceUptoRow.holds Try.pinned (OpenSpec.upto permitTwiceSpec)

/-- 'sawmilllaw53.PermitFells', WHERE WHAT IT READS IS OF BULK AT MOST 1048576: true; the input reads as it did. -/
def permitFellsUptoRow : OpenClaim := { program := "ytgkkhbhobbhlpaa", sum := "a70742238b1dcbe0f00156d3d483b852170b4b8501ae5fc564e139e0833e6821", func := "sawmill/sawmilllaw53.PermitFells", spec := "permitFells", unfollowed := true, recurses := true, apart := false, narrowed := true }
def PermitFellsUptoSaid : Prop := permitFellsUptoRow.holds Try.pinned (OpenSpec.upto permitFellsSpec)

/-- 'sawmilllaw53.PermitNil', WHERE WHAT IT READS IS OF BULK AT MOST 1048576: true; the input reads as it did. -/
def permitNilUptoRow : OpenClaim := { program := "ytgkkhbhobbhlpaa", sum := "a70742238b1dcbe0f00156d3d483b852170b4b8501ae5fc564e139e0833e6821", func := "sawmill/sawmilllaw53.PermitNil", spec := "permitNil", unfollowed := true, recurses := true, apart := false, narrowed := true }
def PermitNilUptoSaid : Prop := permitNilUptoRow.holds Try.pinned (OpenSpec.upto permitNilSpec)

/-- 'sawmilllaw32.StackPlaces', WHERE WHAT IT READS IS OF BULK AT MOST 1048576: true; the input reads as it did. -/
def stackPlacesUptoRow : OpenClaim := { program := "ytgkkhbhobbhlpaa", sum := "a70742238b1dcbe0f00156d3d483b852170b4b8501ae5fc564e139e0833e6821", func := "sawmill/sawmilllaw32.StackPlaces", spec := "stackPlaces", named := ["math/bits.divideError", "math/bits.overflowError"], apart := false, narrowed := true }
def StackPlacesUptoSaid : Prop := stackPlacesUptoRow.holds Try.pinned (OpenSpec.upto stackPlacesSpec)

/-- 'sawmilllaw32.StackSizes', WHERE WHAT IT READS IS OF BULK AT MOST 1048576: true; the input reads as it did. -/
def stackSizesUptoRow : OpenClaim := { program := "ytgkkhbhobbhlpaa", sum := "a70742238b1dcbe0f00156d3d483b852170b4b8501ae5fc564e139e0833e6821", func := "sawmill/sawmilllaw32.StackSizes", spec := "stackSizes", named := ["math/bits.divideError", "math/bits.overflowError"], apart := false, narrowed := true }
def StackSizesUptoSaid : Prop := stackSizesUptoRow.holds Try.pinned (OpenSpec.upto stackSizesSpec)

/-- 'sawmilllaw32.StackWeights', WHERE WHAT IT READS IS OF BULK AT MOST 1048576: true; the input reads as it did. -/
def stackWeightsUptoRow : OpenClaim := { program := "ytgkkhbhobbhlpaa", sum := "a70742238b1dcbe0f00156d3d483b852170b4b8501ae5fc564e139e0833e6821", func := "sawmill/sawmilllaw32.StackWeights", spec := "stackWeights", named := ["math/bits.divideError", "math/bits.overflowError"], apart := false, narrowed := true }
def StackWeightsUptoSaid : Prop := stackWeightsUptoRow.holds Try.pinned (OpenSpec.upto stackWeightsSpec)

/-- 'sawmilllaw32.StackSplits', WHERE WHAT IT READS IS OF BULK AT MOST 1048576: true; the input reads as it did. -/
def stackSplitsUptoRow : OpenClaim := { program := "ytgkkhbhobbhlpaa", sum := "a70742238b1dcbe0f00156d3d483b852170b4b8501ae5fc564e139e0833e6821", func := "sawmill/sawmilllaw32.StackSplits", spec := "stackSplits", named := ["math/bits.divideError", "math/bits.overflowError"], apart := false, narrowed := true }
def StackSplitsUptoSaid : Prop := stackSplitsUptoRow.holds Try.pinned (OpenSpec.upto stackSplitsSpec)

/-- 'sawmilllaw32.StackKeeps', WHERE WHAT IT READS IS OF BULK AT MOST 1048576: true; the input reads as it did. -/
def stackKeepsUptoRow : OpenClaim := { program := "ytgkkhbhobbhlpaa", sum := "a70742238b1dcbe0f00156d3d483b852170b4b8501ae5fc564e139e0833e6821", func := "sawmill/sawmilllaw32.StackKeeps", spec := "stackKeeps", named := ["math/bits.divideError", "math/bits.overflowError"], apart := false, narrowed := true }
def StackKeepsUptoSaid : Prop := stackKeepsUptoRow.holds Try.pinned (OpenSpec.upto stackKeepsSpec)

/-- 'sawmilllaw32.StackGrows', WHERE WHAT IT READS IS OF BULK AT MOST 1048576: true; the input reads as it did. -/
def stackGrowsUptoRow : OpenClaim := { program := "ytgkkhbhobbhlpaa", sum := "a70742238b1dcbe0f00156d3d483b852170b4b8501ae5fc564e139e0833e6821", func := "sawmill/sawmilllaw32.StackGrows", spec := "stackGrows", named := ["math/bits.divideError", "math/bits.overflowError"], apart := false, narrowed := true }
def StackGrowsUptoSaid : Prop := stackGrowsUptoRow.holds Try.pinned (OpenSpec.upto stackGrowsSpec)

/-- 'sawmilllaw32.StackWeighs', WHERE WHAT IT READS IS OF BULK AT MOST 1048576: true; the input reads as it did. -/
def stackWeighsUptoRow : OpenClaim := { program := "ytgkkhbhobbhlpaa", sum := "a70742238b1dcbe0f00156d3d483b852170b4b8501ae5fc564e139e0833e6821", func := "sawmill/sawmilllaw32.StackWeighs", spec := "stackWeighs", named := ["math/bits.divideError", "math/bits.overflowError"], apart := false, narrowed := true }
def StackWeighsUptoSaid : Prop := stackWeighsUptoRow.holds Try.pinned (OpenSpec.upto stackWeighsSpec)

end Rows
end Go.Proofs.Ytgkkhbhobbhlpaa
