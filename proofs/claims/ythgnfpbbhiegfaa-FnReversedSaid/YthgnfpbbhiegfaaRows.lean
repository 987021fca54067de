/-
  No cell of these rows narrows 'for every input' (looked for: loops, veiled, ifaces, maps, wideKeys, modest, calm, conditions, laid).
  DERIVED. THE GIVEN ROWS OF THIS SEAT. 7 by the template 'for every input the law returns true; each argument reads behind the call as it read before'; 0 by the template 'total and deterministic' (their statements: YthgnfpbbhiegfaaTotals.lean).
  GIVEN WITH THE SEED: the statements are not yours to turn. If you find one false, say at which input.
  Laid BY PROGRAM, IN A SANDBOX (cutbox-rows.mjs): the forced cells as the released guide's own fill.sh prints them over the translation d840083b02224887… (all of the seat's roots in one cut). By AI agents, Wed Nov 11 2026. No macro, syntax, notation, axiom, sorry.
-/
import Derived.Test.YthgnfpbbhiegfaaChecked
import GoSem.Claim
import GoSem.ClaimJoined
import GoSem.ClaimMapViews
import Derived.JoinedTies
import Derived.KernelRfl
namespace Go.Proofs.Ythgnfpbbhiegfaa
/- THE CELL 'sum', in the pinned program and in every row, IS THE sha256 OF THE DUMP (.gsa) THAT YthgnfpbbhiegfaaProg.lean LOADS. Nothing in Lean hashes anything: it is a label: what it is worth is what the hold of that sum in a sandbox is worth. -/
noncomputable def Try.pinned : Pinned := { name := "ythgnfpbbhiegfaa", sum := "d840083b02224887cd8bec3a058ead0c8ea76d2938a54305f5b0755f462d2f15", checked := Try.checked }
namespace Rows
def none {H : Type} : Left H := { results := [], args := [] }

/-- 'laws.FnReversed': WHATEVER THE INPUT: true; the input reads as it did. -/
def fnReversedSpec : ChangeSpec := { name := "fnReversed", fn := fun _ => fun
  | [d] => { results := [.lit (.bool true)], args := [d] }
  | _ => none }
def fnReversedRow : OpenClaim := { program := "ythgnfpbbhiegfaa", sum := "d840083b02224887cd8bec3a058ead0c8ea76d2938a54305f5b0755f462d2f15", func := "loop.example/g00040/laws.FnReversed", spec := "fnReversed", unfollowed := true, recurses := true, plainKeys := false, apart := false }
def FnReversedSaid : Prop := fnReversedRow.holds Try.pinned (OpenSpec.ofChange fnReversedSpec)

/-- ITS FALSE NEIGHBOUR: 'it returns false'. Refute it at one input. -/
def fnReversedWrong : ChangeSpec := { name := "fnReversed", fn := fun _ => fun
  | [d] => { results := [.lit (.bool false)], args := [d] }
  | _ => none }
def FnReversedWrongFalsely : Prop := fnReversedRow.holds Try.pinned (OpenSpec.ofChange fnReversedWrong)

/-- 'laws.FnReportBack': WHATEVER THE INPUT: true; the input reads as it did. -/
def fnReportBackSpec : ChangeSpec := { name := "fnReportBack", fn := fun _ => fun
  | [d1, d2] => { results := [.lit (.bool true)], args := [d1, d2] }
  | _ => none }
def fnReportBackRow : OpenClaim := { program := "ythgnfpbbhiegfaa", sum := "d840083b02224887cd8bec3a058ead0c8ea76d2938a54305f5b0755f462d2f15", func := "loop.example/g00040/laws.FnReportBack", spec := "fnReportBack", unfollowed := true, recurses := true, plainKeys := false, apart := false }
def FnReportBackSaid : Prop := fnReportBackRow.holds Try.pinned (OpenSpec.ofChange fnReportBackSpec)

/-- ITS FALSE NEIGHBOUR: 'it returns false'. Refute it at one input. -/
def fnReportBackWrong : ChangeSpec := { name := "fnReportBack", fn := fun _ => fun
  | [d1, d2] => { results := [.lit (.bool false)], args := [d1, d2] }
  | _ => none }
def FnReportBackWrongFalsely : Prop := fnReportBackRow.holds Try.pinned (OpenSpec.ofChange fnReportBackWrong)

/-- 'laws.FnApproved': WHATEVER THE INPUT: true; the input reads as it did. -/
def fnApprovedSpec : ChangeSpec := { name := "fnApproved", fn := fun _ => fun
  | [d] => { results := [.lit (.bool true)], args := [d] }
  | _ => none }
def fnApprovedRow : OpenClaim := { program := "ythgnfpbbhiegfaa", sum := "d840083b02224887cd8bec3a058ead0c8ea76d2938a54305f5b0755f462d2f15", func := "loop.example/g00040/laws.FnApproved", spec := "fnApproved", recurses := true, plainKeys := false, apart := false }
def FnApprovedSaid : Prop := fnApprovedRow.holds Try.pinned (OpenSpec.ofChange fnApprovedSpec)

/-- ITS FALSE NEIGHBOUR: 'it returns false'. Refute it at one input. -/
def fnApprovedWrong : ChangeSpec := { name := "fnApproved", fn := fun _ => fun
  | [d] => { results := [.lit (.bool false)], args := [d] }
  | _ => none }
def FnApprovedWrongFalsely : Prop := fnApprovedRow.holds Try.pinned (OpenSpec.ofChange fnApprovedWrong)

/-- 'laws.FnExactBest': WHATEVER THE INPUT: true; the input reads as it did. -/
def fnExactBestSpec : ChangeSpec := { name := "fnExactBest", fn := fun _ => fun
  | [d1, d2] => { results := [.lit (.bool true)], args := [d1, d2] }
  | _ => none }
def fnExactBestRow : OpenClaim := { program := "ythgnfpbbhiegfaa", sum := "d840083b02224887cd8bec3a058ead0c8ea76d2938a54305f5b0755f462d2f15", func := "loop.example/g00040/laws.FnExactBest", spec := "fnExactBest", unfollowed := true, recurses := true, plainKeys := false, apart := false }
def FnExactBestSaid : Prop := fnExactBestRow.holds Try.pinned (OpenSpec.ofChange fnExactBestSpec)

/-- ITS FALSE NEIGHBOUR: 'it returns false'. Refute it at one input. -/
def fnExactBestWrong : ChangeSpec := { name := "fnExactBest", fn := fun _ => fun
  | [d1, d2] => { results := [.lit (.bool false)], args := [d1, d2] }
  | _ => none }
def FnExactBestWrongFalsely : Prop := fnExactBestRow.holds Try.pinned (OpenSpec.ofChange fnExactBestWrong)

/-- 'laws.FnExactSpread': WHATEVER THE INPUT: true; the input reads as it did. -/
def fnExactSpreadSpec : ChangeSpec := { name := "fnExactSpread", fn := fun _ => fun
  | [d1, d2, d3, d4, d5, d6] => { results := [.lit (.bool true)], args := [d1, d2, d3, d4, d5, d6] }
  | _ => none }
def fnExactSpreadRow : OpenClaim := { program := "ythgnfpbbhiegfaa", sum := "d840083b02224887cd8bec3a058ead0c8ea76d2938a54305f5b0755f462d2f15", func := "loop.example/g00040/laws.FnExactSpread", spec := "fnExactSpread", unfollowed := true, recurses := true, plainKeys := false, apart := false }
def FnExactSpreadSaid : Prop := fnExactSpreadRow.holds Try.pinned (OpenSpec.ofChange fnExactSpreadSpec)

/-- ITS FALSE NEIGHBOUR: 'it returns false'. Refute it at one input. -/
def fnExactSpreadWrong : ChangeSpec := { name := "fnExactSpread", fn := fun _ => fun
  | [d1, d2, d3, d4, d5, d6] => { results := [.lit (.bool false)], args := [d1, d2, d3, d4, d5, d6] }
  | _ => none }
def FnExactSpreadWrongFalsely : Prop := fnExactSpreadRow.holds Try.pinned (OpenSpec.ofChange fnExactSpreadWrong)

/-- 'laws.FnExactApprove': WHATEVER THE INPUT: true; the input reads as it did. -/
def fnExactApproveSpec : ChangeSpec := { name := "fnExactApprove", fn := fun _ => fun
  | [d1, d2, d3, d4, d5] => { results := [.lit (.bool true)], args := [d1, d2, d3, d4, d5] }
  | _ => none }
def fnExactApproveRow : OpenClaim := { program := "ythgnfpbbhiegfaa", sum := "d840083b02224887cd8bec3a058ead0c8ea76d2938a54305f5b0755f462d2f15", func := "loop.example/g00040/laws.FnExactApprove", spec := "fnExactApprove", recurses := true, plainKeys := false, apart := false }
def FnExactApproveSaid : Prop := fnExactApproveRow.holds Try.pinned (OpenSpec.ofChange fnExactApproveSpec)

/-- ITS FALSE NEIGHBOUR: 'it returns false'. Refute it at one input. -/
def fnExactApproveWrong : ChangeSpec := { name := "fnExactApprove", fn := fun _ => fun
  | [d1, d2, d3, d4, d5] => { results := [.lit (.bool false)], args := [d1, d2, d3, d4, d5] }
  | _ => none }
def FnExactApproveWrongFalsely : Prop := fnExactApproveRow.holds Try.pinned (OpenSpec.ofChange fnExactApproveWrong)

/-- 'laws.FnYearClosed': WHATEVER THE INPUT: true; the input reads as it did. -/
def fnYearClosedSpec : ChangeSpec := { name := "fnYearClosed", fn := fun _ => fun
  | [d] => { results := [.lit (.bool true)], args := [d] }
  | _ => none }
def fnYearClosedRow : OpenClaim := { program := "ythgnfpbbhiegfaa", sum := "d840083b02224887cd8bec3a058ead0c8ea76d2938a54305f5b0755f462d2f15", func := "loop.example/g00040/laws.FnYearClosed", spec := "fnYearClosed", unfollowed := true, recurses := true, plainKeys := false, apart := false }
def FnYearClosedSaid : Prop := fnYearClosedRow.holds Try.pinned (OpenSpec.ofChange fnYearClosedSpec)

/-- ITS FALSE NEIGHBOUR: 'it returns false'. Refute it at one input. -/
def fnYearClosedWrong : ChangeSpec := { name := "fnYearClosed", fn := fun _ => fun
  | [d] => { results := [.lit (.bool false)], args := [d] }
  | _ => none }
def FnYearClosedWrongFalsely : Prop := fnYearClosedRow.holds Try.pinned (OpenSpec.ofChange fnYearClosedWrong)

/- THE SECOND FORM. 'bulk': how many values and letters a reading holds, each counted each time it is reached (what is shared counts as often as it is met; a slice's spare places count too). A statement '..UptoSaid' is the law's where the arguments, and the package variables that the reading takes, are together of bulk at most 1048576: NARROWER than '..Said'. Prove '..Said' where nothing that the law and all that it calls make is longer than what came in: it says more and counts as full. Else prove '..UptoSaid'. A law counts once. -/
mutual
def uptoBulk {H : Type} : DataW H → Nat
  | .lit (.string bytes) => bytes.length + 1
  | .lit _ => 1
  | .nil => 1
  | .ptr d => uptoBulk d + 1
  | .slice elems spare => uptoBulkAll elems + uptoBulkAll spare + 1
  | .agg parts => uptoBulkAll parts + 1
  | .iface _ d => uptoBulk d + 1
  | .map entries => uptoBulkEntries entries + 1
  | .held _ => 1
def uptoBulkAll {H : Type} : List (DataW H) → Nat
  | [] => 0
  | d :: r => uptoBulk d + uptoBulkAll r
def uptoBulkEntries {H : Type} : List (Lit × DataW H) → Nat
  | [] => 0
  | x :: r => uptoBulkEntry x + uptoBulkEntries r
def uptoBulkEntry {H : Type} : Lit × DataW H → Nat
  | (.string bytes, d) => bytes.length + uptoBulk d + 1
  | (_, d) => uptoBulk d + 1
 end
def uptoSmall : (H : Type) → List (DataW H) → Bool := fun _ ds => decide (uptoBulkAll ds ≤ 1048576)
def OpenSpec.upto (s : _root_.Go.ChangeSpec) : _root_.Go.OpenSpec := { _root_.Go.OpenSpec.ofChange s with cond := some uptoSmall }

/-- 'laws.FnReversed', WHERE WHAT IT READS IS OF BULK AT MOST 1048576: true; the input reads as it did. -/
def fnReversedUptoRow : OpenClaim := { program := "ythgnfpbbhiegfaa", sum := "d840083b02224887cd8bec3a058ead0c8ea76d2938a54305f5b0755f462d2f15", func := "loop.example/g00040/laws.FnReversed", spec := "fnReversed", unfollowed := true, recurses := true, plainKeys := false, apart := false, narrowed := true }
def FnReversedUptoSaid : Prop := fnReversedUptoRow.holds Try.pinned (OpenSpec.upto fnReversedSpec)

/-- 'laws.FnReportBack', WHERE WHAT IT READS IS OF BULK AT MOST 1048576: true; the input reads as it did. -/
def fnReportBackUptoRow : OpenClaim := { program := "ythgnfpbbhiegfaa", sum := "d840083b02224887cd8bec3a058ead0c8ea76d2938a54305f5b0755f462d2f15", func := "loop.example/g00040/laws.FnReportBack", spec := "fnReportBack", unfollowed := true, recurses := true, plainKeys := false, apart := false, narrowed := true }
def FnReportBackUptoSaid : Prop := fnReportBackUptoRow.holds Try.pinned (OpenSpec.upto fnReportBackSpec)

/-- 'laws.FnApproved', WHERE WHAT IT READS IS OF BULK AT MOST 1048576: true; the input reads as it did. -/
def fnApprovedUptoRow : OpenClaim := { program := "ythgnfpbbhiegfaa", sum := "d840083b02224887cd8bec3a058ead0c8ea76d2938a54305f5b0755f462d2f15", func := "loop.example/g00040/laws.FnApproved", spec := "fnApproved", recurses := true, plainKeys := false, apart := false, narrowed := true }
def FnApprovedUptoSaid : Prop := fnApprovedUptoRow.holds Try.pinned (OpenSpec.upto fnApprovedSpec)

/-- 'laws.FnExactBest', WHERE WHAT IT READS IS OF BULK AT MOST 1048576: true; the input reads as it did. -/
def fnExactBestUptoRow : OpenClaim := { program := "ythgnfpbbhiegfaa", sum := "d840083b02224887cd8bec3a058ead0c8ea76d2938a54305f5b0755f462d2f15", func := "loop.example/g00040/laws.FnExactBest", spec := "fnExactBest", unfollowed := true, recurses := true, plainKeys := false, apart := false, narrowed := true }
def FnExactBestUptoSaid : Prop := fnExactBestUptoRow.holds Try.pinned (OpenSpec.upto fnExactBestSpec)

/-- 'laws.FnExactSpread', WHERE WHAT IT READS IS OF BULK AT MOST 1048576: true; the input reads as it did. -/
def fnExactSpreadUptoRow : OpenClaim := { program := "ythgnfpbbhiegfaa", sum := "d840083b02224887cd8bec3a058ead0c8ea76d2938a54305f5b0755f462d2f15", func := "loop.example/g00040/laws.FnExactSpread", spec := "fnExactSpread", unfollowed := true, recurses := true, plainKeys := false, apart := false, narrowed := true }
def FnExactSpreadUptoSaid : Prop := fnExactSpreadUptoRow.holds Try.pinned (OpenSpec.upto fnExactSpreadSpec)

/-- 'laws.FnExactApprove', WHERE WHAT IT READS IS OF BULK AT MOST 1048576: true; the input reads as it did. -/
def fnExactApproveUptoRow : OpenClaim := { program := "ythgnfpbbhiegfaa", sum := "d840083b02224887cd8bec3a058ead0c8ea76d2938a54305f5b0755f462d2f15", func := "loop.example/g00040/laws.FnExactApprove", spec := "fnExactApprove", recurses := true, plainKeys := false, apart := false, narrowed := true }
def FnExactApproveUptoSaid : Prop := fnExactApproveUptoRow.holds Try.pinned (OpenSpec.upto fnExactApproveSpec)

/-- 'laws.FnYearClosed', WHERE WHAT IT READS IS OF BULK AT MOST 1048576: true; the input reads as it did. -/
def fnYearClosedUptoRow : OpenClaim := { program := "ythgnfpbbhiegfaa", sum := "d840083b02224887cd8bec3a058ead0c8ea76d2938a54305f5b0755f462d2f15", func := "loop.example/g00040/laws.FnYearClosed", spec := "fnYearClosed", unfollowed := true, recurses := true, plainKeys := false, apart := false, narrowed := true }
def FnYearClosedUptoSaid : Prop := fnYearClosedUptoRow.holds Try.pinned (OpenSpec.upto fnYearClosedSpec)

end Rows
end Go.Proofs.Ythgnfpbbhiegfaa
