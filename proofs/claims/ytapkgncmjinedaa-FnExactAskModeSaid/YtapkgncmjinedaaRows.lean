/-
  No cell of these rows narrows 'for every input' (looked for: loops, veiled, ifaces, maps, wideKeys, modest, calm, conditions, laid).
  DERIVED. THE GIVEN ROWS OF THIS SEAT. 12 by the template 'for every input the law returns true; each argument reads behind the call as it read before'; 0 by the template 'total and deterministic' (their statements: YtapkgncmjinedaaTotals.lean).
  GIVEN WITH THE SEED: the statements are not yours to turn. If you find one false, say at which input.
  Laid BY PROGRAM, IN A SANDBOX (cutbox-rows.mjs): the forced cells as the released guide's own fill.sh prints them over the translation 7cf9d0aa61bfa55c… (all of the seat's roots in one cut). By AI agents, Wed Nov 11 2026. No macro, syntax, notation, axiom, sorry.
-/
import Derived.Test.YtapkgncmjinedaaChecked
import GoSem.Claim
import GoSem.ClaimJoined
import GoSem.ClaimMapViews
import Derived.JoinedTies
import Derived.KernelRfl
namespace Go.Proofs.Ytapkgncmjinedaa
/- THE CELL 'sum', in the pinned program and in every row, IS THE sha256 OF THE DUMP (.gsa) THAT YtapkgncmjinedaaProg.lean LOADS. Nothing in Lean hashes anything: it is a label: what it is worth is what the hold of that sum in a sandbox is worth. -/
noncomputable def Try.pinned : Pinned := { name := "ytapkgncmjinedaa", sum := "7cf9d0aa61bfa55c530cb65d2f3fe1498a7d590e281f5c66323c0de478424d0c", checked := Try.checked }
namespace Rows
def none {H : Type} : Left H := { results := [], args := [] }

/-- 'laws.FnRunModes': WHATEVER THE INPUT: true; the input reads as it did. -/
def fnRunModesSpec : ChangeSpec := { name := "fnRunModes", fn := fun _ => fun
  | [d] => { results := [.lit (.bool true)], args := [d] }
  | _ => none }
def fnRunModesRow : OpenClaim := { program := "ytapkgncmjinedaa", sum := "7cf9d0aa61bfa55c530cb65d2f3fe1498a7d590e281f5c66323c0de478424d0c", func := "loop.example/sepkernel/laws.FnRunModes", spec := "fnRunModes", unfollowed := true, recurses := true, apart := false }
def FnRunModesSaid : Prop := fnRunModesRow.holds Try.pinned (OpenSpec.ofChange fnRunModesSpec)

/-- ITS FALSE NEIGHBOUR: 'it returns false'. Refute it at one input. -/
def fnRunModesWrong : ChangeSpec := { name := "fnRunModes", fn := fun _ => fun
  | [d] => { results := [.lit (.bool false)], args := [d] }
  | _ => none }
def FnRunModesWrongFalsely : Prop := fnRunModesRow.holds Try.pinned (OpenSpec.ofChange fnRunModesWrong)

/-- 'laws.FnAuditSince': WHATEVER THE INPUT: true; the input reads as it did. -/
def fnAuditSinceSpec : ChangeSpec := { name := "fnAuditSince", fn := fun _ => fun
  | [d] => { results := [.lit (.bool true)], args := [d] }
  | _ => none }
def fnAuditSinceRow : OpenClaim := { program := "ytapkgncmjinedaa", sum := "7cf9d0aa61bfa55c530cb65d2f3fe1498a7d590e281f5c66323c0de478424d0c", func := "loop.example/sepkernel/laws.FnAuditSince", spec := "fnAuditSince", unfollowed := true, recurses := true, apart := false }
def FnAuditSinceSaid : Prop := fnAuditSinceRow.holds Try.pinned (OpenSpec.ofChange fnAuditSinceSpec)

/-- ITS FALSE NEIGHBOUR: 'it returns false'. Refute it at one input. -/
def fnAuditSinceWrong : ChangeSpec := { name := "fnAuditSince", fn := fun _ => fun
  | [d] => { results := [.lit (.bool false)], args := [d] }
  | _ => none }
def FnAuditSinceWrongFalsely : Prop := fnAuditSinceRow.holds Try.pinned (OpenSpec.ofChange fnAuditSinceWrong)

/-- 'laws.FnAuditJoin': WHATEVER THE INPUT: true; the input reads as it did. -/
def fnAuditJoinSpec : ChangeSpec := { name := "fnAuditJoin", fn := fun _ => fun
  | [d] => { results := [.lit (.bool true)], args := [d] }
  | _ => none }
def fnAuditJoinRow : OpenClaim := { program := "ytapkgncmjinedaa", sum := "7cf9d0aa61bfa55c530cb65d2f3fe1498a7d590e281f5c66323c0de478424d0c", func := "loop.example/sepkernel/laws.FnAuditJoin", spec := "fnAuditJoin", unfollowed := true, recurses := true, apart := false }
def FnAuditJoinSaid : Prop := fnAuditJoinRow.holds Try.pinned (OpenSpec.ofChange fnAuditJoinSpec)

/-- ITS FALSE NEIGHBOUR: 'it returns false'. Refute it at one input. -/
def fnAuditJoinWrong : ChangeSpec := { name := "fnAuditJoin", fn := fun _ => fun
  | [d] => { results := [.lit (.bool false)], args := [d] }
  | _ => none }
def FnAuditJoinWrongFalsely : Prop := fnAuditJoinRow.holds Try.pinned (OpenSpec.ofChange fnAuditJoinWrong)

/-- 'laws.FnEndFrame': WHATEVER THE INPUT: true; the input reads as it did. -/
def fnEndFrameSpec : ChangeSpec := { name := "fnEndFrame", fn := fun _ => fun
  | [d] => { results := [.lit (.bool true)], args := [d] }
  | _ => none }
def fnEndFrameRow : OpenClaim := { program := "ytapkgncmjinedaa", sum := "7cf9d0aa61bfa55c530cb65d2f3fe1498a7d590e281f5c66323c0de478424d0c", func := "loop.example/sepkernel/laws.FnEndFrame", spec := "fnEndFrame", unfollowed := true, recurses := true, apart := false }
def FnEndFrameSaid : Prop := fnEndFrameRow.holds Try.pinned (OpenSpec.ofChange fnEndFrameSpec)

/-- ITS FALSE NEIGHBOUR: 'it returns false'. Refute it at one input. -/
def fnEndFrameWrong : ChangeSpec := { name := "fnEndFrame", fn := fun _ => fun
  | [d] => { results := [.lit (.bool false)], args := [d] }
  | _ => none }
def FnEndFrameWrongFalsely : Prop := fnEndFrameRow.holds Try.pinned (OpenSpec.ofChange fnEndFrameWrong)

/-- 'laws.FnAuditBegins': WHATEVER THE INPUT: true; the input reads as it did. -/
def fnAuditBeginsSpec : ChangeSpec := { name := "fnAuditBegins", fn := fun _ => fun
  | [d] => { results := [.lit (.bool true)], args := [d] }
  | _ => none }
def fnAuditBeginsRow : OpenClaim := { program := "ytapkgncmjinedaa", sum := "7cf9d0aa61bfa55c530cb65d2f3fe1498a7d590e281f5c66323c0de478424d0c", func := "loop.example/sepkernel/laws.FnAuditBegins", spec := "fnAuditBegins", unfollowed := true, recurses := true, apart := false }
def FnAuditBeginsSaid : Prop := fnAuditBeginsRow.holds Try.pinned (OpenSpec.ofChange fnAuditBeginsSpec)

/-- ITS FALSE NEIGHBOUR: 'it returns false'. Refute it at one input. -/
def fnAuditBeginsWrong : ChangeSpec := { name := "fnAuditBegins", fn := fun _ => fun
  | [d] => { results := [.lit (.bool false)], args := [d] }
  | _ => none }
def FnAuditBeginsWrongFalsely : Prop := fnAuditBeginsRow.holds Try.pinned (OpenSpec.ofChange fnAuditBeginsWrong)

/-- 'laws.FnAppendAudit': WHATEVER THE INPUT: true; the input reads as it did. -/
def fnAppendAuditSpec : ChangeSpec := { name := "fnAppendAudit", fn := fun _ => fun
  | [d] => { results := [.lit (.bool true)], args := [d] }
  | _ => none }
def fnAppendAuditRow : OpenClaim := { program := "ytapkgncmjinedaa", sum := "7cf9d0aa61bfa55c530cb65d2f3fe1498a7d590e281f5c66323c0de478424d0c", func := "loop.example/sepkernel/laws.FnAppendAudit", spec := "fnAppendAudit", unfollowed := true, recurses := true, apart := false }
def FnAppendAuditSaid : Prop := fnAppendAuditRow.holds Try.pinned (OpenSpec.ofChange fnAppendAuditSpec)

/-- ITS FALSE NEIGHBOUR: 'it returns false'. Refute it at one input. -/
def fnAppendAuditWrong : ChangeSpec := { name := "fnAppendAudit", fn := fun _ => fun
  | [d] => { results := [.lit (.bool false)], args := [d] }
  | _ => none }
def FnAppendAuditWrongFalsely : Prop := fnAppendAuditRow.holds Try.pinned (OpenSpec.ofChange fnAppendAuditWrong)

/-- 'laws.FnAuditFork': WHATEVER THE INPUT: true; the input reads as it did. -/
def fnAuditForkSpec : ChangeSpec := { name := "fnAuditFork", fn := fun _ => fun
  | [d] => { results := [.lit (.bool true)], args := [d] }
  | _ => none }
def fnAuditForkRow : OpenClaim := { program := "ytapkgncmjinedaa", sum := "7cf9d0aa61bfa55c530cb65d2f3fe1498a7d590e281f5c66323c0de478424d0c", func := "loop.example/sepkernel/laws.FnAuditFork", spec := "fnAuditFork", unfollowed := true, recurses := true, apart := false }
def FnAuditForkSaid : Prop := fnAuditForkRow.holds Try.pinned (OpenSpec.ofChange fnAuditForkSpec)

/-- ITS FALSE NEIGHBOUR: 'it returns false'. Refute it at one input. -/
def fnAuditForkWrong : ChangeSpec := { name := "fnAuditFork", fn := fun _ => fun
  | [d] => { results := [.lit (.bool false)], args := [d] }
  | _ => none }
def FnAuditForkWrongFalsely : Prop := fnAuditForkRow.holds Try.pinned (OpenSpec.ofChange fnAuditForkWrong)

/-- 'laws.FnModesSteady': WHATEVER THE INPUT: true; the input reads as it did. -/
def fnModesSteadySpec : ChangeSpec := { name := "fnModesSteady", fn := fun _ => fun
  | [d] => { results := [.lit (.bool true)], args := [d] }
  | _ => none }
def fnModesSteadyRow : OpenClaim := { program := "ytapkgncmjinedaa", sum := "7cf9d0aa61bfa55c530cb65d2f3fe1498a7d590e281f5c66323c0de478424d0c", func := "loop.example/sepkernel/laws.FnModesSteady", spec := "fnModesSteady", unfollowed := true, recurses := true, apart := false }
def FnModesSteadySaid : Prop := fnModesSteadyRow.holds Try.pinned (OpenSpec.ofChange fnModesSteadySpec)

/-- ITS FALSE NEIGHBOUR: 'it returns false'. Refute it at one input. -/
def fnModesSteadyWrong : ChangeSpec := { name := "fnModesSteady", fn := fun _ => fun
  | [d] => { results := [.lit (.bool false)], args := [d] }
  | _ => none }
def FnModesSteadyWrongFalsely : Prop := fnModesSteadyRow.holds Try.pinned (OpenSpec.ofChange fnModesSteadyWrong)

/-- 'laws.FnModeTick': WHATEVER THE INPUT: true; the input reads as it did. -/
def fnModeTickSpec : ChangeSpec := { name := "fnModeTick", fn := fun _ => fun
  | [d] => { results := [.lit (.bool true)], args := [d] }
  | _ => none }
def fnModeTickRow : OpenClaim := { program := "ytapkgncmjinedaa", sum := "7cf9d0aa61bfa55c530cb65d2f3fe1498a7d590e281f5c66323c0de478424d0c", func := "loop.example/sepkernel/laws.FnModeTick", spec := "fnModeTick", unfollowed := true, recurses := true, apart := false }
def FnModeTickSaid : Prop := fnModeTickRow.holds Try.pinned (OpenSpec.ofChange fnModeTickSpec)

/-- ITS FALSE NEIGHBOUR: 'it returns false'. Refute it at one input. -/
def fnModeTickWrong : ChangeSpec := { name := "fnModeTick", fn := fun _ => fun
  | [d] => { results := [.lit (.bool false)], args := [d] }
  | _ => none }
def FnModeTickWrongFalsely : Prop := fnModeTickRow.holds Try.pinned (OpenSpec.ofChange fnModeTickWrong)

/-- 'laws.FnExactEndFrame': WHATEVER THE INPUT: true; the input reads as it did. -/
def fnExactEndFrameSpec : ChangeSpec := { name := "fnExactEndFrame", fn := fun _ => fun
  | [d1, d2] => { results := [.lit (.bool true)], args := [d1, d2] }
  | _ => none }
def fnExactEndFrameRow : OpenClaim := { program := "ytapkgncmjinedaa", sum := "7cf9d0aa61bfa55c530cb65d2f3fe1498a7d590e281f5c66323c0de478424d0c", func := "loop.example/sepkernel/laws.FnExactEndFrame", spec := "fnExactEndFrame", unfollowed := true, recurses := true, apart := false }
def FnExactEndFrameSaid : Prop := fnExactEndFrameRow.holds Try.pinned (OpenSpec.ofChange fnExactEndFrameSpec)

/-- ITS FALSE NEIGHBOUR: 'it returns false'. Refute it at one input. -/
def fnExactEndFrameWrong : ChangeSpec := { name := "fnExactEndFrame", fn := fun _ => fun
  | [d1, d2] => { results := [.lit (.bool false)], args := [d1, d2] }
  | _ => none }
def FnExactEndFrameWrongFalsely : Prop := fnExactEndFrameRow.holds Try.pinned (OpenSpec.ofChange fnExactEndFrameWrong)

/-- 'laws.FnExactAskMode': WHATEVER THE INPUT: true; the input reads as it did. -/
def fnExactAskModeSpec : ChangeSpec := { name := "fnExactAskMode", fn := fun _ => fun
  | [d1, d2, d3] => { results := [.lit (.bool true)], args := [d1, d2, d3] }
  | _ => none }
def fnExactAskModeRow : OpenClaim := { program := "ytapkgncmjinedaa", sum := "7cf9d0aa61bfa55c530cb65d2f3fe1498a7d590e281f5c66323c0de478424d0c", func := "loop.example/sepkernel/laws.FnExactAskMode", spec := "fnExactAskMode", unfollowed := true, recurses := true, apart := false }
def FnExactAskModeSaid : Prop := fnExactAskModeRow.holds Try.pinned (OpenSpec.ofChange fnExactAskModeSpec)

/-- ITS FALSE NEIGHBOUR: 'it returns false'. Refute it at one input. -/
def fnExactAskModeWrong : ChangeSpec := { name := "fnExactAskMode", fn := fun _ => fun
  | [d1, d2, d3] => { results := [.lit (.bool false)], args := [d1, d2, d3] }
  | _ => none }
def FnExactAskModeWrongFalsely : Prop := fnExactAskModeRow.holds Try.pinned (OpenSpec.ofChange fnExactAskModeWrong)

/-- 'laws.FnAskMode': WHATEVER THE INPUT: true; the input reads as it did. -/
def fnAskModeSpec : ChangeSpec := { name := "fnAskMode", fn := fun _ => fun
  | [d] => { results := [.lit (.bool true)], args := [d] }
  | _ => none }
def fnAskModeRow : OpenClaim := { program := "ytapkgncmjinedaa", sum := "7cf9d0aa61bfa55c530cb65d2f3fe1498a7d590e281f5c66323c0de478424d0c", func := "loop.example/sepkernel/laws.FnAskMode", spec := "fnAskMode", unfollowed := true, recurses := true, apart := false }
def FnAskModeSaid : Prop := fnAskModeRow.holds Try.pinned (OpenSpec.ofChange fnAskModeSpec)

/-- ITS FALSE NEIGHBOUR: 'it returns false'. Refute it at one input. -/
def fnAskModeWrong : ChangeSpec := { name := "fnAskMode", fn := fun _ => fun
  | [d] => { results := [.lit (.bool false)], args := [d] }
  | _ => none }
def FnAskModeWrongFalsely : Prop := fnAskModeRow.holds Try.pinned (OpenSpec.ofChange fnAskModeWrong)

/- THE SECOND FORM. 'bulk': how many values and letters a reading holds, each counted each time it is reached (what is shared counts as often as it is met; a slice's spare places count too). A statement '..UptoSaid' is the law's where the arguments, and the package variables that the reading takes, are together of bulk at most 1048576: NARROWER than '..Said'. Prove '..Said' where nothing that the law and all that it calls make is longer than what came in: it says more and counts as full. Else prove '..UptoSaid'. A law counts once. -/
mutual
def uptoBulk {H : Type} : DataW H → Nat
  | .lit (.string bytes) => bytes.length + 1
  | .lit _ => 1
  | .nil => 1
  | .ptr d => uptoBulk d + 1
  | .slice elems spare => uptoBulkAll elems + uptoBulkAll spare + 1
  | .agg parts => uptoBulkAll parts + 1
  | .iface _ d => uptoBulk d + 1
  | .map entries => uptoBulkEntries entries + 1
  | .held _ => 1
def uptoBulkAll {H : Type} : List (DataW H) → Nat
  | [] => 0
  | d :: r => uptoBulk d + uptoBulkAll r
def uptoBulkEntries {H : Type} : List (Lit × DataW H) → Nat
  | [] => 0
  | x :: r => uptoBulkEntry x + uptoBulkEntries r
def uptoBulkEntry {H : Type} : Lit × DataW H → Nat
  | (.string bytes, d) => bytes.length + uptoBulk d + 1
  | (_, d) => uptoBulk d + 1
 end
def uptoSmall : (H : Type) → List (DataW H) → Bool := fun _ ds => decide (uptoBulkAll ds ≤ 1048576)
def OpenSpec.upto (s : _root_.Go.ChangeSpec) : _root_.Go.OpenSpec := { _root_.Go.OpenSpec.ofChange s with cond := some uptoSmall }

/-- 'laws.FnRunModes', WHERE WHAT IT READS IS OF BULK AT MOST 1048576: true; the input reads as it did. -/
def fnRunModesUptoRow : OpenClaim := { program := "ytapkgncmjinedaa", sum := "7cf9d0aa61bfa55c530cb65d2f3fe1498a7d590e281f5c66323c0de478424d0c", func := "loop.example/sepkernel/laws.FnRunModes", spec := "fnRunModes", unfollowed := true, recurses := true, apart := false, narrowed := true }
def FnRunModesUptoSaid : Prop := fnRunModesUptoRow.holds Try.pinned (OpenSpec.upto fnRunModesSpec)

/-- 'laws.FnAuditSince', WHERE WHAT IT READS IS OF BULK AT MOST 1048576: true; the input reads as it did. -/
def fnAuditSinceUptoRow : OpenClaim := { program := "ytapkgncmjinedaa", sum := "7cf9d0aa61bfa55c530cb65d2f3fe1498a7d590e281f5c66323c0de478424d0c", func := "loop.example/sepkernel/laws.FnAuditSince", spec := "fnAuditSince", unfollowed := true, recurses := true, apart := false, narrowed := true }
def FnAuditSinceUptoSaid : Prop := fnAuditSinceUptoRow.holds Try.pinned (OpenSpec.upto fnAuditSinceSpec)

/-- 'laws.FnAuditJoin', WHERE WHAT IT READS IS OF BULK AT MOST 1048576: true; the input reads as it did. -/
def fnAuditJoinUptoRow : OpenClaim := { program := "ytapkgncmjinedaa", sum := "7cf9d0aa61bfa55c530cb65d2f3fe1498a7d590e281f5c66323c0de478424d0c", func := "loop.example/sepkernel/laws.FnAuditJoin", spec := "fnAuditJoin", unfollowed := true, recurses := true, apart := false, narrowed := true }
def FnAuditJoinUptoSaid : Prop := fnAuditJoinUptoRow.holds Try.pinned (OpenSpec.upto fnAuditJoinSpec)

/-- 'laws.FnEndFrame', WHERE WHAT IT READS IS OF BULK AT MOST 1048576: true; the input reads as it did. -/
def fnEndFrameUptoRow : OpenClaim := { program := "ytapkgncmjinedaa", sum := "7cf9d0aa61bfa55c530cb65d2f3fe1498a7d590e281f5c66323c0de478424d0c", func := "loop.example/sepkernel/laws.FnEndFrame", spec := "fnEndFrame", unfollowed := true, recurses := true, apart := false, narrowed := true }
def FnEndFrameUptoSaid : Prop := fnEndFrameUptoRow.holds Try.pinned (OpenSpec.upto fnEndFrameSpec)

/-- 'laws.FnAuditBegins', WHERE WHAT IT READS IS OF BULK AT MOST 1048576: true; the input reads as it did. -/
def fnAuditBeginsUptoRow : OpenClaim := { program := "ytapkgncmjinedaa", sum := "7cf9d0aa61bfa55c530cb65d2f3fe1498a7d590e281f5c66323c0de478424d0c", func := "loop.example/sepkernel/laws.FnAuditBegins", spec := "fnAuditBegins", unfollowed := true, recurses := true, apart := false, narrowed := true }
def FnAuditBeginsUptoSaid : Prop := fnAuditBeginsUptoRow.holds Try.pinned (OpenSpec.upto fnAuditBeginsSpec)

/-- 'laws.FnAppendAudit', WHERE WHAT IT READS IS OF BULK AT MOST 1048576: true; the input reads as it did. -/
def fnAppendAuditUptoRow : OpenClaim := { program := "ytapkgncmjinedaa", sum := "7cf9d0aa61bfa55c530cb65d2f3fe1498a7d590e281f5c66323c0de478424d0c", func := "loop.example/sepkernel/laws.FnAppendAudit", spec := "fnAppendAudit", unfollowed := true, recurses := true, apart := false, narrowed := true }
def FnAppendAuditUptoSaid : Prop := fnAppendAuditUptoRow.holds Try.pinned (OpenSpec.upto fnAppendAuditSpec)

/-- 'laws.FnAuditFork', WHERE WHAT IT READS IS OF BULK AT MOST 1048576: true; the input reads as it did. -/
def fnAuditForkUptoRow : OpenClaim := { program := "ytapkgncmjinedaa", sum := "7cf9d0aa61bfa55c530cb65d2f3fe1498a7d590e281f5c66323c0de478424d0c", func := "loop.example/sepkernel/laws.FnAuditFork", spec := "fnAuditFork", unfollowed := true, recurses := true, apart := false, narrowed := true }
def FnAuditForkUptoSaid : Prop := fnAuditForkUptoRow.holds Try.pinned (OpenSpec.upto fnAuditForkSpec)

/-- 'laws.FnModesSteady', WHERE WHAT IT READS IS OF BULK AT MOST 1048576: true; the input reads as it did. -/
def fnModesSteadyUptoRow : OpenClaim := { program := "ytapkgncmjinedaa", sum := "7cf9d0aa61bfa55c530cb65d2f3fe1498a7d590e281f5c66323c0de478424d0c", func := "loop.example/sepkernel/laws.FnModesSteady", spec := "fnModesSteady", unfollowed := true, recurses := true, apart := false, narrowed := true }
def FnModesSteadyUptoSaid : Prop := fnModesSteadyUptoRow.holds Try.pinned (OpenSpec.upto fnModesSteadySpec)

/-- 'laws.FnModeTick', WHERE WHAT IT READS IS OF BULK AT MOST 1048576: true; the input reads as it did. -/
def fnModeTickUptoRow : OpenClaim := { program := "ytapkgncmjinedaa", sum := "7cf9d0aa61bfa55c530cb65d2f3fe1498a7d590e281f5c66323c0de478424d0c", func := "loop.example/sepkernel/laws.FnModeTick", spec := "fnModeTick", unfollowed := true, recurses := true, apart := false, narrowed := true }
def FnModeTickUptoSaid : Prop := fnModeTickUptoRow.holds Try.pinned (OpenSpec.upto fnModeTickSpec)

/-- 'laws.FnExactEndFrame', WHERE WHAT IT READS IS OF BULK AT MOST 1048576: true; the input reads as it did. -/
def fnExactEndFrameUptoRow : OpenClaim := { program := "ytapkgncmjinedaa", sum := "7cf9d0aa61bfa55c530cb65d2f3fe1498a7d590e281f5c66323c0de478424d0c", func := "loop.example/sepkernel/laws.FnExactEndFrame", spec := "fnExactEndFrame", unfollowed := true, recurses := true, apart := false, narrowed := true }
def FnExactEndFrameUptoSaid : Prop := fnExactEndFrameUptoRow.holds Try.pinned (OpenSpec.upto fnExactEndFrameSpec)

/-- 'laws.FnExactAskMode', WHERE WHAT IT READS IS OF BULK AT MOST 1048576: true; the input reads as it did. -/
def fnExactAskModeUptoRow : OpenClaim := { program := "ytapkgncmjinedaa", sum := "7cf9d0aa61bfa55c530cb65d2f3fe1498a7d590e281f5c66323c0de478424d0c", func := "loop.example/sepkernel/laws.FnExactAskMode", spec := "fnExactAskMode", unfollowed := true, recurses := true, apart := false, narrowed := true }
def FnExactAskModeUptoSaid : Prop := fnExactAskModeUptoRow.holds Try.pinned (OpenSpec.upto fnExactAskModeSpec)

/-- 'laws.FnAskMode', WHERE WHAT IT READS IS OF BULK AT MOST 1048576: true; the input reads as it did. -/
def fnAskModeUptoRow : OpenClaim := { program := "ytapkgncmjinedaa", sum := "7cf9d0aa61bfa55c530cb65d2f3fe1498a7d590e281f5c66323c0de478424d0c", func := "loop.example/sepkernel/laws.FnAskMode", spec := "fnAskMode", unfollowed := true, recurses := true, apart := false, narrowed := true }
def FnAskModeUptoSaid : Prop := fnAskModeUptoRow.holds Try.pinned (OpenSpec.upto fnAskModeSpec)

end Rows
end Go.Proofs.Ytapkgncmjinedaa
