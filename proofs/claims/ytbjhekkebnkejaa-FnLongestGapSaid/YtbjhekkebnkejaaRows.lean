/-
  No cell of these rows narrows 'for every input' (looked for: loops, veiled, ifaces, maps, wideKeys, modest, calm, conditions, laid).
  DERIVED. THE GIVEN ROWS OF THIS SEAT. 12 by the template 'for every input the law returns true; each argument reads behind the call as it read before'; 0 by the template 'total and deterministic' (their statements: YtbjhekkebnkejaaTotals.lean).
  GIVEN WITH THE SEED: the statements are not yours to turn. If you find one false, say at which input.
  Laid BY PROGRAM, IN A SANDBOX (cutbox-rows.mjs): the forced cells as the released guide's own fill.sh prints them over the translation ac3b7a01cd3ed19a… (all of the seat's roots in one cut). By AI agents, Wed Nov 11 2026. No macro, syntax, notation, axiom, sorry.
-/
import Derived.Test.YtbjhekkebnkejaaChecked
import GoSem.Claim
import GoSem.ClaimJoined
import GoSem.ClaimMapViews
import Derived.JoinedTies
import Derived.KernelRfl
namespace Go.Proofs.Ytbjhekkebnkejaa
/- THE CELL 'sum', in the pinned program and in every row, IS THE sha256 OF THE DUMP (.gsa) THAT YtbjhekkebnkejaaProg.lean LOADS. Nothing in Lean hashes anything: it is a label: what it is worth is what the hold of that sum in a sandbox is worth. -/
noncomputable def Try.pinned : Pinned := { name := "ytbjhekkebnkejaa", sum := "ac3b7a01cd3ed19a3557226a3aa40b96650ef68994479a07b62901dcb3505854", checked := Try.checked }
namespace Rows
def none {H : Type} : Left H := { results := [], args := [] }

/-- 'laws.FnFrameTicks': WHATEVER THE INPUT: true; the input reads as it did. -/
def fnFrameTicksSpec : ChangeSpec := { name := "fnFrameTicks", fn := fun _ => fun
  | [d] => { results := [.lit (.bool true)], args := [d] }
  | _ => none }
def fnFrameTicksRow : OpenClaim := { program := "ytbjhekkebnkejaa", sum := "ac3b7a01cd3ed19a3557226a3aa40b96650ef68994479a07b62901dcb3505854", func := "loop.example/sepkernel/laws.FnFrameTicks", spec := "fnFrameTicks", unfollowed := true, recurses := true, apart := false }
def FnFrameTicksSaid : Prop := fnFrameTicksRow.holds Try.pinned (OpenSpec.ofChange fnFrameTicksSpec)

/-- ITS FALSE NEIGHBOUR: 'it returns false'. Refute it at one input. -/
def fnFrameTicksWrong : ChangeSpec := { name := "fnFrameTicks", fn := fun _ => fun
  | [d] => { results := [.lit (.bool false)], args := [d] }
  | _ => none }
def FnFrameTicksWrongFalsely : Prop := fnFrameTicksRow.holds Try.pinned (OpenSpec.ofChange fnFrameTicksWrong)

/-- 'laws.FnSlotsTwice': WHATEVER THE INPUT: true; the input reads as it did. -/
def fnSlotsTwiceSpec : ChangeSpec := { name := "fnSlotsTwice", fn := fun _ => fun
  | [d] => { results := [.lit (.bool true)], args := [d] }
  | _ => none }
def fnSlotsTwiceRow : OpenClaim := { program := "ytbjhekkebnkejaa", sum := "ac3b7a01cd3ed19a3557226a3aa40b96650ef68994479a07b62901dcb3505854", func := "loop.example/sepkernel/laws.FnSlotsTwice", spec := "fnSlotsTwice", unfollowed := true, recurses := true, apart := false }
def FnSlotsTwiceSaid : Prop := fnSlotsTwiceRow.holds Try.pinned (OpenSpec.ofChange fnSlotsTwiceSpec)

/-- ITS FALSE NEIGHBOUR: 'it returns false'. Refute it at one input. -/
def fnSlotsTwiceWrong : ChangeSpec := { name := "fnSlotsTwice", fn := fun _ => fun
  | [d] => { results := [.lit (.bool false)], args := [d] }
  | _ => none }
def FnSlotsTwiceWrongFalsely : Prop := fnSlotsTwiceRow.holds Try.pinned (OpenSpec.ofChange fnSlotsTwiceWrong)

/-- 'laws.FnFrameOf': WHATEVER THE INPUT: true; the input reads as it did. -/
def fnFrameOfSpec : ChangeSpec := { name := "fnFrameOf", fn := fun _ => fun
  | [d] => { results := [.lit (.bool true)], args := [d] }
  | _ => none }
def fnFrameOfRow : OpenClaim := { program := "ytbjhekkebnkejaa", sum := "ac3b7a01cd3ed19a3557226a3aa40b96650ef68994479a07b62901dcb3505854", func := "loop.example/sepkernel/laws.FnFrameOf", spec := "fnFrameOf", unfollowed := true, recurses := true, apart := false }
def FnFrameOfSaid : Prop := fnFrameOfRow.holds Try.pinned (OpenSpec.ofChange fnFrameOfSpec)

/-- ITS FALSE NEIGHBOUR: 'it returns false'. Refute it at one input. -/
def fnFrameOfWrong : ChangeSpec := { name := "fnFrameOf", fn := fun _ => fun
  | [d] => { results := [.lit (.bool false)], args := [d] }
  | _ => none }
def FnFrameOfWrongFalsely : Prop := fnFrameOfRow.holds Try.pinned (OpenSpec.ofChange fnFrameOfWrong)

/-- 'laws.FnWhoRuns': WHATEVER THE INPUT: true; the input reads as it did. -/
def fnWhoRunsSpec : ChangeSpec := { name := "fnWhoRuns", fn := fun _ => fun
  | [d] => { results := [.lit (.bool true)], args := [d] }
  | _ => none }
def fnWhoRunsRow : OpenClaim := { program := "ytbjhekkebnkejaa", sum := "ac3b7a01cd3ed19a3557226a3aa40b96650ef68994479a07b62901dcb3505854", func := "loop.example/sepkernel/laws.FnWhoRuns", spec := "fnWhoRuns", unfollowed := true, recurses := true, apart := false }
def FnWhoRunsSaid : Prop := fnWhoRunsRow.holds Try.pinned (OpenSpec.ofChange fnWhoRunsSpec)

/-- ITS FALSE NEIGHBOUR: 'it returns false'. Refute it at one input. -/
def fnWhoRunsWrong : ChangeSpec := { name := "fnWhoRuns", fn := fun _ => fun
  | [d] => { results := [.lit (.bool false)], args := [d] }
  | _ => none }
def FnWhoRunsWrongFalsely : Prop := fnWhoRunsRow.holds Try.pinned (OpenSpec.ofChange fnWhoRunsWrong)

/-- 'laws.FnFrameNext': WHATEVER THE INPUT: true; the input reads as it did. -/
def fnFrameNextSpec : ChangeSpec := { name := "fnFrameNext", fn := fun _ => fun
  | [d] => { results := [.lit (.bool true)], args := [d] }
  | _ => none }
def fnFrameNextRow : OpenClaim := { program := "ytbjhekkebnkejaa", sum := "ac3b7a01cd3ed19a3557226a3aa40b96650ef68994479a07b62901dcb3505854", func := "loop.example/sepkernel/laws.FnFrameNext", spec := "fnFrameNext", unfollowed := true, recurses := true, apart := false }
def FnFrameNextSaid : Prop := fnFrameNextRow.holds Try.pinned (OpenSpec.ofChange fnFrameNextSpec)

/-- ITS FALSE NEIGHBOUR: 'it returns false'. Refute it at one input. -/
def fnFrameNextWrong : ChangeSpec := { name := "fnFrameNext", fn := fun _ => fun
  | [d] => { results := [.lit (.bool false)], args := [d] }
  | _ => none }
def FnFrameNextWrongFalsely : Prop := fnFrameNextRow.holds Try.pinned (OpenSpec.ofChange fnFrameNextWrong)

/-- 'laws.FnShareOf': WHATEVER THE INPUT: true; the input reads as it did. -/
def fnShareOfSpec : ChangeSpec := { name := "fnShareOf", fn := fun _ => fun
  | [d] => { results := [.lit (.bool true)], args := [d] }
  | _ => none }
def fnShareOfRow : OpenClaim := { program := "ytbjhekkebnkejaa", sum := "ac3b7a01cd3ed19a3557226a3aa40b96650ef68994479a07b62901dcb3505854", func := "loop.example/sepkernel/laws.FnShareOf", spec := "fnShareOf", unfollowed := true, recurses := true, apart := false }
def FnShareOfSaid : Prop := fnShareOfRow.holds Try.pinned (OpenSpec.ofChange fnShareOfSpec)

/-- ITS FALSE NEIGHBOUR: 'it returns false'. Refute it at one input. -/
def fnShareOfWrong : ChangeSpec := { name := "fnShareOf", fn := fun _ => fun
  | [d] => { results := [.lit (.bool false)], args := [d] }
  | _ => none }
def FnShareOfWrongFalsely : Prop := fnShareOfRow.holds Try.pinned (OpenSpec.ofChange fnShareOfWrong)

/-- 'laws.FnSlotOf': WHATEVER THE INPUT: true; the input reads as it did. -/
def fnSlotOfSpec : ChangeSpec := { name := "fnSlotOf", fn := fun _ => fun
  | [d] => { results := [.lit (.bool true)], args := [d] }
  | _ => none }
def fnSlotOfRow : OpenClaim := { program := "ytbjhekkebnkejaa", sum := "ac3b7a01cd3ed19a3557226a3aa40b96650ef68994479a07b62901dcb3505854", func := "loop.example/sepkernel/laws.FnSlotOf", spec := "fnSlotOf", unfollowed := true, recurses := true, apart := false }
def FnSlotOfSaid : Prop := fnSlotOfRow.holds Try.pinned (OpenSpec.ofChange fnSlotOfSpec)

/-- ITS FALSE NEIGHBOUR: 'it returns false'. Refute it at one input. -/
def fnSlotOfWrong : ChangeSpec := { name := "fnSlotOf", fn := fun _ => fun
  | [d] => { results := [.lit (.bool false)], args := [d] }
  | _ => none }
def FnSlotOfWrongFalsely : Prop := fnSlotOfRow.holds Try.pinned (OpenSpec.ofChange fnSlotOfWrong)

/-- 'laws.FnClockSum': WHATEVER THE INPUT: true; the input reads as it did. -/
def fnClockSumSpec : ChangeSpec := { name := "fnClockSum", fn := fun _ => fun
  | [d] => { results := [.lit (.bool true)], args := [d] }
  | _ => none }
def fnClockSumRow : OpenClaim := { program := "ytbjhekkebnkejaa", sum := "ac3b7a01cd3ed19a3557226a3aa40b96650ef68994479a07b62901dcb3505854", func := "loop.example/sepkernel/laws.FnClockSum", spec := "fnClockSum", unfollowed := true, recurses := true, apart := false }
def FnClockSumSaid : Prop := fnClockSumRow.holds Try.pinned (OpenSpec.ofChange fnClockSumSpec)

/-- ITS FALSE NEIGHBOUR: 'it returns false'. Refute it at one input. -/
def fnClockSumWrong : ChangeSpec := { name := "fnClockSum", fn := fun _ => fun
  | [d] => { results := [.lit (.bool false)], args := [d] }
  | _ => none }
def FnClockSumWrongFalsely : Prop := fnClockSumRow.holds Try.pinned (OpenSpec.ofChange fnClockSumWrong)

/-- 'laws.FnOwnTicks': WHATEVER THE INPUT: true; the input reads as it did. -/
def fnOwnTicksSpec : ChangeSpec := { name := "fnOwnTicks", fn := fun _ => fun
  | [d] => { results := [.lit (.bool true)], args := [d] }
  | _ => none }
def fnOwnTicksRow : OpenClaim := { program := "ytbjhekkebnkejaa", sum := "ac3b7a01cd3ed19a3557226a3aa40b96650ef68994479a07b62901dcb3505854", func := "loop.example/sepkernel/laws.FnOwnTicks", spec := "fnOwnTicks", unfollowed := true, recurses := true, apart := false }
def FnOwnTicksSaid : Prop := fnOwnTicksRow.holds Try.pinned (OpenSpec.ofChange fnOwnTicksSpec)

/-- ITS FALSE NEIGHBOUR: 'it returns false'. Refute it at one input. -/
def fnOwnTicksWrong : ChangeSpec := { name := "fnOwnTicks", fn := fun _ => fun
  | [d] => { results := [.lit (.bool false)], args := [d] }
  | _ => none }
def FnOwnTicksWrongFalsely : Prop := fnOwnTicksRow.holds Try.pinned (OpenSpec.ofChange fnOwnTicksWrong)

/-- 'laws.FnClockFrame': WHATEVER THE INPUT: true; the input reads as it did. -/
def fnClockFrameSpec : ChangeSpec := { name := "fnClockFrame", fn := fun _ => fun
  | [d] => { results := [.lit (.bool true)], args := [d] }
  | _ => none }
def fnClockFrameRow : OpenClaim := { program := "ytbjhekkebnkejaa", sum := "ac3b7a01cd3ed19a3557226a3aa40b96650ef68994479a07b62901dcb3505854", func := "loop.example/sepkernel/laws.FnClockFrame", spec := "fnClockFrame", unfollowed := true, recurses := true, apart := false }
def FnClockFrameSaid : Prop := fnClockFrameRow.holds Try.pinned (OpenSpec.ofChange fnClockFrameSpec)

/-- ITS FALSE NEIGHBOUR: 'it returns false'. Refute it at one input. -/
def fnClockFrameWrong : ChangeSpec := { name := "fnClockFrame", fn := fun _ => fun
  | [d] => { results := [.lit (.bool false)], args := [d] }
  | _ => none }
def FnClockFrameWrongFalsely : Prop := fnClockFrameRow.holds Try.pinned (OpenSpec.ofChange fnClockFrameWrong)

/-- 'laws.FnNextOwn': WHATEVER THE INPUT: true; the input reads as it did. -/
def fnNextOwnSpec : ChangeSpec := { name := "fnNextOwn", fn := fun _ => fun
  | [d] => { results := [.lit (.bool true)], args := [d] }
  | _ => none }
def fnNextOwnRow : OpenClaim := { program := "ytbjhekkebnkejaa", sum := "ac3b7a01cd3ed19a3557226a3aa40b96650ef68994479a07b62901dcb3505854", func := "loop.example/sepkernel/laws.FnNextOwn", spec := "fnNextOwn", unfollowed := true, recurses := true, apart := false }
def FnNextOwnSaid : Prop := fnNextOwnRow.holds Try.pinned (OpenSpec.ofChange fnNextOwnSpec)

/-- ITS FALSE NEIGHBOUR: 'it returns false'. Refute it at one input. -/
def fnNextOwnWrong : ChangeSpec := { name := "fnNextOwn", fn := fun _ => fun
  | [d] => { results := [.lit (.bool false)], args := [d] }
  | _ => none }
def FnNextOwnWrongFalsely : Prop := fnNextOwnRow.holds Try.pinned (OpenSpec.ofChange fnNextOwnWrong)

/-- 'laws.FnLongestGap': WHATEVER THE INPUT: true; the input reads as it did. -/
def fnLongestGapSpec : ChangeSpec := { name := "fnLongestGap", fn := fun _ => fun
  | [d] => { results := [.lit (.bool true)], args := [d] }
  | _ => none }
def fnLongestGapRow : OpenClaim := { program := "ytbjhekkebnkejaa", sum := "ac3b7a01cd3ed19a3557226a3aa40b96650ef68994479a07b62901dcb3505854", func := "loop.example/sepkernel/laws.FnLongestGap", spec := "fnLongestGap", unfollowed := true, recurses := true, apart := false }
def FnLongestGapSaid : Prop := fnLongestGapRow.holds Try.pinned (OpenSpec.ofChange fnLongestGapSpec)

/-- ITS FALSE NEIGHBOUR: 'it returns false'. Refute it at one input. -/
def fnLongestGapWrong : ChangeSpec := { name := "fnLongestGap", fn := fun _ => fun
  | [d] => { results := [.lit (.bool false)], args := [d] }
  | _ => none }
def FnLongestGapWrongFalsely : Prop := fnLongestGapRow.holds Try.pinned (OpenSpec.ofChange fnLongestGapWrong)

/- THE SECOND FORM. 'bulk': how many values and letters a reading holds, each counted each time it is reached (what is shared counts as often as it is met; a slice's spare places count too). A statement '..UptoSaid' is the law's where the arguments, and the package variables that the reading takes, are together of bulk at most 1048576: NARROWER than '..Said'. Prove '..Said' where nothing that the law and all that it calls make is longer than what came in: it says more and counts as full. Else prove '..UptoSaid'. A law counts once. -/
mutual
def uptoBulk {H : Type} : DataW H → Nat
  | .lit (.string bytes) => bytes.length + 1
  | .lit _ => 1
  | .nil => 1
  | .ptr d => uptoBulk d + 1
  | .slice elems spare => uptoBulkAll elems + uptoBulkAll spare + 1
  | .agg parts => uptoBulkAll parts + 1
  | .iface _ d => uptoBulk d + 1
  | .map entries => uptoBulkEntries entries + 1
  | .held _ => 1
def uptoBulkAll {H : Type} : List (DataW H) → Nat
  | [] => 0
  | d :: r => uptoBulk d + uptoBulkAll r
def uptoBulkEntries {H : Type} : List (Lit × DataW H) → Nat
  | [] => 0
  | x :: r => uptoBulkEntry x + uptoBulkEntries r
def uptoBulkEntry {H : Type} : Lit × DataW H → Nat
  | (.string bytes, d) => bytes.length + uptoBulk d + 1
  | (_, d) => uptoBulk d + 1
 end
def uptoSmall : (H : Type) → List (DataW H) → Bool := fun _ ds => decide (uptoBulkAll ds ≤ 1048576)
def OpenSpec.upto (s : _root_.Go.ChangeSpec) : _root_.Go.OpenSpec := { _root_.Go.OpenSpec.ofChange s with cond := some uptoSmall }

/-- 'laws.FnFrameTicks', WHERE WHAT IT READS IS OF BULK AT MOST 1048576: true; the input reads as it did. -/
def fnFrameTicksUptoRow : OpenClaim := { program := "ytbjhekkebnkejaa", sum := "ac3b7a01cd3ed19a3557226a3aa40b96650ef68994479a07b62901dcb3505854", func := "loop.example/sepkernel/laws.FnFrameTicks", spec := "fnFrameTicks", unfollowed := true, recurses := true, apart := false, narrowed := true }
def FnFrameTicksUptoSaid : Prop := fnFrameTicksUptoRow.holds Try.pinned (OpenSpec.upto fnFrameTicksSpec)

/-- 'laws.FnSlotsTwice', WHERE WHAT IT READS IS OF BULK AT MOST 1048576: true; the input reads as it did. -/
def fnSlotsTwiceUptoRow : OpenClaim := { program := "ytbjhekkebnkejaa", sum := "ac3b7a01cd3ed19a3557226a3aa40b96650ef68994479a07b62901dcb3505854", func := "loop.example/sepkernel/laws.FnSlotsTwice", spec := "fnSlotsTwice", unfollowed := true, recurses := true, apart := false, narrowed := true }
def FnSlotsTwiceUptoSaid : Prop := fnSlotsTwiceUptoRow.holds Try.pinned (OpenSpec.upto fnSlotsTwiceSpec)

/-- 'laws.FnFrameOf', WHERE WHAT IT READS IS OF BULK AT MOST 1048576: true; the input reads as it did. -/
def fnFrameOfUptoRow : OpenClaim := { program := "ytbjhekkebnkejaa", sum := "ac3b7a01cd3ed19a3557226a3aa40b96650ef68994479a07b62901dcb3505854", func := "loop.example/sepkernel/laws.FnFrameOf", spec := "fnFrameOf", unfollowed := true, recurses := true, apart := false, narrowed := true }
def FnFrameOfUptoSaid : Prop := fnFrameOfUptoRow.holds Try.pinned (OpenSpec.upto fnFrameOfSpec)

/-- 'laws.FnWhoRuns', WHERE WHAT IT READS IS OF BULK AT MOST 1048576: true; the input reads as it did. -/
def fnWhoRunsUptoRow : OpenClaim := { program := "ytbjhekkebnkejaa", sum := "ac3b7a01cd3ed19a3557226a3aa40b96650ef68994479a07b62901dcb3505854", func := "loop.example/sepkernel/laws.FnWhoRuns", spec := "fnWhoRuns", unfollowed := true, recurses := true, apart := false, narrowed := true }
def FnWhoRunsUptoSaid : Prop := fnWhoRunsUptoRow.holds Try.pinned (OpenSpec.upto fnWhoRunsSpec)

/-- 'laws.FnFrameNext', WHERE WHAT IT READS IS OF BULK AT MOST 1048576: true; the input reads as it did. -/
def fnFrameNextUptoRow : OpenClaim := { program := "ytbjhekkebnkejaa", sum := "ac3b7a01cd3ed19a3557226a3aa40b96650ef68994479a07b62901dcb3505854", func := "loop.example/sepkernel/laws.FnFrameNext", spec := "fnFrameNext", unfollowed := true, recurses := true, apart := false, narrowed := true }
def FnFrameNextUptoSaid : Prop := fnFrameNextUptoRow.holds Try.pinned (OpenSpec.upto fnFrameNextSpec)

/-- 'laws.FnShareOf', WHERE WHAT IT READS IS OF BULK AT MOST 1048576: true; the input reads as it did. -/
def fnShareOfUptoRow : OpenClaim := { program := "ytbjhekkebnkejaa", sum := "ac3b7a01cd3ed19a3557226a3aa40b96650ef68994479a07b62901dcb3505854", func := "loop.example/sepkernel/laws.FnShareOf", spec := "fnShareOf", unfollowed := true, recurses := true, apart := false, narrowed := true }
def FnShareOfUptoSaid : Prop := fnShareOfUptoRow.holds Try.pinned (OpenSpec.upto fnShareOfSpec)

/-- 'laws.FnSlotOf', WHERE WHAT IT READS IS OF BULK AT MOST 1048576: true; the input reads as it did. -/
def fnSlotOfUptoRow : OpenClaim := { program := "ytbjhekkebnkejaa", sum := "ac3b7a01cd3ed19a3557226a3aa40b96650ef68994479a07b62901dcb3505854", func := "loop.example/sepkernel/laws.FnSlotOf", spec := "fnSlotOf", unfollowed := true, recurses := true, apart := false, narrowed := true }
def FnSlotOfUptoSaid : Prop := fnSlotOfUptoRow.holds Try.pinned (OpenSpec.upto fnSlotOfSpec)

/-- 'laws.FnClockSum', WHERE WHAT IT READS IS OF BULK AT MOST 1048576: true; the input reads as it did. -/
def fnClockSumUptoRow : OpenClaim := { program := "ytbjhekkebnkejaa", sum := "ac3b7a01cd3ed19a3557226a3aa40b96650ef68994479a07b62901dcb3505854", func := "loop.example/sepkernel/laws.FnClockSum", spec := "fnClockSum", unfollowed := true, recurses := true, apart := false, narrowed := true }
def FnClockSumUptoSaid : Prop := fnClockSumUptoRow.holds Try.pinned (OpenSpec.upto fnClockSumSpec)

/-- 'laws.FnOwnTicks', WHERE WHAT IT READS IS OF BULK AT MOST 1048576: true; the input reads as it did. -/
def fnOwnTicksUptoRow : OpenClaim := { program := "ytbjhekkebnkejaa", sum := "ac3b7a01cd3ed19a3557226a3aa40b96650ef68994479a07b62901dcb3505854", func := "loop.example/sepkernel/laws.FnOwnTicks", spec := "fnOwnTicks", unfollowed := true, recurses := true, apart := false, narrowed := true }
def FnOwnTicksUptoSaid : Prop := fnOwnTicksUptoRow.holds Try.pinned (OpenSpec.upto fnOwnTicksSpec)

/-- 'laws.FnClockFrame', WHERE WHAT IT READS IS OF BULK AT MOST 1048576: true; the input reads as it did. -/
def fnClockFrameUptoRow : OpenClaim := { program := "ytbjhekkebnkejaa", sum := "ac3b7a01cd3ed19a3557226a3aa40b96650ef68994479a07b62901dcb3505854", func := "loop.example/sepkernel/laws.FnClockFrame", spec := "fnClockFrame", unfollowed := true, recurses := true, apart := false, narrowed := true }
def FnClockFrameUptoSaid : Prop := fnClockFrameUptoRow.holds Try.pinned (OpenSpec.upto fnClockFrameSpec)

/-- 'laws.FnNextOwn', WHERE WHAT IT READS IS OF BULK AT MOST 1048576: true; the input reads as it did. -/
def fnNextOwnUptoRow : OpenClaim := { program := "ytbjhekkebnkejaa", sum := "ac3b7a01cd3ed19a3557226a3aa40b96650ef68994479a07b62901dcb3505854", func := "loop.example/sepkernel/laws.FnNextOwn", spec := "fnNextOwn", unfollowed := true, recurses := true, apart := false, narrowed := true }
def FnNextOwnUptoSaid : Prop := fnNextOwnUptoRow.holds Try.pinned (OpenSpec.upto fnNextOwnSpec)

/-- 'laws.FnLongestGap', WHERE WHAT IT READS IS OF BULK AT MOST 1048576: true; the input reads as it did. -/
def fnLongestGapUptoRow : OpenClaim := { program := "ytbjhekkebnkejaa", sum := "ac3b7a01cd3ed19a3557226a3aa40b96650ef68994479a07b62901dcb3505854", func := "loop.example/sepkernel/laws.FnLongestGap", spec := "fnLongestGap", unfollowed := true, recurses := true, apart := false, narrowed := true }
def FnLongestGapUptoSaid : Prop := fnLongestGapUptoRow.holds Try.pinned (OpenSpec.upto fnLongestGapSpec)

end Rows
end Go.Proofs.Ytbjhekkebnkejaa
