/-
  No cell of these rows narrows 'for every input' (looked for: loops, veiled, ifaces, maps, wideKeys, modest, calm, conditions, laid).
  DERIVED. THE GIVEN ROWS OF THIS SEAT. 9 by the template 'for every input the law returns true; each argument reads behind the call as it read before'; 0 by the template 'total and deterministic' (their statements: YtlkdngjpbohgaaaTotals.lean).
  GIVEN WITH THE SEED: the statements are not yours to turn. If you find one false, say at which input.
  Laid BY PROGRAM, IN A SANDBOX (cutbox-rows.mjs): the forced cells as the released guide's own fill.sh prints them over the translation 5095c48fc92f6811… (all of the seat's roots in one cut). By AI agents, Wed Nov 11 2026. No macro, syntax, notation, axiom, sorry.
-/
import Derived.Test.YtlkdngjpbohgaaaChecked
import GoSem.Claim
import GoSem.ClaimJoined
import GoSem.ClaimMapViews
import Derived.JoinedTies
import Derived.KernelRfl
namespace Go.Proofs.Ytlkdngjpbohgaaa
/- THE CELL 'sum', in the pinned program and in every row, IS THE sha256 OF THE DUMP (.gsa) THAT YtlkdngjpbohgaaaProg.lean LOADS. Nothing in Lean hashes anything: it is a label: what it is worth is what the hold of that sum in a sandbox is worth. -/
noncomputable def Try.pinned : Pinned := { name := "ytlkdngjpbohgaaa", sum := "5095c48fc92f6811a8e69a10f6353fc77107ed656d8505917f887e5667d554ab", checked := Try.checked }
namespace Rows
def none {H : Type} : Left H := { results := [], args := [] }

/-- 'laws.FnCacheFill': WHATEVER THE INPUT: true; the input reads as it did. -/
def fnCacheFillSpec : ChangeSpec := { name := "fnCacheFill", fn := fun _ => fun
  | [d] => { results := [.lit (.bool true)], args := [d] }
  | _ => none }
def fnCacheFillRow : OpenClaim := { program := "ytlkdngjpbohgaaa", sum := "5095c48fc92f6811a8e69a10f6353fc77107ed656d8505917f887e5667d554ab", func := "loop.example/sepkernel/laws.FnCacheFill", spec := "fnCacheFill", unfollowed := true, recurses := true, apart := false }
def FnCacheFillSaid : Prop := fnCacheFillRow.holds Try.pinned (OpenSpec.ofChange fnCacheFillSpec)

/-- ITS FALSE NEIGHBOUR: 'it returns false'. Refute it at one input. -/
def fnCacheFillWrong : ChangeSpec := { name := "fnCacheFill", fn := fun _ => fun
  | [d] => { results := [.lit (.bool false)], args := [d] }
  | _ => none }
def FnCacheFillWrongFalsely : Prop := fnCacheFillRow.holds Try.pinned (OpenSpec.ofChange fnCacheFillWrong)

/-- 'laws.FnHealthCalm': WHATEVER THE INPUT: true; the input reads as it did. -/
def fnHealthCalmSpec : ChangeSpec := { name := "fnHealthCalm", fn := fun _ => fun
  | [d] => { results := [.lit (.bool true)], args := [d] }
  | _ => none }
def fnHealthCalmRow : OpenClaim := { program := "ytlkdngjpbohgaaa", sum := "5095c48fc92f6811a8e69a10f6353fc77107ed656d8505917f887e5667d554ab", func := "loop.example/sepkernel/laws.FnHealthCalm", spec := "fnHealthCalm", unfollowed := true, recurses := true, apart := false }
def FnHealthCalmSaid : Prop := fnHealthCalmRow.holds Try.pinned (OpenSpec.ofChange fnHealthCalmSpec)

/-- ITS FALSE NEIGHBOUR: 'it returns false'. Refute it at one input. -/
def fnHealthCalmWrong : ChangeSpec := { name := "fnHealthCalm", fn := fun _ => fun
  | [d] => { results := [.lit (.bool false)], args := [d] }
  | _ => none }
def FnHealthCalmWrongFalsely : Prop := fnHealthCalmRow.holds Try.pinned (OpenSpec.ofChange fnHealthCalmWrong)

/-- 'laws.FnHealthRun': WHATEVER THE INPUT: true; the input reads as it did. -/
def fnHealthRunSpec : ChangeSpec := { name := "fnHealthRun", fn := fun _ => fun
  | [d] => { results := [.lit (.bool true)], args := [d] }
  | _ => none }
def fnHealthRunRow : OpenClaim := { program := "ytlkdngjpbohgaaa", sum := "5095c48fc92f6811a8e69a10f6353fc77107ed656d8505917f887e5667d554ab", func := "loop.example/sepkernel/laws.FnHealthRun", spec := "fnHealthRun", unfollowed := true, recurses := true, apart := false }
def FnHealthRunSaid : Prop := fnHealthRunRow.holds Try.pinned (OpenSpec.ofChange fnHealthRunSpec)

/-- ITS FALSE NEIGHBOUR: 'it returns false'. Refute it at one input. -/
def fnHealthRunWrong : ChangeSpec := { name := "fnHealthRun", fn := fun _ => fun
  | [d] => { results := [.lit (.bool false)], args := [d] }
  | _ => none }
def FnHealthRunWrongFalsely : Prop := fnHealthRunRow.holds Try.pinned (OpenSpec.ofChange fnHealthRunWrong)

/-- 'laws.FnTouchCache': WHATEVER THE INPUT: true; the input reads as it did. -/
def fnTouchCacheSpec : ChangeSpec := { name := "fnTouchCache", fn := fun _ => fun
  | [d] => { results := [.lit (.bool true)], args := [d] }
  | _ => none }
def fnTouchCacheRow : OpenClaim := { program := "ytlkdngjpbohgaaa", sum := "5095c48fc92f6811a8e69a10f6353fc77107ed656d8505917f887e5667d554ab", func := "loop.example/sepkernel/laws.FnTouchCache", spec := "fnTouchCache", unfollowed := true, recurses := true, apart := false }
def FnTouchCacheSaid : Prop := fnTouchCacheRow.holds Try.pinned (OpenSpec.ofChange fnTouchCacheSpec)

/-- ITS FALSE NEIGHBOUR: 'it returns false'. Refute it at one input. -/
def fnTouchCacheWrong : ChangeSpec := { name := "fnTouchCache", fn := fun _ => fun
  | [d] => { results := [.lit (.bool false)], args := [d] }
  | _ => none }
def FnTouchCacheWrongFalsely : Prop := fnTouchCacheRow.holds Try.pinned (OpenSpec.ofChange fnTouchCacheWrong)

/-- 'laws.FnPlainStarts': WHATEVER THE INPUT: true; the input reads as it did. -/
def fnPlainStartsSpec : ChangeSpec := { name := "fnPlainStarts", fn := fun _ => fun
  | [d] => { results := [.lit (.bool true)], args := [d] }
  | _ => none }
def fnPlainStartsRow : OpenClaim := { program := "ytlkdngjpbohgaaa", sum := "5095c48fc92f6811a8e69a10f6353fc77107ed656d8505917f887e5667d554ab", func := "loop.example/sepkernel/laws.FnPlainStarts", spec := "fnPlainStarts", unfollowed := true, recurses := true, apart := false }
def FnPlainStartsSaid : Prop := fnPlainStartsRow.holds Try.pinned (OpenSpec.ofChange fnPlainStartsSpec)

/-- ITS FALSE NEIGHBOUR: 'it returns false'. Refute it at one input. -/
def fnPlainStartsWrong : ChangeSpec := { name := "fnPlainStarts", fn := fun _ => fun
  | [d] => { results := [.lit (.bool false)], args := [d] }
  | _ => none }
def FnPlainStartsWrongFalsely : Prop := fnPlainStartsRow.holds Try.pinned (OpenSpec.ofChange fnPlainStartsWrong)

/-- 'laws.FnCacheClash': WHATEVER THE INPUT: true; the input reads as it did. -/
def fnCacheClashSpec : ChangeSpec := { name := "fnCacheClash", fn := fun _ => fun
  | [d] => { results := [.lit (.bool true)], args := [d] }
  | _ => none }
def fnCacheClashRow : OpenClaim := { program := "ytlkdngjpbohgaaa", sum := "5095c48fc92f6811a8e69a10f6353fc77107ed656d8505917f887e5667d554ab", func := "loop.example/sepkernel/laws.FnCacheClash", spec := "fnCacheClash", unfollowed := true, recurses := true, apart := false }
def FnCacheClashSaid : Prop := fnCacheClashRow.holds Try.pinned (OpenSpec.ofChange fnCacheClashSpec)

/-- ITS FALSE NEIGHBOUR: 'it returns false'. Refute it at one input. -/
def fnCacheClashWrong : ChangeSpec := { name := "fnCacheClash", fn := fun _ => fun
  | [d] => { results := [.lit (.bool false)], args := [d] }
  | _ => none }
def FnCacheClashWrongFalsely : Prop := fnCacheClashRow.holds Try.pinned (OpenSpec.ofChange fnCacheClashWrong)

/-- 'laws.FnEmptyCache': WHATEVER THE INPUT: true; the input reads as it did. -/
def fnEmptyCacheSpec : ChangeSpec := { name := "fnEmptyCache", fn := fun _ => fun
  | [d] => { results := [.lit (.bool true)], args := [d] }
  | _ => none }
def fnEmptyCacheRow : OpenClaim := { program := "ytlkdngjpbohgaaa", sum := "5095c48fc92f6811a8e69a10f6353fc77107ed656d8505917f887e5667d554ab", func := "loop.example/sepkernel/laws.FnEmptyCache", spec := "fnEmptyCache", unfollowed := true, recurses := true, apart := false }
def FnEmptyCacheSaid : Prop := fnEmptyCacheRow.holds Try.pinned (OpenSpec.ofChange fnEmptyCacheSpec)

/-- ITS FALSE NEIGHBOUR: 'it returns false'. Refute it at one input. -/
def fnEmptyCacheWrong : ChangeSpec := { name := "fnEmptyCache", fn := fun _ => fun
  | [d] => { results := [.lit (.bool false)], args := [d] }
  | _ => none }
def FnEmptyCacheWrongFalsely : Prop := fnEmptyCacheRow.holds Try.pinned (OpenSpec.ofChange fnEmptyCacheWrong)

/-- 'laws.FnTouchTime': WHATEVER THE INPUT: true; the input reads as it did. -/
def fnTouchTimeSpec : ChangeSpec := { name := "fnTouchTime", fn := fun _ => fun
  | [d] => { results := [.lit (.bool true)], args := [d] }
  | _ => none }
def fnTouchTimeRow : OpenClaim := { program := "ytlkdngjpbohgaaa", sum := "5095c48fc92f6811a8e69a10f6353fc77107ed656d8505917f887e5667d554ab", func := "loop.example/sepkernel/laws.FnTouchTime", spec := "fnTouchTime", unfollowed := true, recurses := true, apart := false }
def FnTouchTimeSaid : Prop := fnTouchTimeRow.holds Try.pinned (OpenSpec.ofChange fnTouchTimeSpec)

/-- ITS FALSE NEIGHBOUR: 'it returns false'. Refute it at one input. -/
def fnTouchTimeWrong : ChangeSpec := { name := "fnTouchTime", fn := fun _ => fun
  | [d] => { results := [.lit (.bool false)], args := [d] }
  | _ => none }
def FnTouchTimeWrongFalsely : Prop := fnTouchTimeRow.holds Try.pinned (OpenSpec.ofChange fnTouchTimeWrong)

/-- 'laws.FnLeakTime': WHATEVER THE INPUT: true; the input reads as it did. -/
def fnLeakTimeSpec : ChangeSpec := { name := "fnLeakTime", fn := fun _ => fun
  | [d] => { results := [.lit (.bool true)], args := [d] }
  | _ => none }
def fnLeakTimeRow : OpenClaim := { program := "ytlkdngjpbohgaaa", sum := "5095c48fc92f6811a8e69a10f6353fc77107ed656d8505917f887e5667d554ab", func := "loop.example/sepkernel/laws.FnLeakTime", spec := "fnLeakTime", unfollowed := true, recurses := true, apart := false }
def FnLeakTimeSaid : Prop := fnLeakTimeRow.holds Try.pinned (OpenSpec.ofChange fnLeakTimeSpec)

/-- ITS FALSE NEIGHBOUR: 'it returns false'. Refute it at one input. -/
def fnLeakTimeWrong : ChangeSpec := { name := "fnLeakTime", fn := fun _ => fun
  | [d] => { results := [.lit (.bool false)], args := [d] }
  | _ => none }
def FnLeakTimeWrongFalsely : Prop := fnLeakTimeRow.holds Try.pinned (OpenSpec.ofChange fnLeakTimeWrong)

/- THE SECOND FORM. 'bulk': how many values and letters a reading holds, each counted each time it is reached (what is shared counts as often as it is met; a slice's spare places count too). A statement '..UptoSaid' is the law's where the arguments, and the package variables that the reading takes, are together of bulk at most 1048576: NARROWER than '..Said'. Prove '..Said' where nothing that the law and all that it calls make is longer than what came in: it says more and counts as full. Else prove '..UptoSaid'. A law counts once. -/
mutual
def uptoBulk {H : Type} : DataW H → Nat
  | .lit (.string bytes) => bytes.length + 1
  | .lit _ => 1
  | .nil => 1
  | .ptr d => uptoBulk d + 1
  | .slice elems spare => uptoBulkAll elems + uptoBulkAll spare + 1
  | .agg parts => uptoBulkAll parts + 1
  | .iface _ d => uptoBulk d + 1
  | .map entries => uptoBulkEntries entries + 1
  | .held _ => 1
def uptoBulkAll {H : Type} : List (DataW H) → Nat
  | [] => 0
  | d :: r => uptoBulk d + uptoBulkAll r
def uptoBulkEntries {H : Type} : List (Lit × DataW H) → Nat
  | [] => 0
  | x :: r => uptoBulkEntry x + uptoBulkEntries r
def uptoBulkEntry {H : Type} : Lit × DataW H → Nat
  | (.string bytes, d) => bytes.length + uptoBulk d + 1
  | (_, d) => uptoBulk d + 1
 end
def uptoSmall : (H : Type) → List (DataW H) → Bool := fun _ ds => decide (uptoBulkAll ds ≤ 1048576)
def OpenSpec.upto (s : _root_.Go.ChangeSpec) : _root_.Go.OpenSpec := { _root_.Go.OpenSpec.ofChange s with cond := some uptoSmall }

/-- 'laws.FnCacheFill', WHERE WHAT IT READS IS OF BULK AT MOST 1048576: true; the input reads as it did. -/
def fnCacheFillUptoRow : OpenClaim := { program := "ytlkdngjpbohgaaa", sum := "5095c48fc92f6811a8e69a10f6353fc77107ed656d8505917f887e5667d554ab", func := "loop.example/sepkernel/laws.FnCacheFill", spec := "fnCacheFill", unfollowed := true, recurses := true, apart := false, narrowed := true }
def FnCacheFillUptoSaid : Prop := fnCacheFillUptoRow.holds Try.pinned (OpenSpec.upto fnCacheFillSpec)

/-- 'laws.FnHealthCalm', WHERE WHAT IT READS IS OF BULK AT MOST 1048576: true; the input reads as it did. -/
def fnHealthCalmUptoRow : OpenClaim := { program := "ytlkdngjpbohgaaa", sum := "5095c48fc92f6811a8e69a10f6353fc77107ed656d8505917f887e5667d554ab", func := "loop.example/sepkernel/laws.FnHealthCalm", spec := "fnHealthCalm", unfollowed := true, recurses := true, apart := false, narrowed := true }
def FnHealthCalmUptoSaid : Prop := fnHealthCalmUptoRow.holds Try.pinned (OpenSpec.upto fnHealthCalmSpec)

/-- 'laws.FnHealthRun', WHERE WHAT IT READS IS OF BULK AT MOST 1048576: true; the input reads as it did. -/
def fnHealthRunUptoRow : OpenClaim := { program := "ytlkdngjpbohgaaa", sum := "5095c48fc92f6811a8e69a10f6353fc77107ed656d8505917f887e5667d554ab", func := "loop.example/sepkernel/laws.FnHealthRun", spec := "fnHealthRun", unfollowed := true, recurses := true, apart := false, narrowed := true }
def FnHealthRunUptoSaid : Prop := fnHealthRunUptoRow.holds Try.pinned (OpenSpec.upto fnHealthRunSpec)

/-- 'laws.FnTouchCache', WHERE WHAT IT READS IS OF BULK AT MOST 1048576: true; the input reads as it did. -/
def fnTouchCacheUptoRow : OpenClaim := { program := "ytlkdngjpbohgaaa", sum := "5095c48fc92f6811a8e69a10f6353fc77107ed656d8505917f887e5667d554ab", func := "loop.example/sepkernel/laws.FnTouchCache", spec := "fnTouchCache", unfollowed := true, recurses := true, apart := false, narrowed := true }
def FnTouchCacheUptoSaid : Prop := fnTouchCacheUptoRow.holds Try.pinned (OpenSpec.upto fnTouchCacheSpec)

/-- 'laws.FnPlainStarts', WHERE WHAT IT READS IS OF BULK AT MOST 1048576: true; the input reads as it did. -/
def fnPlainStartsUptoRow : OpenClaim := { program := "ytlkdngjpbohgaaa", sum := "5095c48fc92f6811a8e69a10f6353fc77107ed656d8505917f887e5667d554ab", func := "loop.example/sepkernel/laws.FnPlainStarts", spec := "fnPlainStarts", unfollowed := true, recurses := true, apart := false, narrowed := true }
def FnPlainStartsUptoSaid : Prop := fnPlainStartsUptoRow.holds Try.pinned (OpenSpec.upto fnPlainStartsSpec)

/-- 'laws.FnCacheClash', WHERE WHAT IT READS IS OF BULK AT MOST 1048576: true; the input reads as it did. -/
def fnCacheClashUptoRow : OpenClaim := { program := "ytlkdngjpbohgaaa", sum := "5095c48fc92f6811a8e69a10f6353fc77107ed656d8505917f887e5667d554ab", func := "loop.example/sepkernel/laws.FnCacheClash", spec := "fnCacheClash", unfollowed := true, recurses := true, apart := false, narrowed := true }
def FnCacheClashUptoSaid : Prop := fnCacheClashUptoRow.holds Try.pinned (OpenSpec.upto fnCacheClashSpec)

/-- 'laws.FnEmptyCache', WHERE WHAT IT READS IS OF BULK AT MOST 1048576: true; the input reads as it did. -/
def fnEmptyCacheUptoRow : OpenClaim := { program := "ytlkdngjpbohgaaa", sum := "5095c48fc92f6811a8e69a10f6353fc77107ed656d8505917f887e5667d554ab", func := "loop.example/sepkernel/laws.FnEmptyCache", spec := "fnEmptyCache", unfollowed := true, recurses := true, apart := false, narrowed := true }
def FnEmptyCacheUptoSaid : Prop := fnEmptyCacheUptoRow.holds Try.pinned (OpenSpec.upto fnEmptyCacheSpec)

/-- 'laws.FnTouchTime', WHERE WHAT IT READS IS OF BULK AT MOST 1048576: true; the input reads as it did. -/
def fnTouchTimeUptoRow : OpenClaim := { program := "ytlkdngjpbohgaaa", sum := "5095c48fc92f6811a8e69a10f6353fc77107ed656d8505917f887e5667d554ab", func := "loop.example/sepkernel/laws.FnTouchTime", spec := "fnTouchTime", unfollowed := true, recurses := true, apart := false, narrowed := true }
def FnTouchTimeUptoSaid : Prop := fnTouchTimeUptoRow.holds Try.pinned (OpenSpec.upto fnTouchTimeSpec)

/-- 'laws.FnLeakTime', WHERE WHAT IT READS IS OF BULK AT MOST 1048576: true; the input reads as it did. -/
def fnLeakTimeUptoRow : OpenClaim := { program := "ytlkdngjpbohgaaa", sum := "5095c48fc92f6811a8e69a10f6353fc77107ed656d8505917f887e5667d554ab", func := "loop.example/sepkernel/laws.FnLeakTime", spec := "fnLeakTime", unfollowed := true, recurses := true, apart := false, narrowed := true }
def FnLeakTimeUptoSaid : Prop := fnLeakTimeUptoRow.holds Try.pinned (OpenSpec.upto fnLeakTimeSpec)

end Rows
end Go.Proofs.Ytlkdngjpbohgaaa
