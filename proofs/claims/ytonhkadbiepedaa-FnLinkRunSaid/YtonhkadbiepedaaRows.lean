/-
  No cell of these rows narrows 'for every input' (looked for: loops, veiled, ifaces, maps, wideKeys, modest, calm, conditions, laid).
  DERIVED. THE GIVEN ROWS OF THIS SEAT. 7 by the template 'for every input the law returns true; each argument reads behind the call as it read before'; 0 by the template 'total and deterministic' (their statements: YtonhkadbiepedaaTotals.lean).
  GIVEN WITH THE SEED: the statements are not yours to turn. If you find one false, say at which input.
  Laid BY PROGRAM, IN A SANDBOX (cutbox-rows.mjs): the forced cells as the released guide's own fill.sh prints them over the translation 877a49a00ce618c4… (all of the seat's roots in one cut). By AI agents, Wed Nov 11 2026. No macro, syntax, notation, axiom, sorry.
-/
import Derived.Test.YtonhkadbiepedaaChecked
import GoSem.Claim
import GoSem.ClaimJoined
import GoSem.ClaimMapViews
import Derived.JoinedTies
import Derived.KernelRfl
namespace Go.Proofs.Ytonhkadbiepedaa
/- THE CELL 'sum', in the pinned program and in every row, IS THE sha256 OF THE DUMP (.gsa) THAT YtonhkadbiepedaaProg.lean LOADS. Nothing in Lean hashes anything: it is a label: what it is worth is what the hold of that sum in a sandbox is worth. -/
noncomputable def Try.pinned : Pinned := { name := "ytonhkadbiepedaa", sum := "877a49a00ce618c46eea0375c0a285fe8b09c918dd58744ac3000d381fb76215", checked := Try.checked }
namespace Rows
def none {H : Type} : Left H := { results := [], args := [] }

/-- 'laws.FnHoldFull': WHATEVER THE INPUT: true; the input reads as it did. -/
def fnHoldFullSpec : ChangeSpec := { name := "fnHoldFull", fn := fun _ => fun
  | [d] => { results := [.lit (.bool true)], args := [d] }
  | _ => none }
def fnHoldFullRow : OpenClaim := { program := "ytonhkadbiepedaa", sum := "877a49a00ce618c46eea0375c0a285fe8b09c918dd58744ac3000d381fb76215", func := "loop.example/sepkernel/laws.FnHoldFull", spec := "fnHoldFull", unfollowed := true, recurses := true, apart := false }
def FnHoldFullSaid : Prop := fnHoldFullRow.holds Try.pinned (OpenSpec.ofChange fnHoldFullSpec)

/-- ITS FALSE NEIGHBOUR: 'it returns false'. Refute it at one input. -/
def fnHoldFullWrong : ChangeSpec := { name := "fnHoldFull", fn := fun _ => fun
  | [d] => { results := [.lit (.bool false)], args := [d] }
  | _ => none }
def FnHoldFullWrongFalsely : Prop := fnHoldFullRow.holds Try.pinned (OpenSpec.ofChange fnHoldFullWrong)

/-- 'laws.FnLinkSend': WHATEVER THE INPUT: true; the input reads as it did. -/
def fnLinkSendSpec : ChangeSpec := { name := "fnLinkSend", fn := fun _ => fun
  | [d] => { results := [.lit (.bool true)], args := [d] }
  | _ => none }
def fnLinkSendRow : OpenClaim := { program := "ytonhkadbiepedaa", sum := "877a49a00ce618c46eea0375c0a285fe8b09c918dd58744ac3000d381fb76215", func := "loop.example/sepkernel/laws.FnLinkSend", spec := "fnLinkSend", unfollowed := true, recurses := true, apart := false }
def FnLinkSendSaid : Prop := fnLinkSendRow.holds Try.pinned (OpenSpec.ofChange fnLinkSendSpec)

/-- ITS FALSE NEIGHBOUR: 'it returns false'. Refute it at one input. -/
def fnLinkSendWrong : ChangeSpec := { name := "fnLinkSend", fn := fun _ => fun
  | [d] => { results := [.lit (.bool false)], args := [d] }
  | _ => none }
def FnLinkSendWrongFalsely : Prop := fnLinkSendRow.holds Try.pinned (OpenSpec.ofChange fnLinkSendWrong)

/-- 'laws.FnLinkLater': WHATEVER THE INPUT: true; the input reads as it did. -/
def fnLinkLaterSpec : ChangeSpec := { name := "fnLinkLater", fn := fun _ => fun
  | [d1, d2] => { results := [.lit (.bool true)], args := [d1, d2] }
  | _ => none }
def fnLinkLaterRow : OpenClaim := { program := "ytonhkadbiepedaa", sum := "877a49a00ce618c46eea0375c0a285fe8b09c918dd58744ac3000d381fb76215", func := "loop.example/sepkernel/laws.FnLinkLater", spec := "fnLinkLater", unfollowed := true, recurses := true, apart := false }
def FnLinkLaterSaid : Prop := fnLinkLaterRow.holds Try.pinned (OpenSpec.ofChange fnLinkLaterSpec)

/-- ITS FALSE NEIGHBOUR: 'it returns false'. Refute it at one input. -/
def fnLinkLaterWrong : ChangeSpec := { name := "fnLinkLater", fn := fun _ => fun
  | [d1, d2] => { results := [.lit (.bool false)], args := [d1, d2] }
  | _ => none }
def FnLinkLaterWrongFalsely : Prop := fnLinkLaterRow.holds Try.pinned (OpenSpec.ofChange fnLinkLaterWrong)

/-- 'laws.FnLinkTake': WHATEVER THE INPUT: true; the input reads as it did. -/
def fnLinkTakeSpec : ChangeSpec := { name := "fnLinkTake", fn := fun _ => fun
  | [d] => { results := [.lit (.bool true)], args := [d] }
  | _ => none }
def fnLinkTakeRow : OpenClaim := { program := "ytonhkadbiepedaa", sum := "877a49a00ce618c46eea0375c0a285fe8b09c918dd58744ac3000d381fb76215", func := "loop.example/sepkernel/laws.FnLinkTake", spec := "fnLinkTake", unfollowed := true, recurses := true, apart := false }
def FnLinkTakeSaid : Prop := fnLinkTakeRow.holds Try.pinned (OpenSpec.ofChange fnLinkTakeSpec)

/-- ITS FALSE NEIGHBOUR: 'it returns false'. Refute it at one input. -/
def fnLinkTakeWrong : ChangeSpec := { name := "fnLinkTake", fn := fun _ => fun
  | [d] => { results := [.lit (.bool false)], args := [d] }
  | _ => none }
def FnLinkTakeWrongFalsely : Prop := fnLinkTakeRow.holds Try.pinned (OpenSpec.ofChange fnLinkTakeWrong)

/-- 'laws.FnLinkRun': WHATEVER THE INPUT: true; the input reads as it did. -/
def fnLinkRunSpec : ChangeSpec := { name := "fnLinkRun", fn := fun _ => fun
  | [d] => { results := [.lit (.bool true)], args := [d] }
  | _ => none }
def fnLinkRunRow : OpenClaim := { program := "ytonhkadbiepedaa", sum := "877a49a00ce618c46eea0375c0a285fe8b09c918dd58744ac3000d381fb76215", func := "loop.example/sepkernel/laws.FnLinkRun", spec := "fnLinkRun", unfollowed := true, recurses := true, apart := false }
def FnLinkRunSaid : Prop := fnLinkRunRow.holds Try.pinned (OpenSpec.ofChange fnLinkRunSpec)

/-- ITS FALSE NEIGHBOUR: 'it returns false'. Refute it at one input. -/
def fnLinkRunWrong : ChangeSpec := { name := "fnLinkRun", fn := fun _ => fun
  | [d] => { results := [.lit (.bool false)], args := [d] }
  | _ => none }
def FnLinkRunWrongFalsely : Prop := fnLinkRunRow.holds Try.pinned (OpenSpec.ofChange fnLinkRunWrong)

/-- 'laws.FnHoldSend': WHATEVER THE INPUT: true; the input reads as it did. -/
def fnHoldSendSpec : ChangeSpec := { name := "fnHoldSend", fn := fun _ => fun
  | [d] => { results := [.lit (.bool true)], args := [d] }
  | _ => none }
def fnHoldSendRow : OpenClaim := { program := "ytonhkadbiepedaa", sum := "877a49a00ce618c46eea0375c0a285fe8b09c918dd58744ac3000d381fb76215", func := "loop.example/sepkernel/laws.FnHoldSend", spec := "fnHoldSend", unfollowed := true, recurses := true, apart := false }
def FnHoldSendSaid : Prop := fnHoldSendRow.holds Try.pinned (OpenSpec.ofChange fnHoldSendSpec)

/-- ITS FALSE NEIGHBOUR: 'it returns false'. Refute it at one input. -/
def fnHoldSendWrong : ChangeSpec := { name := "fnHoldSend", fn := fun _ => fun
  | [d] => { results := [.lit (.bool false)], args := [d] }
  | _ => none }
def FnHoldSendWrongFalsely : Prop := fnHoldSendRow.holds Try.pinned (OpenSpec.ofChange fnHoldSendWrong)

/-- 'laws.FnHoldTake': WHATEVER THE INPUT: true; the input reads as it did. -/
def fnHoldTakeSpec : ChangeSpec := { name := "fnHoldTake", fn := fun _ => fun
  | [d] => { results := [.lit (.bool true)], args := [d] }
  | _ => none }
def fnHoldTakeRow : OpenClaim := { program := "ytonhkadbiepedaa", sum := "877a49a00ce618c46eea0375c0a285fe8b09c918dd58744ac3000d381fb76215", func := "loop.example/sepkernel/laws.FnHoldTake", spec := "fnHoldTake", unfollowed := true, recurses := true, apart := false }
def FnHoldTakeSaid : Prop := fnHoldTakeRow.holds Try.pinned (OpenSpec.ofChange fnHoldTakeSpec)

/-- ITS FALSE NEIGHBOUR: 'it returns false'. Refute it at one input. -/
def fnHoldTakeWrong : ChangeSpec := { name := "fnHoldTake", fn := fun _ => fun
  | [d] => { results := [.lit (.bool false)], args := [d] }
  | _ => none }
def FnHoldTakeWrongFalsely : Prop := fnHoldTakeRow.holds Try.pinned (OpenSpec.ofChange fnHoldTakeWrong)

/- THE SECOND FORM. 'bulk': how many values and letters a reading holds, each counted each time it is reached (what is shared counts as often as it is met; a slice's spare places count too). A statement '..UptoSaid' is the law's where the arguments, and the package variables that the reading takes, are together of bulk at most 1048576: NARROWER than '..Said'. Prove '..Said' where nothing that the law and all that it calls make is longer than what came in: it says more and counts as full. Else prove '..UptoSaid'. A law counts once. -/
mutual
def uptoBulk {H : Type} : DataW H → Nat
  | .lit (.string bytes) => bytes.length + 1
  | .lit _ => 1
  | .nil => 1
  | .ptr d => uptoBulk d + 1
  | .slice elems spare => uptoBulkAll elems + uptoBulkAll spare + 1
  | .agg parts => uptoBulkAll parts + 1
  | .iface _ d => uptoBulk d + 1
  | .map entries => uptoBulkEntries entries + 1
  | .held _ => 1
def uptoBulkAll {H : Type} : List (DataW H) → Nat
  | [] => 0
  | d :: r => uptoBulk d + uptoBulkAll r
def uptoBulkEntries {H : Type} : List (Lit × DataW H) → Nat
  | [] => 0
  | x :: r => uptoBulkEntry x + uptoBulkEntries r
def uptoBulkEntry {H : Type} : Lit × DataW H → Nat
  | (.string bytes, d) => bytes.length + uptoBulk d + 1
  | (_, d) => uptoBulk d + 1
 end
def uptoSmall : (H : Type) → List (DataW H) → Bool := fun _ ds => decide (uptoBulkAll ds ≤ 1048576)
def OpenSpec.upto (s : _root_.Go.ChangeSpec) : _root_.Go.OpenSpec := { _root_.Go.OpenSpec.ofChange s with cond := some uptoSmall }

/-- 'laws.FnHoldFull', WHERE WHAT IT READS IS OF BULK AT MOST 1048576: true; the input reads as it did. -/
def fnHoldFullUptoRow : OpenClaim := { program := "ytonhkadbiepedaa", sum := "877a49a00ce618c46eea0375c0a285fe8b09c918dd58744ac3000d381fb76215", func := "loop.example/sepkernel/laws.FnHoldFull", spec := "fnHoldFull", unfollowed := true, recurses := true, apart := false, narrowed := true }
def FnHoldFullUptoSaid : Prop := fnHoldFullUptoRow.holds Try.pinned (OpenSpec.upto fnHoldFullSpec)

/-- 'laws.FnLinkSend', WHERE WHAT IT READS IS OF BULK AT MOST 1048576: true; the input reads as it did. -/
def fnLinkSendUptoRow : OpenClaim := { program := "ytonhkadbiepedaa", sum := "877a49a00ce618c46eea0375c0a285fe8b09c918dd58744ac3000d381fb76215", func := "loop.example/sepkernel/laws.FnLinkSend", spec := "fnLinkSend", unfollowed := true, recurses := true, apart := false, narrowed := true }
def FnLinkSendUptoSaid : Prop := fnLinkSendUptoRow.holds Try.pinned (OpenSpec.upto fnLinkSendSpec)

/-- 'laws.FnLinkLater', WHERE WHAT IT READS IS OF BULK AT MOST 1048576: true; the input reads as it did. -/
def fnLinkLaterUptoRow : OpenClaim := { program := "ytonhkadbiepedaa", sum := "877a49a00ce618c46eea0375c0a285fe8b09c918dd58744ac3000d381fb76215", func := "loop.example/sepkernel/laws.FnLinkLater", spec := "fnLinkLater", unfollowed := true, recurses := true, apart := false, narrowed := true }
def FnLinkLaterUptoSaid : Prop := fnLinkLaterUptoRow.holds Try.pinned (OpenSpec.upto fnLinkLaterSpec)

/-- 'laws.FnLinkTake', WHERE WHAT IT READS IS OF BULK AT MOST 1048576: true; the input reads as it did. -/
def fnLinkTakeUptoRow : OpenClaim := { program := "ytonhkadbiepedaa", sum := "877a49a00ce618c46eea0375c0a285fe8b09c918dd58744ac3000d381fb76215", func := "loop.example/sepkernel/laws.FnLinkTake", spec := "fnLinkTake", unfollowed := true, recurses := true, apart := false, narrowed := true }
def FnLinkTakeUptoSaid : Prop := fnLinkTakeUptoRow.holds Try.pinned (OpenSpec.upto fnLinkTakeSpec)

/-- 'laws.FnLinkRun', WHERE WHAT IT READS IS OF BULK AT MOST 1048576: true; the input reads as it did. -/
def fnLinkRunUptoRow : OpenClaim := { program := "ytonhkadbiepedaa", sum := "877a49a00ce618c46eea0375c0a285fe8b09c918dd58744ac3000d381fb76215", func := "loop.example/sepkernel/laws.FnLinkRun", spec := "fnLinkRun", unfollowed := true, recurses := true, apart := false, narrowed := true }
def FnLinkRunUptoSaid : Prop := fnLinkRunUptoRow.holds Try.pinned (OpenSpec.upto fnLinkRunSpec)

/-- 'laws.FnHoldSend', WHERE WHAT IT READS IS OF BULK AT MOST 1048576: true; the input reads as it did. -/
def fnHoldSendUptoRow : OpenClaim := { program := "ytonhkadbiepedaa", sum := "877a49a00ce618c46eea0375c0a285fe8b09c918dd58744ac3000d381fb76215", func := "loop.example/sepkernel/laws.FnHoldSend", spec := "fnHoldSend", unfollowed := true, recurses := true, apart := false, narrowed := true }
def FnHoldSendUptoSaid : Prop := fnHoldSendUptoRow.holds Try.pinned (OpenSpec.upto fnHoldSendSpec)

/-- 'laws.FnHoldTake', WHERE WHAT IT READS IS OF BULK AT MOST 1048576: true; the input reads as it did. -/
def fnHoldTakeUptoRow : OpenClaim := { program := "ytonhkadbiepedaa", sum := "877a49a00ce618c46eea0375c0a285fe8b09c918dd58744ac3000d381fb76215", func := "loop.example/sepkernel/laws.FnHoldTake", spec := "fnHoldTake", unfollowed := true, recurses := true, apart := false, narrowed := true }
def FnHoldTakeUptoSaid : Prop := fnHoldTakeUptoRow.holds Try.pinned (OpenSpec.upto fnHoldTakeSpec)

end Rows
end Go.Proofs.Ytonhkadbiepedaa
