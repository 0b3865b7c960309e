/-
  No cell of these rows narrows 'for every input' (looked for: loops, veiled, ifaces, maps, wideKeys, modest, calm, conditions, laid).
  DERIVED. THE GIVEN ROWS OF THIS SEAT. 10 by the template 'for every input the law returns true; each argument reads behind the call as it read before'; 0 by the template 'total and deterministic' (their statements: YtiodpnhokjkjaaaTotals.lean).
  GIVEN WITH THE SEED: the statements are not yours to turn. If you find one false, say at which input.
  Laid BY PROGRAM, IN A SANDBOX (cutbox-rows.mjs): the forced cells as the released guide's own fill.sh prints them over the translation cb94c9c8dfe56cc1… (all of the seat's roots in one cut). By AI agents, Wed Nov 11 2026. No macro, syntax, notation, axiom, sorry.
-/
import Derived.Test.YtiodpnhokjkjaaaChecked
import GoSem.Claim
import GoSem.ClaimJoined
import GoSem.ClaimMapViews
import Derived.JoinedTies
import Derived.KernelRfl
namespace Go.Proofs.Ytiodpnhokjkjaaa
/- THE CELL 'sum', in the pinned program and in every row, IS THE sha256 OF THE DUMP (.gsa) THAT YtiodpnhokjkjaaaProg.lean LOADS. Nothing in Lean hashes anything: it is a label: what it is worth is what the hold of that sum in a sandbox is worth. -/
noncomputable def Try.pinned : Pinned := { name := "ytiodpnhokjkjaaa", sum := "cb94c9c8dfe56cc18a6518be1415d547b7da94d1afa22065685335df845117b3", checked := Try.checked }
namespace Rows
def none {H : Type} : Left H := { results := [], args := [] }

/-- 'laws.FnFlowsMore': WHATEVER THE INPUT: true; the input reads as it did. -/
def fnFlowsMoreSpec : ChangeSpec := { name := "fnFlowsMore", fn := fun _ => fun
  | [d] => { results := [.lit (.bool true)], args := [d] }
  | _ => none }
def fnFlowsMoreRow : OpenClaim := { program := "ytiodpnhokjkjaaa", sum := "cb94c9c8dfe56cc18a6518be1415d547b7da94d1afa22065685335df845117b3", func := "loop.example/sepkernel/laws.FnFlowsMore", spec := "fnFlowsMore", unfollowed := true, recurses := true, apart := false }
def FnFlowsMoreSaid : Prop := fnFlowsMoreRow.holds Try.pinned (OpenSpec.ofChange fnFlowsMoreSpec)

/-- ITS FALSE NEIGHBOUR: 'it returns false'. Refute it at one input. -/
def fnFlowsMoreWrong : ChangeSpec := { name := "fnFlowsMore", fn := fun _ => fun
  | [d] => { results := [.lit (.bool false)], args := [d] }
  | _ => none }
def FnFlowsMoreWrongFalsely : Prop := fnFlowsMoreRow.holds Try.pinned (OpenSpec.ofChange fnFlowsMoreWrong)

/-- 'laws.FnRunCore': WHATEVER THE INPUT: true; the input reads as it did. -/
def fnRunCoreSpec : ChangeSpec := { name := "fnRunCore", fn := fun _ => fun
  | [d] => { results := [.lit (.bool true)], args := [d] }
  | _ => none }
def fnRunCoreRow : OpenClaim := { program := "ytiodpnhokjkjaaa", sum := "cb94c9c8dfe56cc18a6518be1415d547b7da94d1afa22065685335df845117b3", func := "loop.example/sepkernel/laws.FnRunCore", spec := "fnRunCore", unfollowed := true, recurses := true, apart := false }
def FnRunCoreSaid : Prop := fnRunCoreRow.holds Try.pinned (OpenSpec.ofChange fnRunCoreSpec)

/-- ITS FALSE NEIGHBOUR: 'it returns false'. Refute it at one input. -/
def fnRunCoreWrong : ChangeSpec := { name := "fnRunCore", fn := fun _ => fun
  | [d] => { results := [.lit (.bool false)], args := [d] }
  | _ => none }
def FnRunCoreWrongFalsely : Prop := fnRunCoreRow.holds Try.pinned (OpenSpec.ofChange fnRunCoreWrong)

/-- 'laws.FnFlowsTo': WHATEVER THE INPUT: true; the input reads as it did. -/
def fnFlowsToSpec : ChangeSpec := { name := "fnFlowsTo", fn := fun _ => fun
  | [d] => { results := [.lit (.bool true)], args := [d] }
  | _ => none }
def fnFlowsToRow : OpenClaim := { program := "ytiodpnhokjkjaaa", sum := "cb94c9c8dfe56cc18a6518be1415d547b7da94d1afa22065685335df845117b3", func := "loop.example/sepkernel/laws.FnFlowsTo", spec := "fnFlowsTo", unfollowed := true, recurses := true, apart := false }
def FnFlowsToSaid : Prop := fnFlowsToRow.holds Try.pinned (OpenSpec.ofChange fnFlowsToSpec)

/-- ITS FALSE NEIGHBOUR: 'it returns false'. Refute it at one input. -/
def fnFlowsToWrong : ChangeSpec := { name := "fnFlowsTo", fn := fun _ => fun
  | [d] => { results := [.lit (.bool false)], args := [d] }
  | _ => none }
def FnFlowsToWrongFalsely : Prop := fnFlowsToRow.holds Try.pinned (OpenSpec.ofChange fnFlowsToWrong)

/-- 'laws.FnExactRunCore': WHATEVER THE INPUT: true; the input reads as it did. -/
def fnExactRunCoreSpec : ChangeSpec := { name := "fnExactRunCore", fn := fun _ => fun
  | [d1, d2, d3, d4] => { results := [.lit (.bool true)], args := [d1, d2, d3, d4] }
  | _ => none }
def fnExactRunCoreRow : OpenClaim := { program := "ytiodpnhokjkjaaa", sum := "cb94c9c8dfe56cc18a6518be1415d547b7da94d1afa22065685335df845117b3", func := "loop.example/sepkernel/laws.FnExactRunCore", spec := "fnExactRunCore", unfollowed := true, recurses := true, apart := false }
def FnExactRunCoreSaid : Prop := fnExactRunCoreRow.holds Try.pinned (OpenSpec.ofChange fnExactRunCoreSpec)

/-- ITS FALSE NEIGHBOUR: 'it returns false'. Refute it at one input. -/
def fnExactRunCoreWrong : ChangeSpec := { name := "fnExactRunCore", fn := fun _ => fun
  | [d1, d2, d3, d4] => { results := [.lit (.bool false)], args := [d1, d2, d3, d4] }
  | _ => none }
def FnExactRunCoreWrongFalsely : Prop := fnExactRunCoreRow.holds Try.pinned (OpenSpec.ofChange fnExactRunCoreWrong)

/-- 'laws.FnCoreValid': WHATEVER THE INPUT: true; the input reads as it did. -/
def fnCoreValidSpec : ChangeSpec := { name := "fnCoreValid", fn := fun _ => fun
  | [d] => { results := [.lit (.bool true)], args := [d] }
  | _ => none }
def fnCoreValidRow : OpenClaim := { program := "ytiodpnhokjkjaaa", sum := "cb94c9c8dfe56cc18a6518be1415d547b7da94d1afa22065685335df845117b3", func := "loop.example/sepkernel/laws.FnCoreValid", spec := "fnCoreValid", unfollowed := true, recurses := true, apart := false }
def FnCoreValidSaid : Prop := fnCoreValidRow.holds Try.pinned (OpenSpec.ofChange fnCoreValidSpec)

/-- ITS FALSE NEIGHBOUR: 'it returns false'. Refute it at one input. -/
def fnCoreValidWrong : ChangeSpec := { name := "fnCoreValid", fn := fun _ => fun
  | [d] => { results := [.lit (.bool false)], args := [d] }
  | _ => none }
def FnCoreValidWrongFalsely : Prop := fnCoreValidRow.holds Try.pinned (OpenSpec.ofChange fnCoreValidWrong)

/-- 'laws.FnCoreCount': WHATEVER THE INPUT: true; the input reads as it did. -/
def fnCoreCountSpec : ChangeSpec := { name := "fnCoreCount", fn := fun _ => fun
  | [d1, d2] => { results := [.lit (.bool true)], args := [d1, d2] }
  | _ => none }
def fnCoreCountRow : OpenClaim := { program := "ytiodpnhokjkjaaa", sum := "cb94c9c8dfe56cc18a6518be1415d547b7da94d1afa22065685335df845117b3", func := "loop.example/sepkernel/laws.FnCoreCount", spec := "fnCoreCount", unfollowed := true, recurses := true, apart := false }
def FnCoreCountSaid : Prop := fnCoreCountRow.holds Try.pinned (OpenSpec.ofChange fnCoreCountSpec)

/-- ITS FALSE NEIGHBOUR: 'it returns false'. Refute it at one input. -/
def fnCoreCountWrong : ChangeSpec := { name := "fnCoreCount", fn := fun _ => fun
  | [d1, d2] => { results := [.lit (.bool false)], args := [d1, d2] }
  | _ => none }
def FnCoreCountWrongFalsely : Prop := fnCoreCountRow.holds Try.pinned (OpenSpec.ofChange fnCoreCountWrong)

/-- 'laws.FnSetupValid': WHATEVER THE INPUT: true; the input reads as it did. -/
def fnSetupValidSpec : ChangeSpec := { name := "fnSetupValid", fn := fun _ => fun
  | [d] => { results := [.lit (.bool true)], args := [d] }
  | _ => none }
def fnSetupValidRow : OpenClaim := { program := "ytiodpnhokjkjaaa", sum := "cb94c9c8dfe56cc18a6518be1415d547b7da94d1afa22065685335df845117b3", func := "loop.example/sepkernel/laws.FnSetupValid", spec := "fnSetupValid", unfollowed := true, recurses := true, apart := false }
def FnSetupValidSaid : Prop := fnSetupValidRow.holds Try.pinned (OpenSpec.ofChange fnSetupValidSpec)

/-- ITS FALSE NEIGHBOUR: 'it returns false'. Refute it at one input. -/
def fnSetupValidWrong : ChangeSpec := { name := "fnSetupValid", fn := fun _ => fun
  | [d] => { results := [.lit (.bool false)], args := [d] }
  | _ => none }
def FnSetupValidWrongFalsely : Prop := fnSetupValidRow.holds Try.pinned (OpenSpec.ofChange fnSetupValidWrong)

/-- 'laws.FnCoreIdle': WHATEVER THE INPUT: true; the input reads as it did. -/
def fnCoreIdleSpec : ChangeSpec := { name := "fnCoreIdle", fn := fun _ => fun
  | [d1, d2] => { results := [.lit (.bool true)], args := [d1, d2] }
  | _ => none }
def fnCoreIdleRow : OpenClaim := { program := "ytiodpnhokjkjaaa", sum := "cb94c9c8dfe56cc18a6518be1415d547b7da94d1afa22065685335df845117b3", func := "loop.example/sepkernel/laws.FnCoreIdle", spec := "fnCoreIdle", unfollowed := true, recurses := true, apart := false }
def FnCoreIdleSaid : Prop := fnCoreIdleRow.holds Try.pinned (OpenSpec.ofChange fnCoreIdleSpec)

/-- ITS FALSE NEIGHBOUR: 'it returns false'. Refute it at one input. -/
def fnCoreIdleWrong : ChangeSpec := { name := "fnCoreIdle", fn := fun _ => fun
  | [d1, d2] => { results := [.lit (.bool false)], args := [d1, d2] }
  | _ => none }
def FnCoreIdleWrongFalsely : Prop := fnCoreIdleRow.holds Try.pinned (OpenSpec.ofChange fnCoreIdleWrong)

/-- 'laws.FnStepCore': WHATEVER THE INPUT: true; the input reads as it did. -/
def fnStepCoreSpec : ChangeSpec := { name := "fnStepCore", fn := fun _ => fun
  | [d] => { results := [.lit (.bool true)], args := [d] }
  | _ => none }
def fnStepCoreRow : OpenClaim := { program := "ytiodpnhokjkjaaa", sum := "cb94c9c8dfe56cc18a6518be1415d547b7da94d1afa22065685335df845117b3", func := "loop.example/sepkernel/laws.FnStepCore", spec := "fnStepCore", unfollowed := true, recurses := true, apart := false }
def FnStepCoreSaid : Prop := fnStepCoreRow.holds Try.pinned (OpenSpec.ofChange fnStepCoreSpec)

/-- ITS FALSE NEIGHBOUR: 'it returns false'. Refute it at one input. -/
def fnStepCoreWrong : ChangeSpec := { name := "fnStepCore", fn := fun _ => fun
  | [d] => { results := [.lit (.bool false)], args := [d] }
  | _ => none }
def FnStepCoreWrongFalsely : Prop := fnStepCoreRow.holds Try.pinned (OpenSpec.ofChange fnStepCoreWrong)

/-- 'laws.FnExactStepCore': WHATEVER THE INPUT: true; the input reads as it did. -/
def fnExactStepCoreSpec : ChangeSpec := { name := "fnExactStepCore", fn := fun _ => fun
  | [d1, d2, d3, d4] => { results := [.lit (.bool true)], args := [d1, d2, d3, d4] }
  | _ => none }
def fnExactStepCoreRow : OpenClaim := { program := "ytiodpnhokjkjaaa", sum := "cb94c9c8dfe56cc18a6518be1415d547b7da94d1afa22065685335df845117b3", func := "loop.example/sepkernel/laws.FnExactStepCore", spec := "fnExactStepCore", unfollowed := true, recurses := true, apart := false }
def FnExactStepCoreSaid : Prop := fnExactStepCoreRow.holds Try.pinned (OpenSpec.ofChange fnExactStepCoreSpec)

/-- ITS FALSE NEIGHBOUR: 'it returns false'. Refute it at one input. -/
def fnExactStepCoreWrong : ChangeSpec := { name := "fnExactStepCore", fn := fun _ => fun
  | [d1, d2, d3, d4] => { results := [.lit (.bool false)], args := [d1, d2, d3, d4] }
  | _ => none }
def FnExactStepCoreWrongFalsely : Prop := fnExactStepCoreRow.holds Try.pinned (OpenSpec.ofChange fnExactStepCoreWrong)

/- THE SECOND FORM. 'bulk': how many values and letters a reading holds, each counted each time it is reached (what is shared counts as often as it is met; a slice's spare places count too). A statement '..UptoSaid' is the law's where the arguments, and the package variables that the reading takes, are together of bulk at most 1048576: NARROWER than '..Said'. Prove '..Said' where nothing that the law and all that it calls make is longer than what came in: it says more and counts as full. Else prove '..UptoSaid'. A law counts once. -/
mutual
def uptoBulk {H : Type} : DataW H → Nat
  | .lit (.string bytes) => bytes.length + 1
  | .lit _ => 1
  | .nil => 1
  | .ptr d => uptoBulk d + 1
  | .slice elems spare => uptoBulkAll elems + uptoBulkAll spare + 1
  | .agg parts => uptoBulkAll parts + 1
  | .iface _ d => uptoBulk d + 1
  | .map entries => uptoBulkEntries entries + 1
  | .held _ => 1
def uptoBulkAll {H : Type} : List (DataW H) → Nat
  | [] => 0
  | d :: r => uptoBulk d + uptoBulkAll r
def uptoBulkEntries {H : Type} : List (Lit × DataW H) → Nat
  | [] => 0
  | x :: r => uptoBulkEntry x + uptoBulkEntries r
def uptoBulkEntry {H : Type} : Lit × DataW H → Nat
  | (.string bytes, d) => bytes.length + uptoBulk d + 1
  | (_, d) => uptoBulk d + 1
 end
def uptoSmall : (H : Type) → List (DataW H) → Bool := fun _ ds => decide (uptoBulkAll ds ≤ 1048576)
def OpenSpec.upto (s : _root_.Go.ChangeSpec) : _root_.Go.OpenSpec := { _root_.Go.OpenSpec.ofChange s with cond := some uptoSmall }

/-- 'laws.FnFlowsMore', WHERE WHAT IT READS IS OF BULK AT MOST 1048576: true; the input reads as it did. -/
def fnFlowsMoreUptoRow : OpenClaim := { program := "ytiodpnhokjkjaaa", sum := "cb94c9c8dfe56cc18a6518be1415d547b7da94d1afa22065685335df845117b3", func := "loop.example/sepkernel/laws.FnFlowsMore", spec := "fnFlowsMore", unfollowed := true, recurses := true, apart := false, narrowed := true }
def FnFlowsMoreUptoSaid : Prop := fnFlowsMoreUptoRow.holds Try.pinned (OpenSpec.upto fnFlowsMoreSpec)

/-- 'laws.FnRunCore', WHERE WHAT IT READS IS OF BULK AT MOST 1048576: true; the input reads as it did. -/
def fnRunCoreUptoRow : OpenClaim := { program := "ytiodpnhokjkjaaa", sum := "cb94c9c8dfe56cc18a6518be1415d547b7da94d1afa22065685335df845117b3", func := "loop.example/sepkernel/laws.FnRunCore", spec := "fnRunCore", unfollowed := true, recurses := true, apart := false, narrowed := true }
def FnRunCoreUptoSaid : Prop := fnRunCoreUptoRow.holds Try.pinned (OpenSpec.upto fnRunCoreSpec)

/-- 'laws.FnFlowsTo', WHERE WHAT IT READS IS OF BULK AT MOST 1048576: true; the input reads as it did. -/
def fnFlowsToUptoRow : OpenClaim := { program := "ytiodpnhokjkjaaa", sum := "cb94c9c8dfe56cc18a6518be1415d547b7da94d1afa22065685335df845117b3", func := "loop.example/sepkernel/laws.FnFlowsTo", spec := "fnFlowsTo", unfollowed := true, recurses := true, apart := false, narrowed := true }
def FnFlowsToUptoSaid : Prop := fnFlowsToUptoRow.holds Try.pinned (OpenSpec.upto fnFlowsToSpec)

/-- 'laws.FnExactRunCore', WHERE WHAT IT READS IS OF BULK AT MOST 1048576: true; the input reads as it did. -/
def fnExactRunCoreUptoRow : OpenClaim := { program := "ytiodpnhokjkjaaa", sum := "cb94c9c8dfe56cc18a6518be1415d547b7da94d1afa22065685335df845117b3", func := "loop.example/sepkernel/laws.FnExactRunCore", spec := "fnExactRunCore", unfollowed := true, recurses := true, apart := false, narrowed := true }
def FnExactRunCoreUptoSaid : Prop := fnExactRunCoreUptoRow.holds Try.pinned (OpenSpec.upto fnExactRunCoreSpec)

/-- 'laws.FnCoreValid', WHERE WHAT IT READS IS OF BULK AT MOST 1048576: true; the input reads as it did. -/
def fnCoreValidUptoRow : OpenClaim := { program := "ytiodpnhokjkjaaa", sum := "cb94c9c8dfe56cc18a6518be1415d547b7da94d1afa22065685335df845117b3", func := "loop.example/sepkernel/laws.FnCoreValid", spec := "fnCoreValid", unfollowed := true, recurses := true, apart := false, narrowed := true }
def FnCoreValidUptoSaid : Prop := fnCoreValidUptoRow.holds Try.pinned (OpenSpec.upto fnCoreValidSpec)

/-- 'laws.FnCoreCount', WHERE WHAT IT READS IS OF BULK AT MOST 1048576: true; the input reads as it did. -/
def fnCoreCountUptoRow : OpenClaim := { program := "ytiodpnhokjkjaaa", sum := "cb94c9c8dfe56cc18a6518be1415d547b7da94d1afa22065685335df845117b3", func := "loop.example/sepkernel/laws.FnCoreCount", spec := "fnCoreCount", unfollowed := true, recurses := true, apart := false, narrowed := true }
def FnCoreCountUptoSaid : Prop := fnCoreCountUptoRow.holds Try.pinned (OpenSpec.upto fnCoreCountSpec)

/-- 'laws.FnSetupValid', WHERE WHAT IT READS IS OF BULK AT MOST 1048576: true; the input reads as it did. -/
def fnSetupValidUptoRow : OpenClaim := { program := "ytiodpnhokjkjaaa", sum := "cb94c9c8dfe56cc18a6518be1415d547b7da94d1afa22065685335df845117b3", func := "loop.example/sepkernel/laws.FnSetupValid", spec := "fnSetupValid", unfollowed := true, recurses := true, apart := false, narrowed := true }
def FnSetupValidUptoSaid : Prop := fnSetupValidUptoRow.holds Try.pinned (OpenSpec.upto fnSetupValidSpec)

/-- 'laws.FnCoreIdle', WHERE WHAT IT READS IS OF BULK AT MOST 1048576: true; the input reads as it did. -/
def fnCoreIdleUptoRow : OpenClaim := { program := "ytiodpnhokjkjaaa", sum := "cb94c9c8dfe56cc18a6518be1415d547b7da94d1afa22065685335df845117b3", func := "loop.example/sepkernel/laws.FnCoreIdle", spec := "fnCoreIdle", unfollowed := true, recurses := true, apart := false, narrowed := true }
def FnCoreIdleUptoSaid : Prop := fnCoreIdleUptoRow.holds Try.pinned (OpenSpec.upto fnCoreIdleSpec)

/-- 'laws.FnStepCore', WHERE WHAT IT READS IS OF BULK AT MOST 1048576: true; the input reads as it did. -/
def fnStepCoreUptoRow : OpenClaim := { program := "ytiodpnhokjkjaaa", sum := "cb94c9c8dfe56cc18a6518be1415d547b7da94d1afa22065685335df845117b3", func := "loop.example/sepkernel/laws.FnStepCore", spec := "fnStepCore", unfollowed := true, recurses := true, apart := false, narrowed := true }
def FnStepCoreUptoSaid : Prop := fnStepCoreUptoRow.holds Try.pinned (OpenSpec.upto fnStepCoreSpec)

/-- 'laws.FnExactStepCore', WHERE WHAT IT READS IS OF BULK AT MOST 1048576: true; the input reads as it did. -/
def fnExactStepCoreUptoRow : OpenClaim := { program := "ytiodpnhokjkjaaa", sum := "cb94c9c8dfe56cc18a6518be1415d547b7da94d1afa22065685335df845117b3", func := "loop.example/sepkernel/laws.FnExactStepCore", spec := "fnExactStepCore", unfollowed := true, recurses := true, apart := false, narrowed := true }
def FnExactStepCoreUptoSaid : Prop := fnExactStepCoreUptoRow.holds Try.pinned (OpenSpec.upto fnExactStepCoreSpec)

end Rows
end Go.Proofs.Ytiodpnhokjkjaaa
