/-
  No cell of these rows narrows 'for every input' (looked for: loops, veiled, ifaces, maps, wideKeys, modest, calm, conditions, laid).
  DERIVED. THE GIVEN ROWS OF THIS SEAT. 9 by the template 'for every input the law returns true; each argument reads behind the call as it read before'; 0 by the template 'total and deterministic' (their statements: YtaeimnfdedcgkaaTotals.lean).
  GIVEN WITH THE SEED: the statements are not yours to turn. If you find one false, say at which input.
  Laid BY PROGRAM, IN A SANDBOX (cutbox-rows.mjs): the forced cells as the released guide's own fill.sh prints them over the translation 65ce0454b7aaa22e… (all of the seat's roots in one cut). By AI agents, Wed Nov 11 2026. No macro, syntax, notation, axiom, sorry.
-/
import Derived.Test.YtaeimnfdedcgkaaChecked
import GoSem.Claim
import GoSem.ClaimJoined
import GoSem.ClaimMapViews
import Derived.JoinedTies
import Derived.KernelRfl
namespace Go.Proofs.Ytaeimnfdedcgkaa
/- THE CELL 'sum', in the pinned program and in every row, IS THE sha256 OF THE DUMP (.gsa) THAT YtaeimnfdedcgkaaProg.lean LOADS. Nothing in Lean hashes anything: it is a label: what it is worth is what the hold of that sum in a sandbox is worth. -/
noncomputable def Try.pinned : Pinned := { name := "ytaeimnfdedcgkaa", sum := "65ce0454b7aaa22ef0ae826c1489f7a6d72add03d6dc161b0569a3fe7ae4cb7b", checked := Try.checked }
namespace Rows
def none {H : Type} : Left H := { results := [], args := [] }

/-- 'laws.FnTransferAllowed': WHATEVER THE INPUT: true; the input reads as it did. -/
def fnTransferAllowedSpec : ChangeSpec := { name := "fnTransferAllowed", fn := fun _ => fun
  | [d] => { results := [.lit (.bool true)], args := [d] }
  | _ => none }
def fnTransferAllowedRow : OpenClaim := { program := "ytaeimnfdedcgkaa", sum := "65ce0454b7aaa22ef0ae826c1489f7a6d72add03d6dc161b0569a3fe7ae4cb7b", func := "loop.example/sepkernel/laws.FnTransferAllowed", spec := "fnTransferAllowed", unfollowed := true, recurses := true, apart := false }
def FnTransferAllowedSaid : Prop := fnTransferAllowedRow.holds Try.pinned (OpenSpec.ofChange fnTransferAllowedSpec)

/-- ITS FALSE NEIGHBOUR: 'it returns false'. Refute it at one input. -/
def fnTransferAllowedWrong : ChangeSpec := { name := "fnTransferAllowed", fn := fun _ => fun
  | [d] => { results := [.lit (.bool false)], args := [d] }
  | _ => none }
def FnTransferAllowedWrongFalsely : Prop := fnTransferAllowedRow.holds Try.pinned (OpenSpec.ofChange fnTransferAllowedWrong)

/-- 'laws.FnPartReach': WHATEVER THE INPUT: true; the input reads as it did. -/
def fnPartReachSpec : ChangeSpec := { name := "fnPartReach", fn := fun _ => fun
  | [d] => { results := [.lit (.bool true)], args := [d] }
  | _ => none }
def fnPartReachRow : OpenClaim := { program := "ytaeimnfdedcgkaa", sum := "65ce0454b7aaa22ef0ae826c1489f7a6d72add03d6dc161b0569a3fe7ae4cb7b", func := "loop.example/sepkernel/laws.FnPartReach", spec := "fnPartReach", unfollowed := true, recurses := true, apart := false }
def FnPartReachSaid : Prop := fnPartReachRow.holds Try.pinned (OpenSpec.ofChange fnPartReachSpec)

/-- ITS FALSE NEIGHBOUR: 'it returns false'. Refute it at one input. -/
def fnPartReachWrong : ChangeSpec := { name := "fnPartReach", fn := fun _ => fun
  | [d] => { results := [.lit (.bool false)], args := [d] }
  | _ => none }
def FnPartReachWrongFalsely : Prop := fnPartReachRow.holds Try.pinned (OpenSpec.ofChange fnPartReachWrong)

/-- 'laws.FnSharedPlaces': WHATEVER THE INPUT: true; the input reads as it did. -/
def fnSharedPlacesSpec : ChangeSpec := { name := "fnSharedPlaces", fn := fun _ => fun
  | [d] => { results := [.lit (.bool true)], args := [d] }
  | _ => none }
def fnSharedPlacesRow : OpenClaim := { program := "ytaeimnfdedcgkaa", sum := "65ce0454b7aaa22ef0ae826c1489f7a6d72add03d6dc161b0569a3fe7ae4cb7b", func := "loop.example/sepkernel/laws.FnSharedPlaces", spec := "fnSharedPlaces", unfollowed := true, recurses := true, apart := false }
def FnSharedPlacesSaid : Prop := fnSharedPlacesRow.holds Try.pinned (OpenSpec.ofChange fnSharedPlacesSpec)

/-- ITS FALSE NEIGHBOUR: 'it returns false'. Refute it at one input. -/
def fnSharedPlacesWrong : ChangeSpec := { name := "fnSharedPlaces", fn := fun _ => fun
  | [d] => { results := [.lit (.bool false)], args := [d] }
  | _ => none }
def FnSharedPlacesWrongFalsely : Prop := fnSharedPlacesRow.holds Try.pinned (OpenSpec.ofChange fnSharedPlacesWrong)

/-- 'laws.FnExactSharedPlaces': WHATEVER THE INPUT: true; the input reads as it did. -/
def fnExactSharedPlacesSpec : ChangeSpec := { name := "fnExactSharedPlaces", fn := fun _ => fun
  | [d1, d2, d3] => { results := [.lit (.bool true)], args := [d1, d2, d3] }
  | _ => none }
def fnExactSharedPlacesRow : OpenClaim := { program := "ytaeimnfdedcgkaa", sum := "65ce0454b7aaa22ef0ae826c1489f7a6d72add03d6dc161b0569a3fe7ae4cb7b", func := "loop.example/sepkernel/laws.FnExactSharedPlaces", spec := "fnExactSharedPlaces", unfollowed := true, recurses := true, apart := false }
def FnExactSharedPlacesSaid : Prop := fnExactSharedPlacesRow.holds Try.pinned (OpenSpec.ofChange fnExactSharedPlacesSpec)

/-- ITS FALSE NEIGHBOUR: 'it returns false'. Refute it at one input. -/
def fnExactSharedPlacesWrong : ChangeSpec := { name := "fnExactSharedPlaces", fn := fun _ => fun
  | [d1, d2, d3] => { results := [.lit (.bool false)], args := [d1, d2, d3] }
  | _ => none }
def FnExactSharedPlacesWrongFalsely : Prop := fnExactSharedPlacesRow.holds Try.pinned (OpenSpec.ofChange fnExactSharedPlacesWrong)

/-- 'laws.FnExactPartReach': WHATEVER THE INPUT: true; the input reads as it did. -/
def fnExactPartReachSpec : ChangeSpec := { name := "fnExactPartReach", fn := fun _ => fun
  | [d1, d2] => { results := [.lit (.bool true)], args := [d1, d2] }
  | _ => none }
def fnExactPartReachRow : OpenClaim := { program := "ytaeimnfdedcgkaa", sum := "65ce0454b7aaa22ef0ae826c1489f7a6d72add03d6dc161b0569a3fe7ae4cb7b", func := "loop.example/sepkernel/laws.FnExactPartReach", spec := "fnExactPartReach", unfollowed := true, recurses := true, apart := false }
def FnExactPartReachSaid : Prop := fnExactPartReachRow.holds Try.pinned (OpenSpec.ofChange fnExactPartReachSpec)

/-- ITS FALSE NEIGHBOUR: 'it returns false'. Refute it at one input. -/
def fnExactPartReachWrong : ChangeSpec := { name := "fnExactPartReach", fn := fun _ => fun
  | [d1, d2] => { results := [.lit (.bool false)], args := [d1, d2] }
  | _ => none }
def FnExactPartReachWrongFalsely : Prop := fnExactPartReachRow.holds Try.pinned (OpenSpec.ofChange fnExactPartReachWrong)

/-- 'laws.FnTransferSingle': WHATEVER THE INPUT: true; the input reads as it did. -/
def fnTransferSingleSpec : ChangeSpec := { name := "fnTransferSingle", fn := fun _ => fun
  | [d] => { results := [.lit (.bool true)], args := [d] }
  | _ => none }
def fnTransferSingleRow : OpenClaim := { program := "ytaeimnfdedcgkaa", sum := "65ce0454b7aaa22ef0ae826c1489f7a6d72add03d6dc161b0569a3fe7ae4cb7b", func := "loop.example/sepkernel/laws.FnTransferSingle", spec := "fnTransferSingle", unfollowed := true, recurses := true, apart := false }
def FnTransferSingleSaid : Prop := fnTransferSingleRow.holds Try.pinned (OpenSpec.ofChange fnTransferSingleSpec)

/-- ITS FALSE NEIGHBOUR: 'it returns false'. Refute it at one input. -/
def fnTransferSingleWrong : ChangeSpec := { name := "fnTransferSingle", fn := fun _ => fun
  | [d] => { results := [.lit (.bool false)], args := [d] }
  | _ => none }
def FnTransferSingleWrongFalsely : Prop := fnTransferSingleRow.holds Try.pinned (OpenSpec.ofChange fnTransferSingleWrong)

/-- 'laws.FnPartsApart': WHATEVER THE INPUT: true; the input reads as it did. -/
def fnPartsApartSpec : ChangeSpec := { name := "fnPartsApart", fn := fun _ => fun
  | [d] => { results := [.lit (.bool true)], args := [d] }
  | _ => none }
def fnPartsApartRow : OpenClaim := { program := "ytaeimnfdedcgkaa", sum := "65ce0454b7aaa22ef0ae826c1489f7a6d72add03d6dc161b0569a3fe7ae4cb7b", func := "loop.example/sepkernel/laws.FnPartsApart", spec := "fnPartsApart", unfollowed := true, recurses := true, apart := false }
def FnPartsApartSaid : Prop := fnPartsApartRow.holds Try.pinned (OpenSpec.ofChange fnPartsApartSpec)

/-- ITS FALSE NEIGHBOUR: 'it returns false'. Refute it at one input. -/
def fnPartsApartWrong : ChangeSpec := { name := "fnPartsApart", fn := fun _ => fun
  | [d] => { results := [.lit (.bool false)], args := [d] }
  | _ => none }
def FnPartsApartWrongFalsely : Prop := fnPartsApartRow.holds Try.pinned (OpenSpec.ofChange fnPartsApartWrong)

/-- 'laws.FnTransferMasters': WHATEVER THE INPUT: true; the input reads as it did. -/
def fnTransferMastersSpec : ChangeSpec := { name := "fnTransferMasters", fn := fun _ => fun
  | [d] => { results := [.lit (.bool true)], args := [d] }
  | _ => none }
def fnTransferMastersRow : OpenClaim := { program := "ytaeimnfdedcgkaa", sum := "65ce0454b7aaa22ef0ae826c1489f7a6d72add03d6dc161b0569a3fe7ae4cb7b", func := "loop.example/sepkernel/laws.FnTransferMasters", spec := "fnTransferMasters", unfollowed := true, recurses := true, apart := false }
def FnTransferMastersSaid : Prop := fnTransferMastersRow.holds Try.pinned (OpenSpec.ofChange fnTransferMastersSpec)

/-- ITS FALSE NEIGHBOUR: 'it returns false'. Refute it at one input. -/
def fnTransferMastersWrong : ChangeSpec := { name := "fnTransferMasters", fn := fun _ => fun
  | [d] => { results := [.lit (.bool false)], args := [d] }
  | _ => none }
def FnTransferMastersWrongFalsely : Prop := fnTransferMastersRow.holds Try.pinned (OpenSpec.ofChange fnTransferMastersWrong)

/-- 'laws.FnExactTransferMasters': WHATEVER THE INPUT: true; the input reads as it did. -/
def fnExactTransferMastersSpec : ChangeSpec := { name := "fnExactTransferMasters", fn := fun _ => fun
  | [d1, d2] => { results := [.lit (.bool true)], args := [d1, d2] }
  | _ => none }
def fnExactTransferMastersRow : OpenClaim := { program := "ytaeimnfdedcgkaa", sum := "65ce0454b7aaa22ef0ae826c1489f7a6d72add03d6dc161b0569a3fe7ae4cb7b", func := "loop.example/sepkernel/laws.FnExactTransferMasters", spec := "fnExactTransferMasters", unfollowed := true, recurses := true, apart := false }
def FnExactTransferMastersSaid : Prop := fnExactTransferMastersRow.holds Try.pinned (OpenSpec.ofChange fnExactTransferMastersSpec)

/-- ITS FALSE NEIGHBOUR: 'it returns false'. Refute it at one input. -/
def fnExactTransferMastersWrong : ChangeSpec := { name := "fnExactTransferMasters", fn := fun _ => fun
  | [d1, d2] => { results := [.lit (.bool false)], args := [d1, d2] }
  | _ => none }
def FnExactTransferMastersWrongFalsely : Prop := fnExactTransferMastersRow.holds Try.pinned (OpenSpec.ofChange fnExactTransferMastersWrong)

/- THE SECOND FORM. 'bulk': how many values and letters a reading holds, each counted each time it is reached (what is shared counts as often as it is met; a slice's spare places count too). A statement '..UptoSaid' is the law's where the arguments, and the package variables that the reading takes, are together of bulk at most 1048576: NARROWER than '..Said'. Prove '..Said' where nothing that the law and all that it calls make is longer than what came in: it says more and counts as full. Else prove '..UptoSaid'. A law counts once. -/
mutual
def uptoBulk {H : Type} : DataW H → Nat
  | .lit (.string bytes) => bytes.length + 1
  | .lit _ => 1
  | .nil => 1
  | .ptr d => uptoBulk d + 1
  | .slice elems spare => uptoBulkAll elems + uptoBulkAll spare + 1
  | .agg parts => uptoBulkAll parts + 1
  | .iface _ d => uptoBulk d + 1
  | .map entries => uptoBulkEntries entries + 1
  | .held _ => 1
def uptoBulkAll {H : Type} : List (DataW H) → Nat
  | [] => 0
  | d :: r => uptoBulk d + uptoBulkAll r
def uptoBulkEntries {H : Type} : List (Lit × DataW H) → Nat
  | [] => 0
  | x :: r => uptoBulkEntry x + uptoBulkEntries r
def uptoBulkEntry {H : Type} : Lit × DataW H → Nat
  | (.string bytes, d) => bytes.length + uptoBulk d + 1
  | (_, d) => uptoBulk d + 1
 end
def uptoSmall : (H : Type) → List (DataW H) → Bool := fun _ ds => decide (uptoBulkAll ds ≤ 1048576)
def OpenSpec.upto (s : _root_.Go.ChangeSpec) : _root_.Go.OpenSpec := { _root_.Go.OpenSpec.ofChange s with cond := some uptoSmall }

/-- 'laws.FnTransferAllowed', WHERE WHAT IT READS IS OF BULK AT MOST 1048576: true; the input reads as it did. -/
def fnTransferAllowedUptoRow : OpenClaim := { program := "ytaeimnfdedcgkaa", sum := "65ce0454b7aaa22ef0ae826c1489f7a6d72add03d6dc161b0569a3fe7ae4cb7b", func := "loop.example/sepkernel/laws.FnTransferAllowed", spec := "fnTransferAllowed", unfollowed := true, recurses := true, apart := false, narrowed := true }
def FnTransferAllowedUptoSaid : Prop := fnTransferAllowedUptoRow.holds Try.pinned (OpenSpec.upto fnTransferAllowedSpec)

/-- 'laws.FnPartReach', WHERE WHAT IT READS IS OF BULK AT MOST 1048576: true; the input reads as it did. -/
def fnPartReachUptoRow : OpenClaim := { program := "ytaeimnfdedcgkaa", sum := "65ce0454b7aaa22ef0ae826c1489f7a6d72add03d6dc161b0569a3fe7ae4cb7b", func := "loop.example/sepkernel/laws.FnPartReach", spec := "fnPartReach", unfollowed := true, recurses := true, apart := false, narrowed := true }
def FnPartReachUptoSaid : Prop := fnPartReachUptoRow.holds Try.pinned (OpenSpec.upto fnPartReachSpec)

/-- 'laws.FnSharedPlaces', WHERE WHAT IT READS IS OF BULK AT MOST 1048576: true; the input reads as it did. -/
def fnSharedPlacesUptoRow : OpenClaim := { program := "ytaeimnfdedcgkaa", sum := "65ce0454b7aaa22ef0ae826c1489f7a6d72add03d6dc161b0569a3fe7ae4cb7b", func := "loop.example/sepkernel/laws.FnSharedPlaces", spec := "fnSharedPlaces", unfollowed := true, recurses := true, apart := false, narrowed := true }
def FnSharedPlacesUptoSaid : Prop := fnSharedPlacesUptoRow.holds Try.pinned (OpenSpec.upto fnSharedPlacesSpec)

/-- 'laws.FnExactSharedPlaces', WHERE WHAT IT READS IS OF BULK AT MOST 1048576: true; the input reads as it did. -/
def fnExactSharedPlacesUptoRow : OpenClaim := { program := "ytaeimnfdedcgkaa", sum := "65ce0454b7aaa22ef0ae826c1489f7a6d72add03d6dc161b0569a3fe7ae4cb7b", func := "loop.example/sepkernel/laws.FnExactSharedPlaces", spec := "fnExactSharedPlaces", unfollowed := true, recurses := true, apart := false, narrowed := true }
def FnExactSharedPlacesUptoSaid : Prop := fnExactSharedPlacesUptoRow.holds Try.pinned (OpenSpec.upto fnExactSharedPlacesSpec)

/-- 'laws.FnExactPartReach', WHERE WHAT IT READS IS OF BULK AT MOST 1048576: true; the input reads as it did. -/
def fnExactPartReachUptoRow : OpenClaim := { program := "ytaeimnfdedcgkaa", sum := "65ce0454b7aaa22ef0ae826c1489f7a6d72add03d6dc161b0569a3fe7ae4cb7b", func := "loop.example/sepkernel/laws.FnExactPartReach", spec := "fnExactPartReach", unfollowed := true, recurses := true, apart := false, narrowed := true }
def FnExactPartReachUptoSaid : Prop := fnExactPartReachUptoRow.holds Try.pinned (OpenSpec.upto fnExactPartReachSpec)

/-- 'laws.FnTransferSingle', WHERE WHAT IT READS IS OF BULK AT MOST 1048576: true; the input reads as it did. -/
def fnTransferSingleUptoRow : OpenClaim := { program := "ytaeimnfdedcgkaa", sum := "65ce0454b7aaa22ef0ae826c1489f7a6d72add03d6dc161b0569a3fe7ae4cb7b", func := "loop.example/sepkernel/laws.FnTransferSingle", spec := "fnTransferSingle", unfollowed := true, recurses := true, apart := false, narrowed := true }
def FnTransferSingleUptoSaid : Prop := fnTransferSingleUptoRow.holds Try.pinned (OpenSpec.upto fnTransferSingleSpec)

/-- 'laws.FnPartsApart', WHERE WHAT IT READS IS OF BULK AT MOST 1048576: true; the input reads as it did. -/
def fnPartsApartUptoRow : OpenClaim := { program := "ytaeimnfdedcgkaa", sum := "65ce0454b7aaa22ef0ae826c1489f7a6d72add03d6dc161b0569a3fe7ae4cb7b", func := "loop.example/sepkernel/laws.FnPartsApart", spec := "fnPartsApart", unfollowed := true, recurses := true, apart := false, narrowed := true }
def FnPartsApartUptoSaid : Prop := fnPartsApartUptoRow.holds Try.pinned (OpenSpec.upto fnPartsApartSpec)

/-- 'laws.FnTransferMasters', WHERE WHAT IT READS IS OF BULK AT MOST 1048576: true; the input reads as it did. -/
def fnTransferMastersUptoRow : OpenClaim := { program := "ytaeimnfdedcgkaa", sum := "65ce0454b7aaa22ef0ae826c1489f7a6d72add03d6dc161b0569a3fe7ae4cb7b", func := "loop.example/sepkernel/laws.FnTransferMasters", spec := "fnTransferMasters", unfollowed := true, recurses := true, apart := false, narrowed := true }
def FnTransferMastersUptoSaid : Prop := fnTransferMastersUptoRow.holds Try.pinned (OpenSpec.upto fnTransferMastersSpec)

/-- 'laws.FnExactTransferMasters', WHERE WHAT IT READS IS OF BULK AT MOST 1048576: true; the input reads as it did. -/
def fnExactTransferMastersUptoRow : OpenClaim := { program := "ytaeimnfdedcgkaa", sum := "65ce0454b7aaa22ef0ae826c1489f7a6d72add03d6dc161b0569a3fe7ae4cb7b", func := "loop.example/sepkernel/laws.FnExactTransferMasters", spec := "fnExactTransferMasters", unfollowed := true, recurses := true, apart := false, narrowed := true }
def FnExactTransferMastersUptoSaid : Prop := fnExactTransferMastersUptoRow.holds Try.pinned (OpenSpec.upto fnExactTransferMastersSpec)

end Rows
end Go.Proofs.Ytaeimnfdedcgkaa
