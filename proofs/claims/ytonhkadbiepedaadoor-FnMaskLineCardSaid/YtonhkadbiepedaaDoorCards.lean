/-
  DERIVED. GIVEN WITH THE SEED: THE CARDS: each row of YtonhkadbiepedaaDoorRows.lean that lists a variable, with what it lists TIED to the program's text (the seventh form; the later family's looks); each row that meets fmt, with fmt's text TOLD by the authors' own Lean function (tested against real Go, not proved from fmt's source: count such statements apart). THE CARD IS WHAT COUNTS. Prove the row's statement (the work); the ties are given (YtonhkadbiepedaaDoorTie.lean); close each card by the builder's one call (the guide's Derived/Test/ToyasCard.lean, 'card_holds'). Laid BY PROGRAM, IN A SANDBOX (cutbox-door.mjs). By AI agents, Wed Nov 11 2026. No macro, syntax, notation, axiom, sorry.
-/
import Derived.Test.YtonhkadbiepedaaDoorRows
import GoSem.ClaimSeven
namespace Go.Proofs.YtonhkadbiepedaaDoor
namespace Rows

/-- THE TIED CARD OF 'laws.FnMaskLine'. -/
def fnMaskLineCard : Claim7 := { stood := { row := fnMaskLineRow, standIns := [], harness := (true, "dfebc289d5f19d751909769d82719c9978be6cd2ff2b80f742ba389ca444e113"), looks := false }, kinds := [], alts := [], laidByText := true, laidKinds := [.data, .data], laidTests := true, laidLooks := .later }
def FnMaskLineCardSaid : Prop := Claim7.holds Tryd.pinned (.plain (OpenSpec.ofChange fnMaskLineSpec)) fnMaskLineCard

/-- THE TIED CARD OF 'laws.FnLinesOrder'. -/
def fnLinesOrderCard : Claim7 := { stood := { row := fnLinesOrderRow, standIns := [], harness := (true, "dfebc289d5f19d751909769d82719c9978be6cd2ff2b80f742ba389ca444e113"), looks := false }, kinds := [], alts := [], laidByText := true, laidKinds := [.data, .data], laidTests := true, laidLooks := .later }
def FnLinesOrderCardSaid : Prop := Claim7.holds Tryd.pinned (.plain (OpenSpec.ofChange fnLinesOrderSpec)) fnLinesOrderCard

/-- THE TIED CARD OF 'laws.FnServeAll'. -/
def fnServeAllCard : Claim7 := { stood := { row := fnServeAllRow, standIns := [], harness := (true, "dfebc289d5f19d751909769d82719c9978be6cd2ff2b80f742ba389ca444e113"), looks := false }, kinds := [], alts := [], laidByText := true, laidKinds := [.data, .data], laidTests := true, laidLooks := .later }
def FnServeAllCardSaid : Prop := Claim7.holds Tryd.pinned (.plain (OpenSpec.ofChange fnServeAllSpec)) fnServeAllCard

/-- THE SECOND FORM's CARD OF 'laws.FnMaskLine'. -/
def fnMaskLineUptoCard : Claim7 := { stood := { row := fnMaskLineUptoRow, standIns := [], harness := (true, "dfebc289d5f19d751909769d82719c9978be6cd2ff2b80f742ba389ca444e113"), looks := false }, kinds := [], alts := [], laidByText := true, laidKinds := [.data, .data], laidTests := true, laidLooks := .later }
def FnMaskLineUptoCardSaid : Prop := Claim7.holds Tryd.pinned (.plain (OpenSpec.upto fnMaskLineSpec)) fnMaskLineUptoCard

/-- THE SECOND FORM's CARD OF 'laws.FnLinesOrder'. -/
def fnLinesOrderUptoCard : Claim7 := { stood := { row := fnLinesOrderUptoRow, standIns := [], harness := (true, "dfebc289d5f19d751909769d82719c9978be6cd2ff2b80f742ba389ca444e113"), looks := false }, kinds := [], alts := [], laidByText := true, laidKinds := [.data, .data], laidTests := true, laidLooks := .later }
def FnLinesOrderUptoCardSaid : Prop := Claim7.holds Tryd.pinned (.plain (OpenSpec.upto fnLinesOrderSpec)) fnLinesOrderUptoCard

/-- THE SECOND FORM's CARD OF 'laws.FnServeAll'. -/
def fnServeAllUptoCard : Claim7 := { stood := { row := fnServeAllUptoRow, standIns := [], harness := (true, "dfebc289d5f19d751909769d82719c9978be6cd2ff2b80f742ba389ca444e113"), looks := false }, kinds := [], alts := [], laidByText := true, laidKinds := [.data, .data], laidTests := true, laidLooks := .later }
def FnServeAllUptoCardSaid : Prop := Claim7.holds Tryd.pinned (.plain (OpenSpec.upto fnServeAllSpec)) fnServeAllUptoCard
end Rows
end Go.Proofs.YtonhkadbiepedaaDoor
