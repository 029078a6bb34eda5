/-
  DERIVED. GIVEN WITH THE SEED: THE CARDS: each row of YteeienbhmkiloaaGreatDoorRows.lean that lists a variable, with what it lists TIED to the program's text (the seventh form; the later family's looks); each row that meets fmt, with fmt's text TOLD by the authors' own Lean function (tested against real Go, not proved from fmt's source: count such statements apart). THE CARD IS WHAT COUNTS. Prove the row's statement (the work); the ties are given (YteeienbhmkiloaaGreatDoorTie.lean); close each card by the builder's one call (the guide's Derived/Test/ToyasCard.lean, 'card_holds'). Laid BY PROGRAM, IN A SANDBOX (cutbox-door.mjs). By AI agents, Wed Nov 11 2026. No macro, syntax, notation, axiom, sorry.
-/
import Derived.Test.YteeienbhmkiloaaGreatDoorRows
import GoSem.ClaimSeven
namespace Go.Proofs.YteeienbhmkiloaaGreatDoor
namespace Rows

/-- THE TIED CARD OF 'linotypelaw41.MirrorGroups'. -/
def mirrorGroupsCard : Claim7 := { stood := { row := mirrorGroupsRow, standIns := [], harness := (true, "394a2bd5149d569946744d076b35ca46444de8f8baf37da83b88fc5db9dd6890"), looks := false }, kinds := [], alts := [], laidByText := true, laidKinds := [.sentinel, .sentinel], laidTests := true, laidLooks := .later }
def MirrorGroupsCardSaid : Prop := Claim7.holds Tryz.pinned (.plain (OpenSpec.ofChange mirrorGroupsSpec)) mirrorGroupsCard

/-- THE SECOND FORM's CARD OF 'linotypelaw41.MirrorGroups'. -/
def mirrorGroupsUptoCard : Claim7 := { stood := { row := mirrorGroupsUptoRow, standIns := [], harness := (true, "394a2bd5149d569946744d076b35ca46444de8f8baf37da83b88fc5db9dd6890"), looks := false }, kinds := [], alts := [], laidByText := true, laidKinds := [.sentinel, .sentinel], laidTests := true, laidLooks := .later }
def MirrorGroupsUptoCardSaid : Prop := Claim7.holds Tryz.pinned (.plain (OpenSpec.upto mirrorGroupsSpec)) mirrorGroupsUptoCard
end Rows
end Go.Proofs.YteeienbhmkiloaaGreatDoor
