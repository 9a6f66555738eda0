/-
  DERIVED. GIVEN WITH THE SEED: THE CARDS: each row of YtghjhdbmkilakaaGreatDoorRows.lean that lists a variable, with what it lists TIED to the program's text (the seventh form; the later family's looks); each row that meets fmt, with fmt's text TOLD by the authors' own Lean function (tested against real Go, not proved from fmt's source: count such statements apart). THE CARD IS WHAT COUNTS. Prove the row's statement (the work); the ties are given (YtghjhdbmkilakaaGreatDoorTie.lean); close each card by the builder's one call (the guide's Derived/Test/ToyasCard.lean, 'card_holds'). Laid BY PROGRAM, IN A SANDBOX (cutbox-door.mjs). By AI agents, Wed Nov 11 2026. No macro, syntax, notation, axiom, sorry.
-/
import Derived.Test.YtghjhdbmkilakaaGreatDoorRows
import GoSem.ClaimSeven
namespace Go.Proofs.YtghjhdbmkilakaaGreatDoor
namespace Rows

/-- THE TIED CARD OF 'backflushlaw47.FramesPackSpec'. -/
def framesPackSpecCard : Claim7 := { stood := { row := framesPackSpecRow, standIns := [], harness := (true, "048e71966a76a23be661b7c2e4780f35d9d2bb3225b615a639d5c2774abe09dc"), looks := false }, kinds := [], alts := [], laidByText := true, laidKinds := [.data], laidTests := true, laidLooks := .later }
def FramesPackSpecCardSaid : Prop := Claim7.holds Tryz.pinned (.plain (OpenSpec.ofChange framesPackSpecSpec)) framesPackSpecCard

/-- THE SECOND FORM's CARD OF 'backflushlaw47.FramesPackSpec'. -/
def framesPackSpecUptoCard : Claim7 := { stood := { row := framesPackSpecUptoRow, standIns := [], harness := (true, "048e71966a76a23be661b7c2e4780f35d9d2bb3225b615a639d5c2774abe09dc"), looks := false }, kinds := [], alts := [], laidByText := true, laidKinds := [.data], laidTests := true, laidLooks := .later }
def FramesPackSpecUptoCardSaid : Prop := Claim7.holds Tryz.pinned (.plain (OpenSpec.upto framesPackSpecSpec)) framesPackSpecUptoCard
end Rows
end Go.Proofs.YtghjhdbmkilakaaGreatDoor
