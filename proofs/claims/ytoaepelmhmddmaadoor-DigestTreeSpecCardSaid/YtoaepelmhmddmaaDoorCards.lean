/-
  DERIVED. GIVEN WITH THE SEED: THE CARDS: each row of YtoaepelmhmddmaaDoorRows.lean that lists a variable, with what it lists TIED to the program's text (the seventh form; the later family's looks); each row that meets fmt, with fmt's text TOLD by the authors' own Lean function (tested against real Go, not proved from fmt's source: count such statements apart). THE CARD IS WHAT COUNTS. Prove the row's statement (the work); the ties are given (YtoaepelmhmddmaaDoorTie.lean); close each card by the builder's one call (the guide's Derived/Test/ToyasCard.lean, 'card_holds'). Laid BY PROGRAM, IN A SANDBOX (cutbox-door.mjs). By AI agents, Wed Nov 11 2026. No macro, syntax, notation, axiom, sorry.
-/
import Derived.Test.YtoaepelmhmddmaaDoorRows
import GoSem.ClaimSeven
namespace Go.Proofs.YtoaepelmhmddmaaDoor
namespace Rows

/-- THE TIED CARD OF 'backflushlaw02.DigestSumSpec'. -/
def digestSumSpecCard : Claim7 := { stood := { row := digestSumSpecRow, standIns := [], harness := (true, "ff7c1e4659fa597f8461c47789a63ea389200e912630fcc395c4a9d027cb7758"), looks := false }, kinds := [], alts := [], laidByText := true, laidKinds := [.data], laidTests := true, laidLooks := .later }
def DigestSumSpecCardSaid : Prop := Claim7.holds Tryd.pinned (.plain (OpenSpec.ofChange digestSumSpecSpec)) digestSumSpecCard

/-- THE TIED CARD OF 'backflushlaw02.DigestTreeSpec'. -/
def digestTreeSpecCard : Claim7 := { stood := { row := digestTreeSpecRow, standIns := [], harness := (true, "ff7c1e4659fa597f8461c47789a63ea389200e912630fcc395c4a9d027cb7758"), looks := false }, kinds := [], alts := [], laidByText := true, laidKinds := [.data], laidTests := true, laidLooks := .later }
def DigestTreeSpecCardSaid : Prop := Claim7.holds Tryd.pinned (.plain (OpenSpec.ofChange digestTreeSpecSpec)) digestTreeSpecCard

/-- THE TIED CARD OF 'backflushlaw02.DigestTags'. -/
def digestTagsCard : Claim7 := { stood := { row := digestTagsRow, standIns := [], harness := (true, "ff7c1e4659fa597f8461c47789a63ea389200e912630fcc395c4a9d027cb7758"), looks := false }, kinds := [], alts := [], laidByText := true, laidKinds := [.data], laidTests := true, laidLooks := .later }
def DigestTagsCardSaid : Prop := Claim7.holds Tryd.pinned (.plain (OpenSpec.ofChange digestTagsSpec)) digestTagsCard

/-- THE TIED CARD OF 'backflushlaw02.DigestClimbs'. -/
def digestClimbsCard : Claim7 := { stood := { row := digestClimbsRow, standIns := [], harness := (true, "ff7c1e4659fa597f8461c47789a63ea389200e912630fcc395c4a9d027cb7758"), looks := false }, kinds := [], alts := [], laidByText := true, laidKinds := [.data], laidTests := true, laidLooks := .later }
def DigestClimbsCardSaid : Prop := Claim7.holds Tryd.pinned (.plain (OpenSpec.ofChange digestClimbsSpec)) digestClimbsCard

/-- THE TIED CARD OF 'backflushlaw02.DigestHalves'. -/
def digestHalvesCard : Claim7 := { stood := { row := digestHalvesRow, standIns := [], harness := (true, "ff7c1e4659fa597f8461c47789a63ea389200e912630fcc395c4a9d027cb7758"), looks := false }, kinds := [], alts := [], laidByText := true, laidKinds := [.data], laidTests := true, laidLooks := .later }
def DigestHalvesCardSaid : Prop := Claim7.holds Tryd.pinned (.plain (OpenSpec.ofChange digestHalvesSpec)) digestHalvesCard

/-- THE TIED CARD OF 'backflushlaw02.DigestNext'. -/
def digestNextCard : Claim7 := { stood := { row := digestNextRow, standIns := [], harness := (true, "ff7c1e4659fa597f8461c47789a63ea389200e912630fcc395c4a9d027cb7758"), looks := false }, kinds := [], alts := [], laidByText := true, laidKinds := [.data], laidTests := true, laidLooks := .later }
def DigestNextCardSaid : Prop := Claim7.holds Tryd.pinned (.plain (OpenSpec.ofChange digestNextSpec)) digestNextCard

/-- THE TIED CARD OF 'backflushlaw02.DigestPlaces'. -/
def digestPlacesCard : Claim7 := { stood := { row := digestPlacesRow, standIns := [], harness := (true, "ff7c1e4659fa597f8461c47789a63ea389200e912630fcc395c4a9d027cb7758"), looks := false }, kinds := [], alts := [], laidByText := true, laidKinds := [.data], laidTests := true, laidLooks := .later }
def DigestPlacesCardSaid : Prop := Claim7.holds Tryd.pinned (.plain (OpenSpec.ofChange digestPlacesSpec)) digestPlacesCard

/-- THE TIED CARD OF 'backflushlaw02.DigestChains'. -/
def digestChainsCard : Claim7 := { stood := { row := digestChainsRow, standIns := [], harness := (true, "ff7c1e4659fa597f8461c47789a63ea389200e912630fcc395c4a9d027cb7758"), looks := false }, kinds := [], alts := [], laidByText := true, laidKinds := [.data], laidTests := true, laidLooks := .later }
def DigestChainsCardSaid : Prop := Claim7.holds Tryd.pinned (.plain (OpenSpec.ofChange digestChainsSpec)) digestChainsCard

/-- THE SECOND FORM's CARD OF 'backflushlaw02.DigestSumSpec'. -/
def digestSumSpecUptoCard : Claim7 := { stood := { row := digestSumSpecUptoRow, standIns := [], harness := (true, "ff7c1e4659fa597f8461c47789a63ea389200e912630fcc395c4a9d027cb7758"), looks := false }, kinds := [], alts := [], laidByText := true, laidKinds := [.data], laidTests := true, laidLooks := .later }
def DigestSumSpecUptoCardSaid : Prop := Claim7.holds Tryd.pinned (.plain (OpenSpec.upto digestSumSpecSpec)) digestSumSpecUptoCard

/-- THE SECOND FORM's CARD OF 'backflushlaw02.DigestTreeSpec'. -/
def digestTreeSpecUptoCard : Claim7 := { stood := { row := digestTreeSpecUptoRow, standIns := [], harness := (true, "ff7c1e4659fa597f8461c47789a63ea389200e912630fcc395c4a9d027cb7758"), looks := false }, kinds := [], alts := [], laidByText := true, laidKinds := [.data], laidTests := true, laidLooks := .later }
def DigestTreeSpecUptoCardSaid : Prop := Claim7.holds Tryd.pinned (.plain (OpenSpec.upto digestTreeSpecSpec)) digestTreeSpecUptoCard

/-- THE SECOND FORM's CARD OF 'backflushlaw02.DigestTags'. -/
def digestTagsUptoCard : Claim7 := { stood := { row := digestTagsUptoRow, standIns := [], harness := (true, "ff7c1e4659fa597f8461c47789a63ea389200e912630fcc395c4a9d027cb7758"), looks := false }, kinds := [], alts := [], laidByText := true, laidKinds := [.data], laidTests := true, laidLooks := .later }
def DigestTagsUptoCardSaid : Prop := Claim7.holds Tryd.pinned (.plain (OpenSpec.upto digestTagsSpec)) digestTagsUptoCard

/-- THE SECOND FORM's CARD OF 'backflushlaw02.DigestClimbs'. -/
def digestClimbsUptoCard : Claim7 := { stood := { row := digestClimbsUptoRow, standIns := [], harness := (true, "ff7c1e4659fa597f8461c47789a63ea389200e912630fcc395c4a9d027cb7758"), looks := false }, kinds := [], alts := [], laidByText := true, laidKinds := [.data], laidTests := true, laidLooks := .later }
def DigestClimbsUptoCardSaid : Prop := Claim7.holds Tryd.pinned (.plain (OpenSpec.upto digestClimbsSpec)) digestClimbsUptoCard

/-- THE SECOND FORM's CARD OF 'backflushlaw02.DigestHalves'. -/
def digestHalvesUptoCard : Claim7 := { stood := { row := digestHalvesUptoRow, standIns := [], harness := (true, "ff7c1e4659fa597f8461c47789a63ea389200e912630fcc395c4a9d027cb7758"), looks := false }, kinds := [], alts := [], laidByText := true, laidKinds := [.data], laidTests := true, laidLooks := .later }
def DigestHalvesUptoCardSaid : Prop := Claim7.holds Tryd.pinned (.plain (OpenSpec.upto digestHalvesSpec)) digestHalvesUptoCard

/-- THE SECOND FORM's CARD OF 'backflushlaw02.DigestNext'. -/
def digestNextUptoCard : Claim7 := { stood := { row := digestNextUptoRow, standIns := [], harness := (true, "ff7c1e4659fa597f8461c47789a63ea389200e912630fcc395c4a9d027cb7758"), looks := false }, kinds := [], alts := [], laidByText := true, laidKinds := [.data], laidTests := true, laidLooks := .later }
def DigestNextUptoCardSaid : Prop := Claim7.holds Tryd.pinned (.plain (OpenSpec.upto digestNextSpec)) digestNextUptoCard

/-- THE SECOND FORM's CARD OF 'backflushlaw02.DigestPlaces'. -/
def digestPlacesUptoCard : Claim7 := { stood := { row := digestPlacesUptoRow, standIns := [], harness := (true, "ff7c1e4659fa597f8461c47789a63ea389200e912630fcc395c4a9d027cb7758"), looks := false }, kinds := [], alts := [], laidByText := true, laidKinds := [.data], laidTests := true, laidLooks := .later }
def DigestPlacesUptoCardSaid : Prop := Claim7.holds Tryd.pinned (.plain (OpenSpec.upto digestPlacesSpec)) digestPlacesUptoCard

/-- THE SECOND FORM's CARD OF 'backflushlaw02.DigestChains'. -/
def digestChainsUptoCard : Claim7 := { stood := { row := digestChainsUptoRow, standIns := [], harness := (true, "ff7c1e4659fa597f8461c47789a63ea389200e912630fcc395c4a9d027cb7758"), looks := false }, kinds := [], alts := [], laidByText := true, laidKinds := [.data], laidTests := true, laidLooks := .later }
def DigestChainsUptoCardSaid : Prop := Claim7.holds Tryd.pinned (.plain (OpenSpec.upto digestChainsSpec)) digestChainsUptoCard
end Rows
end Go.Proofs.YtoaepelmhmddmaaDoor
