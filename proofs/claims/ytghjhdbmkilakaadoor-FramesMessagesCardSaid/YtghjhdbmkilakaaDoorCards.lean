/-
  DERIVED. GIVEN WITH THE SEED: THE CARDS: each row of YtghjhdbmkilakaaDoorRows.lean that lists a variable, with what it lists TIED to the program's text (the seventh form; the later family's looks); each row that meets fmt, with fmt's text TOLD by the authors' own Lean function (tested against real Go, not proved from fmt's source: count such statements apart). THE CARD IS WHAT COUNTS. Prove the row's statement (the work); the ties are given (YtghjhdbmkilakaaDoorTie.lean); close each card by the builder's one call (the guide's Derived/Test/ToyasCard.lean, 'card_holds'). Laid BY PROGRAM, IN A SANDBOX (cutbox-door.mjs). By AI agents, Wed Nov 11 2026. No macro, syntax, notation, axiom, sorry.
-/
import Derived.Test.YtghjhdbmkilakaaDoorRows
import GoSem.ClaimSeven
namespace Go.Proofs.YtghjhdbmkilakaaDoor
namespace Rows

/-- THE TIED CARD OF 'backflushlaw47.FramesSpec'. -/
def framesSpecCard : Claim7 := { stood := { row := framesSpecRow, standIns := [], harness := (true, "4161c33d97d55089ddc483628993c719193942c593259a944b93779352f85f49"), looks := false }, kinds := [], alts := [], laidByText := true, laidKinds := [.data], laidTests := true, laidLooks := .later }
def FramesSpecCardSaid : Prop := Claim7.holds Tryd.pinned (.plain (OpenSpec.ofChange framesSpecSpec)) framesSpecCard

/-- THE TIED CARD OF 'backflushlaw47.FramesBack'. -/
def framesBackCard : Claim7 := { stood := { row := framesBackRow, standIns := [], harness := (true, "4161c33d97d55089ddc483628993c719193942c593259a944b93779352f85f49"), looks := false }, kinds := [], alts := [], laidByText := true, laidKinds := [.data], laidTests := true, laidLooks := .later }
def FramesBackCardSaid : Prop := Claim7.holds Tryd.pinned (.plain (OpenSpec.ofChange framesBackSpec)) framesBackCard

/-- THE TIED CARD OF 'backflushlaw47.FramesWhole'. -/
def framesWholeCard : Claim7 := { stood := { row := framesWholeRow, standIns := [], harness := (true, "4161c33d97d55089ddc483628993c719193942c593259a944b93779352f85f49"), looks := false }, kinds := [], alts := [], laidByText := true, laidKinds := [.data], laidTests := true, laidLooks := .later }
def FramesWholeCardSaid : Prop := Claim7.holds Tryd.pinned (.plain (OpenSpec.ofChange framesWholeSpec)) framesWholeCard

/-- THE TIED CARD OF 'backflushlaw47.FramesScan'. -/
def framesScanCard : Claim7 := { stood := { row := framesScanRow, standIns := [], harness := (true, "4161c33d97d55089ddc483628993c719193942c593259a944b93779352f85f49"), looks := false }, kinds := [], alts := [], laidByText := true, laidKinds := [.data], laidTests := true, laidLooks := .later }
def FramesScanCardSaid : Prop := Claim7.holds Tryd.pinned (.plain (OpenSpec.ofChange framesScanSpec)) framesScanCard

/-- THE TIED CARD OF 'backflushlaw47.FramesMessages'. -/
def framesMessagesCard : Claim7 := { stood := { row := framesMessagesRow, standIns := [], harness := (true, "4161c33d97d55089ddc483628993c719193942c593259a944b93779352f85f49"), looks := false }, kinds := [], alts := [], laidByText := true, laidKinds := [.data], laidTests := true, laidLooks := .later }
def FramesMessagesCardSaid : Prop := Claim7.holds Tryd.pinned (.plain (OpenSpec.ofChange framesMessagesSpec)) framesMessagesCard

/-- THE SECOND FORM's CARD OF 'backflushlaw47.FramesSpec'. -/
def framesSpecUptoCard : Claim7 := { stood := { row := framesSpecUptoRow, standIns := [], harness := (true, "4161c33d97d55089ddc483628993c719193942c593259a944b93779352f85f49"), looks := false }, kinds := [], alts := [], laidByText := true, laidKinds := [.data], laidTests := true, laidLooks := .later }
def FramesSpecUptoCardSaid : Prop := Claim7.holds Tryd.pinned (.plain (OpenSpec.upto framesSpecSpec)) framesSpecUptoCard

/-- THE SECOND FORM's CARD OF 'backflushlaw47.FramesBack'. -/
def framesBackUptoCard : Claim7 := { stood := { row := framesBackUptoRow, standIns := [], harness := (true, "4161c33d97d55089ddc483628993c719193942c593259a944b93779352f85f49"), looks := false }, kinds := [], alts := [], laidByText := true, laidKinds := [.data], laidTests := true, laidLooks := .later }
def FramesBackUptoCardSaid : Prop := Claim7.holds Tryd.pinned (.plain (OpenSpec.upto framesBackSpec)) framesBackUptoCard

/-- THE SECOND FORM's CARD OF 'backflushlaw47.FramesWhole'. -/
def framesWholeUptoCard : Claim7 := { stood := { row := framesWholeUptoRow, standIns := [], harness := (true, "4161c33d97d55089ddc483628993c719193942c593259a944b93779352f85f49"), looks := false }, kinds := [], alts := [], laidByText := true, laidKinds := [.data], laidTests := true, laidLooks := .later }
def FramesWholeUptoCardSaid : Prop := Claim7.holds Tryd.pinned (.plain (OpenSpec.upto framesWholeSpec)) framesWholeUptoCard

/-- THE SECOND FORM's CARD OF 'backflushlaw47.FramesScan'. -/
def framesScanUptoCard : Claim7 := { stood := { row := framesScanUptoRow, standIns := [], harness := (true, "4161c33d97d55089ddc483628993c719193942c593259a944b93779352f85f49"), looks := false }, kinds := [], alts := [], laidByText := true, laidKinds := [.data], laidTests := true, laidLooks := .later }
def FramesScanUptoCardSaid : Prop := Claim7.holds Tryd.pinned (.plain (OpenSpec.upto framesScanSpec)) framesScanUptoCard

/-- THE SECOND FORM's CARD OF 'backflushlaw47.FramesMessages'. -/
def framesMessagesUptoCard : Claim7 := { stood := { row := framesMessagesUptoRow, standIns := [], harness := (true, "4161c33d97d55089ddc483628993c719193942c593259a944b93779352f85f49"), looks := false }, kinds := [], alts := [], laidByText := true, laidKinds := [.data], laidTests := true, laidLooks := .later }
def FramesMessagesUptoCardSaid : Prop := Claim7.holds Tryd.pinned (.plain (OpenSpec.upto framesMessagesSpec)) framesMessagesUptoCard
end Rows
end Go.Proofs.YtghjhdbmkilakaaDoor
