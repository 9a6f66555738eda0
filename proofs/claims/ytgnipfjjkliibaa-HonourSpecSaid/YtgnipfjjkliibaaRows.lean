/-
  No cell of these rows narrows 'for every input' (looked for: loops, veiled, ifaces, maps, wideKeys, modest, calm, conditions, laid).
  DERIVED. THE GIVEN ROWS OF THIS SEAT. 6 by the template 'for every input the law returns true; each argument reads behind the call as it read before'; 0 by the template 'total and deterministic' (their statements: YtgnipfjjkliibaaTotals.lean).
  GIVEN WITH THE SEED: the statements are not yours to turn. If you find one false, say at which input.
  Laid BY PROGRAM, IN A SANDBOX (cutbox-rows.mjs): the forced cells as the released guide's own fill.sh prints them over the translation 0eda049d02825829… (all of the seat's roots in one cut). By AI agents, Wed Nov 11 2026. No macro, syntax, notation, axiom, sorry.
-/
import Derived.Test.YtgnipfjjkliibaaChecked
import GoSem.Claim
import GoSem.ClaimJoined
import GoSem.ClaimMapViews
import Derived.JoinedTies
import Derived.KernelRfl
namespace Go.Proofs.Ytgnipfjjkliibaa
/- THE CELL 'sum', in the pinned program and in every row, IS THE sha256 OF THE DUMP (.gsa) THAT YtgnipfjjkliibaaProg.lean LOADS. Nothing in Lean hashes anything: it is a label: what it is worth is what the hold of that sum in a sandbox is worth. -/
noncomputable def Try.pinned : Pinned := { name := "ytgnipfjjkliibaa", sum := "0eda049d02825829cf12c87ea1aa2a96b2efcfce7fdfc70a46f6b0088973d5ab", checked := Try.checked }
namespace Rows
def none {H : Type} : Left H := { results := [], args := [] }

/-- 'backflushlaw33.HonourSpec': WHATEVER THE INPUT: true; the input reads as it did. -/
def honourSpecSpec : ChangeSpec := { name := "honourSpec", fn := fun _ => fun
  | [d1, d2, d3] => { results := [.lit (.bool true)], args := [d1, d2, d3] }
  | _ => none }
def honourSpecRow : OpenClaim := { program := "ytgnipfjjkliibaa", sum := "0eda049d02825829cf12c87ea1aa2a96b2efcfce7fdfc70a46f6b0088973d5ab", func := "backflush/backflushlaw33.HonourSpec", spec := "honourSpec", unfollowed := true, recurses := true, apart := false }
def HonourSpecSaid : Prop := honourSpecRow.holds Try.pinned (OpenSpec.ofChange honourSpecSpec)

/-- ITS FALSE NEIGHBOUR: 'it returns false'. Refute it at one input. -/
def honourSpecWrong : ChangeSpec := { name := "honourSpec", fn := fun _ => fun
  | [d1, d2, d3] => { results := [.lit (.bool false)], args := [d1, d2, d3] }
  | _ => none }
def HonourSpecWrongFalsely : Prop := honourSpecRow.holds Try.pinned (OpenSpec.ofChange honourSpecWrong)

/-- 'backflushlaw33.HonourKept': WHATEVER THE INPUT: true; the input reads as it did. -/
def honourKeptSpec : ChangeSpec := { name := "honourKept", fn := fun _ => fun
  | [d1, d2] => { results := [.lit (.bool true)], args := [d1, d2] }
  | _ => none }
def honourKeptRow : OpenClaim := { program := "ytgnipfjjkliibaa", sum := "0eda049d02825829cf12c87ea1aa2a96b2efcfce7fdfc70a46f6b0088973d5ab", func := "backflush/backflushlaw33.HonourKept", spec := "honourKept", unfollowed := true, recurses := true, apart := false }
def HonourKeptSaid : Prop := honourKeptRow.holds Try.pinned (OpenSpec.ofChange honourKeptSpec)

/-- ITS FALSE NEIGHBOUR: 'it returns false'. Refute it at one input. -/
def honourKeptWrong : ChangeSpec := { name := "honourKept", fn := fun _ => fun
  | [d1, d2] => { results := [.lit (.bool false)], args := [d1, d2] }
  | _ => none }
def HonourKeptWrongFalsely : Prop := honourKeptRow.holds Try.pinned (OpenSpec.ofChange honourKeptWrong)

/-- 'backflushlaw33.HonourBecause': WHATEVER THE INPUT: true; the input reads as it did. -/
def honourBecauseSpec : ChangeSpec := { name := "honourBecause", fn := fun _ => fun
  | [d1, d2] => { results := [.lit (.bool true)], args := [d1, d2] }
  | _ => none }
def honourBecauseRow : OpenClaim := { program := "ytgnipfjjkliibaa", sum := "0eda049d02825829cf12c87ea1aa2a96b2efcfce7fdfc70a46f6b0088973d5ab", func := "backflush/backflushlaw33.HonourBecause", spec := "honourBecause", unfollowed := true, recurses := true, apart := false }
def HonourBecauseSaid : Prop := honourBecauseRow.holds Try.pinned (OpenSpec.ofChange honourBecauseSpec)

/-- ITS FALSE NEIGHBOUR: 'it returns false'. Refute it at one input. -/
def honourBecauseWrong : ChangeSpec := { name := "honourBecause", fn := fun _ => fun
  | [d1, d2] => { results := [.lit (.bool false)], args := [d1, d2] }
  | _ => none }
def HonourBecauseWrongFalsely : Prop := honourBecauseRow.holds Try.pinned (OpenSpec.ofChange honourBecauseWrong)

/-- 'backflushlaw33.HonourShip': WHATEVER THE INPUT: true; the input reads as it did. -/
def honourShipSpec : ChangeSpec := { name := "honourShip", fn := fun _ => fun
  | [d1, d2, d3] => { results := [.lit (.bool true)], args := [d1, d2, d3] }
  | _ => none }
def honourShipRow : OpenClaim := { program := "ytgnipfjjkliibaa", sum := "0eda049d02825829cf12c87ea1aa2a96b2efcfce7fdfc70a46f6b0088973d5ab", func := "backflush/backflushlaw33.HonourShip", spec := "honourShip", unfollowed := true, recurses := true, apart := false }
def HonourShipSaid : Prop := honourShipRow.holds Try.pinned (OpenSpec.ofChange honourShipSpec)

/-- ITS FALSE NEIGHBOUR: 'it returns false'. Refute it at one input. -/
def honourShipWrong : ChangeSpec := { name := "honourShip", fn := fun _ => fun
  | [d1, d2, d3] => { results := [.lit (.bool false)], args := [d1, d2, d3] }
  | _ => none }
def HonourShipWrongFalsely : Prop := honourShipRow.holds Try.pinned (OpenSpec.ofChange honourShipWrong)

/-- 'backflushlaw33.HonourSteps': WHATEVER THE INPUT: true; the input reads as it did. -/
def honourStepsSpec : ChangeSpec := { name := "honourSteps", fn := fun _ => fun
  | [d1, d2, d3] => { results := [.lit (.bool true)], args := [d1, d2, d3] }
  | _ => none }
def honourStepsRow : OpenClaim := { program := "ytgnipfjjkliibaa", sum := "0eda049d02825829cf12c87ea1aa2a96b2efcfce7fdfc70a46f6b0088973d5ab", func := "backflush/backflushlaw33.HonourSteps", spec := "honourSteps", unfollowed := true, recurses := true, apart := false }
def HonourStepsSaid : Prop := honourStepsRow.holds Try.pinned (OpenSpec.ofChange honourStepsSpec)

/-- ITS FALSE NEIGHBOUR: 'it returns false'. Refute it at one input. -/
def honourStepsWrong : ChangeSpec := { name := "honourSteps", fn := fun _ => fun
  | [d1, d2, d3] => { results := [.lit (.bool false)], args := [d1, d2, d3] }
  | _ => none }
def HonourStepsWrongFalsely : Prop := honourStepsRow.holds Try.pinned (OpenSpec.ofChange honourStepsWrong)

/-- 'backflushlaw33.HonourAll': WHATEVER THE INPUT: true; the input reads as it did. -/
def honourAllSpec : ChangeSpec := { name := "honourAll", fn := fun _ => fun
  | [d1, d2] => { results := [.lit (.bool true)], args := [d1, d2] }
  | _ => none }
def honourAllRow : OpenClaim := { program := "ytgnipfjjkliibaa", sum := "0eda049d02825829cf12c87ea1aa2a96b2efcfce7fdfc70a46f6b0088973d5ab", func := "backflush/backflushlaw33.HonourAll", spec := "honourAll", unfollowed := true, recurses := true, apart := false }
def HonourAllSaid : Prop := honourAllRow.holds Try.pinned (OpenSpec.ofChange honourAllSpec)

/-- ITS FALSE NEIGHBOUR: 'it returns false'. Refute it at one input. -/
def honourAllWrong : ChangeSpec := { name := "honourAll", fn := fun _ => fun
  | [d1, d2] => { results := [.lit (.bool false)], args := [d1, d2] }
  | _ => none }
def HonourAllWrongFalsely : Prop := honourAllRow.holds Try.pinned (OpenSpec.ofChange honourAllWrong)

/- THE SECOND FORM. 'bulk': how many values and letters a reading holds, each counted each time it is reached (what is shared counts as often as it is met; a slice's spare places count too). A statement '..UptoSaid' is the law's where the arguments, and the package variables that the reading takes, are together of bulk at most 1048576: NARROWER than '..Said'. Prove '..Said' where nothing that the law and all that it calls make is longer than what came in: it says more and counts as full. Else prove '..UptoSaid'. A law counts once. -/
mutual
def uptoBulk {H : Type} : DataW H → Nat
  | .lit (.string bytes) => bytes.length + 1
  | .lit _ => 1
  | .nil => 1
  | .ptr d => uptoBulk d + 1
  | .slice elems spare => uptoBulkAll elems + uptoBulkAll spare + 1
  | .agg parts => uptoBulkAll parts + 1
  | .iface _ d => uptoBulk d + 1
  | .map entries => uptoBulkEntries entries + 1
  | .held _ => 1
def uptoBulkAll {H : Type} : List (DataW H) → Nat
  | [] => 0
  | d :: r => uptoBulk d + uptoBulkAll r
def uptoBulkEntries {H : Type} : List (Lit × DataW H) → Nat
  | [] => 0
  | x :: r => uptoBulkEntry x + uptoBulkEntries r
def uptoBulkEntry {H : Type} : Lit × DataW H → Nat
  | (.string bytes, d) => bytes.length + uptoBulk d + 1
  | (_, d) => uptoBulk d + 1
 end
def uptoSmall : (H : Type) → List (DataW H) → Bool := fun _ ds => decide (uptoBulkAll ds ≤ 1048576)
def OpenSpec.upto (s : _root_.Go.ChangeSpec) : _root_.Go.OpenSpec := { _root_.Go.OpenSpec.ofChange s with cond := some uptoSmall }

/-- 'backflushlaw33.HonourSpec', WHERE WHAT IT READS IS OF BULK AT MOST 1048576: true; the input reads as it did. -/
def honourSpecUptoRow : OpenClaim := { program := "ytgnipfjjkliibaa", sum := "0eda049d02825829cf12c87ea1aa2a96b2efcfce7fdfc70a46f6b0088973d5ab", func := "backflush/backflushlaw33.HonourSpec", spec := "honourSpec", unfollowed := true, recurses := true, apart := false, narrowed := true }
def HonourSpecUptoSaid : Prop := honourSpecUptoRow.holds Try.pinned (OpenSpec.upto honourSpecSpec)

/-- 'backflushlaw33.HonourKept', WHERE WHAT IT READS IS OF BULK AT MOST 1048576: true; the input reads as it did. -/
def honourKeptUptoRow : OpenClaim := { program := "ytgnipfjjkliibaa", sum := "0eda049d02825829cf12c87ea1aa2a96b2efcfce7fdfc70a46f6b0088973d5ab", func := "backflush/backflushlaw33.HonourKept", spec := "honourKept", unfollowed := true, recurses := true, apart := false, narrowed := true }
def HonourKeptUptoSaid : Prop := honourKeptUptoRow.holds Try.pinned (OpenSpec.upto honourKeptSpec)

/-- 'backflushlaw33.HonourBecause', WHERE WHAT IT READS IS OF BULK AT MOST 1048576: true; the input reads as it did. -/
def honourBecauseUptoRow : OpenClaim := { program := "ytgnipfjjkliibaa", sum := "0eda049d02825829cf12c87ea1aa2a96b2efcfce7fdfc70a46f6b0088973d5ab", func := "backflush/backflushlaw33.HonourBecause", spec := "honourBecause", unfollowed := true, recurses := true, apart := false, narrowed := true }
def HonourBecauseUptoSaid : Prop := honourBecauseUptoRow.holds Try.pinned (OpenSpec.upto honourBecauseSpec)

/-- 'backflushlaw33.HonourShip', WHERE WHAT IT READS IS OF BULK AT MOST 1048576: true; the input reads as it did. -/
def honourShipUptoRow : OpenClaim := { program := "ytgnipfjjkliibaa", sum := "0eda049d02825829cf12c87ea1aa2a96b2efcfce7fdfc70a46f6b0088973d5ab", func := "backflush/backflushlaw33.HonourShip", spec := "honourShip", unfollowed := true, recurses := true, apart := false, narrowed := true }
def HonourShipUptoSaid : Prop := honourShipUptoRow.holds Try.pinned (OpenSpec.upto honourShipSpec)

/-- 'backflushlaw33.HonourSteps', WHERE WHAT IT READS IS OF BULK AT MOST 1048576: true; the input reads as it did. -/
def honourStepsUptoRow : OpenClaim := { program := "ytgnipfjjkliibaa", sum := "0eda049d02825829cf12c87ea1aa2a96b2efcfce7fdfc70a46f6b0088973d5ab", func := "backflush/backflushlaw33.HonourSteps", spec := "honourSteps", unfollowed := true, recurses := true, apart := false, narrowed := true }
def HonourStepsUptoSaid : Prop := honourStepsUptoRow.holds Try.pinned (OpenSpec.upto honourStepsSpec)

/-- 'backflushlaw33.HonourAll', WHERE WHAT IT READS IS OF BULK AT MOST 1048576: true; the input reads as it did. -/
def honourAllUptoRow : OpenClaim := { program := "ytgnipfjjkliibaa", sum := "0eda049d02825829cf12c87ea1aa2a96b2efcfce7fdfc70a46f6b0088973d5ab", func := "backflush/backflushlaw33.HonourAll", spec := "honourAll", unfollowed := true, recurses := true, apart := false, narrowed := true }
def HonourAllUptoSaid : Prop := honourAllUptoRow.holds Try.pinned (OpenSpec.upto honourAllSpec)

end Rows
end Go.Proofs.Ytgnipfjjkliibaa
