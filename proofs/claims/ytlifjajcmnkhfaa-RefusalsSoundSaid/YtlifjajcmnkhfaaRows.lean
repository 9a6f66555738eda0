/-
  No cell of these rows narrows 'for every input' (looked for: loops, veiled, ifaces, maps, wideKeys, modest, calm, conditions, laid).
  DERIVED. THE GIVEN ROWS OF THIS SEAT. 3 by the template 'for every input the law returns true; each argument reads behind the call as it read before'; 0 by the template 'total and deterministic' (their statements: YtlifjajcmnkhfaaTotals.lean).
  GIVEN WITH THE SEED: the statements are not yours to turn. If you find one false, say at which input.
  Laid BY PROGRAM, IN A SANDBOX (cutbox-rows.mjs): the forced cells as the released guide's own fill.sh prints them over the translation b86bbe7d0e4de5bd… (all of the seat's roots in one cut). By AI agents, Wed Nov 11 2026. No macro, syntax, notation, axiom, sorry.
-/
import Derived.Test.YtlifjajcmnkhfaaChecked
import GoSem.Claim
import GoSem.ClaimJoined
import GoSem.ClaimMapViews
import Derived.JoinedTies
import Derived.KernelRfl
namespace Go.Proofs.Ytlifjajcmnkhfaa
/- THE CELL 'sum', in the pinned program and in every row, IS THE sha256 OF THE DUMP (.gsa) THAT YtlifjajcmnkhfaaProg.lean LOADS. Nothing in Lean hashes anything: it is a label: what it is worth is what the hold of that sum in a sandbox is worth. -/
noncomputable def Try.pinned : Pinned := { name := "ytlifjajcmnkhfaa", sum := "b86bbe7d0e4de5bd004ac14487f9b3fe85f13f8856fb9f87326eb6827e32c106", checked := Try.checked }
namespace Rows
def none {H : Type} : Left H := { results := [], args := [] }

/-- 'backflushlaw32.RefusalsProved': WHATEVER THE INPUT: true; the input reads as it did. -/
def refusalsProvedSpec : ChangeSpec := { name := "refusalsProved", fn := fun _ => fun
  | [d1, d2, d3] => { results := [.lit (.bool true)], args := [d1, d2, d3] }
  | _ => none }
def refusalsProvedRow : OpenClaim := { program := "ytlifjajcmnkhfaa", sum := "b86bbe7d0e4de5bd004ac14487f9b3fe85f13f8856fb9f87326eb6827e32c106", func := "backflush/backflushlaw32.RefusalsProved", spec := "refusalsProved", unfollowed := true, recurses := true, plainKeys := false, apart := false }
def RefusalsProvedSaid : Prop := refusalsProvedRow.holds Try.pinned (OpenSpec.ofChange refusalsProvedSpec)

/-- ITS FALSE NEIGHBOUR: 'it returns false'. Refute it at one input. -/
def refusalsProvedWrong : ChangeSpec := { name := "refusalsProved", fn := fun _ => fun
  | [d1, d2, d3] => { results := [.lit (.bool false)], args := [d1, d2, d3] }
  | _ => none }
def RefusalsProvedWrongFalsely : Prop := refusalsProvedRow.holds Try.pinned (OpenSpec.ofChange refusalsProvedWrong)

/-- 'backflushlaw32.RefusalsSound': WHATEVER THE INPUT: true; the input reads as it did. -/
def refusalsSoundSpec : ChangeSpec := { name := "refusalsSound", fn := fun _ => fun
  | [d1, d2, d3, d4] => { results := [.lit (.bool true)], args := [d1, d2, d3, d4] }
  | _ => none }
def refusalsSoundRow : OpenClaim := { program := "ytlifjajcmnkhfaa", sum := "b86bbe7d0e4de5bd004ac14487f9b3fe85f13f8856fb9f87326eb6827e32c106", func := "backflush/backflushlaw32.RefusalsSound", spec := "refusalsSound", unfollowed := true, recurses := true, plainKeys := false, apart := false }
def RefusalsSoundSaid : Prop := refusalsSoundRow.holds Try.pinned (OpenSpec.ofChange refusalsSoundSpec)

/-- ITS FALSE NEIGHBOUR: 'it returns false'. Refute it at one input. -/
def refusalsSoundWrong : ChangeSpec := { name := "refusalsSound", fn := fun _ => fun
  | [d1, d2, d3, d4] => { results := [.lit (.bool false)], args := [d1, d2, d3, d4] }
  | _ => none }
def RefusalsSoundWrongFalsely : Prop := refusalsSoundRow.holds Try.pinned (OpenSpec.ofChange refusalsSoundWrong)

/-- 'backflushlaw32.RefusalsMore': WHATEVER THE INPUT: true; the input reads as it did. -/
def refusalsMoreSpec : ChangeSpec := { name := "refusalsMore", fn := fun _ => fun
  | [d1, d2, d3, d4, d5] => { results := [.lit (.bool true)], args := [d1, d2, d3, d4, d5] }
  | _ => none }
def refusalsMoreRow : OpenClaim := { program := "ytlifjajcmnkhfaa", sum := "b86bbe7d0e4de5bd004ac14487f9b3fe85f13f8856fb9f87326eb6827e32c106", func := "backflush/backflushlaw32.RefusalsMore", spec := "refusalsMore", unfollowed := true, recurses := true, plainKeys := false, apart := false }
def RefusalsMoreSaid : Prop := refusalsMoreRow.holds Try.pinned (OpenSpec.ofChange refusalsMoreSpec)

/-- ITS FALSE NEIGHBOUR: 'it returns false'. Refute it at one input. -/
def refusalsMoreWrong : ChangeSpec := { name := "refusalsMore", fn := fun _ => fun
  | [d1, d2, d3, d4, d5] => { results := [.lit (.bool false)], args := [d1, d2, d3, d4, d5] }
  | _ => none }
def RefusalsMoreWrongFalsely : Prop := refusalsMoreRow.holds Try.pinned (OpenSpec.ofChange refusalsMoreWrong)

/- THE SECOND FORM. 'bulk': how many values and letters a reading holds, each counted each time it is reached (what is shared counts as often as it is met; a slice's spare places count too). A statement '..UptoSaid' is the law's where the arguments, and the package variables that the reading takes, are together of bulk at most 1048576: NARROWER than '..Said'. Prove '..Said' where nothing that the law and all that it calls make is longer than what came in: it says more and counts as full. Else prove '..UptoSaid'. A law counts once. -/
mutual
def uptoBulk {H : Type} : DataW H → Nat
  | .lit (.string bytes) => bytes.length + 1
  | .lit _ => 1
  | .nil => 1
  | .ptr d => uptoBulk d + 1
  | .slice elems spare => uptoBulkAll elems + uptoBulkAll spare + 1
  | .agg parts => uptoBulkAll parts + 1
  | .iface _ d => uptoBulk d + 1
  | .map entries => uptoBulkEntries entries + 1
  | .held _ => 1
def uptoBulkAll {H : Type} : List (DataW H) → Nat
  | [] => 0
  | d :: r => uptoBulk d + uptoBulkAll r
def uptoBulkEntries {H : Type} : List (Lit × DataW H) → Nat
  | [] => 0
  | x :: r => uptoBulkEntry x + uptoBulkEntries r
def uptoBulkEntry {H : Type} : Lit × DataW H → Nat
  | (.string bytes, d) => bytes.length + uptoBulk d + 1
  | (_, d) => uptoBulk d + 1
 end
def uptoSmall : (H : Type) → List (DataW H) → Bool := fun _ ds => decide (uptoBulkAll ds ≤ 1048576)
def OpenSpec.upto (s : _root_.Go.ChangeSpec) : _root_.Go.OpenSpec := { _root_.Go.OpenSpec.ofChange s with cond := some uptoSmall }

/-- 'backflushlaw32.RefusalsProved', WHERE WHAT IT READS IS OF BULK AT MOST 1048576: true; the input reads as it did. -/
def refusalsProvedUptoRow : OpenClaim := { program := "ytlifjajcmnkhfaa", sum := "b86bbe7d0e4de5bd004ac14487f9b3fe85f13f8856fb9f87326eb6827e32c106", func := "backflush/backflushlaw32.RefusalsProved", spec := "refusalsProved", unfollowed := true, recurses := true, plainKeys := false, apart := false, narrowed := true }
def RefusalsProvedUptoSaid : Prop := refusalsProvedUptoRow.holds Try.pinned (OpenSpec.upto refusalsProvedSpec)

/-- 'backflushlaw32.RefusalsSound', WHERE WHAT IT READS IS OF BULK AT MOST 1048576: true; the input reads as it did. -/
def refusalsSoundUptoRow : OpenClaim := { program := "ytlifjajcmnkhfaa", sum := "b86bbe7d0e4de5bd004ac14487f9b3fe85f13f8856fb9f87326eb6827e32c106", func := "backflush/backflushlaw32.RefusalsSound", spec := "refusalsSound", unfollowed := true, recurses := true, plainKeys := false, apart := false, narrowed := true }
def RefusalsSoundUptoSaid : Prop := refusalsSoundUptoRow.holds Try.pinned (OpenSpec.upto refusalsSoundSpec)

/-- 'backflushlaw32.RefusalsMore', WHERE WHAT IT READS IS OF BULK AT MOST 1048576: true; the input reads as it did. -/
def refusalsMoreUptoRow : OpenClaim := { program := "ytlifjajcmnkhfaa", sum := "b86bbe7d0e4de5bd004ac14487f9b3fe85f13f8856fb9f87326eb6827e32c106", func := "backflush/backflushlaw32.RefusalsMore", spec := "refusalsMore", unfollowed := true, recurses := true, plainKeys := false, apart := false, narrowed := true }
def RefusalsMoreUptoSaid : Prop := refusalsMoreUptoRow.holds Try.pinned (OpenSpec.upto refusalsMoreSpec)

end Rows
end Go.Proofs.Ytlifjajcmnkhfaa
