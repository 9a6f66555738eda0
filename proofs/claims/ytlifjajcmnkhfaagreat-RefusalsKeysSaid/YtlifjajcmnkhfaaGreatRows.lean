/-
  No cell of these rows narrows 'for every input' (looked for: loops, veiled, ifaces, maps, wideKeys, modest, calm, conditions, laid).
  DERIVED. THE GIVEN ROWS OF THIS SEAT. 2 by the template 'for every input the law returns true; each argument reads behind the call as it read before'; 0 by the template 'total and deterministic' (their statements: YtlifjajcmnkhfaaGreatTotals.lean).
  GIVEN WITH THE SEED: the statements are not yours to turn. If you find one false, say at which input.
  Laid BY PROGRAM, IN A SANDBOX (cutbox-rows.mjs): the forced cells as the released guide's own fill.sh prints them over the translation c45b56f7fede0daa… (all of the seat's roots in one cut). By AI agents, Wed Nov 11 2026. No macro, syntax, notation, axiom, sorry.
-/
import Derived.Test.YtlifjajcmnkhfaaGreatChecked
import GoSem.Claim
import GoSem.ClaimJoined
import GoSem.ClaimMapViews
import Derived.JoinedTies
import Derived.KernelRfl
namespace Go.Proofs.YtlifjajcmnkhfaaGreat
/- THE CELL 'sum', in the pinned program and in every row, IS THE sha256 OF THE DUMP (.gsa) THAT YtlifjajcmnkhfaaGreatProg.lean LOADS. Nothing in Lean hashes anything: it is a label: what it is worth is what the hold of that sum in a sandbox is worth. -/
noncomputable def Tryz.pinned : Pinned := { name := "ytlifjajcmnkhfaagreat", sum := "c45b56f7fede0daad6f444b7b2f2b22ddd4faffbcab1cb5390a606ef0650b518", checked := Tryz.checked }
namespace Rows
def none {H : Type} : Left H := { results := [], args := [] }

/-- 'backflushlaw32.RefusalsLeastSpec': WHATEVER THE INPUT: true; the input reads as it did. -/
def refusalsLeastSpecSpec : ChangeSpec := { name := "refusalsLeastSpec", fn := fun _ => fun
  | [d1, d2, d3, d4] => { results := [.lit (.bool true)], args := [d1, d2, d3, d4] }
  | _ => none }
def refusalsLeastSpecRow : OpenClaim := { program := "ytlifjajcmnkhfaagreat", sum := "c45b56f7fede0daad6f444b7b2f2b22ddd4faffbcab1cb5390a606ef0650b518", func := "backflush/backflushlaw32.RefusalsLeastSpec", spec := "refusalsLeastSpec", unfollowed := true, recurses := true, plainKeys := false, apart := false }
def RefusalsLeastSpecSaid : Prop := refusalsLeastSpecRow.holds Tryz.pinned (OpenSpec.ofChange refusalsLeastSpecSpec)

/-- ITS FALSE NEIGHBOUR: 'it returns false'. Refute it at one input. -/
def refusalsLeastSpecWrong : ChangeSpec := { name := "refusalsLeastSpec", fn := fun _ => fun
  | [d1, d2, d3, d4] => { results := [.lit (.bool false)], args := [d1, d2, d3, d4] }
  | _ => none }
def RefusalsLeastSpecWrongFalsely : Prop := refusalsLeastSpecRow.holds Tryz.pinned (OpenSpec.ofChange refusalsLeastSpecWrong)

/-- 'backflushlaw32.RefusalsKeys': WHATEVER THE INPUT: true; the input reads as it did. -/
def refusalsKeysSpec : ChangeSpec := { name := "refusalsKeys", fn := fun _ => fun
  | [d1, d2, d3] => { results := [.lit (.bool true)], args := [d1, d2, d3] }
  | _ => none }
def refusalsKeysRow : OpenClaim := { program := "ytlifjajcmnkhfaagreat", sum := "c45b56f7fede0daad6f444b7b2f2b22ddd4faffbcab1cb5390a606ef0650b518", func := "backflush/backflushlaw32.RefusalsKeys", spec := "refusalsKeys", unfollowed := true, recurses := true, plainKeys := false, apart := false }
def RefusalsKeysSaid : Prop := refusalsKeysRow.holds Tryz.pinned (OpenSpec.ofChange refusalsKeysSpec)

/-- ITS FALSE NEIGHBOUR: 'it returns false'. Refute it at one input. -/
def refusalsKeysWrong : ChangeSpec := { name := "refusalsKeys", fn := fun _ => fun
  | [d1, d2, d3] => { results := [.lit (.bool false)], args := [d1, d2, d3] }
  | _ => none }
def RefusalsKeysWrongFalsely : Prop := refusalsKeysRow.holds Tryz.pinned (OpenSpec.ofChange refusalsKeysWrong)

/- THE SECOND FORM. 'bulk': how many values and letters a reading holds, each counted each time it is reached (what is shared counts as often as it is met; a slice's spare places count too). A statement '..UptoSaid' is the law's where the arguments, and the package variables that the reading takes, are together of bulk at most 1048576: NARROWER than '..Said'. Prove '..Said' where nothing that the law and all that it calls make is longer than what came in: it says more and counts as full. Else prove '..UptoSaid'. A law counts once. -/
mutual
def uptoBulk {H : Type} : DataW H → Nat
  | .lit (.string bytes) => bytes.length + 1
  | .lit _ => 1
  | .nil => 1
  | .ptr d => uptoBulk d + 1
  | .slice elems spare => uptoBulkAll elems + uptoBulkAll spare + 1
  | .agg parts => uptoBulkAll parts + 1
  | .iface _ d => uptoBulk d + 1
  | .map entries => uptoBulkEntries entries + 1
  | .held _ => 1
def uptoBulkAll {H : Type} : List (DataW H) → Nat
  | [] => 0
  | d :: r => uptoBulk d + uptoBulkAll r
def uptoBulkEntries {H : Type} : List (Lit × DataW H) → Nat
  | [] => 0
  | x :: r => uptoBulkEntry x + uptoBulkEntries r
def uptoBulkEntry {H : Type} : Lit × DataW H → Nat
  | (.string bytes, d) => bytes.length + uptoBulk d + 1
  | (_, d) => uptoBulk d + 1
 end
def uptoSmall : (H : Type) → List (DataW H) → Bool := fun _ ds => decide (uptoBulkAll ds ≤ 1048576)
def OpenSpec.upto (s : _root_.Go.ChangeSpec) : _root_.Go.OpenSpec := { _root_.Go.OpenSpec.ofChange s with cond := some uptoSmall }

/-- 'backflushlaw32.RefusalsLeastSpec', WHERE WHAT IT READS IS OF BULK AT MOST 1048576: true; the input reads as it did. -/
def refusalsLeastSpecUptoRow : OpenClaim := { program := "ytlifjajcmnkhfaagreat", sum := "c45b56f7fede0daad6f444b7b2f2b22ddd4faffbcab1cb5390a606ef0650b518", func := "backflush/backflushlaw32.RefusalsLeastSpec", spec := "refusalsLeastSpec", unfollowed := true, recurses := true, plainKeys := false, apart := false, narrowed := true }
def RefusalsLeastSpecUptoSaid : Prop := refusalsLeastSpecUptoRow.holds Tryz.pinned (OpenSpec.upto refusalsLeastSpecSpec)

/-- 'backflushlaw32.RefusalsKeys', WHERE WHAT IT READS IS OF BULK AT MOST 1048576: true; the input reads as it did. -/
def refusalsKeysUptoRow : OpenClaim := { program := "ytlifjajcmnkhfaagreat", sum := "c45b56f7fede0daad6f444b7b2f2b22ddd4faffbcab1cb5390a606ef0650b518", func := "backflush/backflushlaw32.RefusalsKeys", spec := "refusalsKeys", unfollowed := true, recurses := true, plainKeys := false, apart := false, narrowed := true }
def RefusalsKeysUptoSaid : Prop := refusalsKeysUptoRow.holds Tryz.pinned (OpenSpec.upto refusalsKeysSpec)

end Rows
end Go.Proofs.YtlifjajcmnkhfaaGreat
