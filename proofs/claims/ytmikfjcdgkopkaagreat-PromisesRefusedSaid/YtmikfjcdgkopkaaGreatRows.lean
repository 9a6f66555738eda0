/-
  No cell of these rows narrows 'for every input' (looked for: loops, veiled, ifaces, maps, wideKeys, modest, calm, conditions, laid).
  DERIVED. THE GIVEN ROWS OF THIS SEAT. 7 by the template 'for every input the law returns true; each argument reads behind the call as it read before'; 0 by the template 'total and deterministic' (their statements: YtmikfjcdgkopkaaGreatTotals.lean).
  GIVEN WITH THE SEED: the statements are not yours to turn. If you find one false, say at which input.
  Laid BY PROGRAM, IN A SANDBOX (cutbox-rows.mjs): the forced cells as the released guide's own fill.sh prints them over the translation 10000aab9f8989a8… (all of the seat's roots in one cut). By AI agents, Wed Nov 11 2026. No macro, syntax, notation, axiom, sorry.
-/
import Derived.Test.YtmikfjcdgkopkaaGreatChecked
import GoSem.Claim
import GoSem.ClaimJoined
import GoSem.ClaimMapViews
import Derived.JoinedTies
import Derived.KernelRfl
namespace Go.Proofs.YtmikfjcdgkopkaaGreat
/- THE CELL 'sum', in the pinned program and in every row, IS THE sha256 OF THE DUMP (.gsa) THAT YtmikfjcdgkopkaaGreatProg.lean LOADS. Nothing in Lean hashes anything: it is a label: what it is worth is what the hold of that sum in a sandbox is worth. -/
noncomputable def Tryz.pinned : Pinned := { name := "ytmikfjcdgkopkaagreat", sum := "10000aab9f8989a862a0783e62d25e253c7be5e21b7acb5366bc52eb1edeee15", checked := Tryz.checked }
namespace Rows
def none {H : Type} : Left H := { results := [], args := [] }

/-- 'backflushlaw31.PromisesAskSpec': WHATEVER THE INPUT: true; the input reads as it did. -/
def promisesAskSpecSpec : ChangeSpec := { name := "promisesAskSpec", fn := fun _ => fun
  | [d1, d2, d3, d4, d5] => { results := [.lit (.bool true)], args := [d1, d2, d3, d4, d5] }
  | _ => none }
def promisesAskSpecRow : OpenClaim := { program := "ytmikfjcdgkopkaagreat", sum := "10000aab9f8989a862a0783e62d25e253c7be5e21b7acb5366bc52eb1edeee15", func := "backflush/backflushlaw31.PromisesAskSpec", spec := "promisesAskSpec", unfollowed := true, recurses := true, plainKeys := false, apart := false }
def PromisesAskSpecSaid : Prop := promisesAskSpecRow.holds Tryz.pinned (OpenSpec.ofChange promisesAskSpecSpec)

/-- ITS FALSE NEIGHBOUR: 'it returns false'. Refute it at one input. -/
def promisesAskSpecWrong : ChangeSpec := { name := "promisesAskSpec", fn := fun _ => fun
  | [d1, d2, d3, d4, d5] => { results := [.lit (.bool false)], args := [d1, d2, d3, d4, d5] }
  | _ => none }
def PromisesAskSpecWrongFalsely : Prop := promisesAskSpecRow.holds Tryz.pinned (OpenSpec.ofChange promisesAskSpecWrong)

/-- 'backflushlaw31.PromisesEarliestSpec': WHATEVER THE INPUT: true; the input reads as it did. -/
def promisesEarliestSpecSpec : ChangeSpec := { name := "promisesEarliestSpec", fn := fun _ => fun
  | [d1, d2, d3, d4] => { results := [.lit (.bool true)], args := [d1, d2, d3, d4] }
  | _ => none }
def promisesEarliestSpecRow : OpenClaim := { program := "ytmikfjcdgkopkaagreat", sum := "10000aab9f8989a862a0783e62d25e253c7be5e21b7acb5366bc52eb1edeee15", func := "backflush/backflushlaw31.PromisesEarliestSpec", spec := "promisesEarliestSpec", unfollowed := true, recurses := true, plainKeys := false, apart := false }
def PromisesEarliestSpecSaid : Prop := promisesEarliestSpecRow.holds Tryz.pinned (OpenSpec.ofChange promisesEarliestSpecSpec)

/-- ITS FALSE NEIGHBOUR: 'it returns false'. Refute it at one input. -/
def promisesEarliestSpecWrong : ChangeSpec := { name := "promisesEarliestSpec", fn := fun _ => fun
  | [d1, d2, d3, d4] => { results := [.lit (.bool false)], args := [d1, d2, d3, d4] }
  | _ => none }
def PromisesEarliestSpecWrongFalsely : Prop := promisesEarliestSpecRow.holds Tryz.pinned (OpenSpec.ofChange promisesEarliestSpecWrong)

/-- 'backflushlaw31.PromisesAgain': WHATEVER THE INPUT: true; the input reads as it did. -/
def promisesAgainSpec : ChangeSpec := { name := "promisesAgain", fn := fun _ => fun
  | [d1, d2, d3, d4] => { results := [.lit (.bool true)], args := [d1, d2, d3, d4] }
  | _ => none }
def promisesAgainRow : OpenClaim := { program := "ytmikfjcdgkopkaagreat", sum := "10000aab9f8989a862a0783e62d25e253c7be5e21b7acb5366bc52eb1edeee15", func := "backflush/backflushlaw31.PromisesAgain", spec := "promisesAgain", unfollowed := true, recurses := true, plainKeys := false, apart := false }
def PromisesAgainSaid : Prop := promisesAgainRow.holds Tryz.pinned (OpenSpec.ofChange promisesAgainSpec)

/-- ITS FALSE NEIGHBOUR: 'it returns false'. Refute it at one input. -/
def promisesAgainWrong : ChangeSpec := { name := "promisesAgain", fn := fun _ => fun
  | [d1, d2, d3, d4] => { results := [.lit (.bool false)], args := [d1, d2, d3, d4] }
  | _ => none }
def PromisesAgainWrongFalsely : Prop := promisesAgainRow.holds Tryz.pinned (OpenSpec.ofChange promisesAgainWrong)

/-- 'backflushlaw31.PromisesEarliest': WHATEVER THE INPUT: true; the input reads as it did. -/
def promisesEarliestSpec : ChangeSpec := { name := "promisesEarliest", fn := fun _ => fun
  | [d1, d2, d3, d4] => { results := [.lit (.bool true)], args := [d1, d2, d3, d4] }
  | _ => none }
def promisesEarliestRow : OpenClaim := { program := "ytmikfjcdgkopkaagreat", sum := "10000aab9f8989a862a0783e62d25e253c7be5e21b7acb5366bc52eb1edeee15", func := "backflush/backflushlaw31.PromisesEarliest", spec := "promisesEarliest", unfollowed := true, recurses := true, plainKeys := false, apart := false }
def PromisesEarliestSaid : Prop := promisesEarliestRow.holds Tryz.pinned (OpenSpec.ofChange promisesEarliestSpec)

/-- ITS FALSE NEIGHBOUR: 'it returns false'. Refute it at one input. -/
def promisesEarliestWrong : ChangeSpec := { name := "promisesEarliest", fn := fun _ => fun
  | [d1, d2, d3, d4] => { results := [.lit (.bool false)], args := [d1, d2, d3, d4] }
  | _ => none }
def PromisesEarliestWrongFalsely : Prop := promisesEarliestRow.holds Tryz.pinned (OpenSpec.ofChange promisesEarliestWrong)

/-- 'backflushlaw31.PromisesKept': WHATEVER THE INPUT: true; the input reads as it did. -/
def promisesKeptSpec : ChangeSpec := { name := "promisesKept", fn := fun _ => fun
  | [d1, d2, d3, d4] => { results := [.lit (.bool true)], args := [d1, d2, d3, d4] }
  | _ => none }
def promisesKeptRow : OpenClaim := { program := "ytmikfjcdgkopkaagreat", sum := "10000aab9f8989a862a0783e62d25e253c7be5e21b7acb5366bc52eb1edeee15", func := "backflush/backflushlaw31.PromisesKept", spec := "promisesKept", unfollowed := true, recurses := true, plainKeys := false, apart := false }
def PromisesKeptSaid : Prop := promisesKeptRow.holds Tryz.pinned (OpenSpec.ofChange promisesKeptSpec)

/-- ITS FALSE NEIGHBOUR: 'it returns false'. Refute it at one input. -/
def promisesKeptWrong : ChangeSpec := { name := "promisesKept", fn := fun _ => fun
  | [d1, d2, d3, d4] => { results := [.lit (.bool false)], args := [d1, d2, d3, d4] }
  | _ => none }
def PromisesKeptWrongFalsely : Prop := promisesKeptRow.holds Tryz.pinned (OpenSpec.ofChange promisesKeptWrong)

/-- 'backflushlaw31.PromisesReads': WHATEVER THE INPUT: true; the input reads as it did. -/
def promisesReadsSpec : ChangeSpec := { name := "promisesReads", fn := fun _ => fun
  | [d1, d2, d3, d4] => { results := [.lit (.bool true)], args := [d1, d2, d3, d4] }
  | _ => none }
def promisesReadsRow : OpenClaim := { program := "ytmikfjcdgkopkaagreat", sum := "10000aab9f8989a862a0783e62d25e253c7be5e21b7acb5366bc52eb1edeee15", func := "backflush/backflushlaw31.PromisesReads", spec := "promisesReads", unfollowed := true, recurses := true, plainKeys := false, apart := false }
def PromisesReadsSaid : Prop := promisesReadsRow.holds Tryz.pinned (OpenSpec.ofChange promisesReadsSpec)

/-- ITS FALSE NEIGHBOUR: 'it returns false'. Refute it at one input. -/
def promisesReadsWrong : ChangeSpec := { name := "promisesReads", fn := fun _ => fun
  | [d1, d2, d3, d4] => { results := [.lit (.bool false)], args := [d1, d2, d3, d4] }
  | _ => none }
def PromisesReadsWrongFalsely : Prop := promisesReadsRow.holds Tryz.pinned (OpenSpec.ofChange promisesReadsWrong)

/-- 'backflushlaw31.PromisesRefused': WHATEVER THE INPUT: true; the input reads as it did. -/
def promisesRefusedSpec : ChangeSpec := { name := "promisesRefused", fn := fun _ => fun
  | [d1, d2, d3] => { results := [.lit (.bool true)], args := [d1, d2, d3] }
  | _ => none }
def promisesRefusedRow : OpenClaim := { program := "ytmikfjcdgkopkaagreat", sum := "10000aab9f8989a862a0783e62d25e253c7be5e21b7acb5366bc52eb1edeee15", func := "backflush/backflushlaw31.PromisesRefused", spec := "promisesRefused", unfollowed := true, recurses := true, plainKeys := false, apart := false }
def PromisesRefusedSaid : Prop := promisesRefusedRow.holds Tryz.pinned (OpenSpec.ofChange promisesRefusedSpec)

/-- ITS FALSE NEIGHBOUR: 'it returns false'. Refute it at one input. -/
def promisesRefusedWrong : ChangeSpec := { name := "promisesRefused", fn := fun _ => fun
  | [d1, d2, d3] => { results := [.lit (.bool false)], args := [d1, d2, d3] }
  | _ => none }
def PromisesRefusedWrongFalsely : Prop := promisesRefusedRow.holds Tryz.pinned (OpenSpec.ofChange promisesRefusedWrong)

/- THE SECOND FORM. 'bulk': how many values and letters a reading holds, each counted each time it is reached (what is shared counts as often as it is met; a slice's spare places count too). A statement '..UptoSaid' is the law's where the arguments, and the package variables that the reading takes, are together of bulk at most 1048576: NARROWER than '..Said'. Prove '..Said' where nothing that the law and all that it calls make is longer than what came in: it says more and counts as full. Else prove '..UptoSaid'. A law counts once. -/
mutual
def uptoBulk {H : Type} : DataW H → Nat
  | .lit (.string bytes) => bytes.length + 1
  | .lit _ => 1
  | .nil => 1
  | .ptr d => uptoBulk d + 1
  | .slice elems spare => uptoBulkAll elems + uptoBulkAll spare + 1
  | .agg parts => uptoBulkAll parts + 1
  | .iface _ d => uptoBulk d + 1
  | .map entries => uptoBulkEntries entries + 1
  | .held _ => 1
def uptoBulkAll {H : Type} : List (DataW H) → Nat
  | [] => 0
  | d :: r => uptoBulk d + uptoBulkAll r
def uptoBulkEntries {H : Type} : List (Lit × DataW H) → Nat
  | [] => 0
  | x :: r => uptoBulkEntry x + uptoBulkEntries r
def uptoBulkEntry {H : Type} : Lit × DataW H → Nat
  | (.string bytes, d) => bytes.length + uptoBulk d + 1
  | (_, d) => uptoBulk d + 1
 end
def uptoSmall : (H : Type) → List (DataW H) → Bool := fun _ ds => decide (uptoBulkAll ds ≤ 1048576)
def OpenSpec.upto (s : _root_.Go.ChangeSpec) : _root_.Go.OpenSpec := { _root_.Go.OpenSpec.ofChange s with cond := some uptoSmall }

/-- 'backflushlaw31.PromisesAskSpec', WHERE WHAT IT READS IS OF BULK AT MOST 1048576: true; the input reads as it did. -/
def promisesAskSpecUptoRow : OpenClaim := { program := "ytmikfjcdgkopkaagreat", sum := "10000aab9f8989a862a0783e62d25e253c7be5e21b7acb5366bc52eb1edeee15", func := "backflush/backflushlaw31.PromisesAskSpec", spec := "promisesAskSpec", unfollowed := true, recurses := true, plainKeys := false, apart := false, narrowed := true }
def PromisesAskSpecUptoSaid : Prop := promisesAskSpecUptoRow.holds Tryz.pinned (OpenSpec.upto promisesAskSpecSpec)

/-- 'backflushlaw31.PromisesEarliestSpec', WHERE WHAT IT READS IS OF BULK AT MOST 1048576: true; the input reads as it did. -/
def promisesEarliestSpecUptoRow : OpenClaim := { program := "ytmikfjcdgkopkaagreat", sum := "10000aab9f8989a862a0783e62d25e253c7be5e21b7acb5366bc52eb1edeee15", func := "backflush/backflushlaw31.PromisesEarliestSpec", spec := "promisesEarliestSpec", unfollowed := true, recurses := true, plainKeys := false, apart := false, narrowed := true }
def PromisesEarliestSpecUptoSaid : Prop := promisesEarliestSpecUptoRow.holds Tryz.pinned (OpenSpec.upto promisesEarliestSpecSpec)

/-- 'backflushlaw31.PromisesAgain', WHERE WHAT IT READS IS OF BULK AT MOST 1048576: true; the input reads as it did. -/
def promisesAgainUptoRow : OpenClaim := { program := "ytmikfjcdgkopkaagreat", sum := "10000aab9f8989a862a0783e62d25e253c7be5e21b7acb5366bc52eb1edeee15", func := "backflush/backflushlaw31.PromisesAgain", spec := "promisesAgain", unfollowed := true, recurses := true, plainKeys := false, apart := false, narrowed := true }
def PromisesAgainUptoSaid : Prop := promisesAgainUptoRow.holds Tryz.pinned (OpenSpec.upto promisesAgainSpec)

/-- 'backflushlaw31.PromisesEarliest', WHERE WHAT IT READS IS OF BULK AT MOST 1048576: true; the input reads as it did. -/
def promisesEarliestUptoRow : OpenClaim := { program := "ytmikfjcdgkopkaagreat", sum := "10000aab9f8989a862a0783e62d25e253c7be5e21b7acb5366bc52eb1edeee15", func := "backflush/backflushlaw31.PromisesEarliest", spec := "promisesEarliest", unfollowed := true, recurses := true, plainKeys := false, apart := false, narrowed := true }
def PromisesEarliestUptoSaid : Prop := promisesEarliestUptoRow.holds Tryz.pinned (OpenSpec.upto promisesEarliestSpec)

/-- 'backflushlaw31.PromisesKept', WHERE WHAT IT READS IS OF BULK AT MOST 1048576: true; the input reads as it did. -/
def promisesKeptUptoRow : OpenClaim := { program := "ytmikfjcdgkopkaagreat", sum := "10000aab9f8989a862a0783e62d25e253c7be5e21b7acb5366bc52eb1edeee15", func := "backflush/backflushlaw31.PromisesKept", spec := "promisesKept", unfollowed := true, recurses := true, plainKeys := false, apart := false, narrowed := true }
def PromisesKeptUptoSaid : Prop := promisesKeptUptoRow.holds Tryz.pinned (OpenSpec.upto promisesKeptSpec)

/-- 'backflushlaw31.PromisesReads', WHERE WHAT IT READS IS OF BULK AT MOST 1048576: true; the input reads as it did. -/
def promisesReadsUptoRow : OpenClaim := { program := "ytmikfjcdgkopkaagreat", sum := "10000aab9f8989a862a0783e62d25e253c7be5e21b7acb5366bc52eb1edeee15", func := "backflush/backflushlaw31.PromisesReads", spec := "promisesReads", unfollowed := true, recurses := true, plainKeys := false, apart := false, narrowed := true }
def PromisesReadsUptoSaid : Prop := promisesReadsUptoRow.holds Tryz.pinned (OpenSpec.upto promisesReadsSpec)

/-- 'backflushlaw31.PromisesRefused', WHERE WHAT IT READS IS OF BULK AT MOST 1048576: true; the input reads as it did. -/
def promisesRefusedUptoRow : OpenClaim := { program := "ytmikfjcdgkopkaagreat", sum := "10000aab9f8989a862a0783e62d25e253c7be5e21b7acb5366bc52eb1edeee15", func := "backflush/backflushlaw31.PromisesRefused", spec := "promisesRefused", unfollowed := true, recurses := true, plainKeys := false, apart := false, narrowed := true }
def PromisesRefusedUptoSaid : Prop := promisesRefusedUptoRow.holds Tryz.pinned (OpenSpec.upto promisesRefusedSpec)

end Rows
end Go.Proofs.YtmikfjcdgkopkaaGreat
