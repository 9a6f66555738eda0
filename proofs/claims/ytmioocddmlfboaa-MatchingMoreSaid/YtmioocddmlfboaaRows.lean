/-
  No cell of these rows narrows 'for every input' (looked for: loops, veiled, ifaces, maps, wideKeys, modest, calm, conditions, laid).
  DERIVED. THE GIVEN ROWS OF THIS SEAT. 6 by the template 'for every input the law returns true; each argument reads behind the call as it read before'; 0 by the template 'total and deterministic' (their statements: YtmioocddmlfboaaTotals.lean).
  GIVEN WITH THE SEED: the statements are not yours to turn. If you find one false, say at which input.
  Laid BY PROGRAM, IN A SANDBOX (cutbox-rows.mjs): the forced cells as the released guide's own fill.sh prints them over the translation 355c3a7a4134d50f… (all of the seat's roots in one cut). By AI agents, Wed Nov 11 2026. No macro, syntax, notation, axiom, sorry.
-/
import Derived.Test.YtmioocddmlfboaaChecked
import GoSem.Claim
import GoSem.ClaimJoined
import GoSem.ClaimMapViews
import Derived.JoinedTies
import Derived.KernelRfl
namespace Go.Proofs.Ytmioocddmlfboaa
/- THE CELL 'sum', in the pinned program and in every row, IS THE sha256 OF THE DUMP (.gsa) THAT YtmioocddmlfboaaProg.lean LOADS. Nothing in Lean hashes anything: it is a label: what it is worth is what the hold of that sum in a sandbox is worth. -/
noncomputable def Try.pinned : Pinned := { name := "ytmioocddmlfboaa", sum := "355c3a7a4134d50f13ce721ac5f13a6f648e1327bacb9765a2d00a2f1ada7c94", checked := Try.checked }
namespace Rows
def none {H : Type} : Left H := { results := [], args := [] }

/-- 'backflushlaw30.MatchingCheckSpec': WHATEVER THE INPUT: true; the input reads as it did. -/
def matchingCheckSpecSpec : ChangeSpec := { name := "matchingCheckSpec", fn := fun _ => fun
  | [d1, d2, d3, d4, d5] => { results := [.lit (.bool true)], args := [d1, d2, d3, d4, d5] }
  | _ => none }
def matchingCheckSpecRow : OpenClaim := { program := "ytmioocddmlfboaa", sum := "355c3a7a4134d50f13ce721ac5f13a6f648e1327bacb9765a2d00a2f1ada7c94", func := "backflush/backflushlaw30.MatchingCheckSpec", spec := "matchingCheckSpec", unfollowed := true, recurses := true, apart := false }
def MatchingCheckSpecSaid : Prop := matchingCheckSpecRow.holds Try.pinned (OpenSpec.ofChange matchingCheckSpecSpec)

/-- ITS FALSE NEIGHBOUR: 'it returns false'. Refute it at one input. -/
def matchingCheckSpecWrong : ChangeSpec := { name := "matchingCheckSpec", fn := fun _ => fun
  | [d1, d2, d3, d4, d5] => { results := [.lit (.bool false)], args := [d1, d2, d3, d4, d5] }
  | _ => none }
def MatchingCheckSpecWrongFalsely : Prop := matchingCheckSpecRow.holds Try.pinned (OpenSpec.ofChange matchingCheckSpecWrong)

/-- 'backflushlaw30.MatchingSpec': WHATEVER THE INPUT: true; the input reads as it did. -/
def matchingSpecSpec : ChangeSpec := { name := "matchingSpec", fn := fun _ => fun
  | [d1, d2, d3] => { results := [.lit (.bool true)], args := [d1, d2, d3] }
  | _ => none }
def matchingSpecRow : OpenClaim := { program := "ytmioocddmlfboaa", sum := "355c3a7a4134d50f13ce721ac5f13a6f648e1327bacb9765a2d00a2f1ada7c94", func := "backflush/backflushlaw30.MatchingSpec", spec := "matchingSpec", unfollowed := true, recurses := true, apart := false }
def MatchingSpecSaid : Prop := matchingSpecRow.holds Try.pinned (OpenSpec.ofChange matchingSpecSpec)

/-- ITS FALSE NEIGHBOUR: 'it returns false'. Refute it at one input. -/
def matchingSpecWrong : ChangeSpec := { name := "matchingSpec", fn := fun _ => fun
  | [d1, d2, d3] => { results := [.lit (.bool false)], args := [d1, d2, d3] }
  | _ => none }
def MatchingSpecWrongFalsely : Prop := matchingSpecRow.holds Try.pinned (OpenSpec.ofChange matchingSpecWrong)

/-- 'backflushlaw30.MatchingEither': WHATEVER THE INPUT: true; the input reads as it did. -/
def matchingEitherSpec : ChangeSpec := { name := "matchingEither", fn := fun _ => fun
  | [d1, d2, d3, d4] => { results := [.lit (.bool true)], args := [d1, d2, d3, d4] }
  | _ => none }
def matchingEitherRow : OpenClaim := { program := "ytmioocddmlfboaa", sum := "355c3a7a4134d50f13ce721ac5f13a6f648e1327bacb9765a2d00a2f1ada7c94", func := "backflush/backflushlaw30.MatchingEither", spec := "matchingEither", unfollowed := true, recurses := true, apart := false }
def MatchingEitherSaid : Prop := matchingEitherRow.holds Try.pinned (OpenSpec.ofChange matchingEitherSpec)

/-- ITS FALSE NEIGHBOUR: 'it returns false'. Refute it at one input. -/
def matchingEitherWrong : ChangeSpec := { name := "matchingEither", fn := fun _ => fun
  | [d1, d2, d3, d4] => { results := [.lit (.bool false)], args := [d1, d2, d3, d4] }
  | _ => none }
def MatchingEitherWrongFalsely : Prop := matchingEitherRow.holds Try.pinned (OpenSpec.ofChange matchingEitherWrong)

/-- 'backflushlaw30.MatchingGreatest': WHATEVER THE INPUT: true; the input reads as it did. -/
def matchingGreatestSpec : ChangeSpec := { name := "matchingGreatest", fn := fun _ => fun
  | [d1, d2, d3, d4] => { results := [.lit (.bool true)], args := [d1, d2, d3, d4] }
  | _ => none }
def matchingGreatestRow : OpenClaim := { program := "ytmioocddmlfboaa", sum := "355c3a7a4134d50f13ce721ac5f13a6f648e1327bacb9765a2d00a2f1ada7c94", func := "backflush/backflushlaw30.MatchingGreatest", spec := "matchingGreatest", unfollowed := true, recurses := true, apart := false }
def MatchingGreatestSaid : Prop := matchingGreatestRow.holds Try.pinned (OpenSpec.ofChange matchingGreatestSpec)

/-- ITS FALSE NEIGHBOUR: 'it returns false'. Refute it at one input. -/
def matchingGreatestWrong : ChangeSpec := { name := "matchingGreatest", fn := fun _ => fun
  | [d1, d2, d3, d4] => { results := [.lit (.bool false)], args := [d1, d2, d3, d4] }
  | _ => none }
def MatchingGreatestWrongFalsely : Prop := matchingGreatestRow.holds Try.pinned (OpenSpec.ofChange matchingGreatestWrong)

/-- 'backflushlaw30.MatchingMore': WHATEVER THE INPUT: true; the input reads as it did. -/
def matchingMoreSpec : ChangeSpec := { name := "matchingMore", fn := fun _ => fun
  | [d1, d2, d3, d4, d5, d6, d7] => { results := [.lit (.bool true)], args := [d1, d2, d3, d4, d5, d6, d7] }
  | _ => none }
def matchingMoreRow : OpenClaim := { program := "ytmioocddmlfboaa", sum := "355c3a7a4134d50f13ce721ac5f13a6f648e1327bacb9765a2d00a2f1ada7c94", func := "backflush/backflushlaw30.MatchingMore", spec := "matchingMore", unfollowed := true, recurses := true, apart := false }
def MatchingMoreSaid : Prop := matchingMoreRow.holds Try.pinned (OpenSpec.ofChange matchingMoreSpec)

/-- ITS FALSE NEIGHBOUR: 'it returns false'. Refute it at one input. -/
def matchingMoreWrong : ChangeSpec := { name := "matchingMore", fn := fun _ => fun
  | [d1, d2, d3, d4, d5, d6, d7] => { results := [.lit (.bool false)], args := [d1, d2, d3, d4, d5, d6, d7] }
  | _ => none }
def MatchingMoreWrongFalsely : Prop := matchingMoreRow.holds Try.pinned (OpenSpec.ofChange matchingMoreWrong)

/-- 'backflushlaw30.MatchingMost': WHATEVER THE INPUT: true; the input reads as it did. -/
def matchingMostSpec : ChangeSpec := { name := "matchingMost", fn := fun _ => fun
  | [d1, d2, d3, d4, d5] => { results := [.lit (.bool true)], args := [d1, d2, d3, d4, d5] }
  | _ => none }
def matchingMostRow : OpenClaim := { program := "ytmioocddmlfboaa", sum := "355c3a7a4134d50f13ce721ac5f13a6f648e1327bacb9765a2d00a2f1ada7c94", func := "backflush/backflushlaw30.MatchingMost", spec := "matchingMost", unfollowed := true, recurses := true, apart := false }
def MatchingMostSaid : Prop := matchingMostRow.holds Try.pinned (OpenSpec.ofChange matchingMostSpec)

/-- ITS FALSE NEIGHBOUR: 'it returns false'. Refute it at one input. -/
def matchingMostWrong : ChangeSpec := { name := "matchingMost", fn := fun _ => fun
  | [d1, d2, d3, d4, d5] => { results := [.lit (.bool false)], args := [d1, d2, d3, d4, d5] }
  | _ => none }
def MatchingMostWrongFalsely : Prop := matchingMostRow.holds Try.pinned (OpenSpec.ofChange matchingMostWrong)

/- THE SECOND FORM. 'bulk': how many values and letters a reading holds, each counted each time it is reached (what is shared counts as often as it is met; a slice's spare places count too). A statement '..UptoSaid' is the law's where the arguments, and the package variables that the reading takes, are together of bulk at most 1048576: NARROWER than '..Said'. Prove '..Said' where nothing that the law and all that it calls make is longer than what came in: it says more and counts as full. Else prove '..UptoSaid'. A law counts once. -/
mutual
def uptoBulk {H : Type} : DataW H → Nat
  | .lit (.string bytes) => bytes.length + 1
  | .lit _ => 1
  | .nil => 1
  | .ptr d => uptoBulk d + 1
  | .slice elems spare => uptoBulkAll elems + uptoBulkAll spare + 1
  | .agg parts => uptoBulkAll parts + 1
  | .iface _ d => uptoBulk d + 1
  | .map entries => uptoBulkEntries entries + 1
  | .held _ => 1
def uptoBulkAll {H : Type} : List (DataW H) → Nat
  | [] => 0
  | d :: r => uptoBulk d + uptoBulkAll r
def uptoBulkEntries {H : Type} : List (Lit × DataW H) → Nat
  | [] => 0
  | x :: r => uptoBulkEntry x + uptoBulkEntries r
def uptoBulkEntry {H : Type} : Lit × DataW H → Nat
  | (.string bytes, d) => bytes.length + uptoBulk d + 1
  | (_, d) => uptoBulk d + 1
 end
def uptoSmall : (H : Type) → List (DataW H) → Bool := fun _ ds => decide (uptoBulkAll ds ≤ 1048576)
def OpenSpec.upto (s : _root_.Go.ChangeSpec) : _root_.Go.OpenSpec := { _root_.Go.OpenSpec.ofChange s with cond := some uptoSmall }

/-- 'backflushlaw30.MatchingCheckSpec', WHERE WHAT IT READS IS OF BULK AT MOST 1048576: true; the input reads as it did. -/
def matchingCheckSpecUptoRow : OpenClaim := { program := "ytmioocddmlfboaa", sum := "355c3a7a4134d50f13ce721ac5f13a6f648e1327bacb9765a2d00a2f1ada7c94", func := "backflush/backflushlaw30.MatchingCheckSpec", spec := "matchingCheckSpec", unfollowed := true, recurses := true, apart := false, narrowed := true }
def MatchingCheckSpecUptoSaid : Prop := matchingCheckSpecUptoRow.holds Try.pinned (OpenSpec.upto matchingCheckSpecSpec)

/-- 'backflushlaw30.MatchingSpec', WHERE WHAT IT READS IS OF BULK AT MOST 1048576: true; the input reads as it did. -/
def matchingSpecUptoRow : OpenClaim := { program := "ytmioocddmlfboaa", sum := "355c3a7a4134d50f13ce721ac5f13a6f648e1327bacb9765a2d00a2f1ada7c94", func := "backflush/backflushlaw30.MatchingSpec", spec := "matchingSpec", unfollowed := true, recurses := true, apart := false, narrowed := true }
def MatchingSpecUptoSaid : Prop := matchingSpecUptoRow.holds Try.pinned (OpenSpec.upto matchingSpecSpec)

/-- 'backflushlaw30.MatchingEither', WHERE WHAT IT READS IS OF BULK AT MOST 1048576: true; the input reads as it did. -/
def matchingEitherUptoRow : OpenClaim := { program := "ytmioocddmlfboaa", sum := "355c3a7a4134d50f13ce721ac5f13a6f648e1327bacb9765a2d00a2f1ada7c94", func := "backflush/backflushlaw30.MatchingEither", spec := "matchingEither", unfollowed := true, recurses := true, apart := false, narrowed := true }
def MatchingEitherUptoSaid : Prop := matchingEitherUptoRow.holds Try.pinned (OpenSpec.upto matchingEitherSpec)

/-- 'backflushlaw30.MatchingGreatest', WHERE WHAT IT READS IS OF BULK AT MOST 1048576: true; the input reads as it did. -/
def matchingGreatestUptoRow : OpenClaim := { program := "ytmioocddmlfboaa", sum := "355c3a7a4134d50f13ce721ac5f13a6f648e1327bacb9765a2d00a2f1ada7c94", func := "backflush/backflushlaw30.MatchingGreatest", spec := "matchingGreatest", unfollowed := true, recurses := true, apart := false, narrowed := true }
def MatchingGreatestUptoSaid : Prop := matchingGreatestUptoRow.holds Try.pinned (OpenSpec.upto matchingGreatestSpec)

/-- 'backflushlaw30.MatchingMore', WHERE WHAT IT READS IS OF BULK AT MOST 1048576: true; the input reads as it did. -/
def matchingMoreUptoRow : OpenClaim := { program := "ytmioocddmlfboaa", sum := "355c3a7a4134d50f13ce721ac5f13a6f648e1327bacb9765a2d00a2f1ada7c94", func := "backflush/backflushlaw30.MatchingMore", spec := "matchingMore", unfollowed := true, recurses := true, apart := false, narrowed := true }
def MatchingMoreUptoSaid : Prop := matchingMoreUptoRow.holds Try.pinned (OpenSpec.upto matchingMoreSpec)

/-- 'backflushlaw30.MatchingMost', WHERE WHAT IT READS IS OF BULK AT MOST 1048576: true; the input reads as it did. -/
def matchingMostUptoRow : OpenClaim := { program := "ytmioocddmlfboaa", sum := "355c3a7a4134d50f13ce721ac5f13a6f648e1327bacb9765a2d00a2f1ada7c94", func := "backflush/backflushlaw30.MatchingMost", spec := "matchingMost", unfollowed := true, recurses := true, apart := false, narrowed := true }
def MatchingMostUptoSaid : Prop := matchingMostUptoRow.holds Try.pinned (OpenSpec.upto matchingMostSpec)

end Rows
end Go.Proofs.Ytmioocddmlfboaa
