/-
  NARROWER THAN 'FOR EVERY INPUT', by the rows' own cells (each row's printed sentence says how): DigestSumSpec: laid · DigestTreeSpec: laid · DigestTags: laid · DigestClimbs: laid · DigestHalves: laid · DigestNext: laid · DigestPlaces: laid · DigestChains: laid.
  DERIVED. THE GIVEN ROWS OF THIS SEAT. 8 by the template 'for every input the law returns true; each argument reads behind the call as it read before'; 0 by the template 'total and deterministic' (their statements: YtoaepelmhmddmaaDoorTotals.lean).
  GIVEN WITH THE SEED: the statements are not yours to turn. If you find one false, say at which input.
  Laid BY PROGRAM, IN A SANDBOX (cutbox-rows.mjs): the forced cells as the released guide's own fill.sh prints them over the translation 932832eaf88f3e81… (all of the seat's roots in one cut). By AI agents, Wed Nov 11 2026. No macro, syntax, notation, axiom, sorry.
-/
import Derived.Test.YtoaepelmhmddmaaDoorChecked
import GoSem.Claim
import GoSem.ClaimJoined
import GoSem.ClaimMapViews
import Derived.JoinedTies
import Derived.KernelRfl
namespace Go.Proofs.YtoaepelmhmddmaaDoor
/- THE CELL 'sum', in the pinned program and in every row, IS THE sha256 OF THE DUMP (.gsa) THAT YtoaepelmhmddmaaDoorProg.lean LOADS. Nothing in Lean hashes anything: it is a label: what it is worth is what the hold of that sum in a sandbox is worth. -/
noncomputable def Tryd.pinned : Pinned := { name := "ytoaepelmhmddmaadoor", sum := "932832eaf88f3e8116ef5e70157cb6a08cbfb58f6eaf10c9027fcc9a2680283f", checked := Tryd.checked }
namespace Rows
def none {H : Type} : Left H := { results := [], args := [] }

/- WHAT THE LISTED PACKAGE-LEVEL VARIABLES READ AS WHEN THE CALL BEGINS. Each datum BY PROGRAM (the guide's laid-datum.mjs) off the statement by which the dump's own 'gosem.cut.vars' lays the variable. In a bare row this is a premise. The card (YtoaepelmhmddmaaDoorCards.lean) ties it to the program's text. -/
def laid_backflush_digest_constants {H : Type} : DataW H := .agg [.lit (.int .u32 1116352408), .lit (.int .u32 1899447441), .lit (.int .u32 3049323471), .lit (.int .u32 3921009573), .lit (.int .u32 961987163), .lit (.int .u32 1508970993), .lit (.int .u32 2453635748), .lit (.int .u32 2870763221), .lit (.int .u32 3624381080), .lit (.int .u32 310598401), .lit (.int .u32 607225278), .lit (.int .u32 1426881987), .lit (.int .u32 1925078388), .lit (.int .u32 2162078206), .lit (.int .u32 2614888103), .lit (.int .u32 3248222580), .lit (.int .u32 3835390401), .lit (.int .u32 4022224774), .lit (.int .u32 264347078), .lit (.int .u32 604807628), .lit (.int .u32 770255983), .lit (.int .u32 1249150122), .lit (.int .u32 1555081692), .lit (.int .u32 1996064986), .lit (.int .u32 2554220882), .lit (.int .u32 2821834349), .lit (.int .u32 2952996808), .lit (.int .u32 3210313671), .lit (.int .u32 3336571891), .lit (.int .u32 3584528711), .lit (.int .u32 113926993), .lit (.int .u32 338241895), .lit (.int .u32 666307205), .lit (.int .u32 773529912), .lit (.int .u32 1294757372), .lit (.int .u32 1396182291), .lit (.int .u32 1695183700), .lit (.int .u32 1986661051), .lit (.int .u32 2177026350), .lit (.int .u32 2456956037), .lit (.int .u32 2730485921), .lit (.int .u32 2820302411), .lit (.int .u32 3259730800), .lit (.int .u32 3345764771), .lit (.int .u32 3516065817), .lit (.int .u32 3600352804), .lit (.int .u32 4094571909), .lit (.int .u32 275423344), .lit (.int .u32 430227734), .lit (.int .u32 506948616), .lit (.int .u32 659060556), .lit (.int .u32 883997877), .lit (.int .u32 958139571), .lit (.int .u32 1322822218), .lit (.int .u32 1537002063), .lit (.int .u32 1747873779), .lit (.int .u32 1955562222), .lit (.int .u32 2024104815), .lit (.int .u32 2227730452), .lit (.int .u32 2361852424), .lit (.int .u32 2428436474), .lit (.int .u32 2756734187), .lit (.int .u32 3204031479), .lit (.int .u32 3329325298)]

/-- 'backflushlaw02.DigestSumSpec': WHATEVER THE INPUT: true; the input reads as it did. -/
def digestSumSpecSpec : ChangeSpec := { name := "digestSumSpec", fn := fun _ => fun
  | [d1, d2, d3] => { results := [.lit (.bool true)], args := [d1, d2, d3] }
  | _ => none }
def digestSumSpecRow : OpenClaim := { program := "ytoaepelmhmddmaadoor", sum := "932832eaf88f3e8116ef5e70157cb6a08cbfb58f6eaf10c9027fcc9a2680283f", func := "backflush/backflushlaw02.DigestSumSpec", spec := "digestSumSpec", unfollowed := true, recurses := true, named := ["backflush/digest.constants"], apart := false, laid := [("backflush/digest.constants", laid_backflush_digest_constants)] }
def DigestSumSpecSaid : Prop := digestSumSpecRow.holds Tryd.pinned (OpenSpec.ofChange digestSumSpecSpec)

/-- ITS FALSE NEIGHBOUR: 'it returns false'. Refute it at one input. -/
def digestSumSpecWrong : ChangeSpec := { name := "digestSumSpec", fn := fun _ => fun
  | [d1, d2, d3] => { results := [.lit (.bool false)], args := [d1, d2, d3] }
  | _ => none }
def DigestSumSpecWrongFalsely : Prop := digestSumSpecRow.holds Tryd.pinned (OpenSpec.ofChange digestSumSpecWrong)

/-- 'backflushlaw02.DigestTreeSpec': WHATEVER THE INPUT: true; the input reads as it did. -/
def digestTreeSpecSpec : ChangeSpec := { name := "digestTreeSpec", fn := fun _ => fun
  | [d1, d2, d3, d4] => { results := [.lit (.bool true)], args := [d1, d2, d3, d4] }
  | _ => none }
def digestTreeSpecRow : OpenClaim := { program := "ytoaepelmhmddmaadoor", sum := "932832eaf88f3e8116ef5e70157cb6a08cbfb58f6eaf10c9027fcc9a2680283f", func := "backflush/backflushlaw02.DigestTreeSpec", spec := "digestTreeSpec", unfollowed := true, recurses := true, named := ["backflush/digest.constants"], apart := false, laid := [("backflush/digest.constants", laid_backflush_digest_constants)] }
def DigestTreeSpecSaid : Prop := digestTreeSpecRow.holds Tryd.pinned (OpenSpec.ofChange digestTreeSpecSpec)

/-- ITS FALSE NEIGHBOUR: 'it returns false'. Refute it at one input. -/
def digestTreeSpecWrong : ChangeSpec := { name := "digestTreeSpec", fn := fun _ => fun
  | [d1, d2, d3, d4] => { results := [.lit (.bool false)], args := [d1, d2, d3, d4] }
  | _ => none }
def DigestTreeSpecWrongFalsely : Prop := digestTreeSpecRow.holds Tryd.pinned (OpenSpec.ofChange digestTreeSpecWrong)

/-- 'backflushlaw02.DigestTags': WHATEVER THE INPUT: true; the input reads as it did. -/
def digestTagsSpec : ChangeSpec := { name := "digestTags", fn := fun _ => fun
  | [d1, d2] => { results := [.lit (.bool true)], args := [d1, d2] }
  | _ => none }
def digestTagsRow : OpenClaim := { program := "ytoaepelmhmddmaadoor", sum := "932832eaf88f3e8116ef5e70157cb6a08cbfb58f6eaf10c9027fcc9a2680283f", func := "backflush/backflushlaw02.DigestTags", spec := "digestTags", unfollowed := true, recurses := true, named := ["backflush/digest.constants"], apart := false, laid := [("backflush/digest.constants", laid_backflush_digest_constants)] }
def DigestTagsSaid : Prop := digestTagsRow.holds Tryd.pinned (OpenSpec.ofChange digestTagsSpec)

/-- ITS FALSE NEIGHBOUR: 'it returns false'. Refute it at one input. -/
def digestTagsWrong : ChangeSpec := { name := "digestTags", fn := fun _ => fun
  | [d1, d2] => { results := [.lit (.bool false)], args := [d1, d2] }
  | _ => none }
def DigestTagsWrongFalsely : Prop := digestTagsRow.holds Tryd.pinned (OpenSpec.ofChange digestTagsWrong)

/-- 'backflushlaw02.DigestClimbs': WHATEVER THE INPUT: true; the input reads as it did. -/
def digestClimbsSpec : ChangeSpec := { name := "digestClimbs", fn := fun _ => fun
  | [d] => { results := [.lit (.bool true)], args := [d] }
  | _ => none }
def digestClimbsRow : OpenClaim := { program := "ytoaepelmhmddmaadoor", sum := "932832eaf88f3e8116ef5e70157cb6a08cbfb58f6eaf10c9027fcc9a2680283f", func := "backflush/backflushlaw02.DigestClimbs", spec := "digestClimbs", unfollowed := true, recurses := true, named := ["backflush/digest.constants"], apart := false, laid := [("backflush/digest.constants", laid_backflush_digest_constants)] }
def DigestClimbsSaid : Prop := digestClimbsRow.holds Tryd.pinned (OpenSpec.ofChange digestClimbsSpec)

/-- ITS FALSE NEIGHBOUR: 'it returns false'. Refute it at one input. -/
def digestClimbsWrong : ChangeSpec := { name := "digestClimbs", fn := fun _ => fun
  | [d] => { results := [.lit (.bool false)], args := [d] }
  | _ => none }
def DigestClimbsWrongFalsely : Prop := digestClimbsRow.holds Tryd.pinned (OpenSpec.ofChange digestClimbsWrong)

/-- 'backflushlaw02.DigestHalves': WHATEVER THE INPUT: true; the input reads as it did. -/
def digestHalvesSpec : ChangeSpec := { name := "digestHalves", fn := fun _ => fun
  | [d] => { results := [.lit (.bool true)], args := [d] }
  | _ => none }
def digestHalvesRow : OpenClaim := { program := "ytoaepelmhmddmaadoor", sum := "932832eaf88f3e8116ef5e70157cb6a08cbfb58f6eaf10c9027fcc9a2680283f", func := "backflush/backflushlaw02.DigestHalves", spec := "digestHalves", unfollowed := true, recurses := true, named := ["backflush/digest.constants"], apart := false, laid := [("backflush/digest.constants", laid_backflush_digest_constants)] }
def DigestHalvesSaid : Prop := digestHalvesRow.holds Tryd.pinned (OpenSpec.ofChange digestHalvesSpec)

/-- ITS FALSE NEIGHBOUR: 'it returns false'. Refute it at one input. -/
def digestHalvesWrong : ChangeSpec := { name := "digestHalves", fn := fun _ => fun
  | [d] => { results := [.lit (.bool false)], args := [d] }
  | _ => none }
def DigestHalvesWrongFalsely : Prop := digestHalvesRow.holds Tryd.pinned (OpenSpec.ofChange digestHalvesWrong)

/-- 'backflushlaw02.DigestNext': WHATEVER THE INPUT: true; the input reads as it did. -/
def digestNextSpec : ChangeSpec := { name := "digestNext", fn := fun _ => fun
  | [d1, d2] => { results := [.lit (.bool true)], args := [d1, d2] }
  | _ => none }
def digestNextRow : OpenClaim := { program := "ytoaepelmhmddmaadoor", sum := "932832eaf88f3e8116ef5e70157cb6a08cbfb58f6eaf10c9027fcc9a2680283f", func := "backflush/backflushlaw02.DigestNext", spec := "digestNext", unfollowed := true, recurses := true, named := ["backflush/digest.constants"], apart := false, laid := [("backflush/digest.constants", laid_backflush_digest_constants)] }
def DigestNextSaid : Prop := digestNextRow.holds Tryd.pinned (OpenSpec.ofChange digestNextSpec)

/-- ITS FALSE NEIGHBOUR: 'it returns false'. Refute it at one input. -/
def digestNextWrong : ChangeSpec := { name := "digestNext", fn := fun _ => fun
  | [d1, d2] => { results := [.lit (.bool false)], args := [d1, d2] }
  | _ => none }
def DigestNextWrongFalsely : Prop := digestNextRow.holds Tryd.pinned (OpenSpec.ofChange digestNextWrong)

/-- 'backflushlaw02.DigestPlaces': WHATEVER THE INPUT: true; the input reads as it did. -/
def digestPlacesSpec : ChangeSpec := { name := "digestPlaces", fn := fun _ => fun
  | [d1, d2, d3] => { results := [.lit (.bool true)], args := [d1, d2, d3] }
  | _ => none }
def digestPlacesRow : OpenClaim := { program := "ytoaepelmhmddmaadoor", sum := "932832eaf88f3e8116ef5e70157cb6a08cbfb58f6eaf10c9027fcc9a2680283f", func := "backflush/backflushlaw02.DigestPlaces", spec := "digestPlaces", unfollowed := true, recurses := true, named := ["backflush/digest.constants"], apart := false, laid := [("backflush/digest.constants", laid_backflush_digest_constants)] }
def DigestPlacesSaid : Prop := digestPlacesRow.holds Tryd.pinned (OpenSpec.ofChange digestPlacesSpec)

/-- ITS FALSE NEIGHBOUR: 'it returns false'. Refute it at one input. -/
def digestPlacesWrong : ChangeSpec := { name := "digestPlaces", fn := fun _ => fun
  | [d1, d2, d3] => { results := [.lit (.bool false)], args := [d1, d2, d3] }
  | _ => none }
def DigestPlacesWrongFalsely : Prop := digestPlacesRow.holds Tryd.pinned (OpenSpec.ofChange digestPlacesWrong)

/-- 'backflushlaw02.DigestChains': WHATEVER THE INPUT: true; the input reads as it did. -/
def digestChainsSpec : ChangeSpec := { name := "digestChains", fn := fun _ => fun
  | [d1, d2] => { results := [.lit (.bool true)], args := [d1, d2] }
  | _ => none }
def digestChainsRow : OpenClaim := { program := "ytoaepelmhmddmaadoor", sum := "932832eaf88f3e8116ef5e70157cb6a08cbfb58f6eaf10c9027fcc9a2680283f", func := "backflush/backflushlaw02.DigestChains", spec := "digestChains", unfollowed := true, recurses := true, named := ["backflush/digest.constants"], apart := false, laid := [("backflush/digest.constants", laid_backflush_digest_constants)] }
def DigestChainsSaid : Prop := digestChainsRow.holds Tryd.pinned (OpenSpec.ofChange digestChainsSpec)

/-- ITS FALSE NEIGHBOUR: 'it returns false'. Refute it at one input. -/
def digestChainsWrong : ChangeSpec := { name := "digestChains", fn := fun _ => fun
  | [d1, d2] => { results := [.lit (.bool false)], args := [d1, d2] }
  | _ => none }
def DigestChainsWrongFalsely : Prop := digestChainsRow.holds Tryd.pinned (OpenSpec.ofChange digestChainsWrong)

/- THE SECOND FORM. 'bulk': how many values and letters a reading holds, each counted each time it is reached (what is shared counts as often as it is met; a slice's spare places count too). A statement '..UptoSaid' is the law's where the arguments, and the package variables that the reading takes, are together of bulk at most 1048576: NARROWER than '..Said'. Prove '..Said' where nothing that the law and all that it calls make is longer than what came in: it says more and counts as full. Else prove '..UptoSaid'. A law counts once. -/
mutual
def uptoBulk {H : Type} : DataW H → Nat
  | .lit (.string bytes) => bytes.length + 1
  | .lit _ => 1
  | .nil => 1
  | .ptr d => uptoBulk d + 1
  | .slice elems spare => uptoBulkAll elems + uptoBulkAll spare + 1
  | .agg parts => uptoBulkAll parts + 1
  | .iface _ d => uptoBulk d + 1
  | .map entries => uptoBulkEntries entries + 1
  | .held _ => 1
def uptoBulkAll {H : Type} : List (DataW H) → Nat
  | [] => 0
  | d :: r => uptoBulk d + uptoBulkAll r
def uptoBulkEntries {H : Type} : List (Lit × DataW H) → Nat
  | [] => 0
  | x :: r => uptoBulkEntry x + uptoBulkEntries r
def uptoBulkEntry {H : Type} : Lit × DataW H → Nat
  | (.string bytes, d) => bytes.length + uptoBulk d + 1
  | (_, d) => uptoBulk d + 1
 end
def uptoSmall : (H : Type) → List (DataW H) → Bool := fun _ ds => decide (uptoBulkAll ds ≤ 1048576)
def OpenSpec.upto (s : _root_.Go.ChangeSpec) : _root_.Go.OpenSpec := { _root_.Go.OpenSpec.ofChange s with cond := some uptoSmall }

/-- 'backflushlaw02.DigestSumSpec', WHERE WHAT IT READS IS OF BULK AT MOST 1048576: true; the input reads as it did. -/
def digestSumSpecUptoRow : OpenClaim := { program := "ytoaepelmhmddmaadoor", sum := "932832eaf88f3e8116ef5e70157cb6a08cbfb58f6eaf10c9027fcc9a2680283f", func := "backflush/backflushlaw02.DigestSumSpec", spec := "digestSumSpec", unfollowed := true, recurses := true, named := ["backflush/digest.constants"], apart := false, laid := [("backflush/digest.constants", laid_backflush_digest_constants)], narrowed := true }
def DigestSumSpecUptoSaid : Prop := digestSumSpecUptoRow.holds Tryd.pinned (OpenSpec.upto digestSumSpecSpec)

/-- 'backflushlaw02.DigestTreeSpec', WHERE WHAT IT READS IS OF BULK AT MOST 1048576: true; the input reads as it did. -/
def digestTreeSpecUptoRow : OpenClaim := { program := "ytoaepelmhmddmaadoor", sum := "932832eaf88f3e8116ef5e70157cb6a08cbfb58f6eaf10c9027fcc9a2680283f", func := "backflush/backflushlaw02.DigestTreeSpec", spec := "digestTreeSpec", unfollowed := true, recurses := true, named := ["backflush/digest.constants"], apart := false, laid := [("backflush/digest.constants", laid_backflush_digest_constants)], narrowed := true }
def DigestTreeSpecUptoSaid : Prop := digestTreeSpecUptoRow.holds Tryd.pinned (OpenSpec.upto digestTreeSpecSpec)

/-- 'backflushlaw02.DigestTags', WHERE WHAT IT READS IS OF BULK AT MOST 1048576: true; the input reads as it did. -/
def digestTagsUptoRow : OpenClaim := { program := "ytoaepelmhmddmaadoor", sum := "932832eaf88f3e8116ef5e70157cb6a08cbfb58f6eaf10c9027fcc9a2680283f", func := "backflush/backflushlaw02.DigestTags", spec := "digestTags", unfollowed := true, recurses := true, named := ["backflush/digest.constants"], apart := false, laid := [("backflush/digest.constants", laid_backflush_digest_constants)], narrowed := true }
def DigestTagsUptoSaid : Prop := digestTagsUptoRow.holds Tryd.pinned (OpenSpec.upto digestTagsSpec)

/-- 'backflushlaw02.DigestClimbs', WHERE WHAT IT READS IS OF BULK AT MOST 1048576: true; the input reads as it did. -/
def digestClimbsUptoRow : OpenClaim := { program := "ytoaepelmhmddmaadoor", sum := "932832eaf88f3e8116ef5e70157cb6a08cbfb58f6eaf10c9027fcc9a2680283f", func := "backflush/backflushlaw02.DigestClimbs", spec := "digestClimbs", unfollowed := true, recurses := true, named := ["backflush/digest.constants"], apart := false, laid := [("backflush/digest.constants", laid_backflush_digest_constants)], narrowed := true }
def DigestClimbsUptoSaid : Prop := digestClimbsUptoRow.holds Tryd.pinned (OpenSpec.upto digestClimbsSpec)

/-- 'backflushlaw02.DigestHalves', WHERE WHAT IT READS IS OF BULK AT MOST 1048576: true; the input reads as it did. -/
def digestHalvesUptoRow : OpenClaim := { program := "ytoaepelmhmddmaadoor", sum := "932832eaf88f3e8116ef5e70157cb6a08cbfb58f6eaf10c9027fcc9a2680283f", func := "backflush/backflushlaw02.DigestHalves", spec := "digestHalves", unfollowed := true, recurses := true, named := ["backflush/digest.constants"], apart := false, laid := [("backflush/digest.constants", laid_backflush_digest_constants)], narrowed := true }
def DigestHalvesUptoSaid : Prop := digestHalvesUptoRow.holds Tryd.pinned (OpenSpec.upto digestHalvesSpec)

/-- 'backflushlaw02.DigestNext', WHERE WHAT IT READS IS OF BULK AT MOST 1048576: true; the input reads as it did. -/
def digestNextUptoRow : OpenClaim := { program := "ytoaepelmhmddmaadoor", sum := "932832eaf88f3e8116ef5e70157cb6a08cbfb58f6eaf10c9027fcc9a2680283f", func := "backflush/backflushlaw02.DigestNext", spec := "digestNext", unfollowed := true, recurses := true, named := ["backflush/digest.constants"], apart := false, laid := [("backflush/digest.constants", laid_backflush_digest_constants)], narrowed := true }
def DigestNextUptoSaid : Prop := digestNextUptoRow.holds Tryd.pinned (OpenSpec.upto digestNextSpec)

/-- 'backflushlaw02.DigestPlaces', WHERE WHAT IT READS IS OF BULK AT MOST 1048576: true; the input reads as it did. -/
def digestPlacesUptoRow : OpenClaim := { program := "ytoaepelmhmddmaadoor", sum := "932832eaf88f3e8116ef5e70157cb6a08cbfb58f6eaf10c9027fcc9a2680283f", func := "backflush/backflushlaw02.DigestPlaces", spec := "digestPlaces", unfollowed := true, recurses := true, named := ["backflush/digest.constants"], apart := false, laid := [("backflush/digest.constants", laid_backflush_digest_constants)], narrowed := true }
def DigestPlacesUptoSaid : Prop := digestPlacesUptoRow.holds Tryd.pinned (OpenSpec.upto digestPlacesSpec)

/-- 'backflushlaw02.DigestChains', WHERE WHAT IT READS IS OF BULK AT MOST 1048576: true; the input reads as it did. -/
def digestChainsUptoRow : OpenClaim := { program := "ytoaepelmhmddmaadoor", sum := "932832eaf88f3e8116ef5e70157cb6a08cbfb58f6eaf10c9027fcc9a2680283f", func := "backflush/backflushlaw02.DigestChains", spec := "digestChains", unfollowed := true, recurses := true, named := ["backflush/digest.constants"], apart := false, laid := [("backflush/digest.constants", laid_backflush_digest_constants)], narrowed := true }
def DigestChainsUptoSaid : Prop := digestChainsUptoRow.holds Tryd.pinned (OpenSpec.upto digestChainsSpec)

end Rows
end Go.Proofs.YtoaepelmhmddmaaDoor
