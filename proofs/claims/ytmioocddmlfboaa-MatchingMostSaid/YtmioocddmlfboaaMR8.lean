/-
  Matching: the row of MatchingMost.
  Conditions: none.
-/
import Derived.Test.YtmioocddmlfboaaM34
import Derived.Test.YtmioocddmlfboaaMA
namespace Go.Proofs.Ytmioocddmlfboaa
open Go Bf
open Go.ChangeShapes Go.WideShapes Go.ChangeAt Go.RowKit
set_option maxRecDepth 100000 in
theorem mostlaw_lifted (os : Os) (started : os.Started) (H : Type) (enc : TypeId × Value → H) :
    ReturnsInHanded {} Try.checked os 8 .any (Rows.matchingMostSpec.pre6 enc Try.prog Try.f8 Rows.matchingMostRow.domain false) (Rows.matchingMostSpec.post enc Try.prog Try.f8 false true false false) :=
  lift_true (C := Try.checked) (ts := [22, 23, 23, 45, 23]) (tb := 4) started ownT' (by kernel_rfl) Try.func8
    (ChangeSpec.witness6 (enc := enc) (C := Try.checked) false ⟨#[], #[.slice none 0 0, .slice none 0 0, .slice none 0 0, .int .u16 0, .slice none 0 0], []⟩ 8 (by kernel_rfl) (by kernel_rfl) (by kernel_rfl) (by kernel_rfl))
    (by rw [Try.params8]) laidT' (by kernel_rfl) rfl (fun ds h => match ds, h with | [_, _, _, _, _], _ => rfl) rfl Try.underlying4
    (fun W base vs hl ha => by
      obtain ⟨v0, v1, v2, v3, v4, rfl⟩ := len5 hl
      obtain ⟨a, aA, ac, rfl, ha_⟩ := arg_rows (ha 0 22 v0 rfl rfl)
      obtain ⟨b, bA, bc, rfl, hb, rb⟩ := arg_ints (ha 1 23 v1 rfl rfl)
      obtain ⟨c, cA, cc, rfl, hc, rc⟩ := arg_ints (ha 2 23 v2 rfl rfl)
      obtain ⟨d, rfl, hd⟩ := arg_u16 (ha 3 45 v3 rfl rfl)
      obtain ⟨e, eA, ec, rfl, he, re⟩ := arg_ints (ha 4 23 v4 rfl rfl)
      exact mostlaw_fn _ aA bA cA eA ac bc cc ec a b c d e ha_ hb hc he rb rc hd)
theorem matchingMost_holds : Rows.MatchingMostSaid :=
  OpenClaim.holds_of_wide 8 Try.f8 rfl rfl rfl rfl rfl rfl rfl ⟨rfl, rfl, rfl, rfl, rfl⟩ rfl rfl rfl rfl rfl (by kernel_rfl) Try.func8 (by kernel_rfl)
    (of_decide_eq_true (by kernel_rfl)) (by unfold Func.isWrapper; first | (rw [if_pos (by decide +kernel)]; kernel_rfl) | (rw [if_neg (by decide +kernel)]; exact ⟨rfl, rfl⟩))
    (fun os started H enc _ => mostlaw_lifted os started H enc)
end Go.Proofs.Ytmioocddmlfboaa
