/-
  Matching: the row of MatchingGreatest.
  Conditions: none.
-/
import Derived.Test.YtmioocddmlfboaaM28
import Derived.Test.YtmioocddmlfboaaMA
namespace Go.Proofs.Ytmioocddmlfboaa
open Go Bf
open Go.ChangeShapes Go.WideShapes Go.ChangeAt Go.RowKit
set_option maxRecDepth 100000 in
theorem greatest_lifted (os : Os) (started : os.Started) (H : Type) (enc : TypeId × Value → H) :
    ReturnsInHanded {} Try.checked os 6 .any (Rows.matchingGreatestSpec.pre6 enc Try.prog Try.f6 Rows.matchingGreatestRow.domain false) (Rows.matchingGreatestSpec.post enc Try.prog Try.f6 false true false false) :=
  lift_true (C := Try.checked) (ts := [22, 23, 23, 24]) (tb := 4) started ownT' (by kernel_rfl) Try.func6
    (ChangeSpec.witness6 (enc := enc) (C := Try.checked) false ⟨#[], #[.slice none 0 0, .slice none 0 0, .slice none 0 0, .slice none 0 0], []⟩ 8 (by kernel_rfl) (by kernel_rfl) (by kernel_rfl) (by kernel_rfl))
    (by rw [Try.params6]) laidT' (by kernel_rfl) rfl (fun ds h => match ds, h with | [_, _, _, _], _ => rfl) rfl Try.underlying4
    (fun W base vs hl ha => by
      obtain ⟨v0, v1, v2, v3, rfl⟩ := len4 hl
      obtain ⟨a, aA, ac, rfl, ha_⟩ := arg_rows (ha 0 22 v0 rfl rfl)
      obtain ⟨b, bA, bc, rfl, hb, rb⟩ := arg_ints (ha 1 23 v1 rfl rfl)
      obtain ⟨c, cA, cc, rfl, hc, rc⟩ := arg_ints (ha 2 23 v2 rfl rfl)
      obtain ⟨d, dA, dc, rfl, hd⟩ := arg_rowsI (ha 3 24 v3 rfl rfl)
      exact greatest_fn _ aA bA cA dA ac bc cc dc a b c d ha_ hb hc hd rb rc)
theorem matchingGreatest_holds : Rows.MatchingGreatestSaid :=
  OpenClaim.holds_of_wide 6 Try.f6 rfl rfl rfl rfl rfl rfl rfl ⟨rfl, rfl, rfl, rfl, rfl⟩ rfl rfl rfl rfl rfl (by kernel_rfl) Try.func6 (by kernel_rfl)
    (of_decide_eq_true (by kernel_rfl)) (by unfold Func.isWrapper; first | (rw [if_pos (by decide +kernel)]; kernel_rfl) | (rw [if_neg (by decide +kernel)]; exact ⟨rfl, rfl⟩))
    (fun os started H enc _ => greatest_lifted os started H enc)
end Go.Proofs.Ytmioocddmlfboaa
