/-
  The codec: the row of CodecSameSpec.
  Conditions: none.
-/
import Derived.Test.YtgcjpicnibeemaaC20
import Derived.Test.YtgcjpicnibeemaaC15
namespace Go.Proofs.Ytgcjpicnibeemaa
open Go Bf
open Go.ChangeShapes Go.WideShapes Go.ChangeAt Go.RowKit
set_option maxRecDepth 100000 in
theorem samespec_lifted (os : Os) (started : os.Started) (H : Type) (enc : TypeId × Value → H) :
    ReturnsInHanded {} Try.checked os 5 .any (Rows.codecSameSpecSpec.pre6 enc Try.prog Try.f5 Rows.codecSameSpecRow.domain false) (Rows.codecSameSpecSpec.post enc Try.prog Try.f5 false true false false) :=
  lift_true (C := Try.checked) (ts := [24, 24]) (tb := 4) started ownT' (by kernel_rfl) Try.func5
    (ChangeSpec.witness6 (enc := enc) (C := Try.checked) false ⟨#[], #[.agg #[.int .i64 0, .int .i64 0, .string ⟨#[]⟩, .slice none 0 0], .agg #[.int .i64 0, .int .i64 0, .string ⟨#[]⟩, .slice none 0 0]], []⟩ 8 (by kernel_rfl) (by kernel_rfl) (by kernel_rfl) (by kernel_rfl))
    (by rw [Try.params5]) laidT' (by kernel_rfl) rfl (fun ds h => match ds, h with | [_, _], _ => rfl) rfl Try.underlying4
    (fun W base vs hl ha => by
      obtain ⟨v0, v1, rfl⟩ := len2 hl
      obtain ⟨x, hx⟩ := arg_val (ha 0 24 v0 rfl rfl)
      obtain ⟨y, hy⟩ := arg_val (ha 1 24 v1 rfl rfl)
      exact samespec_fn _ x y _ _ hx hy)
theorem codecSameSpec_holds : Rows.CodecSameSpecSaid :=
  OpenClaim.holds_of_wide 5 Try.f5 rfl rfl rfl rfl rfl rfl rfl ⟨rfl, rfl, rfl, rfl, rfl⟩ rfl rfl rfl rfl rfl (by kernel_rfl) Try.func5 (by kernel_rfl)
    (of_decide_eq_true (by kernel_rfl)) (by unfold Func.isWrapper; first | (rw [if_pos (by decide +kernel)]; kernel_rfl) | (rw [if_neg (by decide +kernel)]; exact ⟨rfl, rfl⟩))
    (fun os started H enc _ => samespec_lifted os started H enc)
end Go.Proofs.Ytgcjpicnibeemaa
