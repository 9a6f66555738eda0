/-
  The codec: the row of CodecEncodeSpec.
  Conditions: none.
-/
import Derived.Test.YtgcjpicnibeemaaC20
import Derived.Test.YtgcjpicnibeemaaC15
namespace Go.Proofs.Ytgcjpicnibeemaa
open Go Bf
open Go.ChangeShapes Go.WideShapes Go.ChangeAt Go.RowKit
set_option maxRecDepth 100000 in
theorem encodespec_lifted (os : Os) (started : os.Started) (H : Type) (enc : TypeId × Value → H) :
    ReturnsInHanded {} Try.checked os 3 .any (Rows.codecEncodeSpecSpec.pre6 enc Try.prog Try.f3 Rows.codecEncodeSpecRow.domain false) (Rows.codecEncodeSpecSpec.post enc Try.prog Try.f3 false true false false) :=
  lift_true (C := Try.checked) (ts := [24]) (tb := 4) started ownT' (by kernel_rfl) Try.func3
    (ChangeSpec.witness6 (enc := enc) (C := Try.checked) false ⟨#[], #[.agg #[.int .i64 0, .int .i64 0, .string ⟨#[]⟩, .slice none 0 0]], []⟩ 8 (by kernel_rfl) (by kernel_rfl) (by kernel_rfl) (by kernel_rfl))
    (by rw [Try.params3]) laidT' (by kernel_rfl) rfl (fun ds h => match ds, h with | [_], _ => rfl) rfl Try.underlying4
    (fun W base vs hl ha => by
      obtain ⟨v0, rfl⟩ := len1 hl
      obtain ⟨x, hx⟩ := arg_val (ha 0 24 v0 rfl rfl)
      exact encodespec_fn _ x _ hx)
theorem codecEncodeSpec_holds : Rows.CodecEncodeSpecSaid :=
  OpenClaim.holds_of_wide 3 Try.f3 rfl rfl rfl rfl rfl rfl rfl ⟨rfl, rfl, rfl, rfl, rfl⟩ rfl rfl rfl rfl rfl (by kernel_rfl) Try.func3 (by kernel_rfl)
    (of_decide_eq_true (by kernel_rfl)) (by unfold Func.isWrapper; first | (rw [if_pos (by decide +kernel)]; kernel_rfl) | (rw [if_neg (by decide +kernel)]; exact ⟨rfl, rfl⟩))
    (fun os started H enc _ => encodespec_lifted os started H enc)
end Go.Proofs.Ytgcjpicnibeemaa
