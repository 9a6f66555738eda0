/-
  The codec: the row of CodecDecodeSpec.
  Conditions: none.
-/
import Derived.Test.YtgcjpicnibeemaaC24
import Derived.Test.YtgcjpicnibeemaaC15
namespace Go.Proofs.Ytgcjpicnibeemaa
open Go Bf
open Go.ChangeShapes Go.WideShapes Go.ChangeAt Go.RowKit
set_option maxRecDepth 100000 in
theorem decodespec_lifted (os : Os) (started : os.Started) (H : Type) (enc : TypeId × Value → H) :
    ReturnsInHanded {} Try.checked os 4 .any (Rows.codecDecodeSpecSpec.pre6 enc Try.prog Try.f4 Rows.codecDecodeSpecRow.domain false) (Rows.codecDecodeSpecSpec.post enc Try.prog Try.f4 false true false false) :=
  lift_true (C := Try.checked) (ts := [27]) (tb := 4) started ownT' (by kernel_rfl) Try.func4
    (ChangeSpec.witness6 (enc := enc) (C := Try.checked) false ⟨#[], #[.slice none 0 0], []⟩ 8 (by kernel_rfl) (by kernel_rfl) (by kernel_rfl) (by kernel_rfl))
    (by rw [Try.params4]) laidT' (by kernel_rfl) rfl (fun ds h => match ds, h with | [_], _ => rfl) rfl Try.underlying4
    (fun W base vs hl ha => by
      obtain ⟨v0, rfl⟩ := len1 hl
      obtain ⟨b, bA, bc, rfl, hb⟩ := arg_bytes (ha 0 27 v0 rfl rfl)
      exact decodespec_fn _ b bA bc hb)
theorem codecDecodeSpec_holds : Rows.CodecDecodeSpecSaid :=
  OpenClaim.holds_of_wide 4 Try.f4 rfl rfl rfl rfl rfl rfl rfl ⟨rfl, rfl, rfl, rfl, rfl⟩ rfl rfl rfl rfl rfl (by kernel_rfl) Try.func4 (by kernel_rfl)
    (of_decide_eq_true (by kernel_rfl)) (by unfold Func.isWrapper; first | (rw [if_pos (by decide +kernel)]; kernel_rfl) | (rw [if_neg (by decide +kernel)]; exact ⟨rfl, rfl⟩))
    (fun os started H enc _ => decodespec_lifted os started H enc)
end Go.Proofs.Ytgcjpicnibeemaa
