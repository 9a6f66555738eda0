/-
  The codec: the row of CodecRoundTrip.
  Conditions: none.
-/
import Derived.Test.YtgcjpicnibeemaaC21
import Derived.Test.YtgcjpicnibeemaaC15
namespace Go.Proofs.Ytgcjpicnibeemaa
open Go Bf
open Go.ChangeShapes Go.WideShapes Go.ChangeAt Go.RowKit
set_option maxRecDepth 100000 in
theorem roundtrip_lifted (os : Os) (started : os.Started) (H : Type) (enc : TypeId × Value → H) :
    ReturnsInHanded {} Try.checked os 6 .any (Rows.codecRoundTripSpec.pre6 enc Try.prog Try.f6 Rows.codecRoundTripRow.domain false) (Rows.codecRoundTripSpec.post enc Try.prog Try.f6 false true false false) :=
  lift_true (C := Try.checked) (ts := [24, 27]) (tb := 4) started ownT' (by kernel_rfl) Try.func6
    (ChangeSpec.witness6 (enc := enc) (C := Try.checked) false ⟨#[], #[.agg #[.int .i64 0, .int .i64 0, .string ⟨#[]⟩, .slice none 0 0], .slice none 0 0], []⟩ 8 (by kernel_rfl) (by kernel_rfl) (by kernel_rfl) (by kernel_rfl))
    (by rw [Try.params6]) laidT' (by kernel_rfl) rfl (fun ds h => match ds, h with | [_, _], _ => rfl) rfl Try.underlying4
    (fun W base vs hl ha => by
      obtain ⟨v0, v1, rfl⟩ := len2 hl
      obtain ⟨x, hx⟩ := arg_val (ha 0 24 v0 rfl rfl)
      obtain ⟨y, yA, yc, rfl, hy⟩ := arg_bytes (ha 1 27 v1 rfl rfl)
      exact roundtrip_fn _ x _ y yA yc hx hy)
theorem codecRoundTrip_holds : Rows.CodecRoundTripSaid :=
  OpenClaim.holds_of_wide 6 Try.f6 rfl rfl rfl rfl rfl rfl rfl ⟨rfl, rfl, rfl, rfl, rfl⟩ rfl rfl rfl rfl rfl (by kernel_rfl) Try.func6 (by kernel_rfl)
    (of_decide_eq_true (by kernel_rfl)) (by unfold Func.isWrapper; first | (rw [if_pos (by decide +kernel)]; kernel_rfl) | (rw [if_neg (by decide +kernel)]; exact ⟨rfl, rfl⟩))
    (fun os started H enc _ => roundtrip_lifted os started H enc)
end Go.Proofs.Ytgcjpicnibeemaa
