/-
  The disk: the row of DiskTogether.
  Conditions: none.
-/
import Derived.Test.YtfmfakgokgcjmaaE11
namespace Go.Proofs.Ytfmfakgokgcjmaa
open Go Bf
open Go.ChangeShapes Go.WideShapes Go.ChangeAt Go.RowKit
set_option maxRecDepth 100000 in
theorem together_lifted (os : Os) (started : os.Started) (H : Type) (enc : TypeId × Value → H) :
    ReturnsInHanded {} Try.checked os 8 .any (Rows.diskTogetherSpec.pre6 enc Try.prog Try.f8 Rows.diskTogetherRow.domain false) (Rows.diskTogetherSpec.post enc Try.prog Try.f8 false true false false) :=
  lift_true (C := Try.checked) (ts := [25, 43]) (tb := 4) started ownT' (by kernel_rfl) Try.func8
    (ChangeSpec.witness6 (enc := enc) (C := Try.checked) false ⟨#[], #[.agg #[.slice none 0 0, .slice none 0 0, .int .i64 0, .bool false], .slice none 0 0], []⟩ 8 (by kernel_rfl) (by kernel_rfl) (by kernel_rfl) (by kernel_rfl))
    (by rw [Try.params8]) laidT' (by kernel_rfl) rfl (fun ds h => match ds, h with | [_, _], _ => rfl) rfl Try.underlying4
    (fun W base vs hl ha => by
      obtain ⟨v0, v1, rfl⟩ := len2 hl
      clear hl
      obtain ⟨d, hd⟩ := arg_disk (ha 0 25 v0 rfl rfl)
      obtain ⟨l, lA, lc, rfl, hl⟩ := arg_acts (ha 1 43 v1 rfl rfl)
      exact together_fn _ _ d lA lc l hd hl)
theorem diskTogether_holds : Rows.DiskTogetherSaid :=
  OpenClaim.holds_of_wide 8 Try.f8 rfl rfl rfl rfl rfl rfl rfl ⟨rfl, rfl, rfl, rfl, rfl⟩ rfl rfl rfl rfl rfl (by kernel_rfl) Try.func8 (by kernel_rfl)
    (of_decide_eq_true (by kernel_rfl)) (by unfold Func.isWrapper; first | (rw [if_pos (by decide +kernel)]; kernel_rfl) | (rw [if_neg (by decide +kernel)]; exact ⟨rfl, rfl⟩))
    (fun os started H enc _ => together_lifted os started H enc)
end Go.Proofs.Ytfmfakgokgcjmaa
