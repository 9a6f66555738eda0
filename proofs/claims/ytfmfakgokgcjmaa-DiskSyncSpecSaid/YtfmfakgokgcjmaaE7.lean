/-
  The disk: the row of DiskSyncSpec.
  Conditions: none.
-/
import Derived.Test.YtfmfakgokgcjmaaE5
namespace Go.Proofs.Ytfmfakgokgcjmaa
open Go Bf
open Go.ChangeShapes Go.WideShapes Go.ChangeAt Go.RowKit
set_option maxRecDepth 100000 in
theorem syncspec_lifted (os : Os) (started : os.Started) (H : Type) (enc : TypeId × Value → H) :
    ReturnsInHanded {} Try.checked os 5 .any (Rows.diskSyncSpecSpec.pre6 enc Try.prog Try.f5 Rows.diskSyncSpecRow.domain false) (Rows.diskSyncSpecSpec.post enc Try.prog Try.f5 false true false false) :=
  lift_true (C := Try.checked) (ts := [25, 3]) (tb := 4) started ownT' (by kernel_rfl) Try.func5
    (ChangeSpec.witness6 (enc := enc) (C := Try.checked) false ⟨#[], #[.agg #[.slice none 0 0, .slice none 0 0, .int .i64 0, .bool false], .int .i64 0], []⟩ 8 (by kernel_rfl) (by kernel_rfl) (by kernel_rfl) (by kernel_rfl))
    (by rw [Try.params5]) laidT' (by kernel_rfl) rfl (fun ds h => match ds, h with | [_, _], _ => rfl) rfl Try.underlying4
    (fun W base vs hl ha => by
      obtain ⟨v0, v1, rfl⟩ := len2 hl
      obtain ⟨d, hd⟩ := arg_disk (ha 0 25 v0 rfl rfl)
      obtain ⟨a, rfl, -⟩ := arg_int (ha 1 3 v1 rfl rfl)
      exact syncspec_fn _ _ d a hd)
theorem diskSyncSpec_holds : Rows.DiskSyncSpecSaid :=
  OpenClaim.holds_of_wide 5 Try.f5 rfl rfl rfl rfl rfl rfl rfl ⟨rfl, rfl, rfl, rfl, rfl⟩ rfl rfl rfl rfl rfl (by kernel_rfl) Try.func5 (by kernel_rfl)
    (of_decide_eq_true (by kernel_rfl)) (by unfold Func.isWrapper; first | (rw [if_pos (by decide +kernel)]; kernel_rfl) | (rw [if_neg (by decide +kernel)]; exact ⟨rfl, rfl⟩))
    (fun os started H enc _ => syncspec_lifted os started H enc)
end Go.Proofs.Ytfmfakgokgcjmaa
