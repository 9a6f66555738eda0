/-
  The disk: the row of DiskHistory.
  Conditions: none.
-/
import Derived.Test.YtfmfakgokgcjmaaE10
import Derived.Test.YtfmfakgokgcjmaaE14
namespace Go.Proofs.Ytfmfakgokgcjmaa
open Go Bf
open Go.ChangeShapes Go.WideShapes Go.ChangeAt Go.RowKit
set_option maxRecDepth 100000 in
theorem history_lifted (os : Os) (started : os.Started) (H : Type) (enc : TypeId × Value → H) :
    ReturnsInHanded {} Try.checked os 6 .any (Rows.diskHistorySpec.pre6 enc Try.prog Try.f6 Rows.diskHistoryRow.domain false) (Rows.diskHistorySpec.post enc Try.prog Try.f6 false true false false) :=
  lift_true (C := Try.checked) (ts := [43, 5]) (tb := 4) started ownT' (by kernel_rfl) Try.func6
    (ChangeSpec.witness6 (enc := enc) (C := Try.checked) false ⟨#[], #[.slice none 0 0, .int .u8 0], []⟩ 8 (by kernel_rfl) (by kernel_rfl) (by kernel_rfl) (by kernel_rfl))
    (by rw [Try.params6]) laidT' (by kernel_rfl) rfl (fun ds h => match ds, h with | [_, _], _ => rfl) rfl Try.underlying4
    (fun W base vs hl ha => by
      obtain ⟨v0, v1, rfl⟩ := len2 hl
      clear hl
      obtain ⟨l, lA, lc, rfl, hl⟩ := arg_acts (ha 0 43 v0 rfl rfl)
      obtain ⟨b, rfl⟩ := arg_u8 (ha 1 5 v1 rfl rfl)
      exact history_fn _ lA lc l b hl)
theorem diskHistory_holds : Rows.DiskHistorySaid :=
  OpenClaim.holds_of_wide 6 Try.f6 rfl rfl rfl rfl rfl rfl rfl ⟨rfl, rfl, rfl, rfl, rfl⟩ rfl rfl rfl rfl rfl (by kernel_rfl) Try.func6 (by kernel_rfl)
    (of_decide_eq_true (by kernel_rfl)) (by unfold Func.isWrapper; first | (rw [if_pos (by decide +kernel)]; kernel_rfl) | (rw [if_neg (by decide +kernel)]; exact ⟨rfl, rfl⟩))
    (fun os started H enc _ => history_lifted os started H enc)
end Go.Proofs.Ytfmfakgokgcjmaa
