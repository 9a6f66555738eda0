/-
  The disk: the row of DiskReads.
  Conditions: none.
-/
import Derived.Test.YtfmfakgokgcjmaaE5
import Derived.Test.YtfmfakgokgcjmaaE8
namespace Go.Proofs.Ytfmfakgokgcjmaa
open Go Bf
open Go.ChangeShapes Go.WideShapes Go.ChangeAt Go.RowKit
set_option maxRecDepth 100000 in
theorem reads_lifted (os : Os) (started : os.Started) (H : Type) (enc : TypeId × Value → H) :
    ReturnsInHanded {} Try.checked os 7 .any (Rows.diskReadsSpec.pre6 enc Try.prog Try.f7 Rows.diskReadsRow.domain false) (Rows.diskReadsSpec.post enc Try.prog Try.f7 false true false false) :=
  lift_true (C := Try.checked) (ts := [25, 3, 3, 35, 35]) (tb := 4) started ownT' (by kernel_rfl) Try.func7
    (ChangeSpec.witness6 (enc := enc) (C := Try.checked) false ⟨#[], #[.agg #[.slice none 0 0, .slice none 0 0, .int .i64 0, .bool false], .int .i64 0, .int .i64 0, .slice none 0 0, .slice none 0 0], []⟩ 8 (by kernel_rfl) (by kernel_rfl) (by kernel_rfl) (by kernel_rfl))
    (by rw [Try.params7]) laidT' (by kernel_rfl) rfl (fun ds h => match ds, h with | [_, _, _, _, _], _ => rfl) rfl Try.underlying4
    (fun W base vs hl ha => by
      obtain ⟨v0, v1, v2, v3, v4, rfl⟩ := len5 hl
      obtain ⟨d, hd⟩ := arg_disk (ha 0 25 v0 rfl rfl)
      obtain ⟨a, rfl, -⟩ := arg_int (ha 1 3 v1 rfl rfl)
      obtain ⟨o, rfl, -⟩ := arg_int (ha 2 3 v2 rfl rfl)
      obtain ⟨b, bA, bc, rfl, bh⟩ := arg_bytes (ha 3 35 v3 rfl rfl)
      obtain ⟨c, cA, cc, rfl, ch⟩ := arg_bytes (ha 4 35 v4 rfl rfl)
      exact reads_fn _ _ d a o bA bc b cA cc c hd bh ch)
theorem diskReads_holds : Rows.DiskReadsSaid :=
  OpenClaim.holds_of_wide 7 Try.f7 rfl rfl rfl rfl rfl rfl rfl ⟨rfl, rfl, rfl, rfl, rfl⟩ rfl rfl rfl rfl rfl (by kernel_rfl) Try.func7 (by kernel_rfl)
    (of_decide_eq_true (by kernel_rfl)) (by unfold Func.isWrapper; first | (rw [if_pos (by decide +kernel)]; kernel_rfl) | (rw [if_neg (by decide +kernel)]; exact ⟨rfl, rfl⟩))
    (fun os started H enc _ => reads_lifted os started H enc)
end Go.Proofs.Ytfmfakgokgcjmaa
