/-
  Refusals: the row of RefusalsKeys.
  Conditions: none.
-/
import Derived.Test.YtlifjajcmnkhfaaGreatUXs
import Derived.Test.YtlifjajcmnkhfaaGreatUf
/-
 Refusals: the row of RefusalsKeys.
 Conditions: none.
-/
namespace Go.Proofs.YtlifjajcmnkhfaaGreat
open Go Bf
open Go.ChangeShapes Go.WideShapes Go.ChangeAt Go.RowKit
set_option maxRecDepth 100000 in
theorem keyslaw_lifted (os : Os) (started : os.Started) (H : Type) (enc : TypeId × Value → H) :
  ReturnsInHanded {} Tryz.checked os 4 .any (Rows.refusalsKeysSpec.pre6 enc Tryz.prog Tryz.f4 Rows.refusalsKeysRow.domain false) (Rows.refusalsKeysSpec.post enc Tryz.prog Tryz.f4 false true false false) :=
 lift_true (C := Tryz.checked) (ts := [38, 44, 46]) (tb := 4) started ownT' (by kernel_rfl) Tryz.func4
  (ChangeSpec.witness6 (enc := enc) (C := Tryz.checked) false ⟨#[], #[.agg #[.slice none 0 0, .slice none 0 0, .slice none 0 0, .slice none 0 0, .slice none 0 0, .slice none 0 0, .slice none 0 0, .slice none 0 0, .slice none 0 0, .slice none 0 0, .slice none 0 0], .agg #[.int .i64 0, .slice none 0 0, .slice none 0 0, .slice none 0 0, .slice none 0 0], .agg #[.int .i64 0, .int .i64 0, .int .i64 0, .int .i64 0, .int .i64 0, .int .i64 0]], []⟩ 8 (by kernel_rfl) (by kernel_rfl) (by kernel_rfl) (by kernel_rfl))
  (by rw [Tryz.params4]) laidT' (by kernel_rfl) rfl (fun ds h => match ds, h with | [_, _, _], _ => rfl) rfl Tryz.underlying4
  (fun W base vs hl ha => by
   obtain ⟨v0, v1, v2, rfl⟩ := len3 hl
   obtain ⟨ws, w, rfl, hw, -⟩ := arg_world (ha 0 38 v0 rfl rfl)
   obtain ⟨k, hk⟩ := arg_book (ha 1 44 v1 rfl rfl)
   obtain ⟨r, rfl, hr⟩ := arg_req (ha 2 46 v2 rfl rfl)
   exact keyslaw_fn _ ws w hw v1 k hk r)
theorem refusalsKeys_holds : Rows.RefusalsKeysSaid :=
 OpenClaim.holds_of_wide 4 Tryz.f4 rfl rfl rfl rfl rfl rfl rfl ⟨rfl, rfl, rfl, rfl, rfl⟩ rfl rfl rfl rfl rfl (by kernel_rfl) Tryz.func4 (by kernel_rfl)
  (of_decide_eq_true (by kernel_rfl)) (by unfold Func.isWrapper; first | (rw [if_pos (by decide +kernel)]; kernel_rfl) | (rw [if_neg (by decide +kernel)]; exact ⟨rfl, rfl⟩))
  (fun os started H enc _ => keyslaw_lifted os started H enc)
end Go.Proofs.YtlifjajcmnkhfaaGreat

