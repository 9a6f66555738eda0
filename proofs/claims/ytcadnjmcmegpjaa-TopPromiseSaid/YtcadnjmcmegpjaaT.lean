/-
  The row of TopPromise.
  Conditions: none.
-/
import Derived.Test.YtcadnjmcmegpjaaTBfStruct
import Derived.Test.YtcadnjmcmegpjaaTBfDelN
import Derived.Test.YtcadnjmcmegpjaaTXs
import Derived.Test.YtcadnjmcmegpjaaTd
/-
 The row of TopPromise.
 Conditions: none.
-/
namespace Go.Proofs.Ytcadnjmcmegpjaa
open Go Bf
open Go.ChangeShapes Go.WideShapes Go.ChangeAt Go.RowKit
set_option maxRecDepth 100000 in
theorem toplaw_lifted (os : Os) (started : os.Started) (H : Type) (enc : TypeId × Value → H) :
  ReturnsInHanded {} Try.checked os 3 .any (Rows.topPromiseSpec.pre6 enc Try.prog Try.f3 Rows.topPromiseRow.domain false) (Rows.topPromiseSpec.post enc Try.prog Try.f3 false true false false) :=
 lift_true (C := Try.checked) (ts := [38, 39, 3, 40, 41]) (tb := 4) started ownT' (by kernel_rfl) Try.func3
  (ChangeSpec.witness6 (enc := enc) (C := Try.checked) false ⟨#[], #[.agg #[.slice none 0 0, .slice none 0 0, .slice none 0 0, .slice none 0 0, .slice none 0 0, .slice none 0 0, .slice none 0 0, .slice none 0 0, .slice none 0 0, .slice none 0 0, .slice none 0 0], .slice none 0 0, .int .i64 0, .slice none 0 0, .slice none 0 0], []⟩ 8 (by kernel_rfl) (by kernel_rfl) (by kernel_rfl) (by kernel_rfl))
  (by rw [Try.params3]) laidT' (by kernel_rfl) rfl (fun ds h => match ds, h with | [_, _, _, _, _], _ => rfl) rfl Try.underlying4
  (fun W base vs hl ha => by
   obtain ⟨v0, v1, v2, v3, v4, rfl⟩ := len5 hl
   obtain ⟨ws, w, rfl, hw, -⟩ := arg_world (ha 0 38 v0 rfl rfl)
   obtain ⟨s, A, c, rfl, hs⟩ := arg_sups (ha 1 39 v1 rfl rfl)
   obtain ⟨y, rfl, -⟩ := arg_int (ha 2 3 v2 rfl rfl)
   obtain ⟨r, A2, c2, rfl, hr⟩ := arg_reqs (ha 3 40 v3 rfl rfl)
   obtain ⟨l, A3, c3, rfl, hlp⟩ := arg_haps (ha 4 41 v4 rfl rfl)
   exact toplaw_fn _ ws w hw A c s hs y A2 c2 r hr A3 c3 l hlp)
theorem topPromise_holds : Rows.TopPromiseSaid :=
 OpenClaim.holds_of_wide 3 Try.f3 rfl rfl rfl rfl rfl rfl rfl ⟨rfl, rfl, rfl, rfl, rfl⟩ rfl rfl rfl rfl rfl (by kernel_rfl) Try.func3 (by kernel_rfl)
  (of_decide_eq_true (by kernel_rfl)) (by unfold Func.isWrapper; first | (rw [if_pos (by decide +kernel)]; kernel_rfl) | (rw [if_neg (by decide +kernel)]; exact ⟨rfl, rfl⟩))
  (fun os started H enc _ => toplaw_lifted os started H enc)
end Go.Proofs.Ytcadnjmcmegpjaa

