/-
  Texts of the proof, one after the other.
  Conditions: none.
-/
import Derived.Test.YtmikfjcdgkopkaaGreatWBfDelN
import Derived.Test.YtmikfjcdgkopkaaGreatWXs
import Derived.Test.YtmikfjcdgkopkaaGreatWc
/-
 Promises: the row of PromisesKept.
 Conditions: none.
-/
namespace Go.Proofs.YtmikfjcdgkopkaaGreat
open Go Bf
open Go.ChangeShapes Go.WideShapes Go.ChangeAt Go.RowKit
set_option maxRecDepth 100000 in
theorem keptlaw_lifted (os : Os) (started : os.Started) (H : Type) (enc : TypeId × Value → H) :
  ReturnsInHanded {} Tryz.checked os 7 .any (Rows.promisesKeptSpec.pre6 enc Tryz.prog Tryz.f7 Rows.promisesKeptRow.domain false) (Rows.promisesKeptSpec.post enc Tryz.prog Tryz.f7 false true false false) :=
 lift_true (C := Tryz.checked) (ts := [38, 39, 3, 67]) (tb := 4) started ownT' (by kernel_rfl) Tryz.func7
  (ChangeSpec.witness6 (enc := enc) (C := Tryz.checked) false ⟨#[], #[.agg #[.slice none 0 0, .slice none 0 0, .slice none 0 0, .slice none 0 0, .slice none 0 0, .slice none 0 0, .slice none 0 0, .slice none 0 0, .slice none 0 0, .slice none 0 0, .slice none 0 0], .slice none 0 0, .int .i64 0, .slice none 0 0], []⟩ 8 (by kernel_rfl) (by kernel_rfl) (by kernel_rfl) (by kernel_rfl))
  (by rw [Tryz.params7]) laidT' (by kernel_rfl) rfl (fun ds h => match ds, h with | [_, _, _, _], _ => rfl) rfl Tryz.underlying4
  (fun W base vs hl ha => by
   obtain ⟨v0, v1, v2, v3, rfl⟩ := len4 hl
   obtain ⟨ws, w, rfl, hw, hfd⟩ := arg_world (ha 0 38 v0 rfl rfl)
   obtain ⟨s, A, c, rfl, hs⟩ := arg_sups (ha 1 39 v1 rfl rfl)
   obtain ⟨y, rfl, hy⟩ := arg_int (ha 2 3 v2 rfl rfl)
   obtain ⟨l, A2, c2, rfl, hl2⟩ := arg_steps (ha 3 67 v3 rfl rfl)
   exact keptlaw_fn _ ws w hw A c s hs y A2 c2 l hl2)
theorem promisesKept_holds : Rows.PromisesKeptSaid :=
 OpenClaim.holds_of_wide 7 Tryz.f7 rfl rfl rfl rfl rfl rfl rfl ⟨rfl, rfl, rfl, rfl, rfl⟩ rfl rfl rfl rfl rfl (by kernel_rfl) Tryz.func7 (by kernel_rfl)
  (of_decide_eq_true (by kernel_rfl)) (by unfold Func.isWrapper; first | (rw [if_pos (by decide +kernel)]; kernel_rfl) | (rw [if_neg (by decide +kernel)]; exact ⟨rfl, rfl⟩))
  (fun os started H enc _ => keptlaw_lifted os started H enc)
end Go.Proofs.YtmikfjcdgkopkaaGreat

