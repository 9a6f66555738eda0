/-
  Texts of the proof, one after the other.
  Conditions: none.
-/
import Derived.Test.YtlifjajcmnkhfaaGreatUXs
import Derived.Test.YtlifjajcmnkhfaaGreatUd
/-
 Refusals: the row of RefusalsLeastSpec.
 Conditions: none.
-/
namespace Go.Proofs.YtlifjajcmnkhfaaGreat
open Go Bf
open Go.ChangeShapes Go.WideShapes Go.ChangeAt Go.RowKit
set_option maxRecDepth 100000 in
theorem leastlaw_lifted (os : Os) (started : os.Started) (H : Type) (enc : TypeId × Value → H) :
  ReturnsInHanded {} Tryz.checked os 3 .any (Rows.refusalsLeastSpecSpec.pre6 enc Tryz.prog Tryz.f3 Rows.refusalsLeastSpecRow.domain false) (Rows.refusalsLeastSpecSpec.post enc Tryz.prog Tryz.f3 false true false false) :=
 lift_true (C := Tryz.checked) (ts := [38, 44, 46, 32]) (tb := 4) started ownT' (by kernel_rfl) Tryz.func3
  (ChangeSpec.witness6 (enc := enc) (C := Tryz.checked) false ⟨#[], #[.agg #[.slice none 0 0, .slice none 0 0, .slice none 0 0, .slice none 0 0, .slice none 0 0, .slice none 0 0, .slice none 0 0, .slice none 0 0, .slice none 0 0, .slice none 0 0, .slice none 0 0], .agg #[.int .i64 0, .slice none 0 0, .slice none 0 0, .slice none 0 0, .slice none 0 0], .agg #[.int .i64 0, .int .i64 0, .int .i64 0, .int .i64 0, .int .i64 0, .int .i64 0], .slice none 0 0], []⟩ 8 (by kernel_rfl) (by kernel_rfl) (by kernel_rfl) (by kernel_rfl))
  (by rw [Tryz.params3]) laidT' (by kernel_rfl) rfl (fun ds h => match ds, h with | [_, _, _, _], _ => rfl) rfl Tryz.underlying4
  (fun W base vs hl ha => by
   obtain ⟨v0, v1, v2, v3, rfl⟩ := len4 hl
   obtain ⟨ws, w, rfl, hw, -⟩ := arg_world (ha 0 38 v0 rfl rfl)
   obtain ⟨k, hk⟩ := arg_book (ha 1 44 v1 rfl rfl)
   obtain ⟨r, rfl, hr⟩ := arg_req (ha 2 46 v2 rfl rfl)
   obtain ⟨l, A, c, rfl, hl3⟩ := arg_ints (ha 3 32 v3 rfl rfl)
   exact leastlaw_fn _ ws w hw v1 k hk r A c l hl3)
theorem refusalsLeastSpec_holds : Rows.RefusalsLeastSpecSaid :=
 OpenClaim.holds_of_wide 3 Tryz.f3 rfl rfl rfl rfl rfl rfl rfl ⟨rfl, rfl, rfl, rfl, rfl⟩ rfl rfl rfl rfl rfl (by kernel_rfl) Tryz.func3 (by kernel_rfl)
  (of_decide_eq_true (by kernel_rfl)) (by unfold Func.isWrapper; first | (rw [if_pos (by decide +kernel)]; kernel_rfl) | (rw [if_neg (by decide +kernel)]; exact ⟨rfl, rfl⟩))
  (fun os started H enc _ => leastlaw_lifted os started H enc)
end Go.Proofs.YtlifjajcmnkhfaaGreat

