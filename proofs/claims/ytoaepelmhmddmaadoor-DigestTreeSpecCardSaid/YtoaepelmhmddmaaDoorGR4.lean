/-
  The digest: the tied card of DigestTreeSpec.
  Conditions: none.
-/
import Derived.Test.YtoaepelmhmddmaaDoorG21
import Derived.Test.YtoaepelmhmddmaaDoorGA
import Derived.Test.YtoaepelmhmddmaaDoorTie
import Derived.Test.YtoaepelmhmddmaaDoorCards
import Derived.SevenTiedAt
namespace Go.Proofs.YtoaepelmhmddmaaDoor
open Go Bf
open Go.ChangeShapes Go.WideShapes Go.ChangeAt Go.RowKit
set_option maxRecDepth 100000 in
theorem digestTreeSpec_lifted (os : Os) (started : os.Started) (H : Type) (enc : TypeId × Value → H) :
    ReturnsInHanded {} Tryd.checked os 4 .any (fun w args => (Rows.digestTreeSpecSpec.pre enc Tryd.prog Tryd.f4 [] false w args ∧ laidMetH Tryd.prog [("backflush/digest.constants", .agg (kI.map fun x => .lit (.int .u32 x)))] w) ∧ sizedMet enc Tryd.prog Tryd.f4 (OpenSpec.ofChange Rows.digestTreeSpecSpec) false w args) (Rows.digestTreeSpecSpec.post enc Tryd.prog Tryd.f4 false true false false) :=
  lift_true_laid (C := Tryd.checked) (ts := [22, 3, 3, 26]) (tb := 4) (name := "backflush/digest.constants") (g := 0) (ns := kI) started ownT' (by kernel_rfl) Tryd.func4
    (ChangeSpec.witness_shaped (enc := enc) (C := Tryd.checked) (os := os) (X := fun w _ => laidMetH Tryd.prog [("backflush/digest.constants", .agg (kI.map fun x => .lit (.int .u32 x)))] w) false (World.doorLaid Tryd.prog 400 os) #[.slice none 0 0, .int .i64 0, .int .i64 0, .agg (List.replicate 32 (Value.int .u8 0)).toArray] 8 rfl (World.shaped_of_RefB (by kernel_rfl) (by kernel_rfl)) (by kernel_rfl) (by kernel_rfl) (by kernel_rfl) (door_met os _))
    (by rw [Tryd.params4]) laidT' (by kernel_rfl) rfl (fun ds h => match ds, h with | [_, _, _, _], _ => rfl) rfl Tryd.underlying4
    gK (by kernel_rfl) u61 u50 c50 (by decide)
    (fun W base vs hK0 hl ha => by
      have hK := kI_at hK0
      obtain ⟨v0, v1, v2, v3, rfl⟩ := len4 hl
      obtain ⟨a, aA, ac, rfl, qa⟩ := arg_bytes (ha 0 22 v0 rfl rfl)
      obtain ⟨b, rfl, pb⟩ := arg_int (ha 1 3 v1 rfl rfl)
      obtain ⟨c, rfl, pc⟩ := arg_int (ha 2 3 v2 rfl rfl)
      obtain ⟨d, rfl, qd⟩ := arg_dig (ha 3 26 v3 rfl rfl)
      exact f4_fn _ hK aA ac a b c pb pc d qd qa)
theorem digestTreeSpec_row : Rows.DigestTreeSpecSaid :=
  OpenClaim.holds_of_wide 4 Tryd.f4 rfl rfl rfl rfl rfl rfl rfl ⟨rfl, rfl, rfl, rfl, rfl⟩ rfl rfl rfl rfl rfl (by kernel_rfl) Tryd.func4 (by kernel_rfl)
    (of_decide_eq_true (by kernel_rfl)) (by unfold Func.isWrapper; first | (rw [if_pos (by decide +kernel)]; kernel_rfl) | (rw [if_neg (by decide +kernel)]; exact ⟨rfl, rfl⟩))
    (fun os started H enc _ => by
      have h := digestTreeSpec_lifted os started H enc
      rw [kI_laid] at h
      exact h)
theorem digestTreeSpec_holds : Rows.DigestTreeSpecCardSaid :=
  Claim7.holds_tied_plain_at .later [] [.data] true Rows.digestTreeSpecCard.stood.harness false
    digestTreeSpec_row (fun _ h => by cases h) (by kernel_rfl) (fun _ h => by cases h) digestTreeSpec_row_tie rfl ⟨rfl, rfl⟩ (by kernel_rfl) rfl
    (fun f fn hf hfn => by
      obtain rfl : f = 4 := Option.some.inj ((show Tryd.prog.funcNamed "backflush/backflushlaw02.DigestTreeSpec" = some 4 by kernel_rfl).symm.trans hf) |>.symm
      obtain rfl : fn = Tryd.f4 := (Option.some.inj (Tryd.func4.symm.trans hfn)).symm
      exact ⟨by kernel_rfl, fun j t ht => by
        rw [Tryd.params4] at ht
        have hm : t ∈ [22, 3, 3, 26] := by simpa using Array.mem_of_getElem? ht
        have hall : ([22, 3, 3, 26].all fun u => !Tryd.prog.wantsStandIn u) = true := by kernel_rfl
        exact (show Tryd.prog.wantsStandIn t = false by simpa using List.all_eq_true.1 hall t hm)⟩)
    (by kernel_rfl)
end Go.Proofs.YtoaepelmhmddmaaDoor
