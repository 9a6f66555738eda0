/-
  The digest: the tied card of DigestClimbs.
  Conditions: none.
-/
import Derived.Test.YtoaepelmhmddmaaDoorG17
import Derived.Test.YtoaepelmhmddmaaDoorGA
import Derived.Test.YtoaepelmhmddmaaDoorTie
import Derived.Test.YtoaepelmhmddmaaDoorCards
import Derived.SevenTiedAt
namespace Go.Proofs.YtoaepelmhmddmaaDoor
open Go Bf
open Go.ChangeShapes Go.WideShapes Go.ChangeAt Go.RowKit
set_option maxRecDepth 100000 in
theorem digestClimbs_lifted (os : Os) (started : os.Started) (H : Type) (enc : TypeId × Value → H) :
    ReturnsInHanded {} Tryd.checked os 6 .any (fun w args => (Rows.digestClimbsSpec.pre enc Tryd.prog Tryd.f6 [] false w args ∧ laidMetH Tryd.prog [("backflush/digest.constants", .agg (kI.map fun x => .lit (.int .u32 x)))] w) ∧ sizedMet enc Tryd.prog Tryd.f6 (OpenSpec.ofChange Rows.digestClimbsSpec) false w args) (Rows.digestClimbsSpec.post enc Tryd.prog Tryd.f6 false true false false) :=
  lift_true_laid (C := Tryd.checked) (ts := [22]) (tb := 4) (name := "backflush/digest.constants") (g := 0) (ns := kI) started ownT' (by kernel_rfl) Tryd.func6
    (ChangeSpec.witness_shaped (enc := enc) (C := Tryd.checked) (os := os) (X := fun w _ => laidMetH Tryd.prog [("backflush/digest.constants", .agg (kI.map fun x => .lit (.int .u32 x)))] w) false (World.doorLaid Tryd.prog 400 os) #[.slice none 0 0] 8 rfl (World.shaped_of_RefB (by kernel_rfl) (by kernel_rfl)) (by kernel_rfl) (by kernel_rfl) (by kernel_rfl) (door_met os _))
    (by rw [Tryd.params6]) laidT' (by kernel_rfl) rfl (fun ds h => match ds, h with | [_], _ => rfl) rfl Tryd.underlying4
    gK (by kernel_rfl) u61 u50 c50 (by decide)
    (fun W base vs hK0 hl ha => by
      have hK := kI_at hK0
      obtain ⟨v0, rfl⟩ := len1 hl
      obtain ⟨a, aA, ac, rfl, qa⟩ := arg_bytes (ha 0 22 v0 rfl rfl)
      exact f6_fn _ hK aA ac a qa)
theorem digestClimbs_row : Rows.DigestClimbsSaid :=
  OpenClaim.holds_of_wide 6 Tryd.f6 rfl rfl rfl rfl rfl rfl rfl ⟨rfl, rfl, rfl, rfl, rfl⟩ rfl rfl rfl rfl rfl (by kernel_rfl) Tryd.func6 (by kernel_rfl)
    (of_decide_eq_true (by kernel_rfl)) (by unfold Func.isWrapper; first | (rw [if_pos (by decide +kernel)]; kernel_rfl) | (rw [if_neg (by decide +kernel)]; exact ⟨rfl, rfl⟩))
    (fun os started H enc _ => by
      have h := digestClimbs_lifted os started H enc
      rw [kI_laid] at h
      exact h)
theorem digestClimbs_holds : Rows.DigestClimbsCardSaid :=
  Claim7.holds_tied_plain_at .later [] [.data] true Rows.digestClimbsCard.stood.harness false
    digestClimbs_row (fun _ h => by cases h) (by kernel_rfl) (fun _ h => by cases h) digestClimbs_row_tie rfl ⟨rfl, rfl⟩ (by kernel_rfl) rfl
    (fun f fn hf hfn => by
      obtain rfl : f = 6 := Option.some.inj ((show Tryd.prog.funcNamed "backflush/backflushlaw02.DigestClimbs" = some 6 by kernel_rfl).symm.trans hf) |>.symm
      obtain rfl : fn = Tryd.f6 := (Option.some.inj (Tryd.func6.symm.trans hfn)).symm
      exact ⟨by kernel_rfl, fun j t ht => by
        rw [Tryd.params6] at ht
        have hm : t ∈ [22] := by simpa using Array.mem_of_getElem? ht
        have hall : ([22].all fun u => !Tryd.prog.wantsStandIn u) = true := by kernel_rfl
        exact (show Tryd.prog.wantsStandIn t = false by simpa using List.all_eq_true.1 hall t hm)⟩)
    (by kernel_rfl)
end Go.Proofs.YtoaepelmhmddmaaDoor
