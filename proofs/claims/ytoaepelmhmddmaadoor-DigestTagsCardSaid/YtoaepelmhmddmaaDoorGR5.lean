/-
  The digest: the tied card of DigestTags.
  Conditions: none.
-/
import Derived.Test.YtoaepelmhmddmaaDoorG15
import Derived.Test.YtoaepelmhmddmaaDoorGA
import Derived.Test.YtoaepelmhmddmaaDoorTie
import Derived.Test.YtoaepelmhmddmaaDoorCards
import Derived.SevenTiedAt
namespace Go.Proofs.YtoaepelmhmddmaaDoor
open Go Bf
open Go.ChangeShapes Go.WideShapes Go.ChangeAt Go.RowKit
set_option maxRecDepth 100000 in
theorem digestTags_lifted (os : Os) (started : os.Started) (H : Type) (enc : TypeId × Value → H) :
    ReturnsInHanded {} Tryd.checked os 5 .any (fun w args => (Rows.digestTagsSpec.pre enc Tryd.prog Tryd.f5 [] false w args ∧ laidMetH Tryd.prog [("backflush/digest.constants", .agg (kI.map fun x => .lit (.int .u32 x)))] w) ∧ sizedMet enc Tryd.prog Tryd.f5 (OpenSpec.ofChange Rows.digestTagsSpec) false w args) (Rows.digestTagsSpec.post enc Tryd.prog Tryd.f5 false true false false) :=
  lift_true_laid (C := Tryd.checked) (ts := [9, 22]) (tb := 4) (name := "backflush/digest.constants") (g := 0) (ns := kI) started ownT' (by kernel_rfl) Tryd.func5
    (ChangeSpec.witness_shaped (enc := enc) (C := Tryd.checked) (os := os) (X := fun w _ => laidMetH Tryd.prog [("backflush/digest.constants", .agg (kI.map fun x => .lit (.int .u32 x)))] w) false (World.doorLaid Tryd.prog 400 os) #[.string ⟨#[]⟩, .slice none 0 0] 8 rfl (World.shaped_of_RefB (by kernel_rfl) (by kernel_rfl)) (by kernel_rfl) (by kernel_rfl) (by kernel_rfl) (door_met os _))
    (by rw [Tryd.params5]) laidT' (by kernel_rfl) rfl (fun ds h => match ds, h with | [_, _], _ => rfl) rfl Tryd.underlying4
    gK (by kernel_rfl) u61 u50 c50 (by decide)
    (fun W base vs hK0 hl ha => by
      have hK := kI_at hK0
      obtain ⟨v0, v1, rfl⟩ := len2 hl
      obtain ⟨a, rfl⟩ := arg_str (ha 0 9 v0 rfl rfl)
      obtain ⟨b, bA, bc, rfl, qb⟩ := arg_bytes (ha 1 22 v1 rfl rfl)
      exact f5_fn _ hK bA bc b a qb)
theorem digestTags_row : Rows.DigestTagsSaid :=
  OpenClaim.holds_of_wide 5 Tryd.f5 rfl rfl rfl rfl rfl rfl rfl ⟨rfl, rfl, rfl, rfl, rfl⟩ rfl rfl rfl rfl rfl (by kernel_rfl) Tryd.func5 (by kernel_rfl)
    (of_decide_eq_true (by kernel_rfl)) (by unfold Func.isWrapper; first | (rw [if_pos (by decide +kernel)]; kernel_rfl) | (rw [if_neg (by decide +kernel)]; exact ⟨rfl, rfl⟩))
    (fun os started H enc _ => by
      have h := digestTags_lifted os started H enc
      rw [kI_laid] at h
      exact h)
theorem digestTags_holds : Rows.DigestTagsCardSaid :=
  Claim7.holds_tied_plain_at .later [] [.data] true Rows.digestTagsCard.stood.harness false
    digestTags_row (fun _ h => by cases h) (by kernel_rfl) (fun _ h => by cases h) digestTags_row_tie rfl ⟨rfl, rfl⟩ (by kernel_rfl) rfl
    (fun f fn hf hfn => by
      obtain rfl : f = 5 := Option.some.inj ((show Tryd.prog.funcNamed "backflush/backflushlaw02.DigestTags" = some 5 by kernel_rfl).symm.trans hf) |>.symm
      obtain rfl : fn = Tryd.f5 := (Option.some.inj (Tryd.func5.symm.trans hfn)).symm
      exact ⟨by kernel_rfl, fun j t ht => by
        rw [Tryd.params5] at ht
        have hm : t ∈ [9, 22] := by simpa using Array.mem_of_getElem? ht
        have hall : ([9, 22].all fun u => !Tryd.prog.wantsStandIn u) = true := by kernel_rfl
        exact (show Tryd.prog.wantsStandIn t = false by simpa using List.all_eq_true.1 hall t hm)⟩)
    (by kernel_rfl)
end Go.Proofs.YtoaepelmhmddmaaDoor
