/-
  The digest: the tied card of DigestNext.
  Conditions: none.
-/
import Derived.Test.YtoaepelmhmddmaaDoorG20
import Derived.Test.YtoaepelmhmddmaaDoorGA
import Derived.Test.YtoaepelmhmddmaaDoorTie
import Derived.Test.YtoaepelmhmddmaaDoorCards
import Derived.SevenTiedAt
namespace Go.Proofs.YtoaepelmhmddmaaDoor
open Go Bf
open Go.ChangeShapes Go.WideShapes Go.ChangeAt Go.RowKit
set_option maxRecDepth 100000 in
theorem digestNext_lifted (os : Os) (started : os.Started) (H : Type) (enc : TypeId × Value → H) :
    ReturnsInHanded {} Tryd.checked os 8 .any (fun w args => (Rows.digestNextSpec.pre enc Tryd.prog Tryd.f8 [] false w args ∧ laidMetH Tryd.prog [("backflush/digest.constants", .agg (kI.map fun x => .lit (.int .u32 x)))] w) ∧ sizedMet enc Tryd.prog Tryd.f8 (OpenSpec.ofChange Rows.digestNextSpec) false w args) (Rows.digestNextSpec.post enc Tryd.prog Tryd.f8 false true false false) :=
  lift_true_laid (C := Tryd.checked) (ts := [22, 26]) (tb := 4) (name := "backflush/digest.constants") (g := 0) (ns := kI) started ownT' (by kernel_rfl) Tryd.func8
    (ChangeSpec.witness_shaped (enc := enc) (C := Tryd.checked) (os := os) (X := fun w _ => laidMetH Tryd.prog [("backflush/digest.constants", .agg (kI.map fun x => .lit (.int .u32 x)))] w) false (World.doorLaid Tryd.prog 400 os) #[.slice none 0 0, .agg (List.replicate 32 (Value.int .u8 0)).toArray] 8 rfl (World.shaped_of_RefB (by kernel_rfl) (by kernel_rfl)) (by kernel_rfl) (by kernel_rfl) (by kernel_rfl) (door_met os _))
    (by rw [Tryd.params8]) laidT' (by kernel_rfl) rfl (fun ds h => match ds, h with | [_, _], _ => rfl) rfl Tryd.underlying4
    gK (by kernel_rfl) u61 u50 c50 (by decide)
    (fun W base vs hK0 hl ha => by
      have hK := kI_at hK0
      obtain ⟨v0, v1, rfl⟩ := len2 hl
      obtain ⟨a, aA, ac, rfl, qa⟩ := arg_bytes (ha 0 22 v0 rfl rfl)
      obtain ⟨b, rfl, qb⟩ := arg_dig (ha 1 26 v1 rfl rfl)
      exact f8_fn _ hK b qb aA ac a qa)
theorem digestNext_row : Rows.DigestNextSaid :=
  OpenClaim.holds_of_wide 8 Tryd.f8 rfl rfl rfl rfl rfl rfl rfl ⟨rfl, rfl, rfl, rfl, rfl⟩ rfl rfl rfl rfl rfl (by kernel_rfl) Tryd.func8 (by kernel_rfl)
    (of_decide_eq_true (by kernel_rfl)) (by unfold Func.isWrapper; first | (rw [if_pos (by decide +kernel)]; kernel_rfl) | (rw [if_neg (by decide +kernel)]; exact ⟨rfl, rfl⟩))
    (fun os started H enc _ => by
      have h := digestNext_lifted os started H enc
      rw [kI_laid] at h
      exact h)
theorem digestNext_holds : Rows.DigestNextCardSaid :=
  Claim7.holds_tied_plain_at .later [] [.data] true Rows.digestNextCard.stood.harness false
    digestNext_row (fun _ h => by cases h) (by kernel_rfl) (fun _ h => by cases h) digestNext_row_tie rfl ⟨rfl, rfl⟩ (by kernel_rfl) rfl
    (fun f fn hf hfn => by
      obtain rfl : f = 8 := Option.some.inj ((show Tryd.prog.funcNamed "backflush/backflushlaw02.DigestNext" = some 8 by kernel_rfl).symm.trans hf) |>.symm
      obtain rfl : fn = Tryd.f8 := (Option.some.inj (Tryd.func8.symm.trans hfn)).symm
      exact ⟨by kernel_rfl, fun j t ht => by
        rw [Tryd.params8] at ht
        have hm : t ∈ [22, 26] := by simpa using Array.mem_of_getElem? ht
        have hall : ([22, 26].all fun u => !Tryd.prog.wantsStandIn u) = true := by kernel_rfl
        exact (show Tryd.prog.wantsStandIn t = false by simpa using List.all_eq_true.1 hall t hm)⟩)
    (by kernel_rfl)
end Go.Proofs.YtoaepelmhmddmaaDoor
