/-
  The digest: the tied card of DigestChains.
  Conditions: none.
-/
import Derived.Test.YtoaepelmhmddmaaDoorG18
import Derived.Test.YtoaepelmhmddmaaDoorGA
import Derived.Test.YtoaepelmhmddmaaDoorTie
import Derived.Test.YtoaepelmhmddmaaDoorCards
import Derived.SevenTiedAt
namespace Go.Proofs.YtoaepelmhmddmaaDoor
open Go Bf
open Go.ChangeShapes Go.WideShapes Go.ChangeAt Go.RowKit
set_option maxRecDepth 100000 in
theorem digestChains_lifted (os : Os) (started : os.Started) (H : Type) (enc : TypeId × Value → H) :
    ReturnsInHanded {} Tryd.checked os 10 .any (fun w args => (Rows.digestChainsSpec.pre enc Tryd.prog Tryd.f10 [] false w args ∧ laidMetH Tryd.prog [("backflush/digest.constants", .agg (kI.map fun x => .lit (.int .u32 x)))] w) ∧ sizedMet enc Tryd.prog Tryd.f10 (OpenSpec.ofChange Rows.digestChainsSpec) false w args) (Rows.digestChainsSpec.post enc Tryd.prog Tryd.f10 false true false false) :=
  lift_true_laid (C := Tryd.checked) (ts := [26, 22]) (tb := 4) (name := "backflush/digest.constants") (g := 0) (ns := kI) started ownT' (by kernel_rfl) Tryd.func10
    (ChangeSpec.witness_shaped (enc := enc) (C := Tryd.checked) (os := os) (X := fun w _ => laidMetH Tryd.prog [("backflush/digest.constants", .agg (kI.map fun x => .lit (.int .u32 x)))] w) false (World.doorLaid Tryd.prog 400 os) #[.agg (List.replicate 32 (Value.int .u8 0)).toArray, .slice none 0 0] 8 rfl (World.shaped_of_RefB (by kernel_rfl) (by kernel_rfl)) (by kernel_rfl) (by kernel_rfl) (by kernel_rfl) (door_met os _))
    (by rw [Tryd.params10]) laidT' (by kernel_rfl) rfl (fun ds h => match ds, h with | [_, _], _ => rfl) rfl Tryd.underlying4
    gK (by kernel_rfl) u61 u50 c50 (by decide)
    (fun W base vs hK0 hl ha => by
      have hK := kI_at hK0
      obtain ⟨v0, v1, rfl⟩ := len2 hl
      obtain ⟨a, rfl, qa⟩ := arg_dig (ha 0 26 v0 rfl rfl)
      obtain ⟨b, bA, bc, rfl, qb⟩ := arg_bytes (ha 1 22 v1 rfl rfl)
      exact f10_fn _ hK a qa bA bc b qb)
theorem digestChains_row : Rows.DigestChainsSaid :=
  OpenClaim.holds_of_wide 10 Tryd.f10 rfl rfl rfl rfl rfl rfl rfl ⟨rfl, rfl, rfl, rfl, rfl⟩ rfl rfl rfl rfl rfl (by kernel_rfl) Tryd.func10 (by kernel_rfl)
    (of_decide_eq_true (by kernel_rfl)) (by unfold Func.isWrapper; first | (rw [if_pos (by decide +kernel)]; kernel_rfl) | (rw [if_neg (by decide +kernel)]; exact ⟨rfl, rfl⟩))
    (fun os started H enc _ => by
      have h := digestChains_lifted os started H enc
      rw [kI_laid] at h
      exact h)
theorem digestChains_holds : Rows.DigestChainsCardSaid :=
  Claim7.holds_tied_plain_at .later [] [.data] true Rows.digestChainsCard.stood.harness false
    digestChains_row (fun _ h => by cases h) (by kernel_rfl) (fun _ h => by cases h) digestChains_row_tie rfl ⟨rfl, rfl⟩ (by kernel_rfl) rfl
    (fun f fn hf hfn => by
      obtain rfl : f = 10 := Option.some.inj ((show Tryd.prog.funcNamed "backflush/backflushlaw02.DigestChains" = some 10 by kernel_rfl).symm.trans hf) |>.symm
      obtain rfl : fn = Tryd.f10 := (Option.some.inj (Tryd.func10.symm.trans hfn)).symm
      exact ⟨by kernel_rfl, fun j t ht => by
        rw [Tryd.params10] at ht
        have hm : t ∈ [26, 22] := by simpa using Array.mem_of_getElem? ht
        have hall : ([26, 22].all fun u => !Tryd.prog.wantsStandIn u) = true := by kernel_rfl
        exact (show Tryd.prog.wantsStandIn t = false by simpa using List.all_eq_true.1 hall t hm)⟩)
    (by kernel_rfl)
end Go.Proofs.YtoaepelmhmddmaaDoor
