/-
  The disk: the row of DiskStopped.
  Conditions: none.
-/
import Derived.Test.YtfmfakgokgcjmaaD13
namespace Go.Proofs.Ytfmfakgokgcjmaa
open Go.ChangeShapes Go.WideShapes Go.ChangeAt Go.RowKit

theorem ownT : ownKnob Try.prog.godebug = none := by kernel_rfl
theorem laidT : laidOutB Try.prog = true := by kernel_rfl
theorem read25 : Try.prog.readableRec 25 = true := by kernel_rfl
theorem read35 : Try.prog.readableRec 35 = true := by kernel_rfl
theorem read3 : Try.prog.readableRec 3 = true := by kernel_rfl
theorem row25 : 25 < Try.prog.types.size := of_decide_eq_true (by kernel_rfl)
theorem row35 : 35 < Try.prog.types.size := of_decide_eq_true (by kernel_rfl)
theorem row3 : 3 < Try.prog.types.size := of_decide_eq_true (by kernel_rfl)

set_option maxRecDepth 100000 in
theorem stopped_lifted (os : Os) (started : os.Started) (H : Type) (enc : TypeId × Value → H) :
    ReturnsInHanded {} Try.checked os 9 .any (Rows.diskStoppedSpec.pre6 enc Try.prog Try.f9 Rows.diskStoppedRow.domain false) (Rows.diskStoppedSpec.post enc Try.prog Try.f9 false true false false) := by
  refine returnsInHanded_of_change (C := Try.checked) ownT started (by kernel_rfl) Try.func9
    (ChangeSpec.witness6 (enc := enc) (C := Try.checked) false ⟨#[], #[.agg #[.slice none 0 0, .slice none 0 0, .int .i64 0, .bool false], .int .i64 0, .int .i64 0, .slice none 0 0], []⟩ 8 (by kernel_rfl) (by kernel_rfl) (by kernel_rfl) (by kernel_rfl)) ?_
  intro W base args ds gs before hval0 hW hcnd _
  have hval : ∀ (j : Nat) t v, Try.f9.params[j]? = some t → args[j]? = some v → Value.okWide Try.prog W .any base t v := hval0
  have hW' := hW
  obtain ⟨p, q, hA0, hV, rfl, hfz, hnd⟩ := hW
  have hA : DataW.TrodAll enc Try.prog W 0 (fun _ => true) true Try.f9.params.toList args.toList ds p := hA0
  rw [Try.params9] at hA hval
  obtain ⟨v0, v1, v2, v3, d0, d1, d2, d3, p0, p1, p2, p3, rfl, rfl, rfl, h0, h1, h2, h3⟩ := trodAll_four hA
  obtain ⟨rfl, rfl⟩ := trodVars_none hV
  have k0 := hval 0 25 v0 rfl rfl
  unfold Value.okWide at k0
  rw [Try.underlying25] at k0
  obtain ⟨cs, rfl, -, -⟩ := k0
  obtain ⟨f0, g0⟩ := id h0
  obtain ⟨dk, hdk⟩ := open_disk g0
  have hdk : RDisk (Bf.hp W) (.agg cs) dk := by simpa [Value.cells] using hdk
  have k1 := hval 1 3 v1 rfl rfl
  have k2 := hval 2 3 v2 rfl rfl
  have k3 := hval 3 35 v3 rfl rfl
  obtain ⟨f1, g1⟩ := id h1
  obtain ⟨f2, g2⟩ := id h2
  obtain ⟨f3, g3⟩ := id h3
  obtain ⟨a, rfl, rfl, rfl, wa⟩ := open_int Try.underlying3 k1 h1
  obtain ⟨b, rfl, rfl, rfl, wb⟩ := open_int Try.underlying3 k2 h2
  obtain ⟨A, len, cap, rfl⟩ := okWide_slice Try.underlying35 k3
  obtain ⟨bs, A', c', e, hb⟩ := read_bytes u35 u5 c5 g3
  cases e
  have hfn := stopped_fn (Bf.hp W) (.agg cs) dk a b A cap bs hdk hb
  have hOwn : Bf.Own W (Bf.hp W) [] W := ⟨rfl, rfl, rfl, Bf.Mem.le.refl _, by simp, by simp, by simp, by simp⟩
  refine (hfn.2 W [] W hOwn).mono ?_
  rintro e W' ⟨v, M', A', rfl, hm, ho, rfl, rfl⟩
  have hbl := below_of ho hm
  simp only [List.append_nil] at hW'
  have hlt : ∀ x ∈ p0 ++ p3, x.block < W.heap.size := fun x hx => hW'.lt x (by simpa using hx)
  refine ⟨_, rfl, shut_true (pa := p0 ++ ([] ++ ([] ++ p3))) (pv := []) hW' (fun _ _ _ => trodAll_mk1 (shut_bool Try.underlying4 true)) (fun sp hsp => ?_) (fun _ _ => rfl) (by simp) hbl (ok_one (by kernel_rfl) rfl (okWide_bool_mk Try.underlying4 _))⟩
  refine trodAll_mk4 (WideElems.Trod_stays laidT read25 row25 h0 (fun x hx => hbl.same (hlt x (by simp [hx]))) (fun x hx => hsp x (by simp [hx]))) (shut_int Try.underlying3 wa) (shut_int Try.underlying3 wb)
    (WideElems.Trod_stays laidT read35 row35 h3 (fun x hx => hbl.same (hlt x (by simp [hx]))) (fun x hx => hsp x (by simp [hx])))

theorem diskStopped_holds : Rows.DiskStoppedSaid :=
  OpenClaim.holds_of_wide 9 Try.f9 rfl rfl rfl rfl rfl rfl rfl ⟨rfl, rfl, rfl, rfl, rfl⟩ rfl rfl rfl rfl rfl (by kernel_rfl) Try.func9 (by kernel_rfl)
    (of_decide_eq_true (by kernel_rfl)) (by unfold Func.isWrapper; first | (rw [if_pos (by decide +kernel)]; kernel_rfl) | (rw [if_neg (by decide +kernel)]; exact ⟨rfl, rfl⟩))
    (fun os started H enc _ => stopped_lifted os started H enc)
end Go.Proofs.Ytfmfakgokgcjmaa
