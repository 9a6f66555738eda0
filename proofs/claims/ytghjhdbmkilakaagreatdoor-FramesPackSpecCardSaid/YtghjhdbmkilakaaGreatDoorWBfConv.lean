/-
  Strings to bytes: a new block, published at once.
  Conditions: none; plain laws over any program.
-/
import Derived.Test.YtghjhdbmkilakaaGreatDoorWBfByte
import Derived.Lib.ConvBytes
namespace Bf
open Go Go.Lib
section
variable {r : Option Nat} {P : Program} {E : World} {Q : Exit → Act → World → Prop} {n : Nat} {fr : Fr} {D : List Deferred} {M : Mem} {L : List Res} {K : S → Prop}
variable {d : Nat} {ty : TypeId} {pos : String} {aft : Array Edge} {g : Option (Nat × Bool)}
theorem Exec.strBytes {t u e : TypeId} {i ui ei : TyI} {x : Operand} {l : List UInt8} (hx : ev fr x = some (.string ⟨l.toArray⟩)) (hT : HasTy P t i) (hU : HasTy P u ui) (hud : ui.desc = .slice e) (hE : HasTy P e ei) (hed : ei.desc = .int .u8)
    (hl : l.length ≤ 9223372036854775807) (hn : Nat.blt d n = true)
    (k : ∀ b c M', Mem.le M M' → BSl M' (.slice (some ⟨b, 0, none⟩) l.length c) l → K ⟨n, (d, .slice (some ⟨b, 0, none⟩) l.length c) :: fr, D, M', L⟩) :
    Exec r P E Q ⟨n, fr, D, M, L⟩ ⟨some d, .convert t u x, ty, pos, aft, g⟩ K := by
  refine Exec.of_run (R := fun v M' L' => ∃ b c, v = .slice (some ⟨b, 0, none⟩) l.length c ∧ Mem.le M M' ∧ BSl M' (.slice (some ⟨b, 0, none⟩) l.length c) l ∧ L' = L) rfl hn (fun a w hh => ?_) (by rintro _ _ _ ⟨b, c, rfl, h1, h2, rfl⟩; exact k b c _ h1 h2)
  have h1 := hT.1
  have h2 := hU.1
  rw [hud] at h2
  have h3 := hE.1
  rw [hed] at h3
  have hr := run_convert_string_bytes w t u e ⟨l.toArray⟩ h1 h2 h3
  have hnew := bytesWorld_at_new w e ⟨l.toArray⟩
  have hge := grownCap_ge w l.length 0 e
  have hcm : grownCap w l.length 0 e ≤ maxLen := grownCap_le_maxLen w l.length 0 e (by simpa [maxLen] using hl)
  have ho : Own E M (pt w.heap.size (.cells (bytesCells w e ⟨l.toArray⟩) e ((bytesCells w e ⟨l.toArray⟩).size, (bytesCells w e ⟨l.toArray⟩).size + 1)) :: L) (bytesWorld w e ⟨l.toArray⟩) := by
    refine hh.own.new ⟨rfl, rfl, rfl⟩ (by rw [bytesWorld_size]; omega) (fun b hb => bytesWorld_at_old w e _ b hb) hnew (fun b hb => ?_) (by simp [pt])
    have : b = w.heap.size := by simpa [pt] using hb
    subst this
    exact ⟨by rw [bytesWorld_size]; omega, Nat.le_refl _⟩
  obtain ⟨M', o1, o2, o3, -⟩ := ho.publish
  refine ⟨_, _, M', L, ?_, o1, _, _, rfl, o2, BSl.mk (by exact hge) (by simpa [maxLen] using hcm) (fun h => by cases h) ⟨by simp, byteV_one l, fun _ => ⟨_, rfl, rfl, _, _, _, o3, fun j v hv => ?_⟩⟩, rfl⟩
  · simp only [execOp, Sem.run_bind, hh.fits.ev hx, hr, Result.andThen_ok, Sem.run_pure]
    rfl
  · simp only [Nat.zero_add, bytesCells]
    rw [byteV] at hv
    have hj : j < l.length := by
      rcases Nat.lt_or_ge j l.length with h | h
      · exact h
      · rw [List.getElem?_eq_none (by simpa using h)] at hv; cases hv
    rw [Array.getElem?_append_left (by simpa using hj)]
    simpa using hv
end
end Bf

