/-
 An owned block as a slice that may grow, with room behind it.
 Conditions: none; plain laws over any program.
-/
import Derived.Test.YtlifjajcmnkhfaaGreatUBfMem
namespace Bf
open Go
theorem Tr.box_ownC {E : World} {n : Nat} {fr : Fr} {D : List Deferred} {M : Mem} {L L' : List Res} {X : Act → World → Prop} {b e : Nat} (sz N c : Nat) {cs xs : List Value} (hL : Upd L (Bf.box b e cs) (ownS e sz (some ⟨b, 0, none⟩) N c xs) L') (hl : cs.length = c * sz) (hN : N ≤ c) (hc : c ≤ maxLen)
  (hx : cs.take (N * sz) = xs) (h1 : ∀ u ∈ xs, u.oneCell' = true) (h : Tr E ⟨n, fr, D, M, L'⟩ X) : Tr E ⟨n, fr, D, M, L⟩ X := fun a w hs => by
 refine h a w ⟨hs.fits, hs.own.upd hL ⟨rfl, rfl, rfl⟩ (Nat.le_refl _) (fun _ _ _ => rfl) ⟨?_, h1, .inr ⟨b, cs.toArray, rfl, hs.own.box_at hL.mem, hN, hc, by simpa using hl, by simpa using hx⟩⟩ (fun q hq => ?_) (by simp [ownS])⟩
 ·rw [← hx, List.length_take, hl]
  exact Nat.min_eq_left (Nat.mul_le_mul_right _ hN)
 ·have : q = b := by simpa [ownS] using hq
  subst this
  exact ⟨hs.own.lt _ hL.mem q (by simp [Bf.box, pt]), .inl (by simp [Bf.box, pt])⟩
end Bf

