/-
 Numbers: remainders, quotients, shifts, conversions, as rules of the small logic.
 Conditions: none; plain laws over any program.
-/
import Derived.Test.YtcadnjmcmegpjaaTBfTwo
namespace Bf
open Go
section
variable {r : Option Nat} {P : Program} {fr : Fr} {M : Mem} {L : List Res}
variable {d : Nat} {ty : TypeId} {pos : String} {aft : Array Edge} {g : Option (Nat × Bool)}
end

def LandQ (E : World) {α : Type} (J : α → S) (C : α → Prop) (Q : Exit → Act → World → Prop) : Exit → Act → World → Prop
 | .normal => fun a w => ∃ y, C y ∧ (J y).holds E a w
 | x => Q x
theorem Tr.cutQ {α : Type} {r : Option Nat} {P : Program} {E : World} {Q : Exit → Act → World → Prop} {s : S} {c : Code} (J : α → S) (C : α → Prop) (h1 : Tr E s (c.wpIn (rf r) 0 P (LandQ E J C Q))) (h2 : ∀ y, C y → Tr E (J y) (Q .normal)) :
  Tr E s (c.wpIn (rf r) 0 P Q) := fun a w hs =>
 Code.wpIn_mono (fun e a w h => by
  cases e
  case normal => exact let ⟨y, hc, hj⟩ := h; h2 y hc a w hj
  all_goals exact h) (h1 a w hs)
theorem Tr.landQ {α : Type} {E : World} {J : α → S} {C : α → Prop} {Q : Exit → Act → World → Prop} {s : S} (y : α) (hC : C y) (h : ∀ a w, s.holds E a w → (J y).holds E a w) : Tr E s (LandQ E J C Q .normal) := fun a w hs => ⟨y, hC, h a w hs⟩
theorem Tr.landQ_ret {α : Type} {E : World} {J : α → S} {C : α → Prop} {Q : Exit → Act → World → Prop} {s : S} (h : Tr E s (Q .ret)) : Tr E s (LandQ E J C Q .ret) := h
end Bf

