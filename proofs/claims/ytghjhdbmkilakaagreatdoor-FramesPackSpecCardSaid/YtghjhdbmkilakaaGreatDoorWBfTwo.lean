/-
  A list of operations walked by itself, and changes of what is owned within an open region.
  Conditions: none; plain laws over any program.
-/
import Derived.Test.YtghjhdbmkilakaaGreatDoorWBfCut
namespace Bf
open Go
theorem letsOut_mono {Q Q' : Exit → Act → World → Prop} (hq : ∀ e a w, Q e a w → Q' e a w) (h : LetsOut Q) : LetsOut Q' := let ⟨a, w, h⟩ := h; ⟨a, w, hq _ _ _ h⟩
theorem operIn_mono {F : Fence} {n : Nat} {P : Program} {o : Oper} {a : Act} {w : World} {K K' : Act → World → Prop} {Q Q' : Exit → Act → World → Prop} (h : ∀ a w, K a w → K' a w) (hq : ∀ e a w, Q e a w → Q' e a w)
    (hh : o.wpIn F n P a w K Q) : o.wpIn F n P a w K' Q' := by
  unfold Oper.wpIn at *
  refine ⟨hh.1, ?_⟩
  have hh := hh.2
  generalize (o.semAt F.round a.eval).run P w = r at *
  cases r with
  | ok x w' =>
    cases x <;> simp only [Oper.uponIn] at hh ⊢ <;>
      first
        | exact h _ _ hh
        | exact ⟨hh.1, CallsIn.mono hh.2 (fun e w'' he => by cases e <;> first | exact h _ _ he | exact hq _ _ _ he | exact letsOut_mono hq he)⟩
        | exact ⟨hh.1, RowsIn.mono hh.2 (fun _ _ he => h _ _ he)⟩
        | exact ⟨hh.1, RoundIn.mono hh.2 (fun e w'' he => by cases e <;> first | exact h _ _ he | exact hq _ _ _ he | exact letsOut_mono hq he)⟩
  | halt x w' => cases x <;> simp only [Oper.uponIn] at hh ⊢ <;> first | exact hh | exact hq _ _ _ hh
theorem wpListIn_mono {F : Fence} {n : Nat} {P : Program} {ops : Array Oper} {Q Q' : Exit → Act → World → Prop} (hq : ∀ e a w, Q e a w → Q' e a w) : ∀ (l : List Oper) (a : Act) (w : World), wpListIn F n P ops Q l a w → wpListIn F n P ops Q' l a w
  | [], a, w, h => hq _ _ _ h
  | o :: l, a, w, h => by
    unfold wpListIn at h ⊢
    split
    · rename_i hw
      rw [if_pos hw] at h
      exact operIn_mono (fun a w => wpListIn_mono hq l a w) hq h
    · rename_i hw
      rw [if_neg hw] at h
      exact ⟨h.1, wpListIn_mono hq l _ _ h.2⟩
/-- the rest of a region walked by itself -/
theorem Tr.cutL {α : Type} {r : Option Nat} {P : Program} {E : World} {Q : Exit → Act → World → Prop} {s : S} {ops : Array Oper} {l : List Oper} (J : α → S) (C : α → Prop) (h1 : Tr E s (wpListIn (rf r) 0 P ops (Land E J C) l)) (h2 : ∀ y, C y → Tr E (J y) (Q .normal)) :
    Tr E s (wpListIn (rf r) 0 P ops Q l) := fun a w hs =>
  wpListIn_mono (fun e a w ⟨he, y, hc, hj⟩ => by subst he; exact h2 y hc a w hj) l a w (h1 a w hs)
theorem TrA.via {r : Option Nat} {P : Program} {E : World} {ops : Array Oper} {Q : Exit → Act → World → Prop} {B L L' : List Res} {fuel n : Nat} {l : List Nat} {fr : Fr} {D : List Deferred} {M : Mem}
    (h : ∀ X, Tr E ⟨n, fr, D, M, L'⟩ X → Tr E ⟨n, fr, D, M, L⟩ X) (k : TrA r P E ops Q B fuel l ⟨n, fr, D, M, L'⟩) : TrA r P E ops Q B fuel l ⟨n, fr, D, M, L⟩ := h _ k
end Bf

