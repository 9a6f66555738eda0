/-
 A piece of code walked by itself: what is behind it is walked once, however many ways lead through it.
 Conditions: none; plain laws over any program.
-/
import Derived.Test.YtlifjajcmnkhfaaGreatUBfDraw
import Derived.Test.YtlifjajcmnkhfaaGreatUBfTac
import Derived.Test.YtlifjajcmnkhfaaGreatUBfRep
namespace Bf
open Go
def Land (E : World) {α : Type} (J : α → S) (C : α → Prop) (x : Exit) (a : Act) (w : World) : Prop := x = .normal ∧ ∃ y, C y ∧ (J y).holds E a w
theorem Tr.cut {α : Type} {r : Option Nat} {P : Program} {E : World} {Q : Exit → Act → World → Prop} {s : S} {c : Code} (J : α → S) (C : α → Prop) (h1 : Tr E s (c.wpIn (rf r) 0 P (Land E J C))) (h2 : ∀ y, C y → Tr E (J y) (Q .normal)) :
  Tr E s (c.wpIn (rf r) 0 P Q) := fun a w hs =>
 Code.wpIn_mono (fun e a w ⟨he, y, hc, hj⟩ => by subst he; exact h2 y hc a w hj) (h1 a w hs)
theorem Tr.land {α : Type} {E : World} {J : α → S} {C : α → Prop} {s : S} (y : α) (hC : C y) (h : ∀ a w, s.holds E a w → (J y).holds E a w) : Tr E s (Land E J C .normal) := fun a w hs => ⟨rfl, y, hC, h a w hs⟩
theorem AnyI.weaken {r : Option Nat} {P : Program} {ops : Array Oper} {Q : Exit → Act → World → Prop} {fuel : Nat} {I J : World → Prop} {listed : Array Bool} {a : Act} {w : World} (hIJ : ∀ w, I w → J w) (h : AnyI r P ops Q fuel I listed a w) : AnyI r P ops Q fuel J listed a w := by
 cases fuel with
 | zero => exact h
 | succ f => exact ⟨h.1, fun i hi => wpOpIn_mono (fun a w ⟨I', h3, h4, h5⟩ => ⟨I', h3, fun hd w hw => hIJ _ (h4 hd w hw), h5⟩) (h.2 i hi)⟩
theorem TrA.publish {r : Option Nat} {P : Program} {E : World} {ops : Array Oper} {Q : Exit → Act → World → Prop} {B L L' : List Res} {fuel n : Nat} {l : List Nat} {fr : Fr} {D : List Deferred} {M : Mem} {x : Res} (hd : Del L x L')
  (k : ∀ M', Mem.le M M' → x.ok M' → TrA r P E ops Q B fuel l ⟨n, fr, D, M', L'⟩) : TrA r P E ops Q B fuel l ⟨n, fr, D, M, L⟩ := fun a w hs => by
 obtain ⟨M', h1, h2, h3, _⟩ := (hs.own.perm hd.perm).publish
 exact AnyI.weaken (fun w hk => ⟨h2.trans hk.mem, hk.res⟩) (k M' h2 h3 a w ⟨hs.fits, h1⟩)
theorem Tr.app {r : Option Nat} {P : Program} {E : World} {Q : Exit → Act → World → Prop} {s : S} {ops : Array Oper} {o : Oper} {l m : List Oper} (h : Tr E s (wpListIn (rf r) 0 P ops Q (o :: List.append l m))) : Tr E s (wpListIn (rf r) 0 P ops Q (List.append (o :: l) m)) := h
theorem Tr.app0 {r : Option Nat} {P : Program} {E : World} {Q : Exit → Act → World → Prop} {s : S} {ops : Array Oper} {m : List Oper} (h : Tr E s (wpListIn (rf r) 0 P ops Q m)) : Tr E s (wpListIn (rf r) 0 P ops Q (List.append [] m)) := h
end Bf

