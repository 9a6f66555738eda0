/-
 The rest of a block's cells, loaded as one value.
 Conditions: none; plain laws over any program.
-/
import Derived.Test.YtcadnjmcmegpjaaTBfEff
import Derived.Test.YtcadnjmcmegpjaaTBfByte
namespace Bf
open Go
theorem TakeL.whole : ∀ (l : List Value), TakeL l.length l l
 | [] => .z
 | _ :: l => .s (TakeL.whole l)
theorem TrA.less {r : Option Nat} {P : Program} {E : World} {ops : Array Oper} {Q : Exit → Act → World → Prop} {B L : List Res} {fuel n : Nat} {l : List Nat} {fr fr' : Fr} {D : List Deferred} {M : Mem} (hf : SubFr fr fr')
  (k : TrA r P E ops Q B fuel l ⟨n, fr', D, M, L⟩) : TrA r P E ops Q B fuel l ⟨n, fr, D, M, L⟩ := fun a w hs => k a w (holds_sub hf DropL.refl a w hs)
def tailC : Nat → Code → Code
 | n + 1, .seq _ c => tailC n c
 | _, c => c
theorem TrA.cells {r : Option Nat} {P : Program} {E : World} {ops : Array Oper} {Q : Exit → Act → World → Prop} {B L L' : List Res} {fuel n : Nat} {l : List Nat} {fr : Fr} {D : List Deferred} {M : Mem} {b t : Nat} {cs cs' : List Value} (hL : Upd L (box b t cs) (box b t cs') L') (he : cs = cs')
  (k : TrA r P E ops Q B fuel l ⟨n, fr, D, M, L'⟩) : TrA r P E ops Q B fuel l ⟨n, fr, D, M, L⟩ := by
 subst he
 rwa [hL.same] at k
end Bf

