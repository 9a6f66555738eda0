/-
 A list of operations walked by itself, and changes of what is owned within an open region.
 Conditions: none; plain laws over any program.
-/
import Derived.Test.YtlifjajcmnkhfaaGreatUBfCut
namespace Bf
open Go
theorem TrA.via {r : Option Nat} {P : Program} {E : World} {ops : Array Oper} {Q : Exit → Act → World → Prop} {B L L' : List Res} {fuel n : Nat} {l : List Nat} {fr : Fr} {D : List Deferred} {M : Mem}
  (h : ∀ X, Tr E ⟨n, fr, D, M, L'⟩ X → Tr E ⟨n, fr, D, M, L⟩ X) (k : TrA r P E ops Q B fuel l ⟨n, fr, D, M, L'⟩) : TrA r P E ops Q B fuel l ⟨n, fr, D, M, L⟩ := h _ k
end Bf

