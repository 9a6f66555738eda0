/-
 Elements of an owned block moved within it by append; a part of it cleared.
 Conditions: none; plain laws over any program.
-/
import Derived.Test.YtlifjajcmnkhfaaGreatUBfClear
import Derived.Test.YtlifjajcmnkhfaaGreatUBfQueue
import Derived.Test.YtlifjajcmnkhfaaGreatUBfGrow
import Derived.Test.YtlifjajcmnkhfaaGreatUBfRepB
namespace Bf
open Go
section
variable {r : Option Nat} {P : Program} {E : World} {Q : Exit → Act → World → Prop} {n : Nat} {fr : Fr} {D : List Deferred} {M : Mem} {L L' : List Res} {K : S → Prop}
variable {d : Nat} {ty : TypeId} {pos : String} {aft : Array Edge} {g : Option (Nat × Bool)}
end
end Bf

