/-
  Numbers: remainders, quotients, shifts, conversions, as rules of the small logic.
  Conditions: none; plain laws over any program.
-/
import Derived.Test.YtlifjajcmnkhfaaQBfTwo
namespace Bf
open Go
section
variable {r : Option Nat} {P : Program} {fr : Fr} {M : Mem} {L : List Res}
variable {d : Nat} {ty : TypeId} {pos : String} {aft : Array Edge} {g : Option (Nat × Bool)}
end

end Bf

