/-
  Operations whose guard is an operation that was itself left out.
  Conditions: none; plain laws over any program.
-/
import Derived.Test.YtghjhdbmkilakaaDoorQBfTac
import Derived.Test.YtghjhdbmkilakaaDoorQBfDraw
namespace Bf
open Go
section
variable {r : Option Nat} {P : Program} {E : World} {Q : Exit → Act → World → Prop} {n : Nat} {fr : Fr} {D : List Deferred} {M : Mem} {L : List Res}
end
section
variable {r : Option Nat} {P : Program} {E : World} {ops : Array Oper} {Q : Exit → Act → World → Prop} {B L : List Res} {fuel n : Nat} {l : List Nat} {fr : Fr} {D : List Deferred} {M : Mem}
end
end Bf

