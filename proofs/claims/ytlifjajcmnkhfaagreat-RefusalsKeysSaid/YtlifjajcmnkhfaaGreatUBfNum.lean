/-
 Numbers: remainders, quotients, shifts, conversions, as rules of the small logic.
 Conditions: none; plain laws over any program.
-/
import Derived.Test.YtlifjajcmnkhfaaGreatUBfTwo
namespace Bf
open Go
section
variable {r : Option Nat} {P : Program} {fr : Fr} {M : Mem} {L : List Res}
variable {d : Nat} {ty : TypeId} {pos : String} {aft : Array Edge} {g : Option (Nat × Bool)}
theorem Stab.shl {t u : TypeId} {x y : Operand} {k k' : IntKind} {a b : Int} (hx : ev fr x = some (.int k a)) (hy : ev fr y = some (.int k' b)) (hb : 0 ≤ b) :
  Stab P fr M L ⟨some d, .binOp .shl t x y u, ty, pos, aft, g⟩ (.int k (k.wrap (a * 2 ^ min b.toNat k.bits))) := by
 intro n D ac w hf _
 simp only [execOp, hf.ev hx, hf.ev hy]
 simp [binOp, eqGuard, Op.shift, show ¬ b < 0 by omega]
theorem Stab.shr {t u : TypeId} {x y : Operand} {k k' : IntKind} {a b : Int} (hx : ev fr x = some (.int k a)) (hy : ev fr y = some (.int k' b)) (hb : 0 ≤ b) :
  Stab P fr M L ⟨some d, .binOp .shr t x y u, ty, pos, aft, g⟩ (.int k (a.fdiv (2 ^ min b.toNat k.bits))) := by
 intro n D ac w hf _
 simp only [execOp, hf.ev hx, hf.ev hy]
 simp [binOp, eqGuard, Op.shift, show ¬ b < 0 by omega]
end

end Bf

