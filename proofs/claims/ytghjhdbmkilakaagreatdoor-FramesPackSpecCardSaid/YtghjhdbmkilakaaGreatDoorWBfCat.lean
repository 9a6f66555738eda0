/-
  Strings put together.
  Conditions: none; plain laws over any program.
-/
import Derived.Test.YtghjhdbmkilakaaGreatDoorWBfOps
namespace Bf
open Go
theorem Stab.strcat {P : Program} {fr : Fr} {M : Mem} {L : List Res} {d : Nat} {ty : TypeId} {pos : String} {aft : Array Edge} {g : Option (Nat × Bool)} {t u : TypeId} {x y : Operand} {a b : List UInt8} (hx : ev fr x = some (.string ⟨a.toArray⟩)) (hy : ev fr y = some (.string ⟨b.toArray⟩))
    (h : a.length + b.length ≤ 9223372036854775807) : Stab P fr M L ⟨some d, .binOp .add t x y u, ty, pos, aft, g⟩ (.string ⟨(a ++ b).toArray⟩) := by
  intro n D ac w hf _
  have e : (⟨a.toArray⟩ : ByteArray) ++ ⟨b.toArray⟩ = ⟨(a ++ b).toArray⟩ := by
    apply ByteArray.ext
    simp
  have hs : ¬ (((⟨a.toArray⟩ : ByteArray).size + (⟨b.toArray⟩ : ByteArray).size : Nat) : Int) > IntKind.i64.max := by
    have h1 : (⟨a.toArray⟩ : ByteArray).size = a.length := by simp [ByteArray.size]
    have h2 : (⟨b.toArray⟩ : ByteArray).size = b.length := by simp [ByteArray.size]
    have h3 : IntKind.i64.max = 9223372036854775807 := by decide
    rw [h1, h2, h3]
    omega
  simp only [execOp, hf.ev hx, hf.ev hy, eqGuard, binOp, Op.stringOp, if_neg hs, Sem.run_bind, Sem.run_pure, Result.andThen_ok, e]
  simp [Sem.run_pure]
end Bf

