/-
 Numbers: remainders, quotients, shifts, conversions, as rules of the small logic.
 Conditions: none; plain laws over any program.
-/
import Derived.Test.YtmikfjcdgkopkaaGreatQBfTwo
namespace Bf
open Go
section
variable {r : Option Nat} {P : Program} {fr : Fr} {M : Mem} {L : List Res}
variable {d : Nat} {ty : TypeId} {pos : String} {aft : Array Edge} {g : Option (Nat × Bool)}
theorem Stab.remt {t u : TypeId} {x y : Operand} {k : IntKind} {a b : Int} (hx : ev fr x = some (.int k a)) (hy : ev fr y = some (.int k b)) (hb : b ≠ 0) :
  Stab P fr M L ⟨some d, .binOp .rem t x y u, ty, pos, aft, g⟩ (.int k (a.tmod b)) := by
 intro n D ac w hf _
 simp only [execOp, hf.ev hx, hf.ev hy]
 simp [binOp, eqGuard, Op.intDiv, hb]
theorem Stab.remp {t u : TypeId} {x y : Operand} {k : IntKind} {a b : Int} (hx : ev fr x = some (.int k a)) (hy : ev fr y = some (.int k b)) (h0 : 0 ≤ a) (hb : 0 < b) :
  Stab P fr M L ⟨some d, .binOp .rem t x y u, ty, pos, aft, g⟩ (.int k (a % b)) := by
 rw [← Int.tmod_eq_emod_of_nonneg h0]
 exact Stab.remt hx hy (by omega)
theorem Stab.shl {t u : TypeId} {x y : Operand} {k k' : IntKind} {a b : Int} (hx : ev fr x = some (.int k a)) (hy : ev fr y = some (.int k' b)) (hb : 0 ≤ b) :
  Stab P fr M L ⟨some d, .binOp .shl t x y u, ty, pos, aft, g⟩ (.int k (k.wrap (a * 2 ^ min b.toNat k.bits))) := by
 intro n D ac w hf _
 simp only [execOp, hf.ev hx, hf.ev hy]
 simp [binOp, eqGuard, Op.shift, show ¬ b < 0 by omega]
theorem Stab.shr {t u : TypeId} {x y : Operand} {k k' : IntKind} {a b : Int} (hx : ev fr x = some (.int k a)) (hy : ev fr y = some (.int k' b)) (hb : 0 ≤ b) :
  Stab P fr M L ⟨some d, .binOp .shr t x y u, ty, pos, aft, g⟩ (.int k (a.fdiv (2 ^ min b.toNat k.bits))) := by
 intro n D ac w hf _
 simp only [execOp, hf.ev hx, hf.ev hy]
 simp [binOp, eqGuard, Op.shift, show ¬ b < 0 by omega]
theorem Stab.convi {s t : TypeId} {i j : TyI} {x : Operand} {k' : IntKind} {m : Int} (hx : ev fr x = some (.int k' m)) (hS : HasTy P s j) (hT : HasTy P t i) (hs : j.desc = .int k') (hd : i.desc = .int .i64)
  (h : -9223372036854775808 ≤ m ∧ m ≤ 9223372036854775807) : Stab P fr M L ⟨some d, .convert s t x, ty, pos, aft, g⟩ (.int .i64 m) := by
 have h' := Stab.conv (P := P) (M := M) (L := L) (d := d) (ty := ty) (pos := pos) (aft := aft) (g := g) hx hS hT hs hd
 rwa [IntWalk.i64_in _ h] at h'
end

end Bf

