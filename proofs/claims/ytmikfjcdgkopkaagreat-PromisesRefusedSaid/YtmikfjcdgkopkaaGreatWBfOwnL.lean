/-
 Elements of several cells, read from a slice that is owned.
 Conditions: none; plain laws over any program.
-/
import Derived.Test.YtmikfjcdgkopkaaGreatWBfLend
namespace Bf
open Go
section
variable {P : Program} {fr : Fr} {M : Mem} {L : List Res} {d : Nat} {ty : TypeId} {pos : String} {aft : Array Edge} {g : Option (Nat × Bool)}
theorem Stab.loadSA {t e : TypeId} {i : TyI} {x : Operand} {A : Option Addr} {m c j sz : Nat} {xs r : List Value} (hx : ev fr x = some (.pointer (some ((A.getD default).add (j * sz))))) (hT : HasTy P t i) (ha : TypeDesc.agg i.desc = true) (hL : Has L (ownS e sz A m c xs)) (hj : j < m) (hr : (xs.drop (j * sz)).take sz = r) (hl : r.length = i.size) :
  Stab P fr M L ⟨some d, .load t x, ty, pos, aft, g⟩ (.agg r.toArray) := by
 intro n D a' w hf hk
 have hat := ((Row.of_own (hk.res _ hL.mem)).1.elem hj).2
 rw [hr] at hat
 simp [execOp, Instr.loadAt, Instr.sureAddr, hf.ev hx, loadVar_agg hT ha hl (hat.cell (Mem.le.refl _))]
theorem Stab.loadSF {t e : TypeId} {i : TyI} {x : Operand} {A : Option Addr} {m c j sz o : Nat} {xs r : List Value} {v : Value} (hx : ev fr x = some (.pointer (some (((A.getD default).add (j * sz)).add o)))) (hT : HasTy P t i) (ha : TypeDesc.agg i.desc = false) (hL : Has L (ownS e sz A m c xs)) (hj : j < m) (hr : (xs.drop (j * sz)).take sz = r) (hv : r[o]? = some v) :
  Stab P fr M L ⟨some d, .load t x, ty, pos, aft, g⟩ v := by
 intro n D a' w hf hk
 have hat := ((Row.of_own (hk.res _ hL.mem)).1.elem hj).2
 rw [hr] at hat
 have hc := hat.cell (Mem.le.refl _) o v hv
 generalize ((A.getD default).add (j * sz)).add o = ad at hx hc
 simp [execOp, Instr.loadAt, Instr.sureAddr, hf.ev hx, loadVar_scalar hT ha hc]
end
end Bf

