/-
  The beginning of an array, sliced.
  Conditions: none; plain laws over any program.
-/
import Derived.Test.YtghjhdbmkilakaaGreatDoorWBfArr
import Derived.Test.YtghjhdbmkilakaaGreatDoorWBfInts
namespace Bf
open Go
section
variable {P : Program} {fr : Fr} {M : Mem} {L : List Res}
variable {d : Nat} {ty : TypeId} {pos : String} {aft : Array Edge} {g : Option (Nat × Bool)}
theorem Stab.sliceArrH {t e : TypeId} {i ei : TyI} {x hi : Operand} {n : Nat} {a : Addr} {kh : IntKind} {h : Int} (hx : ev fr x = some (.pointer (some a))) (hh : ev fr hi = some (.int kh h)) (hT : HasTy P t i) (hd : i.desc = .array n e) (hE : HasTy P e ei) (hn : Nat.blt 0 n = true) (h1 : 0 ≤ h) (h2 : h ≤ n) :
    Stab P fr M L ⟨some d, .slice t x none (some hi) none, ty, pos, aft, g⟩ (.slice (some a) h.toNat n) := by
  intro n' D ac w hf _
  have hu := hT.1
  rw [hd] at hu
  have hn' : ¬ n = 0 := by have := Nat.blt_eq.mp hn; omega
  simp only [execOp, hf.ev hx, hf.ev hh, Option.map_none, Option.map_some]
  simp [Instr.sliceAt, run_underlying hu, Instr.sureAddr, Instr.sliceBounds, Instr.sliceBound, asIntOf, h1, h2, run_sizeOf hE, hn', Addr.add_zero']
theorem Stab.arrneI {t u e : TypeId} {i ei : TyI} {x y : Operand} {n : Nat} {l m : List Int} (hx : ev fr x = some (.agg (intV l).toArray)) (hy : ev fr y = some (.agg (intV m).toArray)) (hT : HasTy P t i) (hd : i.desc = .array n e)
    (hE : HasTy P e ei) (hed : ei.desc = .int .i64) (hes : szOf ei = some 1) (hg : P.eqGuardType P.depth t = false) (hl : l.length = n) (hm : m.length = n) : Stab P fr M L ⟨some d, .binOp .neq t x y u, ty, pos, aft, g⟩ (.bool (decide (¬ l = m))) := by
  intro n' D ac w hf _
  have hu := hT.1
  rw [hd] at hu
  have he := hE.1
  rw [hed] at he
  obtain ⟨_, j, hj, hjs, _, _⟩ := hE
  rw [szOf_eq hes] at hjs
  have h : (Op.equalIn 10000 t (.agg (intV l).toArray) (.agg (intV m).toArray)).run P w = .ok (decide (l = m)) w := run_arreq (P := P) hu he hj hjs (xs := l) (ys := m) hl hm w
  simp only [execOp, hf.ev hx, hf.ev hy, Sem.run_bind, run_eqGuard_agg w .neq t x y _ _ hg, Result.andThen_ok, run_neq_struct, h, Sem.run_pure]
  simp
end
end Bf

