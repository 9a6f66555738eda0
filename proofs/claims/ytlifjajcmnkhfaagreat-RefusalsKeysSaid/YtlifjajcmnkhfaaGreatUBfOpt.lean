/-
 More operations: checks for nil, interface values, panics, elements of array values, numbers without sign.
 Conditions: none; plain laws over any program.
-/
import Derived.Test.YtlifjajcmnkhfaaGreatUBfPan
import Derived.Laws.BitsLemmas
import Derived.Laws.Build
import Derived.WalkSmall
import Derived.Laws.Small
namespace Bf
open Go
section
variable {r : Option Nat} {P : Program} {E : World} {Q : Exit → Act → World → Prop} {n : Nat} {fr : Fr} {D : List Deferred} {M : Mem} {L : List Res} {K : S → Prop}
variable {d : Nat} {ty : TypeId} {pos : String} {aft : Array Edge} {g : Option (Nat × Bool)}
theorem Stab.nilCheck {x : Operand} {a : Addr} (hx : ev fr x = some (.pointer (some a))) : Stab P fr M L ⟨some d, .nilCheck x, ty, pos, aft, g⟩ (.pointer (some a)) := by
 intro n' D ac w hf _
 simp [execOp, hf.ev hx]
theorem Stab.makeIface {t : TypeId} {x : Operand} {v : Value} (hx : ev fr x = some v) (hc : P.concrete t = true) : Stab P fr M L ⟨some d, .makeInterface t x, ty, pos, aft, g⟩ (.iface t v) := by
 intro n' D ac w hf _
 simp [execOp, hf.ev hx, run_makeInterface w t v hc]
theorem Exec.panic {t : TypeId} {x : Operand} {v : Value} {dst : Option Tmp} (hx : ev fr x = some (.iface t v)) (k : Tr E ⟨n, fr, D, M, L⟩ (Q (.panic [{ v := .iface t v, recovered := false }]))) :
  Exec r P E Q ⟨n, fr, D, M, L⟩ ⟨dst, .panic x, ty, pos, aft, g⟩ K := fun a w hs => by
 refine ⟨fun _ _ => trivial, ?_⟩
 have h : (Oper.semAt r a.eval ⟨dst, .panic x, ty, pos, aft, g⟩).run P w = .halt (.panic (.iface t v)) w := by
  have e : Oper.semAt r a.eval ⟨dst, .panic x, ty, pos, aft, g⟩ = execOp a.eval ⟨dst, .panic x, ty, pos, aft, g⟩ := by
   cases r with
   | none => rfl
   | some l => rfl
  rw [e]
  simp [execOp, hs.fits.ev hx, run_panic_iface]
 show Oper.uponIn (rf r) 0 P _ a _ Q ((Oper.semAt r a.eval _).run P w)
 rw [h]
 exact k a w hs
theorem Stab.lensL {t : TypeId} {i : TyI} {x : Operand} {l : List UInt8} (hx : ev fr x = some (.string ⟨l.toArray⟩)) (hT : HasTy P t i) (hd : (match i.desc with | .string => true | _ => false) = true) :
  Stab P fr M L ⟨some d, .call { callee := .builtin .len, args := #[x], argTypes := #[t] }, ty, pos, aft, g⟩ (.int .i64 (l.length : Int)) := by
 have := Stab.lens (P := P) (M := M) (L := L) (d := d) (ty := ty) (pos := pos) (aft := aft) (g := g) hx hT hd
 simpa using this
theorem Stab.min2 {x y : Operand} {k k' : IntKind} {a b : Int} {ts : Array TypeId} (hx : ev fr x = some (.int k a)) (hy : ev fr y = some (.int k' b)) :
  Stab P fr M L ⟨some d, .call { callee := .builtin .min, args := #[x, y], argTypes := ts }, ty, pos, aft, g⟩ (.int k (min a b)) := by
 intro n D ac w hf _
 have e : min a b = if b < a then b else a := by rw [Int.min_def]; split <;> split <;> omega
 rw [e]
 simp [execOp, resolve, invoke, builtin, hf.ev hx, hf.ev hy, run_min_int2]
end
section
variable {r : Option Nat} {P : Program} {E : World} {Q : Exit → Act → World → Prop} {s : S} {K : S → Prop} {d : Nat} {ty : TypeId} {pos : String} {aft : Array Edge} {g : Option (Nat × Bool)}
theorem Knd.max {x y : Operand} {ts : Array TypeId} (h : Exec r P E Q s ⟨some d, .call { callee := .builtin .max, args := #[x, y], argTypes := ts }, ty, pos, aft, g⟩ K) : Exec r P E Q s ⟨some d, .call { callee := .builtin .max, args := #[x, y], argTypes := ts }, ty, pos, aft, g⟩ K := h
theorem Knd.min {x y : Operand} {ts : Array TypeId} (h : Exec r P E Q s ⟨some d, .call { callee := .builtin .min, args := #[x, y], argTypes := ts }, ty, pos, aft, g⟩ K) : Exec r P E Q s ⟨some d, .call { callee := .builtin .min, args := #[x, y], argTypes := ts }, ty, pos, aft, g⟩ K := h
theorem Knd.nilCheck {x : Operand} (h : Exec r P E Q s ⟨some d, .nilCheck x, ty, pos, aft, g⟩ K) : Exec r P E Q s ⟨some d, .nilCheck x, ty, pos, aft, g⟩ K := h
theorem Knd.makeInterface {t : TypeId} {x : Operand} (h : Exec r P E Q s ⟨some d, .makeInterface t x, ty, pos, aft, g⟩ K) : Exec r P E Q s ⟨some d, .makeInterface t x, ty, pos, aft, g⟩ K := h
theorem Knd.panic {x : Operand} {dst : Option Tmp} (h : Exec r P E Q s ⟨dst, .panic x, ty, pos, aft, g⟩ K) : Exec r P E Q s ⟨dst, .panic x, ty, pos, aft, g⟩ K := h
theorem Knd.makeFunc {f : Go.Fn} {xs ys : Array Operand} (h : Exec r P E Q s ⟨some d, .makeFunc f xs ys, ty, pos, aft, g⟩ K) : Exec r P E Q s ⟨some d, .makeFunc f xs ys, ty, pos, aft, g⟩ K := h
end
end Bf

