/-
 Arrays: sliced whole, compared; capacity; append of new zeros.
 Conditions: none; plain laws over any program.
-/
import Derived.Test.YtlifjajcmnkhfaaGreatUBfByte
import Derived.DeepKeys
import Derived.Lib.AppendZeros
namespace Bf
open Go
section
variable {P : Program}
variable {fr : Fr} {M : Mem} {L : List Res} {d : Nat} {ty : TypeId} {pos : String} {aft : Array Edge} {g : Option (Nat × Bool)}
end
section
variable {r : Option Nat} {P : Program} {E : World} {Q : Exit → Act → World → Prop} {s : S} {n : Nat} {fr : Fr} {D : List Deferred} {M : Mem} {L : List Res} {K : S → Prop}
variable {d : Nat} {ty : TypeId} {pos : String} {aft : Array Edge} {g : Option (Nat × Bool)}
theorem Knd.cap {x : Operand} {ts : Array TypeId} (h : Exec r P E Q s ⟨some d, .call { callee := .builtin .cap, args := #[x], argTypes := ts }, ty, pos, aft, g⟩ K) : Exec r P E Q s ⟨some d, .call { callee := .builtin .cap, args := #[x], argTypes := ts }, ty, pos, aft, g⟩ K := h
end
theorem AllOne.of : ∀ {l : List Value}, (∀ u ∈ l, u.oneCell' = true) → AllOne l
 | [], _ => .nil
 | _ :: _, h => .cons (h _ (by simp)) (AllOne.of fun u hu => h u (by simp [hu]))
theorem AllOne.bytes (l : List UInt8) : AllOne (byteV l) := AllOne.of (byteV_one l)
end Bf

