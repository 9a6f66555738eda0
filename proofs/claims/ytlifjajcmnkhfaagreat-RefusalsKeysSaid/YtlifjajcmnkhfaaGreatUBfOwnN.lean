/-
 Stores into fields of elements of a slice that the walk owns; lists of elements cell by cell.
 Conditions: none; plain laws over any program.
-/
import Derived.Test.YtlifjajcmnkhfaaGreatUBfLend
import Derived.Test.YtlifjajcmnkhfaaGreatUBfRepB
namespace Bf
open Go
section
variable {r : Option Nat} {P : Program} {E : World} {Q : Exit → Act → World → Prop} {n : Nat} {fr : Fr} {D : List Deferred} {M : Mem} {L L' : List Res} {K : S → Prop}
variable {d : Nat} {ty : TypeId} {pos : String} {aft : Array Edge} {g : Option (Nat × Bool)}
end
/-! elements cell by cell -/
theorem flatMap_len {α : Type} {f : α → List Value} {k : Nat} (hf : ∀ x, (f x).length = k) (l : List α) : (l.flatMap f).length = l.length * k := by
 induction l with
 | nil => simp
 | cons x l ih => rw [List.flatMap_cons, List.length_append, hf, ih, List.length_cons, Nat.succ_mul]; omega
theorem flatMap_one {α : Type} {f : α → List Value} (h1 : ∀ x, ∀ u ∈ f x, u.oneCell' = true) (l : List α) : ∀ u ∈ l.flatMap f, u.oneCell' = true := fun u hu => by
 obtain ⟨x, _, hx⟩ := List.mem_flatMap.1 hu
 exact h1 x u hx
theorem Elems.flat {α : Type} {f : α → List Value} {k : Nat} {R : Mem → List Value → α → Prop} {M : Mem} (hf : ∀ x, (f x).length = k) (hR : ∀ x, R M (f x) x) : ∀ l : List α, Elems k R M (l.flatMap f) l
 | [] => Elems.nil
 | x :: l => by
  have := Elems.append (Elems.one (hf x) (hR x)) (Elems.flat hf hR l)
  rwa [List.flatMap_cons]
theorem SlOf.row {α : Type} {sz n c : Nat} {f : α → List Value} {R : Mem → List Value → α → Prop} {M : Mem} {A : Option Addr} {xs : List α} (h : SlOf sz R M (.slice A n c) xs) (hR : ∀ cs x, R M cs x → cs = f x) (_ : ∀ x, (f x).length = sz) : Row M A xs.length sz (xs.flatMap f) := by
 obtain ⟨cs, -, -, -, -, hrow, hel⟩ := SlOf.cells h
 have hcs : ∀ (cs : List Value) (xs : List α), Elems sz R M cs xs → cs = xs.flatMap f := by
  intro cs xs
  induction xs generalizing cs with
  | nil =>
   intro he
   have := he.1
   simp at this
   simp [this]
  | cons x xs ih =>
   intro he
   have h0 := hR _ _ (he.2 0 x rfl)
   have hl := he.1
   rw [List.length_cons, Nat.succ_mul] at hl
   have ht : Elems sz R M (cs.drop sz) xs := ⟨by rw [List.length_drop]; omega, fun i y hy => by
    have := he.2 (i + 1) y (by simpa using hy)
    rw [Nat.succ_mul] at this
    rwa [List.drop_drop, Nat.add_comm sz]⟩
   rw [List.flatMap_cons, ← ih _ ht]
   rw [Nat.zero_mul, List.drop_zero] at h0
   rw [← h0, List.take_append_drop]
 rw [← hcs cs xs hel]
 exact hrow
end Bf

