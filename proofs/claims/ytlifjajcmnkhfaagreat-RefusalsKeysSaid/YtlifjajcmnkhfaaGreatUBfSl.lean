/-
 Parts of slices whose elements take more than one cell; bytes at an address.
 Conditions: none; plain laws over any program.
-/
import Derived.Test.YtlifjajcmnkhfaaGreatUBfByte
namespace Bf
open Go
theorem SlOf.pre {α : Type} {sz : Nat} {R : Mem → List Value → α → Prop} {M : Mem} {A : Option Addr} {n c k m : Nat} {xs : List α} (h : SlOf sz R M (.slice A n c) xs) (hk : k ≤ xs.length) (hm : k ≤ m) (hmc : m ≤ c) : SlOf sz R M (.slice A k m) (xs.take k) := by
 obtain ⟨A', c', cells, e, h2, h3, h4, h5, h6⟩ := h
 cases e
 have hlen : (xs.take k).length = k := by simp; omega
 refine ⟨A, m, cells.take (k * sz), by rw [hlen], by omega, by omega, fun hA => by rw [hlen]; have := h4 hA; omega, by rw [hlen]; exact h5.take hk, fun i x hx => ?_⟩
 have hi : i < k := by have := (List.getElem?_eq_some_iff.1 hx).1; omega
 rw [List.getElem?_take, if_pos hi] at hx
 have := h6 i x hx
 have e : ((cells.take (k * sz)).drop (i * sz)).take sz = (cells.drop (i * sz)).take sz := by
  rw [List.drop_take, List.take_take, Nat.min_eq_left]
  have : (i + 1) * sz ≤ k * sz := Nat.mul_le_mul_right _ hi
  rw [Nat.add_mul, Nat.one_mul] at this
  omega
 rw [e]; exact this
theorem SlOf.sub {α : Type} {sz : Nat} {R : Mem → List Value → α → Prop} {M : Mem} {A : Option Addr} {n c l k m : Nat} {xs : List α} (h : SlOf sz R M (.slice A n c) xs) (hl : l ≤ k) (hk : k ≤ xs.length) (hm : k ≤ m) (hmc : m ≤ c) :
  SlOf sz R M (.slice (if m = l then A else A.map (·.add (l * sz))) (k - l) (m - l)) ((xs.drop l).take (k - l)) := by
 obtain ⟨A', c', cells, e, h2, h3, h4, h5, h6⟩ := h
 cases e
 have hlen : ((xs.drop l).take (k - l)).length = k - l := by simp; omega
 have hr := h5.sub (c := max m xs.length) hl hk (by omega)
 have hel : ∀ i x, ((xs.drop l).take (k - l))[i]? = some x → R M (((((cells.drop (l * sz)).take ((k - l) * sz))).drop (i * sz)).take sz) x := fun i x hx => by
  have hi : i < k - l := by have := (List.getElem?_eq_some_iff.1 hx).1; omega
  rw [List.getElem?_take, if_pos hi, List.getElem?_drop] at hx
  have := h6 _ x hx
  have e : ((((cells.drop (l * sz)).take ((k - l) * sz))).drop (i * sz)).take sz = (cells.drop ((l + i) * sz)).take sz := by
   rw [List.drop_take, List.take_take, Nat.min_eq_left, List.drop_drop, Nat.add_mul]
   have : (i + 1) * sz ≤ (k - l) * sz := Nat.mul_le_mul_right _ hi
   rw [Nat.add_mul, Nat.one_mul] at this
   omega
  rw [e]; exact this
 have hfin : ∀ B : Option Addr, (B = none → k - l = 0) → Row M B (k - l) sz ((cells.drop (l * sz)).take ((k - l) * sz)) → SlOf sz R M (.slice B (k - l) (m - l)) ((xs.drop l).take (k - l)) := fun B hB hR =>
  ⟨B, m - l, _, by rw [hlen], by omega, by omega, fun h => by rw [hlen]; exact hB h, by rw [hlen]; exact hR, hel⟩
 refine hfin _ ?_ ?_
 ·split
  ·intro _; omega
  ·cases A with
   | none => intro _; have := h4 rfl; omega
   | some a => intro h; cases h
 ·by_cases e1 : m = l
  ·rw [if_pos e1]
   have e0 : k - l = 0 := by omega
   rw [e0, Nat.zero_mul, List.take_zero]
   exact Row.nil M A sz
  ·rw [if_neg e1]
   by_cases e2 : max m xs.length = l
   ·have e0 : k - l = 0 := by omega
    rw [e0, Nat.zero_mul, List.take_zero]
    exact Row.nil M _ sz
   ·rwa [if_neg e2] at hr
end Bf

