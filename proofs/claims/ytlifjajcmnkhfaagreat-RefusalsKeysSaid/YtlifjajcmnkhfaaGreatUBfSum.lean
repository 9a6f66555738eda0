/-
 Sums over the first numbers.
 Conditions: none; plain laws.
-/
import Derived.KernelRfl
namespace Bf
def sumN : Nat → (Nat → Int) → Int
 | 0, _ => 0
 | n + 1, f => sumN n f + f n
theorem sumN_congr {f g : Nat → Int} : ∀ {n : Nat}, (∀ i, i < n → f i = g i) → sumN n f = sumN n g
 | 0, _ => rfl
 | n + 1, h => by rw [sumN, sumN, sumN_congr (n := n) (fun i hi => h i (by omega)), h n (by omega)]
theorem sumN_add (f g : Nat → Int) : ∀ (n : Nat), sumN n (fun i => f i + g i) = sumN n f + sumN n g
 | 0 => rfl
 | n + 1 => by rw [sumN, sumN, sumN, sumN_add f g n]; omega
theorem sumN_sub (f g : Nat → Int) : ∀ (n : Nat), sumN n (fun i => f i - g i) = sumN n f - sumN n g
 | 0 => rfl
 | n + 1 => by rw [sumN, sumN, sumN, sumN_sub f g n]; omega
theorem sumN_le {f g : Nat → Int} : ∀ {n : Nat}, (∀ i, i < n → f i ≤ g i) → sumN n f ≤ sumN n g
 | 0, _ => Int.le_refl _
 | n + 1, h => by
  rw [sumN, sumN]
  have h1 := sumN_le (n := n) (fun i hi => h i (by omega))
  have h2 := h n (by omega)
  omega
theorem sumN_zero {f : Nat → Int} {n : Nat} (h : ∀ i, i < n → f i = 0) : sumN n f = 0 := by
 have : ∀ n, sumN n (fun _ => 0) = 0 := by
  intro n
  induction n with
  | zero => rfl
  | succ n ih => rw [sumN, ih]; rfl
 rw [sumN_congr h, this]
theorem sumN_nonneg {f : Nat → Int} {n : Nat} (h : ∀ i, i < n → 0 ≤ f i) : 0 ≤ sumN n f := by
 have := sumN_le (f := fun _ => 0) (g := f) (n := n) h
 rwa [sumN_zero (fun _ _ => rfl)] at this
theorem sumN_swap (f : Nat → Nat → Int) : ∀ (n m : Nat), sumN n (fun i => sumN m (f i)) = sumN m (fun j => sumN n (fun i => f i j))
 | 0, m => (sumN_zero (fun _ _ => rfl)).symm
 | n + 1, m => by
  rw [sumN, sumN_swap f n m, ← sumN_add]
  exact sumN_congr fun j _ => rfl
theorem sumN_one {n k : Nat} (v : Int) (hk : k < n) : sumN n (fun i => if i = k then v else 0) = v := by
 induction n with
 | zero => omega
 | succ n ih =>
  rw [sumN]
  by_cases h : k = n
  ·subst h
   rw [sumN_zero (fun i hi => by rw [if_neg (by omega)]), if_pos rfl]; omega
  ·rw [ih (by omega), if_neg (by omega)]; omega
theorem sumN_le_of_mem {f : Nat → Int} {n k : Nat} (h : ∀ i, i < n → 0 ≤ f i) (hk : k < n) : f k ≤ sumN n f := by
 have := sumN_le (f := fun i => if i = k then f k else 0) (g := f) (n := n) (fun i hi => by
  by_cases e : i = k
  ·simp [e]
  ·simp [e]; exact h i hi)
 rwa [sumN_one _ hk] at this
theorem sumN_upd {f g : Nat → Int} {n k : Nat} (hk : k < n) (h : ∀ i, i ≠ k → g i = f i) : sumN n g = sumN n f + (g k - f k) := by
 have : sumN n g = sumN n (fun i => f i + if i = k then g k - f k else 0) := sumN_congr fun i _ => by
  by_cases e : i = k
  ·subst e; simp; omega
  ·simp [e, h i e]
 rw [this, sumN_add, sumN_one _ hk]
theorem sumN_list (l : List Int) : l.sum = sumN l.length (fun i => l.getD i 0) := by
 have : ∀ (l : List Int) (k : Nat), k ≤ l.length → (l.take k).sum = sumN k (fun i => l.getD i 0) := by
  intro l k
  induction k with
  | zero => intro _; rfl
  | succ k ih =>
   intro hk
   rw [sumN, ← ih (by omega), List.take_add_one, List.sum_append]
   have : l[k]? = some (l[k]'(by omega)) := by simp
   rw [this, List.getD_eq_getElem?_getD, this]
   simp
 have h := this l l.length (Nat.le_refl _)
 rwa [List.take_length] at h
end Bf

