/-
 Allocations that need not give all away: what remains possible with more to give and less to serve; requests that are taken on one after the other.
 Conditions: none; plain laws.
-/
import Derived.Test.YtcadnjmcmegpjaaTBfHall
namespace Bf
structure Part (p : Pb) (a : Nat → Nat → Int) : Prop where
 nn : ∀ k, k < p.n → ∀ b, b < p.m → 0 ≤ a k b
 ok : ∀ k, k < p.n → ∀ b, b < p.m → a k b ≠ 0 → p.fits k b = true
 row : ∀ k, k < p.n → sumN p.m (a k) ≤ p.sup k
 col : ∀ b, b < p.m → sumN p.n (fun k => a k b) = p.need b
theorem Flow.part {p : Pb} {a : Nat → Nat → Int} (h : Flow p a fun _ => 0) : Part p a :=
 ⟨fun k hk b hb => h.nn k hk b (by omega), h.ok, fun k hk => by
  have h1 := h.last hk
  have h2 := h.nn k hk p.m (Nat.le_refl _)
  omega, fun b hb => by have := h.col b hb; rw [Int.zero_add] at this; exact this⟩
theorem Part.feas {p : Pb} {a : Nat → Nat → Int} (h : Part p a) : Feas p := by
 refine ⟨fun k b => if b = p.m then p.sup k - sumN p.m (a k) else a k b, ⟨⟨fun k hk b hb => ?_, fun k hk b hb hne => ?_, fun k hk => ?_⟩, fun b hb => ?_, fun _ _ => Int.le_refl _⟩⟩
 ·by_cases e : b = p.m
  ·simp only [if_pos e]
   have := h.row k hk
   omega
  ·simp only [if_neg e]
   exact h.nn k hk b (by omega)
 ·simp only [if_neg (show ¬ b = p.m by omega)] at hne
  exact h.ok k hk b hb hne
 ·rw [sumN]
  simp only [if_true]
  have e : sumN p.m (fun b => if b = p.m then p.sup k - sumN p.m (a k) else a k b) = sumN p.m (a k) := sumN_congr fun b hb => if_neg (by omega)
  rw [e]
  omega
 ·simp only [colOf, if_neg (show ¬ b = p.m by omega)]
  rw [Int.zero_add]
  exact h.col b hb
theorem feas_part {p : Pb} : Feas p ↔ ∃ a, Part p a := ⟨fun ⟨a, h⟩ => ⟨a, h.part⟩, fun ⟨_, h⟩ => h.feas⟩
theorem Feas.more {p q : Pb} (hn : q.n = p.n) (hm : q.m = p.m) (hf : ∀ k, k < p.n → ∀ b, b < p.m → p.fits k b = true → q.fits k b = true) (hs : ∀ k, k < p.n → p.sup k ≤ q.sup k) (hd : ∀ b, b < p.m → q.need b = p.need b ∨ q.need b = 0) (h : Feas p) : Feas q := by
 obtain ⟨a, ha⟩ := feas_part.1 h
 refine feas_part.2 ⟨fun k b => if q.need b = p.need b then a k b else 0, fun k hk b hb => ?_, fun k hk b hb hne => ?_, fun k hk => ?_, fun b hb => ?_⟩
 ·rw [hn] at hk; rw [hm] at hb
  split
  ·exact ha.nn k hk b hb
  ·exact Int.le_refl _
 ·rw [hn] at hk; rw [hm] at hb
  split at hne
  ·exact hf k hk b hb (ha.ok k hk b hb hne)
  ·exact absurd rfl hne
 ·rw [hn] at hk
  rw [hm]
  refine Int.le_trans (Int.le_trans (sumN_le fun b hb => ?_) (ha.row k hk)) (hs k hk)
  have := ha.nn k hk b hb
  split <;> omega
 ·rw [hm] at hb
  rw [hn]
  by_cases e : q.need b = p.need b
  ·simp only [if_pos e]
   rw [ha.col b hb, e]
  ·simp only [if_neg e]
   rw [sumN_zero fun _ _ => rfl]
   rcases hd b hb with h | h
   ·exact absurd h e
   ·exact h.symm
theorem Feas.same {p q : Pb} (hn : q.n = p.n) (hm : q.m = p.m) (hf : ∀ k, k < p.n → ∀ b, b < p.m → q.fits k b = p.fits k b) (hs : ∀ k, k < p.n → q.sup k = p.sup k) (hd : ∀ b, b < p.m → q.need b = p.need b) : Feas p ↔ Feas q :=
 ⟨fun h => h.more hn hm (fun k hk b hb e => by rw [hf k hk b hb]; exact e) (fun k hk => by rw [hs k hk]; exact Int.le_refl _) (fun b hb => .inl (hd b hb)),
 fun h => h.more hn.symm hm.symm (fun k hk b hb e => by rw [hn] at hk; rw [hm] at hb; rw [← hf k hk b hb]; exact e) (fun k hk => by rw [hn] at hk; rw [hs k hk]; exact Int.le_refl _) (fun b hb => by rw [hm] at hb; exact .inl (hd b hb).symm)⟩
/-! requests taken on one after the other -/
noncomputable def acc (P : (Nat → Bool) → Prop) (ask : Nat → Bool) : Nat → Nat → Bool
 | 0 => fun _ => false
 | j + 1 => open Classical in if ask j = true ∧ P (fun b => acc P ask j b || decide (b = j)) then fun b => acc P ask j b || decide (b = j) else acc P ask j
section
variable {P : (Nat → Bool) → Prop} {ask : Nat → Bool}
theorem acc_yes {j : Nat} (h : ask j = true) (hP : P (fun b => acc P ask j b || decide (b = j))) : acc P ask (j + 1) = fun b => acc P ask j b || decide (b = j) := if_pos ⟨h, hP⟩
theorem acc_no {j : Nat} (h : ¬ (ask j = true ∧ P (fun b => acc P ask j b || decide (b = j)))) : acc P ask (j + 1) = acc P ask j := if_neg h
theorem acc_lt : ∀ {j b : Nat}, acc P ask j b = true → b < j ∧ ask b = true
 | 0, _, h => by cases h
 | j + 1, b, h => by
  by_cases c : ask j = true ∧ P (fun b => acc P ask j b || decide (b = j))
  ·rw [acc_yes c.1 c.2] at h
   rcases Bool.or_eq_true_iff.1 h with h | h
   ·have := acc_lt h
    exact ⟨by omega, this.2⟩
   ·have := of_decide_eq_true h
    subst this
    exact ⟨by omega, c.1⟩
  ·rw [acc_no c] at h
   have := acc_lt h
   exact ⟨by omega, this.2⟩
theorem acc_ok (h0 : P fun _ => false) : ∀ j, P (acc P ask j)
 | 0 => h0
 | j + 1 => by
  by_cases c : ask j = true ∧ P (fun b => acc P ask j b || decide (b = j))
  ·rw [acc_yes c.1 c.2]; exact c.2
  ·rw [acc_no c]; exact acc_ok h0 j
theorem acc_stay {b : Nat} : ∀ {j : Nat}, b < j → acc P ask j b = acc P ask (b + 1) b
 | 0, h => by omega
 | j + 1, h => by
  by_cases e : b = j
  ·subst e; rfl
  ·rw [← acc_stay (j := j) (by omega)]
   by_cases c : ask j = true ∧ P (fun b => acc P ask j b || decide (b = j))
   ·rw [acc_yes c.1 c.2]
    simp [e]
   ·rw [acc_no c]
theorem acc_all (hmono : ∀ S T : Nat → Bool, (∀ b, T b = true → S b = true) → P S → P T) {e : Nat} (h : P fun b => decide (b < e) && ask b) : ∀ {j : Nat}, j ≤ e → ∀ b, acc P ask j b = (decide (b < j) && ask b)
 | 0, _, b => by simp [acc]
 | j + 1, hj, b => by
  have ih := acc_all hmono h (j := j) (by omega)
  by_cases ha : ask j = true
  ·have hP : P (fun b => acc P ask j b || decide (b = j)) := hmono _ _ (fun b hb => by
    rcases Bool.or_eq_true_iff.1 hb with hb | hb
    ·have := acc_lt hb
     simp [this.2]; omega
    ·have := of_decide_eq_true hb
     subst this
     simp [ha]; omega) h
   rw [acc_yes ha hP]
   dsimp only
   rw [ih b]
   by_cases e1 : b = j
   ·subst e1; simp [ha]
   ·by_cases e2 : b < j
    ·simp [e1, e2, show b < j + 1 by omega]
    ·simp [e1, e2, show ¬ b < j + 1 by omega]
  ·rw [acc_no (fun h => ha h.1), ih b]
   by_cases e1 : b = j
   ·subst e1; simp [ha]
   ·by_cases e2 : b < j
    ·simp [e2, show b < j + 1 by omega]
    ·simp [e2, show ¬ b < j + 1 by omega]
noncomputable def failL (P : (Nat → Bool) → Prop) (ask : Nat → Bool) (e : Nat) : List Nat := (List.range e).filter fun j => ask j && !acc P ask (j + 1) j
theorem failL_succ (j : Nat) : failL P ask (j + 1) = failL P ask j ++ if (ask j && !acc P ask (j + 1) j) = true then [j] else [] := by
 rw [failL, List.range_succ, List.filter_append, failL]
 congr 1
 by_cases h : (ask j && !acc P ask (j + 1) j) = true
 ·rw [if_pos h]; simp [List.filter, h]
 ·rw [if_neg h]; simp [List.filter, h]
theorem failL_all (hmono : ∀ S T : Nat → Bool, (∀ b, T b = true → S b = true) → P S → P T) {e : Nat} (h : P fun b => decide (b < e) && ask b) : failL P ask e = [] := by
 rw [failL, List.filter_eq_nil_iff]
 intro j hj
 have hj := List.mem_range.1 hj
 rw [acc_all hmono h (j := j + 1) (by omega)]
 simp
theorem mem_failL {e j : Nat} : j ∈ failL P ask e ↔ j < e ∧ ask j = true ∧ acc P ask e j = false := by
 rw [failL, List.mem_filter, List.mem_range]
 constructor
 ·rintro ⟨h1, h2⟩
  have h3 := Bool.and_eq_true_iff.1 h2
  refine ⟨h1, h3.1, ?_⟩
  rw [acc_stay h1]
  simpa using h3.2
 ·rintro ⟨h1, h2, h3⟩
  refine ⟨h1, ?_⟩
  rw [acc_stay h1] at h3
  simp [h2, h3]
end
end Bf

