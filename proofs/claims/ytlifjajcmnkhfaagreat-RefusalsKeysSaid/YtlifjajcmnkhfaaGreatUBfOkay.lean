/-
 Allocations that need not give all away: what remains possible with more to give and less to serve; requests that are taken on one after the other.
 Conditions: none; plain laws.
-/
import Derived.Test.YtlifjajcmnkhfaaGreatUBfHall
namespace Bf
structure Part (p : Pb) (a : Nat → Nat → Int) : Prop where
 nn : ∀ k, k < p.n → ∀ b, b < p.m → 0 ≤ a k b
 ok : ∀ k, k < p.n → ∀ b, b < p.m → a k b ≠ 0 → p.fits k b = true
 row : ∀ k, k < p.n → sumN p.m (a k) ≤ p.sup k
 col : ∀ b, b < p.m → sumN p.n (fun k => a k b) = p.need b
theorem Flow.part {p : Pb} {a : Nat → Nat → Int} (h : Flow p a fun _ => 0) : Part p a :=
 ⟨fun k hk b hb => h.nn k hk b (by omega), h.ok, fun k hk => by
  have h1 := h.last hk
  have h2 := h.nn k hk p.m (Nat.le_refl _)
  omega, fun b hb => by have := h.col b hb; rw [Int.zero_add] at this; exact this⟩
theorem Part.feas {p : Pb} {a : Nat → Nat → Int} (h : Part p a) : Feas p := by
 refine ⟨fun k b => if b = p.m then p.sup k - sumN p.m (a k) else a k b, ⟨⟨fun k hk b hb => ?_, fun k hk b hb hne => ?_, fun k hk => ?_⟩, fun b hb => ?_, fun _ _ => Int.le_refl _⟩⟩
 ·by_cases e : b = p.m
  ·simp only [if_pos e]
   have := h.row k hk
   omega
  ·simp only [if_neg e]
   exact h.nn k hk b (by omega)
 ·simp only [if_neg (show ¬ b = p.m by omega)] at hne
  exact h.ok k hk b hb hne
 ·rw [sumN]
  simp only [if_true]
  have e : sumN p.m (fun b => if b = p.m then p.sup k - sumN p.m (a k) else a k b) = sumN p.m (a k) := sumN_congr fun b hb => if_neg (by omega)
  rw [e]
  omega
 ·simp only [colOf, if_neg (show ¬ b = p.m by omega)]
  rw [Int.zero_add]
  exact h.col b hb
theorem feas_part {p : Pb} : Feas p ↔ ∃ a, Part p a := ⟨fun ⟨a, h⟩ => ⟨a, h.part⟩, fun ⟨_, h⟩ => h.feas⟩
theorem Feas.more {p q : Pb} (hn : q.n = p.n) (hm : q.m = p.m) (hf : ∀ k, k < p.n → ∀ b, b < p.m → p.fits k b = true → q.fits k b = true) (hs : ∀ k, k < p.n → p.sup k ≤ q.sup k) (hd : ∀ b, b < p.m → q.need b = p.need b ∨ q.need b = 0) (h : Feas p) : Feas q := by
 obtain ⟨a, ha⟩ := feas_part.1 h
 refine feas_part.2 ⟨fun k b => if q.need b = p.need b then a k b else 0, fun k hk b hb => ?_, fun k hk b hb hne => ?_, fun k hk => ?_, fun b hb => ?_⟩
 ·rw [hn] at hk; rw [hm] at hb
  split
  ·exact ha.nn k hk b hb
  ·exact Int.le_refl _
 ·rw [hn] at hk; rw [hm] at hb
  split at hne
  ·exact hf k hk b hb (ha.ok k hk b hb hne)
  ·exact absurd rfl hne
 ·rw [hn] at hk
  rw [hm]
  refine Int.le_trans (Int.le_trans (sumN_le fun b hb => ?_) (ha.row k hk)) (hs k hk)
  have := ha.nn k hk b hb
  split <;> omega
 ·rw [hm] at hb
  rw [hn]
  by_cases e : q.need b = p.need b
  ·simp only [if_pos e]
   rw [ha.col b hb, e]
  ·simp only [if_neg e]
   rw [sumN_zero fun _ _ => rfl]
   rcases hd b hb with h | h
   ·exact absurd h e
   ·exact h.symm
theorem Feas.same {p q : Pb} (hn : q.n = p.n) (hm : q.m = p.m) (hf : ∀ k, k < p.n → ∀ b, b < p.m → q.fits k b = p.fits k b) (hs : ∀ k, k < p.n → q.sup k = p.sup k) (hd : ∀ b, b < p.m → q.need b = p.need b) : Feas p ↔ Feas q :=
 ⟨fun h => h.more hn hm (fun k hk b hb e => by rw [hf k hk b hb]; exact e) (fun k hk => by rw [hs k hk]; exact Int.le_refl _) (fun b hb => .inl (hd b hb)),
 fun h => h.more hn.symm hm.symm (fun k hk b hb e => by rw [hn] at hk; rw [hm] at hb; rw [← hf k hk b hb]; exact e) (fun k hk => by rw [hn] at hk; rw [hs k hk]; exact Int.le_refl _) (fun b hb => by rw [hm] at hb; exact .inl (hd b hb).symm)⟩
/-! requests taken on one after the other -/
section
variable {P : (Nat → Bool) → Prop} {ask : Nat → Bool}
end
end Bf

