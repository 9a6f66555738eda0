/-
 Hall's theorem for supplies and requests, the greatest amount, and the greatest allocation.
 Conditions: none; plain laws.
-/
import Derived.Test.YtlifjajcmnkhfaaGreatUBfFlow
namespace Bf
inductive Reach (p : Pb) (a : Nat → Nat → Int) (from_ : Nat → Prop) (s : Nat) : Nat → Prop
 | start : Reach p a from_ s s
 | step {x b k : Nat} (h : Reach p a from_ s x) (hk : k < p.n) (hf : from_ k) (hx : x ≤ p.m) (h0 : 0 < a k x) (hb : p.srv k b) : Reach p a from_ s b
theorem Way.cut {p : Pb} {a : Nat → Nat → Int} {from_ : Nat → Prop} {s b : Nat} {ks : List Nat} (hw : Way p a from_ s b ks) {k : Nat} (hk : k ∈ ks) : ∃ x ks', Way p a from_ s x ks' ∧ k ∉ ks' ∧ k < p.n ∧ from_ k ∧ x ≤ p.m ∧ 0 < a k x := by
 induction hw with
 | nil => cases hk
 | @step x b k' ks h hk' hf hks hx h0 hb hxb ih =>
  rcases List.mem_cons.1 hk with rfl | hk
  ·exact ⟨x, ks, h, hks, hk', hf, hx, h0⟩
  ·exact ih hk
theorem Reach.way {p : Pb} {a : Nat → Nat → Int} {from_ : Nat → Prop} {s b : Nat} (h : Reach p a from_ s b) : ∃ ks, Way p a from_ s b ks := by
 induction h with
 | start => exact ⟨[], .nil⟩
 | @step x b k h hk hf hx h0 hb ih =>
  obtain ⟨ks, hw⟩ := ih
  by_cases hxb : x = b
  ·subst hxb; exact ⟨ks, hw⟩
  by_cases hkk : k ∈ ks
  ·obtain ⟨x', ks', h1, h2, h3, h4, h5, h6⟩ := hw.cut hkk
   by_cases hx' : x' = b
   ·subst hx'; exact ⟨ks', h1⟩
   ·exact ⟨k :: ks', .step h1 h3 h4 h2 h5 h6 hb hx'⟩
  ·exact ⟨k :: ks, .step hw hk hf hkk hx h0 hb hxb⟩
theorem Pb.srv_le {p : Pb} {k b : Nat} (h : p.srv k b) : b ≤ p.m := by rcases h with rfl | ⟨h, _⟩ <;> omega
theorem exists_flow (p : Pb) (hs : ∀ k, k < p.n → 0 ≤ p.sup k) (hn : ∀ b, b < p.m → 0 ≤ p.need b) :
  ∃ (a : Nat → Nat → Int) (lack : Nat → Int) (X : Nat → Bool), Flow p a lack ∧ Closed' p a (fun _ => True) X ∧ X p.m = true ∧ ∀ b, b < p.m → X b = true → lack b = 0 := by
 classical
 have main : ∀ (N : Nat) (a : Nat → Nat → Int) (lack : Nat → Int), Flow p a lack → (sumN p.m lack).toNat = N →
   ∃ (a : Nat → Nat → Int) (lack : Nat → Int) (X : Nat → Bool), Flow p a lack ∧ Closed' p a (fun _ => True) X ∧ X p.m = true ∧ ∀ b, b < p.m → X b = true → lack b = 0 := by
  intro N
  induction N using Nat.strongRecOn with
  | _ N ih =>
  intro a lack h hN
  by_cases hex : ∃ b, b < p.m ∧ Reach p a (fun _ => True) p.m b ∧ lack b ≠ 0
  ·obtain ⟨b, hb, hr, h0⟩ := hex
   obtain ⟨ks, hw⟩ := hr.way
   obtain ⟨a', h1, -, h3⟩ := hw.move h.toRows
   have hl := h.lk b hb
   have hpos : 0 ≤ sumN p.m lack := sumN_nonneg h.lk
   have hlb := sumN_le_of_mem h.lk hb
   have hsum : sumN p.m (fun c => if c = b then lack c - 1 else lack c) = sumN p.m lack - 1 := by
    rw [sumN_upd (f := lack) (k := b) hb (fun i hi => by simp [hi])]
    simp; omega
   refine ih _ ?_ a' (fun c => if c = b then lack c - 1 else lack c) ⟨h1, fun c hc => ?_, fun c hc => ?_⟩ rfl
   ·rw [hsum]; omega
   ·have h4 := h.col c hc
    rw [h3]
    have : c ≠ p.m := by omega
    by_cases e : c = b
    ·subst e; simp [this]; omega
    ·simp [this, e]; omega
   ·have := h.lk c hc
    by_cases e : c = b
    ·subst e; simp; omega
    ·simp [e]; exact this
  ·refine ⟨a, lack, fun b => decide (Reach p a (fun _ => True) p.m b), h, ?_, by simp; exact .start, fun b hb hX => ?_⟩
   ·intro k hk _ x hx hX h0 b hb
    have := h.nn k hk x hx
    simp at hX ⊢
    exact .step hX hk trivial hx (by omega) hb
   ·by_cases h0 : lack b = 0
    ·exact h0
    ·exact absurd ⟨b, hb, by simpa using hX, h0⟩ hex
 refine main _ (fun k b => if b = p.m then p.sup k else 0) p.need ⟨⟨fun k hk b hb => ?_, fun k hk b hb h0 => ?_, fun k hk => ?_⟩, fun b hb => ?_, hn⟩ rfl
 ·show 0 ≤ if b = p.m then p.sup k else 0
  split
  ·exact hs k hk
  ·exact Int.le_refl _
 ·exact absurd (show (if b = p.m then p.sup k else 0) = 0 from if_neg (by omega)) h0
 ·exact sumN_one _ (by omega)
 ·have : colOf p (fun k b => if b = p.m then p.sup k else 0) b = 0 := sumN_zero fun k _ => if_neg (by omega)
  omega
def Feas (p : Pb) : Prop := ∃ a, Flow p a fun _ => 0
theorem Flow.zero {p : Pb} {a : Nat → Nat → Int} {lack : Nat → Int} (h : Flow p a lack) (h0 : sumN p.m lack = 0) : Flow p a fun _ => 0 := by
 have hz : ∀ b, b < p.m → lack b = 0 := fun b hb => by
  have := sumN_le_of_mem h.lk hb
  have := h.lk b hb
  omega
 exact ⟨h.toRows, fun b hb => by have := h.col b hb; rw [hz b hb] at this; exact this, fun _ _ => Int.le_refl _⟩
theorem Feas.lack {p : Pb} (h : Feas p) (D : Nat → Bool) : lackOf p D ≤ 0 := by
 obtain ⟨a, ha⟩ := h
 have := ha.lack_le_all D
 rwa [sumN_zero (fun _ _ => rfl)] at this
theorem hall {p : Pb} (hs : ∀ k, k < p.n → 0 ≤ p.sup k) (hn : ∀ b, b < p.m → 0 ≤ p.need b) (h : ∀ D, lackOf p D ≤ 0) : Feas p := by
 obtain ⟨a, lack, X, h1, h2, h3, h4⟩ := exists_flow p hs hn
 have e := h1.lack_eq h2 h3 h4
 have := h fun b => !X b
 have := sumN_nonneg h1.lk
 exact ⟨a, h1.zero (by omega)⟩
theorem feas_iff {p : Pb} (hs : ∀ k, k < p.n → 0 ≤ p.sup k) (hn : ∀ b, b < p.m → 0 ≤ p.need b) : Feas p ↔ ∀ D, lackOf p D ≤ 0 := ⟨fun h => h.lack, hall hs hn⟩

def LexMax (p : Pb) (a : Nat → Nat → Int) : Prop := (Flow p a fun _ => 0) ∧ ∀ a', (Flow p a' fun _ => 0) → ∀ i, i < p.n → ∀ j, j < p.m → (∀ k, k < i → ∀ b, b < p.m → a' k b = a k b) → (∀ b, b < j → a' i b = a i b) → a' i j ≤ a i j
theorem col_rest {p : Pb} {a a' : Nat → Nat → Int} (h : Rows p a) (h' : Rows p a') (hc : ∀ b, b < p.m → colOf p a b = colOf p a' b) : ∀ b, b ≤ p.m → colOf p a b = colOf p a' b := by
 intro b hb
 by_cases e : b < p.m
 ·exact hc b e
 have : b = p.m := by omega
 subst this
 have t : ∀ a, Rows p a → sumN p.m (colOf p a) + colOf p a p.m = sumN p.n p.sup := fun a h => by
  rw [show sumN p.m (colOf p a) + colOf p a p.m = sumN (p.m + 1) (colOf p a) from rfl]
  show sumN (p.m + 1) (fun b => sumN p.n fun k => a k b) = _
  rw [← sumN_swap]
  exact sumN_congr fun k hk => h.row k hk
 have h1 := t a h
 have h2 := t a' h'
 have h3 : sumN p.m (colOf p a) = sumN p.m (colOf p a') := sumN_congr hc
 omega
theorem raise_max {p : Pb} {a a' : Nat → Nat → Int} (h : Rows p a) (h' : Rows p a') (hc : ∀ b, b < p.m → colOf p a b = colOf p a' b) {i j : Nat} (hi : i < p.n) (hj : j < p.m) {X : Nat → Bool} (hX : Closed' p a (fun k => i < k) X) (hXj : X j = true)
  (hlast : ∀ b, b ≤ p.m → X b = true → j < b → a i b = 0) (hrows : ∀ k, k < i → ∀ b, b < p.m → a' k b = a k b) (hrow : ∀ b, b < j → a' i b = a i b) : a' i j ≤ a i j := by
 have hcol := col_rest h h' hc
 -- what goes into X
 have into : ∀ a, sumN (p.m + 1) (fun b => if X b then colOf p a b else 0) = sumN p.n (fun k => sumN (p.m + 1) (fun b => if X b then a k b else 0)) := fun a => by
  rw [sumN_swap]
  refine sumN_congr fun b _ => ?_
  cases X b
  ·simp only [Bool.false_eq_true, if_false]
   exact (sumN_zero fun _ _ => rfl).symm
  ·rfl
 have e0 : sumN (p.m + 1) (fun b => if X b then colOf p a b else 0) = sumN (p.m + 1) (fun b => if X b then colOf p a' b else 0) := sumN_congr fun b hb => by rw [hcol b (by omega)]
 rw [into, into] at e0
 let g := fun (a : Nat → Nat → Int) k => sumN (p.m + 1) (fun b => if X b then a k b else 0)
 have hlt : ∀ k, k < i → g a' k = g a k := fun k hk => by
  have hkn : k < p.n := by omega
  refine sumN_congr fun b hb => ?_
  by_cases e : b < p.m
  ·rw [hrows k hk b e]
  ·have : b = p.m := by omega
   subst this
   have h1 := h.last hkn
   have h2 := h'.last hkn
   have h3 : sumN p.m (a' k) = sumN p.m (a k) := sumN_congr fun b hb => hrows k hk b hb
   have : a' k p.m = a k p.m := by omega
   rw [this]
 have hgt : ∀ k, k < p.n → i < k → g a k ≤ g a' k := fun k hk hik => by
  by_cases hx : ∃ x, x ≤ p.m ∧ X x = true ∧ a k x ≠ 0
  ·obtain ⟨x, hx1, hx2, hx3⟩ := hx
   have hall := hX k hk hik x hx1 hx2 hx3
   have full : ∀ a, Rows p a → g a k = p.sup k := fun a h => by
    rw [← h.row k hk]
    refine sumN_congr fun b hb => ?_
    by_cases hz : a k b = 0
    ·rw [hz]; simp
    ·have : p.srv k b := by
      by_cases e : b = p.m
      ·exact .inl e
      ·exact .inr ⟨by omega, h.ok k hk b (by omega) hz⟩
     rw [hall b this]; simp
   rw [full a h, full a' h']
   exact Int.le_refl _
  ·have z : g a k = 0 := sumN_zero fun b hb => by
    split
    ·rename_i hXb
     by_cases hz : a k b = 0
     ·exact hz
     ·exact absurd ⟨b, by omega, hXb, hz⟩ hx
    ·rfl
   rw [z]
   exact sumN_nonneg fun b hb => by
    split
    ·exact h'.nn k hk b (by omega)
    ·exact Int.le_refl _
 have hi' : g a' i ≤ g a i := by
  have s1 : sumN p.n (fun k => g a' k - g a k) = 0 := by rw [sumN_sub]; show sumN p.n (g a') - sumN p.n (g a) = 0; have e1 : sumN p.n (g a) = sumN p.n (g a') := e0; omega
  have s2 := sumN_le_of_mem (f := fun k => if k = i then 0 else g a' k - g a k) (n := p.n) (k := i) (fun k hk => by
   split
   ·exact Int.le_refl _
   ·rename_i hne
    rcases Nat.lt_or_ge k i with h1 | h1
    ·rw [hlt k h1]; omega
    ·have := hgt k hk (by omega); omega) hi
  have s3 : sumN p.n (fun k => if k = i then 0 else g a' k - g a k) = sumN p.n (fun k => g a' k - g a k) + (0 - (g a' i - g a i)) := by
   rw [sumN_upd (f := fun k => g a' k - g a k) (k := i) hi (fun k hk => by simp [hk])]
   simp
  simp at s2
  omega
 -- of the supply's own gifts those before are alike, and those behind are none
 have hd : sumN (p.m + 1) (fun b => if b = j then a' i j - a i j else 0) ≤ g a' i - g a i := by
  show _ ≤ sumN _ _ - sumN _ _
  rw [← sumN_sub]
  refine sumN_le fun b hb => ?_
  by_cases e : b = j
  ·subst e; simp [hXj]
  ·rw [if_neg e]
   cases hXb : X b
   ·simp
   ·simp only [if_true]
    rcases Nat.lt_or_ge b j with h1 | h1
    ·rw [hrow b h1]; omega
    ·rw [hlast b (by omega) hXb (by omega)]
     have := h'.nn i hi b (by omega)
     omega
 rw [sumN_one _ (by omega)] at hd
 omega
end Bf

