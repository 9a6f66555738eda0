/-
 Allocations of supplies to requests: what no way leads out of, lacks of sets, Hall's theorem, and the greatest allocation.
 Conditions: none; plain laws.
-/
import Derived.Test.YtlifjajcmnkhfaaGreatUBfSum
namespace Bf
structure Pb where
 n : Nat
 m : Nat
 fits : Nat → Nat → Bool
 sup : Nat → Int
 need : Nat → Int
def Pb.srv (p : Pb) (k b : Nat) : Prop := b = p.m ∨ (b < p.m ∧ p.fits k b = true)
structure Rows (p : Pb) (a : Nat → Nat → Int) : Prop where
 nn : ∀ k, k < p.n → ∀ b, b ≤ p.m → 0 ≤ a k b
 ok : ∀ k, k < p.n → ∀ b, b < p.m → a k b ≠ 0 → p.fits k b = true
 row : ∀ k, k < p.n → sumN (p.m + 1) (a k) = p.sup k
def colOf (p : Pb) (a : Nat → Nat → Int) (b : Nat) : Int := sumN p.n fun k => a k b
structure Flow (p : Pb) (a : Nat → Nat → Int) (lack : Nat → Int) : Prop extends Rows p a where
 col : ∀ b, b < p.m → lack b + colOf p a b = p.need b
 lk : ∀ b, b < p.m → 0 ≤ lack b
def Closed' (p : Pb) (a : Nat → Nat → Int) (from_ : Nat → Prop) (X : Nat → Bool) : Prop :=
 ∀ k, k < p.n → from_ k → ∀ x, x ≤ p.m → X x = true → a k x ≠ 0 → ∀ b, p.srv k b → X b = true
def touches (p : Pb) (D : Nat → Bool) (k : Nat) : Bool := (List.range p.m).any fun b => D b && p.fits k b
theorem touches_iff {p : Pb} {D : Nat → Bool} {k : Nat} : touches p D k = true ↔ ∃ b, b < p.m ∧ D b = true ∧ p.fits k b = true := by
 simp [touches]
def lackOf (p : Pb) (D : Nat → Bool) : Int := sumN p.m (fun b => if D b then p.need b else 0) - sumN p.n (fun k => if touches p D k then p.sup k else 0)

theorem Rows.last {p : Pb} {a : Nat → Nat → Int} (h : Rows p a) {k : Nat} (hk : k < p.n) : sumN p.m (a k) + a k p.m = p.sup k := h.row k hk
theorem col_swap {p : Pb} {a : Nat → Nat → Int} (D : Nat → Bool) : sumN p.m (fun b => if D b then colOf p a b else 0) = sumN p.n (fun k => sumN p.m (fun b => if D b then a k b else 0)) := by
 rw [sumN_swap]
 refine sumN_congr fun b _ => ?_
 cases D b
 ·simp only [Bool.false_eq_true, if_false]
  exact (sumN_zero fun _ _ => rfl).symm
 ·rfl
theorem Flow.lackOf_eq {p : Pb} {a : Nat → Nat → Int} {lack : Nat → Int} (h : Flow p a lack) (D : Nat → Bool) :
  lackOf p D = sumN p.m (fun b => if D b then lack b else 0) + sumN p.n (fun k => sumN p.m (fun b => if D b then a k b else 0) - if touches p D k then p.sup k else 0) := by
 unfold lackOf
 rw [sumN_sub, ← col_swap]
 have : sumN p.m (fun b => if D b then p.need b else 0) = sumN p.m (fun b => if D b then lack b else 0) + sumN p.m (fun b => if D b then colOf p a b else 0) := by
  rw [← sumN_add]
  refine sumN_congr fun b hb => ?_
  have := h.col b hb
  cases D b
  ·simp
  ·simp; omega
 omega
theorem Rows.part_le {p : Pb} {a : Nat → Nat → Int} (h : Rows p a) (D : Nat → Bool) {k : Nat} (hk : k < p.n) : sumN p.m (fun b => if D b then a k b else 0) ≤ if touches p D k then p.sup k else 0 := by
 split
 ·rw [← h.last hk]
  have h1 : sumN p.m (fun b => if D b then a k b else 0) ≤ sumN p.m (a k) := sumN_le fun b hb => by
   have := h.nn k hk b (by omega)
   split <;> omega
  have h2 := h.nn k hk p.m (Nat.le_refl _)
  omega
 ·rename_i ht
  rw [sumN_zero]
  ·exact Int.le_refl _
  ·intro b hb
   cases hD : D b
   ·simp
   ·simp only [if_true]
    by_cases h0 : a k b = 0
    ·exact h0
    ·exact absurd (touches_iff.2 ⟨b, hb, hD, h.ok k hk b hb h0⟩) ht
theorem Flow.lack_le {p : Pb} {a : Nat → Nat → Int} {lack : Nat → Int} (h : Flow p a lack) (D : Nat → Bool) : lackOf p D ≤ sumN p.m (fun b => if D b then lack b else 0) := by
 rw [h.lackOf_eq]
 have : sumN p.n (fun k => sumN p.m (fun b => if D b then a k b else 0) - if touches p D k then p.sup k else 0) ≤ 0 := by
  have := sumN_le (n := p.n) (f := fun k => sumN p.m (fun b => if D b then a k b else 0) - if touches p D k then p.sup k else 0) (g := fun _ => 0) (fun k hk => by
   have := h.part_le D hk
   show _ - _ ≤ (0 : Int)
   omega)
  rwa [sumN_zero (f := fun _ => 0) (fun _ _ => rfl)] at this
 omega
theorem Flow.lack_le_all {p : Pb} {a : Nat → Nat → Int} {lack : Nat → Int} (h : Flow p a lack) (D : Nat → Bool) : lackOf p D ≤ sumN p.m lack := by
 refine Int.le_trans (h.lack_le D) (sumN_le fun b hb => ?_)
 have := h.lk b hb
 split <;> omega
theorem Flow.lack_eq {p : Pb} {a : Nat → Nat → Int} {lack : Nat → Int} (h : Flow p a lack) {X : Nat → Bool} (hc : Closed' p a (fun _ => True) X) (hm : X p.m = true) (h0 : ∀ b, b < p.m → X b = true → lack b = 0) :
  lackOf p (fun b => !X b) = sumN p.m lack := by
 rw [h.lackOf_eq]
 have e1 : sumN p.m (fun b => if (!X b) = true then lack b else 0) = sumN p.m lack := sumN_congr fun b hb => by
  cases hX : X b
  ·simp
  ·simp [h0 b hb hX]
 have e2 : sumN p.n (fun k => sumN p.m (fun b => if (!X b) = true then a k b else 0) - if touches p (fun b => !X b) k then p.sup k else 0) = 0 := sumN_zero fun k hk => by
  split
  ·rename_i ht
   obtain ⟨c, hc1, hc2, hc3⟩ := touches_iff.1 ht
   have hz : ∀ x, x ≤ p.m → X x = true → a k x = 0 := fun x hx hX => by
    by_cases h1 : a k x = 0
    ·exact h1
    ·have := hc k hk trivial x hx hX h1 c (.inr ⟨hc1, hc3⟩)
     rw [this] at hc2; cases hc2
   have h3 := h.last hk
   rw [hz p.m (Nat.le_refl _) hm] at h3
   have : sumN p.m (fun b => if (!X b) = true then a k b else 0) = sumN p.m (a k) := sumN_congr fun b hb => by
    cases hX : X b
    ·simp
    ·simp [hz b (by omega) hX]
   omega
  ·rename_i ht
   rw [sumN_zero]
   ·rfl
   ·intro b hb
    cases hX : X b
    ·simp only [Bool.not_false, if_true]
     by_cases h1 : a k b = 0
     ·exact h1
     ·exact absurd (touches_iff.2 ⟨b, hb, by simp [hX], h.ok k hk b hb h1⟩) ht
    ·simp
 omega

def step (a : Nat → Nat → Int) (k x b : Nat) (v : Int) : Nat → Nat → Int := fun k' c => if k' = k then (if c = b then a k c + v else if c = x then a k c - v else a k c) else a k' c
theorem step_other {a : Nat → Nat → Int} {k x b k' : Nat} {v : Int} (h : k' ≠ k) : step a k x b v k' = a k' := by
 funext c
 simp [step, h]
theorem Rows.step {p : Pb} {a : Nat → Nat → Int} (h : Rows p a) {k x b : Nat} {v : Int} (hk : k < p.n) (hx : x ≤ p.m) (hb : p.srv k b) (hxb : x ≠ b) (h0 : 0 ≤ v) (hv : v ≤ a k x) : Rows p (Bf.step a k x b v) := by
 have hbm : b ≤ p.m := by rcases hb with rfl | ⟨h1, _⟩ <;> omega
 refine ⟨fun k' hk' c hc => ?_, fun k' hk' c hc hne => ?_, fun k' hk' => ?_⟩
 ·unfold Bf.step
  have h1 := h.nn k' hk' c hc
  split
  ·rename_i e; subst e
   split
   ·omega
   ·split
    ·rename_i e; subst e; omega
    ·exact h1
  ·exact h1
 ·by_cases hkk : k' = k
  ·subst hkk
   by_cases hcb : c = b
   ·subst hcb
    rcases hb with rfl | ⟨_, h2⟩
    ·omega
    ·exact h2
   ·refine h.ok k' hk' c hc fun hz => hne ?_
    simp only [Bf.step, if_true, if_neg hcb, hz]
    split
    ·rename_i e; subst e; omega
    ·rfl
  ·rw [step_other hkk] at hne
   exact h.ok k' hk' c hc hne
 ·by_cases hkk : k' = k
  ·subst hkk
   rw [← h.row k' hk']
   have : sumN (p.m + 1) (Bf.step a k' x b v k') = sumN (p.m + 1) (fun c => a k' c + ((if c = b then v else 0) - (if c = x then v else 0))) := sumN_congr fun c _ => by
    simp only [Bf.step, if_true]
    split
    ·rename_i e
     rw [if_neg (by omega)]; omega
    ·split <;> omega
   rw [this, sumN_add, sumN_sub, sumN_one v (by omega), sumN_one v (by omega)]
   omega
  ·rw [step_other hkk]; exact h.row k' hk'
theorem col_step {p : Pb} {a : Nat → Nat → Int} {k x b : Nat} {v : Int} (hk : k < p.n) (hxb : x ≠ b) (c : Nat) : colOf p (step a k x b v) c = colOf p a c + ((if c = b then v else 0) - (if c = x then v else 0)) := by
 unfold colOf
 rw [sumN_upd (f := fun k => a k c) (k := k) hk (fun i hi => by rw [step_other hi])]
 simp only [step, if_true]
 split
 ·rename_i e
  rw [if_neg (by omega)]; omega
 ·split <;> omega

inductive Way (p : Pb) (a : Nat → Nat → Int) (from_ : Nat → Prop) (s : Nat) : Nat → List Nat → Prop
 | nil : Way p a from_ s s []
 | step {x b k : Nat} {ks : List Nat} (h : Way p a from_ s x ks) (hk : k < p.n) (hf : from_ k) (hks : k ∉ ks) (hx : x ≤ p.m) (h0 : 0 < a k x) (hb : p.srv k b) (hxb : x ≠ b) : Way p a from_ s b (k :: ks)
theorem Way.move {p : Pb} {a : Nat → Nat → Int} {from_ : Nat → Prop} {s b : Nat} {ks : List Nat} (hr : Rows p a) (hw : Way p a from_ s b ks) :
  ∃ a', Rows p a' ∧ (∀ k, k ∉ ks → a' k = a k) ∧ ∀ c, colOf p a' c = colOf p a c + ((if c = b then 1 else 0) - (if c = s then 1 else 0)) := by
 induction hw with
 | nil => exact ⟨a, hr, fun _ _ => rfl, fun c => by omega⟩
 | @step x b k ks _ hk hf hks hx h0 hb hxb ih =>
  obtain ⟨a1, h1, h2, h3⟩ := ih
  refine ⟨Bf.step a1 k x b 1, h1.step hk hx hb hxb (by decide) (by rw [h2 k hks]; omega), fun k' hk' => ?_, fun c => ?_⟩
  ·rw [step_other (fun e => hk' (by simp [e])), h2 k' (fun h => hk' (by simp [h]))]
  ·rw [col_step hk hxb, h3]; omega
end Bf

