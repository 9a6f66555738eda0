/-
 An allocation for some requests contains one for fewer of them, in any order.
 Conditions: none; plain laws.
-/
import Derived.Test.YtlifjajcmnkhfaaGreatUBfOkay
namespace Bf
def SubInj {α : Type} (l' l : List α) : Prop := ∃ s : Nat → Nat, (∀ j, j < l'.length → s j < l.length ∧ l[s j]? = l'[j]?) ∧ ∀ i j, i < l'.length → j < l'.length → s i = s j → i = j
namespace SubInj
variable {α : Type}
theorem refl (l : List α) : SubInj l l := ⟨id, fun _ h => ⟨h, rfl⟩, fun _ _ _ _ h => h⟩
theorem trans {a b c : List α} (h : SubInj a b) (h' : SubInj b c) : SubInj a c := by
 obtain ⟨s, h1, h2⟩ := h
 obtain ⟨t, g1, g2⟩ := h'
 exact ⟨fun j => t (s j), fun j hj => ⟨(g1 _ (h1 j hj).1).1, by rw [(g1 _ (h1 j hj).1).2, (h1 j hj).2]⟩, fun i j hi hj e => h2 i j hi hj (g2 _ _ (h1 i hi).1 (h1 j hj).1 e)⟩
theorem nil (l : List α) : SubInj [] l := ⟨id, fun j h => by simp at h, fun i j h => by simp at h⟩
theorem skip {a b : List α} (x : α) (h : SubInj a b) : SubInj a (x :: b) := by
 obtain ⟨s, h1, h2⟩ := h
 exact ⟨fun j => s j + 1, fun j hj => ⟨by have := (h1 j hj).1; simp only [List.length_cons]; omega, by simpa using (h1 j hj).2⟩, fun i j hi hj e => h2 i j hi hj (by simpa using e)⟩
theorem cons {a b : List α} (x : α) (h : SubInj a b) : SubInj (x :: a) (x :: b) := by
 obtain ⟨s, h1, h2⟩ := h
 refine ⟨fun j => match j with | 0 => 0 | j + 1 => s j + 1, fun j hj => ?_, fun i j hi hj e => ?_⟩
 ·cases j with
  | zero => exact ⟨by simp, rfl⟩
  | succ j =>
   have hj' : j < a.length := by simpa using hj
   exact ⟨by have := (h1 j hj').1; simp only [List.length_cons]; omega, by simpa using (h1 j hj').2⟩
 ·cases i with
  | zero => cases j with
   | zero => rfl
   | succ j => simp at e
  | succ i => cases j with
   | zero => simp at e
   | succ j => rw [h2 i j (by simpa using hi) (by simpa using hj) (by simpa using e)]
theorem swap (x y : α) (l : List α) : SubInj (y :: x :: l) (x :: y :: l) := by
 refine ⟨fun j => match j with | 0 => 1 | 1 => 0 | j + 2 => j + 2, fun j hj => ?_, fun i j hi hj e => ?_⟩
 ·match j with
  | 0 => exact ⟨by simp, rfl⟩
  | 1 => exact ⟨by simp, rfl⟩
  | j + 2 => exact ⟨by simpa using hj, rfl⟩
 ·match i, j with
  | 0, 0 => rfl
  | 0, 1 => simp at e
  | 0, j + 2 => simp at e
  | 1, 0 => simp at e
  | 1, 1 => rfl
  | 1, j + 2 => simp at e
  | i + 2, 0 => simp at e
  | i + 2, 1 => simp at e
  | i + 2, j + 2 => simpa using e
theorem sub {a b : List α} (h : a.Sublist b) : SubInj a b := by
 induction h with
 | slnil => exact refl []
 | cons x _ ih => exact ih.skip x
 | cons_cons x _ ih => exact ih.cons x
theorem perm {a b : List α} (h : a.Perm b) : SubInj a b := by
 induction h with
 | nil => exact refl []
 | cons x _ ih => exact ih.cons x
 | swap x y l => exact swap x y l
 | trans _ _ ih1 ih2 => exact ih1.trans ih2
end SubInj
theorem sumN_inj {m : Nat} {s : Nat → Nat} : ∀ {n : Nat} {f : Nat → Int}, (∀ b, b < m → 0 ≤ f b) → (∀ j, j < n → s j < m) → (∀ i j, i < n → j < n → s i = s j → i = j) → sumN n (fun j => f (s j)) ≤ sumN m f
 | 0, f, h, _, _ => sumN_nonneg h
 | n + 1, f, h, hs, hi => by
  have hn := hs n (by omega)
  have h1 := sumN_inj (n := n) (f := fun b => if b = s n then 0 else f b) (fun b hb => by
   by_cases e : b = s n
   ·simp [e]
   ·simp only [if_neg e]; exact h b hb) (fun j hj => hs j (by omega)) (fun i j hi' hj => hi i j (by omega) (by omega))
  have h2 : sumN m (fun b => if b = s n then 0 else f b) = sumN m f + (0 - f (s n)) := by
   have := sumN_upd (f := f) (g := fun b => if b = s n then 0 else f b) hn (fun i hne => if_neg hne)
   simpa using this
  have h3 : sumN n (fun j => if s j = s n then 0 else f (s j)) = sumN n (fun j => f (s j)) := sumN_congr fun j hj => if_neg fun e => by have := hi j n (by omega) (by omega) e; omega
  rw [sumN]
  omega
theorem Feas.inj {p q : Pb} (s : Nat → Nat) (hn : q.n = p.n) (hs : ∀ j, j < q.m → s j < p.m) (hi : ∀ i j, i < q.m → j < q.m → s i = s j → i = j) (hf : ∀ k, k < p.n → ∀ j, j < q.m → p.fits k (s j) = true → q.fits k j = true) (hp : ∀ k, k < p.n → p.sup k ≤ q.sup k) (hd : ∀ j, j < q.m → q.need j = p.need (s j)) (h : Feas p) : Feas q := by
 obtain ⟨a, ha⟩ := feas_part.1 h
 refine feas_part.2 ⟨fun k j => a k (s j), fun k hk j hj => ?_, fun k hk j hj hne => ?_, fun k hk => ?_, fun j hj => ?_⟩
 ·exact ha.nn k (by omega) _ (hs j hj)
 ·exact hf k (by omega) j hj (ha.ok k (by omega) _ (hs j hj) hne)
 ·exact Int.le_trans (Int.le_trans (sumN_inj (fun b hb => ha.nn k (by omega) b hb) hs hi) (ha.row k (by omega))) (hp k (by omega))
 ·rw [hn, hd j hj]
  exact ha.col _ (hs j hj)
end Bf

