/-
  Texts of the proof, one after the other.
  Conditions: none.
-/
import Derived.Test.YtmikfjcdgkopkaaGreatWBfPanM
import Derived.Test.YtmikfjcdgkopkaaGreatWBfLend
import Derived.Test.YtmikfjcdgkopkaaGreatWBfOwnL
import Derived.Test.YtmikfjcdgkopkaaGreatWBfRow
import Derived.Test.YtmikfjcdgkopkaaGreatRows
import Derived.ProofKit
import Derived.Test.YtmikfjcdgkopkaaGreatWBfDelN
import Derived.Test.YtmikfjcdgkopkaaGreatWXs
import Derived.Test.YtmikfjcdgkopkaaGreatWb
/-
 Matching, plain: how much of a supply a request can get; amounts one after the other.
 Conditions: none.
-/
namespace Go.Proofs.YtmikfjcdgkopkaaGreat
open Go Bf
theorem Flow.congr {p : Pb} {x y : Nat → Nat → Int} {lack : Nat → Int} (h : Bf.Flow p x lack) (e : ∀ k, k < p.n → ∀ b, b ≤ p.m → y k b = x k b) : Bf.Flow p y lack := by
 refine ⟨⟨fun k hk b hb => by rw [e k hk b hb]; exact h.nn k hk b hb, fun k hk b hb h0 => h.ok k hk b hb (by rw [← e k hk b (by omega)]; exact h0), fun k hk => ?_⟩, fun b hb => ?_, h.lk⟩
 ·rw [← h.row k hk]
  exact sumN_congr fun b hb => e k hk b (by omega)
 ·rw [← h.col b hb]
  congr 1
  exact sumN_congr fun k hk => e k hk b (by omega)
def afterP (q : Pb) (s r : Nat) (v : Int) : Pb := ⟨q.n, q.m, fun k b => q.fits k b && !(decide (k = s) && decide (b = r)), fun k => if k = s then q.sup k - v else q.sup k, fun b => if b = r then q.need b - v else q.need b⟩
def addAt (c : Nat → Nat → Int) (s r : Nat) (v : Int) (k b : Nat) : Int := if k = s ∧ b = r then c k b + v else c k b
theorem sumN_at {n s : Nat} {f g : Nat → Int} {v : Int} (hs : s < n) (h1 : g s = f s + v) (h2 : ∀ i, i ≠ s → g i = f i) : sumN n g = sumN n f + v := by
 rw [sumN_upd (f := f) (g := g) hs h2, h1]; omega
theorem flow_add {q : Pb} {s r : Nat} {v : Int} {c : Nat → Nat → Int} (hs : s < q.n) (hr : r < q.m) (hf : q.fits s r = true) (hv : 0 ≤ v) (h : Bf.Flow (afterP q s r v) c fun _ => 0) : Bf.Flow q (addAt c s r v) fun _ => 0 := by
 have hz : c s r = 0 := by
  by_cases e : c s r = 0
  ·exact e
  ·have := h.ok s hs r hr e
   simp [afterP] at this
 refine ⟨⟨fun k hk b hb => ?_, fun k hk b hb h0 => ?_, fun k hk => ?_⟩, fun b hb => ?_, fun _ _ => Int.le_refl _⟩
 ·have := h.nn k hk b hb
  unfold addAt
  split <;> omega
 ·by_cases e : k = s ∧ b = r
  ·obtain ⟨rfl, rfl⟩ := e; exact hf
  ·unfold addAt at h0
   rw [if_neg e] at h0
   have := h.ok k hk b hb h0
   simp only [afterP, Bool.and_eq_true] at this
   exact this.1
 ·have h1 : sumN (q.m + 1) (c k) = if k = s then q.sup k - v else q.sup k := h.row k hk
  by_cases e : k = s
  ·subst e
   rw [if_pos rfl] at h1
   rw [sumN_at (n := q.m + 1) (s := r) (f := c k) (v := v) (by omega) (by simp [addAt]) (fun i hi => by simp [addAt, hi]), h1]
   omega
  ·rw [if_neg e] at h1
   rw [← h1]
   exact sumN_congr fun b _ => by simp [addAt, e]
 ·have h1 : (0 : Int) + sumN q.n (fun k => c k b) = if b = r then q.need b - v else q.need b := h.col b hb
  show (0 : Int) + sumN q.n (fun k => addAt c s r v k b) = q.need b
  by_cases e : b = r
  ·subst e
   rw [if_pos rfl] at h1
   rw [sumN_at (n := q.n) (s := s) (f := fun k => c k b) (v := v) hs (by simp [addAt]) (fun i hi => by simp [addAt, hi])]
   omega
  ·rw [if_neg e] at h1
   rw [← h1]
   congr 1
   exact sumN_congr fun k _ => by simp [addAt, e]
theorem flow_sub {q : Pb} {s r : Nat} {c : Nat → Nat → Int} (hs : s < q.n) (hr : r < q.m) (h : Bf.Flow q c fun _ => 0) : Bf.Flow (afterP q s r (c s r)) (addAt c s r (-(c s r))) fun _ => 0 := by
 have hnn := h.nn s hs r (by omega)
 refine ⟨⟨fun k hk b hb => ?_, fun k hk b hb h0 => ?_, fun k hk => ?_⟩, fun b hb => ?_, fun _ _ => Int.le_refl _⟩
 ·have := h.nn k hk b hb
  unfold addAt
  split
  ·rename_i e; obtain ⟨rfl, rfl⟩ := e; omega
  ·exact this
 ·unfold addAt at h0
  by_cases e : k = s ∧ b = r
  ·rw [if_pos e] at h0
   obtain ⟨rfl, rfl⟩ := e
   omega
  ·rw [if_neg e] at h0
   have := h.ok k hk b hb h0
   show (q.fits k b && !(decide (k = s) && decide (b = r))) = true
   rw [this]
   simp
   omega
 ·have h1 : sumN (q.m + 1) (c k) = q.sup k := h.row k hk
  show sumN (q.m + 1) (addAt c s r (-(c s r)) k) = if k = s then q.sup k - c s r else q.sup k
  by_cases e : k = s
  ·subst e
   rw [if_pos rfl, sumN_at (n := q.m + 1) (s := r) (f := c k) (v := -(c k r)) (by omega) (by simp [addAt]) (fun i hi => by simp [addAt, hi]), h1]
   omega
  ·rw [if_neg e, ← h1]
   exact sumN_congr fun b _ => by simp [addAt, e]
 ·have h1 : (0 : Int) + sumN q.n (fun k => c k b) = q.need b := h.col b hb
  show (0 : Int) + sumN q.n (fun k => addAt c s r (-(c s r)) k b) = if b = r then q.need b - c s r else q.need b
  by_cases e : b = r
  ·subst e
   rw [if_pos rfl, sumN_at (n := q.n) (s := s) (f := fun k => c k b) (v := -(c s b)) hs (by simp [addAt]) (fun i hi => by simp [addAt, hi])]
   omega
  ·rw [if_neg e, ← h1]
   congr 1
   exact sumN_congr fun k _ => by simp [addAt, e]
theorem flow_le_lack {q : Pb} {c : Nat → Nat → Int} (h : Bf.Flow q c fun _ => 0) {s r : Nat} (hs : s < q.n) (hr : r < q.m) {D : Nat → Bool} (hD : D r = false) (ht : touches q D s = true) : c s r ≤ - lackOf q D := by
 have e := h.lackOf_eq D
 have z : (sumN q.m fun b => if D b = true then (0 : Int) else 0) = 0 := sumN_zero fun _ _ => by split <;> rfl
 rw [z, Int.zero_add] at e
 let f := fun k => (sumN q.m fun b => if D b = true then c k b else 0) - if touches q D k = true then q.sup k else 0
 have hf : ∀ k, k < q.n → f k ≤ 0 := fun k hk => by
  have := h.part_le D hk
  show (sumN q.m fun b => if D b = true then c k b else 0) - (if touches q D k = true then q.sup k else 0) ≤ 0
  omega
 have h1 := sumN_le_of_mem (f := fun k => - f k) (n := q.n) (k := s) (fun k hk => by have := hf k hk; show 0 ≤ - f k; omega) hs
 have h2 : (sumN q.n fun k => - f k) = - sumN q.n f := by
  have := sumN_sub (fun _ => 0) f q.n
  rw [sumN_zero (f := fun _ => 0) (fun _ _ => rfl)] at this
  simpa using this
 have h3 : sumN q.n f = lackOf q D := e.symm
 have h4 : (sumN q.m fun b => if D b = true then c s b else 0) + c s r ≤ q.sup s := by
  rw [← h.row s hs]
  have h5 : sumN q.m (fun b => if D b = true then c s b else 0) + c s r = sumN q.m (fun b => if b = r then c s b else if D b = true then c s b else 0) := by
   rw [sumN_at (n := q.m) (s := r) (f := fun b => if D b = true then c s b else 0) (g := fun b => if b = r then c s b else if D b = true then c s b else 0) (v := c s r) hr (by simp [hD]) (fun i hi => by simp [hi])]
  rw [h5]
  have h6 : sumN q.m (fun b => if b = r then c s b else if D b = true then c s b else 0) ≤ sumN q.m (c s) := sumN_le fun b hb => by
   have := h.nn s hs b (by omega)
   split
   ·exact Int.le_refl _
   ·split <;> omega
  have h7 := h.nn s hs q.m (Nat.le_refl _)
  have h8 : sumN (q.m + 1) (c s) = sumN q.m (c s) + c s q.m := rfl
  omega
 have h9 : f s ≤ - c s r := by
  show (sumN q.m fun b => if D b = true then c s b else 0) - (if touches q D s = true then q.sup s else 0) ≤ - c s r
  rw [if_pos ht]
  omega
 have h1 : - f s ≤ sumN q.n fun k => - f k := h1
 omega
def needN (q : Pb) (D : Nat → Bool) : Int := sumN q.m fun b => if D b = true then q.need b else 0
def covN (q : Pb) (s : Nat) (D : Nat → Bool) : Int := sumN q.n fun k => if k = s then 0 else if touches q D k = true then q.sup k else 0
theorem lack_cov (q : Pb) {s : Nat} (hs : s < q.n) (D : Nat → Bool) : lackOf q D = needN q D - covN q s D - if touches q D s = true then q.sup s else 0 := by
 unfold lackOf needN covN
 rw [sumN_at (n := q.n) (s := s) (f := fun k => if k = s then 0 else if touches q D k = true then q.sup k else 0) (g := fun k => if touches q D k = true then q.sup k else 0) (v := if touches q D s = true then q.sup s else 0) hs (by simp) (fun i hi => by simp [hi])]
 omega
theorem need_split (q : Pb) (D E : Nat → Bool) : needN q D + needN q E = needN q (fun b => D b || E b) + needN q (fun b => D b && E b) := by
 unfold needN
 rw [← sumN_add, ← sumN_add]
 exact sumN_congr fun b _ => by cases hD : D b <;> cases hE : E b <;> simp [hD, hE]
theorem touches_or (q : Pb) (D E : Nat → Bool) (k : Nat) : touches q (fun b => D b || E b) k = (touches q D k || touches q E k) := by
 rw [Bool.eq_iff_iff, Bool.or_eq_true, touches_iff, touches_iff, touches_iff]
 constructor
 ·rintro ⟨b, h1, h2, h3⟩
  simp at h2
  rcases h2 with h2 | h2
  ·exact .inl ⟨b, h1, h2, h3⟩
  ·exact .inr ⟨b, h1, h2, h3⟩
 ·rintro (⟨b, h1, h2, h3⟩ | ⟨b, h1, h2, h3⟩)
  ·exact ⟨b, h1, by simp [h2], h3⟩
  ·exact ⟨b, h1, by simp [h2], h3⟩
theorem touches_and (q : Pb) (D E : Nat → Bool) (k : Nat) (h : touches q (fun b => D b && E b) k = true) : touches q D k = true ∧ touches q E k = true := by
 obtain ⟨b, h1, h2, h3⟩ := touches_iff.1 h
 simp at h2
 exact ⟨touches_iff.2 ⟨b, h1, h2.1, h3⟩, touches_iff.2 ⟨b, h1, h2.2, h3⟩⟩
theorem cov_split (q : Pb) (s : Nat) (hp : ∀ k, k < q.n → 0 ≤ q.sup k) (D E : Nat → Bool) : covN q s (fun b => D b || E b) + covN q s (fun b => D b && E b) ≤ covN q s D + covN q s E := by
 unfold covN
 rw [← sumN_add, ← sumN_add]
 refine sumN_le fun k hk => ?_
 have h0 := hp k hk
 by_cases e : k = s
 ·simp [e]
 ·simp only [if_neg e]
  rw [touches_or]
  have h1 := touches_and q D E k
  cases h2 : touches q (fun b => D b && E b) k
  ·cases touches q D k <;> cases touches q E k <;> simp <;> omega
  ·obtain ⟨h3, h4⟩ := h1 h2
   rw [h3, h4]
   simp
theorem cov_mono (q : Pb) (s : Nat) (hp : ∀ k, k < q.n → 0 ≤ q.sup k) {D E : Nat → Bool} (h : ∀ b, D b = true → E b = true) : covN q s D ≤ covN q s E := by
 refine sumN_le fun k hk => ?_
 have h0 := hp k hk
 by_cases e : k = s
 ·simp [e]
 ·simp only [if_neg e]
  cases h1 : touches q D k
  ·simp
   split <;> omega
  ·obtain ⟨b, g1, g2, g3⟩ := touches_iff.1 h1
   have : touches q E k = true := touches_iff.2 ⟨b, g1, h b g2, g3⟩
   simp [this]
theorem room_feas {q : Pb} (hp : ∀ k, k < q.n → 0 ≤ q.sup k) (hn : ∀ b, b < q.m → 0 ≤ q.need b) (hf : Feas q) {s r : Nat} (hs : s < q.n) (hr : r < q.m) {v : Int} (l1 : v ≤ q.sup s) (l2 : v ≤ q.need r)
  (le : ∀ D : Nat → Bool, D r = false → touches q D s = true → v ≤ - lackOf q D) (is : v = q.sup s ∨ v = q.need r ∨ ∃ E : Nat → Bool, E r = false ∧ touches q E s = true ∧ v = - lackOf q E) : 0 ≤ v ∧ Feas (afterP q s r v) := by
 have hl := (feas_iff hp hn).1 hf
 have h0 : 0 ≤ v := by
  rcases is with h | h | ⟨E, -, -, h⟩
  ·rw [h]; exact hp s hs
  ·rw [h]; exact hn r hr
  ·have := hl E; omega
 refine ⟨h0, hall (fun k hk => ?_) (fun b hb => ?_) fun D => ?_⟩
 ·show 0 ≤ if k = s then q.sup k - v else q.sup k
  have := hp k hk
  split
  ·rename_i e; subst e; omega
  ·exact this
 ·show 0 ≤ if b = r then q.need b - v else q.need b
  have := hn b hb
  split
  ·rename_i e; subst e; omega
  ·exact this
 -- the lack after
 have hneed : needN (afterP q s r v) D = needN q D - if D r = true then v else 0 := by
  unfold needN
  show (sumN q.m fun b => if D b = true then (if b = r then q.need b - v else q.need b) else 0) = _
  cases hD : D r
  ·simp only [Bool.false_eq_true, if_false, Int.sub_zero]
   exact sumN_congr fun b _ => by
    by_cases e : b = r
    ·subst e; simp [hD]
    ·simp [e]
  ·rw [sumN_at (n := q.m) (s := r) (f := fun b => if D b = true then q.need b else 0) (v := -v) hr (by simp [hD]; omega) (fun i hi => by simp [hi])]
   simp
   omega
 have htk : ∀ k, k ≠ s → touches (afterP q s r v) D k = touches q D k := fun k hk => by
  rw [Bool.eq_iff_iff, touches_iff, touches_iff]
  simp [afterP, hk]
 have hcov : covN (afterP q s r v) s D = covN q s D := by
  refine sumN_congr fun k _ => ?_
  by_cases e : k = s
  ·simp [e]
  ·simp only [if_neg e]
   rw [htk k e]
   show (if touches q D k = true then (if k = s then q.sup k - v else q.sup k) else 0) = _
   rw [if_neg e]
 have hts : touches (afterP q s r v) D s = true ↔ ∃ b, b < q.m ∧ D b = true ∧ b ≠ r ∧ q.fits s b = true := by
  rw [touches_iff]
  simp only [afterP, Bool.and_eq_true, Bool.not_eq_true', decide_true, Bool.true_and, decide_eq_false_iff_not]
  exact ⟨fun ⟨b, h1, h2, h3, h4⟩ => ⟨b, h1, h2, h4, h3⟩, fun ⟨b, h1, h2, h3, h4⟩ => ⟨b, h1, h2, h4, h3⟩⟩
 have hsup : (afterP q s r v).sup s = q.sup s - v := by simp [afterP]
 rw [lack_cov (afterP q s r v) (s := s) hs, hneed, hcov, hsup]
 have hD := hl D
 rw [lack_cov q hs D] at hD
 by_cases ht : touches (afterP q s r v) D s = true
 ·rw [if_pos ht]
  obtain ⟨b, b1, b2, b3, b4⟩ := hts.1 ht
  have htq : touches q D s = true := touches_iff.2 ⟨b, b1, b2, b4⟩
  rw [if_pos htq] at hD
  cases hDr : D r
  ·have := le D hDr htq
   rw [lack_cov q hs D, if_pos htq] at this
   simp
   omega
  ·simp
   omega
 ·rw [if_neg ht]
  have hno : ∀ b, b < q.m → D b = true → b ≠ r → q.fits s b = false := fun b h1 h2 h3 => by
   cases h : q.fits s b
   ·rfl
   ·exact absurd (hts.2 ⟨b, h1, h2, h3, h⟩) ht
  cases hDr : D r
  ·have htq : touches q D s = false := by
    cases h : touches q D s
    ·rfl
    ·obtain ⟨b, h1, h2, h3⟩ := touches_iff.1 h
     rw [hno b h1 h2 (fun e => by rw [e, hDr] at h2; cases h2)] at h3
     cases h3
   rw [htq] at hD
   simp at hD ⊢
   omega
  ·simp only [if_true, Int.sub_zero]
   rcases is with h | h | ⟨E, e1, e2, h⟩
   ·have : (if touches q D s = true then q.sup s else 0) ≤ q.sup s := by
     have := hp s hs
     split <;> omega
    omega
   ·have h1 := hl fun b => D b && !decide (b = r)
    have h2 : touches q (fun b => D b && !decide (b = r)) s = false := by
     cases h : touches q (fun b => D b && !decide (b = r)) s
     ·rfl
     ·obtain ⟨b, h1, h2, h3⟩ := touches_iff.1 h
      simp at h2
      rw [hno b h1 h2.1 h2.2] at h3
      cases h3
    rw [lack_cov q hs, h2] at h1
    have h3 : needN q D = needN q (fun b => D b && !decide (b = r)) + q.need r := by
     unfold needN
     rw [sumN_at (n := q.m) (s := r) (f := fun b => if (D b && !decide (b = r)) = true then q.need b else 0) (g := fun b => if D b = true then q.need b else 0) (v := q.need r) hr (by simp [hDr]) (fun i hi => by simp [hi])]
    have h4 := cov_mono q s hp (D := fun b => D b && !decide (b = r)) (E := D) (fun b h => by simp at h; exact h.1)
    simp at h1
    omega
   ·have h1 := hl fun b => D b || E b
    have h2 := hl fun b => D b && E b
    have h3 : touches q (fun b => D b || E b) s = true := by rw [touches_or, e2, Bool.or_true]
    have h4 : touches q (fun b => D b && E b) s = false := by
     cases h : touches q (fun b => D b && E b) s
     ·rfl
     ·obtain ⟨b, g1, g2, g3⟩ := touches_iff.1 h
      simp at g2
      rw [hno b g1 g2.1 (fun e => by rw [e, e1] at g2; cases g2.2)] at g3
      cases g3
    rw [lack_cov q hs, if_pos h3] at h1
    rw [lack_cov q hs, h4] at h2
    rw [lack_cov q hs E, if_pos e2] at h
    have h5 := need_split q D E
    have h6 := cov_split q s hp D E
    simp at h2
    omega
def placed (s r k b : Nat) : Bool := decide (k < s) || (decide (k = s) && decide (b < r))
def mergeA (a c : Nat → Nat → Int) (m s r k b : Nat) : Int := if placed s r k b = true ∧ b < m then a k b else c k b
def restA (a : Nat → Nat → Int) (m s r k b : Nat) : Int := if placed s r k b = true ∧ b < m then 0 else a k b
structure Resid (p : Pb) (a : Nat → Nat → Int) (q : Pb) (s r : Nat) : Prop where
 n : q.n = p.n
 m : q.m = p.m
 up : ∀ c, (Bf.Flow q c fun _ => 0) → Bf.Flow p (mergeA a c p.m s r) fun _ => 0
 dn : Bf.Flow q (restA a p.m s r) fun _ => 0
theorem Resid.start {p : Pb} {a : Nat → Nat → Int} (h : Bf.Flow p a fun _ => 0) : Resid p a p 0 0 := by
 have e : ∀ k b, placed 0 0 k b = false := fun k b => by simp [placed]
 exact ⟨rfl, rfl, fun c hc => Flow.congr hc fun k _ b _ => by simp [mergeA, e], Flow.congr h fun k _ b _ => by simp [restA, e]⟩
theorem placed_succ (s r k b : Nat) : placed s (r + 1) k b = (placed s r k b || (decide (k = s) && decide (b = r))) := by
 unfold placed
 rw [Bool.eq_iff_iff]
 simp
 omega
theorem Resid.step {p : Pb} {a : Nat → Nat → Int} {q : Pb} {s r : Nat} (h : Resid p a q s r) (hs : s < p.n) (hr : r < p.m) (hf : q.fits s r = true) : Resid p a (afterP q s r (a s r)) s (r + 1) := by
 have hn := h.n
 have hm := h.m
 have hsr : placed s r s r = false := by simp [placed]
 have hrs : restA a p.m s r s r = a s r := by unfold restA; rw [hsr]; simp
 have hnn := h.dn.nn s (by omega) r (by omega)
 rw [hrs] at hnn
 refine ⟨hn, hm, fun c hc => ?_, ?_⟩
 ·have hz : c s r = 0 := by
   by_cases e : c s r = 0
   ·exact e
   ·have := hc.ok s (by show s < q.n; omega) r (by show r < q.m; omega) e
    simp [afterP] at this
  refine Flow.congr (h.up _ (flow_add (by omega) (by omega) hf hnn hc)) fun k _ b _ => ?_
  unfold mergeA addAt
  rw [placed_succ]
  by_cases e : k = s ∧ b = r
  ·obtain ⟨rfl, rfl⟩ := e
   rw [hsr]
   simp [hr, hz]
  ·have e2 : (decide (k = s) && decide (b = r)) = false := by
    simp
    omega
   rw [e2, Bool.or_false, if_neg e]
 ·have h1 := flow_sub (q := q) (s := s) (r := r) (by omega) (by omega) h.dn
  rw [hrs] at h1
  refine Flow.congr h1 fun k _ b _ => ?_
  unfold addAt restA
  rw [placed_succ]
  by_cases e : k = s ∧ b = r
  ·obtain ⟨rfl, rfl⟩ := e
   rw [hsr]
   simp [hr]
   omega
  ·have e2 : (decide (k = s) && decide (b = r)) = false := by
    simp
    omega
   rw [e2, Bool.or_false, if_neg e]
theorem Resid.zero {p : Pb} {a : Nat → Nat → Int} {q : Pb} {s r : Nat} (h : Resid p a q s r) (hs : s < p.n) (hr : r < p.m) (hf : q.fits s r = false) : a s r = 0 := by
 have hn := h.n
 have hm := h.m
 have hsr : placed s r s r = false := by simp [placed]
 have hrs : restA a p.m s r s r = a s r := by unfold restA; rw [hsr]; simp
 by_cases e : a s r = 0
 ·exact e
 ·have := h.dn.ok s (by omega) r (by omega) (by rw [hrs]; exact e)
  rw [hf] at this; cases this
theorem Resid.skip {p : Pb} {a : Nat → Nat → Int} {q : Pb} {s r : Nat} (h : Resid p a q s r) (hs : s < p.n) (hr : r < p.m) (hf : q.fits s r = false) : Resid p a q s (r + 1) := by
 have hn := h.n
 have hm := h.m
 have hsr : placed s r s r = false := by simp [placed]
 have h0 := h.zero hs hr hf
 refine ⟨hn, hm, fun c hc => ?_, ?_⟩
 ·have hz : c s r = 0 := by
   by_cases e : c s r = 0
   ·exact e
   ·have := hc.ok s (by omega) r (by omega) e
    rw [hf] at this; cases this
  refine Flow.congr (h.up _ hc) fun k _ b _ => ?_
  unfold mergeA
  rw [placed_succ]
  by_cases e : k = s ∧ b = r
  ·obtain ⟨rfl, rfl⟩ := e
   rw [hsr]
   simp [hz, h0]
  ·have e2 : (decide (k = s) && decide (b = r)) = false := by
    simp
    omega
   rw [e2, Bool.or_false]
 ·refine Flow.congr h.dn fun k _ b _ => ?_
  unfold restA
  rw [placed_succ]
  by_cases e : k = s ∧ b = r
  ·obtain ⟨rfl, rfl⟩ := e
   rw [hsr]
   simp [h0]
  ·have e2 : (decide (k = s) && decide (b = r)) = false := by
    simp
    omega
   rw [e2, Bool.or_false]
theorem placed_row (s m k b : Nat) (hb : b < m) : placed (s + 1) 0 k b = placed s m k b := by
 unfold placed
 rw [Bool.eq_iff_iff]
 simp
 omega
theorem Resid.row {p : Pb} {a : Nat → Nat → Int} {q : Pb} {s : Nat} (h : Resid p a q s p.m) : Resid p a q (s + 1) 0 := by
 refine ⟨h.n, h.m, fun c hc => Flow.congr (h.up c hc) fun k _ b _ => ?_, Flow.congr h.dn fun k _ b _ => ?_⟩
 ·unfold mergeA
  by_cases hb : b < p.m
  ·rw [placed_row s p.m k b hb]
  ·simp [hb]
 ·unfold restA
  by_cases hb : b < p.m
  ·rw [placed_row s p.m k b hb]
  ·simp [hb]
theorem Resid.room {p : Pb} {a : Nat → Nat → Int} {q : Pb} {s r : Nat} (hmax : LexMax p a) (h : Resid p a q s r) (hs : s < p.n) (hr : r < p.m) (hf : q.fits s r = true) (hp : ∀ k, k < q.n → 0 ≤ q.sup k) (hn : ∀ b, b < q.m → 0 ≤ q.need b) {v : Int} (l1 : v ≤ q.sup s) (l2 : v ≤ q.need r)
  (le : ∀ D : Nat → Bool, D r = false → touches q D s = true → v ≤ - lackOf q D) (is : v = q.sup s ∨ v = q.need r ∨ ∃ E : Nat → Bool, E r = false ∧ touches q E s = true ∧ v = - lackOf q E) : v = a s r := by
 have hqn := h.n
 have hqm := h.m
 have hsr : placed s r s r = false := by simp [placed]
 have hrs : restA a p.m s r s r = a s r := by unfold restA; rw [hsr]; simp
 have h1 : a s r ≤ v := by
  rcases is with e | e | ⟨E, e1, e2, e⟩
  ·have := sumN_le_of_mem (f := restA a p.m s r s) (n := q.m + 1) (k := r) (fun b hb => h.dn.nn s (by omega) b (by omega)) (by omega)
   rw [h.dn.row s (by omega), hrs] at this
   omega
  ·have := sumN_le_of_mem (f := fun k => restA a p.m s r k r) (n := q.n) (k := s) (fun k hk => h.dn.nn k hk r (by omega)) (by omega)
   have h2 : (0 : Int) + sumN q.n (fun k => restA a p.m s r k r) = q.need r := h.dn.col r (by omega)
   simp only [hrs] at this
   omega
  ·have := flow_le_lack h.dn (s := s) (r := r) (by omega) (by omega) e1 e2
   rw [hrs] at this
   omega
 obtain ⟨h0, c, hc⟩ := room_feas hp hn ⟨_, h.dn⟩ (s := s) (r := r) (by omega) (by omega) l1 l2 le is
 have hz : c s r = 0 := by
  by_cases e : c s r = 0
  ·exact e
  ·have := hc.ok s (by show s < q.n; omega) r (by show r < q.m; omega) e
   simp [afterP] at this
 have h2 := hmax.2 _ (h.up _ (flow_add (by omega) (by omega) hf h0 hc)) s hs r hr (fun k hk b hb => by
  unfold mergeA
  rw [if_pos ⟨by simp [placed, hk], hb⟩]) (fun b hb => by
  unfold mergeA
  rw [if_pos ⟨by simp [placed, hb], by omega⟩])
 unfold mergeA addAt at h2
 rw [hsr] at h2
 simp [hz] at h2
 omega
end Go.Proofs.YtmikfjcdgkopkaaGreat

/-
 Matching, plain: what Cut and Check say of what Flow answers; problems with more.
 Conditions: none.
-/
namespace Go.Proofs.YtmikfjcdgkopkaaGreat
open Go Bf
theorem LexMax.check {fits : List (List Bool)} {sup need : List Int} {a : Nat → Nat → Int} (h : Bf.Flow (pbOf fits sup need) a fun _ => 0) : CheckP fits sup need (allocOf a need.length sup.length) := by
 have e : ∀ i j, i < sup.length → j < need.length → am2 (allocOf a need.length sup.length) i j = a i j := fun i j hi hj => am2_of (r := rowOf a need.length i) (by simp [allocOf, hi]) (by simp [rowOf, hj])
 refine ⟨by simp, fun r hr => ?_, fun i j hi hj => ?_, fun i j hi hj h0 => ?_, fun i hi => ?_, fun j hj => ?_⟩
 ·obtain ⟨k, -, rfl⟩ := List.mem_map.1 hr
  simp
 ·rw [e i j hi hj]; exact h.nn i hi j (Nat.le_of_lt hj)
 ·rw [e i j hi hj] at h0
  exact h.ok i hi j hj (by omega)
 ·rw [sumN_congr (g := a i) (fun j hj => e i j hi hj)]
  have h1 : sumN need.length (a i) + a i need.length = sup.getD i 0 := h.row i hi
  have h2 := h.nn i hi need.length (Nat.le_refl _)
  omega
 ·rw [sumN_congr (g := fun i => a i j) (fun i hi => e i j hi hj)]
  have h1 : (0 : Int) + sumN sup.length (fun i => a i j) = need.getD j 0 := h.col j hj
  omega
def setOf (l : List Int) (b : Nat) : Bool := decide ((b : Int) ∈ l)
theorem AscTo.lt {m : Nat} {l : List Int} (h : AscTo m l l.length) : ∀ (i : Nat) (x : Int), l[i]? = some x → ∀ j y, j < i → l[j]? = some y → y < x
 | 0, _, _, j, _, hj, _ => by omega
 | i + 1, x, hx, j, y, hj, hy => by
  have hl := (List.getElem?_eq_some_iff.1 hx).1
  obtain ⟨z, hz⟩ := get_of_lt (xs := l) (i := i) (by omega)
  have h1 := (h (i + 1) x hl hx).2.2 z (by omega) (by simpa using hz)
  by_cases e : j = i
  ·subst e; rw [hz] at hy; cases hy; exact h1
  ·have := h.lt i z hz j y (by omega) hy
   omega
theorem cutNeed_set {need l : List Int} (h : AscTo need.length l l.length) : ∀ i, i ≤ l.length → cutNeed need (l.take i) = sumN need.length fun b => if setOf (l.take i) b = true then need.getD b 0 else 0
 | 0, _ => by
  rw [List.take_zero]
  exact (sumN_zero fun b _ => by simp [setOf]).symm
 | i + 1, hi => by
  obtain ⟨x, hx⟩ := get_of_lt (xs := l) (i := i) (by omega)
  have h1 := h i x (by omega) hx
  obtain ⟨n, rfl⟩ : ∃ n : Nat, x = (n : Int) := ⟨x.toNat, by omega⟩
  rw [cutNeed_succ hx, cutNeed_set h i (by omega), Int.toNat_natCast]
  symm
  refine sumN_at (n := need.length) (s := n) (by omega) ?_ (fun b hb => ?_)
  ·have hnot : setOf (l.take i) n = false := by
    simp only [setOf, decide_eq_false_iff_not]
    intro hm
    obtain ⟨j, hj⟩ := List.mem_iff_getElem?.1 hm
    rw [List.getElem?_take] at hj
    split at hj
    ·rename_i hji
     have := h.lt i n hx j n hji hj
     omega
    ·cases hj
   have hyes : setOf (l.take (i + 1)) n = true := by
    simp only [setOf, decide_eq_true_eq]
    rw [List.take_add_one, hx]
    simp
   rw [hnot, hyes]
   simp
  ·have : setOf (l.take (i + 1)) b = setOf (l.take i) b := by
    unfold setOf
    rw [List.take_add_one, hx]
    simp only [List.mem_append, Option.mem_toList, decide_eq_decide]
    constructor
    ·rintro (h | h)
     ·exact h
     ·simp at h; omega
    ·exact .inl
   rw [this]
theorem cutP_iff {fits : List (List Bool)} {sup need l : List Int} (hv : Vld fits sup need) (h : AscTo need.length l l.length) : CutP fits sup need l ↔ 0 < lackOf (pbOf fits sup need) (setOf l) := by
 have h1 := cutNeed_set h l.length (Nat.le_refl _)
 rw [List.take_length] at h1
 have h2 : cutHave fits sup l sup.length = sumN sup.length fun k => if touches (pbOf fits sup need) (setOf l) k = true then sup.getD k 0 else 0 := sumN_congr fun k hk => by
  have hlf := hv.lf
  obtain ⟨row, hr⟩ := get_of_lt (xs := fits) (i := k) (by omega)
  have hrl := hv.rows row (List.mem_of_getElem? hr)
  have : cutTouch (fits.getD k []) l = touches (pbOf fits sup need) (setOf l) k := by
   rw [Bool.eq_iff_iff, touches_iff]
   unfold cutTouch
   rw [List.any_eq_true]
   constructor
   ·rintro ⟨x, hx, hx2⟩
    obtain ⟨i, hi⟩ := List.mem_iff_getElem?.1 hx
    have h3 := h i x (List.getElem?_eq_some_iff.1 hi).1 hi
    refine ⟨x.toNat, by show x.toNat < need.length; omega, ?_, hx2⟩
    simp only [setOf, decide_eq_true_eq]
    rw [Int.toNat_of_nonneg h3.1]
    exact hx
   ·rintro ⟨b, h3, h4, h5⟩
    simp only [setOf, decide_eq_true_eq] at h4
    exact ⟨(b : Int), h4, h5⟩
  rw [this]
 unfold CutP
 rw [h1, h2]
 unfold lackOf
 show _ ∧ _ < _ ↔ 0 < (sumN need.length fun b => if setOf l b = true then need.getD b 0 else 0) - (sumN sup.length fun k => if touches (pbOf fits sup need) (setOf l) k = true then sup.getD k 0 else 0)
 constructor
 ·rintro ⟨-, h3⟩; omega
 ·intro h3; exact ⟨h, by omega⟩
theorem memF_asc (S : Nat → Bool) (m : Nat) : AscTo m (memF S m) (memF S m).length := by
 intro q x hq hx
 have e : memF S m = (idx S m).map Int.ofNat := rfl
 rw [e, List.getElem?_map] at hx
 cases hi : (idx S m)[q]? with
 | none => rw [hi] at hx; cases hx
 | some b =>
  rw [hi] at hx
  simp at hx
  subst hx
  have hb := (idx_mem hi).1
  refine ⟨by omega, by omega, fun y h0 hy => ?_⟩
  rw [e, List.getElem?_map] at hy
  cases hj : (idx S m)[q - 1]? with
  | none => rw [hj] at hy; cases hy
  | some c =>
   rw [hj] at hy
   simp at hy
   subst hy
   have hp : (idx S m).Pairwise (· < ·) := List.Pairwise.filter _ List.pairwise_lt_range
   rw [List.pairwise_iff_getElem] at hp
   obtain ⟨h1, h2⟩ := List.getElem?_eq_some_iff.1 hi
   obtain ⟨h3, h4⟩ := List.getElem?_eq_some_iff.1 hj
   have := hp (q - 1) q h3 h1 (by omega)
   rw [h2, h4] at this
   omega
theorem memF_set (S : Nat → Bool) (m b : Nat) (hb : b < m) : setOf (memF S m) b = S b := by
 rw [Bool.eq_iff_iff]
 simp only [setOf, decide_eq_true_eq]
 unfold memF
 simp only [List.mem_map, List.mem_filter, List.mem_range]
 constructor
 ·rintro ⟨c, ⟨-, h⟩, e⟩
  have : c = b := by have : (c : Int) = (b : Int) := e; omega
  subst this
  exact h
 ·intro h
  exact ⟨b, ⟨hb, h⟩, rfl⟩
theorem cutFin_cut {fits : List (List Bool)} {sup need : List Int} (hv : Vld fits sup need) (hn : ¬ Feas (pbOf fits sup need)) : CutP fits sup need (memF (cutFin fits sup need) need.length) := by
 rw [cutP_iff hv (memF_asc _ _)]
 have e : lackOf (pbOf fits sup need) (setOf (memF (cutFin fits sup need) need.length)) = lackOf (pbOf fits sup need) (cutFin fits sup need) := lackOf_congr (fun b hb => memF_set _ _ b hb)
 rw [e]
 exact cutFin_lack hv hn
end Go.Proofs.YtmikfjcdgkopkaaGreat

/-
 Refusals: some of the requests of a list, plain.
 Conditions: none.
-/
namespace Go.Proofs.YtmikfjcdgkopkaaGreat
open Go Bf
theorem keep_mapf {α β : Type} (o : Nat → Bool) (f : α → β) : ∀ (l : List α) (i : Nat), keep o (l.map f) i = (keep o l i).map f
 | [], _ => rfl
 | x :: l, i => by
  rw [List.map_cons, keep, keep]
  split
  ·exact keep_mapf o f l (i + 1)
  ·rw [keep_mapf o f l (i + 1), List.map_cons]
def rk (S : Nat → Bool) (j : Nat) : Nat := (idx S j).length
theorem idx_prefix {S : Nat → Bool} : ∀ {m n : Nat}, m ≤ n → ∃ t, idx S n = idx S m ++ t
 | m, 0, h => ⟨[], by rw [show m = 0 by omega]; simp⟩
 | m, n + 1, h => by
  by_cases e : m = n + 1
  ·exact ⟨[], by rw [e]; simp⟩
  ·obtain ⟨t, ht⟩ := idx_prefix (S := S) (show m ≤ n by omega)
   exact ⟨t ++ if S n = true then [n] else [], by rw [idx_succ, ht, List.append_assoc]⟩
theorem idx_rk {S : Nat → Bool} {m j : Nat} (hj : j < m) (hS : S j = true) : (idx S m)[rk S j]? = some j := by
 obtain ⟨t, ht⟩ := idx_prefix (S := S) (show j + 1 ≤ m by omega)
 rw [ht, idx_succ, if_pos hS, List.append_assoc, rk, List.getElem?_append_right (Nat.le_refl _)]
 simp
theorem rk_idx {S : Nat → Bool} {m i b : Nat} (h : (idx S m)[i]? = some b) : rk S b = i := by
 obtain ⟨hb, hS⟩ := idx_mem h
 have h2 := idx_rk hb hS
 have hn : (idx S m).Nodup := List.nodup_range.filter _
 obtain ⟨l1, e1⟩ := List.getElem?_eq_some_iff.1 h
 obtain ⟨l2, e2⟩ := List.getElem?_eq_some_iff.1 h2
 exact (List.getElem_inj hn).1 (e2.trans e1.symm)
theorem keep_at {α : Type} {S : Nat → Bool} {l : List α} {j : Nat} (hj : j < l.length) (hS : S j = true) : (keep (fun b => !S b) l 0)[rk S j]? = l[j]? := by
 obtain ⟨x, hx⟩ := get_of_lt hj
 rw [keep_map _ x]
 simp only [Bool.not_not]
 show (List.map (fun i => l.getD i x) (idx S l.length))[rk S j]? = _
 rw [List.getElem?_map, idx_rk hj hS, hx]
 simp [List.getD_eq_getElem?_getD, hx]
theorem feasW_keep {w : Wd} {known : Int} {s : List Sp} {r : List Rq} (ht : okT s r) (S : Nat → Bool) : Feas (pbW w known s (keep (fun b => !S b) r 0)) ↔ Feas (pbS (fitsT w known s r) (amS s) (amR r) S) := by
 have hl : (keep (fun b => !S b) r 0).length = (idx S r.length).length := by
  rw [keep_len_idx]; simp
 constructor
 ·intro h
  obtain ⟨a, ha⟩ := feas_part.1 h
  have hm : (pbW w known s (keep (fun b => !S b) r 0)).m = (idx S r.length).length := by simp [pbW, pbOf, amR, hl]
  have hn : (pbW w known s (keep (fun b => !S b) r 0)).n = s.length := by simp [pbW, pbOf, amS]
  have hrk : ∀ j, j < r.length → S j = true → rk S j < (idx S r.length).length := fun j hj hS => (List.getElem?_eq_some_iff.1 (idx_rk hj hS)).1
  refine feas_part.2 ⟨fun k j => if S j = true then a k (rk S j) else 0, fun k hk j hj => ?_, fun k hk j hj hne => ?_, fun k hk => ?_, fun j hj => ?_⟩
  all_goals simp only [pbS, amS, amR, List.length_map] at *
  ·split
   ·rename_i hS
    exact ha.nn k (by omega) _ (by rw [hm]; exact hrk j hj hS)
   ·exact Int.le_refl _
  ·split at hne
   ·rename_i hS
    have hok := ha.ok k (by omega) _ (by rw [hm]; exact hrk j hj hS) hne
    obtain ⟨x, hx⟩ := get_of_lt hk
    obtain ⟨y, hy⟩ := get_of_lt hj
    have e := keep_at hj hS
    rw [hy] at e
    simp only [pbW, pbOf] at hok
    rw [fitsT_get hx e] at hok
    rw [fitsT_get hx hy]
    exact hok
   ·exact absurd rfl hne
  ·rw [idx_sum S (fun j => a k (rk S j))]
   have := ha.row k (by omega)
   rw [hm] at this
   refine Int.le_trans (Int.le_of_eq (sumN_congr fun i hi => ?_)) this
   obtain ⟨b, hb⟩ := get_of_lt hi
   rw [getD_of hb, rk_idx hb]
  ·by_cases hS : S j = true
   ·simp only [hS, if_true]
    have := ha.col _ (by rw [hm]; exact hrk j hj hS)
    rw [hn] at this
    rw [this]
    simp only [pbW, pbOf, amR, List.getD_eq_getElem?_getD, List.getElem?_map, keep_at hj hS]
   ·simp only [hS, if_false, Bool.false_eq_true]
    exact sumN_zero fun _ _ => rfl
 ·intro h
  have := feas_keep (okT_vld (w := w) (known := known) ht) (fun b => !S b) (by simpa using h)
  unfold pbW
  have e1 : (fitsT w known s r).map (fun row => keep (fun b => !S b) row 0) = fitsT w known s (keep (fun b => !S b) r 0) := by
   unfold fitsT
   rw [List.map_map]
   exact List.map_congr_left fun x _ => keep_mapf _ _ _ _
  have e2 : keep (fun b => !S b) (amR r) 0 = amR (keep (fun b => !S b) r 0) := keep_mapf _ _ _ _
  rw [e1, e2] at this
  exact this
end Go.Proofs.YtmikfjcdgkopkaaGreat

/-
 Refusals: excluding and without.
 Conditions: none.
-/
namespace Go.Proofs.YtmikfjcdgkopkaaGreat
open Go Bf
attribute [local irreducible] Tr Exec Stab HasTy Go.Addr.add IntKind.wrap
def kyI (y : Ky) : List Int := [y.1, y.2.1, y.2.2]
theorem kyI_inj {a b : Ky} (h : ints (kyI a) = ints (kyI b)) : a = b := by
 have := ints_inj h
 obtain ⟨a1, a2, a3⟩ := a
 obtain ⟨b1, b2, b3⟩ := b
 simp only [kyI, List.cons.injEq, and_true] at this
 obtain ⟨rfl, rfl, rfl⟩ := this
 rfl
def MapKy (es : List MapEntry) (l : List Ky) : Prop := KeysIn (IntsN 3) es ∧ ∀ y : Ky, valV (ints (kyI y)) es = if y ∈ l then some (.bool true) else none
theorem MapKy.nil : MapKy [] [] := ⟨KeysIn.nil, fun y => by simp [valV, lookV]⟩
theorem MapKy.add {es : List MapEntry} {l : List Ky} (h : MapKy es l) (y : Ky) (cl : Nat) : MapKy (updV (ints (kyI y)) (.bool true) es cl).1 (l ++ [y]) := by
 classical
 refine ⟨updV_keys h.1 ⟨kyI y, rfl, rfl⟩, fun z => ?_⟩
 rw [updV_val, h.2 z]
 by_cases e : z = y
 ·subst e; simp
 ·have : ¬ ints (kyI z) = ints (kyI y) := fun h => e (kyI_inj h)
  simp [this, e]
theorem allOne_head {v : Value} {l : List Value} (h : AllOne (v :: l)) : v.oneCell' = true ∧ AllOne l := by
 cases h with
 | cons h t => exact ⟨h, t⟩
theorem RWd.lit {M : Mem} {ws : List Value} {w : Wd} (h : RWd M ws w) : ∃ u0 u1 u2 u3 u4 u5 u6 u8 u9 A7 c7 A10 c10, ws = [u0, u1, u2, u3, u4, u5, u6, .slice A7 w.swaps.length c7, u8, u9, .slice A10 w.facts.length c10] ∧ (u0.oneCell' = true ∧ u1.oneCell' = true ∧ u2.oneCell' = true ∧ u3.oneCell' = true ∧ u4.oneCell' = true ∧ u5.oneCell' = true ∧ u6.oneCell' = true ∧ u8.oneCell' = true ∧ u9.oneCell' = true) ∧
  SlOf 4 RSw M (.slice A7 w.swaps.length c7) w.swaps ∧ SlOf 8 RFc M (.slice A10 w.facts.length c10) w.facts := by
 obtain ⟨h11, hone, ⟨A7, c7, h7, hsw⟩, A10, c10, h10, hfa⟩ := h
 match ws, h11 with
 | [u0, u1, u2, u3, u4, u5, u6, u7, u8, u9, u10], _ =>
  simp only [nthL, Option.some.injEq] at h7 h10
  subst h7 h10
  obtain ⟨o0, hone⟩ := allOne_head hone
  obtain ⟨o1, hone⟩ := allOne_head hone
  obtain ⟨o2, hone⟩ := allOne_head hone
  obtain ⟨o3, hone⟩ := allOne_head hone
  obtain ⟨o4, hone⟩ := allOne_head hone
  obtain ⟨o5, hone⟩ := allOne_head hone
  obtain ⟨o6, hone⟩ := allOne_head hone
  obtain ⟨-, hone⟩ := allOne_head hone
  obtain ⟨o8, hone⟩ := allOne_head hone
  obtain ⟨o9, hone⟩ := allOne_head hone
  exact ⟨u0, u1, u2, u3, u4, u5, u6, u8, u9, A7, c7, A10, c10, rfl, ⟨o0, o1, o2, o3, o4, o5, o6, o8, o9⟩, hsw, hfa⟩
end Go.Proofs.YtmikfjcdgkopkaaGreat

/-
 Refusals: Facts, the walk.
 Conditions: none.
-/
namespace Go.Proofs.YtmikfjcdgkopkaaGreat
open Go Bf
attribute [local irreducible] Tr Exec Stab HasTy Go.Addr.add IntKind.wrap
theorem askE_zero {w : Wd} {k : Bp} {r : Rq} (h : askE w k r = 0) : okB w k ∧ r.no ∉ k.reqs.map (·.no) ∧ okT k.sups (k.reqs ++ [r]) := by
 unfold askE at h
 split at h
 ·cases h
 ·rename_i h1
  have h1 := Classical.not_not.1 h1
  split at h
  ·cases h
  ·rename_i h2
   split at h
   ·cases h
   ·rename_i h3
    rw [not_or] at h3
    exact ⟨h1, h2, (okT_app h1.2.1).2 ⟨Classical.not_not.1 h3.1, by omega⟩⟩
end Go.Proofs.YtmikfjcdgkopkaaGreat

/-
 Promises: Earliest, the work.
 Conditions: none.
-/
namespace Go.Proofs.YtmikfjcdgkopkaaGreat
open Go Bf
attribute [local irreducible] Tr Exec Stab HasTy Go.Addr.add IntKind.wrap
def EarP (w : Wd) (k : Bp) (r : Rq) (day : Int) (ok : Bool) : Prop :=
 (ok = true ∧ (r.due ≤ day ∧ day < 1024) ∧ canF w k r day ∧ ∀ d, matters w k r d → r.due ≤ d → d < day → ¬ canF w k r d) ∨ (ok = false ∧ day = 0 ∧ ∀ d, matters w k r d → r.due ≤ d → d < 1024 → ¬ canF w k r d)
def FBnd (w : Wd) : Prop := w.facts.length ≤ 1000 ∧ ∀ f ∈ w.facts, (-9223372036854775808 ≤ f.lo ∧ f.lo ≤ 9223372036854775807) ∧ (-9223372036854775808 ≤ f.hi ∧ f.hi ≤ 9223372036854775807)
theorem matters_bnd {w : Wd} {k : Bp} {r : Rq} (hf : FBnd w) (h : okT k.sups (k.reqs ++ [r])) : ∀ d, matters w k r d → -9223372036854775808 ≤ d ∧ d ≤ 9223372036854775807 := by
 rintro d (rfl | ⟨s, hs, rfl⟩ | ⟨f, hf1, -, rfl | rfl⟩)
 ·have := (h.2.2 r (by simp)).2.2.2.1; omega
 ·have := (h.2.1 s hs).2.2.2.1; omega
 ·exact (hf.2 f hf1).1
 ·exact (hf.2 f hf1).2
set_option maxHeartbeats 8000000 in
set_option maxRecDepth 20000 in
theorem earliest1c_fn (M : Mem) (ws : List Value) (w : Wd) (hw : RWd M ws w) (hfb : FBnd w) (k : Bp) (As Ar Af Ad : Option Addr) (cs cr cf cd : Nat) (h1 : SlOf 6 RSpC M (.slice As k.sups.length cs) k.sups) (h2 : SlOf 6 RRqC M (.slice Ar k.reqs.length cr) k.reqs) (h3 : Fits2 M (.slice Af k.fits.length cf) k.fits) (h4 : SlOf 5 RRd M (.slice Ad k.rds.length cd) k.rds) (hfc : cf ≤ 9223372036854775807) (r : Rq) (b3 b4 b5 b6 b7 : Nat) :
  FnP Tryz.prog 51 [.pointer (some ⟨b3, 0, none⟩), .pointer (some ⟨b4, 0, none⟩), .pointer (some ⟨b5, 0, none⟩), .pointer (some ⟨b6, 0, none⟩), .pointer (some ⟨b7, 0, none⟩)] M [box b3 38 ws, box b4 44 [.int .i64 k.known, .slice As k.sups.length cs, .slice Ar k.reqs.length cr, .slice Af k.fits.length cf, .slice Ad k.rds.length cd], box b5 46 [.int .i64 r.no, .int .i64 r.item, .int .i64 r.cust, .int .i64 r.due, .int .i64 r.shelf, .int .i64 r.amount], box b6 3 [.int .i64 0], box b7 4 [.bool false]]
   (fun _ _ A' => askE w k r = 0 ∧ ∃ day ok, A' = [box b6 3 [.int .i64 day], box b7 4 [.bool ok]] ∧ EarP w k r day ok) (fun ch _ A' => ∃ e, ch = prCh e ∧ A' = [box b6 3 [.int .i64 0], box b7 4 [.bool false]] ∧ askE w k r = e ∧ e ≠ 0) := by
 have h11 := hw.len
 refine FnP.introM Tryz.func51 rfl rfl Tryz.ntmps51 rfl fun E F => ?_
 (repeat (first | ((with_reducible refine Tr.step rfl ?_); (with_reducible refine Knd.load ?_); (first | (refine xwQ ?_) | (refine Exec.stab rfl (Stab.loadW rfl (tysOk.get rfl) rfl (by repeat (first | exact Has.here | apply Has.there)) (by assumption)) rfl ?_))) | (with_reducible first | apply Tr.seq | apply Tr.region)))
 ((refine Tr.step rfl ?_))
 refine Exec.callP rfl (check_fn M ws w hw k As Ar Af Ad cs cr cf cd h1 h2 h3 h4 hfc) (List.Perm.refl _) rfl (fun v M' A' hm hR => ?_) (fun ch M' A' hm hR => ?_)
 rotate_left
 ·obtain ⟨rfl, rfl, hn⟩ := hR
  (repeat ((with_reducible refine Tr.then_panic ?_)))
  exact Tr.donePM (A' := [box b6 3 [.int .i64 0], box b7 4 [.bool false]]) hm (by repeat (first | exact DropL.refl | apply DropL.skip)) ⟨310, rfl, rfl, by rw [askE, if_pos hn], by decide⟩
 obtain ⟨rfl, hv⟩ := hR
 (repeat (first | ((with_reducible refine Tr.step rfl ?_); (with_reducible refine Knd.load ?_); (first | (refine xwQ ?_) | (refine Exec.stab rfl (Stab.loadW rfl (tysOk.get rfl) rfl (by repeat (first | exact Has.here | apply Has.there)) (by assumption)) rfl ?_))) | (with_reducible first | apply Tr.next | apply Tr.seq | apply Tr.region | apply Tr.nil)))
 ((refine Tr.step rfl ?_))
 refine Exec.callP rfl (ask_fn M' ws w (hw.mono hm) k As Ar Af Ad cs cr cf cd (h1.mono RSpC.mono hm) (h2.mono RRqC.mono hm) (h3.mono RRowB.mono hm) (h4.mono RRd.mono hm) hv r) (List.Perm.refl _) rfl (fun v M2 A' hm2 hR => ?_) (fun ch M2 A' hm2 hR => ?_)
 rotate_left
 ·obtain ⟨e, rfl, rfl, he, hne⟩ := hR
  (repeat ((with_reducible refine Tr.then_panic ?_)))
  exact Tr.donePM (A' := [box b6 3 [.int .i64 0], box b7 4 [.bool false]]) (hm.trans hm2) (by repeat (first | exact DropL.refl | apply DropL.skip)) ⟨e, rfl, rfl, he, hne⟩
 obtain ⟨rfl, hask, x, a, rfl, -⟩ := hR
 have hokT := (askE_zero hask).2.2
 have hm02 := hm.trans hm2
 have hw2 := hw.mono hm02
 have g1 := h1.mono RSpC.mono hm02
 have g2 := h2.mono RRqC.mono hm02
 have g3 := h3.mono RRowB.mono hm02
 have g4 := h4.mono RRd.mono hm02
 (repeat (first | ((with_reducible refine Tr.step rfl ?_); (with_reducible refine Knd.load ?_); (first | (refine xwQ ?_) | (refine Exec.stab rfl (Stab.loadW rfl (tysOk.get rfl) rfl (by repeat (first | exact Has.here | apply Has.there)) (by assumption)) rfl ?_))) | (with_reducible first | apply Tr.next | apply Tr.seq | apply Tr.region | apply Tr.nil)))
 ((refine Tr.step rfl ?_))
 refine Exec.call (A := []) rfl (maker_fn M2 ws k As Ar Af Ad cs cr cf cd) (List.Perm.refl _) rfl ?_
 rintro _ _ _ _ ⟨b8, b9, rfl, rfl, rfl⟩
 (repeat (first | ((with_reducible refine Tr.step rfl ?_); (first | ((with_reducible refine Knd.load ?_); (first | (refine xwQ ?_) | (refine Exec.stab rfl (Stab.loadW rfl (tysOk.get rfl) rfl (by repeat (first | exact Has.here | apply Has.there)) (by assumption)) rfl ?_))) | (refine xSQ ?_) | ((with_reducible refine Knd.alloc ?_); (refine Exec.alloc1 (tysOk.get rfl) rfl rfl rfl (fun b => ?_))))) | (with_reducible first | apply Tr.next | apply Tr.seq | apply Tr.region | apply Tr.nil)))
 ((refine Tr.step rfl ?_))
 refine Exec.call (A := []) rfl (days_fn M2 ws w hw2 k As Ar Af Ad cs cr cf cd g1 g2 g3 g4 r) (List.Perm.refl _) rfl ?_
 rintro _ _ _ _ ⟨rfl, c5, c7, mb, es, cl, rfl, rfl, hday⟩
 (repeat (first | (with_reducible first | apply Tr.next | apply Tr.nil | apply Tr.block)))
 generalize b = bm
 simp only [List.cons_append, List.nil_append]
 refine Tr.rangeFunc' (A := [box c7 137 [.map (some mb)], mapR mb es cl, box c5 46 [.int .i64 r.no, .int .i64 r.item, .int .i64 r.cust, .int .i64 r.due, .int .i64 r.shelf, .int .i64 r.amount], box bm 91 [.func (.func 75) #[] #[.pointer (some ⟨b8, 0, none⟩), .pointer (some ⟨b9, 0, none⟩)]], box b9 44 [.int .i64 k.known, .slice As k.sups.length cs, .slice Ar k.reqs.length cr, .slice Af k.fits.length cf, .slice Ad k.rds.length cd], box b8 38 ws, box b3 38 ws, box b4 44 [.int .i64 k.known, .slice As k.sups.length cs, .slice Ar k.reqs.length cr, .slice Af k.fits.length cf, .slice Ad k.rds.length cd], box b5 46 [.int .i64 r.no, .int .i64 r.item, .int .i64 r.cust, .int .i64 r.due, .int .i64 r.shelf, .int .i64 r.amount], box b6 3 [.int .i64 0], box b7 4 [.bool false]])
  (Rf := fun o _ A'' => ∃ day ok, A'' = [box bm 91 [.func (.func 75) #[] #[.pointer (some ⟨b8, 0, none⟩), .pointer (some ⟨b9, 0, none⟩)]], box b9 44 [.int .i64 k.known, .slice As k.sups.length cs, .slice Ar k.reqs.length cr, .slice Af k.fits.length cf, .slice Ad k.rds.length cd], box b8 38 ws, box b3 38 ws, box b4 44 [.int .i64 k.known, .slice As k.sups.length cs, .slice Ar k.reqs.length cr, .slice Af k.fits.length cf, .slice Ad k.rds.length cd], box b5 46 [.int .i64 r.no, .int .i64 r.item, .int .i64 r.cust, .int .i64 r.due, .int .i64 r.shelf, .int .i64 r.amount], box b6 3 [.int .i64 day], box b7 4 [.bool ok]] ∧ EarP w k r day ok ∧ o = if ok = true then some .ret else none) rfl (List.Perm.refl _) (fun lab dd lp p1 p2 p3 p4 p5 hfit => ?_) (fun dd M' A'' hm => ⟨?_, ?_⟩)
 ·refine Bf.Fn.mono (days1_fn M2 lab c5 c7 mb cl _ r es (matters w k r) hday (by have := hfb.1; have := hv.2.1.1.1; omega) (matters_bnd hfb hokT)
   [loopR lab lp, defR dd, box bm 91 [.func (.func 75) #[] #[.pointer (some ⟨b8, 0, none⟩), .pointer (some ⟨b9, 0, none⟩)]], box b9 44 [.int .i64 k.known, .slice As k.sups.length cs, .slice Ar k.reqs.length cr, .slice Af k.fits.length cf, .slice Ad k.rds.length cd], box b8 38 ws, box b3 38 ws, box b4 44 [.int .i64 k.known, .slice As k.sups.length cs, .slice Ar k.reqs.length cr, .slice Af k.fits.length cf, .slice Ad k.rds.length cd], box b5 46 [.int .i64 r.no, .int .i64 r.item, .int .i64 r.cust, .int .i64 r.due, .int .i64 r.shelf, .int .i64 r.amount], box b6 3 [.int .i64 0], box b7 4 [.bool false]] _ (List.perm_append_comm_assoc [_, _, _] [_, _] _) (fun d => ¬ canF w k r d)
   (fun d _ A'' => canF w k r d ∧ A'' = [loopR lab { lp with state := .done, pending := some .ret }, defR dd, box bm 91 [.func (.func 75) #[] #[.pointer (some ⟨b8, 0, none⟩), .pointer (some ⟨b9, 0, none⟩)]], box b9 44 [.int .i64 k.known, .slice As k.sups.length cs, .slice Ar k.reqs.length cr, .slice Af k.fits.length cf, .slice Ad k.rds.length cd], box b8 38 ws, box b3 38 ws, box b4 44 [.int .i64 k.known, .slice As k.sups.length cs, .slice Ar k.reqs.length cr, .slice Af k.fits.length cf, .slice Ad k.rds.length cd], box b5 46 [.int .i64 r.no, .int .i64 r.item, .int .i64 r.cust, .int .i64 r.due, .int .i64 r.shelf, .int .i64 r.amount], box b6 3 [.int .i64 d], box b7 4 [.bool true]]) ?_) (fun v M' A' hm hR => ?_)
  ·intro M1 d hm1 hmat hd1 hd2
   have hm01 := hm02.trans hm1
   have hw1 := hw.mono hm01
   refine Yl.intro (ps := [24]) p3 rfl (by simp) hfit (by repeat (first | exact Has.here | apply Has.there)) (fun E F => ?_)
   rw [p4, p5]
   (repeat (first | ((with_reducible refine Tr.step rfl ?_); (with_reducible refine Knd.assign ?_); (refine xaQ ?_)) | (with_reducible first | apply Tr.next | apply Tr.region | apply Tr.nil)))
   refine Tr.begin (by repeat (first | exact Upd.here | apply Upd.there)) p1 ?_
   (repeat (first | ((with_reducible refine Tr.step rfl ?_); (first | (refine xmQ ?_) | ((with_reducible refine Knd.load ?_); (first | (refine xlQ ?_) | (refine xwQ ?_))) | (refine xfQ ?_) | ((with_reducible refine Knd.store ?_); (first | (refine xSQ ?_) | (refine xWQ ?_))) | ((with_reducible refine Knd.alloc ?_); (refine Exec.alloc (tysOk.get rfl) rfl rfl (fun b => ?_))) | ((with_reducible refine Knd.buildSlice ?_); (refine Exec.buildSlice (tysOk.get rfl) rfl (tysOk.get rfl) rfl rfl rfl rfl rfl (by repeat (first | exact BuildP.nil | ((apply BuildP.many); (rfl); (rfl); (rfl); (rfl); (repeat (first | exact PutL.nil | ((apply PutL.cons); (repeat (first | exact SetL.z | apply SetL.s)))))))) rfl (fun b => ?_))))) | (with_reducible first | apply Tr.next | apply Tr.seq | apply Tr.region | apply Tr.nil | apply Tr.block)))
   rename_i bt
   generalize b = bs
   refine pbQ (r := box bs 46 _) (fun M3 hm3 hokb => ?_)
   have hokb : (box bs 46 (rqC (onDay r d))).ok M3 := hokb
   have hone : SlOf 6 RRqC M3 (.slice (some ⟨bs, 0, none⟩) 1 1) [onDay r d] := SlOf.ofBoxC (n := 1) (c := 1) (xs := [onDay r d]) hokb rfl rfl (Nat.le_refl _) (by decide) (rqC_one _) (rqC_elems M3 [onDay r d])
   have hm03 := hm01.trans hm3
   have hr0 := hokT.2.2 r (by simp)
   have hrd : okRq (onDay r d) := ⟨hr0.1, hr0.2.1, hr0.2.2.1, ⟨by have := hr0.2.2.2.1.1; show 0 ≤ d; omega, by show d ≤ 1023; omega⟩, hr0.2.2.2.2⟩
   have hlen := hokT.1.2
   have hokD : okT k.sups (k.reqs ++ [onDay r d]) := (okT_app hv.2.1).2 ⟨hrd, by simpa using hlen⟩
   ((refine Tr.step rfl ?_))
   refine Exec.callv (first := []) (cap := [.pointer (some ⟨b8, 0, none⟩), .pointer (some ⟨b9, 0, none⟩)]) (A := [box b9 44 [.int .i64 k.known, .slice As k.sups.length cs, .slice Ar k.reqs.length cr, .slice Af k.fits.length cf, .slice Ad k.rds.length cd], box b8 38 ws]) rfl rfl (maker1_fn M3 ws w (hw.mono hm03) k As Ar Af Ad cs cr cf cd (h1.mono RSpC.mono hm03) (h2.mono RRqC.mono hm03) (h3.mono RRowB.mono hm03) (h4.mono RRd.mono hm03) b8 b9 (some ⟨bs, 0, none⟩) 1 [onDay r d] hone) (take2 (by repeat (first | exact Del.here | apply Del.there)) (by repeat (first | exact Del.here | apply Del.there))) rfl ?_
   rintro v M4 _ hm4 ⟨rfl, hmk⟩
   have hm04 := hm03.trans hm4
   rcases hmk with ⟨hnk, rfl⟩ | ⟨-, z, rfl, A1, c1, A2, c2, A3, c3, D, cD, rfl, q1, q2, q3, q4⟩
   ·exact absurd ⟨⟨hokT.1.1, by simp⟩, hokT.2.1, fun y hy => by simp at hy; subst hy; exact hrd⟩ hnk
   dsimp only [mkF] at q1 q2 q3 q4 ⊢
   have e3 : (fitsT w k.known k.sups [onDay r d]).length = k.sups.length := by simp [fitsT]
   rw [e3] at q3 ⊢
   (repeat (first | ((with_reducible refine Tr.step rfl ?_); (first | (refine xmQ ?_) | (refine xaQ ?_) | (refine xWQ ?_) | ((with_reducible refine Knd.alloc ?_); (refine Exec.alloc (tysOk.get rfl) rfl rfl (fun b => ?_))) | ((with_reducible refine Knd.extract ?_); (refine Exec.stab rfl (Stab.extract rfl rfl) rfl ?_)))) | (with_reducible first | apply Tr.next | apply Tr.seq | apply Tr.region | apply Tr.nil)))
   ((refine Tr.step rfl ?_)); refine Exec.call0 rfl (must_y M4) rfl ?_
   rintro _ _ _ rfl
   (repeat (first | ((with_reducible refine Tr.step rfl ?_); (with_reducible refine Knd.load ?_); (refine xwQ ?_)) | (with_reducible first | apply Tr.next | apply Tr.seq | apply Tr.region | apply Tr.nil)))
   ((refine Tr.step rfl ?_)); refine Exec.call0 rfl (with_fn M4 w k As Ar Af Ad cs cr cf cd (h1.mono RSpC.mono hm04) (h2.mono RRqC.mono hm04) (h3.mono RRowB.mono hm04) (h4.mono RRd.mono hm04) hv (onDay r d) A1 A2 A3 D c1 c2 c3 cD _ q2 q3) rfl ?_
   rintro _ M5 hm5 ⟨A5, c5', A6, c6, A7, c7', A8, c8, rfl, t1, t2, t3, t4⟩
   dsimp only at t1 t2 t3 t4 ⊢
   have hm05 := hm04.trans hm5
   have hm15 := hm3.trans (hm4.trans hm5)
   have hvld : Vld (fitsT w k.known k.sups (k.reqs ++ [onDay r d])) (amS k.sups) (amR (k.reqs ++ [onDay r d])) := okT_vld hokD
   (skip)
   ((refine Tr.step rfl ?_)); refine Exec.call0 rfl (bpossible_fn M5 ⟨k.known, k.sups, k.reqs ++ [onDay r d], fitsT w k.known k.sups (k.reqs ++ [onDay r d]), []⟩ A5 A6 A7 A8 c5' c6 c7' c8 t1 t2 t3 t4 hvld) rfl ?_
   rintro _ _ _ ⟨⟨q, rfl, hq⟩, rfl⟩
   have hq : q = true ↔ canF w k r d := hq
   have e : ({ lp with state := .ready, pending := none } : Loop) = lp := by cases lp; simp_all
   cases q
   ·have hno : ¬ canF w k r d := fun h => by have := hq.2 h; cases this
    (repeat (first | (with_reducible first | apply Tr.next | apply Tr.nil | apply Tr.skip | apply Tr.in_normal) | (refine Tr.cond_bf rfl (by (with_reducible rfl)) ?_)))
    refine gvQ (r := box bt _ _) ?_
    refine gvQ (r := box _ 44 [_, .slice A1 _ _, _, _, _]) ?_
    refine ftQ (r := box b7 4 _) ?_
    refine ftQ (r := box b6 3 _) ?_
    refine ftQ (r := box b5 _ _) ?_
    refine ftQ (r := box b4 _ _) ?_
    refine ftQ (r := box b3 _ _) ?_
    refine ftQ (r := box b8 _ _) ?_
    refine ftQ (r := box b9 _ _) ?_
    refine ftQ (r := box bm _ _) ?_
    refine ftQ (r := defR dd) ?_
    refine ftQ (r := loopR lab _) ?_
    refine Tr.round_normal (A' := [loopR lab { lp with state := .ready, pending := none }, defR dd, box bm 91 [.func (.func 75) #[] #[.pointer (some ⟨b8, 0, none⟩), .pointer (some ⟨b9, 0, none⟩)]], box b9 44 [.int .i64 k.known, .slice As k.sups.length cs, .slice Ar k.reqs.length cr, .slice Af k.fits.length cf, .slice Ad k.rds.length cd], box b8 38 ws, box b3 38 ws, box b4 44 [.int .i64 k.known, .slice As k.sups.length cs, .slice Ar k.reqs.length cr, .slice Af k.fits.length cf, .slice Ad k.rds.length cd], box b5 46 [.int .i64 r.no, .int .i64 r.item, .int .i64 r.cust, .int .i64 r.due, .int .i64 r.shelf, .int .i64 r.amount], box b6 3 [.int .i64 0], box b7 4 [.bool false]]) (by repeat (first | exact Upd.here | apply Upd.there)) DropL.refl hm15 (.inl ⟨rfl, hno, ?_⟩)
    rw [e]
   ·have hcan := hq.1 rfl
    (repeat (first | ((with_reducible refine Tr.step rfl ?_); (first | (refine xmQ ?_) | (refine xSQ ?_))) | (with_reducible first | apply Tr.next | apply Tr.seq | apply Tr.region | apply Tr.nil | apply Tr.ret | apply Tr.in_ret) | (refine Tr.cond_bt rfl (by (with_reducible rfl)) ?_)))
    refine gvQ (r := box bt _ _) ?_
    refine gvQ (r := box _ 44 [_, .slice A1 _ _, _, _, _]) ?_
    refine ftQ (r := box b7 4 _) ?_
    refine ftQ (r := box b6 3 _) ?_
    refine ftQ (r := box b5 _ _) ?_
    refine ftQ (r := box b4 _ _) ?_
    refine ftQ (r := box b3 _ _) ?_
    refine ftQ (r := box b8 _ _) ?_
    refine ftQ (r := box b9 _ _) ?_
    refine ftQ (r := box bm _ _) ?_
    refine ftQ (r := defR dd) ?_
    refine ftQ (r := loopR lab _) ?_
    refine Tr.round_ret (A' := [loopR lab { lp with state := .done, pending := some .ret }, defR dd, box bm 91 [.func (.func 75) #[] #[.pointer (some ⟨b8, 0, none⟩), .pointer (some ⟨b9, 0, none⟩)]], box b9 44 [.int .i64 k.known, .slice As k.sups.length cs, .slice Ar k.reqs.length cr, .slice Af k.fits.length cf, .slice Ad k.rds.length cd], box b8 38 ws, box b3 38 ws, box b4 44 [.int .i64 k.known, .slice As k.sups.length cs, .slice Ar k.reqs.length cr, .slice Af k.fits.length cf, .slice Ad k.rds.length cd], box b5 46 [.int .i64 r.no, .int .i64 r.item, .int .i64 r.cust, .int .i64 r.due, .int .i64 r.shelf, .int .i64 r.amount], box b6 3 [.int .i64 d], box b7 4 [.bool true]]) (by repeat (first | exact Upd.here | apply Upd.there)) DropL.refl hm15 (.inr ⟨rfl, hcan, by rw [p4, p5]⟩)
  ·rcases hR with ⟨rfl, hall⟩ | ⟨d, hmat, ⟨hd1, hd2⟩, hbef, hcan, rfl⟩
   ·exact ⟨lp, _, rfl, by rw [p1]; decide, 0, false, rfl, .inr ⟨rfl, rfl, hall⟩, p2⟩
   ·exact ⟨_, _, rfl, (by intro h; cases h), d, true, rfl, .inl ⟨rfl, ⟨hd1, hd2⟩, hcan, hbef⟩, rfl⟩
 ·rintro ⟨day, ok, rfl, hE, ho⟩
  cases ok
  ·simp only [List.cons_append, List.nil_append]
   (repeat ((with_reducible refine Tr.in_normal ?_)))
   refine Tr.doneMB (A' := [box b6 3 [.int .i64 day], box b7 4 [.bool false]]) [dd] [_, _, _, _, _, _] rfl (by first | exact .inl rfl | exact .inr rfl) rfl (List.Perm.refl _) (by repeat (exact RVs.nil)) (hm02.trans hm) rfl ⟨hask, day, false, rfl, hE⟩
  ·cases ho
 ·rintro c ⟨day, ok, rfl, hE, ho⟩
  cases ok
  ·cases ho
  ·cases ho
   simp only [List.cons_append, List.nil_append]
   (repeat (first | (with_reducible first | apply Tr.ret | apply Tr.in_ret)))
   refine Tr.doneMB (A' := [box b6 3 [.int .i64 day], box b7 4 [.bool true]]) [dd] [_, _, _, _, _, _] rfl (by first | exact .inl rfl | exact .inr rfl) rfl (List.Perm.refl _) (by repeat (exact RVs.nil)) (hm02.trans hm) rfl ⟨hask, day, true, rfl, hE⟩
end Go.Proofs.YtmikfjcdgkopkaaGreat

/-
 Promises: Earliest.
 Conditions: none.
-/
namespace Go.Proofs.YtmikfjcdgkopkaaGreat
open Go Bf
attribute [local irreducible] Tr Exec Stab HasTy Go.Addr.add IntKind.wrap
def EarV (w : Wd) (k : Bp) (r : Rq) (v : Value) : Prop :=
 (askE w k r = 0 ∧ ∃ day ok, v = .tuple #[.int .i64 day, .bool ok, .int .i64 0] ∧ EarP w k r day ok) ∨ (askE w k r ≠ 0 ∧ v = .tuple #[.int .i64 0, .bool false, .int .i64 (askE w k r)])
set_option maxHeartbeats 8000000 in
theorem earliest_fn (M : Mem) (ws : List Value) (w : Wd) (hw : RWd M ws w) (hfb : FBnd w) (v : Value) (k : Bp) (hk : RBp M v k) (_ : k.fits.length ≤ 9223372036854775807) (r : Rq) :
  Fn0 Tryz.prog 20 [.agg ws.toArray, v, .agg #[.int .i64 r.no, .int .i64 r.item, .int .i64 r.cust, .int .i64 r.due, .int .i64 r.shelf, .int .i64 r.amount]] M (fun v _ => EarV w k r v) := by
 have h11 := hw.len
 obtain ⟨As, cs, Ar, cr, Af, cf, Ad, cd, rfl, h1, h2, h3, h4⟩ := hk
 have hfc2 := fits_cap h3
 refine Fn.intro Tryz.func20 rfl rfl Tryz.ntmps20 rfl fun E F => ?_
 (repeat (first | ((with_reducible refine Tr.step rfl ?_); (first | (refine xaQ ?_) | ((with_reducible refine Knd.makeFunc ?_); (refine Exec.stab rfl (Stab.makeFunc rfl rfl) rfl ?_)) | ((with_reducible refine Knd.box ?_); (refine Exec.box rfl rfl (fun b => ?_))) | ((with_reducible refine Knd.alloc ?_); (refine Exec.alloc1 (tysOk.get rfl) rfl rfl rfl (fun b => ?_))))) | (with_reducible first | apply Tr.next | apply Tr.seq | apply Tr.region | apply Tr.nil)))
 rename_i b3 b4 b5 b6
 generalize b = b7
 ((refine Tr.step rfl ?_))
 refine Exec.call (A := [box b3 38 ws, box b4 44 [.int .i64 k.known, .slice As k.sups.length cs, .slice Ar k.reqs.length cr, .slice Af k.fits.length cf, .slice Ad k.rds.length cd], box b5 46 [.int .i64 r.no, .int .i64 r.item, .int .i64 r.cust, .int .i64 r.due, .int .i64 r.shelf, .int .i64 r.amount], box b6 3 [.int .i64 0], box b7 4 [.bool false]]) rfl (pattempt_fn M 51 [.pointer (some ⟨b3, 0, none⟩), .pointer (some ⟨b4, 0, none⟩), .pointer (some ⟨b5, 0, none⟩), .pointer (some ⟨b6, 0, none⟩), .pointer (some ⟨b7, 0, none⟩)] _ _ (fun e _ A' => A' = [box b6 3 [.int .i64 0], box b7 4 [.bool false]] ∧ askE w k r = e ∧ e ≠ 0) (earliest1c_fn M ws w hw hfb k As Ar Af Ad cs cr cf cd h1 h2 h3 h4 hfc2.2 r b3 b4 b5 b6 b7)) (take5 (by repeat (first | exact Del.here | apply Del.there)) (by repeat (first | exact Del.here | apply Del.there)) (by repeat (first | exact Del.here | apply Del.there)) (by repeat (first | exact Del.here | apply Del.there)) (by repeat (first | exact Del.here | apply Del.there))) rfl ?_
 rintro _ M1 A' hm (⟨rfl, -, hask, day, ok, rfl, hE⟩ | ⟨e, rfl, rfl, he, hne⟩)
 ·simp only [List.cons_append, List.nil_append]
  (repeat (first | ((with_reducible refine Tr.step rfl ?_); (with_reducible refine Knd.assign ?_); (refine xaQ ?_)) | (with_reducible first | apply Tr.next | apply Tr.seq | apply Tr.nil)))
  (((apply Tr.draw); (kernel_rfl)); (refine tkQ 0 (hB := by exact fun _ h => h) (s := by exact slQ) ?_); (refine tkQ 1 (s := by exact slQ) ?_); (refine tkQ 2 (s := by exact Stab.move rfl) ?_); (refine TrA.eff 3 rfl (by kernel_rfl) (by exact .inl rfl) ?_); (((refine Knd.store ?_); ((refine xSQ ?_)))); (refine ⟨(by first | exact Mem.le.refl _ | assumption), (by exact fun _ h => h), ?_⟩); (refine TrA.eff 4 rfl (by kernel_rfl) (by exact .inl rfl) ?_); (((refine Knd.store ?_); ((refine xSQ ?_)))); (refine ⟨(by first | exact Mem.le.refl _ | assumption), (by exact fun _ h => h), ?_⟩); (refine tkQ 5 (s := by exact Stab.assign rfl) ?_); (refine TrA.done (by kernel_rfl) ?_))
  (repeat (first | (with_reducible first | apply Tr.next | apply Tr.ret)))
  (refine Tr.done (by first | exact .inl rfl | exact .inr rfl) rfl (by repeat (first | exact RVs.nil | (apply RVs.cons; (first | exact RV.tmp rfl | exact RV.cell (by rfl) (tysOk.get (by rfl)) (by rfl) (by repeat (first | exact Has.here | apply Has.there)))))) (by first | exact Mem.le.refl _ | assumption) (by exact ⟨[_, _], rfl⟩) ⟨rfl, ?_⟩)
  exact .inl ⟨hask, day, ok, rfl, hE⟩
 ·simp only [List.cons_append, List.nil_append]
  (repeat (first | ((with_reducible refine Tr.step rfl ?_); (with_reducible refine Knd.assign ?_); (refine xaQ ?_)) | (with_reducible first | apply Tr.next | apply Tr.seq | apply Tr.nil)))
  (((apply Tr.draw); (kernel_rfl)); (refine tkQ 0 (hB := by exact fun _ h => h) (s := by exact slQ) ?_); (refine tkQ 1 (s := by exact slQ) ?_); (refine tkQ 2 (s := by exact Stab.move rfl) ?_); (refine TrA.eff 3 rfl (by kernel_rfl) (by exact .inl rfl) ?_); (((refine Knd.store ?_); ((refine xSQ ?_)))); (refine ⟨(by first | exact Mem.le.refl _ | assumption), (by exact fun _ h => h), ?_⟩); (refine TrA.eff 4 rfl (by kernel_rfl) (by exact .inl rfl) ?_); (((refine Knd.store ?_); ((refine xSQ ?_)))); (refine ⟨(by first | exact Mem.le.refl _ | assumption), (by exact fun _ h => h), ?_⟩); (refine tkQ 5 (s := by exact Stab.assign rfl) ?_); (refine TrA.done (by kernel_rfl) ?_))
  (repeat (first | (with_reducible first | apply Tr.next | apply Tr.ret)))
  (refine Tr.done (by first | exact .inl rfl | exact .inr rfl) rfl (by repeat (first | exact RVs.nil | (apply RVs.cons; (first | exact RV.tmp rfl | exact RV.cell (by rfl) (tysOk.get (by rfl)) (by rfl) (by repeat (first | exact Has.here | apply Has.there)))))) (by first | exact Mem.le.refl _ | assumption) (by exact ⟨[_, _], rfl⟩) ⟨rfl, ?_⟩)
  exact .inr ⟨he ▸ hne, by rw [he]; rfl⟩
end Go.Proofs.YtmikfjcdgkopkaaGreat

/-
 Promises: comparisons.
 Conditions: none.
-/
namespace Go.Proofs.YtmikfjcdgkopkaaGreat
open Go Bf
attribute [local irreducible] Tr Exec Stab HasTy Go.Addr.add IntKind.wrap
deriving instance DecidableEq for Sp
deriving instance DecidableEq for Rq
theorem sameReads_fn (M : Mem) (p q : List Rd) (A B : Option Addr) (c k : Nat) (hp : SlOf 5 RRd M (.slice A p.length c) p) (hq : SlOf 5 RRd M (.slice B q.length k) q) : Fn0 Tryz.prog 44 [.slice A p.length c, .slice B q.length k] M (fun r M' => r = .bool (decide (p = q)) ∧ M = M') := by
 have l1 := hp.len_le
 have l2 := hq.len_le
 refine Fn.intro Tryz.func44 rfl rfl Tryz.ntmps44 rfl fun E F => ?_
 by_cases hl : p.length = q.length
 rotate_left
 ·(refine rQ ?_)
  (refine dnQ (hL := by exact ⟨[], rfl⟩) ⟨rfl, ?_⟩)
  exact ⟨by rw [decide_eq_false (fun h => hl (congrArg _ h))]; rfl, rfl⟩
 (repeat (first | ((with_reducible refine Tr.step rfl ?_); (first | (refine xmQ ?_) | (refine xaQ ?_) | (refine xnQ ?_) | (refine xiQ ?_))) | (with_reducible first | apply Tr.next | apply Tr.seq | apply Tr.region | apply Tr.nil | apply Tr.skip | apply Tr.block) | (refine Tr.cond_f rfl (by omega) ?_)))
 refine Tr.loop (α := Nat) (fun i => ⟨26, [(5, .int .i64 (i : Int)), (0, .slice A p.length c), (1, .slice B q.length k)], [], M, [] ++ F⟩) (fun i => i ≤ p.length ∧ p.take i = q.take i) (fun i => p.length - i) 0 ⟨by simp, by simp⟩ hsQ (fun i hi => ?_)
 obtain ⟨hi, heq⟩ := hi
 by_cases hlt : i < p.length
 ·obtain ⟨x, hx⟩ := get_of_lt hlt
  obtain ⟨y, hy⟩ := get_of_lt (xs := q) (i := i) (by omega)
  obtain ⟨hA, ch1, hat, rfl⟩ := hp.elem hx
  obtain ⟨hB, ch2, hbt, rfl⟩ := hq.elem hy
  simp only [rdC] at hat hbt
  have hxy : [x.1.1, x.1.2.1, x.1.2.2, x.2.1, x.2.2] = [y.1.1, y.1.2.1, y.1.2.2, y.2.1, y.2.2] → x = y := by
   intro h
   obtain ⟨⟨a1, a2, a3⟩, a4, a5⟩ := x; obtain ⟨⟨c1, c2, c3⟩, c4, c5⟩ := y
   simp_all
  by_cases hk : [x.1.1, x.1.2.1, x.1.2.2, x.2.1, x.2.2] ≠ [y.1.1, y.1.2.1, y.1.2.2, y.2.1, y.2.2]
  ·(refine rQ ?_)
   (((apply Tr.draw); (kernel_rfl)); (refine tkQ 0 (hB := by exact fun _ h => h) (s := by exact Stab.move rfl) ?_); (refine tkQ 1 (s := by exact Stab.move rfl) ?_); (refine tkQ 4 (s := by exact Stab.move rfl) ?_); (refine tkQ 5 (s := by exact Stab.move rfl) ?_); (refine tkQ 2 (s := by exact sxQ) ?_); (refine tkQ 6 (s := by exact sxQ) ?_); (refine tkQ 3 (s := by exact Stab.loadMA rfl (tysOk.get rfl) rfl (by assumption) (by first | rfl | assumption)) ?_); (refine tkQ 7 (s := by exact Stab.loadMA rfl (tysOk.get rfl) rfl (by assumption) (by first | rfl | assumption)) ?_); (refine tkQ 8 (s := by exact Stab.stneL rfl rfl (by repeat (first | exact IntsL.nil | apply IntsL.cons)) (by repeat (first | exact IntsL.nil | apply IntsL.cons)) (tysOk.get rfl) rfl (by kernel_rfl) (by kernel_rfl) rfl rfl) ?_); (refine TrA.done (by kernel_rfl) ?_))
   (refine rQ ?_)
   (refine dnQ (hL := by exact ⟨[], rfl⟩) ⟨rfl, ?_⟩)
   exact ⟨by rw [decide_eq_false (fun h => by rw [h, hy] at hx; cases hx; exact hk rfl)]; rfl, rfl⟩
  ·(refine rQ ?_)
   (((apply Tr.draw); (kernel_rfl)); (refine tkQ 0 (hB := by exact fun _ h => h) (s := by exact Stab.move rfl) ?_); (refine tkQ 1 (s := by exact Stab.move rfl) ?_); (refine tkQ 4 (s := by exact Stab.move rfl) ?_); (refine tkQ 5 (s := by exact Stab.move rfl) ?_); (refine tkQ 2 (s := by exact sxQ) ?_); (refine tkQ 6 (s := by exact sxQ) ?_); (refine tkQ 3 (s := by exact Stab.loadMA rfl (tysOk.get rfl) rfl (by assumption) (by first | rfl | assumption)) ?_); (refine tkQ 7 (s := by exact Stab.loadMA rfl (tysOk.get rfl) rfl (by assumption) (by first | rfl | assumption)) ?_); (refine tkQ 8 (s := by exact Stab.stneL rfl rfl (by repeat (first | exact IntsL.nil | apply IntsL.cons)) (by repeat (first | exact IntsL.nil | apply IntsL.cons)) (tysOk.get rfl) rfl (by kernel_rfl) (by kernel_rfl) rfl rfl) ?_); (refine TrA.done (by kernel_rfl) ?_))
   (repeat (first | ((with_reducible refine Tr.step rfl ?_); (first | (refine xmQ ?_) | (refine xaQ ?_) | (refine xdQ ?_))) | (with_reducible first | apply Tr.next | apply Tr.region | apply Tr.nil | apply Tr.skip | apply Tr.in_normal) | (refine Tr.cond_f rfl (by (with_reducible assumption)) ?_)))
   refine Tr.again (i + 1) ⟨by omega, by rw [List.take_add_one, List.take_add_one, hx, hy, heq, hxy (Classical.not_not.1 hk)]⟩ (by omega) hsQ
 ·have e : i = p.length := by omega
  subst e
  rw [List.take_length, hl, List.take_length] at heq
  (refine rQ ?_)
  (refine dnQ (hL := by exact ⟨[], rfl⟩) ⟨rfl, ?_⟩)
  exact ⟨by rw [decide_eq_true heq]; rfl, rfl⟩
theorem sameSups_fn (M : Mem) (p q : List Sp) (A B : Option Addr) (c k : Nat) (hp : SlOf 6 RSpC M (.slice A p.length c) p) (hq : SlOf 6 RSpC M (.slice B q.length k) q) : Fn0 Tryz.prog 42 [.slice A p.length c, .slice B q.length k] M (fun r M' => r = .bool (decide (p = q)) ∧ M = M') := by
 have l1 := hp.len_le
 have l2 := hq.len_le
 refine Fn.intro Tryz.func42 rfl rfl Tryz.ntmps42 rfl fun E F => ?_
 by_cases hl : p.length = q.length
 rotate_left
 ·(refine rQ ?_)
  (refine dnQ (hL := by exact ⟨[], rfl⟩) ⟨rfl, ?_⟩)
  exact ⟨by rw [decide_eq_false (fun h => hl (congrArg _ h))]; rfl, rfl⟩
 (repeat (first | ((with_reducible refine Tr.step rfl ?_); (first | (refine xmQ ?_) | (refine xaQ ?_) | (refine xnQ ?_) | (refine xiQ ?_))) | (with_reducible first | apply Tr.next | apply Tr.seq | apply Tr.region | apply Tr.nil | apply Tr.skip | apply Tr.block) | (refine Tr.cond_f rfl (by omega) ?_)))
 refine Tr.loop (α := Nat) (fun i => ⟨26, [(5, .int .i64 (i : Int)), (0, .slice A p.length c), (1, .slice B q.length k)], [], M, [] ++ F⟩) (fun i => i ≤ p.length ∧ p.take i = q.take i) (fun i => p.length - i) 0 ⟨by simp, by simp⟩ hsQ (fun i hi => ?_)
 obtain ⟨hi, heq⟩ := hi
 by_cases hlt : i < p.length
 ·obtain ⟨x, hx⟩ := get_of_lt hlt
  obtain ⟨y, hy⟩ := get_of_lt (xs := q) (i := i) (by omega)
  obtain ⟨hA, ch1, hat, rfl⟩ := hp.elem hx
  obtain ⟨hB, ch2, hbt, rfl⟩ := hq.elem hy
  simp only [spC] at hat hbt
  have hxy : [x.no, x.item, x.plant, x.ready, x.expiry, x.amount] = [y.no, y.item, y.plant, y.ready, y.expiry, y.amount] → x = y := by
   intro h
   cases x; cases y
   simp_all
  by_cases hk : [x.no, x.item, x.plant, x.ready, x.expiry, x.amount] ≠ [y.no, y.item, y.plant, y.ready, y.expiry, y.amount]
  ·(refine rQ ?_)
   (((apply Tr.draw); (kernel_rfl)); (refine tkQ 0 (hB := by exact fun _ h => h) (s := by exact Stab.move rfl) ?_); (refine tkQ 1 (s := by exact Stab.move rfl) ?_); (refine tkQ 4 (s := by exact Stab.move rfl) ?_); (refine tkQ 5 (s := by exact Stab.move rfl) ?_); (refine tkQ 2 (s := by exact sxQ) ?_); (refine tkQ 6 (s := by exact sxQ) ?_); (refine tkQ 3 (s := by exact Stab.loadMA rfl (tysOk.get rfl) rfl (by assumption) (by first | rfl | assumption)) ?_); (refine tkQ 7 (s := by exact Stab.loadMA rfl (tysOk.get rfl) rfl (by assumption) (by first | rfl | assumption)) ?_); (refine tkQ 8 (s := by exact Stab.stneL rfl rfl (by repeat (first | exact IntsL.nil | apply IntsL.cons)) (by repeat (first | exact IntsL.nil | apply IntsL.cons)) (tysOk.get rfl) rfl (by kernel_rfl) (by kernel_rfl) rfl rfl) ?_); (refine TrA.done (by kernel_rfl) ?_))
   (refine rQ ?_)
   (refine dnQ (hL := by exact ⟨[], rfl⟩) ⟨rfl, ?_⟩)
   exact ⟨by rw [decide_eq_false (fun h => by rw [h, hy] at hx; cases hx; exact hk rfl)]; rfl, rfl⟩
  ·(refine rQ ?_)
   (((apply Tr.draw); (kernel_rfl)); (refine tkQ 0 (hB := by exact fun _ h => h) (s := by exact Stab.move rfl) ?_); (refine tkQ 1 (s := by exact Stab.move rfl) ?_); (refine tkQ 4 (s := by exact Stab.move rfl) ?_); (refine tkQ 5 (s := by exact Stab.move rfl) ?_); (refine tkQ 2 (s := by exact sxQ) ?_); (refine tkQ 6 (s := by exact sxQ) ?_); (refine tkQ 3 (s := by exact Stab.loadMA rfl (tysOk.get rfl) rfl (by assumption) (by first | rfl | assumption)) ?_); (refine tkQ 7 (s := by exact Stab.loadMA rfl (tysOk.get rfl) rfl (by assumption) (by first | rfl | assumption)) ?_); (refine tkQ 8 (s := by exact Stab.stneL rfl rfl (by repeat (first | exact IntsL.nil | apply IntsL.cons)) (by repeat (first | exact IntsL.nil | apply IntsL.cons)) (tysOk.get rfl) rfl (by kernel_rfl) (by kernel_rfl) rfl rfl) ?_); (refine TrA.done (by kernel_rfl) ?_))
   (repeat (first | ((with_reducible refine Tr.step rfl ?_); (first | (refine xmQ ?_) | (refine xaQ ?_) | (refine xdQ ?_))) | (with_reducible first | apply Tr.next | apply Tr.region | apply Tr.nil | apply Tr.skip | apply Tr.in_normal) | (refine Tr.cond_f rfl (by (with_reducible assumption)) ?_)))
   refine Tr.again (i + 1) ⟨by omega, by rw [List.take_add_one, List.take_add_one, hx, hy, heq, hxy (Classical.not_not.1 hk)]⟩ (by omega) hsQ
 ·have e : i = p.length := by omega
  subst e
  rw [List.take_length, hl, List.take_length] at heq
  (refine rQ ?_)
  (refine dnQ (hL := by exact ⟨[], rfl⟩) ⟨rfl, ?_⟩)
  exact ⟨by rw [decide_eq_true heq]; rfl, rfl⟩
end Go.Proofs.YtmikfjcdgkopkaaGreat

/-
 Promises: comparisons of tables.
 Conditions: none.
-/
namespace Go.Proofs.YtmikfjcdgkopkaaGreat
open Go Bf
attribute [local irreducible] Tr Exec Stab HasTy Go.Addr.add IntKind.wrap
theorem sameRow_fn (M : Mem) (p q : List Bool) (A B : Option Addr) (c k : Nat) (hp : SlOf 1 RBo M (.slice A p.length c) p) (hq : SlOf 1 RBo M (.slice B q.length k) q) : Fn0 Tryz.prog 85 [.slice A p.length c, .slice B q.length k] M (fun r M' => r = .bool (decide (p = q)) ∧ M = M') := by
 have l1 := hp.len_le
 have l2 := hq.len_le
 refine Fn.intro Tryz.func85 rfl rfl Tryz.ntmps85 rfl fun E F => ?_
 by_cases hl : p.length = q.length
 rotate_left
 ·(refine rQ ?_)
  (refine dnQ (hL := by exact ⟨[], rfl⟩) ⟨rfl, ?_⟩)
  exact ⟨by rw [decide_eq_false (fun h => hl (congrArg _ h))]; rfl, rfl⟩
 (repeat (first | ((with_reducible refine Tr.step rfl ?_); (first | (refine xmQ ?_) | (refine xaQ ?_) | (refine xnQ ?_) | (refine xiQ ?_))) | (with_reducible first | apply Tr.next | apply Tr.seq | apply Tr.region | apply Tr.nil | apply Tr.skip | apply Tr.block) | (refine Tr.cond_f rfl (by omega) ?_)))
 refine Tr.loop (α := Nat) (fun i => ⟨26, [(5, .int .i64 (i : Int)), (0, .slice A p.length c), (1, .slice B q.length k)], [], M, [] ++ F⟩) (fun i => i ≤ p.length ∧ p.take i = q.take i) (fun i => p.length - i) 0 ⟨by simp, by simp⟩ hsQ (fun i hi => ?_)
 obtain ⟨hi, heq⟩ := hi
 by_cases hlt : i < p.length
 ·obtain ⟨x, hx⟩ := get_of_lt hlt
  obtain ⟨y, hy⟩ := get_of_lt (xs := q) (i := i) (by omega)
  obtain ⟨hA, ch1, hat, rfl⟩ := hp.elem hx
  obtain ⟨hB, ch2, hbt, rfl⟩ := hq.elem hy
  by_cases hk : x = y
  ·subst hk
   (refine rQ ?_)
   (((apply Tr.draw); (kernel_rfl)); (refine tkQ 0 (hB := by exact fun _ h => h) (s := by exact Stab.move rfl) ?_); (refine tkQ 1 (s := by exact Stab.move rfl) ?_); (refine tkQ 4 (s := by exact Stab.move rfl) ?_); (refine tkQ 5 (s := by exact Stab.move rfl) ?_); (refine tkQ 2 (s := by exact sxQ) ?_); (refine tkQ 6 (s := by exact sxQ) ?_); (refine tkQ 3 (s := by exact sMQ) ?_); (refine tkQ 7 (s := by exact sMQ) ?_); (refine tkQ 8 (s := by exact Stab.boolne rfl rfl (tysOk.get rfl) rfl) ?_); (refine TrA.done (by kernel_rfl) ?_))
   (refine rQ ?_)
   refine Tr.again (i + 1) ⟨by omega, by rw [List.take_add_one, List.take_add_one, hx, hy, heq]⟩ (by omega) hsQ
  ·(refine rQ ?_)
   (((apply Tr.draw); (kernel_rfl)); (refine tkQ 0 (hB := by exact fun _ h => h) (s := by exact Stab.move rfl) ?_); (refine tkQ 1 (s := by exact Stab.move rfl) ?_); (refine tkQ 4 (s := by exact Stab.move rfl) ?_); (refine tkQ 5 (s := by exact Stab.move rfl) ?_); (refine tkQ 2 (s := by exact sxQ) ?_); (refine tkQ 6 (s := by exact sxQ) ?_); (refine tkQ 3 (s := by exact sMQ) ?_); (refine tkQ 7 (s := by exact sMQ) ?_); (refine tkQ 8 (s := by exact Stab.boolne rfl rfl (tysOk.get rfl) rfl) ?_); (refine TrA.done (by kernel_rfl) ?_))
   (refine rQ ?_)
   (refine dnQ (hL := by exact ⟨[], rfl⟩) ⟨rfl, ?_⟩)
   exact ⟨by rw [decide_eq_false (fun h => by rw [h, hy] at hx; cases hx; exact hk rfl)]; rfl, rfl⟩
 ·have e : i = p.length := by omega
  subst e
  rw [List.take_length, hl, List.take_length] at heq
  (refine rQ ?_)
  (refine dnQ (hL := by exact ⟨[], rfl⟩) ⟨rfl, ?_⟩)
  exact ⟨by rw [decide_eq_true heq]; rfl, rfl⟩
theorem sameTab_fn (M : Mem) (p q : List (List Bool)) (A B : Option Addr) (c k : Nat) (hp : SlOf 1 RRowB M (.slice A p.length c) p) (hq : SlOf 1 RRowB M (.slice B q.length k) q) : Fn0 Tryz.prog 43 [.slice A p.length c, .slice B q.length k] M (fun r M' => r = .bool (decide (p = q)) ∧ M = M') := by
 have l1 := hp.len_le
 have l2 := hq.len_le
 refine Fn.intro Tryz.func43 rfl rfl Tryz.ntmps43 rfl fun E F => ?_
 by_cases hl : p.length = q.length
 rotate_left
 ·(refine rQ ?_)
  (refine dnQ (hL := by exact ⟨[], rfl⟩) ⟨rfl, ?_⟩)
  exact ⟨by rw [decide_eq_false (fun h => hl (congrArg _ h))]; rfl, rfl⟩
 (repeat (first | ((with_reducible refine Tr.step rfl ?_); (first | (refine xmQ ?_) | (refine xaQ ?_) | (refine xnQ ?_) | (refine xiQ ?_))) | (with_reducible first | apply Tr.next | apply Tr.seq | apply Tr.region | apply Tr.nil | apply Tr.skip | apply Tr.block) | (refine Tr.cond_f rfl (by omega) ?_)))
 refine Tr.loop (α := Nat) (fun i => ⟨27, [(5, .int .i64 (i : Int)), (0, .slice A p.length c), (1, .slice B q.length k)], [], M, [] ++ F⟩) (fun i => i ≤ p.length ∧ p.take i = q.take i) (fun i => p.length - i) 0 ⟨by simp, by simp⟩ hsQ (fun i hi => ?_)
 obtain ⟨hi, heq⟩ := hi
 by_cases hlt : i < p.length
 ·obtain ⟨x, hx⟩ := get_of_lt hlt
  obtain ⟨y, hy⟩ := get_of_lt (xs := q) (i := i) (by omega)
  obtain ⟨hA, ch1, hat, rA, ra, rfl, hxr⟩ := hp.elem hx
  obtain ⟨hB, ch2, hbt, rB, rb, rfl, hyr⟩ := hq.elem hy
  (refine rQ ?_)
  (((apply Tr.draw); (kernel_rfl)); (refine tkQ 0 (hB := by exact fun _ h => h) (s := by exact Stab.move rfl) ?_); (refine tkQ 1 (s := by exact Stab.move rfl) ?_); (refine tkQ 4 (s := by exact Stab.move rfl) ?_); (refine tkQ 5 (s := by exact Stab.move rfl) ?_); (refine tkQ 2 (s := by exact sxQ) ?_); (refine tkQ 6 (s := by exact sxQ) ?_); (refine tkQ 3 (s := by exact sMQ) ?_); (refine tkQ 7 (s := by exact sMQ) ?_); (refine TrA.eff 8 rfl (by kernel_rfl) (by exact .inl rfl) ?_))
  refine Exec.call0 rfl (sameRow_fn M x y rA rB ra rb hxr hyr) rfl ?_
  rintro _ _ hm9 ⟨rfl, rfl⟩
  refine ⟨hm9, (by exact fun _ h => h), ?_⟩
  by_cases hk : x = y
  ·subst hk
   rw [decide_eq_true rfl]
   ((refine tkQ 9 (s := by exact Stab.not rfl) ?_); (refine TrA.done (by kernel_rfl) ?_))
   (refine rQ ?_)
   refine Tr.again (i + 1) ⟨by omega, by rw [List.take_add_one, List.take_add_one, hx, hy, heq]⟩ (by omega) hsQ
  ·rw [decide_eq_false hk]
   ((refine tkQ 9 (s := by exact Stab.not rfl) ?_); (refine TrA.done (by kernel_rfl) ?_))
   (refine rQ ?_)
   (refine dnQ (hL := by exact ⟨[], rfl⟩) ⟨rfl, ?_⟩)
   exact ⟨by rw [decide_eq_false (fun h => by rw [h, hy] at hx; cases hx; exact hk rfl)]; rfl, rfl⟩
 ·have e : i = p.length := by omega
  subst e
  rw [List.take_length, hl, List.take_length] at heq
  (refine rQ ?_)
  (refine dnQ (hL := by exact ⟨[], rfl⟩) ⟨rfl, ?_⟩)
  exact ⟨by rw [decide_eq_true heq]; rfl, rfl⟩
end Go.Proofs.YtmikfjcdgkopkaaGreat

/-
 Promises: are two books equal?
 Conditions: none.
-/
namespace Go.Proofs.YtmikfjcdgkopkaaGreat
open Go Bf
attribute [local irreducible] Tr Exec Stab HasTy Go.Addr.add IntKind.wrap
set_option maxHeartbeats 8000000 in
theorem sameB_fn (M : Mem) (u v : Value) (k l : Bp) (hk : RBp M u k) (hl : RBp M v l) : Fn0 Tryz.prog 16 [u, v] M (fun r M' => (∃ q : Bool, r = .bool q ∧ (q = true ↔ k = l)) ∧ M = M') := by
 obtain ⟨As, cs, Ar, cr, Af, cf, Ad, cd, rfl, h1, h2, h3, h4⟩ := hk
 obtain ⟨As', cs', Ar', cr', Af', cf', Ad', cd', rfl, g1, g2, g3, g4⟩ := hl
 have l2 := h2.len_le
 have l2' := g2.len_le
 refine Fn.intro Tryz.func16 rfl rfl Tryz.ntmps16 rfl fun E F => ?_
 by_cases e1 : k.known = l.known
 rotate_left
 ·(repeat (first | ((with_reducible refine Tr.step rfl ?_); (first | (refine xmQ ?_) | (refine xaQ ?_) | (refine xlQ ?_) | (refine xfQ ?_) | (refine xiQ ?_) | ((with_reducible refine Knd.pick ?_); (first | (refine Exec.stab rfl (Stab.pick_t rfl (by (with_reducible rfl)) rfl) rfl ?_) | (refine Exec.stab rfl (Stab.pick_td rfl (by (with_reducible assumption)) rfl) rfl ?_))) | ((with_reducible refine Knd.box ?_); (refine Exec.box rfl rfl (fun b => ?_))))) | (with_reducible first | apply Tr.next | apply Tr.seq | apply Tr.region | apply Tr.nil) | (refine Tr.guard_s0 rfl rfl rfl (by (with_reducible rfl)) rfl rfl ?_) | (refine Tr.guard_n' rfl rfl rfl (by (with_reducible assumption)) rfl rfl ?_) | (with_reducible first | apply Tr.ret | apply Tr.then_ret) | (refine Tr.cond_bt rfl (by (with_reducible rfl)) ?_)))
  (refine dnQ (hL := by exact ⟨[_, _], rfl⟩) ⟨rfl, ?_⟩)
  exact ⟨⟨_, rfl, fun h => (by cases h), fun h => absurd (congrArg Bp.known h) e1⟩, rfl⟩
 (repeat (first | ((with_reducible refine Tr.step rfl ?_); (first | (refine xmQ ?_) | (refine xaQ ?_) | (refine xlQ ?_) | (refine xfQ ?_) | (refine xiQ ?_) | ((with_reducible refine Knd.box ?_); (refine Exec.box rfl rfl (fun b => ?_))))) | (with_reducible first | apply Tr.next | apply Tr.seq | apply Tr.region | apply Tr.nil) | ((refine Tr.guard_y' rfl rfl rfl (by omega) ?_); (first | (refine xlQ ?_) | (refine xfQ ?_)))))
 rename_i b2
 generalize b = b3
 ((refine Tr.guard_y' rfl rfl rfl (by omega) ?_)); refine Exec.call0 rfl (sameSups_fn M k.sups l.sups As As' cs cs' h1 g1) rfl ?_
 rintro _ _ _ ⟨rfl, rfl⟩
 by_cases e2 : k.sups = l.sups
 rotate_left
 ·rw [decide_eq_false e2]
  (refine rQ ?_)
  (refine dnQ (hL := by exact ⟨[_, _], rfl⟩) ⟨rfl, ?_⟩)
  exact ⟨⟨_, rfl, fun h => (by cases h), fun h => absurd (congrArg Bp.sups h) e2⟩, rfl⟩
 rw [decide_eq_true e2]
 by_cases e3 : k.reqs.length = l.reqs.length
 rotate_left
 ·(refine rQ ?_)
  (refine dnQ (hL := by exact ⟨[_, _], rfl⟩) ⟨rfl, ?_⟩)
  exact ⟨⟨_, rfl, fun h => (by cases h), fun h => absurd (congrArg (fun x : Bp => x.reqs.length) h) e3⟩, rfl⟩
 (refine rQ ?_)
 ((refine Tr.guard_y' rfl rfl rfl (by omega) ?_)); refine Exec.call0 rfl (sameTab_fn M k.fits l.fits Af Af' cf cf' h3 g3) rfl ?_
 rintro _ _ _ ⟨rfl, rfl⟩
 by_cases e4 : k.fits = l.fits
 rotate_left
 ·rw [decide_eq_false e4]
  (refine rQ ?_)
  (refine dnQ (hL := by exact ⟨[_, _], rfl⟩) ⟨rfl, ?_⟩)
  exact ⟨⟨_, rfl, fun h => (by cases h), fun h => absurd (congrArg Bp.fits h) e4⟩, rfl⟩
 rw [decide_eq_true e4]
 (refine rQ ?_)
 ((refine Tr.guard_l rfl rfl rfl (by (with_reducible exact Bool.not_true)) ?_)); refine Exec.call0 rfl (sameReads_fn M k.rds l.rds Ad Ad' cd cd' h4 g4) rfl ?_
 rintro _ _ _ ⟨rfl, rfl⟩
 by_cases e5 : k.rds = l.rds
 rotate_left
 ·rw [decide_eq_false e5]
  (refine rQ ?_)
  (refine dnQ (hL := by exact ⟨[_, _], rfl⟩) ⟨rfl, ?_⟩)
  exact ⟨⟨_, rfl, fun h => (by cases h), fun h => absurd (congrArg Bp.rds h) e5⟩, rfl⟩
 rw [decide_eq_true e5]
 (refine rQ ?_)
 refine Tr.loop (α := Nat) (fun i => ⟨62, [(5, .int .i64 (i : Int)), (2, .pointer (some ⟨b2, 0, none⟩)), (3, .pointer (some ⟨b3, 0, none⟩))], [], M, box b3 44 [.int .i64 l.known, .slice As' l.sups.length cs', .slice Ar' l.reqs.length cr', .slice Af' l.fits.length cf', .slice Ad' l.rds.length cd'] :: box b2 44 [.int .i64 k.known, .slice As k.sups.length cs, .slice Ar k.reqs.length cr, .slice Af k.fits.length cf, .slice Ad k.rds.length cd] :: ([] ++ F)⟩) (fun i => i ≤ k.reqs.length ∧ k.reqs.take i = l.reqs.take i) (fun i => k.reqs.length - i) 0 ⟨by simp, by simp⟩ hsQ (fun i hi => ?_)
 obtain ⟨hi, heq⟩ := hi
 by_cases hlt : i < k.reqs.length
 ·obtain ⟨x, hx⟩ := get_of_lt hlt
  obtain ⟨y, hy⟩ := get_of_lt (xs := l.reqs) (i := i) (by omega)
  obtain ⟨hA, ch1, hat, rfl⟩ := h2.elem hx
  obtain ⟨hB, ch2, hbt, rfl⟩ := g2.elem hy
  simp only [rqC] at hat hbt
  have hxy : [x.no, x.item, x.cust, x.due, x.shelf, x.amount] = [y.no, y.item, y.cust, y.due, y.shelf, y.amount] → x = y := by
   intro h
   cases x; cases y
   simp_all
  by_cases hk : [x.no, x.item, x.cust, x.due, x.shelf, x.amount] ≠ [y.no, y.item, y.cust, y.due, y.shelf, y.amount]
  ·(refine rQ ?_)
   (((apply Tr.draw); (kernel_rfl)); (refine tkQ 0 (hB := by exact fun _ h => h) (s := by exact sfQ) ?_); (refine tkQ 2 (s := by exact Stab.move rfl) ?_); (refine tkQ 5 (s := by exact sfQ) ?_); (refine tkQ 7 (s := by exact Stab.move rfl) ?_); (refine tkQ 1 (s := by exact slQ) ?_); (refine tkQ 6 (s := by exact slQ) ?_); (refine tkQ 3 (s := by exact sxQ) ?_); (refine tkQ 8 (s := by exact sxQ) ?_); (refine tkQ 4 (s := by exact Stab.loadMA rfl (tysOk.get rfl) rfl (by assumption) (by first | rfl | assumption)) ?_); (refine tkQ 9 (s := by exact Stab.loadMA rfl (tysOk.get rfl) rfl (by assumption) (by first | rfl | assumption)) ?_); (refine tkQ 10 (s := by exact Stab.stneL rfl rfl (by repeat (first | exact IntsL.nil | apply IntsL.cons)) (by repeat (first | exact IntsL.nil | apply IntsL.cons)) (tysOk.get rfl) rfl (by kernel_rfl) (by kernel_rfl) rfl rfl) ?_); (refine TrA.done (by kernel_rfl) ?_))
   (refine rQ ?_)
   (refine dnQ (hL := by exact ⟨[_, _], rfl⟩) ⟨rfl, ?_⟩)
   exact ⟨⟨_, rfl, fun h => (by cases h), fun h => by subst h; rw [hy] at hx; cases hx; exact absurd rfl hk⟩, rfl⟩
  ·(refine rQ ?_)
   (((apply Tr.draw); (kernel_rfl)); (refine tkQ 0 (hB := by exact fun _ h => h) (s := by exact sfQ) ?_); (refine tkQ 2 (s := by exact Stab.move rfl) ?_); (refine tkQ 5 (s := by exact sfQ) ?_); (refine tkQ 7 (s := by exact Stab.move rfl) ?_); (refine tkQ 1 (s := by exact slQ) ?_); (refine tkQ 6 (s := by exact slQ) ?_); (refine tkQ 3 (s := by exact sxQ) ?_); (refine tkQ 8 (s := by exact sxQ) ?_); (refine tkQ 4 (s := by exact Stab.loadMA rfl (tysOk.get rfl) rfl (by assumption) (by first | rfl | assumption)) ?_); (refine tkQ 9 (s := by exact Stab.loadMA rfl (tysOk.get rfl) rfl (by assumption) (by first | rfl | assumption)) ?_); (refine tkQ 10 (s := by exact Stab.stneL rfl rfl (by repeat (first | exact IntsL.nil | apply IntsL.cons)) (by repeat (first | exact IntsL.nil | apply IntsL.cons)) (tysOk.get rfl) rfl (by kernel_rfl) (by kernel_rfl) rfl rfl) ?_); (refine TrA.done (by kernel_rfl) ?_))
   (repeat (first | ((with_reducible refine Tr.step rfl ?_); (first | (refine xmQ ?_) | (refine xaQ ?_) | (refine xdQ ?_))) | (with_reducible first | apply Tr.next | apply Tr.region | apply Tr.nil | apply Tr.skip | apply Tr.in_normal) | (refine Tr.cond_f rfl (by (with_reducible assumption)) ?_)))
   refine Tr.again (i + 1) ⟨by omega, by rw [List.take_add_one, List.take_add_one, hx, hy, heq, hxy (Classical.not_not.1 hk)]⟩ (by omega) hsQ
 ·have e : i = k.reqs.length := by omega
  subst e
  rw [List.take_length, e3, List.take_length] at heq
  (refine rQ ?_)
  (refine dnQ (hL := by exact ⟨[_, _], rfl⟩) ⟨rfl, ?_⟩)
  exact ⟨⟨_, rfl, fun _ => by cases k; cases l; simp_all, fun _ => rfl⟩, rfl⟩
end Go.Proofs.YtmikfjcdgkopkaaGreat

/-
 Refusals: books that are small, lists that are equal.
 Conditions: none.
-/
namespace Go.Proofs.YtmikfjcdgkopkaaGreat
open Go Bf
attribute [local irreducible] Tr Exec Stab HasTy Go.Addr.add IntKind.wrap
structure FewB (w : Wd) (k : Bp) : Prop where
 fa : w.facts.length ≤ 30
 sw : w.swaps.length ≤ 12
 sl : k.sups.length ≤ 5
 rl : k.reqs.length ≤ 5
 fl : k.fits.length ≤ 12
 rows : ∀ x ∈ k.fits, x.length ≤ 12
 rd : k.rds.length ≤ 60
theorem few04_fn (M : Mem) (A : Option Addr) (n c : Nat) : Fn0 Tryz.prog 74 [.slice A n c] M (fun r M' => (∃ b : Bool, r = .bool b ∧ (b = true → n ≤ 30)) ∧ M = M') := by
 refine Fn.intro Tryz.func74 rfl rfl Tryz.ntmps74 rfl fun E F => ?_
 by_cases h : n ≤ 30
 ·(repeat (first | ((with_reducible refine Tr.step rfl ?_); (first | (refine xmQ ?_) | (refine xaQ ?_) | (refine xnQ ?_) | (refine xiQ ?_))) | (with_reducible first | apply Tr.next | apply Tr.seq | apply Tr.region | apply Tr.nil | apply Tr.ret)))
  (refine dnQ (hL := by exact ⟨[], rfl⟩) ⟨rfl, ?_⟩)
  exact ⟨⟨true, by rw [decide_eq_true (by omega)]; rfl, fun _ => h⟩, rfl⟩
 ·(repeat (first | ((with_reducible refine Tr.step rfl ?_); (first | (refine xmQ ?_) | (refine xaQ ?_) | (refine xnQ ?_) | (refine xiQ ?_))) | (with_reducible first | apply Tr.next | apply Tr.seq | apply Tr.region | apply Tr.nil | apply Tr.ret)))
  (refine dnQ (hL := by exact ⟨[], rfl⟩) ⟨rfl, ?_⟩)
  exact ⟨⟨false, by rw [decide_eq_false (by omega)]; rfl, fun h => (by cases h)⟩, rfl⟩
set_option maxHeartbeats 2000000 in
theorem few29_fn (M : Mem) (ws : List Value) (w : Wd) (hw : RWd M ws w) (A B : Option Addr) (n c m k : Nat) : Fn0 Tryz.prog 31 [.agg ws.toArray, .slice A n c, .slice B m k] M (fun r M' => (∃ b : Bool, r = .bool b ∧ (b = true → w.facts.length ≤ 30 ∧ w.swaps.length ≤ 12)) ∧ M = M') := by
 obtain ⟨h11, hone, ⟨A7, c7, h7, -⟩, A10, c10, h10, -⟩ := hw
 refine Fn.intro Tryz.func31 rfl rfl Tryz.ntmps31 rfl fun E F => ?_
 (repeat (first | ((with_reducible refine Tr.step rfl ?_); (first | (refine xaQ ?_) | ((with_reducible refine Knd.load ?_); (refine Exec.stab rfl (Stab.load rfl (tysOk.get rfl) rfl (by repeat (first | exact Has.here | apply Has.there)) (by assumption)) rfl ?_)) | (refine xfQ ?_) | ((with_reducible refine Knd.box ?_); (refine Exec.box rfl rfl (fun b => ?_))))) | (with_reducible first | apply Tr.next | apply Tr.seq | apply Tr.region | apply Tr.nil)))
 ((refine Tr.step rfl ?_)); refine Exec.call0 rfl (few04_fn M A10 w.facts.length c10) rfl ?_
 rintro _ _ _ ⟨⟨b, rfl, hb⟩, rfl⟩
 cases b with
 | false =>
  (refine rQ ?_)
  (refine dnQ (hL := by exact ⟨[_], rfl⟩) ⟨rfl, ?_⟩)
  exact ⟨⟨false, rfl, fun h => (by cases h)⟩, rfl⟩
 | true =>
 by_cases h1 : w.swaps.length ≤ 12
 rotate_left
 ·(repeat (first | ((with_reducible refine Tr.step rfl ?_); (first | (refine xmQ ?_) | (refine xaQ ?_) | ((with_reducible refine Knd.pick ?_); (first | (refine Exec.stab rfl (Stab.pick_t rfl (by (with_reducible rfl)) rfl) rfl ?_) | (refine Exec.stab rfl (Stab.pick_f rfl (by (with_reducible rfl)) rfl) rfl ?_) | (refine Exec.stab rfl (Stab.pick_fd rfl (by omega) rfl) rfl ?_))))) | (with_reducible first | apply Tr.next | apply Tr.nil) | ((refine Tr.guard_l rfl rfl rfl (by (with_reducible rfl)) ?_); (first | ((with_reducible refine Knd.load ?_); (refine Exec.stab rfl (Stab.load rfl (tysOk.get rfl) rfl (by repeat (first | exact Has.here | apply Has.there)) (by assumption)) rfl ?_)) | (refine xfQ ?_) | (refine xnQ ?_) | (refine xiQ ?_))) | (refine Tr.guard_s1 rfl rfl rfl (by (with_reducible rfl)) rfl rfl ?_) | (refine Tr.guard_n rfl rfl rfl (by first | (with_reducible assumption) | omega) rfl rfl ?_) | (with_reducible refine Tr.ret ?_)))
  (refine dnQ (hL := by exact ⟨[_], rfl⟩) ⟨rfl, ?_⟩)
  exact ⟨⟨false, rfl, fun h => (by cases h)⟩, rfl⟩
 by_cases h2 : n ≤ 8
 rotate_left
 ·(repeat (first | ((with_reducible refine Tr.step rfl ?_); (first | (refine xmQ ?_) | (refine xaQ ?_) | ((with_reducible refine Knd.pick ?_); (first | (refine Exec.stab rfl (Stab.pick_t rfl (by (with_reducible rfl)) rfl) rfl ?_) | (refine Exec.stab rfl (Stab.pick_td rfl (by omega) rfl) rfl ?_) | (refine Exec.stab rfl (Stab.pick_fd rfl (by omega) rfl) rfl ?_))))) | (with_reducible first | apply Tr.next | apply Tr.nil) | ((refine Tr.guard_l rfl rfl rfl (by (with_reducible rfl)) ?_); (first | ((with_reducible refine Knd.load ?_); (refine Exec.stab rfl (Stab.load rfl (tysOk.get rfl) rfl (by repeat (first | exact Has.here | apply Has.there)) (by assumption)) rfl ?_)) | (refine xfQ ?_) | (refine xnQ ?_) | (refine xiQ ?_))) | ((refine Tr.guard_y rfl rfl rfl (by first | (with_reducible assumption) | omega) ?_); (first | (refine xmQ ?_) | (refine xnQ ?_) | (refine xiQ ?_))) | (refine Tr.guard_n rfl rfl rfl (by first | (with_reducible assumption) | omega) rfl rfl ?_) | (with_reducible refine Tr.ret ?_)))
  (refine dnQ (hL := by exact ⟨[_], rfl⟩) ⟨rfl, ?_⟩)
  exact ⟨⟨false, rfl, fun h => (by cases h)⟩, rfl⟩
 (repeat (first | ((with_reducible refine Tr.step rfl ?_); (first | (refine xmQ ?_) | (refine xaQ ?_) | ((with_reducible refine Knd.pick ?_); (first | (refine Exec.stab rfl (Stab.pick_t rfl (by (with_reducible rfl)) rfl) rfl ?_) | (refine Exec.stab rfl (Stab.pick_td rfl (by omega) rfl) rfl ?_))))) | (with_reducible first | apply Tr.next | apply Tr.nil) | ((refine Tr.guard_l rfl rfl rfl (by (with_reducible rfl)) ?_); (first | ((with_reducible refine Knd.load ?_); (refine Exec.stab rfl (Stab.load rfl (tysOk.get rfl) rfl (by repeat (first | exact Has.here | apply Has.there)) (by assumption)) rfl ?_)) | (refine xfQ ?_) | (refine xnQ ?_) | (refine xiQ ?_))) | ((refine Tr.guard_y rfl rfl rfl (by first | (with_reducible assumption) | omega) ?_); (first | (refine xmQ ?_) | (refine xnQ ?_) | (refine xiQ ?_))) | (with_reducible refine Tr.ret ?_)))
 (refine dnQ (hL := by exact ⟨[_], rfl⟩) ⟨rfl, ?_⟩)
 exact ⟨⟨_, rfl, fun _ => ⟨hb rfl, h1⟩⟩, rfl⟩
set_option maxHeartbeats 2000000 in
theorem fewTab_fn (M : Mem) (A : Option Addr) (c : Nat) (l : List (List Bool)) (hl : Fits2 M (.slice A l.length c) l) : Fn0 Tryz.prog 32 [.slice A l.length c] M (fun r M' => (∃ b : Bool, r = .bool b ∧ (b = true → l.length ≤ 12 ∧ ∀ x ∈ l, x.length ≤ 12)) ∧ M = M') := by
 have hll := hl.len_le
 refine Fn.intro Tryz.func32 rfl rfl Tryz.ntmps32 rfl fun E F => ?_
 (repeat (first | ((with_reducible refine Tr.step rfl ?_); (with_reducible refine Knd.assign ?_); (refine xaQ ?_)) | (with_reducible first | apply Tr.next | apply Tr.seq | apply Tr.region | apply Tr.nil | apply Tr.block)))
 refine Tr.loop (α := Nat) (fun i => ⟨19, [(3, .int .i64 (i : Int)), (0, .slice A l.length c)], [], M, [] ++ F⟩) (fun i => i ≤ l.length ∧ ∀ x ∈ l.take i, x.length ≤ 12) (fun i => l.length - i) 0 ⟨by simp, by simp⟩ hsQ (fun i hi => ?_)
 obtain ⟨hi, hall⟩ := hi
 by_cases hlt : i < l.length
 ·obtain ⟨x, hx⟩ := get_of_lt hlt
  obtain ⟨hA, ch, hat, B, k, rfl, hB⟩ := hl.elem hx
  by_cases h : x.length ≤ 12
  ·(refine rQ ?_)
   refine Tr.again (i + 1) ⟨hlt, fun y hy => ?_⟩ (by omega) hsQ
   rw [List.take_add_one, hx, List.mem_append] at hy
   rcases hy with hy | hy
   ·exact hall y hy
   ·simp at hy; subst hy; exact h
  ·(refine rQ ?_)
   (refine dnQ (hL := by exact ⟨[], rfl⟩) ⟨rfl, ?_⟩)
   exact ⟨⟨false, rfl, fun h => (by cases h)⟩, rfl⟩
 ·have e : i = l.length := by omega
  subst e
  rw [List.take_length] at hall
  by_cases h : l.length ≤ 12
  ·(refine rQ ?_)
   (refine dnQ (hL := by exact ⟨[], rfl⟩) ⟨rfl, ?_⟩)
   exact ⟨⟨true, by rw [decide_eq_true (by omega)]; rfl, fun _ => ⟨h, hall⟩⟩, rfl⟩
  ·(refine rQ ?_)
   (refine dnQ (hL := by exact ⟨[], rfl⟩) ⟨rfl, ?_⟩)
   exact ⟨⟨false, by rw [decide_eq_false (by omega)]; rfl, fun h => (by cases h)⟩, rfl⟩
set_option maxHeartbeats 4000000 in
theorem few31_fn (M : Mem) (ws : List Value) (w : Wd) (hw : RWd M ws w) (v : Value) (k : Bp) (hk : RBp M v k) : Fn0 Tryz.prog 11 [.agg ws.toArray, v] M (fun r M' => (∃ b : Bool, r = .bool b ∧ (b = true → FewB w k)) ∧ M = M') := by
 have h11 := hw.len
 obtain ⟨As, cs, Ar, cr, Af, cf, Ad, cd, rfl, h1, h2, h3, h4⟩ := hk
 refine Fn.intro Tryz.func11 rfl rfl Tryz.ntmps11 rfl fun E F => ?_
 (repeat (first | ((with_reducible refine Tr.step rfl ?_); (first | (refine xaQ ?_) | ((with_reducible refine Knd.load ?_); (first | (refine xlQ ?_) | (refine Exec.stab rfl (Stab.loadW rfl (tysOk.get rfl) rfl (by repeat (first | exact Has.here | apply Has.there)) (by assumption)) rfl ?_))) | (refine xfQ ?_) | ((with_reducible refine Knd.box ?_); (refine Exec.box rfl rfl (fun b => ?_))))) | (with_reducible first | apply Tr.next | apply Tr.seq | apply Tr.region | apply Tr.nil)))
 ((refine Tr.step rfl ?_)); refine Exec.call0 rfl (few29_fn M ws w hw As Ar k.sups.length cs k.reqs.length cr) rfl ?_
 rintro _ _ _ ⟨⟨b, rfl, hb⟩, rfl⟩
 cases b with
 | false =>
  (refine rQ ?_)
  (refine dnQ (hL := by exact ⟨[_, _], rfl⟩) ⟨rfl, ?_⟩)
  exact ⟨⟨false, rfl, fun h => (by cases h)⟩, rfl⟩
 | true =>
 by_cases e1 : k.sups.length ≤ 5
 rotate_left
 ·(refine rQ ?_)
  (refine dnQ (hL := by exact ⟨[_, _], rfl⟩) ⟨rfl, ?_⟩)
  exact ⟨⟨false, rfl, fun h => (by cases h)⟩, rfl⟩
 by_cases e2 : k.reqs.length ≤ 5
 rotate_left
 ·(refine rQ ?_)
  (refine dnQ (hL := by exact ⟨[_, _], rfl⟩) ⟨rfl, ?_⟩)
  exact ⟨⟨false, rfl, fun h => (by cases h)⟩, rfl⟩
 (refine rQ ?_)
 ((refine Tr.guard_y rfl rfl rfl (by omega) ?_)); refine Exec.call0 rfl (fewTab_fn M Af cf k.fits h3) rfl ?_
 rintro _ _ _ ⟨⟨b, rfl, hb2⟩, rfl⟩
 cases b with
 | false =>
  (refine rQ ?_)
  (refine dnQ (hL := by exact ⟨[_, _], rfl⟩) ⟨rfl, ?_⟩)
  exact ⟨⟨false, rfl, fun h => (by cases h)⟩, rfl⟩
 | true =>
 by_cases e3 : k.rds.length ≤ 60
 ·(refine rQ ?_)
  (refine dnQ (hL := by exact ⟨[_, _], rfl⟩) ⟨rfl, ?_⟩)
  exact ⟨⟨true, by rw [decide_eq_true (by omega)]; rfl, fun _ => ⟨(hb rfl).1, (hb rfl).2, e1, e2, (hb2 rfl).1, (hb2 rfl).2, e3⟩⟩, rfl⟩
 ·(refine rQ ?_)
  (refine dnQ (hL := by exact ⟨[_, _], rfl⟩) ⟨rfl, ?_⟩)
  exact ⟨⟨false, by rw [decide_eq_false (by omega)]; rfl, fun h => (by cases h)⟩, rfl⟩
set_option maxHeartbeats 2000000 in
theorem rSameI_fn (M : Mem) (p q : List Int) (A B : Option Addr) (c k : Nat) (hp : SlOf 1 RI M (.slice A p.length c) p) (hq : SlOf 1 RI M (.slice B q.length k) q) : Fn0 Tryz.prog 50 [.slice A p.length c, .slice B q.length k] M (fun r M' => r = .bool (decide (p = q)) ∧ M = M') := by
 have l1 := hp.len_le
 have l2 := hq.len_le
 refine Fn.intro Tryz.func50 rfl rfl Tryz.ntmps50 rfl fun E F => ?_
 by_cases hl : p.length = q.length
 rotate_left
 ·(refine rQ ?_)
  (refine dnQ (hL := by exact ⟨[], rfl⟩) ⟨rfl, ?_⟩)
  exact ⟨by rw [decide_eq_false (fun h => hl (congrArg _ h))]; rfl, rfl⟩
 (repeat (first | ((with_reducible refine Tr.step rfl ?_); (first | (refine xmQ ?_) | (refine xaQ ?_) | (refine xnQ ?_) | (refine xiQ ?_))) | (with_reducible first | apply Tr.next | apply Tr.seq | apply Tr.region | apply Tr.nil | apply Tr.skip | apply Tr.block) | (refine Tr.cond_f rfl (by omega) ?_)))
 refine Tr.loop (α := Nat) (fun i => ⟨26, [(5, .int .i64 (i : Int)), (0, .slice A p.length c), (1, .slice B q.length k)], [], M, [] ++ F⟩) (fun i => i ≤ p.length ∧ p.take i = q.take i) (fun i => p.length - i) 0 ⟨by simp, by simp⟩ hsQ (fun i hi => ?_)
 obtain ⟨hi, heq⟩ := hi
 by_cases hlt : i < p.length
 ·obtain ⟨x, hx⟩ := get_of_lt hlt
  obtain ⟨y, hy⟩ := get_of_lt (xs := q) (i := i) (by omega)
  obtain ⟨hA, ch1, hat, rfl⟩ := hp.elem hx
  obtain ⟨hB, ch2, hbt, rfl⟩ := hq.elem hy
  skip
  by_cases hk : ¬ x = y
  ·(refine rQ ?_)
   (((apply Tr.draw); (kernel_rfl)); (refine tkQ 0 (hB := by exact fun _ h => h) (s := by exact Stab.move rfl) ?_); (refine tkQ 1 (s := by exact Stab.move rfl) ?_); (refine tkQ 4 (s := by exact Stab.move rfl) ?_); (refine tkQ 5 (s := by exact Stab.move rfl) ?_); (refine tkQ 2 (s := by exact sxQ) ?_); (refine tkQ 6 (s := by exact sxQ) ?_); (refine tkQ 3 (s := by exact sMQ) ?_); (refine tkQ 7 (s := by exact sMQ) ?_); (refine tkQ 8 (s := by exact siQ) ?_); (refine TrA.done (by kernel_rfl) ?_))
   (refine rQ ?_)
   (refine dnQ (hL := by exact ⟨[], rfl⟩) ⟨rfl, ?_⟩)
   exact ⟨by rw [decide_eq_false (fun h => by rw [h, hy] at hx; cases hx; exact hk rfl)]; rfl, rfl⟩
  ·(refine rQ ?_)
   (((apply Tr.draw); (kernel_rfl)); (refine tkQ 0 (hB := by exact fun _ h => h) (s := by exact Stab.move rfl) ?_); (refine tkQ 1 (s := by exact Stab.move rfl) ?_); (refine tkQ 4 (s := by exact Stab.move rfl) ?_); (refine tkQ 5 (s := by exact Stab.move rfl) ?_); (refine tkQ 2 (s := by exact sxQ) ?_); (refine tkQ 6 (s := by exact sxQ) ?_); (refine tkQ 3 (s := by exact sMQ) ?_); (refine tkQ 7 (s := by exact sMQ) ?_); (refine tkQ 8 (s := by exact siQ) ?_); (refine TrA.done (by kernel_rfl) ?_))
   (repeat (first | ((with_reducible refine Tr.step rfl ?_); (first | (refine xmQ ?_) | (refine xaQ ?_) | (refine xdQ ?_))) | (with_reducible first | apply Tr.next | apply Tr.region | apply Tr.nil | apply Tr.skip | apply Tr.in_normal) | (refine Tr.cond_f rfl (by (with_reducible assumption)) ?_)))
   refine Tr.again (i + 1) ⟨by omega, by rw [List.take_add_one, List.take_add_one, hx, hy, heq, Classical.not_not.1 hk]⟩ (by omega) hsQ
 ·have e : i = p.length := by omega
  subst e
  rw [List.take_length, hl, List.take_length] at heq
  (refine rQ ?_)
  (refine dnQ (hL := by exact ⟨[], rfl⟩) ⟨rfl, ?_⟩)
  exact ⟨by rw [decide_eq_true heq]; rfl, rfl⟩
end Go.Proofs.YtmikfjcdgkopkaaGreat

/-
 Promises: comparisons of allocations.
 Conditions: none.
-/
namespace Go.Proofs.YtmikfjcdgkopkaaGreat
open Go Bf
attribute [local irreducible] Tr Exec Stab HasTy Go.Addr.add IntKind.wrap
theorem sameI2_fn (M : Mem) (p q : List (List Int)) (A B : Option Addr) (c k : Nat) (hp : SlOf 1 RRowI M (.slice A p.length c) p) (hq : SlOf 1 RRowI M (.slice B q.length k) q) : Fn0 Tryz.prog 49 [.slice A p.length c, .slice B q.length k] M (fun r M' => r = .bool (decide (p = q)) ∧ M = M') := by
 have l1 := hp.len_le
 have l2 := hq.len_le
 refine Fn.intro Tryz.func49 rfl rfl Tryz.ntmps49 rfl fun E F => ?_
 by_cases hl : p.length = q.length
 rotate_left
 ·(refine rQ ?_)
  (refine dnQ (hL := by exact ⟨[], rfl⟩) ⟨rfl, ?_⟩)
  exact ⟨by rw [decide_eq_false (fun h => hl (congrArg _ h))]; rfl, rfl⟩
 (repeat (first | ((with_reducible refine Tr.step rfl ?_); (first | (refine xmQ ?_) | (refine xaQ ?_) | (refine xnQ ?_) | (refine xiQ ?_))) | (with_reducible first | apply Tr.next | apply Tr.seq | apply Tr.region | apply Tr.nil | apply Tr.skip | apply Tr.block) | (refine Tr.cond_f rfl (by omega) ?_)))
 refine Tr.loop (α := Nat) (fun i => ⟨27, [(5, .int .i64 (i : Int)), (0, .slice A p.length c), (1, .slice B q.length k)], [], M, [] ++ F⟩) (fun i => i ≤ p.length ∧ p.take i = q.take i) (fun i => p.length - i) 0 ⟨by simp, by simp⟩ hsQ (fun i hi => ?_)
 obtain ⟨hi, heq⟩ := hi
 by_cases hlt : i < p.length
 ·obtain ⟨x, hx⟩ := get_of_lt hlt
  obtain ⟨y, hy⟩ := get_of_lt (xs := q) (i := i) (by omega)
  obtain ⟨hA, ch1, hat, rA, ra, rfl, hxr⟩ := hp.elem hx
  obtain ⟨hB, ch2, hbt, rB, rb, rfl, hyr⟩ := hq.elem hy
  (refine rQ ?_)
  (((apply Tr.draw); (kernel_rfl)); (refine tkQ 0 (hB := by exact fun _ h => h) (s := by exact Stab.move rfl) ?_); (refine tkQ 1 (s := by exact Stab.move rfl) ?_); (refine tkQ 4 (s := by exact Stab.move rfl) ?_); (refine tkQ 5 (s := by exact Stab.move rfl) ?_); (refine tkQ 2 (s := by exact sxQ) ?_); (refine tkQ 6 (s := by exact sxQ) ?_); (refine tkQ 3 (s := by exact sMQ) ?_); (refine tkQ 7 (s := by exact sMQ) ?_); (refine TrA.eff 8 rfl (by kernel_rfl) (by exact .inl rfl) ?_))
  refine Exec.call0 rfl (rSameI_fn M x y rA rB ra rb hxr hyr) rfl ?_
  rintro _ _ hm9 ⟨rfl, rfl⟩
  refine ⟨hm9, (by exact fun _ h => h), ?_⟩
  by_cases hk : x = y
  ·subst hk
   rw [decide_eq_true rfl]
   ((refine tkQ 9 (s := by exact Stab.not rfl) ?_); (refine TrA.done (by kernel_rfl) ?_))
   (refine rQ ?_)
   refine Tr.again (i + 1) ⟨by omega, by rw [List.take_add_one, List.take_add_one, hx, hy, heq]⟩ (by omega) hsQ
  ·rw [decide_eq_false hk]
   ((refine tkQ 9 (s := by exact Stab.not rfl) ?_); (refine TrA.done (by kernel_rfl) ?_))
   (refine rQ ?_)
   (refine dnQ (hL := by exact ⟨[], rfl⟩) ⟨rfl, ?_⟩)
   exact ⟨by rw [decide_eq_false (fun h => by rw [h, hy] at hx; cases hx; exact hk rfl)]; rfl, rfl⟩
 ·have e : i = p.length := by omega
  subst e
  rw [List.take_length, hl, List.take_length] at heq
  (refine rQ ?_)
  (refine dnQ (hL := by exact ⟨[], rfl⟩) ⟨rfl, ?_⟩)
  exact ⟨by rw [decide_eq_true heq]; rfl, rfl⟩
end Go.Proofs.YtmikfjcdgkopkaaGreat

/-
 Promises: are two answers equal?
 Conditions: none.
-/
namespace Go.Proofs.YtmikfjcdgkopkaaGreat
open Go Bf
attribute [local irreducible] Tr Exec Stab HasTy Go.Addr.add IntKind.wrap
structure An where
 ok : Bool
 am : List (List Int)
 cf : List Int
 rd : List Rd
def RAn (M : Mem) (v : Value) (a : An) : Prop := ∃ A ca B cb D cd, v = .agg #[.bool a.ok, .slice A a.am.length ca, .slice B a.cf.length cb, .slice D a.rd.length cd] ∧ Ints2 M (.slice A a.am.length ca) a.am ∧ Ints M (.slice B a.cf.length cb) a.cf ∧ SlOf 5 RRd M (.slice D a.rd.length cd) a.rd
set_option maxHeartbeats 8000000 in
theorem sameAn_fn (M : Mem) (u v : Value) (k l : An) (hk : RAn M u k) (hl : RAn M v l) : Fn0 Tryz.prog 19 [u, v] M (fun r M' => (∃ q : Bool, r = .bool q ∧ (q = true ↔ k = l)) ∧ M = M') := by
 obtain ⟨A, ca, B, cb, D, cd, rfl, h1, h2, h3⟩ := hk
 obtain ⟨A', ca', B', cb', D', cd', rfl, g1, g2, g3⟩ := hl
 refine Fn.intro Tryz.func19 rfl rfl Tryz.ntmps19 rfl fun E F => ?_
 by_cases e1 : k.ok = l.ok
 rotate_left
 ·(repeat (first | ((with_reducible refine Tr.step rfl ?_); (first | (refine xmQ ?_) | (refine xaQ ?_) | (refine xlQ ?_) | (refine xfQ ?_) | ((with_reducible refine Knd.binOp ?_); (refine Exec.stab rfl (Stab.booleq rfl rfl (tysOk.get rfl) rfl) rfl ?_)) | ((with_reducible refine Knd.pick ?_); (first | (refine Exec.stab rfl (Stab.pick_f rfl (by (with_reducible rfl)) rfl) rfl ?_) | (refine Exec.stab rfl (Stab.pick_fd rfl (by (with_reducible assumption)) rfl) rfl ?_))) | ((with_reducible refine Knd.box ?_); (refine Exec.box rfl rfl (fun b => ?_))))) | (with_reducible first | apply Tr.next | apply Tr.seq | apply Tr.region | apply Tr.nil) | (refine Tr.guard_s1 rfl rfl rfl (by (with_reducible rfl)) rfl rfl ?_) | (refine Tr.guard_n rfl rfl rfl (by (with_reducible assumption)) rfl rfl ?_) | (with_reducible refine Tr.ret ?_)))
  (refine dnQ (hL := by exact ⟨[_, _], rfl⟩) ⟨rfl, ?_⟩)
  exact ⟨⟨_, rfl, fun h => (by cases h), fun h => absurd (congrArg An.ok h) e1⟩, rfl⟩
 (repeat (first | ((with_reducible refine Tr.step rfl ?_); (first | (refine xmQ ?_) | (refine xaQ ?_) | (refine xlQ ?_) | (refine xfQ ?_) | ((with_reducible refine Knd.binOp ?_); (refine Exec.stab rfl (Stab.booleq rfl rfl (tysOk.get rfl) rfl) rfl ?_)) | ((with_reducible refine Knd.box ?_); (refine Exec.box rfl rfl (fun b => ?_))))) | (with_reducible first | apply Tr.next | apply Tr.seq | apply Tr.region | apply Tr.nil) | ((refine Tr.guard_y rfl rfl rfl (by (with_reducible assumption)) ?_); (first | (refine xlQ ?_) | (refine xfQ ?_)))))
 ((refine Tr.guard_y rfl rfl rfl (by (with_reducible assumption)) ?_)); refine Exec.call0 rfl (sameI2_fn M k.am l.am A A' ca ca' h1 g1) rfl ?_
 rintro _ _ _ ⟨rfl, rfl⟩
 by_cases e2 : k.am = l.am
 rotate_left
 ·rw [decide_eq_false e2]
  (refine rQ ?_)
  (refine dnQ (hL := by exact ⟨[_, _], rfl⟩) ⟨rfl, ?_⟩)
  exact ⟨⟨_, rfl, fun h => (by cases h), fun h => absurd (congrArg An.am h) e2⟩, rfl⟩
 rw [decide_eq_true e2]
 (refine rQ ?_)
 ((refine Tr.guard_l rfl rfl rfl (by (with_reducible rfl)) ?_)); refine Exec.call0 rfl (rSameI_fn M k.cf l.cf B B' cb cb' h2 g2) rfl ?_
 rintro _ _ _ ⟨rfl, rfl⟩
 by_cases e3 : k.cf = l.cf
 rotate_left
 ·rw [decide_eq_false e3]
  (refine rQ ?_)
  (refine dnQ (hL := by exact ⟨[_, _], rfl⟩) ⟨rfl, ?_⟩)
  exact ⟨⟨_, rfl, fun h => (by cases h), fun h => absurd (congrArg An.cf h) e3⟩, rfl⟩
 rw [decide_eq_true e3]
 (refine rQ ?_)
 ((refine Tr.guard_l rfl rfl rfl (by (with_reducible rfl)) ?_)); refine Exec.call0 rfl (sameReads_fn M k.rd l.rd D D' cd cd' h3 g3) rfl ?_
 rintro _ _ _ ⟨rfl, rfl⟩
 (repeat (first | ((with_reducible refine Tr.step rfl ?_); (first | (refine xaQ ?_) | ((with_reducible refine Knd.pick ?_); (refine Exec.stab rfl (Stab.pick_t rfl (by (with_reducible rfl)) rfl) rfl ?_)))) | (with_reducible first | apply Tr.next | apply Tr.nil | apply Tr.ret)))
 (refine dnQ (hL := by exact ⟨[_, _], rfl⟩) ⟨rfl, ?_⟩)
 refine ⟨⟨_, rfl, ?_⟩, rfl⟩
 cases k; cases l
 simp_all
end Go.Proofs.YtmikfjcdgkopkaaGreat

/-
 Promises, plain: the laws Again and Earliest.
 Conditions: none.
-/
namespace Go.Proofs.YtmikfjcdgkopkaaGreat
open Go Bf
theorem askE_ok {w : Wd} {k : Bp} {r : Rq} (h : okB w k) (h1 : r.no ∉ k.reqs.map (·.no)) (h2 : okRq r) (h3 : k.reqs.length + 1 ≤ 64) : askE w k r = 0 := by
 rw [askE, if_neg (fun hn => hn h), if_neg h1, if_neg (fun h => h.elim (fun h => h h2) (fun h => by omega))]
theorem ear_before {w : Wd} {k : Bp} {r : Rq} {first d : Int} {ok : Bool} (hE : EarP w k r first ok) (hd : r.due ≤ d) (h1 : d < 1024) (hn : ok = true → d < first) : ¬ canF w k r d := by
 refine no_day (d - r.due).toNat (by omega) fun d' h2 h3 hm => ?_
 rcases hE with ⟨rfl, -, -, hE⟩ | ⟨rfl, -, hE⟩
 ·exact hE d' hm h2 (by have := hn rfl; omega)
 ·exact hE d' hm h2 (by omega)
end Go.Proofs.YtmikfjcdgkopkaaGreat

/-
 Promises, plain: what Ask answers, as one answer; books at another time.
 Conditions: none.
-/
namespace Go.Proofs.YtmikfjcdgkopkaaGreat
open Go Bf
def zA : An := ⟨false, [], [], []⟩
noncomputable def bookP (w : Wd) (k : Bp) (r : Rq) : Bp := open Classical in if askE w k r ≠ 0 then zP else if Feas (pbW w k.known k.sups (k.reqs ++ [r])) then more w k r else k
def AnsP (w : Wd) (k : Bp) (r : Rq) (a : An) : Prop :=
 (askE w k r ≠ 0 ∧ a = zA) ∨ (askE w k r = 0 ∧ Feas (pbW w k.known k.sups (k.reqs ++ [r])) ∧ ∃ al, LexMax (pbW w k.known k.sups (k.reqs ++ [r])) al ∧ a = ⟨true, allocOf al (amR (k.reqs ++ [r])).length (amS k.sups).length, [], readsF w k.sups [r]⟩) ∨ (askE w k r = 0 ∧ ¬ Feas (pbW w k.known k.sups (k.reqs ++ [r])) ∧ a = ⟨false, [], confF w k r, readsF w k.sups [r]⟩)
theorem AnsP.unique {w : Wd} {k : Bp} {r : Rq} {a a' : An} (h : AnsP w k r a) (h' : AnsP w k r a') : a = a' := by
 rcases h with ⟨h1, rfl⟩ | ⟨h1, h2, al, h3, rfl⟩ | ⟨h1, h2, rfl⟩ <;> rcases h' with ⟨g1, rfl⟩ | ⟨g1, g2, bl, g3, rfl⟩ | ⟨g1, g2, rfl⟩
 ·rfl
 ·exact absurd g1 h1
 ·exact absurd g1 h1
 ·exact absurd h1 g1
 ·have : allocOf al (amR (k.reqs ++ [r])).length (amS k.sups).length = allocOf bl (amR (k.reqs ++ [r])).length (amS k.sups).length := allocOf_congr fun i hi j hj => h3.unique g3 i hi j hj
  rw [this]
 ·exact absurd h2 g2
 ·exact absurd h1 g1
 ·exact absurd g2 h2
 ·rfl
def AskW (w : Wd) (k : Bp) (r : Rq) (v : Value) (M : Mem) : Prop := ∃ x a y, v = .tuple #[x, a, .int .i64 (askE w k r)] ∧ RBp M x (bookP w k r) ∧ RAn M a y ∧ AnsP w k r y
theorem RAn.zero (M : Mem) : RAn M (.agg #[.bool false, .slice none 0 0, .slice none 0 0, .slice none 0 0]) zA := ⟨none, 0, none, 0, none, 0, rfl, SlOf.nil _ _ _, SlOf.nil _ _ _, SlOf.nil _ _ _⟩
theorem RAn.mono {M M' : Mem} {v : Value} {k : An} (h : RAn M v k) (hm : Mem.le M M') : RAn M' v k := by
 obtain ⟨A, ca, B, cb, D, cd, rfl, h1, h2, h3⟩ := h
 exact ⟨A, ca, B, cb, D, cd, rfl, h1.mono RRowI.mono hm, h2.mono RI.mono hm, h3.mono RRd.mono hm⟩
theorem AskV.one {w : Wd} {k : Bp} {r : Rq} {v : Value} {M : Mem} (h : AskV w k r v M) : AskW w k r v M := by
 rcases h with ⟨h0, -, x, a, rfl, D, cd, hD, ⟨hF, hx, al, A, c, hl, rfl, hA⟩ | ⟨hF, hx, B, c, rfl, hB⟩⟩ | ⟨hne, rfl⟩
 ·refine ⟨x, _, ⟨true, allocOf al (amR (k.reqs ++ [r])).length (amS k.sups).length, [], readsF w k.sups [r]⟩, by rw [h0]; rfl, ?_, ⟨A, c, none, 0, D, cd, rfl, hA, SlOf.nil _ _ _, hD⟩, .inr (.inl ⟨h0, hF, al, hl, rfl⟩)⟩
  unfold bookP
  rw [if_neg (fun h => h h0), if_pos hF]
  exact hx
 ·refine ⟨x, _, ⟨false, [], confF w k r, readsF w k.sups [r]⟩, by rw [h0]; rfl, ?_, ⟨none, 0, B, c, D, cd, rfl, SlOf.nil _ _ _, hB, hD⟩, .inr (.inr ⟨h0, hF, rfl⟩)⟩
  unfold bookP
  rw [if_neg (fun h => h h0), if_neg hF]
  exact hx
 ·refine ⟨_, _, zA, rfl, ?_, RAn.zero M, .inl ⟨hne, rfl⟩⟩
  unfold bookP
  rw [if_pos hne]
  exact RBp.zero M
def atTime (k : Bp) (t : Int) : Bp := { k with known := t }
theorem atTime_ok {w : Wd} {k : Bp} {t : Int} (h : okB w k) (ha : alikeF w k.rds k.known t) : okB w (atTime k t) := by
 obtain ⟨h1, h2, ⟨h3, h4⟩, h5⟩ := h
 have e : fitsT w t k.sups k.reqs = k.fits := by rw [← h3]; exact (fitsT_alike (by rw [h4]; exact ha)).symm
 exact ⟨h1, h2, ⟨e, h4⟩, h5⟩
theorem atTime_ask {w : Wd} {k : Bp} {r : Rq} {t : Int} (h : okB w k) (ha : alikeF w k.rds k.known t) : askE w (atTime k t) r = askE w k r := by
 unfold askE
 rw [if_neg (not_not_intro h), if_neg (not_not_intro (atTime_ok h ha))]
 rfl
theorem fits_time {w : Wd} {k : Bp} {r : Rq} {t : Int} (h : okB w k) (ha : alikeF w k.rds k.known t) (hr : alikeF w (readsF w k.sups [r]) k.known t) : fitsT w t k.sups (k.reqs ++ [r]) = fitsT w k.known k.sups (k.reqs ++ [r]) := by
 refine (fitsT_alike fun y hy => ?_).symm
 obtain ⟨x, hx, z, hz, hc, rfl⟩ := mem_readsF.1 hy
 rcases List.mem_append.1 hz with hz | hz
 ·refine ha _ ?_
  rw [← h.2.2.1.2]
  exact mem_readsF.2 ⟨x, hx, z, hz, hc, rfl⟩
 ·exact hr _ (mem_readsF.2 ⟨x, hx, z, hz, hc, rfl⟩)
theorem AnsP.time {w : Wd} {k : Bp} {r : Rq} {t : Int} {a a' : An} (h : okB w k) (ha : alikeF w k.rds k.known t) (hr : alikeF w (readsF w k.sups [r]) k.known t) (h1 : AnsP w k r a) (h2 : AnsP w (atTime k t) r a') : a = a' := by
 refine h1.unique ?_
 have e := fits_time (r := r) h ha hr
 have e1 : pbW w (atTime k t).known (atTime k t).sups ((atTime k t).reqs ++ [r]) = pbW w k.known k.sups (k.reqs ++ [r]) := by
  show pbOf (fitsT w t k.sups (k.reqs ++ [r])) _ _ = pbOf _ _ _
  rw [e]; rfl
 have e2 : confF w (atTime k t) r = confF w k r := by
  have h3 : cutB w (atTime k t) r = cutB w k r := by
   show memF (cutFin (fitsT w t k.sups (k.reqs ++ [r])) (amS k.sups) (amR (k.reqs ++ [r]))) _ = _
   rw [e]; rfl
  unfold confF
  rw [h3]; rfl
 unfold AnsP at h2 ⊢
 rw [atTime_ask h ha, e1, e2] at h2
 exact h2
end Go.Proofs.YtmikfjcdgkopkaaGreat

/-
 Matching, plain: the chapter's examples.
 Conditions: none.
-/
namespace Go.Proofs.YtmikfjcdgkopkaaGreat
open Go Bf
theorem possD (fits : List (List Bool)) (sup need : List Int) (set : Nat) : Poss fits sup need set ↔ ∀ s, s ≤ set → (1 ≤ s → s &&& set = s → lackB fits sup need s ≤ 0) := ⟨fun h s h1 h2 h3 => h s h2 h1 h3, fun h s h1 h2 h3 => h s h2 h1 h3⟩
theorem x2_no : ¬ Feas (pbOf [] [] [1]) := by
 rw [feas_poss (vld_iff.1 (by decide)), possD]
 decide
theorem x2_cut : memF (cutFin [] [] [1]) 1 = [0] := by
 have h := memF_bits (fits := []) (sup := []) (need := [1]) (vld_iff.1 (by decide))
 have e : cutOfP [] [] [1] = 1 := by
  unfold cutOfP
  show cutS _ 1 1 = 1
  rw [cutS, if_pos ((possD _ _ _ _).2 (by decide)), cutS]
 rw [e] at h
 exact h
theorem x3_no : ¬ Feas (pbOf [[true, true]] [3] [2, 2]) := by
 rw [feas_poss (vld_iff.1 (by decide)), possD]
 decide
theorem x3_cut : memF (cutFin [[true, true]] [3] [2, 2]) 2 = [0, 1] := by
 have h := memF_bits (fits := [[true, true]]) (sup := [3]) (need := [2, 2]) (vld_iff.1 (by decide))
 have e : cutOfP [[true, true]] [3] [2, 2] = 3 := by
  unfold cutOfP
  show cutS _ 2 3 = 3
  rw [cutS, if_pos ((possD _ _ _ _).2 (by decide)), cutS, if_pos ((possD _ _ _ _).2 (by decide)), cutS]
 rw [e] at h
 exact h
end Go.Proofs.YtmikfjcdgkopkaaGreat

/-
 Promises, plain: the sample of the statements, computed.
 Conditions: none.
-/
namespace Go.Proofs.YtmikfjcdgkopkaaGreat
open Go Bf
def w0 : Wd := ⟨[], []⟩
def k0 : Bp := ⟨1, [], [], [], []⟩
def sA : List Sp := [⟨1, 0, 0, 0, 1024, 1⟩, ⟨1, 0, 0, 2, 1024, 3⟩]
def q40 : Rq := ⟨4, 0, 0, 5, 0, 0⟩
def q41 : Rq := ⟨4, 0, 0, 5, 0, 1⟩
def s7 : List Sp := [⟨1, 0, 0, 7, 1024, 3⟩]
def k7 : Bp := ⟨1, s7, [], [[]], []⟩
def q8 : Rq := ⟨8, 0, 0, 9, 0, 2⟩
def k8 : Bp := ⟨1, s7, [q8], [[true]], [((7, 0, 0), 9, 10)]⟩
def q2 : Rq := ⟨2, 0, 0, 9, 0, 2⟩
def q80 : Rq := ⟨8, 0, 0, 9, 0, 0⟩
def e1 : Rq := ⟨2, 0, 0, 3, 0, 1⟩
def e2 : Rq := ⟨2, 0, 0, 3, 0, 2⟩
theorem k0_mk : mkF w0 (bkN 1 []) [] = k0 := rfl
theorem k7_mk : mkF w0 (bkN 1 s7) [] = k7 := rfl
theorem k8_mk : more w0 k7 q8 = k8 := by
 show mkF w0 k7 [q8] = k8
 unfold mkF k8
 congr 1
theorem k7_drop : dropB w0 k8 8 = k7 := rfl
theorem sA_no : ¬ (sA.map (·.no)).Nodup := by decide
theorem okT_sA : okT sA [] := by decide
theorem okB_k0 : okB w0 k0 := okB_new (known := 1) (s := []) (by decide) (by decide)
theorem okB_k7 : okB w0 k7 := okB_new (known := 1) (s := s7) (by decide) (by decide)
theorem ask_40 : askE w0 k0 q40 = 0 := askE_ok okB_k0 (by decide) (by decide) (by decide)
theorem ask_41 : askE w0 k0 q41 = 0 := askE_ok okB_k0 (by decide) (by decide) (by decide)
theorem fe_40 : Feas (pbW w0 k0.known k0.sups (k0.reqs ++ [q40])) := by
 show Feas (pbOf [] [] [0])
 rw [feas_poss (vld_iff.1 (by decide)), possD]
 decide
theorem fe_41 : ¬ Feas (pbW w0 k0.known k0.sups (k0.reqs ++ [q41])) := x2_no
theorem cf_41 : confF w0 k0 q41 = [4] := by
 have h : cutB w0 k0 q41 = [0] := x2_cut
 unfold confF
 rw [h]
 rfl
theorem ask_8 : askE w0 k7 q8 = 0 := askE_ok okB_k7 (by decide) (by decide) (by decide)
theorem ft_8 : fitsT w0 k7.known k7.sups (k7.reqs ++ [q8]) = [[true]] := by decide
theorem fe_8 : Feas (pbW w0 k7.known k7.sups (k7.reqs ++ [q8])) := by
 unfold pbW
 rw [ft_8]
 show Feas (pbOf [[true]] [3] [2])
 rw [feas_poss (vld_iff.1 (by decide)), possD]
 decide
theorem al_8 {a : Nat → Nat → Int} (h : LexMax (pbW w0 k7.known k7.sups (k7.reqs ++ [q8])) a) : allocOf a (amR (k7.reqs ++ [q8])).length (amS k7.sups).length = [[2]] := by
 unfold pbW at h
 rw [ft_8] at h
 have h3 : (0 : Int) + sumN 1 (fun k => a k 0) = 2 := h.1.col 0 (by decide)
 simp only [sumN] at h3
 have e : a 0 0 = 2 := by omega
 show allocOf a 1 1 = [[2]]
 simp [allocOf, rowOf, List.range_succ, e]
theorem rd_8 : readsF w0 k7.sups [q8] = [((7, 0, 0), 9, 10)] := by decide
theorem okB_k8 : okB w0 k8 := by
 rw [← k8_mk]
 exact okB_more okB_k7 (by decide) (by decide) (by decide) fe_8
theorem ask_2 : askE w0 k8 q2 = 0 := askE_ok okB_k8 (by decide) (by decide) (by decide)
theorem ask_80 : askE w0 k8 q80 = 310 := by
 rw [askE, if_neg (fun h => h okB_k8), if_pos (by decide)]
theorem ft_2 : fitsT w0 k8.known k8.sups (k8.reqs ++ [q2]) = [[true, true]] := by decide
theorem fe_2 : ¬ Feas (pbW w0 k8.known k8.sups (k8.reqs ++ [q2])) := by
 unfold pbW
 rw [ft_2]
 exact x3_no
theorem cf_2 : confF w0 k8 q2 = [8, 2] := by
 have h : cutB w0 k8 q2 = [0, 1] := by
  unfold cutB
  rw [ft_2]
  exact x3_cut
 unfold confF
 rw [h]
 rfl
theorem ask_e1 : askE w0 k8 e1 = 0 := askE_ok okB_k8 (by decide) (by decide) (by decide)
theorem ask_e2 : askE w0 k8 e2 = 0 := askE_ok okB_k8 (by decide) (by decide) (by decide)
theorem fbnd0 : FBnd w0 := ⟨by decide, by simp [w0]⟩
theorem ft_e (r : Rq) (h : r.item = 0) (d : Int) (h1 : r.shelf = 0) : fitsT w0 k8.known k8.sups (k8.reqs ++ [onDay r d]) = [[true, decide (7 ≤ d) && decide (d ≤ 1024)]] := by
 have e : fitF w0 1 ⟨1, 0, 0, 7, 1024, 3⟩ (onDay r d) = (decide (7 ≤ d) && decide (d ≤ 1024)) := by
  unfold fitF couldF refusedF onDay
  simp only [h, h1, Int.add_zero]
  have : usedF w0 0 0 = true := by decide
  have h2 : ∀ (k : Ky) (x : Int), atF w0.facts k x 1 = none := fun _ _ => rfl
  rw [this, h2]
  simp
 show [[fitF w0 1 ⟨1, 0, 0, 7, 1024, 3⟩ q8, fitF w0 1 ⟨1, 0, 0, 7, 1024, 3⟩ (onDay r d)]] = _
 rw [e]
 rfl
theorem x7_no : ¬ Feas (pbOf [[true, false]] [3] [2, 1]) := by
 rw [feas_poss (vld_iff.1 (by decide)), possD]
 decide
theorem x8_no : ¬ Feas (pbOf [[true, false]] [3] [2, 2]) := by
 rw [feas_poss (vld_iff.1 (by decide)), possD]
 decide
theorem x9_yes : Feas (pbOf [[true, true]] [3] [2, 1]) := by
 rw [feas_poss (vld_iff.1 (by decide)), possD]
 decide
theorem can_e1 (d : Int) (hd : d < 1024) : canF w0 k8 e1 d ↔ 7 ≤ d := by
 unfold canF pbW
 rw [ft_e e1 rfl d rfl]
 show Feas (pbOf _ [3] [2, 1]) ↔ _
 by_cases h : 7 ≤ d
 ·rw [decide_eq_true h, decide_eq_true (show d ≤ 1024 by omega)]
  exact ⟨fun _ => h, fun _ => x9_yes⟩
 ·rw [decide_eq_false h, Bool.false_and]
  exact ⟨fun h2 => absurd h2 x7_no, fun h2 => absurd h2 h⟩
theorem can_e2 (d : Int) : ¬ canF w0 k8 e2 d := by
 unfold canF pbW
 rw [ft_e e2 rfl d rfl]
 show ¬ Feas (pbOf _ [3] [2, 2])
 cases (decide (7 ≤ d) && decide (d ≤ 1024)) with
 | false => exact x8_no
 | true => exact x3_no
theorem mat_7 (r : Rq) : matters w0 k8 r 7 := .inr (.inl ⟨⟨1, 0, 0, 7, 1024, 3⟩, by simp [k8, s7], rfl⟩)
theorem ear_e1 {day : Int} {ok : Bool} (h : EarP w0 k8 e1 day ok) : day = 7 ∧ ok = true := by
 rcases h with ⟨rfl, ⟨-, h1⟩, h2, h3⟩ | ⟨rfl, rfl, h3⟩
 ·have h4 := (can_e1 day h1).1 h2
  by_cases e : day = 7
  ·exact ⟨e, rfl⟩
  ·exact absurd ((can_e1 7 (by decide)).2 (by decide)) (h3 7 (mat_7 _) (by decide) (by omega))
 ·exact absurd ((can_e1 7 (by decide)).2 (by decide)) (h3 7 (mat_7 _) (by decide) (by decide))
theorem ear_e2 {day : Int} {ok : Bool} (h : EarP w0 k8 e2 day ok) : day = 0 ∧ ok = false := by
 rcases h with ⟨rfl, -, h2, -⟩ | ⟨rfl, rfl, -⟩
 ·exact absurd h2 (can_e2 day)
 ·exact ⟨rfl, rfl⟩
theorem chk_k8 : chkE w0 k8 = 0 := by rw [chkE, if_pos okB_k8]
def kBad : Bp := ⟨0, [], [⟨1, 0, 0, 1, 0, 1⟩], [], []⟩
theorem chk_bad : chkE w0 kBad = 310 := by
 rw [chkE, if_neg]
 intro h
 have h1 := h.2.2.2
 have : ¬ Feas (pbOf [] [] [1]) := x2_no
 exact this h1
end Go.Proofs.YtmikfjcdgkopkaaGreat

/-
 Promises: the sample of the statements, walked.
 Conditions: none.
-/
namespace Go.Proofs.YtmikfjcdgkopkaaGreat
open Go Bf
attribute [local irreducible] Tr Exec Stab HasTy Go.Addr.add IntKind.wrap
theorem lsupply_fn (M : Mem) (n d a : Int) : Fn0 Tryz.prog 29 [.int .i64 n, .int .i64 d, .int .i64 a] M (fun v M' => v = .agg #[.int .i64 n, .int .i64 0, .int .i64 0, .int .i64 d, .int .i64 1024, .int .i64 a] ∧ M = M') := by
 refine Fn.intro Tryz.func29 rfl rfl Tryz.ntmps29 rfl fun E F => ?_
 (repeat (first | ((with_reducible refine Tr.step rfl ?_); (first | (refine xmQ ?_) | (refine xWQ ?_) | ((with_reducible refine Knd.alloc ?_); (refine Exec.alloc (tysOk.get rfl) rfl rfl (fun b => ?_))) | ((with_reducible refine Knd.build ?_); (refine Exec.stab rfl (Stab.build tysOk rfl rfl rfl rfl (by repeat (first | exact BuildP.nil | ((apply BuildP.one); (rfl); (rfl); (first | rfl | assumption); (repeat (first | exact SetL.z | apply SetL.s)))))) rfl ?_)))) | (with_reducible first | apply Tr.next | apply Tr.seq | apply Tr.region | apply Tr.nil | apply Tr.ret)))
 (refine Tr.done (by first | exact .inl rfl | exact .inr rfl) rfl (by repeat (first | exact RVs.nil | (apply RVs.cons; (exact RV.cellW (by rfl) (tysOk.get (by rfl)) (by rfl) (by repeat (first | exact Has.here | apply Has.there)) (by first | rfl | assumption))))) (by first | exact Mem.le.refl _ | assumption) (by exact ⟨[_], rfl⟩) ⟨rfl, ?_⟩)
 exact ⟨rfl, rfl⟩
theorem lrequest_fn (M : Mem) (n d a : Int) : Fn0 Tryz.prog 30 [.int .i64 n, .int .i64 d, .int .i64 a] M (fun v M' => v = .agg #[.int .i64 n, .int .i64 0, .int .i64 0, .int .i64 d, .int .i64 0, .int .i64 a] ∧ M = M') := by
 refine Fn.intro Tryz.func30 rfl rfl Tryz.ntmps30 rfl fun E F => ?_
 (repeat (first | ((with_reducible refine Tr.step rfl ?_); (first | (refine xmQ ?_) | (refine xWQ ?_) | ((with_reducible refine Knd.alloc ?_); (refine Exec.alloc (tysOk.get rfl) rfl rfl (fun b => ?_))) | ((with_reducible refine Knd.build ?_); (refine Exec.stab rfl (Stab.build tysOk rfl rfl rfl rfl (by repeat (first | exact BuildP.nil | ((apply BuildP.one); (rfl); (rfl); (first | rfl | assumption); (repeat (first | exact SetL.z | apply SetL.s)))))) rfl ?_)))) | (with_reducible first | apply Tr.next | apply Tr.seq | apply Tr.region | apply Tr.nil | apply Tr.ret)))
 (refine Tr.done (by first | exact .inl rfl | exact .inr rfl) rfl (by repeat (first | exact RVs.nil | (apply RVs.cons; (exact RV.cellW (by rfl) (tysOk.get (by rfl)) (by rfl) (by repeat (first | exact Has.here | apply Has.there)) (by first | rfl | assumption))))) (by first | exact Mem.le.refl _ | assumption) (by exact ⟨[_], rfl⟩) ⟨rfl, ?_⟩)
 exact ⟨rfl, rfl⟩
def ws0 : List Value := [.slice none 0 0, .slice none 0 0, .slice none 0 0, .slice none 0 0, .slice none 0 0, .slice none 0 0, .slice none 0 0, .slice none 0 0, .slice none 0 0, .slice none 0 0, .slice none 0 0]
theorem rwd_w0 (M : Mem) : RWd M ws0 w0 :=
 ⟨rfl, by unfold ws0; repeat (first | exact AllOne.nil | refine AllOne.cons (by rfl) ?_), ⟨none, 0, rfl, SlOf.nil _ _ _⟩, none, 0, rfl, SlOf.nil _ _ _⟩
set_option maxHeartbeats 64000000 in
set_option maxRecDepth 20000 in
theorem sane31_fn (M : Mem) : Fn0 Tryz.prog 10 [] M (fun v _ => v = .bool true) := by
 refine Fn.intro Tryz.func10 rfl rfl Tryz.ntmps10 rfl fun E F => ?_
 (repeat (first | ((with_reducible refine Tr.step rfl ?_); (first | (refine xaQ ?_) | (refine xWQ ?_) | ((with_reducible refine Knd.alloc ?_); (refine Exec.alloc (tysOk.get rfl) rfl rfl (fun b => ?_))) | ((with_reducible refine Knd.build ?_); (refine Exec.stab rfl (Stab.build tysOk rfl rfl rfl rfl (by repeat (exact BuildP.nil))) rfl ?_)))) | (with_reducible first | apply Tr.next | apply Tr.seq | apply Tr.region | apply Tr.nil)))
 generalize b = b1
 (((apply Tr.draw); (kernel_rfl)); (refine tkQ 0 (hB := by exact fun _ h => h) (s := by exact swQ) ?_))
 ((refine TrM.start1 _ (by exact PA.alloc 8 rfl (tysOk.get rfl) rfl rfl) (by kernel_rfl) ?_); (refine TrM.eff 1 rfl (by kernel_rfl) (by exact .inl rfl) (by repeat (first | exact PendOk.nil | refine PendOk.cons rfl (by repeat (first | exact SubFr.nil | refine SubFr.cons rfl ?_)) ?_)) (by exact fun _ h => h) (by repeat (first | apply AppF.cons | exact AppF.nil)) (by repeat (first | apply AppF.cons | exact AppF.app)) (fun Y X => ?_)))
 refine Exec.call0 rfl (lsupply_fn M 1 0 1) rfl ?_
 rintro _ _ _ ⟨rfl, rfl⟩
 (refine ⟨_, _, (by repeat (first | apply App.cons | exact App.nil | exact App.app)), (by repeat (first | apply App.cons | exact App.nil | exact App.app)), rfl, (by first | exact Mem.le.refl _ | assumption), (by exact fun _ h => h), ?_⟩)
 ((refine TrM.eff 2 rfl (by kernel_rfl) (by exact .inl rfl) (by repeat (first | exact PendOk.nil | refine PendOk.cons rfl (by repeat (first | exact SubFr.nil | refine SubFr.cons rfl ?_)) ?_)) (by exact fun _ h => h) (by repeat (first | apply AppF.cons | exact AppF.nil)) (by repeat (first | apply AppF.cons | exact AppF.app)) (fun Y X => ?_)))
 refine Exec.call0 rfl (lsupply_fn M 1 2 3) rfl ?_
 rintro _ _ _ ⟨rfl, rfl⟩
 (refine ⟨_, _, (by repeat (first | apply App.cons | exact App.nil | exact App.app)), (by repeat (first | apply App.cons | exact App.nil | exact App.app)), rfl, (by first | exact Mem.le.refl _ | assumption), (by exact fun _ h => h), ?_⟩)
 ((refine TrM.eff 3 rfl (by kernel_rfl) (by exact .inl rfl) (by repeat (first | exact PendOk.nil | refine PendOk.cons rfl (by repeat (first | exact SubFr.nil | refine SubFr.cons rfl ?_)) ?_)) (by exact fun _ h => h) (by repeat (first | apply AppF.cons | exact AppF.nil)) (by repeat (first | apply AppF.cons | exact AppF.app)) (fun Y X => ?_)); (((refine Knd.buildSlice ?_); ((refine Exec.buildSlice (tysOk.get rfl) rfl (tysOk.get rfl) rfl rfl rfl rfl rfl (by repeat (first | exact BuildP.nil | ((apply BuildP.many); (rfl); (rfl); (rfl); (rfl); (repeat (first | exact PutL.nil | ((apply PutL.cons); (repeat (first | exact SetL.z | apply SetL.s)))))))) rfl (fun b => ?_))))); (refine ⟨_, _, (by repeat (first | apply App.cons | exact App.nil | exact App.app)), (by repeat (first | apply App.cons | exact App.nil | exact App.app)), rfl, (by first | exact Mem.le.refl _ | assumption), (by exact (Sub.mem (by repeat (first | exact Sub.refl | apply Sub.cons)))), ?_⟩))
 refine TrM.publish (x := box _ 82 _) (by repeat (first | exact Del.here | apply Del.there)) (fun M1 hM1 hok1 => ?_)
 have hsA : SlOf 6 RSpC M1 (.slice (some ⟨_, 0, none⟩) 2 2) sA := SlOf.ofBoxC (sz := 6) (n := 2) (c := 2) (xs := sA) hok1 rfl rfl (Nat.le_refl _) (by decide) (flatMap_one spC_one sA) (spC_elems M1 sA)
 ((refine TrM.eff 4 rfl (by kernel_rfl) (by exact .inl rfl) (by repeat (first | exact PendOk.nil | refine PendOk.cons rfl (by repeat (first | exact SubFr.nil | refine SubFr.cons rfl ?_)) ?_)) (by exact fun _ h => h) (by repeat (first | apply AppF.cons | exact AppF.nil)) (by repeat (first | apply AppF.cons | exact AppF.app)) (fun Y X => ?_)))
 refine Exec.call0 rfl (new_fn M1 _ w0 (rwd_w0 M1) _ 2 sA hsA 1) rfl ?_
 rintro _ M2 hM2 (⟨hbad, -⟩ | ⟨-, -, rfl⟩ | ⟨-, hbad, -⟩)
 ·exact absurd okT_sA hbad
 rotate_left
 ·exact absurd hbad sA_no
 (refine ⟨_, _, (by repeat (first | apply App.cons | exact App.nil | exact App.app)), (by repeat (first | apply App.cons | exact App.nil | exact App.app)), rfl, (by first | exact Mem.le.refl _ | assumption), (by exact fun _ h => h), ?_⟩)
 ((refine TrM.take 5 (by kernel_rfl) rfl (by kernel_rfl) (by exact fun _ _ _ h => h) (by exact fun _ h => h) rfl (by first | exact Stab.move rfl) rfl rfl ?_); (refine TrM.take 6 (by kernel_rfl) rfl (by kernel_rfl) (by exact fun _ _ _ h => h) (by exact fun _ h => h) rfl (by first | exact Stab.extract rfl rfl) rfl rfl ?_); (refine TrM.take 7 (by kernel_rfl) rfl (by kernel_rfl) (by exact fun _ _ _ h => h) (by exact fun _ h => h) rfl (by first | exact Stab.extract rfl rfl) rfl rfl ?_); (refine TrM.settle (by kernel_rfl) (by repeat (first | exact PendOk.nil | refine PendOk.cons rfl (by repeat (first | exact SubFr.nil | refine SubFr.cons rfl ?_)) ?_)) (by exact fun _ h => h) (fun b => ?_)); dsimp only; (refine TrM.fin ?_))
 ((refine TrA.eff 9 rfl (by kernel_rfl) (by exact .inl rfl) ?_); (((refine Knd.store ?_); ((refine xWQ ?_)))); (refine ⟨(by first | exact Mem.le.refl _ | assumption), (by exact (Sub.mem (by repeat (first | exact Sub.refl | apply Sub.cons)))), ?_⟩); (refine tkQ 10 (s := by exact Stab.assign rfl) ?_); (refine TrA.done (by kernel_rfl) ?_))
 have hM02 : Mem.le M M2 := Mem.le.trans hM1 hM2
 clear hM1 hM2 hok1 hsA
 (repeat (first | ((with_reducible refine Tr.step rfl ?_); (with_reducible refine Knd.load ?_); (refine xwQ ?_)) | (with_reducible first | apply Tr.next | apply Tr.seq | apply Tr.region)))
 ((refine Tr.step rfl ?_)); refine Exec.call0 rfl (new_fn M2 _ w0 (rwd_w0 M2) none 0 [] (SlOf.nil _ _ _) 1) rfl ?_
 rintro _ M3 hM3 (⟨hbad, -⟩ | ⟨-, hbad, -⟩ | ⟨-, -, x, rfl, hx⟩)
 ·exact absurd (by decide) hbad
 ·exact absurd (by decide) hbad
 rw [k0_mk] at hx
 obtain ⟨z1, z2, z3, z4, z5, z6, z7, z8, rfl⟩ := hx.lit
 (repeat (first | ((with_reducible refine Tr.step rfl ?_); (first | (refine xmQ ?_) | (refine xaQ ?_) | (refine xWQ ?_) | ((with_reducible refine Knd.alloc ?_); (refine Exec.alloc (tysOk.get rfl) rfl rfl (fun b => ?_))) | ((with_reducible refine Knd.extract ?_); (refine Exec.stab rfl (Stab.extract rfl rfl) rfl ?_)))) | (with_reducible first | apply Tr.next | apply Tr.seq | apply Tr.nil)))
 (((apply Tr.draw); (kernel_rfl)); (refine tkQ 0 (hB := by exact fun _ h => h) (s := by exact swQ) ?_); (refine tkQ 1 (s := by exact swQ) ?_))
 ((refine TrM.start2 _ (by exact PA.alloc 8 rfl (tysOk.get rfl) rfl rfl) (by exact PA.alloc 9 rfl (tysOk.get rfl) rfl rfl) (by kernel_rfl) (by kernel_rfl) (by kernel_rfl) ?_); (refine TrM.eff 2 rfl (by kernel_rfl) (by exact .inl rfl) (by repeat (first | exact PendOk.nil | refine PendOk.cons rfl (by repeat (first | exact SubFr.nil | refine SubFr.cons rfl ?_)) ?_)) (by exact fun _ h => h) (by repeat (first | apply AppF.cons | exact AppF.nil)) (by repeat (first | apply AppF.cons | exact AppF.app)) (fun Y X => ?_)))
 refine Exec.call0 rfl (lrequest_fn M3 4 5 0) rfl ?_
 rintro _ _ _ ⟨rfl, rfl⟩
 (refine ⟨_, _, (by repeat (first | apply App.cons | exact App.nil | exact App.app)), (by repeat (first | apply App.cons | exact App.nil | exact App.app)), rfl, (by first | exact Mem.le.refl _ | assumption), (by exact fun _ h => h), ?_⟩)
 ((refine TrM.eff 3 rfl (by kernel_rfl) (by exact .inl rfl) (by repeat (first | exact PendOk.nil | refine PendOk.cons rfl (by repeat (first | exact SubFr.nil | refine SubFr.cons rfl ?_)) ?_)) (by exact fun _ h => h) (by repeat (first | apply AppF.cons | exact AppF.nil)) (by repeat (first | apply AppF.cons | exact AppF.app)) (fun Y X => ?_)))
 refine Exec.call0 rfl (askA_fn M3 _ w0 (rwd_w0 M3) _ k0 hx (by decide) q40) rfl ?_
 rintro _ M4 hM4 (⟨-, -, x, a, rfl, D4, cD4, hD4, ⟨hF, hx4, al, A4, c4, hlex, rfl, hal4⟩ | ⟨hF, -⟩⟩ | ⟨hne, -⟩)
 rotate_left
 ·exact absurd fe_40 hF
 ·exact absurd ask_40 hne
 obtain ⟨y1, y2, y3, y4, y5, y6, y7, y8, rfl⟩ := hx4.lit
 (refine ⟨_, _, (by repeat (first | apply App.cons | exact App.nil | exact App.app)), (by repeat (first | apply App.cons | exact App.nil | exact App.app)), rfl, (by first | exact Mem.le.refl _ | assumption), (by exact fun _ h => h), ?_⟩)
 ((refine TrM.take 4 (by kernel_rfl) rfl (by kernel_rfl) (by exact fun _ _ _ h => h) (by exact fun _ h => h) rfl (by first | exact Stab.move rfl) rfl rfl ?_); (refine TrM.take 5 (by kernel_rfl) rfl (by kernel_rfl) (by exact fun _ _ _ h => h) (by exact fun _ h => h) rfl (by first | exact Stab.extract rfl rfl) rfl rfl ?_); (refine TrM.take 6 (by kernel_rfl) rfl (by kernel_rfl) (by exact fun _ _ _ h => h) (by exact fun _ h => h) rfl (by first | exact Stab.extract rfl rfl) rfl rfl ?_); (refine TrM.take 7 (by kernel_rfl) rfl (by kernel_rfl) (by exact fun _ _ _ h => h) (by exact fun _ h => h) rfl (by first | exact Stab.extract rfl rfl) rfl rfl ?_); (refine TrM.settle (by kernel_rfl) (by repeat (first | exact PendOk.nil | refine PendOk.cons rfl (by repeat (first | exact SubFr.nil | refine SubFr.cons rfl ?_)) ?_)) (by exact fun _ h => h) (fun b => ?_)); dsimp only; (refine TrM.settle (by kernel_rfl) (by repeat (first | exact PendOk.nil | refine PendOk.cons rfl (by repeat (first | exact SubFr.nil | refine SubFr.cons rfl ?_)) ?_)) (by exact (Sub.mem (by repeat (first | exact Sub.refl | apply Sub.cons)))) (fun b => ?_)); dsimp only; (refine TrM.fin ?_))
 ((refine TrA.eff 10 rfl (by kernel_rfl) (by exact .inl rfl) ?_); (((refine Knd.store ?_); ((refine xWQ ?_)))); (refine ⟨(by first | exact Mem.le.refl _ | assumption), (by exact (Sub.mem (by repeat (first | exact Sub.refl | apply Sub.cons)))), ?_⟩); (refine TrA.eff 11 rfl (by kernel_rfl) (by exact .inl rfl) ?_); (((refine Knd.store ?_); ((refine xWQ ?_)))); (refine ⟨(by first | exact Mem.le.refl _ | assumption), (by exact (Sub.mem (by repeat (first | exact Sub.refl | apply Sub.cons)))), ?_⟩); (refine tkQ 12 (s := by exact Stab.assign rfl) ?_); (refine TrA.done (by kernel_rfl) ?_))
 clear hx4 hal4 hD4 hlex
 have hx5 := hx.mono hM4
 (repeat (first | (with_reducible first | apply Tr.next | apply Tr.seq)))
 (((apply Tr.draw); (kernel_rfl)); (refine tkQ 0 (hB := by exact fun _ h => h) (s := by exact swQ) ?_); (refine tkQ 1 (s := by exact swQ) ?_))
 ((refine TrM.start2 _ (by exact PA.alloc 8 rfl (tysOk.get rfl) rfl rfl) (by exact PA.alloc 9 rfl (tysOk.get rfl) rfl rfl) (by kernel_rfl) (by kernel_rfl) (by kernel_rfl) ?_); (refine TrM.eff 2 rfl (by kernel_rfl) (by exact .inl rfl) (by repeat (first | exact PendOk.nil | refine PendOk.cons rfl (by repeat (first | exact SubFr.nil | refine SubFr.cons rfl ?_)) ?_)) (by exact fun _ h => h) (by repeat (first | apply AppF.cons | exact AppF.nil)) (by repeat (first | apply AppF.cons | exact AppF.app)) (fun Y X => ?_)))
 refine Exec.call0 rfl (lrequest_fn M4 4 5 1) rfl ?_
 rintro _ _ _ ⟨rfl, rfl⟩
 (refine ⟨_, _, (by repeat (first | apply App.cons | exact App.nil | exact App.app)), (by repeat (first | apply App.cons | exact App.nil | exact App.app)), rfl, (by first | exact Mem.le.refl _ | assumption), (by exact fun _ h => h), ?_⟩)
 ((refine TrM.eff 3 rfl (by kernel_rfl) (by exact .inl rfl) (by repeat (first | exact PendOk.nil | refine PendOk.cons rfl (by repeat (first | exact SubFr.nil | refine SubFr.cons rfl ?_)) ?_)) (by exact fun _ h => h) (by repeat (first | apply AppF.cons | exact AppF.nil)) (by repeat (first | apply AppF.cons | exact AppF.app)) (fun Y X => ?_)))
 refine Exec.call0 rfl (askA_fn M4 _ w0 (rwd_w0 M4) _ k0 hx5 (by decide) q41) rfl ?_
 rintro _ M5 hM5 (⟨-, -, x, a, rfl, D6, cD6, hD6, ⟨hF, -⟩ | ⟨hF, hx6, B6, c6, rfl, hB6⟩⟩ | ⟨hne, -⟩)
 ·exact absurd hF fe_41
 rotate_left
 ·exact absurd ask_41 hne
 obtain ⟨t1, t2, t3, t4, t5, t6, t7, t8, rfl⟩ := hx6.lit
 rw [cf_41] at hB6 ⊢
 rw [show ([4] : List Int).length = 1 from rfl] at hB6 ⊢
 (refine ⟨_, _, (by repeat (first | apply App.cons | exact App.nil | exact App.app)), (by repeat (first | apply App.cons | exact App.nil | exact App.app)), rfl, (by first | exact Mem.le.refl _ | assumption), (by exact fun _ h => h), ?_⟩)
 ((refine TrM.take 4 (by kernel_rfl) rfl (by kernel_rfl) (by exact fun _ _ _ h => h) (by exact fun _ h => h) rfl (by first | exact Stab.move rfl) rfl rfl ?_); (refine TrM.take 5 (by kernel_rfl) rfl (by kernel_rfl) (by exact fun _ _ _ h => h) (by exact fun _ h => h) rfl (by first | exact Stab.extract rfl rfl) rfl rfl ?_); (refine TrM.take 6 (by kernel_rfl) rfl (by kernel_rfl) (by exact fun _ _ _ h => h) (by exact fun _ h => h) rfl (by first | exact Stab.extract rfl rfl) rfl rfl ?_); (refine TrM.take 7 (by kernel_rfl) rfl (by kernel_rfl) (by exact fun _ _ _ h => h) (by exact fun _ h => h) rfl (by first | exact Stab.extract rfl rfl) rfl rfl ?_); (refine TrM.settle (by kernel_rfl) (by repeat (first | exact PendOk.nil | refine PendOk.cons rfl (by repeat (first | exact SubFr.nil | refine SubFr.cons rfl ?_)) ?_)) (by exact fun _ h => h) (fun b => ?_)); dsimp only; (refine TrM.settle (by kernel_rfl) (by repeat (first | exact PendOk.nil | refine PendOk.cons rfl (by repeat (first | exact SubFr.nil | refine SubFr.cons rfl ?_)) ?_)) (by exact (Sub.mem (by repeat (first | exact Sub.refl | apply Sub.cons)))) (fun b => ?_)); dsimp only; (refine TrM.fin ?_))
 ((refine TrA.eff 10 rfl (by kernel_rfl) (by exact .inl rfl) ?_); (((refine Knd.store ?_); ((refine xWQ ?_)))); (refine ⟨(by first | exact Mem.le.refl _ | assumption), (by exact (Sub.mem (by repeat (first | exact Sub.refl | apply Sub.cons)))), ?_⟩); (refine TrA.eff 11 rfl (by kernel_rfl) (by exact .inl rfl) ?_); (((refine Knd.store ?_); ((refine xWQ ?_)))); (refine ⟨(by first | exact Mem.le.refl _ | assumption), (by exact (Sub.mem (by repeat (first | exact Sub.refl | apply Sub.cons)))), ?_⟩); (refine tkQ 12 (s := by exact Stab.assign rfl) ?_); (refine TrA.done (by kernel_rfl) ?_))
 clear hD6 hx5
 have hx7 := (hx.mono hM4).mono hM5
 (repeat (first | ((with_reducible refine Tr.step rfl ?_); (with_reducible refine Knd.load ?_); (refine xwQ ?_)) | (with_reducible first | apply Tr.next | apply Tr.seq | apply Tr.region)))
 ((refine Tr.step rfl ?_)); refine Exec.call0 rfl (drop_fn M5 _ w0 (rwd_w0 M5) _ k0 hx7 (by decide) 3) rfl ?_
 rintro _ M6 hM6 (⟨⟨-, hbad⟩, -⟩ | ⟨-, rfl⟩)
 ·exact absurd hbad (by decide)
 (repeat (first | ((with_reducible refine Tr.step rfl ?_); (first | (refine xmQ ?_) | (refine xaQ ?_) | (refine xWQ ?_) | ((with_reducible refine Knd.alloc ?_); (refine Exec.alloc (tysOk.get rfl) rfl rfl (fun b => ?_))) | ((with_reducible refine Knd.extract ?_); (refine Exec.stab rfl (Stab.extract rfl rfl) rfl ?_)))) | (with_reducible first | apply Tr.next | apply Tr.seq | apply Tr.nil)))
 (((apply Tr.draw); (kernel_rfl)); (refine tkQ 0 (hB := by exact fun _ h => h) (s := by exact swQ) ?_))
 ((refine TrM.start1 _ (by exact PA.alloc 7 rfl (tysOk.get rfl) rfl rfl) (by kernel_rfl) ?_); (refine TrM.eff 1 rfl (by kernel_rfl) (by exact .inl rfl) (by repeat (first | exact PendOk.nil | refine PendOk.cons rfl (by repeat (first | exact SubFr.nil | refine SubFr.cons rfl ?_)) ?_)) (by exact fun _ h => h) (by repeat (first | apply AppF.cons | exact AppF.nil)) (by repeat (first | apply AppF.cons | exact AppF.app)) (fun Y X => ?_)))
 refine Exec.call0 rfl (lsupply_fn M6 1 7 3) rfl ?_
 rintro _ _ _ ⟨rfl, rfl⟩
 (refine ⟨_, _, (by repeat (first | apply App.cons | exact App.nil | exact App.app)), (by repeat (first | apply App.cons | exact App.nil | exact App.app)), rfl, (by first | exact Mem.le.refl _ | assumption), (by exact fun _ h => h), ?_⟩)
 ((refine TrM.eff 2 rfl (by kernel_rfl) (by exact .inl rfl) (by repeat (first | exact PendOk.nil | refine PendOk.cons rfl (by repeat (first | exact SubFr.nil | refine SubFr.cons rfl ?_)) ?_)) (by exact fun _ h => h) (by repeat (first | apply AppF.cons | exact AppF.nil)) (by repeat (first | apply AppF.cons | exact AppF.app)) (fun Y X => ?_)); (((refine Knd.buildSlice ?_); ((refine Exec.buildSlice (tysOk.get rfl) rfl (tysOk.get rfl) rfl rfl rfl rfl rfl (by repeat (first | exact BuildP.nil | ((apply BuildP.many); (rfl); (rfl); (rfl); (rfl); (repeat (first | exact PutL.nil | ((apply PutL.cons); (repeat (first | exact SetL.z | apply SetL.s)))))))) rfl (fun b => ?_))))); (refine ⟨_, _, (by repeat (first | apply App.cons | exact App.nil | exact App.app)), (by repeat (first | apply App.cons | exact App.nil | exact App.app)), rfl, (by first | exact Mem.le.refl _ | assumption), (by exact (Sub.mem (by repeat (first | exact Sub.refl | apply Sub.cons)))), ?_⟩))
 refine TrM.publish (x := box _ 82 _) (by repeat (first | exact Del.here | apply Del.there)) (fun M7 hM7 hok7 => ?_)
 have hs7 : SlOf 6 RSpC M7 (.slice (some ⟨_, 0, none⟩) 1 1) s7 := SlOf.ofBoxC (sz := 6) (n := 1) (c := 1) (xs := s7) hok7 rfl rfl (Nat.le_refl _) (by decide) (flatMap_one spC_one s7) (spC_elems M7 s7)
 ((refine TrM.eff 3 rfl (by kernel_rfl) (by exact .inl rfl) (by repeat (first | exact PendOk.nil | refine PendOk.cons rfl (by repeat (first | exact SubFr.nil | refine SubFr.cons rfl ?_)) ?_)) (by exact fun _ h => h) (by repeat (first | apply AppF.cons | exact AppF.nil)) (by repeat (first | apply AppF.cons | exact AppF.app)) (fun Y X => ?_)))
 refine Exec.call0 rfl (new_fn M7 _ w0 (rwd_w0 M7) _ 1 s7 hs7 1) rfl ?_
 rintro _ M8 hM8 (⟨hbad, -⟩ | ⟨-, hbad, -⟩ | ⟨-, -, x, rfl, hx8⟩)
 ·exact absurd (by decide) hbad
 ·exact absurd (by decide) hbad
 rw [k7_mk] at hx8
 obtain ⟨u1, u2, u3, u4, u5, u6, u7, u8, rfl⟩ := hx8.lit
 (refine ⟨_, _, (by repeat (first | apply App.cons | exact App.nil | exact App.app)), (by repeat (first | apply App.cons | exact App.nil | exact App.app)), rfl, (by first | exact Mem.le.refl _ | assumption), (by exact fun _ h => h), ?_⟩)
 ((refine TrM.take 4 (by kernel_rfl) rfl (by kernel_rfl) (by exact fun _ _ _ h => h) (by exact fun _ h => h) rfl (by first | exact Stab.move rfl) rfl rfl ?_); (refine TrM.take 5 (by kernel_rfl) rfl (by kernel_rfl) (by exact fun _ _ _ h => h) (by exact fun _ h => h) rfl (by first | exact Stab.extract rfl rfl) rfl rfl ?_); (refine TrM.take 6 (by kernel_rfl) rfl (by kernel_rfl) (by exact fun _ _ _ h => h) (by exact fun _ h => h) rfl (by first | exact Stab.extract rfl rfl) rfl rfl ?_); (refine TrM.settle (by kernel_rfl) (by repeat (first | exact PendOk.nil | refine PendOk.cons rfl (by repeat (first | exact SubFr.nil | refine SubFr.cons rfl ?_)) ?_)) (by exact fun _ h => h) (fun b => ?_)); dsimp only; (refine TrM.fin ?_))
 ((refine TrA.eff 8 rfl (by kernel_rfl) (by exact .inl rfl) ?_); (((refine Knd.store ?_); ((refine xWQ ?_)))); (refine ⟨(by first | exact Mem.le.refl _ | assumption), (by exact (Sub.mem (by repeat (first | exact Sub.refl | apply Sub.cons)))), ?_⟩); (refine tkQ 9 (s := by exact Stab.assign rfl) ?_); (refine TrA.done (by kernel_rfl) ?_))
 have hM58 : Mem.le M5 M8 := hM6.trans (Mem.le.trans hM7 hM8)
 clear hok7 hs7
 (repeat (first | (with_reducible first | apply Tr.next | apply Tr.seq)))
 refine gvQ (r := box _ 44 [.int .i64 0, .slice none 0 0, .slice none 0 0, .slice none 0 0, .slice none 0 0]) ?_
 refine gvQ (r := box _ 44 [.int .i64 0, .slice none 0 0, .slice none 0 0, .slice none 0 0, .slice none 0 0]) ?_
 refine gvQ (r := box _ 44 [.int .i64 (more w0 k0 q40).known, .slice y1 (more w0 k0 q40).sups.length y2, .slice y3 (more w0 k0 q40).reqs.length y4, .slice y5 (more w0 k0 q40).fits.length y6, .slice y7 (more w0 k0 q40).rds.length y8]) ?_
 refine Tr.cut (α := Mem × (Nat × Nat × Nat × Nat) × (Nat × Nat) × List Value × (Option Addr × Nat × Option Addr × Nat) × (Option Addr × Nat × Option Addr × Nat)) (fun y => ⟨294, [(1, .pointer (some ⟨b1, 0, none⟩)), (3, .int .i64 310), (5, .int .i64 0), (8, .int .i64 0), (11, .int .i64 0), (13, .int .i64 310), (15, .int .i64 0), (17, .int .i64 0), (4, .pointer (some ⟨y.2.1.1, 0, none⟩)), (7, .pointer (some ⟨y.2.1.2.1, 0, none⟩)), (9, .pointer (some ⟨y.2.1.2.2.1, 0, none⟩)), (10, .pointer (some ⟨y.2.1.2.2.2, 0, none⟩)), (14, .pointer (some ⟨y.2.2.1.1, 0, none⟩)), (16, .pointer (some ⟨y.2.2.1.2, 0, none⟩))], [], y.1, box y.2.2.1.2 54 [.bool true, .slice y.2.2.2.2.1.1 1 y.2.2.2.2.1.2.1, .slice none 0 0, .slice y.2.2.2.2.1.2.2.1 1 y.2.2.2.2.1.2.2.2] :: box y.2.2.1.1 44 y.2.2.2.1 :: box y.2.1.2.2.2 54 [.bool false, .slice none 0 0, .slice B6 1 c6, .slice D6 (readsF w0 k0.sups [q41]).length cD6] :: box y.2.1.2.2.1 44 [.int .i64 k0.known, .slice t1 k0.sups.length t2, .slice t3 k0.reqs.length t4, .slice t5 k0.fits.length t6, .slice t7 k0.rds.length t8] :: box y.2.1.2.1 54 [.bool true, .slice y.2.2.2.2.2.1 0 y.2.2.2.2.2.2.1, .slice none 0 0, .slice y.2.2.2.2.2.2.2.1 0 y.2.2.2.2.2.2.2.2] :: box y.2.1.1 44 [.int .i64 k0.known, .slice z1 k0.sups.length z2, .slice z3 k0.reqs.length z4, .slice z5 k0.fits.length z6, .slice z7 k0.rds.length z8] :: box b1 38 [.slice none 0 0, .slice none 0 0, .slice none 0 0, .slice none 0 0, .slice none 0 0, .slice none 0 0, .slice none 0 0, .slice none 0 0, .slice none 0 0, .slice none 0 0, .slice none 0 0] :: ([] ++ F)⟩)
  (fun y => Mem.le M8 y.1 ∧ RBp y.1 (.agg y.2.2.2.1.toArray) k8 ∧ Ints2 y.1 (.slice y.2.2.2.2.1.1 1 y.2.2.2.2.1.2.1) [[2]] ∧ SlOf 5 RRd y.1 (.slice y.2.2.2.2.1.2.2.1 1 y.2.2.2.2.1.2.2.2) [((7, 0, 0), 9, 10)]) ?_ (fun y hy => ?_)
 ·(((apply Tr.draw ((box _ 54 _ :: _))); (kernel_rfl)); (refine tkQ 0 (hB := by exact (Sub.mem (by repeat (first | exact Sub.refl | apply Sub.cons)))) (s := by exact swQ) ?_))
  ((refine TrM.start1 _ (by exact PA.alloc 8 rfl (tysOk.get rfl) rfl rfl) (by kernel_rfl) ?_); (refine TrM.eff2 1 2 rfl rfl (by kernel_rfl) (by exact .inl rfl) (by exact .inl rfl) (by repeat (first | exact PendOk.nil | refine PendOk.cons rfl (by repeat (first | exact SubFr.nil | refine SubFr.cons rfl ?_)) ?_)) (by exact (Sub.mem (by repeat (first | exact Sub.refl | apply Sub.cons)))) (by repeat (first | apply AppF.cons | exact AppF.nil)) (by repeat (first | apply AppF.cons | exact AppF.app)) (fun Y X => ?_) (fun Y X => ?_)))
  ·((((refine Knd.load ?_); ((refine xwQ ?_)))); (refine ⟨_, _, (by repeat (first | apply App.cons | exact App.nil | exact App.app)), (by repeat (first | apply App.cons | exact App.nil | exact App.app)), rfl, (by first | exact Mem.le.refl _ | assumption), (by exact (Sub.mem (by repeat (first | exact Sub.refl | apply Sub.cons)))), ?_⟩); (refine TrM.eff 2 rfl (by kernel_rfl) (by exact .inl rfl) (by repeat (first | exact PendOk.nil | refine PendOk.cons rfl (by repeat (first | exact SubFr.nil | refine SubFr.cons rfl ?_)) ?_)) (by exact (Sub.mem (by repeat (first | exact Sub.refl | apply Sub.cons)))) (by repeat (first | apply AppF.cons | exact AppF.nil)) (by repeat (first | apply AppF.cons | exact AppF.app)) (fun Y X => ?_)))
   refine Exec.call0 rfl (lrequest_fn M8 8 9 2) rfl ?_
   rintro _ _ _ ⟨rfl, rfl⟩
   (refine ⟨_, _, (by repeat (first | apply App.cons | exact App.nil | exact App.app)), (by repeat (first | apply App.cons | exact App.nil | exact App.app)), rfl, (by first | exact Mem.le.refl _ | assumption), (by exact (Sub.mem (by repeat (first | exact Sub.refl | apply Sub.cons)))), ?_⟩)
   ((refine TrM.eff 3 rfl (by kernel_rfl) (by exact .inl rfl) (by repeat (first | exact PendOk.nil | refine PendOk.cons rfl (by repeat (first | exact SubFr.nil | refine SubFr.cons rfl ?_)) ?_)) (by exact (Sub.mem (by repeat (first | exact Sub.refl | apply Sub.cons)))) (by repeat (first | apply AppF.cons | exact AppF.nil)) (by repeat (first | apply AppF.cons | exact AppF.app)) (fun Y X => ?_)))
   refine Exec.call0 rfl (askA_fn M8 _ w0 (rwd_w0 M8) _ k7 hx8 (by decide) q8) rfl ?_
   rintro _ M9 hM9 (⟨-, -, x, a, rfl, D9, cD9, hD9, ⟨hF, hx9, al, A9, c9, hlex, rfl, hal9⟩ | ⟨hF, -⟩⟩ | ⟨hne, -⟩)
   rotate_left
   ·exact absurd fe_8 hF
   ·exact absurd ask_8 hne
   rw [k8_mk] at hx9
   rw [al_8 hlex] at hal9 ⊢
   rw [rd_8] at hD9 ⊢
   obtain ⟨v1, v2, v3, v4, v5, v6, v7, v8, rfl⟩ := hx9.lit
   (refine ⟨_, _, (by repeat (first | apply App.cons | exact App.nil | exact App.app)), (by repeat (first | apply App.cons | exact App.nil | exact App.app)), rfl, (by first | exact Mem.le.refl _ | assumption), (by exact (Sub.mem (by repeat (first | exact Sub.refl | apply Sub.cons)))), ?_⟩)
   ((refine TrM.take 4 (by kernel_rfl) rfl (by kernel_rfl) (by exact fun _ _ _ h => nomatch h.1) (by exact (Sub.mem (by repeat (first | exact Sub.refl | apply Sub.cons)))) rfl (by first | exact Stab.move rfl) rfl rfl ?_); (refine TrM.take 5 (by kernel_rfl) rfl (by kernel_rfl) (by exact fun _ _ _ h => nomatch h.1) (by exact (Sub.mem (by repeat (first | exact Sub.refl | apply Sub.cons)))) rfl (by first | exact Stab.extract rfl rfl) rfl rfl ?_); (refine TrM.take 6 (by kernel_rfl) rfl (by kernel_rfl) (by exact fun _ _ _ h => nomatch h.1) (by exact (Sub.mem (by repeat (first | exact Sub.refl | apply Sub.cons)))) rfl (by first | exact Stab.extract rfl rfl) rfl rfl ?_); (refine TrM.take 7 (by kernel_rfl) rfl (by kernel_rfl) (by exact fun _ _ _ h => nomatch h.1) (by exact (Sub.mem (by repeat (first | exact Sub.refl | apply Sub.cons)))) rfl (by first | exact Stab.extract rfl rfl) rfl rfl ?_); (refine TrM.settle (by kernel_rfl) (by repeat (first | exact PendOk.nil | refine PendOk.cons rfl (by repeat (first | exact SubFr.nil | refine SubFr.cons rfl ?_)) ?_)) (by exact (Sub.mem (by repeat (first | exact Sub.refl | apply Sub.cons)))) (fun b => ?_)); dsimp only; (refine TrM.fin ?_))
   ((refine TrA.eff 9 rfl (by kernel_rfl) (by exact .inl rfl) ?_); (((refine Knd.store ?_); ((refine xWQ ?_)))); (refine ⟨(by first | exact Mem.le.refl _ | assumption), (by exact (Sub.mem (by repeat (first | exact Sub.refl | apply Sub.cons)))), ?_⟩); (refine TrA.eff 10 rfl (by kernel_rfl) (by exact .inl rfl) ?_); (((refine Knd.store ?_); ((refine xWQ ?_)))); (refine ⟨(by first | exact Mem.le.refl _ | assumption), (by exact (Sub.mem (by repeat (first | exact Sub.refl | apply Sub.cons)))), ?_⟩); (refine tkQ 11 (s := by exact Stab.assign rfl) ?_); (refine TrA.done (by kernel_rfl) ?_))
   exact Tr.land (M9, (_, _, _, _), (_, _), _, (A9, c9, D9, cD9), (_, _, _, _)) ⟨hM9, hx9, hal9, hD9⟩ hsQ
  ·refine Exec.call0 rfl (lrequest_fn M8 8 9 2) rfl ?_
   rintro _ _ _ ⟨rfl, rfl⟩
   (refine ⟨_, _, (by repeat (first | apply App.cons | exact App.nil | exact App.app)), (by repeat (first | apply App.cons | exact App.nil | exact App.app)), rfl, (by first | exact Mem.le.refl _ | assumption), (by exact (Sub.mem (by repeat (first | exact Sub.refl | apply Sub.cons)))), ?_⟩)
   ((refine TrM.eff 1 rfl (by kernel_rfl) (by exact .inl rfl) (by repeat (first | exact PendOk.nil | refine PendOk.cons rfl (by repeat (first | exact SubFr.nil | refine SubFr.cons rfl ?_)) ?_)) (by exact (Sub.mem (by repeat (first | exact Sub.refl | apply Sub.cons)))) (by repeat (first | apply AppF.cons | exact AppF.nil)) (by repeat (first | apply AppF.cons | exact AppF.app)) (fun Y X => ?_)); (((refine Knd.load ?_); ((refine xwQ ?_)))); (refine ⟨_, _, (by repeat (first | apply App.cons | exact App.nil | exact App.app)), (by repeat (first | apply App.cons | exact App.nil | exact App.app)), rfl, (by first | exact Mem.le.refl _ | assumption), (by exact (Sub.mem (by repeat (first | exact Sub.refl | apply Sub.cons)))), ?_⟩))
   ((refine TrM.eff 3 rfl (by kernel_rfl) (by exact .inl rfl) (by repeat (first | exact PendOk.nil | refine PendOk.cons rfl (by repeat (first | exact SubFr.nil | refine SubFr.cons rfl ?_)) ?_)) (by exact (Sub.mem (by repeat (first | exact Sub.refl | apply Sub.cons)))) (by repeat (first | apply AppF.cons | exact AppF.nil)) (by repeat (first | apply AppF.cons | exact AppF.app)) (fun Y X => ?_)))
   refine Exec.call0 rfl (askA_fn M8 _ w0 (rwd_w0 M8) _ k7 hx8 (by decide) q8) rfl ?_
   rintro _ M9 hM9 (⟨-, -, x, a, rfl, D9, cD9, hD9, ⟨hF, hx9, al, A9, c9, hlex, rfl, hal9⟩ | ⟨hF, -⟩⟩ | ⟨hne, -⟩)
   rotate_left
   ·exact absurd fe_8 hF
   ·exact absurd ask_8 hne
   rw [k8_mk] at hx9
   rw [al_8 hlex] at hal9 ⊢
   rw [rd_8] at hD9 ⊢
   obtain ⟨v1, v2, v3, v4, v5, v6, v7, v8, rfl⟩ := hx9.lit
   (refine ⟨_, _, (by repeat (first | apply App.cons | exact App.nil | exact App.app)), (by repeat (first | apply App.cons | exact App.nil | exact App.app)), rfl, (by first | exact Mem.le.refl _ | assumption), (by exact (Sub.mem (by repeat (first | exact Sub.refl | apply Sub.cons)))), ?_⟩)
   ((refine TrM.take 4 (by kernel_rfl) rfl (by kernel_rfl) (by exact fun _ _ _ h => nomatch h.1) (by exact (Sub.mem (by repeat (first | exact Sub.refl | apply Sub.cons)))) rfl (by first | exact Stab.move rfl) rfl rfl ?_); (refine TrM.take 5 (by kernel_rfl) rfl (by kernel_rfl) (by exact fun _ _ _ h => nomatch h.1) (by exact (Sub.mem (by repeat (first | exact Sub.refl | apply Sub.cons)))) rfl (by first | exact Stab.extract rfl rfl) rfl rfl ?_); (refine TrM.take 6 (by kernel_rfl) rfl (by kernel_rfl) (by exact fun _ _ _ h => nomatch h.1) (by exact (Sub.mem (by repeat (first | exact Sub.refl | apply Sub.cons)))) rfl (by first | exact Stab.extract rfl rfl) rfl rfl ?_); (refine TrM.take 7 (by kernel_rfl) rfl (by kernel_rfl) (by exact fun _ _ _ h => nomatch h.1) (by exact (Sub.mem (by repeat (first | exact Sub.refl | apply Sub.cons)))) rfl (by first | exact Stab.extract rfl rfl) rfl rfl ?_); (refine TrM.settle (by kernel_rfl) (by repeat (first | exact PendOk.nil | refine PendOk.cons rfl (by repeat (first | exact SubFr.nil | refine SubFr.cons rfl ?_)) ?_)) (by exact (Sub.mem (by repeat (first | exact Sub.refl | apply Sub.cons)))) (fun b => ?_)); dsimp only; (refine TrM.fin ?_))
   ((refine TrA.eff 9 rfl (by kernel_rfl) (by exact .inl rfl) ?_); (((refine Knd.store ?_); ((refine xWQ ?_)))); (refine ⟨(by first | exact Mem.le.refl _ | assumption), (by exact (Sub.mem (by repeat (first | exact Sub.refl | apply Sub.cons)))), ?_⟩); (refine TrA.eff 10 rfl (by kernel_rfl) (by exact .inl rfl) ?_); (((refine Knd.store ?_); ((refine xWQ ?_)))); (refine ⟨(by first | exact Mem.le.refl _ | assumption), (by exact (Sub.mem (by repeat (first | exact Sub.refl | apply Sub.cons)))), ?_⟩); (refine tkQ 11 (s := by exact Stab.assign rfl) ?_); (refine TrA.done (by kernel_rfl) ?_))
   exact Tr.land (M9, (_, _, _, _), (_, _), _, (A9, c9, D9, cD9), (_, _, _, _)) ⟨hM9, hx9, hal9, hD9⟩ hsQ
 obtain ⟨M9, ⟨p4, p7, p9, p10⟩, ⟨p14, p16⟩, xb, ⟨A9, c9, D9, cD9⟩, A4, c4, D4, cD4⟩ := y
 obtain ⟨hM9, hx9, hal9, hD9⟩ := hy
 dsimp only at hM9 hx9 hal9 hD9 ⊢
 obtain ⟨v1, v2, v3, v4, v5, v6, v7, v8, ev⟩ := hx9.lit
 injection ev with ev
 have ev := congrArg Array.toList ev
 simp only at ev
 subst ev
 (repeat (first | (with_reducible first | apply Tr.next | apply Tr.seq)))
 (((apply Tr.draw); (kernel_rfl)); (refine tkQ 0 (hB := by exact fun _ h => h) (s := by exact swQ) ?_); (refine tkQ 1 (s := by exact swQ) ?_))
 ((refine TrM.start2 _ (by exact PA.alloc 8 rfl (tysOk.get rfl) rfl rfl) (by exact PA.alloc 9 rfl (tysOk.get rfl) rfl rfl) (by kernel_rfl) (by kernel_rfl) (by kernel_rfl) ?_); (refine TrM.eff 2 rfl (by kernel_rfl) (by exact .inl rfl) (by repeat (first | exact PendOk.nil | refine PendOk.cons rfl (by repeat (first | exact SubFr.nil | refine SubFr.cons rfl ?_)) ?_)) (by exact fun _ h => h) (by repeat (first | apply AppF.cons | exact AppF.nil)) (by repeat (first | apply AppF.cons | exact AppF.app)) (fun Y X => ?_)))
 refine Exec.call0 rfl (lrequest_fn M9 2 9 2) rfl ?_
 rintro _ _ _ ⟨rfl, rfl⟩
 (refine ⟨_, _, (by repeat (first | apply App.cons | exact App.nil | exact App.app)), (by repeat (first | apply App.cons | exact App.nil | exact App.app)), rfl, (by first | exact Mem.le.refl _ | assumption), (by exact fun _ h => h), ?_⟩)
 ((refine TrM.eff 3 rfl (by kernel_rfl) (by exact .inl rfl) (by repeat (first | exact PendOk.nil | refine PendOk.cons rfl (by repeat (first | exact SubFr.nil | refine SubFr.cons rfl ?_)) ?_)) (by exact fun _ h => h) (by repeat (first | apply AppF.cons | exact AppF.nil)) (by repeat (first | apply AppF.cons | exact AppF.app)) (fun Y X => ?_)))
 refine Exec.call0 rfl (askA_fn M9 _ w0 (rwd_w0 M9) _ k8 hx9 (by decide) q2) rfl ?_
 rintro _ M10 hM10 (⟨-, -, x, a, rfl, D10, cD10, hD10, ⟨hF, -⟩ | ⟨hF, hx10, B10, c10, rfl, hB10⟩⟩ | ⟨hne, -⟩)
 ·exact absurd hF fe_2
 rotate_left
 ·exact absurd ask_2 hne
 obtain ⟨p1, p2, p3, p4, p5, p6, p7, p8, rfl⟩ := hx10.lit
 rw [cf_2] at hB10 ⊢
 rw [show ([8, 2] : List Int).length = 2 from rfl] at hB10 ⊢
 (refine ⟨_, _, (by repeat (first | apply App.cons | exact App.nil | exact App.app)), (by repeat (first | apply App.cons | exact App.nil | exact App.app)), rfl, (by first | exact Mem.le.refl _ | assumption), (by exact fun _ h => h), ?_⟩)
 ((refine TrM.take 4 (by kernel_rfl) rfl (by kernel_rfl) (by exact fun _ _ _ h => h) (by exact fun _ h => h) rfl (by first | exact Stab.move rfl) rfl rfl ?_); (refine TrM.take 5 (by kernel_rfl) rfl (by kernel_rfl) (by exact fun _ _ _ h => h) (by exact fun _ h => h) rfl (by first | exact Stab.extract rfl rfl) rfl rfl ?_); (refine TrM.take 6 (by kernel_rfl) rfl (by kernel_rfl) (by exact fun _ _ _ h => h) (by exact fun _ h => h) rfl (by first | exact Stab.extract rfl rfl) rfl rfl ?_); (refine TrM.take 7 (by kernel_rfl) rfl (by kernel_rfl) (by exact fun _ _ _ h => h) (by exact fun _ h => h) rfl (by first | exact Stab.extract rfl rfl) rfl rfl ?_); (refine TrM.settle (by kernel_rfl) (by repeat (first | exact PendOk.nil | refine PendOk.cons rfl (by repeat (first | exact SubFr.nil | refine SubFr.cons rfl ?_)) ?_)) (by exact fun _ h => h) (fun b => ?_)); dsimp only; (refine TrM.settle (by kernel_rfl) (by repeat (first | exact PendOk.nil | refine PendOk.cons rfl (by repeat (first | exact SubFr.nil | refine SubFr.cons rfl ?_)) ?_)) (by exact (Sub.mem (by repeat (first | exact Sub.refl | apply Sub.cons)))) (fun b => ?_)); dsimp only; (refine TrM.fin ?_))
 ((refine TrA.eff 10 rfl (by kernel_rfl) (by exact .inl rfl) ?_); (((refine Knd.store ?_); ((refine xWQ ?_)))); (refine ⟨(by first | exact Mem.le.refl _ | assumption), (by exact (Sub.mem (by repeat (first | exact Sub.refl | apply Sub.cons)))), ?_⟩); (refine TrA.eff 11 rfl (by kernel_rfl) (by exact .inl rfl) ?_); (((refine Knd.store ?_); ((refine xWQ ?_)))); (refine ⟨(by first | exact Mem.le.refl _ | assumption), (by exact (Sub.mem (by repeat (first | exact Sub.refl | apply Sub.cons)))), ?_⟩); (refine tkQ 12 (s := by exact Stab.assign rfl) ?_); (refine TrA.done (by kernel_rfl) ?_))
 clear hD10 hx10
 have hx11 := hx9.mono hM10
 (repeat (first | (with_reducible first | apply Tr.next | apply Tr.seq)))
 (((apply Tr.draw); (kernel_rfl)); (refine tkQ 0 (hB := by exact fun _ h => h) (s := by exact swQ) ?_); (refine tkQ 1 (s := by exact swQ) ?_))
 ((refine TrM.start2 _ (by exact PA.alloc 8 rfl (tysOk.get rfl) rfl rfl) (by exact PA.alloc 9 rfl (tysOk.get rfl) rfl rfl) (by kernel_rfl) (by kernel_rfl) (by kernel_rfl) ?_); (refine TrM.eff 2 rfl (by kernel_rfl) (by exact .inl rfl) (by repeat (first | exact PendOk.nil | refine PendOk.cons rfl (by repeat (first | exact SubFr.nil | refine SubFr.cons rfl ?_)) ?_)) (by exact fun _ h => h) (by repeat (first | apply AppF.cons | exact AppF.nil)) (by repeat (first | apply AppF.cons | exact AppF.app)) (fun Y X => ?_)))
 refine Exec.call0 rfl (lrequest_fn M10 8 9 0) rfl ?_
 rintro _ _ _ ⟨rfl, rfl⟩
 (refine ⟨_, _, (by repeat (first | apply App.cons | exact App.nil | exact App.app)), (by repeat (first | apply App.cons | exact App.nil | exact App.app)), rfl, (by first | exact Mem.le.refl _ | assumption), (by exact fun _ h => h), ?_⟩)
 ((refine TrM.eff 3 rfl (by kernel_rfl) (by exact .inl rfl) (by repeat (first | exact PendOk.nil | refine PendOk.cons rfl (by repeat (first | exact SubFr.nil | refine SubFr.cons rfl ?_)) ?_)) (by exact fun _ h => h) (by repeat (first | apply AppF.cons | exact AppF.nil)) (by repeat (first | apply AppF.cons | exact AppF.app)) (fun Y X => ?_)))
 refine Exec.call0 rfl (askA_fn M10 _ w0 (rwd_w0 M10) _ k8 hx11 (by decide) q80) rfl ?_
 rintro _ M11 hM11 (⟨h0, -⟩ | ⟨-, rfl⟩)
 ·exact absurd h0 (by rw [ask_80]; decide)
 rw [ask_80]
 (refine ⟨_, _, (by repeat (first | apply App.cons | exact App.nil | exact App.app)), (by repeat (first | apply App.cons | exact App.nil | exact App.app)), rfl, (by first | exact Mem.le.refl _ | assumption), (by exact fun _ h => h), ?_⟩)
 ((refine TrM.take 4 (by kernel_rfl) rfl (by kernel_rfl) (by exact fun _ _ _ h => h) (by exact fun _ h => h) rfl (by first | exact Stab.move rfl) rfl rfl ?_); (refine TrM.take 5 (by kernel_rfl) rfl (by kernel_rfl) (by exact fun _ _ _ h => h) (by exact fun _ h => h) rfl (by first | exact Stab.extract rfl rfl) rfl rfl ?_); (refine TrM.take 6 (by kernel_rfl) rfl (by kernel_rfl) (by exact fun _ _ _ h => h) (by exact fun _ h => h) rfl (by first | exact Stab.extract rfl rfl) rfl rfl ?_); (refine TrM.take 7 (by kernel_rfl) rfl (by kernel_rfl) (by exact fun _ _ _ h => h) (by exact fun _ h => h) rfl (by first | exact Stab.extract rfl rfl) rfl rfl ?_); (refine TrM.settle (by kernel_rfl) (by repeat (first | exact PendOk.nil | refine PendOk.cons rfl (by repeat (first | exact SubFr.nil | refine SubFr.cons rfl ?_)) ?_)) (by exact fun _ h => h) (fun b => ?_)); dsimp only; (refine TrM.settle (by kernel_rfl) (by repeat (first | exact PendOk.nil | refine PendOk.cons rfl (by repeat (first | exact SubFr.nil | refine SubFr.cons rfl ?_)) ?_)) (by exact (Sub.mem (by repeat (first | exact Sub.refl | apply Sub.cons)))) (fun b => ?_)); dsimp only; (refine TrM.fin ?_))
 ((refine TrA.eff 10 rfl (by kernel_rfl) (by exact .inl rfl) ?_); (((refine Knd.store ?_); ((refine xWQ ?_)))); (refine ⟨(by first | exact Mem.le.refl _ | assumption), (by exact (Sub.mem (by repeat (first | exact Sub.refl | apply Sub.cons)))), ?_⟩); (refine TrA.eff 11 rfl (by kernel_rfl) (by exact .inl rfl) ?_); (((refine Knd.store ?_); ((refine xWQ ?_)))); (refine ⟨(by first | exact Mem.le.refl _ | assumption), (by exact (Sub.mem (by repeat (first | exact Sub.refl | apply Sub.cons)))), ?_⟩); (refine tkQ 12 (s := by exact Stab.assign rfl) ?_); (refine TrA.done (by kernel_rfl) ?_))
 have hx12 := hx11.mono hM11
 (repeat (first | (with_reducible first | apply Tr.next | apply Tr.seq)))
 (((apply Tr.draw); (kernel_rfl)); (refine tkQ 0 (hB := by exact fun _ h => h) (s := by exact swQ) ?_); (refine tkQ 1 (s := by exact swQ) ?_); (refine TrA.eff 2 rfl (by kernel_rfl) (by exact .inl rfl) ?_))
 refine Exec.call0 rfl (lrequest_fn M11 2 3 1) rfl ?_
 rintro _ _ hm ⟨rfl, rfl⟩
 refine ⟨hm, (by exact fun _ h => h), ?_⟩
 ((refine TrA.eff 3 rfl (by kernel_rfl) (by exact .inl rfl) ?_))
 refine Exec.call0 rfl (earliest_fn M11 _ w0 (rwd_w0 M11) fbnd0 _ k8 hx12 (by decide) e1) rfl ?_
 rintro _ M12 hM12 (⟨-, day, ok, rfl, hE⟩ | ⟨hne, -⟩)
 rotate_left
 ·exact absurd ask_e1 hne
 obtain ⟨rfl, rfl⟩ := ear_e1 hE
 refine ⟨hM12, (by exact fun _ h => h), ?_⟩
 ((refine tkQ 4 (s := by exact Stab.move rfl) ?_); (refine tkQ 5 (s := by exact Stab.extract rfl rfl) ?_); (refine tkQ 6 (s := by exact Stab.extract rfl rfl) ?_); (refine tkQ 7 (s := by exact Stab.extract rfl rfl) ?_); (refine tkQ 8 (s := by exact Stab.assign rfl) ?_); (refine tkQ 9 (s := by exact Stab.assign rfl) ?_); (refine tkQ 10 (s := by exact Stab.assign rfl) ?_); (refine TrA.done (by kernel_rfl) ?_))
 clear hm hE
 have hx13 := hx12.mono hM12
 (repeat (first | (with_reducible first | apply Tr.next | apply Tr.seq)))
 (((apply Tr.draw); (kernel_rfl)); (refine tkQ 0 (hB := by exact fun _ h => h) (s := by exact swQ) ?_); (refine tkQ 1 (s := by exact swQ) ?_); (refine TrA.eff 2 rfl (by kernel_rfl) (by exact .inl rfl) ?_))
 refine Exec.call0 rfl (lrequest_fn M12 2 3 2) rfl ?_
 rintro _ _ hm ⟨rfl, rfl⟩
 refine ⟨hm, (by exact fun _ h => h), ?_⟩
 ((refine TrA.eff 3 rfl (by kernel_rfl) (by exact .inl rfl) ?_))
 refine Exec.call0 rfl (earliest_fn M12 _ w0 (rwd_w0 M12) fbnd0 _ k8 hx13 (by decide) e2) rfl ?_
 rintro _ M13 hM13 (⟨-, day, ok, rfl, hE⟩ | ⟨hne, -⟩)
 rotate_left
 ·exact absurd ask_e2 hne
 obtain ⟨rfl, rfl⟩ := ear_e2 hE
 refine ⟨hM13, (by exact fun _ h => h), ?_⟩
 ((refine tkQ 4 (s := by exact Stab.move rfl) ?_); (refine tkQ 5 (s := by exact Stab.extract rfl rfl) ?_); (refine tkQ 6 (s := by exact Stab.extract rfl rfl) ?_); (refine tkQ 7 (s := by exact Stab.extract rfl rfl) ?_); (refine tkQ 8 (s := by exact Stab.assign rfl) ?_); (refine tkQ 9 (s := by exact Stab.assign rfl) ?_); (refine tkQ 10 (s := by exact Stab.assign rfl) ?_); (refine TrA.done (by kernel_rfl) ?_))
 clear hm hE
 have hx14 := hx13.mono hM13
 (repeat (first | ((with_reducible refine Tr.step rfl ?_); (with_reducible refine Knd.load ?_); (refine xwQ ?_)) | (with_reducible first | apply Tr.next | apply Tr.seq | apply Tr.region)))
 ((refine Tr.step rfl ?_)); refine Exec.call0 rfl (drop_fn M13 _ w0 (rwd_w0 M13) _ k8 hx14 (by decide) 8) rfl ?_
 rintro _ M14 hM14 (⟨-, x, rfl, hx15⟩ | ⟨hbad, -⟩)
 rotate_left
 ·exact absurd ⟨okB_k8, by decide⟩ hbad
 rw [k7_drop] at hx15
 obtain ⟨o1, o2, o3, o4, o5, o6, o7, o8, rfl⟩ := hx15.lit
 have hx16 := hx14.mono hM14
 have l8 : k8.reqs.length = 1 := rfl
 have l7 : k7.reqs.length = 0 := rfl
 (repeat (first | ((with_reducible refine Tr.step rfl ?_); (first | (refine xmQ ?_) | (refine xaQ ?_) | (refine xWQ ?_) | ((with_reducible refine Knd.alloc ?_); (refine Exec.alloc (tysOk.get rfl) rfl rfl (fun b => ?_))) | ((with_reducible refine Knd.extract ?_); (refine Exec.stab rfl (Stab.extract rfl rfl) rfl ?_)))) | (with_reducible first | apply Tr.next | apply Tr.seq | apply Tr.nil)))
 (((apply Tr.draw); (kernel_rfl)); (refine tkQ 0 (hB := by exact fun _ h => h) (s := by exact Stab.move rfl) ?_); (refine tkQ 1 (s := by exact siQ) ?_); (refine tkQ 2 (s := by exact Stab.move rfl) ?_); ((refine tgQ 3 (q := (decide_eq_false (by (with_reducible exact (not_not_intro rfl))))) (s := by exact Stab.move rfl) ?_)); ((refine tgQ 4 (q := (decide_eq_false (by (with_reducible exact (not_not_intro rfl))))) (s := by exact siQ) ?_)); (refine tkQ 5 (s := by exact Stab.pick_fd rfl (by (with_reducible exact (not_not_intro rfl))) rfl) ?_); (refine tkQ 6 (s := by exact Stab.move rfl) ?_); ((refine tgQ 7 (q := (decide_eq_false (by (with_reducible exact (not_not_intro rfl))))) (s := by exact Stab.move rfl) ?_)); ((refine tgQ 8 (q := (decide_eq_false (by (with_reducible exact (not_not_intro rfl))))) (s := by exact siQ) ?_)); (refine tkQ 9 (s := by exact Stab.pick_fd rfl (by (with_reducible exact (not_not_intro rfl))) rfl) ?_); (refine tkQ 10 (s := by exact Stab.move rfl) ?_); ((refine tgQ 11 (q := (decide_eq_false (by (with_reducible exact (not_not_intro rfl))))) (s := by exact Stab.move rfl) ?_)); ((refine tgQ 12 (q := (decide_eq_false (by (with_reducible exact (not_not_intro rfl))))) (s := by exact siQ) ?_)); (refine tkQ 13 (s := by exact Stab.pick_fd rfl (by (with_reducible exact (not_not_intro rfl))) rfl) ?_); (refine tkQ 14 (s := by exact Stab.move rfl) ?_); ((refine tgQ 15 (q := (decide_eq_false (by (with_reducible exact (not_not_intro rfl))))) (s := by exact Stab.move rfl) ?_)); ((refine tgQ 16 (q := (decide_eq_false (by (with_reducible exact (not_not_intro rfl))))) (s := by exact siQ) ?_)); (refine tkQ 17 (s := by exact Stab.pick_fd rfl (by (with_reducible exact (not_not_intro rfl))) rfl) ?_); (refine tkQ 18 (s := by exact Stab.move rfl) ?_); ((refine tgQ 19 (q := (decide_eq_false (by (with_reducible exact (not_not_intro rfl))))) (s := by exact Stab.move rfl) ?_)); ((refine tgQ 20 (q := (decide_eq_false (by (with_reducible exact (not_not_intro rfl))))) (s := by exact siQ) ?_)); (refine tkQ 21 (s := by exact Stab.pick_fd rfl (by (with_reducible exact (not_not_intro rfl))) rfl) ?_); (refine tkQ 22 (s := by exact Stab.move rfl) ?_); ((refine tgQ 23 (q := (decide_eq_false (by (with_reducible exact (not_not_intro rfl))))) (s := by exact Stab.move rfl) ?_)); ((refine tgQ 24 (q := (decide_eq_false (by (with_reducible exact (not_not_intro rfl))))) (s := by exact siQ) ?_)); (refine tkQ 25 (s := by exact Stab.pick_fd rfl (by (with_reducible exact (not_not_intro rfl))) rfl) ?_); (refine tkQ 26 (s := by exact Stab.move rfl) ?_); ((refine tgQ 27 (q := (decide_eq_false (by (with_reducible exact (not_not_intro rfl))))) (s := by exact Stab.move rfl) ?_)); ((refine tgQ 28 (q := (decide_eq_false (by (with_reducible exact (not_not_intro rfl))))) (s := by exact siQ) ?_)); (refine tkQ 29 (s := by exact Stab.pick_fd rfl (by (with_reducible exact (not_not_intro rfl))) rfl) ?_); (refine tkQ 30 (s := by exact Stab.move rfl) ?_); ((refine tgQ 31 (q := (decide_eq_false (by (with_reducible exact (not_not_intro rfl))))) (s := by exact Stab.move rfl) ?_)); ((refine tgQ 32 (q := (decide_eq_false (by (with_reducible exact (not_not_intro rfl))))) (s := by exact siQ) ?_)); (refine tkQ 33 (s := by exact Stab.pick_fd rfl (by (with_reducible exact (not_not_intro rfl))) rfl) ?_); (refine tkQ 34 (s := by exact Stab.move rfl) ?_); ((refine tgQ 35 (q := (decide_eq_false (by (with_reducible exact (not_not_intro rfl))))) (s := by exact Stab.move rfl) ?_)); ((refine tgQ 36 (q := (decide_eq_false (by (with_reducible exact (not_not_intro rfl))))) (s := by exact siQ) ?_)); (refine tkQ 37 (s := by exact Stab.pick_fd rfl (by (with_reducible exact (not_not_intro rfl))) rfl) ?_); (refine tkQ 38 (s := by exact Stab.move rfl) ?_); ((refine tgQ 39 (q := (decide_eq_false (by (with_reducible exact (not_not_intro rfl))))) (s := by exact Stab.move rfl) ?_)); ((refine tgQ 40 (q := (decide_eq_false (by (with_reducible exact (not_not_intro rfl))))) (s := by exact siQ) ?_)); (refine tkQ 41 (s := by exact Stab.pick_fd rfl (by (with_reducible exact (not_not_intro rfl))) rfl) ?_); (refine tkQ 42 (s := by exact Stab.move rfl) ?_); ((refine tgQ 43 (q := (decide_eq_false (by (with_reducible exact (not_not_intro rfl))))) (s := by exact Stab.move rfl) ?_)); ((refine tgQ 44 (q := (decide_eq_false (by (with_reducible exact (not_not_intro rfl))))) (s := by exact siQ) ?_)); (refine tkQ 45 (s := by exact Stab.pick_fd rfl (by (with_reducible exact (not_not_intro rfl))) rfl) ?_); (refine tkQ 46 (s := by exact Stab.move rfl) ?_); ((refine tgQ 47 (q := (decide_eq_false (by (with_reducible exact (not_not_intro rfl))))) (s := by exact swQ) ?_)); ((refine tgQ 48 (q := (decide_eq_false (by (with_reducible exact (not_not_intro rfl))))) (s := by exact swQ) ?_)); (refine TrA.eff 49 rfl (by kernel_rfl) (by exact .inr ⟨_, _, _, rfl, rfl, rfl⟩) ?_))
 refine Exec.call0 rfl (check_fn' M14 _ w0 (rwd_w0 M14) _ k8 hx16 (by decide)) rfl ?_
 rintro _ M15 hM15 rfl
 rw [chk_k8]
 refine ⟨hM15, (by exact fun _ h => h), ?_⟩
 (((refine tgQ 50 (q := (decide_eq_false (by (with_reducible exact (not_not_intro rfl))))) (s := by exact siQ) ?_)); (refine tkQ 51 (s := by exact Stab.pick_fd rfl (by (with_reducible exact (not_not_intro rfl))) rfl) ?_); (refine tkQ 52 (s := by exact Stab.move rfl) ?_); ((refine tgQ 53 (q := (decide_eq_false (by (with_reducible exact (not_not_intro rfl))))) (s := by exact swQ) ?_)); (refine TrA.eff 54 rfl (by kernel_rfl) (by exact .inr ⟨_, _, _, rfl, rfl, rfl⟩) ?_))
 refine Exec.call0 rfl (lrequest_fn M15 1 1 1) rfl ?_
 rintro _ _ hm ⟨rfl, rfl⟩
 refine ⟨hm, (by exact fun _ h => h), ?_⟩
 ((refine TrA.eff 55 rfl (by kernel_rfl) (by exact .inr ⟨_, _, _, rfl, rfl, rfl⟩) ?_); (((refine Knd.buildSlice ?_); ((refine Exec.buildSlice (tysOk.get rfl) rfl (tysOk.get rfl) rfl rfl rfl rfl rfl (by repeat (first | exact BuildP.nil | ((apply BuildP.many); (rfl); (rfl); (rfl); (rfl); (repeat (first | exact PutL.nil | ((apply PutL.cons); (repeat (first | exact SetL.z | apply SetL.s)))))))) rfl (fun b => ?_))))); (refine ⟨(by first | exact Mem.le.refl _ | assumption), (by exact (Sub.mem (by repeat (first | exact Sub.refl | apply Sub.cons)))), ?_⟩))
 refine TrA.publish (x := box _ 46 _) (by repeat (first | exact Del.here | apply Del.there)) (fun M16 hM16 hok16 => ?_)
 have hkb : RBp M16 (.agg #[.int .i64 0, .slice none 0 0, .slice (some ⟨_, 0, none⟩) 1 1, .slice none 0 0, .slice none 0 0]) kBad := ⟨none, 0, some ⟨_, 0, none⟩, 1, none, 0, none, 0, rfl, SlOf.nil _ _ _, SlOf.ofBoxC (sz := 6) (n := 1) (c := 1) (xs := kBad.reqs) hok16 rfl rfl (Nat.le_refl _) (by decide) (flatMap_one rqC_one kBad.reqs) (rqC_elems M16 kBad.reqs), SlOf.nil _ _ _, SlOf.nil _ _ _⟩
 (((refine tgQ 56 (q := (decide_eq_false (by (with_reducible exact (not_not_intro rfl))))) (s := by exact Stab.build tysOk rfl rfl rfl rfl (by repeat (first | exact BuildP.nil | ((apply BuildP.one); (rfl); (rfl); (first | rfl | assumption); (repeat (first | exact SetL.z | apply SetL.s)))))) ?_)); (refine TrA.eff 57 rfl (by kernel_rfl) (by exact .inr ⟨_, _, _, rfl, rfl, rfl⟩) ?_))
 refine Exec.call0 rfl (check_fn' M16 _ w0 (rwd_w0 M16) _ kBad hkb (by decide)) rfl ?_
 rintro _ M17 hM17 rfl
 rw [chk_bad]
 refine ⟨hM17, (by exact fun _ h => h), ?_⟩
 (((refine tgQ 58 (q := (decide_eq_false (by (with_reducible exact (not_not_intro rfl))))) (s := by exact siQ) ?_)); (refine tkQ 59 (s := by exact Stab.pick_fd rfl (by (with_reducible exact (not_not_intro rfl))) rfl) ?_); (refine TrA.done (by kernel_rfl) ?_))
 have hm17 : Mem.le M14 M17 := Mem.le.trans hM15 (Mem.le.trans hM16 hM17)
 have hm9 : Mem.le M9 M17 := Mem.le.trans hM10 (Mem.le.trans hM11 (Mem.le.trans hM12 (Mem.le.trans hM13 (Mem.le.trans hM14 hm17))))
 have hm10 : Mem.le M10 M17 := Mem.le.trans hM11 (Mem.le.trans hM12 (Mem.le.trans hM13 (Mem.le.trans hM14 hm17)))
 have hm5 : Mem.le M5 M17 := Mem.le.trans hM58 (Mem.le.trans hM9 hm9)
 have hm3 : Mem.le M3 M17 := Mem.le.trans hM4 (Mem.le.trans hM5 hm5)
 have hm0 : Mem.le M M17 := Mem.le.trans hM02 (Mem.le.trans hM3 hm3)
 obtain ⟨iA, _, hatA, rB, rk, rfl, hrow⟩ := (hal9.mono RRowI.mono hm9).elem (i := 0) rfl
 rw [show ([2] : List Int).length = 1 from rfl] at hatA hrow
 obtain ⟨iR, hatR⟩ := Ints.at hrow (i := 0) rfl
 obtain ⟨iD, _, hatD, rfl⟩ := (hD9.mono RRd.mono hm9).elem (i := 0) rfl
 simp only [rdC] at hatD
 obtain ⟨iB, hatB⟩ := Ints.at (hB6.mono RI.mono hm5) (i := 0) rfl
 obtain ⟨iC, hatC⟩ := Ints.at (hB10.mono RI.mono hm10) (i := 0) rfl
 obtain ⟨iE, hatE⟩ := Ints.at (hB10.mono RI.mono hm10) (i := 1) rfl
 (refine rQ ?_)
 ((refine Tr.guard_y rfl rfl rfl (by (with_reducible rfl)) ?_)); refine Exec.call0 rfl (sameB_fn M17 _ _ k0 k0 (hx6.mono hm5) (hx.mono hm3)) rfl ?_
 rintro _ _ _ ⟨⟨q, rfl, hq⟩, rfl⟩
 obtain rfl := hq.2 rfl
 (repeat (first | ((with_reducible refine Tr.step rfl ?_); (first | (refine xmQ ?_) | (refine xaQ ?_) | ((with_reducible refine Knd.pick ?_); (first | (refine Exec.stab rfl (Stab.pick_t rfl (by first | (with_reducible rfl) | (with_reducible exact Bool.not_false)) rfl) rfl ?_) | (refine Exec.stab rfl (Stab.pick_td rfl (by first | (with_reducible rfl) | omega) rfl) rfl ?_))))) | (with_reducible first | apply Tr.next | apply Tr.app | apply Tr.app0 | apply Tr.nil) | ((refine Tr.guard_l rfl rfl rfl (by first | (with_reducible rfl) | (with_reducible exact Bool.not_false)) ?_); (first | (refine xmQ ?_) | ((with_reducible refine Knd.load ?_); (first | (refine xlQ ?_) | (refine xMQ ?_))) | (refine xfQ ?_) | (refine xiQ ?_) | (refine xxQ ?_))) | ((refine Tr.guard_y rfl rfl rfl (by first | (with_reducible assumption) | (with_reducible rfl) | omega) ?_); (first | (refine xmQ ?_) | ((with_reducible refine Knd.load ?_); (first | (refine xlQ ?_) | (refine xMQ ?_) | (refine Exec.stab rfl (Stab.loadMA rfl (tysOk.get rfl) rfl (by assumption) (by first | rfl | assumption)) rfl ?_))) | (refine xfQ ?_) | (refine xnQ ?_) | ((with_reducible refine Knd.binOp ?_); (first | (refine Exec.stab rfl (Stab.steqL rfl rfl (by repeat (first | exact IntsL.nil | apply IntsL.cons)) (by repeat (first | exact IntsL.nil | apply IntsL.cons)) (tysOk.get rfl) rfl (by kernel_rfl) (by kernel_rfl) rfl rfl) rfl ?_) | (refine xiQ ?_))) | ((with_reducible refine Knd.unOp ?_); (refine Exec.stab rfl (Stab.not rfl) rfl ?_)) | (refine xxQ ?_) | ((with_reducible refine Knd.build ?_); (refine Exec.stab rfl (Stab.build tysOk rfl rfl rfl rfl (by repeat (first | exact BuildP.nil | ((apply BuildP.one); (rfl); (rfl); (first | rfl | assumption); (repeat (first | exact SetL.z | apply SetL.s))) | ((apply BuildP.many); (rfl); (rfl); (rfl); (rfl); (repeat (first | exact PutL.nil | ((apply PutL.cons); (repeat (first | exact SetL.z | apply SetL.s))))))))) rfl ?_)))) | (with_reducible refine Tr.ret ?_)))
 (refine dnQ (hL := by exact ⟨[_, _, _, _, _, _, _, _, _, _, _, _], rfl⟩) ⟨rfl, ?_⟩)
 rfl
end Go.Proofs.YtmikfjcdgkopkaaGreat

/-
 Promises: the amounts of a book, as the statements take them.
 Conditions: none.
-/
namespace Go.Proofs.YtmikfjcdgkopkaaGreat
open Go Bf
attribute [local irreducible] Tr Exec Stab HasTy Go.Addr.add IntKind.wrap
set_option maxHeartbeats 8000000 in
theorem lamounts_fn (M : Mem) (v : Value) (k : Bp) (hk : RBp M v k) (hs64 : k.sups.length ≤ 1000000) (hr64 : k.reqs.length ≤ 1000000) :
  Fn0 Tryz.prog 24 [v] M (fun r M' => ∃ A1 c1 A2 c2, r = .tuple #[.slice A1 (amS k.sups).length c1, .slice A2 (amR k.reqs).length c2] ∧ Ints M' (.slice A1 (amS k.sups).length c1) (amS k.sups) ∧ Ints M' (.slice A2 (amR k.reqs).length c2) (amR k.reqs)) := by
 obtain ⟨As, cs, Ar, cr, Af, cf, Ad, cd, rfl, h1, h2, h3, h4⟩ := hk
 refine Fn.intro Tryz.func24 rfl rfl Tryz.ntmps24 rfl fun E F => ?_
 (repeat (first | ((with_reducible refine Tr.step rfl ?_); (first | (refine xaQ ?_) | ((with_reducible refine Knd.box ?_); (refine Exec.box rfl rfl (fun b => ?_))))) | (with_reducible first | apply Tr.next | apply Tr.seq | apply Tr.region | apply Tr.nil | apply Tr.block)))
 generalize b = b1
 refine Tr.own_nil 3 1 ?_
 refine Tr.loop (α := Nat × Option Addr × Nat) (fun y => ⟨40, [(4, .int .i64 (y.1 : Int)), (2, .slice y.2.1 y.1 y.2.2), (3, .slice none 0 0), (1, .pointer (some ⟨b1, 0, none⟩))], [], M, ownS 3 1 y.2.1 y.1 y.2.2 (intV ((k.sups.take y.1).map (·.amount))) :: box b1 44 [.int .i64 k.known, .slice As k.sups.length cs, .slice Ar k.reqs.length cr, .slice Af k.fits.length cf, .slice Ad k.rds.length cd] :: ([] ++ F)⟩)
  (fun y => y.1 ≤ k.sups.length ∧ y.2.2 ≤ 9223372036854775807) (fun y => k.sups.length - y.1) (0, none, 0) ⟨Nat.zero_le _, by simp⟩ hsQ (fun y hy => ?_)
 obtain ⟨i, A1, c1⟩ := y
 obtain ⟨hi, hc1⟩ := hy
 simp only at hi hc1
 dsimp only
 by_cases hlt : i < k.sups.length
 ·obtain ⟨y, hy⟩ := get_of_lt hlt
  obtain ⟨hA, ch, hat, rfl⟩ := h1.elem hy
  have hat2 : At M (((As.getD default).add (i * 6)).add 5) [.int .i64 y.amount] := hat.drop 5
  have e1 := nums_take (·.amount) hy
  (repeat (first | ((with_reducible refine Tr.step rfl ?_); (first | (refine xmQ ?_) | ((with_reducible refine Knd.load ?_); (first | (refine xlQ ?_) | (refine xMQ ?_))) | ((with_reducible refine Knd.fieldAddr ?_); (first | (refine xfQ ?_) | (refine Exec.stab rfl (Stab.fieldD rfl (tysOk.get rfl) rfl rfl (tysOk.get rfl) rfl) rfl ?_))) | (refine xnQ ?_) | (refine xiQ ?_) | (refine xxQ ?_) | ((with_reducible refine Knd.buildSlice ?_); (refine Exec.buildSlice (tysOk.get rfl) rfl (tysOk.get rfl) rfl rfl rfl rfl rfl (by repeat (first | exact BuildP.nil | ((apply BuildP.one); (rfl); (rfl); (first | rfl | assumption); (repeat (first | exact SetL.z | apply SetL.s))))) rfl (fun b => ?_))))) | (with_reducible first | apply Tr.next | apply Tr.seq | apply Tr.region | apply Tr.nil | apply Tr.skip | apply Tr.block) | (refine Tr.cond_t rfl (by first | (with_reducible assumption) | omega) ?_)))
  ((refine Tr.step rfl ?_))
  refine Exec.append (news := [.int .i64 y.amount]) rfl rfl (tysOk.get rfl) rfl (tysOk.get rfl) rfl rfl rfl rfl (by repeat (first | exact Del.here | apply Del.there)) (Src.box (by repeat (first | exact Has.here | apply Has.there))) rfl (by intro u hu; simp at hu; subst hu; rfl) (by omega) (by omega) rfl (fun A3 c3 hc3 => ?_)
  refine gvQ (r := box _ 3 _) ?_
  rw [show intV ((k.sups.take i).map (·.amount)) ++ [Value.int .i64 y.amount] = intV ((k.sups.take (i + 1)).map (·.amount)) by rw [e1, intV_append]; rfl]
  (repeat (first | ((with_reducible refine Tr.step rfl ?_); (first | (refine xmQ ?_) | (refine xaQ ?_) | (refine xdQ ?_))) | (with_reducible first | apply Tr.next | apply Tr.region | apply Tr.nil | apply Tr.in_normal)))
  exact Tr.again (i + 1, A3, c3) ⟨by simp only; omega, hc3⟩ (by simp only; omega) hsQ
 have ei : i = k.sups.length := by omega
 subst ei
 rw [List.take_length]
 (refine rQ ?_)
 refine Tr.own_nil 3 1 ?_
 refine Tr.loop (α := Nat × Option Addr × Nat) (fun y => ⟨40, [(5, .int .i64 (y.1 : Int)), (3, .slice y.2.1 y.1 y.2.2), (2, .slice A1 k.sups.length c1), (1, .pointer (some ⟨b1, 0, none⟩))], [], M, ownS 3 1 y.2.1 y.1 y.2.2 (intV ((k.reqs.take y.1).map (·.amount))) :: ownS 3 1 A1 k.sups.length c1 (intV (k.sups.map (·.amount))) :: box b1 44 [.int .i64 k.known, .slice As k.sups.length cs, .slice Ar k.reqs.length cr, .slice Af k.fits.length cf, .slice Ad k.rds.length cd] :: ([] ++ F)⟩)
  (fun y => y.1 ≤ k.reqs.length ∧ y.2.2 ≤ 9223372036854775807) (fun y => k.reqs.length - y.1) (0, none, 0) ⟨Nat.zero_le _, by simp⟩ hsQ (fun y hy => ?_)
 obtain ⟨i, A2, c2⟩ := y
 obtain ⟨hi, hc2⟩ := hy
 simp only at hi hc2
 dsimp only
 by_cases hlt : i < k.reqs.length
 ·obtain ⟨y, hy⟩ := get_of_lt hlt
  obtain ⟨hA, ch, hat, rfl⟩ := h2.elem hy
  have hat2 : At M (((Ar.getD default).add (i * 6)).add 5) [.int .i64 y.amount] := hat.drop 5
  have e1 := nums_take (·.amount) hy
  (repeat (first | ((with_reducible refine Tr.step rfl ?_); (first | (refine xmQ ?_) | ((with_reducible refine Knd.load ?_); (first | (refine xlQ ?_) | (refine xMQ ?_))) | ((with_reducible refine Knd.fieldAddr ?_); (first | (refine xfQ ?_) | (refine Exec.stab rfl (Stab.fieldD rfl (tysOk.get rfl) rfl rfl (tysOk.get rfl) rfl) rfl ?_))) | (refine xnQ ?_) | (refine xiQ ?_) | (refine xxQ ?_) | ((with_reducible refine Knd.buildSlice ?_); (refine Exec.buildSlice (tysOk.get rfl) rfl (tysOk.get rfl) rfl rfl rfl rfl rfl (by repeat (first | exact BuildP.nil | ((apply BuildP.one); (rfl); (rfl); (first | rfl | assumption); (repeat (first | exact SetL.z | apply SetL.s))))) rfl (fun b => ?_))))) | (with_reducible first | apply Tr.next | apply Tr.seq | apply Tr.region | apply Tr.nil | apply Tr.skip | apply Tr.block) | (refine Tr.cond_t rfl (by first | (with_reducible assumption) | omega) ?_)))
  ((refine Tr.step rfl ?_))
  refine Exec.append (news := [.int .i64 y.amount]) rfl rfl (tysOk.get rfl) rfl (tysOk.get rfl) rfl rfl rfl rfl (by repeat (first | exact Del.here | apply Del.there)) (Src.box (by repeat (first | exact Has.here | apply Has.there))) rfl (by intro u hu; simp at hu; subst hu; rfl) (by omega) (by omega) rfl (fun A3 c3 hc3 => ?_)
  refine gvQ (r := box _ 3 _) ?_
  rw [show intV ((k.reqs.take i).map (·.amount)) ++ [Value.int .i64 y.amount] = intV ((k.reqs.take (i + 1)).map (·.amount)) by rw [e1, intV_append]; rfl]
  (repeat (first | ((with_reducible refine Tr.step rfl ?_); (first | (refine xmQ ?_) | (refine xaQ ?_) | (refine xdQ ?_))) | (with_reducible first | apply Tr.next | apply Tr.region | apply Tr.nil | apply Tr.in_normal)))
  exact Tr.again (i + 1, A3, c3) ⟨by simp only; omega, hc3⟩ (by simp only; omega) hsQ
 have ei : i = k.reqs.length := by omega
 subst ei
 rw [List.take_length]
 refine pbQ (r := ownS 3 1 A2 _ _ _) (fun M2 hm2 hok => ?_)
 refine pbQ (r := ownS 3 1 A1 _ _ _) (fun M3 hm3 hok2 => ?_)
 have hI1 : Ints M3 (.slice A1 (amS k.sups).length c1) (amS k.sups) := Ints.ofOwn hok2 (by simp [amS]) hc1
 have hI2 : Ints M3 (.slice A2 (amR k.reqs).length c2) (amR k.reqs) := (Ints.ofOwn hok (by simp) hc2).mono RI.mono hm3
 have hmm := hm2.trans hm3
 rw [show k.sups.length = (amS k.sups).length by simp [amS], show k.reqs.length = (amR k.reqs).length by simp [amR]]
 (refine rQ ?_)
 (refine dnQ (hL := by exact ⟨[_], rfl⟩) ⟨rfl, ?_⟩)
 exact ⟨_, _, _, _, rfl, hI1, hI2⟩
end Go.Proofs.YtmikfjcdgkopkaaGreat

/-
 Promises, plain: what New and Drop answer, as one answer.
 Conditions: none.
-/
namespace Go.Proofs.YtmikfjcdgkopkaaGreat
open Go Bf
noncomputable def newE (s : List Sp) : Int := open Classical in if ¬ okT s [] then 290 else if ¬ (s.map (·.no)).Nodup then 310 else 0
noncomputable def newK (w : Wd) (s : List Sp) (known : Int) : Bp := open Classical in if newE s ≠ 0 then zP else mkF w (bkN known s) []
def NewW (w : Wd) (s : List Sp) (known : Int) (v : Value) (M : Mem) : Prop := ∃ x, v = .tuple #[x, .int .i64 (newE s)] ∧ RBp M x (newK w s known)
theorem NewV.one {w : Wd} {s : List Sp} {known : Int} {v : Value} {M : Mem} (h : NewV w s known v M) : NewW w s known v M := by
 rcases h with ⟨h1, rfl⟩ | ⟨h1, h2, rfl⟩ | ⟨h1, h2, x, rfl, hx⟩
 ·have e : newE s = 290 := by rw [newE, if_pos h1]
  exact ⟨_, by rw [e], by rw [newK, if_pos (by rw [e]; decide)]; exact RBp.zero M⟩
 ·have e : newE s = 310 := by rw [newE, if_neg (not_not_intro h1), if_pos h2]
  exact ⟨_, by rw [e], by rw [newK, if_pos (by rw [e]; decide)]; exact RBp.zero M⟩
 ·have e : newE s = 0 := by rw [newE, if_neg (not_not_intro h1), if_neg (not_not_intro h2)]
  exact ⟨x, by rw [e], by rw [newK, if_neg (not_not_intro e)]; exact hx⟩
noncomputable def dropE (w : Wd) (k : Bp) (no : Int) : Int := open Classical in if okB w k ∧ no ∈ k.reqs.map (·.no) then 0 else 310
noncomputable def dropK (w : Wd) (k : Bp) (no : Int) : Bp := open Classical in if okB w k ∧ no ∈ k.reqs.map (·.no) then dropB w k no else zP
def DropW (w : Wd) (k : Bp) (no : Int) (v : Value) (M : Mem) : Prop := ∃ x, v = .tuple #[x, .int .i64 (dropE w k no)] ∧ RBp M x (dropK w k no)
theorem DropV.one {w : Wd} {k : Bp} {no : Int} {v : Value} {M : Mem} (h : DropV w k no v M) : DropW w k no v M := by
 rcases h with ⟨h1, x, rfl, hx⟩ | ⟨h1, rfl⟩
 ·exact ⟨x, by rw [dropE, if_pos h1], by rw [dropK, if_pos h1]; exact hx⟩
 ·exact ⟨_, by rw [dropE, if_neg h1], by rw [dropK, if_neg h1]; exact RBp.zero M⟩
theorem EarP.unique {w : Wd} {k : Bp} {r : Rq} {d d' : Int} {o o' : Bool} (h : EarP w k r d o) (h' : EarP w k r d' o') : d = d' ∧ o = o' := by
 have key : ∀ {d d' : Int} {o : Bool}, EarP w k r d true → EarP w k r d' o → o = true ∧ d' ≤ d := fun {d d' o} h1 h2 => by
  rcases h1 with ⟨-, ⟨a1, a2⟩, a3, -⟩ | ⟨e, -⟩
  ·cases o with
   | false => exact absurd a3 (ear_before h2 a1 a2 (fun e => by cases e))
   | true =>
    refine ⟨rfl, Int.not_lt.1 fun hlt => ?_⟩
    exact absurd a3 (ear_before h2 a1 a2 fun _ => hlt)
  ·cases e
 cases o with
 | true =>
  obtain ⟨rfl, h1⟩ := key h h'
  obtain ⟨-, h2⟩ := key h' h
  exact ⟨by omega, rfl⟩
 | false =>
  cases o' with
  | true => exact absurd (key h' h).1 (by decide)
  | false =>
   rcases h with ⟨e, -⟩ | ⟨-, rfl, -⟩
   ·cases e
   rcases h' with ⟨e, -⟩ | ⟨-, rfl, -⟩
   ·cases e
   exact ⟨rfl, rfl⟩
theorem EarV.unique {w : Wd} {k : Bp} {r : Rq} {u v : Value} (h : EarV w k r u) (h' : EarV w k r v) : u = v := by
 rcases h with ⟨h0, d, o, rfl, hE⟩ | ⟨h0, rfl⟩ <;> rcases h' with ⟨g0, d', o', rfl, gE⟩ | ⟨g0, rfl⟩
 ·obtain ⟨rfl, rfl⟩ := hE.unique gE
  rfl
 ·exact absurd h0 g0
 ·exact absurd g0 h0
 ·rfl
theorem EarV.lit {w : Wd} {k : Bp} {r : Rq} {u : Value} (h : EarV w k r u) : ∃ d o, u = .tuple #[.int .i64 d, .bool o, .int .i64 (askE w k r)] := by
 rcases h with ⟨h0, d, o, rfl, -⟩ | ⟨-, rfl⟩
 ·exact ⟨d, o, by rw [h0]⟩
 ·exact ⟨_, _, rfl⟩
end Go.Proofs.YtmikfjcdgkopkaaGreat

/-
 Matching: the contract of the program's Check.
 Conditions: none.
-/
namespace Go.Proofs.YtmikfjcdgkopkaaGreat
open Go Bf
attribute [local irreducible] Tr Exec Stab HasTy Go.Addr.add IntKind.wrap
set_option maxHeartbeats 8000000 in
set_option maxRecDepth 20000 in
theorem mcheck_fn (M : Mem) (A0 A1 A2 A3 : Option Addr) (c0 c1 c2 c3 : Nat) (fits : List (List Bool)) (sup need : List Int) (am : List (List Int)) (hf : Fits2 M (.slice A0 fits.length c0) fits) (hs : Ints M (.slice A1 sup.length c1) sup) (hn : Ints M (.slice A2 need.length c2) need) (ha : Ints2 M (.slice A3 am.length c3) am) (rs : I64s sup) (rn : I64s need) :
  Fn0 Tryz.prog 26 [.slice A0 fits.length c0, .slice A1 sup.length c1, .slice A2 need.length c2, .slice A3 am.length c3] M (fun r M' => CheckR fits sup need am r ∧ M = M') := by
 have la := ha.len_le
 refine Fn.intro Tryz.func26 rfl rfl Tryz.ntmps26 rfl fun E F => ?_
 repeat (first | ((with_reducible refine Tr.step rfl ?_); (first | (refine xmQ ?_) | (refine xaQ ?_))) | (with_reducible first | apply Tr.next | apply Tr.seq | apply Tr.region | apply Tr.nil))
 ((refine Tr.step rfl ?_)); refine Exec.call0 rfl (valid_fn M A0 A1 A2 c0 c1 c2 fits sup need hf hs hn rs rn) rfl ?_
 rintro _ _ _ ⟨rfl, rfl⟩
 cases hvv : validF fits sup need
 ·refine rQ ?_
  (refine dnQ (hL := by exact ⟨[], rfl⟩) ⟨rfl, ?_⟩)
  exact ⟨.inl ⟨hvv, rfl⟩, rfl⟩
 have hv := vld_iff.1 hvv
 have l1 := hv.ls
 have l2 := hv.ln
 have l3 := hv.lf
 by_cases hl : am.length = sup.length
 rotate_left
 ·refine rQ ?_
  (refine dnQ (hL := by exact ⟨[], rfl⟩) ⟨rfl, ?_⟩)
  exact ⟨CheckR.no hv fun h => hl h.len, rfl⟩
 repeat (first | ((with_reducible refine Tr.step rfl ?_); (first | (refine xmQ ?_) | (refine xaQ ?_) | (refine xnQ ?_) | (refine xiQ ?_) | ((with_reducible refine Knd.unOp ?_); ((refine Exec.stab rfl (Stab.not rfl) rfl ?_))) | ((with_reducible refine Knd.makeSlice ?_); (refine Exec.make rfl rfl (tysOk.get rfl) rfl (tysOk.get rfl) rfl rfl rfl (by omega) (by omega) (by first | omega | (simp; done) | (simp; omega)) (by omega) rfl (fun b => ?_))))) | (with_reducible first | apply Tr.next | apply Tr.seq | apply Tr.region | apply Tr.nil | apply Tr.skip | apply Tr.block) | (refine Tr.cond_bf rfl (by first | (with_reducible rfl) | (with_reducible exact Bool.not_true)) ?_) | (refine Tr.cond_f rfl (by omega) ?_))
 rw [show ((need.length : Int)).toNat = need.length by omega, show List.replicate need.length (Value.int .i64 0) = intV (List.replicate need.length 0) by simp [intV]]
 generalize b = cb
 refine Tr.loop (α := Nat × List Int) (fun y => ⟨90, [(30, .int .i64 (y.1 : Int)), (29, .int .i64 (am.length : Int)), (28, .slice A3 am.length c3), (10, .slice (some ⟨cb, 0, none⟩) need.length need.length), (0, .slice A0 fits.length c0), (1, .slice A1 sup.length c1), (2, .slice A2 need.length c2)], [], M, box cb 3 (intV y.2) :: ([] ++ F)⟩)
  (fun y => y.1 ≤ am.length ∧ Upto fits sup need am y.1 0 y.2) (fun y => am.length - y.1) (0, List.replicate need.length 0) ⟨Nat.zero_le _, Upto.start _ _ _ _⟩ hsQ (fun y hy => ?_)
 obtain ⟨i, col⟩ := y
 obtain ⟨hi, hu⟩ := hy
 simp only at hi hu
 dsimp only
 have hcl := hu.cl
 have hcv : (intV col).length = need.length := by simp [hcl]
 by_cases hin : i < am.length
 rotate_left
 ·have ei : i = am.length := by omega
  subst ei
  have heq := Fn.lend (M := M) (rs := [box cb 3 (intV col)]) (P := Tryz.prog) (f := 70) (args := [.slice (some ⟨cb, 0, none⟩) need.length need.length, .slice A2 need.length c2]) (R := fun r => ∃ b : Bool, r = .bool b ∧ (b = true ↔ col = need)) (clone_ok _ _ _ _ _ _ (equal_fn M need need A2 A2 c2 c2 hn hn)) (fun M' hm hok => by
   have hb : (box cb 3 (intV col)).ok M' := hok _ (by simp)
   have hI := Ints.ofBox hb (by omega)
   have := equal_fn M' col need (some ⟨cb, 0, none⟩) A2 col.length c2 hI (hn.mono RI.mono hm)
   rw [hcl] at this
   exact this)
  rw [hl] at hu
  have hfin := hu.fin hl
  refine rQ ?_
  ((refine Tr.step rfl ?_))
  refine Exec.call (A := [box cb 3 (intV col)]) rfl heq (List.Perm.refl _) rfl ?_
  rintro _ _ _ _ ⟨rfl, rfl, b, rfl, hb⟩
  repeat (first | ((with_reducible refine Tr.step rfl ?_); ((refine xaQ ?_))) | (with_reducible first | apply Tr.next | apply Tr.nil | apply Tr.ret))
  (refine dnQ (hL := by exact ⟨[_], rfl⟩) ⟨rfl, ?_⟩)
  exact ⟨.inr ⟨hv, b, rfl, hb.trans hfin⟩, rfl⟩
 obtain ⟨r, hr⟩ := get_of_lt hin
 obtain ⟨hA3, rch, rat, rB, rk, rfl, hrI⟩ := ha.elem hr
 have hrcap := hrI.cap
 by_cases hrl : r.length = need.length
 rotate_left
 ·refine rQ ?_
  (refine dnQ (hL := by exact ⟨[_], rfl⟩) ⟨rfl, ?_⟩)
  exact ⟨CheckR.no hv fun h => hrl (h.rows r (List.mem_of_getElem? hr)), rfl⟩
 refine rQ ?_
 refine Tr.loop (α := Nat × List Int) (fun y => ⟨90, [(42, .int .i64 (y.1 : Int)), (41, .int .i64 (r.length : Int)), (40, .slice rB r.length rk), (12, .slice rB r.length rk), (11, .int .i64 (i : Int)), (30, .int .i64 (i : Int)), (29, .int .i64 (am.length : Int)), (28, .slice A3 am.length c3), (10, .slice (some ⟨cb, 0, none⟩) need.length need.length), (0, .slice A0 fits.length c0), (1, .slice A1 sup.length c1), (2, .slice A2 need.length c2)], [], M, box cb 3 (intV y.2) :: ([] ++ F)⟩)
  (fun y => y.1 ≤ need.length ∧ Upto fits sup need am i y.1 y.2) (fun y => need.length - y.1) (0, col) ⟨Nat.zero_le _, hu⟩ hsQ (fun y hy => ?_)
 clear hu hcl hcv
 obtain ⟨j, col⟩ := y
 obtain ⟨hj, hu⟩ := hy
 simp only at hj hu
 dsimp only
 have hcl := hu.cl
 have hcv : (intV col).length = need.length := by simp [hcl]
 have hisl : i < sup.length := by omega
 obtain ⟨s, hs1⟩ := get_of_lt hisl
 obtain ⟨hA1, sat⟩ := hs.at hs1
 have hsr := hv.rs s (List.mem_of_getElem? hs1)
 have hsd : sup.getD i 0 = s := getD_of hs1
 by_cases hjn : j < need.length
 rotate_left
 ·have ej : j = need.length := by omega
  subst ej
  have hrow : r.sum = sumN need.length (am2 am i) := by rw [am2_row hr, sumN_list, hrl]
  have hall : ∀ x ∈ r, 0 ≤ x ∧ x ≤ 1048576 := fun x hx => by
   obtain ⟨q, hq⟩ := List.mem_iff_getElem?.1 hx
   have hq1 := (List.getElem?_eq_some_iff.1 hq).1
   have := hu.ok i q hisl (by omega) (.inr ⟨rfl, by omega⟩)
   rw [am2_of hr hq] at this
   exact ⟨this.1, this.2.1⟩
  have hsum := sum_fn M [] rB rk r hrcap.2.1 (fun h => by
   cases rB with
   | none => exact absurd (List.eq_nil_of_length_eq_zero (hrcap.2.2.2 rfl)) h
   | some a => rfl) (Src.row hrI.row) (small_of (by omega) hall)
  have hsr2 := sum_rng (l := r) (by omega) hall
  refine rQ ?_
  (((apply Tr.draw); (kernel_rfl)); (refine tkQ 0 (hB := by exact fun _ h => h) (s := by exact Stab.move rfl) ?_); (refine tkQ 2 (s := by exact Stab.move rfl) ?_); (refine tkQ 3 (s := by exact Stab.move rfl) ?_); (refine tkQ 4 (s := by exact sxQ) ?_); (refine tkQ 5 (s := by exact sMQ) ?_); (refine TrA.eff 1 rfl (by kernel_rfl) (by exact .inl rfl) ?_))
  refine Exec.call (A := []) rfl hsum (List.Perm.refl _) rfl ?_
  rintro _ _ _ _ ⟨rfl, rfl, rfl⟩
  refine ⟨Mem.le.refl _, (by exact fun _ h => h), ?_⟩
  ((refine tkQ 6 (s := by exact siQ) ?_); (refine TrA.done (by kernel_rfl) ?_))
  by_cases hso : s < r.sum
  ·repeat (first | ((with_reducible refine Tr.step rfl ?_); ((refine xaQ ?_))) | (with_reducible first | apply Tr.next | apply Tr.seq | apply Tr.region | apply Tr.nil | apply Tr.ret | apply Tr.then_ret | apply Tr.in_ret) | (refine Tr.cond_t rfl (by (with_reducible assumption)) ?_))
   (refine dnQ (hL := by exact ⟨[_], rfl⟩) ⟨rfl, ?_⟩)
   exact ⟨CheckR.no hv fun h => by have := h.row i hisl; omega, rfl⟩
  ·repeat (first | ((with_reducible refine Tr.step rfl ?_); (first | (refine xmQ ?_) | (refine xdQ ?_))) | (with_reducible first | apply Tr.next | apply Tr.region | apply Tr.nil | apply Tr.skip | apply Tr.in_normal) | (refine Tr.cond_f rfl (by (with_reducible assumption)) ?_))
   refine Tr.again (i + 1, col) ⟨by simp only; omega, hu.row hr hrl (by omega)⟩ (by simp only; omega) hsQ
 obtain ⟨x, hx⟩ := get_of_lt (xs := r) (i := j) (by omega)
 obtain ⟨hrB, xat⟩ := hrI.at hx
 have hxa := am2_of hr hx
 obtain ⟨frow, hfr⟩ := get_of_lt (xs := fits) (i := i) (by omega)
 have hfrl := hv.rows frow (List.mem_of_getElem? hfr)
 obtain ⟨hA0, fch, fat, fB, fk, rfl, hfB⟩ := hf.elem hfr
 obtain ⟨fx, hfx⟩ := get_of_lt (xs := frow) (i := j) (by omega)
 obtain ⟨hfA, fxat⟩ := hfB.at hfx
 have hfd : (fits.getD i []).getD j false = fx := by rw [getD_of (d := []) hfr, getD_of (d := false) hfx]
 obtain ⟨cv, hcv1⟩ := get_of_lt (xs := col) (i := j) (by omega)
 have hcv2 : nthL (intV col) j = some (.int .i64 cv) := by rw [nthL_eq]; exact intV_get hcv1
 have hcr := hu.col_rng (by omega) (by omega) hjn (Nat.le_refl _)
 rw [getD_of hcv1] at hcr
 by_cases hx0 : x < 0
 ·refine rQ ?_
  (refine dnQ (hL := by exact ⟨[_], rfl⟩) ⟨rfl, ?_⟩)
  exact ⟨CheckR.no hv (CheckP.bad hisl hjn (.inl (by omega))), rfl⟩
 by_cases hxs : s < x
 ·refine rQ ?_
  (refine dnQ (hL := by exact ⟨[_], rfl⟩) ⟨rfl, ?_⟩)
  exact ⟨CheckR.no hv (CheckP.bad hisl hjn (.inr (.inl (by omega)))), rfl⟩
 have hst := hu.step (j := j) hjn (by rw [hxa]; omega)
 rw [getD_of hcv1, hxa] at hst
 by_cases hxp : 0 < x
 ·cases fx
  ·refine rQ ?_
   (refine dnQ (hL := by exact ⟨[_], rfl⟩) ⟨rfl, ?_⟩)
   exact ⟨CheckR.no hv (CheckP.bad hisl hjn (.inr (.inr ⟨by omega, hfd⟩))), rfl⟩
  ·repeat (first | ((with_reducible refine Tr.step rfl ?_); (first | (refine xmQ ?_) | (refine xaQ ?_) | ((with_reducible refine Knd.load ?_); (first | (refine Exec.stab rfl (Stab.load rfl (tysOk.get rfl) rfl (by repeat (first | exact Has.here | apply Has.there)) (by assumption)) rfl ?_) | (refine xMQ ?_))) | ((with_reducible refine Knd.binOp ?_); (first | (refine xdQ ?_) | (refine xiQ ?_))) | ((with_reducible refine Knd.pick ?_); ((refine Exec.stab rfl (Stab.pick_fd rfl (by (with_reducible assumption)) rfl) rfl ?_))) | ((with_reducible refine Knd.store ?_); ((refine Exec.storeS rfl rfl (tysOk.get rfl) rfl (by first | rfl | assumption) (by repeat (first | exact Upd.here | apply Upd.there)) (by omega) ?_))) | ((with_reducible refine Knd.indexAddr ?_); (first | (refine Exec.stab rfl (Stab.indexB0 rfl rfl (tysOk.get rfl) rfl (tysOk.get rfl) rfl (by omega) (by omega)) rfl ?_) | (refine xxQ ?_))))) | (with_reducible first | apply Tr.next | apply Tr.seq | apply Tr.region | apply Tr.nil) | ((refine Tr.guard_y rfl rfl rfl (by (with_reducible assumption)) ?_); (first | (refine xmQ ?_) | (refine xMQ ?_) | ((with_reducible refine Knd.unOp ?_); ((refine Exec.stab rfl (Stab.not rfl) rfl ?_))) | (refine xxQ ?_))) | ((refine Tr.guard_y' rfl rfl rfl (by (with_reducible assumption)) ?_); (first | (refine xmQ ?_) | (refine xMQ ?_) | (refine xiQ ?_) | ((with_reducible refine Knd.pick ?_); ((refine Exec.stab rfl (Stab.pick_td rfl (by (with_reducible assumption)) rfl) rfl ?_))) | (refine xxQ ?_))) | (with_reducible first | apply Tr.skip | apply Tr.block | apply Tr.in_normal) | (refine Tr.cond_bf rfl (by first | (with_reducible rfl) | (with_reducible exact Bool.not_true)) ?_) | (refine Tr.cond_t rfl (by first | (with_reducible assumption) | omega) ?_))
   rw [intV_set]
   refine Tr.again (j + 1, col.set j (cv + x)) ⟨by simp only; omega, hst fun _ => hfd⟩ (by simp only; omega) hsQ
 ·repeat (first | ((with_reducible refine Tr.step rfl ?_); (first | (refine xmQ ?_) | (refine xaQ ?_) | ((with_reducible refine Knd.load ?_); (first | (refine Exec.stab rfl (Stab.load rfl (tysOk.get rfl) rfl (by repeat (first | exact Has.here | apply Has.there)) (by assumption)) rfl ?_) | (refine xMQ ?_))) | ((with_reducible refine Knd.binOp ?_); (first | (refine xdQ ?_) | (refine xiQ ?_))) | ((with_reducible refine Knd.pick ?_); ((refine Exec.stab rfl (Stab.pick_fd rfl (by (with_reducible assumption)) rfl) rfl ?_))) | ((with_reducible refine Knd.store ?_); ((refine Exec.storeS rfl rfl (tysOk.get rfl) rfl (by first | rfl | assumption) (by repeat (first | exact Upd.here | apply Upd.there)) (by omega) ?_))) | ((with_reducible refine Knd.indexAddr ?_); (first | (refine Exec.stab rfl (Stab.indexB0 rfl rfl (tysOk.get rfl) rfl (tysOk.get rfl) rfl (by omega) (by omega)) rfl ?_) | (refine xxQ ?_))))) | (with_reducible first | apply Tr.next | apply Tr.seq | apply Tr.region | apply Tr.nil) | ((refine Tr.guard_y' rfl rfl rfl (by (with_reducible assumption)) ?_); (first | (refine xmQ ?_) | (refine xMQ ?_) | (refine xiQ ?_) | ((with_reducible refine Knd.pick ?_); ((refine Exec.stab rfl (Stab.pick_fd rfl (by (with_reducible assumption)) rfl) rfl ?_))) | (refine xxQ ?_))) | (refine Tr.guard_n rfl rfl rfl (by (with_reducible assumption)) rfl rfl ?_) | (with_reducible first | apply Tr.skip | apply Tr.block | apply Tr.in_normal) | (refine Tr.cond_bf rfl (by (with_reducible rfl)) ?_) | (refine Tr.cond_t rfl (by first | (with_reducible assumption) | omega) ?_))
  rw [intV_set]
  refine Tr.again (j + 1, col.set j (cv + x)) ⟨by simp only; omega, hst fun h => by omega⟩ (by simp only; omega) hsQ
end Go.Proofs.YtmikfjcdgkopkaaGreat

/-
 Promises: the law PromisesKept.
 Conditions: none.
-/
namespace Go.Proofs.YtmikfjcdgkopkaaGreat
open Go Bf
attribute [local irreducible] Tr Exec Stab HasTy Go.Addr.add IntKind.wrap
structure St31 where
 drop : Bool
 r : Rq
 no : Int
def stpC (x : St31) : List Value := [.bool x.drop, .int .i64 x.r.no, .int .i64 x.r.item, .int .i64 x.r.cust, .int .i64 x.r.due, .int .i64 x.r.shelf, .int .i64 x.r.amount, .int .i64 x.no]
def RStp (_ : Mem) (c : List Value) (x : St31) : Prop := c = stpC x
theorem RStp.mono (M M' : Mem) (c : List Value) (f : St31) (_ : Mem.le M M') (h : RStp M c f) : RStp M' c f := h
theorem rqC_at {l : List Rq} {j : Nat} {y : Rq} (h : l[j]? = some y) : ((l.flatMap rqC).drop (j * 6)).take 6 = rqC y := by
 have := (rqC_elems (fun _ => none) l).2 j y h
 exact this
theorem lessR_take {l : List Rq} {i : Nat} {y : Rq} {no : Int} (hy : l[i]? = some y) : lessR (l.take (i + 1)) no = if y.no = no then lessR (l.take i) no else lessR (l.take i) no ++ [y] := by
 unfold lessR
 rw [List.take_add_one, hy, Option.toList_some, List.filter_append]
 split
 ·rename_i h; rw [List.filter_cons_of_neg (by simp [h])]; simp
 ·rename_i h; rw [List.filter_cons_of_pos (by simp [h])]; simp
set_option maxHeartbeats 32000000 in
set_option maxRecDepth 20000 in
theorem keptlaw_fn (M : Mem) (ws : List Value) (w : Wd) (hw : RWd M ws w) (As0 : Option Addr) (cs0 : Nat) (s : List Sp) (hs : SlOf 6 RSpC M (.slice As0 s.length cs0) s) (known : Int) (A2 : Option Addr) (c2 : Nat) (l : List St31) (hl : SlOf 8 RStp M (.slice A2 l.length c2) l) :
  Fn0 Tryz.prog 7 [.agg ws.toArray, .slice As0 s.length cs0, .int .i64 known, .slice A2 l.length c2] M (fun v _ => v = .bool true) := by
 have h11 := hw.len
 have hll := hl.len_le
 refine Fn.intro Tryz.func7 rfl rfl Tryz.ntmps7 rfl fun E F => ?_
 (repeat (first | ((with_reducible refine Tr.step rfl ?_); (first | (refine xaQ ?_) | ((with_reducible refine Knd.box ?_); (refine Exec.box rfl rfl (fun b => ?_))))) | (with_reducible first | apply Tr.next | apply Tr.seq | apply Tr.region | apply Tr.nil)))
 generalize b = b4
 ((refine Tr.step rfl ?_)); refine Exec.call0 rfl (sane31_fn M) rfl ?_
 rintro _ M1 hm1 rfl
 (repeat (first | ((with_reducible refine Tr.step rfl ?_); (first | (refine xmQ ?_) | ((with_reducible refine Knd.load ?_); (refine Exec.stab rfl (Stab.loadW rfl (tysOk.get rfl) rfl (by repeat (first | exact Has.here | apply Has.there)) (by assumption)) rfl ?_)) | ((with_reducible refine Knd.unOp ?_); (refine Exec.stab rfl (Stab.not rfl) rfl ?_)) | ((with_reducible refine Knd.build ?_); (refine Exec.stab rfl (Stab.build tysOk rfl rfl rfl rfl (by repeat (first | exact BuildP.nil | ((apply BuildP.one); (rfl); (rfl); (first | rfl | assumption); (repeat (first | exact SetL.z | apply SetL.s)))))) rfl ?_)))) | (with_reducible first | apply Tr.next | apply Tr.seq | apply Tr.region | apply Tr.nil | apply Tr.skip) | (refine Tr.cond_bf rfl (by first | (with_reducible rfl) | (with_reducible exact Bool.not_true)) ?_)))
 ((refine Tr.step rfl ?_)); refine Exec.call0 rfl (few31_fn M1 ws w (hw.mono hm1) _ ⟨0, s, [], [], []⟩ ⟨As0, cs0, none, 0, none, 0, none, 0, rfl, hs.mono RSpC.mono hm1, SlOf.nil _ _ _, SlOf.nil _ _ _, SlOf.nil _ _ _⟩) rfl ?_
 rintro _ _ _ ⟨⟨q, rfl, hq⟩, rfl⟩
 cases q
 ·(refine rQ ?_)
  (refine dnQ (hL := by exact ⟨[_], rfl⟩) ⟨rfl, ?_⟩)
  rfl
 have hsl : s.length ≤ 5 := (hq rfl).sl
 clear hq
 by_cases hl6 : l.length > 6
 ·(refine rQ ?_)
  (refine dnQ (hL := by exact ⟨[_], rfl⟩) ⟨rfl, ?_⟩)
  rfl
 (repeat (first | ((with_reducible refine Tr.step rfl ?_); (first | (refine xmQ ?_) | ((with_reducible refine Knd.load ?_); (refine Exec.stab rfl (Stab.loadW rfl (tysOk.get rfl) rfl (by repeat (first | exact Has.here | apply Has.there)) (by assumption)) rfl ?_)) | ((with_reducible refine Knd.pick ?_); (refine Exec.stab rfl (Stab.pick_f rfl (by (with_reducible exact Bool.not_true)) rfl) rfl ?_)) | ((with_reducible refine Knd.unOp ?_); (refine Exec.stab rfl (Stab.not rfl) rfl ?_)))) | (with_reducible first | apply Tr.next | apply Tr.seq | apply Tr.region | apply Tr.nil) | ((refine Tr.guard_l rfl rfl rfl (by first | (with_reducible rfl) | (with_reducible exact Bool.not_true)) ?_); (first | (refine xmQ ?_) | (refine xnQ ?_) | (refine xiQ ?_))) | (with_reducible refine Tr.skip ?_) | (refine Tr.cond_f rfl (by first | (with_reducible assumption) | omega) ?_)))
 ((refine Tr.step rfl ?_)); refine Exec.call0 rfl (new_fn M1 ws w (hw.mono hm1) As0 cs0 s (hs.mono RSpC.mono hm1) known) rfl ?_
 rintro _ M2 hm2 hnv
 have hm02 := hm1.trans hm2
 obtain ⟨-, rfl⟩ | ⟨-, -, rfl⟩ | ⟨hokT, hnd, x, rfl, hx⟩ := hnv
 ·(repeat (first | ((with_reducible refine Tr.step rfl ?_); (first | (refine xmQ ?_) | (refine xaQ ?_) | (refine xiQ ?_) | (refine xWQ ?_) | ((with_reducible refine Knd.alloc ?_); (refine Exec.alloc (tysOk.get rfl) rfl rfl (fun b => ?_))) | ((with_reducible refine Knd.extract ?_); (refine Exec.stab rfl (Stab.extract rfl rfl) rfl ?_)))) | (with_reducible first | apply Tr.next | apply Tr.seq | apply Tr.region | apply Tr.nil | apply Tr.ret | apply Tr.then_ret) | (refine Tr.cond_t rfl (by first | (with_reducible assumption) | omega) ?_)))
  (refine dnQ (hL := by exact ⟨[_, _], rfl⟩) ⟨rfl, ?_⟩)
  rfl
 ·(repeat (first | ((with_reducible refine Tr.step rfl ?_); (first | (refine xmQ ?_) | (refine xaQ ?_) | (refine xiQ ?_) | (refine xWQ ?_) | ((with_reducible refine Knd.alloc ?_); (refine Exec.alloc (tysOk.get rfl) rfl rfl (fun b => ?_))) | ((with_reducible refine Knd.extract ?_); (refine Exec.stab rfl (Stab.extract rfl rfl) rfl ?_)))) | (with_reducible first | apply Tr.next | apply Tr.seq | apply Tr.region | apply Tr.nil | apply Tr.ret | apply Tr.then_ret) | (refine Tr.cond_t rfl (by first | (with_reducible assumption) | omega) ?_)))
  (refine dnQ (hL := by exact ⟨[_, _], rfl⟩) ⟨rfl, ?_⟩)
  rfl
 have hk0 : okB w (mkF w (bkN known s) []) := okB_new hokT hnd
 obtain ⟨y1, y2, y3, y4, y5, y6, y7, y8, rfl⟩ := hx.lit
 (repeat (first | ((with_reducible refine Tr.step rfl ?_); (first | (refine xmQ ?_) | (refine xaQ ?_) | (refine xiQ ?_) | (refine xWQ ?_) | ((with_reducible refine Knd.alloc ?_); (refine Exec.alloc (tysOk.get rfl) rfl rfl (fun b => ?_))) | ((with_reducible refine Knd.extract ?_); (refine Exec.stab rfl (Stab.extract rfl rfl) rfl ?_)) | ((with_reducible refine Knd.buildSlice ?_); (refine Exec.buildSlice (tysOk.get rfl) rfl (tysOk.get rfl) rfl rfl rfl rfl rfl (by repeat (exact BuildP.nil)) rfl (fun b => ?_))))) | (with_reducible first | apply Tr.next | apply Tr.seq | apply Tr.region | apply Tr.nil | apply Tr.skip | apply Tr.block) | (refine Tr.cond_f rfl (by first | (with_reducible assumption) | (with_reducible exact (not_not_intro rfl))) ?_)))
 rename_i b9
 generalize b = bq
 refine Tr.box_own 6 0 (b := bq) (by repeat (first | exact Upd.here | apply Upd.there)) rfl (by intro u hu; cases hu) (by simp [maxLen]) ?_
 refine Tr.loop (α := Nat × Mem × Bp × List Value × (Option Addr × Nat)) (fun y => ⟨196, [(12, .int .i64 (y.1 : Int)), (11, .slice y.2.2.2.2.1 y.2.2.1.reqs.length y.2.2.2.2.2), (9, .pointer (some ⟨b9, 0, none⟩)), (4, .pointer (some ⟨b4, 0, none⟩)), (3, .slice A2 l.length c2)], [], y.2.1, ownS 46 6 y.2.2.2.2.1 y.2.2.1.reqs.length y.2.2.2.2.2 (y.2.2.1.reqs.flatMap rqC) :: box b9 44 y.2.2.2.1 :: box b4 38 ws :: ([] ++ F)⟩)
  (fun y => y.1 ≤ l.length ∧ Mem.le M2 y.2.1 ∧ okB w y.2.2.1 ∧ RBp y.2.1 (.agg y.2.2.2.1.toArray) y.2.2.1 ∧ y.2.2.1.sups.length ≤ 5 ∧ y.2.2.1.reqs.length ≤ y.1 ∧ y.2.2.2.2.2 ≤ 9223372036854775807) (fun y => l.length - y.1) (0, M2, mkF w (bkN known s) [], _, (_, 0)) ⟨Nat.zero_le _, Mem.le.refl _, hk0, hx, hsl, Nat.le_refl _, by simp⟩ hsQ (fun y hy => ?_)
 obtain ⟨i, M3, k, xb, kB, kc⟩ := y
 obtain ⟨hi, hm3, hok, hk, hks, hkr, hkc⟩ := hy
 dsimp only at hi hm3 hok hk hks hkr hkc ⊢
 have hm03 := hm02.trans hm3
 obtain ⟨As, cs, Ar, cr, Af, cf, Ad, cd, ev, h1, h2, h3, h4⟩ := id hk
 injection ev with ev
 have ev := congrArg Array.toList ev
 simp only at ev
 subst ev
 have hfc : k.fits.length ≤ 9223372036854775807 := h3.len_le
 by_cases hlt : i < l.length
 rotate_left
 ·have ei : i = l.length := by omega
  subst ei
  (refine rQ ?_)
  (refine dnQ (hL := by exact ⟨[_, _, _], rfl⟩) ⟨rfl, ?_⟩)
  rfl
 by_cases hk5 : k.reqs.length < 5
 rotate_left
 ·(refine rQ ?_)
  (refine dnQ (hL := by exact ⟨[_, _, _], rfl⟩) ⟨rfl, ?_⟩)
  rfl
 obtain ⟨sp, hsp⟩ := get_of_lt hlt
 obtain ⟨hA, ch, hat, rfl⟩ := (hl.mono RStp.mono hm03).elem hsp
 simp only [stpC] at hat
 have hat0 : At M3 (((A2.getD default).add (i * 8)).add 0) [.bool sp.drop, .int .i64 sp.r.no, .int .i64 sp.r.item, .int .i64 sp.r.cust, .int .i64 sp.r.due, .int .i64 sp.r.shelf, .int .i64 sp.r.amount, .int .i64 sp.no] := hat.drop 0
 have hat1 : At M3 (((A2.getD default).add (i * 8)).add 1) [.int .i64 sp.r.no, .int .i64 sp.r.item, .int .i64 sp.r.cust, .int .i64 sp.r.due, .int .i64 sp.r.shelf, .int .i64 sp.r.amount] := (hat.drop 1).take 6
 have hat7 : At M3 (((A2.getD default).add (i * 8)).add 7) [.int .i64 sp.no] := hat.drop 7
 (refine rQ ?_)
 refine Tr.cutQ (α := Mem × Bp × List Value × (Option Addr × Nat)) (fun y => ⟨196, [(12, .int .i64 (i : Int)), (11, .slice y.2.2.2.1 y.2.1.reqs.length y.2.2.2.2), (9, .pointer (some ⟨b9, 0, none⟩)), (4, .pointer (some ⟨b4, 0, none⟩)), (3, .slice A2 l.length c2)], [], y.1, ownS 46 6 y.2.2.2.1 y.2.1.reqs.length y.2.2.2.2 (y.2.1.reqs.flatMap rqC) :: box b9 44 y.2.2.1 :: box b4 38 ws :: ([] ++ F)⟩)
  (fun y => Mem.le M3 y.1 ∧ okB w y.2.1 ∧ RBp y.1 (.agg y.2.2.1.toArray) y.2.1 ∧ y.2.1.sups.length ≤ 5 ∧ y.2.1.reqs.length ≤ i + 1 ∧ y.2.2.2.2 ≤ 9223372036854775807) ?_ (fun y hy => ?_)
 ·by_cases hdr : sp.drop = false
  rotate_left
  ·have hdr : sp.drop = true := by simpa using hdr
   (repeat (first | (with_reducible refine Tr.seq ?_) | (refine Tr.cond_bt rfl (by first | (with_reducible rfl) | (with_reducible assumption)) ?_)))
   (((apply Tr.draw); (kernel_rfl)); (refine tkQ 0 (hB := by exact fun _ h => h) (s := by exact Stab.loadW rfl (tysOk.get rfl) rfl (by repeat (first | exact Has.here | apply Has.there)) (by assumption)) ?_); (refine tkQ 1 (s := by exact swQ) ?_); (refine tkQ 2 (s := by exact Stab.move rfl) ?_); (refine tkQ 3 (s := by exact Stab.move rfl) ?_); (refine tkQ 4 (s := by exact sxQ) ?_); (refine tkQ 5 (s := by exact Stab.fieldD rfl (tysOk.get rfl) rfl rfl (tysOk.get rfl) rfl) ?_); (refine tkQ 6 (s := by exact sMQ) ?_))
   ((refine TrM.start1 _ (by exact PA.alloc 11 rfl (tysOk.get rfl) rfl rfl) (by kernel_rfl) ?_); (refine TrM.eff 7 rfl (by kernel_rfl) (by exact .inl rfl) (by repeat (first | exact PendOk.nil | refine PendOk.cons rfl (by repeat (first | exact SubFr.nil | refine SubFr.cons rfl ?_)) ?_)) (by exact fun _ h => h) (by repeat (first | apply AppF.cons | exact AppF.nil)) (by repeat (first | apply AppF.cons | exact AppF.app)) (fun Y X => ?_)))
   refine Exec.call0 rfl (drop_fn M3 ws w (hw.mono hm03) _ k hk hfc sp.no) rfl ?_
   rintro _ M4 hm4 (⟨⟨-, hin⟩, x, rfl, hx⟩ | ⟨hbad, rfl⟩)
   all_goals have hm4 : Mem.le M3 M4 := hm4
   rotate_left
   ·(refine ⟨_, _, (by repeat (first | apply App.cons | exact App.nil | exact App.app)), (by repeat (first | apply App.cons | exact App.nil | exact App.app)), rfl, (by first | exact Mem.le.refl _ | assumption), (by exact fun _ h => h), ?_⟩)
    ((refine TrM.take 8 (by kernel_rfl) rfl (by kernel_rfl) (by exact fun _ _ _ h => h) (by exact fun _ h => h) rfl (by first | exact Stab.move rfl) rfl rfl ?_); (refine TrM.take 9 (by kernel_rfl) rfl (by kernel_rfl) (by exact fun _ _ _ h => h) (by exact fun _ h => h) rfl (by first | exact Stab.extract rfl rfl) rfl rfl ?_); (refine TrM.take 10 (by kernel_rfl) rfl (by kernel_rfl) (by exact fun _ _ _ h => h) (by exact fun _ h => h) rfl (by first | exact Stab.extract rfl rfl) rfl rfl ?_); (refine TrM.settle (by kernel_rfl) (by repeat (first | exact PendOk.nil | refine PendOk.cons rfl (by repeat (first | exact SubFr.nil | refine SubFr.cons rfl ?_)) ?_)) (by exact fun _ h => h) (fun b => ?_)); dsimp only; (refine TrM.fin ?_))
    ((refine TrA.eff 12 rfl (by kernel_rfl) (by exact .inl rfl) ?_); (((refine Knd.store ?_); ((refine xWQ ?_)))); (refine ⟨(by first | exact Mem.le.refl _ | assumption), (by exact (Sub.mem (by repeat (first | exact Sub.refl | apply Sub.cons)))), ?_⟩); (refine tkQ 13 (s := by exact Stab.assign rfl) ?_); (refine TrA.done (by kernel_rfl) ?_))
    (repeat (first | ((with_reducible refine Tr.step rfl ?_); (first | (refine xmQ ?_) | (refine xaQ ?_) | ((with_reducible refine Knd.binOp ?_); (first | (refine xdQ ?_) | (refine xiQ ?_))))) | (with_reducible first | apply Tr.next | apply Tr.seq | apply Tr.region | apply Tr.nil | apply Tr.exit | apply Tr.then_exit | apply Tr.landQ_exit) | ((with_reducible refine Tr.in_exit ?_ ?_); (exact rfl)) | (refine Tr.cond_t rfl (by first | (with_reducible assumption) | omega) ?_)))
    exact Tr.again (i + 1, M4, k, _, (kB, kc)) ⟨by simp only; omega, hm3.trans hm4, hok, hk.mono hm4, hks, by simp only; omega, hkc⟩ (by simp only; omega) hsQ
   obtain ⟨z1, z2, z3, z4, z5, z6, z7, z8, rfl⟩ := hx.lit
   (refine ⟨_, _, (by repeat (first | apply App.cons | exact App.nil | exact App.app)), (by repeat (first | apply App.cons | exact App.nil | exact App.app)), rfl, (by first | exact Mem.le.refl _ | assumption), (by exact fun _ h => h), ?_⟩)
   ((refine TrM.take 8 (by kernel_rfl) rfl (by kernel_rfl) (by exact fun _ _ _ h => h) (by exact fun _ h => h) rfl (by first | exact Stab.move rfl) rfl rfl ?_); (refine TrM.take 9 (by kernel_rfl) rfl (by kernel_rfl) (by exact fun _ _ _ h => h) (by exact fun _ h => h) rfl (by first | exact Stab.extract rfl rfl) rfl rfl ?_); (refine TrM.take 10 (by kernel_rfl) rfl (by kernel_rfl) (by exact fun _ _ _ h => h) (by exact fun _ h => h) rfl (by first | exact Stab.extract rfl rfl) rfl rfl ?_); (refine TrM.settle (by kernel_rfl) (by repeat (first | exact PendOk.nil | refine PendOk.cons rfl (by repeat (first | exact SubFr.nil | refine SubFr.cons rfl ?_)) ?_)) (by exact fun _ h => h) (fun b => ?_)); dsimp only; (refine TrM.fin ?_))
   ((refine TrA.eff 12 rfl (by kernel_rfl) (by exact .inl rfl) ?_); (((refine Knd.store ?_); ((refine xWQ ?_)))); (refine ⟨(by first | exact Mem.le.refl _ | assumption), (by exact (Sub.mem (by repeat (first | exact Sub.refl | apply Sub.cons)))), ?_⟩); (refine tkQ 13 (s := by exact Stab.assign rfl) ?_); (refine TrA.done (by kernel_rfl) ?_))
   (repeat (first | ((with_reducible refine Tr.step rfl ?_); (first | (refine xmQ ?_) | (refine xaQ ?_) | (refine xwQ ?_) | (refine xiQ ?_) | (refine xWQ ?_) | ((with_reducible refine Knd.buildSlice ?_); (refine Exec.buildSlice (tysOk.get rfl) rfl (tysOk.get rfl) rfl rfl rfl rfl rfl (by repeat (exact BuildP.nil)) rfl (fun b => ?_))))) | (with_reducible first | apply Tr.next | apply Tr.seq | apply Tr.region | apply Tr.nil | apply Tr.skip | apply Tr.block) | (refine Tr.cond_f rfl (by first | (with_reducible assumption) | (with_reducible exact (not_not_intro rfl))) ?_)))
   generalize b = bl
   refine Tr.box_own 6 0 (b := bl) (by repeat (first | exact Upd.here | apply Upd.there)) rfl (by intro u hu; cases hu) (by simp [maxLen]) ?_
   refine gvQ (r := box _ 44 _) ?_
   refine Tr.loop (α := Nat × (Option Addr × Nat)) (fun y => ⟨196, [(16, .int .i64 (y.1 : Int)), (15, .slice y.2.1 (lessR (k.reqs.take y.1) sp.no).length y.2.2), (12, .int .i64 (i : Int)), (11, .slice kB k.reqs.length kc), (9, .pointer (some ⟨b9, 0, none⟩)), (4, .pointer (some ⟨b4, 0, none⟩)), (3, .slice A2 l.length c2)], [], M4, ownS 46 6 y.2.1 (lessR (k.reqs.take y.1) sp.no).length y.2.2 ((lessR (k.reqs.take y.1) sp.no).flatMap rqC) :: ownS 46 6 kB k.reqs.length kc (k.reqs.flatMap rqC) :: box b9 44 [.int .i64 (dropB w k sp.no).known, .slice z1 (dropB w k sp.no).sups.length z2, .slice z3 (dropB w k sp.no).reqs.length z4, .slice z5 (dropB w k sp.no).fits.length z6, .slice z7 (dropB w k sp.no).rds.length z8] :: box b4 38 ws :: ([] ++ F)⟩)
    (fun y => y.1 ≤ k.reqs.length ∧ y.2.2 ≤ 9223372036854775807) (fun y => k.reqs.length - y.1) (0, _, 0) ⟨Nat.zero_le _, by simp⟩ hsQ (fun y hy => ?_)
   obtain ⟨j, lA, lc⟩ := y
   obtain ⟨hj, hlc⟩ := hy
   dsimp only at hj hlc ⊢
   by_cases hjlt : j < k.reqs.length
   ·obtain ⟨y, hy⟩ := get_of_lt hjlt
    have hcell : ((k.reqs.flatMap rqC).drop (j * 6)).take 6 = [.int .i64 y.no, .int .i64 y.item, .int .i64 y.cust, .int .i64 y.due, .int .i64 y.shelf, .int .i64 y.amount] := rqC_at hy
    have hat47 : At M4 (((A2.getD default).add (i * 8)).add 7) [.int .i64 sp.no] := hat7.mono hm4
    have hltk := lessR_take (no := sp.no) hy
    have hll2 := (less_sub (k.reqs.take j) sp.no).length_le
    rw [List.length_take] at hll2
    refine Tr.own_some kB (xs := k.reqs.flatMap rqC) (by repeat (first | exact Has.here | apply Has.there)) (by omega) (fun hkS => ?_)
    by_cases he : y.no ≠ sp.no
    ·rw [if_neg he] at hltk
     generalize hl0 : lessR (k.reqs.take j) sp.no = l0 at hltk hll2 ⊢
     (refine rQ ?_)
     (((apply Tr.draw); (kernel_rfl)); (refine tkQ 0 (hB := by exact fun _ h => h) (s := by exact Stab.move rfl) ?_); (refine tkQ 1 (s := by exact Stab.move rfl) ?_); (refine tkQ 5 (s := by exact Stab.move rfl) ?_); (refine tkQ 6 (s := by exact Stab.move rfl) ?_); (refine tkQ 2 (s := by exact sxQ) ?_); (refine tkQ 7 (s := by exact sxQ) ?_); (refine tkQ 3 (s := by exact Stab.fieldD rfl (tysOk.get rfl) rfl rfl (tysOk.get rfl) rfl) ?_); (refine tkQ 8 (s := by exact Stab.fieldD rfl (tysOk.get rfl) rfl rfl (tysOk.get rfl) rfl) ?_); ((refine tkQ 4 (s := (Stab.loadSF rfl (tysOk.get rfl) rfl (by repeat (first | exact Has.here | apply Has.there)) hjlt hcell rfl)) ?_)); (refine tkQ 9 (s := by exact sMQ) ?_); (refine tkQ 10 (s := by exact siQ) ?_); (refine TrA.done (by kernel_rfl) ?_))
     (repeat (first | ((with_reducible refine Tr.step rfl ?_); (first | (refine xmQ ?_) | (refine xxQ ?_))) | (with_reducible first | apply Tr.next | apply Tr.region) | (refine Tr.cond_t rfl (by (with_reducible assumption)) ?_)))
     refine Tr.step rfl ?_
     refine Exec.stab rfl (Stab.loadSA rfl (tysOk.get rfl) rfl (by repeat (first | exact Has.here | apply Has.there)) hjlt hcell rfl) rfl ?_
     (repeat (((with_reducible refine Tr.step rfl ?_); (with_reducible refine Knd.buildSlice ?_); (refine Exec.buildSlice (tysOk.get rfl) rfl (tysOk.get rfl) rfl rfl rfl rfl rfl (by repeat (first | exact BuildP.nil | ((apply BuildP.many); (rfl); (rfl); (rfl); (rfl); (repeat (first | exact PutL.nil | ((apply PutL.cons); (repeat (first | exact SetL.z | apply SetL.s)))))))) rfl (fun b => ?_)))))
     ((refine Tr.step rfl ?_))
     refine Exec.append (news := rqC y) rfl rfl (tysOk.get rfl) rfl (tysOk.get rfl) rfl rfl rfl rfl (by repeat (first | exact Del.here | apply Del.there)) (Src.box (by repeat (first | exact Has.here | apply Has.there))) rfl (rqC_one _) (by omega) (by omega) rfl (fun A3 c3 hc3 => ?_)
     refine gvQ (r := box _ 46 _) ?_
     rw [show l0.flatMap rqC ++ rqC y = (l0 ++ [y]).flatMap rqC by rw [List.flatMap_append]; simp, show l0.length + 1 = (l0 ++ [y]).length by simp]
     (repeat (first | ((with_reducible refine Tr.step rfl ?_); (first | (refine xmQ ?_) | (refine xaQ ?_) | (refine xdQ ?_))) | (with_reducible first | apply Tr.next | apply Tr.region | apply Tr.nil | apply Tr.in_normal)))
     refine Tr.again (j + 1, (A3, c3)) ⟨by simp only; omega, hc3⟩ (by simp only; omega) (by simp only [hltk]; exact hsQ)
    ·rw [if_pos (Classical.not_not.1 he)] at hltk
     (refine rQ ?_)
     (((apply Tr.draw); (kernel_rfl)); (refine tkQ 0 (hB := by exact fun _ h => h) (s := by exact Stab.move rfl) ?_); (refine tkQ 1 (s := by exact Stab.move rfl) ?_); (refine tkQ 5 (s := by exact Stab.move rfl) ?_); (refine tkQ 6 (s := by exact Stab.move rfl) ?_); (refine tkQ 2 (s := by exact sxQ) ?_); (refine tkQ 7 (s := by exact sxQ) ?_); (refine tkQ 3 (s := by exact Stab.fieldD rfl (tysOk.get rfl) rfl rfl (tysOk.get rfl) rfl) ?_); (refine tkQ 8 (s := by exact Stab.fieldD rfl (tysOk.get rfl) rfl rfl (tysOk.get rfl) rfl) ?_); ((refine tkQ 4 (s := (Stab.loadSF rfl (tysOk.get rfl) rfl (by repeat (first | exact Has.here | apply Has.there)) hjlt hcell rfl)) ?_)); (refine tkQ 9 (s := by exact sMQ) ?_); (refine tkQ 10 (s := by exact siQ) ?_); (refine TrA.done (by kernel_rfl) ?_))
     (repeat (first | ((with_reducible refine Tr.step rfl ?_); (first | (refine xmQ ?_) | (refine xaQ ?_) | (refine xdQ ?_))) | (with_reducible first | apply Tr.next | apply Tr.region | apply Tr.nil | apply Tr.skip | apply Tr.in_normal) | (refine Tr.cond_f rfl (by (with_reducible assumption)) ?_)))
     refine Tr.again (j + 1, (lA, lc)) ⟨by simp only; omega, hlc⟩ (by simp only; omega) (by simp only [hltk]; exact hsQ)
   have ej : j = k.reqs.length := by omega
   subst ej
   rw [List.take_length]
   refine gvQ (r := ownS 46 6 kB _ _ _) ?_
   have hdl : (dropB w k sp.no).reqs.length ≤ i + 1 := by
    have := (less_sub k.reqs sp.no).length_le
    show (lessR k.reqs sp.no).length ≤ _
    omega
   (refine rQ ?_)
   exact Tr.landQ (M4, dropB w k sp.no, _, (lA, lc)) ⟨hm4, dropB_ok hok _, hx, hks, hdl, hlc⟩ hsQ
  (repeat (first | (with_reducible refine Tr.seq ?_) | (refine Tr.cond_bf rfl (by first | (with_reducible rfl) | (with_reducible assumption)) ?_)))
  (((apply Tr.draw); (kernel_rfl)); (refine tkQ 0 (hB := by exact fun _ h => h) (s := by exact Stab.loadW rfl (tysOk.get rfl) rfl (by repeat (first | exact Has.here | apply Has.there)) (by assumption)) ?_); (refine tkQ 1 (s := by exact swQ) ?_); (refine tkQ 2 (s := by exact Stab.move rfl) ?_); (refine tkQ 3 (s := by exact Stab.move rfl) ?_); (refine tkQ 4 (s := by exact sxQ) ?_); (refine tkQ 5 (s := by exact Stab.fieldD rfl (tysOk.get rfl) rfl rfl (tysOk.get rfl) rfl) ?_); (refine tkQ 6 (s := by exact Stab.loadMA rfl (tysOk.get rfl) rfl (by assumption) (by first | rfl | assumption)) ?_))
  ((refine TrM.start2 _ (by exact PA.alloc 12 rfl (tysOk.get rfl) rfl rfl) (by exact PA.alloc 13 rfl (tysOk.get rfl) rfl rfl) (by kernel_rfl) (by kernel_rfl) (by kernel_rfl) ?_); (refine TrM.eff 7 rfl (by kernel_rfl) (by exact .inl rfl) (by repeat (first | exact PendOk.nil | refine PendOk.cons rfl (by repeat (first | exact SubFr.nil | refine SubFr.cons rfl ?_)) ?_)) (by exact fun _ h => h) (by repeat (first | apply AppF.cons | exact AppF.nil)) (by repeat (first | apply AppF.cons | exact AppF.app)) (fun Y X => ?_)))
  refine Exec.call0 rfl (askA_fn M3 ws w (hw.mono hm03) _ k hk hfc sp.r) rfl ?_
  rintro _ M4 hm4 (⟨h0, -, x, a, rfl, D, cD, hD, ⟨hF, hx, al, A, c, hlex, rfl, hal⟩ | ⟨hF, hx, B, c, rfl, hB⟩⟩ | ⟨hne, rfl⟩)
  all_goals have hm4 : Mem.le M3 M4 := hm4
  rotate_left
  rotate_left
  ·(refine ⟨_, _, (by repeat (first | apply App.cons | exact App.nil | exact App.app)), (by repeat (first | apply App.cons | exact App.nil | exact App.app)), rfl, (by first | exact Mem.le.refl _ | assumption), (by exact fun _ h => h), ?_⟩)
   ((refine TrM.take 8 (by kernel_rfl) rfl (by kernel_rfl) (by exact fun _ _ _ h => h) (by exact fun _ h => h) rfl (by first | exact Stab.move rfl) rfl rfl ?_); (refine TrM.take 9 (by kernel_rfl) rfl (by kernel_rfl) (by exact fun _ _ _ h => h) (by exact fun _ h => h) rfl (by first | exact Stab.extract rfl rfl) rfl rfl ?_); (refine TrM.take 10 (by kernel_rfl) rfl (by kernel_rfl) (by exact fun _ _ _ h => h) (by exact fun _ h => h) rfl (by first | exact Stab.extract rfl rfl) rfl rfl ?_); (refine TrM.take 11 (by kernel_rfl) rfl (by kernel_rfl) (by exact fun _ _ _ h => h) (by exact fun _ h => h) rfl (by first | exact Stab.extract rfl rfl) rfl rfl ?_); (refine TrM.settle (by kernel_rfl) (by repeat (first | exact PendOk.nil | refine PendOk.cons rfl (by repeat (first | exact SubFr.nil | refine SubFr.cons rfl ?_)) ?_)) (by exact fun _ h => h) (fun b => ?_)); dsimp only; (refine TrM.settle (by kernel_rfl) (by repeat (first | exact PendOk.nil | refine PendOk.cons rfl (by repeat (first | exact SubFr.nil | refine SubFr.cons rfl ?_)) ?_)) (by exact (Sub.mem (by repeat (first | exact Sub.refl | apply Sub.cons)))) (fun b => ?_)); dsimp only; (refine TrM.fin ?_))
   ((refine TrA.eff 14 rfl (by kernel_rfl) (by exact .inl rfl) ?_); (((refine Knd.store ?_); ((refine xWQ ?_)))); (refine ⟨(by first | exact Mem.le.refl _ | assumption), (by exact (Sub.mem (by repeat (first | exact Sub.refl | apply Sub.cons)))), ?_⟩); (refine TrA.eff 15 rfl (by kernel_rfl) (by exact .inl rfl) ?_); (((refine Knd.store ?_); ((refine xWQ ?_)))); (refine ⟨(by first | exact Mem.le.refl _ | assumption), (by exact (Sub.mem (by repeat (first | exact Sub.refl | apply Sub.cons)))), ?_⟩); (refine tkQ 16 (s := by exact Stab.assign rfl) ?_); (refine TrA.done (by kernel_rfl) ?_))
   (repeat (first | ((with_reducible refine Tr.step rfl ?_); (first | (refine xmQ ?_) | (refine xaQ ?_) | ((with_reducible refine Knd.binOp ?_); (first | (refine xdQ ?_) | (refine xiQ ?_))))) | (with_reducible first | apply Tr.next | apply Tr.seq | apply Tr.region | apply Tr.nil | apply Tr.exit | apply Tr.then_exit | apply Tr.landQ_exit) | ((with_reducible refine Tr.in_exit ?_ ?_); (exact rfl)) | (refine Tr.cond_t rfl (by (with_reducible assumption)) ?_)))
   exact Tr.again (i + 1, M4, k, _, (kB, kc)) ⟨by simp only; omega, hm3.trans hm4, hok, hk.mono hm4, hks, by simp only; omega, hkc⟩ (by simp only; omega) hsQ
  ·obtain ⟨z1, z2, z3, z4, z5, z6, z7, z8, rfl⟩ := hx.lit
   have hat14 : At M4 (((A2.getD default).add (i * 8)).add 1) [.int .i64 sp.r.no, .int .i64 sp.r.item, .int .i64 sp.r.cust, .int .i64 sp.r.due, .int .i64 sp.r.shelf, .int .i64 sp.r.amount] := hat1.mono hm4
   obtain ⟨-, hno, hT⟩ := askE_zero h0
   have hT2 := (okT_app hok.2.1).1 hT
   have hml : (more w k sp.r).reqs.length ≤ i + 1 := by
    show (k.reqs ++ [sp.r]).length ≤ _
    rw [List.length_append, List.length_singleton]
    omega
   (refine ⟨_, _, (by repeat (first | apply App.cons | exact App.nil | exact App.app)), (by repeat (first | apply App.cons | exact App.nil | exact App.app)), rfl, (by first | exact Mem.le.refl _ | assumption), (by exact fun _ h => h), ?_⟩)
   ((refine TrM.take 8 (by kernel_rfl) rfl (by kernel_rfl) (by exact fun _ _ _ h => h) (by exact fun _ h => h) rfl (by first | exact Stab.move rfl) rfl rfl ?_); (refine TrM.take 9 (by kernel_rfl) rfl (by kernel_rfl) (by exact fun _ _ _ h => h) (by exact fun _ h => h) rfl (by first | exact Stab.extract rfl rfl) rfl rfl ?_); (refine TrM.take 10 (by kernel_rfl) rfl (by kernel_rfl) (by exact fun _ _ _ h => h) (by exact fun _ h => h) rfl (by first | exact Stab.extract rfl rfl) rfl rfl ?_); (refine TrM.take 11 (by kernel_rfl) rfl (by kernel_rfl) (by exact fun _ _ _ h => h) (by exact fun _ h => h) rfl (by first | exact Stab.extract rfl rfl) rfl rfl ?_); (refine TrM.settle (by kernel_rfl) (by repeat (first | exact PendOk.nil | refine PendOk.cons rfl (by repeat (first | exact SubFr.nil | refine SubFr.cons rfl ?_)) ?_)) (by exact fun _ h => h) (fun b => ?_)); dsimp only; (refine TrM.settle (by kernel_rfl) (by repeat (first | exact PendOk.nil | refine PendOk.cons rfl (by repeat (first | exact SubFr.nil | refine SubFr.cons rfl ?_)) ?_)) (by exact (Sub.mem (by repeat (first | exact Sub.refl | apply Sub.cons)))) (fun b => ?_)); dsimp only; (refine TrM.fin ?_))
   ((refine TrA.eff 14 rfl (by kernel_rfl) (by exact .inl rfl) ?_); (((refine Knd.store ?_); ((refine xWQ ?_)))); (refine ⟨(by first | exact Mem.le.refl _ | assumption), (by exact (Sub.mem (by repeat (first | exact Sub.refl | apply Sub.cons)))), ?_⟩); (refine TrA.eff 15 rfl (by kernel_rfl) (by exact .inl rfl) ?_); (((refine Knd.store ?_); ((refine xWQ ?_)))); (refine ⟨(by first | exact Mem.le.refl _ | assumption), (by exact (Sub.mem (by repeat (first | exact Sub.refl | apply Sub.cons)))), ?_⟩); (refine tkQ 16 (s := by exact Stab.assign rfl) ?_); (refine TrA.done (by kernel_rfl) ?_))
   (repeat (first | ((with_reducible refine Tr.step rfl ?_); (first | (refine xmQ ?_) | ((with_reducible refine Knd.load ?_); (first | (refine xlQ ?_) | (refine xwQ ?_) | (refine Exec.stab rfl (Stab.loadMA rfl (tysOk.get rfl) rfl (by assumption) (by first | rfl | assumption)) rfl ?_))) | ((with_reducible refine Knd.fieldAddr ?_); (first | (refine xfQ ?_) | (refine Exec.stab rfl (Stab.fieldD rfl (tysOk.get rfl) rfl rfl (tysOk.get rfl) rfl) rfl ?_))) | (refine xiQ ?_) | (refine xWQ ?_) | (refine xxQ ?_) | ((with_reducible refine Knd.buildSlice ?_); (refine Exec.buildSlice (tysOk.get rfl) rfl (tysOk.get rfl) rfl rfl rfl rfl rfl (by repeat (first | exact BuildP.nil | ((apply BuildP.many); (rfl); (rfl); (rfl); (rfl); (repeat (first | exact PutL.nil | ((apply PutL.cons); (repeat (first | exact SetL.z | apply SetL.s)))))))) rfl (fun b => ?_))))) | (with_reducible first | apply Tr.next | apply Tr.seq | apply Tr.region | apply Tr.nil | apply Tr.skip) | (refine Tr.cond_bt rfl (by (with_reducible rfl)) ?_) | (refine Tr.cond_f rfl (by first | (with_reducible assumption) | (with_reducible exact (not_not_intro rfl))) ?_)))
   ((refine Tr.step rfl ?_))
   refine Exec.append (news := rqC sp.r) rfl rfl (tysOk.get rfl) rfl (tysOk.get rfl) rfl rfl rfl rfl (by repeat (first | exact Del.here | apply Del.there)) (Src.box (by repeat (first | exact Has.here | apply Has.there))) rfl (rqC_one _) (by omega) (by omega) rfl (fun A3 c3 hc3 => ?_)
   rw [show k.reqs.flatMap rqC ++ rqC sp.r = (more w k sp.r).reqs.flatMap rqC by show _ = (k.reqs ++ [sp.r]).flatMap rqC; rw [List.flatMap_append]; simp, show k.reqs.length + 1 = (more w k sp.r).reqs.length by show _ = (k.reqs ++ [sp.r]).length; simp]
   refine gvQ (r := box _ 46 _) ?_
   refine gvQ (r := box _ 54 _) ?_
   refine gvQ (r := box _ 44 _) ?_
   (repeat (first | ((with_reducible refine Tr.step rfl ?_); (with_reducible refine Knd.assign ?_); (refine xaQ ?_)) | (with_reducible refine Tr.nil ?_)))
   exact Tr.landQ (M4, more w k sp.r, _, (A3, c3)) ⟨hm4, okB_more hok hno hT2.1 hT2.2 hF, hx, hks, hml, hc3⟩ hsQ
  ·obtain ⟨z1, z2, z3, z4, z5, z6, z7, z8, rfl⟩ := hx.lit
   (refine ⟨_, _, (by repeat (first | apply App.cons | exact App.nil | exact App.app)), (by repeat (first | apply App.cons | exact App.nil | exact App.app)), rfl, (by first | exact Mem.le.refl _ | assumption), (by exact fun _ h => h), ?_⟩)
   ((refine TrM.take 8 (by kernel_rfl) rfl (by kernel_rfl) (by exact fun _ _ _ h => h) (by exact fun _ h => h) rfl (by first | exact Stab.move rfl) rfl rfl ?_); (refine TrM.take 9 (by kernel_rfl) rfl (by kernel_rfl) (by exact fun _ _ _ h => h) (by exact fun _ h => h) rfl (by first | exact Stab.extract rfl rfl) rfl rfl ?_); (refine TrM.take 10 (by kernel_rfl) rfl (by kernel_rfl) (by exact fun _ _ _ h => h) (by exact fun _ h => h) rfl (by first | exact Stab.extract rfl rfl) rfl rfl ?_); (refine TrM.take 11 (by kernel_rfl) rfl (by kernel_rfl) (by exact fun _ _ _ h => h) (by exact fun _ h => h) rfl (by first | exact Stab.extract rfl rfl) rfl rfl ?_); (refine TrM.settle (by kernel_rfl) (by repeat (first | exact PendOk.nil | refine PendOk.cons rfl (by repeat (first | exact SubFr.nil | refine SubFr.cons rfl ?_)) ?_)) (by exact fun _ h => h) (fun b => ?_)); dsimp only; (refine TrM.settle (by kernel_rfl) (by repeat (first | exact PendOk.nil | refine PendOk.cons rfl (by repeat (first | exact SubFr.nil | refine SubFr.cons rfl ?_)) ?_)) (by exact (Sub.mem (by repeat (first | exact Sub.refl | apply Sub.cons)))) (fun b => ?_)); dsimp only; (refine TrM.fin ?_))
   ((refine TrA.eff 14 rfl (by kernel_rfl) (by exact .inl rfl) ?_); (((refine Knd.store ?_); ((refine xWQ ?_)))); (refine ⟨(by first | exact Mem.le.refl _ | assumption), (by exact (Sub.mem (by repeat (first | exact Sub.refl | apply Sub.cons)))), ?_⟩); (refine TrA.eff 15 rfl (by kernel_rfl) (by exact .inl rfl) ?_); (((refine Knd.store ?_); ((refine xWQ ?_)))); (refine ⟨(by first | exact Mem.le.refl _ | assumption), (by exact (Sub.mem (by repeat (first | exact Sub.refl | apply Sub.cons)))), ?_⟩); (refine tkQ 16 (s := by exact Stab.assign rfl) ?_); (refine TrA.done (by kernel_rfl) ?_))
   (refine rQ ?_)
   exact Tr.landQ (M4, k, _, (kB, kc)) ⟨hm4, hok, hx, hks, by simp only; omega, hkc⟩ hsQ
 obtain ⟨M4, k2, xb2, kB, kc⟩ := y
 obtain ⟨hm4, hok2, hk2, hks2, hkr2, hkc2⟩ := hy
 dsimp only at hm4 hok2 hk2 hks2 hkr2 hkc2 ⊢
 clear hk h1 h2 h3 h4 hat0 hat1 hat7 hat hfc
 have hm04 := hm03.trans hm4
 obtain ⟨Bs, ds, Br, dr, Bff, df, Bd, dd, ev2, g1, g2, g3, g4⟩ := id hk2
 injection ev2 with ev2
 have ev2 := congrArg Array.toList ev2
 simp only at ev2
 subst ev2
 have hfc2 : k2.fits.length ≤ 9223372036854775807 := g3.len_le
 have hc0 : chkE w k2 = 0 := by rw [chkE, if_pos hok2]
 have hv : Vld k2.fits (amS k2.sups) (amR k2.reqs) := by rw [← hok2.2.2.1.1]; exact okT_vld hok2.2.1
 have rs : I64s (amS k2.sups) := fun x hx => by have := hv.rs x hx; omega
 have rn : I64s (amR k2.reqs) := fun x hx => by have := hv.rn x hx; omega
 have hF : Feas (pbOf k2.fits (amS k2.sups) (amR k2.reqs)) := hok2.2.2.2
 (repeat (first | ((with_reducible refine Tr.step rfl ?_); (with_reducible refine Knd.load ?_); (first | (refine xwQ ?_) | (refine Exec.stab rfl (Stab.loadW rfl (tysOk.get rfl) rfl (by repeat (first | exact Has.here | apply Has.there)) (by assumption)) rfl ?_))) | (with_reducible first | apply Tr.next | apply Tr.seq | apply Tr.region)))
 ((refine Tr.step rfl ?_)); refine Exec.call0 rfl (check_fn' M4 ws w (hw.mono hm04) _ k2 hk2 hfc2) rfl ?_
 rintro _ M5 hm5 rfl
 rw [hc0]
 have hm05 := hm04.trans hm5
 (refine rQ ?_)
 refine Tr.loop (α := Nat) (fun y => ⟨196, [(20, .int .i64 (y : Int)), (12, .int .i64 (i : Int)), (11, .slice kB k2.reqs.length kc), (9, .pointer (some ⟨b9, 0, none⟩)), (4, .pointer (some ⟨b4, 0, none⟩)), (3, .slice A2 l.length c2)], [], M5, ownS 46 6 kB k2.reqs.length kc (k2.reqs.flatMap rqC) :: box b9 44 [.int .i64 k2.known, .slice Bs k2.sups.length ds, .slice Br k2.reqs.length dr, .slice Bff k2.fits.length df, .slice Bd k2.rds.length dd] :: box b4 38 ws :: ([] ++ F)⟩)
  (fun y => y ≤ k2.reqs.length) (fun y => k2.reqs.length - y) 0 (Nat.zero_le _) hsQ (fun j hj => ?_)
 by_cases hjlt : j < k2.reqs.length
 ·obtain ⟨y, hy⟩ := get_of_lt hjlt
  have hcell : ((k2.reqs.flatMap rqC).drop (j * 6)).take 6 = [.int .i64 y.no, .int .i64 y.item, .int .i64 y.cust, .int .i64 y.due, .int .i64 y.shelf, .int .i64 y.amount] := rqC_at hy
  obtain ⟨hB, ch, hatB, rfl⟩ := (g2.mono RRqC.mono hm5).elem hy
  simp only [rqC] at hatB
  refine Tr.own_some kB (xs := k2.reqs.flatMap rqC) (by repeat (first | exact Has.here | apply Has.there)) (by omega) (fun hkS => ?_)
  (refine rQ ?_)
  (((apply Tr.draw); (kernel_rfl)); (refine tkQ 0 (hB := by exact fun _ h => h) (s := by exact sfQ) ?_); (refine tkQ 2 (s := by exact Stab.move rfl) ?_); (refine tkQ 5 (s := by exact Stab.move rfl) ?_); (refine tkQ 6 (s := by exact Stab.move rfl) ?_); (refine tkQ 1 (s := by exact slQ) ?_); (refine tkQ 3 (s := by exact sxQ) ?_); (refine tkQ 7 (s := by exact sxQ) ?_); (refine tkQ 4 (s := by exact Stab.loadMA rfl (tysOk.get rfl) rfl (by assumption) (by first | rfl | assumption)) ?_); ((refine tkQ 8 (s := (Stab.loadSA rfl (tysOk.get rfl) rfl (by repeat (first | exact Has.here | apply Has.there)) hjlt hcell rfl)) ?_)); (refine tkQ 9 (s := by exact Stab.stneL rfl rfl (by repeat (first | exact IntsL.nil | apply IntsL.cons)) (by repeat (first | exact IntsL.nil | apply IntsL.cons)) (tysOk.get rfl) rfl (by kernel_rfl) (by kernel_rfl) rfl rfl) ?_); (refine TrA.done (by kernel_rfl) ?_))
  (refine rQ ?_)
  exact Tr.again (j + 1) (by omega) (by omega) hsQ
 have ej : j = k2.reqs.length := by omega
 subst ej
 (refine rQ ?_)
 ((refine Tr.step rfl ?_)); refine Exec.call0 rfl (lamounts_fn M5 _ k2 (hk2.mono hm5) (by omega) (by omega)) rfl ?_
 rintro _ M6 hm6 ⟨A3, c3, A4, c4, rfl, t1, t2⟩
 have t3 := g3.mono RRowB.mono (hm5.trans hm6)
 (refine rQ ?_)
 ((refine Tr.step rfl ?_)); refine Exec.call0 rfl (flow_fn M6 Bff A3 A4 df c3 c4 k2.fits (amS k2.sups) (amR k2.reqs) t3 t1 t2 rs rn) rfl ?_
 rintro _ M7 hm7 (⟨hvf, -⟩ | ⟨-, hnf, -⟩ | ⟨-, a, hmax, A5, c5, rfl, t5⟩)
 ·exact absurd (vld_iff.2 hv) (by rw [hvf]; simp)
 ·exact absurd hF hnf
 (refine rQ ?_)
 ((refine Tr.step rfl ?_)); refine Exec.call0 rfl (mcheck_fn M7 Bff A3 A4 A5 df c3 c4 c5 k2.fits (amS k2.sups) (amR k2.reqs) _ (t3.mono RRowB.mono hm7) (t1.mono RI.mono hm7) (t2.mono RI.mono hm7) t5 rs rn) rfl ?_
 rintro _ _ hm8 ⟨⟨hvf, -⟩ | ⟨-, q, rfl, hq⟩, rfl⟩
 ·exact absurd (vld_iff.2 hv) (by rw [hvf]; simp)
 have hq1 : q = true := hq.2 (LexMax.check hmax.1)
 subst hq1
 (refine rQ ?_)
 exact Tr.again (i + 1, M7, k2, _, (kB, kc)) ⟨by simp only; omega, hm3.trans (hm4.trans (hm5.trans (hm6.trans hm7))), hok2, hk2.mono (hm5.trans (hm6.trans hm7)), hks2, by simp only; omega, hkc2⟩ (by simp only; omega) hsQ
end Go.Proofs.YtmikfjcdgkopkaaGreat

/-
 Worlds, books, requests: how the arguments of the laws read.
 Conditions: none.
-/
namespace Go.Proofs.YtmikfjcdgkopkaaGreat
open Go Bf
open Go.ChangeShapes Go.WideShapes Go.ChangeAt Go.RowKit
set_option maxRecDepth 100000
section
variable {H : Type} {enc : TypeId × Value → H} {W : World} {base : Nat} {v : Value} {w : World} {sp : Nat → Bool} {held : Bool}
theorem uINT : Tryz.prog.underlying 3 = some (.int .i64) := (tysOk.get (t := 3) rfl).1
theorem uB : Tryz.prog.underlying 4 = some (.bool) := (tysOk.get (t := 4) rfl).1
theorem uSTR : Tryz.prog.underlying 9 = some (.string) := (tysOk.get (t := 9) rfl).1
theorem uSW : Tryz.prog.underlying 29 = some (.slice 197) := (tysOk.get (t := 29) rfl).1
theorem uFA : Tryz.prog.underlying 36 = some (.slice 147) := (tysOk.get (t := 36) rfl).1
theorem uSPS : Tryz.prog.underlying 39 = some (.slice 82) := (tysOk.get (t := 39) rfl).1
theorem uRQS : Tryz.prog.underlying 40 = some (.slice 46) := (tysOk.get (t := 40) rfl).1
theorem uFT : Tryz.prog.underlying 41 = some (.slice 78) := (tysOk.get (t := 41) rfl).1
theorem uRDS : Tryz.prog.underlying 42 = some (.slice 88) := (tysOk.get (t := 42) rfl).1
theorem uROW : Tryz.prog.underlying 78 = some (.slice 4) := (tysOk.get (t := 78) rfl).1
theorem uLV : Tryz.prog.underlying 32 = some (.slice 3) := (tysOk.get (t := 32) rfl).1
theorem uS0 : ∃ e, Tryz.prog.underlying 22 = some (.slice e) := ⟨_, (tysOk.get (t := 22) rfl).1⟩
theorem uS1 : ∃ e, Tryz.prog.underlying 23 = some (.slice e) := ⟨_, (tysOk.get (t := 23) rfl).1⟩
theorem uS2 : ∃ e, Tryz.prog.underlying 24 = some (.slice e) := ⟨_, (tysOk.get (t := 24) rfl).1⟩
theorem uS3 : ∃ e, Tryz.prog.underlying 25 = some (.slice e) := ⟨_, (tysOk.get (t := 25) rfl).1⟩
theorem uS4 : ∃ e, Tryz.prog.underlying 26 = some (.slice e) := ⟨_, (tysOk.get (t := 26) rfl).1⟩
theorem uS5 : ∃ e, Tryz.prog.underlying 27 = some (.slice e) := ⟨_, (tysOk.get (t := 27) rfl).1⟩
theorem uS6 : ∃ e, Tryz.prog.underlying 28 = some (.slice e) := ⟨_, (tysOk.get (t := 28) rfl).1⟩
theorem uCD : ∃ e, Tryz.prog.underlying 33 = some (.slice e) := ⟨_, (tysOk.get (t := 33) rfl).1⟩
theorem cINT : Tryz.prog.cellsOf 3 = 1 := by kernel_rfl
theorem cB : Tryz.prog.cellsOf 4 = 1 := by kernel_rfl
theorem cSTR : Tryz.prog.cellsOf 9 = 1 := by kernel_rfl
theorem cSW : Tryz.prog.cellsOf 29 = 1 := by kernel_rfl
theorem cFA : Tryz.prog.cellsOf 36 = 1 := by kernel_rfl
theorem cSPS : Tryz.prog.cellsOf 39 = 1 := by kernel_rfl
theorem cRQS : Tryz.prog.cellsOf 40 = 1 := by kernel_rfl
theorem cFT : Tryz.prog.cellsOf 41 = 1 := by kernel_rfl
theorem cRDS : Tryz.prog.cellsOf 42 = 1 := by kernel_rfl
theorem cROW : Tryz.prog.cellsOf 78 = 1 := by kernel_rfl
theorem cLV : Tryz.prog.cellsOf 32 = 1 := by kernel_rfl
theorem cCD : Tryz.prog.cellsOf 33 = 1 := by kernel_rfl
theorem cS0 : Tryz.prog.cellsOf 22 = 1 := by kernel_rfl
theorem cS1 : Tryz.prog.cellsOf 23 = 1 := by kernel_rfl
theorem cS2 : Tryz.prog.cellsOf 24 = 1 := by kernel_rfl
theorem cS3 : Tryz.prog.cellsOf 25 = 1 := by kernel_rfl
theorem cS4 : Tryz.prog.cellsOf 26 = 1 := by kernel_rfl
theorem cS5 : Tryz.prog.cellsOf 27 = 1 := by kernel_rfl
theorem cS6 : Tryz.prog.cellsOf 28 = 1 := by kernel_rfl
theorem cW : Tryz.prog.cellsOf 38 = 11 := by kernel_rfl
theorem cTB : Tryz.prog.cellsOf 35 = 10 := by kernel_rfl
theorem cSRC : Tryz.prog.cellsOf 31 = 8 := by kernel_rfl
theorem cBK : Tryz.prog.cellsOf 44 = 5 := by kernel_rfl
theorem cRQ : Tryz.prog.cellsOf 46 = 6 := by kernel_rfl
theorem cSP : Tryz.prog.cellsOf 82 = 6 := by kernel_rfl
theorem cRD : Tryz.prog.cellsOf 88 = 5 := by kernel_rfl
theorem cFC : Tryz.prog.cellsOf 147 = 8 := by kernel_rfl
theorem cKEY : Tryz.prog.cellsOf 86 = 3 := by kernel_rfl
theorem cSPAN : Tryz.prog.cellsOf 145 = 2 := by kernel_rfl
theorem cSWE : Tryz.prog.cellsOf 197 = 4 := by kernel_rfl
theorem int_bounds {n : Int} (hw : (Lit.int .i64 n).wf = true) : -9223372036854775808 ≤ n ∧ n ≤ 9223372036854775807 := by
 have hmin : IntKind.i64.min = -9223372036854775808 := by decide
 have hmax : IntKind.i64.max = 9223372036854775807 := by decide
 simpa [Lit.wf, hmin, hmax] using hw
theorem one_slice {t e : TypeId} {fuel : Nat} {v : Value} {x : DataW H × List MemPlace} (hu : Tryz.prog.underlying t = some (.slice e)) (h : DataW.trod enc Tryz.prog w 0 sp held fuel t [v] = some x) : v.oneCell' = true := by
 rcases read_slice hu h with rfl | ⟨a, len, cap, f, rfl, -⟩ <;> rfl
theorem lenL3 {l : List Value} (h : l.length = 3) : ∃ a0 a1 a2, l = [a0, a1, a2] := by
 match l, h with
 | [a0, a1, a2], _ => exact ⟨a0, a1, a2, rfl⟩
theorem lenL4 {l : List Value} (h : l.length = 4) : ∃ a0 a1 a2 a3, l = [a0, a1, a2, a3] := by
 match l, h with
 | [a0, a1, a2, a3], _ => exact ⟨a0, a1, a2, a3, rfl⟩
theorem lenL5 {l : List Value} (h : l.length = 5) : ∃ a0 a1 a2 a3 a4, l = [a0, a1, a2, a3, a4] := by
 match l, h with
 | [a0, a1, a2, a3, a4], _ => exact ⟨a0, a1, a2, a3, a4, rfl⟩
theorem lenL6 {l : List Value} (h : l.length = 6) : ∃ a0 a1 a2 a3 a4 a5, l = [a0, a1, a2, a3, a4, a5] := by
 match l, h with
 | [a0, a1, a2, a3, a4, a5], _ => exact ⟨a0, a1, a2, a3, a4, a5, rfl⟩
theorem lenL8 {l : List Value} (h : l.length = 8) : ∃ a0 a1 a2 a3 a4 a5 a6 a7, l = [a0, a1, a2, a3, a4, a5, a6, a7] := by
 match l, h with
 | [a0, a1, a2, a3, a4, a5, a6, a7], _ => exact ⟨a0, a1, a2, a3, a4, a5, a6, a7, rfl⟩
theorem lenL11 {l : List Value} (h : l.length = 11) : ∃ a0 a1 a2 a3 a4 a5 a6 a7 a8 a9 a10, l = [a0, a1, a2, a3, a4, a5, a6, a7, a8, a9, a10] := by
 match l, h with
 | [a0, a1, a2, a3, a4, a5, a6, a7, a8, a9, a10], _ => exact ⟨a0, a1, a2, a3, a4, a5, a6, a7, a8, a9, a10, rfl⟩
theorem open_key {cs : List Value} {fuel : Nat} {x : DataW H × List MemPlace} (h : DataW.trod enc Tryz.prog w 0 sp held fuel 86 cs = some x) : ∃ z0 z1 z2 : Int, cs = [.int .i64 z0, .int .i64 z1, .int .i64 z2] ∧ -9223372036854775808 ≤ z2 ∧ z2 ≤ 9223372036854775807 := by
 obtain ⟨hl, g, hg⟩ := read_struct Tryz.underlying86 h
 rw [cKEY] at hl
 obtain ⟨a0, a1, a2, rfl⟩ := lenL3 hl
 obtain ⟨y0, h0⟩ : ∃ y, DataW.trod enc Tryz.prog w 0 sp held g 3 (([a0, a1, a2].drop 0).take (Tryz.prog.cellsOf 3)) = some y := hg 0 _ rfl
 rw [cINT] at h0
 obtain ⟨y1, h1⟩ : ∃ y, DataW.trod enc Tryz.prog w 0 sp held g 3 (([a0, a1, a2].drop 1).take (Tryz.prog.cellsOf 3)) = some y := hg 1 _ rfl
 rw [cINT] at h1
 obtain ⟨y2, h2⟩ : ∃ y, DataW.trod enc Tryz.prog w 0 sp held g 3 (([a0, a1, a2].drop 2).take (Tryz.prog.cellsOf 3)) = some y := hg 2 _ rfl
 rw [cINT] at h2
 obtain ⟨n0, e0, b0⟩ := read_int uINT h0
 obtain ⟨n1, e1, b1⟩ := read_int uINT h1
 obtain ⟨n2, e2, b2⟩ := read_int uINT h2
 cases e0
 cases e1
 cases e2
 exact ⟨_, _, _, rfl, int_bounds b2⟩
theorem open_rq {cs : List Value} {fuel : Nat} {x : DataW H × List MemPlace} (h : DataW.trod enc Tryz.prog w 0 sp held fuel 46 cs = some x) : ∃ z0 z1 z2 z3 z4 z5 : Int, cs = [.int .i64 z0, .int .i64 z1, .int .i64 z2, .int .i64 z3, .int .i64 z4, .int .i64 z5] ∧ -9223372036854775808 ≤ z5 ∧ z5 ≤ 9223372036854775807 := by
 obtain ⟨hl, g, hg⟩ := read_struct Tryz.underlying46 h
 rw [cRQ] at hl
 obtain ⟨a0, a1, a2, a3, a4, a5, rfl⟩ := lenL6 hl
 obtain ⟨y0, h0⟩ : ∃ y, DataW.trod enc Tryz.prog w 0 sp held g 3 (([a0, a1, a2, a3, a4, a5].drop 0).take (Tryz.prog.cellsOf 3)) = some y := hg 0 _ rfl
 rw [cINT] at h0
 obtain ⟨y1, h1⟩ : ∃ y, DataW.trod enc Tryz.prog w 0 sp held g 3 (([a0, a1, a2, a3, a4, a5].drop 1).take (Tryz.prog.cellsOf 3)) = some y := hg 1 _ rfl
 rw [cINT] at h1
 obtain ⟨y2, h2⟩ : ∃ y, DataW.trod enc Tryz.prog w 0 sp held g 3 (([a0, a1, a2, a3, a4, a5].drop 2).take (Tryz.prog.cellsOf 3)) = some y := hg 2 _ rfl
 rw [cINT] at h2
 obtain ⟨y3, h3⟩ : ∃ y, DataW.trod enc Tryz.prog w 0 sp held g 3 (([a0, a1, a2, a3, a4, a5].drop 3).take (Tryz.prog.cellsOf 3)) = some y := hg 3 _ rfl
 rw [cINT] at h3
 obtain ⟨y4, h4⟩ : ∃ y, DataW.trod enc Tryz.prog w 0 sp held g 3 (([a0, a1, a2, a3, a4, a5].drop 4).take (Tryz.prog.cellsOf 3)) = some y := hg 4 _ rfl
 rw [cINT] at h4
 obtain ⟨y5, h5⟩ : ∃ y, DataW.trod enc Tryz.prog w 0 sp held g 3 (([a0, a1, a2, a3, a4, a5].drop 5).take (Tryz.prog.cellsOf 3)) = some y := hg 5 _ rfl
 rw [cINT] at h5
 obtain ⟨n0, e0, b0⟩ := read_int uINT h0
 obtain ⟨n1, e1, b1⟩ := read_int uINT h1
 obtain ⟨n2, e2, b2⟩ := read_int uINT h2
 obtain ⟨n3, e3, b3⟩ := read_int uINT h3
 obtain ⟨n4, e4, b4⟩ := read_int uINT h4
 obtain ⟨n5, e5, b5⟩ := read_int uINT h5
 cases e0
 cases e1
 cases e2
 cases e3
 cases e4
 cases e5
 exact ⟨_, _, _, _, _, _, rfl, int_bounds b5⟩
theorem open_sp {cs : List Value} {fuel : Nat} {x : DataW H × List MemPlace} (h : DataW.trod enc Tryz.prog w 0 sp held fuel 82 cs = some x) : ∃ z0 z1 z2 z3 z4 z5 : Int, cs = [.int .i64 z0, .int .i64 z1, .int .i64 z2, .int .i64 z3, .int .i64 z4, .int .i64 z5] ∧ -9223372036854775808 ≤ z5 ∧ z5 ≤ 9223372036854775807 := by
 obtain ⟨hl, g, hg⟩ := read_struct Tryz.underlying82 h
 rw [cSP] at hl
 obtain ⟨a0, a1, a2, a3, a4, a5, rfl⟩ := lenL6 hl
 obtain ⟨y0, h0⟩ : ∃ y, DataW.trod enc Tryz.prog w 0 sp held g 3 (([a0, a1, a2, a3, a4, a5].drop 0).take (Tryz.prog.cellsOf 3)) = some y := hg 0 _ rfl
 rw [cINT] at h0
 obtain ⟨y1, h1⟩ : ∃ y, DataW.trod enc Tryz.prog w 0 sp held g 3 (([a0, a1, a2, a3, a4, a5].drop 1).take (Tryz.prog.cellsOf 3)) = some y := hg 1 _ rfl
 rw [cINT] at h1
 obtain ⟨y2, h2⟩ : ∃ y, DataW.trod enc Tryz.prog w 0 sp held g 3 (([a0, a1, a2, a3, a4, a5].drop 2).take (Tryz.prog.cellsOf 3)) = some y := hg 2 _ rfl
 rw [cINT] at h2
 obtain ⟨y3, h3⟩ : ∃ y, DataW.trod enc Tryz.prog w 0 sp held g 3 (([a0, a1, a2, a3, a4, a5].drop 3).take (Tryz.prog.cellsOf 3)) = some y := hg 3 _ rfl
 rw [cINT] at h3
 obtain ⟨y4, h4⟩ : ∃ y, DataW.trod enc Tryz.prog w 0 sp held g 3 (([a0, a1, a2, a3, a4, a5].drop 4).take (Tryz.prog.cellsOf 3)) = some y := hg 4 _ rfl
 rw [cINT] at h4
 obtain ⟨y5, h5⟩ : ∃ y, DataW.trod enc Tryz.prog w 0 sp held g 3 (([a0, a1, a2, a3, a4, a5].drop 5).take (Tryz.prog.cellsOf 3)) = some y := hg 5 _ rfl
 rw [cINT] at h5
 obtain ⟨n0, e0, b0⟩ := read_int uINT h0
 obtain ⟨n1, e1, b1⟩ := read_int uINT h1
 obtain ⟨n2, e2, b2⟩ := read_int uINT h2
 obtain ⟨n3, e3, b3⟩ := read_int uINT h3
 obtain ⟨n4, e4, b4⟩ := read_int uINT h4
 obtain ⟨n5, e5, b5⟩ := read_int uINT h5
 cases e0
 cases e1
 cases e2
 cases e3
 cases e4
 cases e5
 exact ⟨_, _, _, _, _, _, rfl, int_bounds b5⟩
theorem open_rd {cs : List Value} {fuel : Nat} {x : DataW H × List MemPlace} (h : DataW.trod enc Tryz.prog w 0 sp held fuel 88 cs = some x) : ∃ z0 z1 z2 z3 z4 : Int, cs = [.int .i64 z0, .int .i64 z1, .int .i64 z2, .int .i64 z3, .int .i64 z4] ∧ -9223372036854775808 ≤ z4 ∧ z4 ≤ 9223372036854775807 := by
 obtain ⟨hl, g, hg⟩ := read_struct Tryz.underlying88 h
 rw [cRD] at hl
 obtain ⟨a0, a1, a2, a3, a4, rfl⟩ := lenL5 hl
 obtain ⟨y0, h0⟩ : ∃ y, DataW.trod enc Tryz.prog w 0 sp held g 86 (([a0, a1, a2, a3, a4].drop 0).take (Tryz.prog.cellsOf 86)) = some y := hg 0 _ rfl
 rw [cKEY] at h0
 obtain ⟨y1, h1⟩ : ∃ y, DataW.trod enc Tryz.prog w 0 sp held g 3 (([a0, a1, a2, a3, a4].drop 3).take (Tryz.prog.cellsOf 3)) = some y := hg 1 _ rfl
 rw [cINT] at h1
 obtain ⟨y2, h2⟩ : ∃ y, DataW.trod enc Tryz.prog w 0 sp held g 3 (([a0, a1, a2, a3, a4].drop 4).take (Tryz.prog.cellsOf 3)) = some y := hg 2 _ rfl
 rw [cINT] at h2
 obtain ⟨n0, n1, n2, e0, b0⟩ := open_key h0
 obtain ⟨n3, e1, b1⟩ := read_int uINT h1
 obtain ⟨n4, e2, b2⟩ := read_int uINT h2
 cases e0
 cases e1
 cases e2
 exact ⟨_, _, _, _, _, rfl, int_bounds b2⟩
theorem open_fcb {cs : List Value} {fuel : Nat} {x : DataW H × List MemPlace} (h : DataW.trod enc Tryz.prog w 0 sp held fuel 147 cs = some x) : ∃ z0 z1 z2 z3 z4 z5 z6 z7 : Int, cs = [.int .i64 z0, .int .i64 z1, .int .i64 z2, .int .i64 z3, .int .i64 z4, .int .i64 z5, .int .i64 z6, .int .i64 z7] ∧ (-9223372036854775808 ≤ z4 ∧ z4 ≤ 9223372036854775807) ∧ (-9223372036854775808 ≤ z5 ∧ z5 ≤ 9223372036854775807) := by
 obtain ⟨hl, g, hg⟩ := read_struct Tryz.underlying147 h
 rw [cFC] at hl
 obtain ⟨a0, a1, a2, a3, a4, a5, a6, a7, rfl⟩ := lenL8 hl
 obtain ⟨y0, h0⟩ : ∃ y, DataW.trod enc Tryz.prog w 0 sp held g 86 (([a0, a1, a2, a3, a4, a5, a6, a7].drop 0).take (Tryz.prog.cellsOf 86)) = some y := hg 0 _ rfl
 rw [cKEY] at h0
 obtain ⟨y1, h1⟩ : ∃ y, DataW.trod enc Tryz.prog w 0 sp held g 3 (([a0, a1, a2, a3, a4, a5, a6, a7].drop 3).take (Tryz.prog.cellsOf 3)) = some y := hg 1 _ rfl
 rw [cINT] at h1
 obtain ⟨y2, h2⟩ : ∃ y, DataW.trod enc Tryz.prog w 0 sp held g 145 (([a0, a1, a2, a3, a4, a5, a6, a7].drop 4).take (Tryz.prog.cellsOf 145)) = some y := hg 2 _ rfl
 rw [cSPAN] at h2
 obtain ⟨y3, h3⟩ : ∃ y, DataW.trod enc Tryz.prog w 0 sp held g 3 (([a0, a1, a2, a3, a4, a5, a6, a7].drop 6).take (Tryz.prog.cellsOf 3)) = some y := hg 3 _ rfl
 rw [cINT] at h3
 obtain ⟨y4, h4⟩ : ∃ y, DataW.trod enc Tryz.prog w 0 sp held g 3 (([a0, a1, a2, a3, a4, a5, a6, a7].drop 7).take (Tryz.prog.cellsOf 3)) = some y := hg 4 _ rfl
 rw [cINT] at h4
 obtain ⟨n0, n1, n2, e0, -⟩ := open_key h0
 obtain ⟨n3, e1, -⟩ := read_int uINT h1
 obtain ⟨hl2, g2, hg2⟩ := read_struct Tryz.underlying145 h2
 obtain ⟨y5, k0⟩ : ∃ y, DataW.trod enc Tryz.prog w 0 sp held g2 3 (([a4, a5].drop 0).take (Tryz.prog.cellsOf 3)) = some y := hg2 0 _ rfl
 rw [cINT] at k0
 obtain ⟨y6, k1⟩ : ∃ y, DataW.trod enc Tryz.prog w 0 sp held g2 3 (([a4, a5].drop 1).take (Tryz.prog.cellsOf 3)) = some y := hg2 1 _ rfl
 rw [cINT] at k1
 obtain ⟨n4, e4, b4⟩ := read_int uINT k0
 obtain ⟨n5, e5, b5⟩ := read_int uINT k1
 obtain ⟨n6, e6, -⟩ := read_int uINT h3
 obtain ⟨n7, e7, -⟩ := read_int uINT h4
 cases e0
 cases e1
 cases e4
 cases e5
 cases e6
 cases e7
 exact ⟨_, _, _, _, _, _, _, _, rfl, int_bounds b4, int_bounds b5⟩
theorem slOf_split {α : Type} {sz : Nat} {R R' : Mem → List Value → α → Prop} {Q : α → Prop} {M : Mem} {v : Value} {xs : List α} (h : SlOf sz R M v xs) (hR : ∀ c x, R M c x → R' M c x ∧ Q x) : SlOf sz R' M v xs ∧ ∀ x ∈ xs, Q x := by
 obtain ⟨A, k, cells, h1, h2, h3, h4, hr, he⟩ := h
 refine ⟨⟨A, k, cells, h1, h2, h3, h4, hr, fun i x hx => (hR _ _ (he i x hx)).1⟩, fun x hx => ?_⟩
 obtain ⟨i, hi, rfl⟩ := List.getElem_of_mem hx
 exact (hR _ _ (he i _ (List.getElem?_eq_getElem hi))).2
def FDay (f : Fc) : Prop := (-9223372036854775808 ≤ f.lo ∧ f.lo ≤ 9223372036854775807) ∧ (-9223372036854775808 ≤ f.hi ∧ f.hi ≤ 9223372036854775807)
theorem open_sw {cs : List Value} {fuel : Nat} {x : DataW H × List MemPlace} (h : DataW.trod enc Tryz.prog w 0 sp held fuel 197 cs = some x) : ∃ (s1 s2 : ByteArray) (a b : Int), cs = [.string s1, .string s2, .int .i64 a, .int .i64 b] := by
 obtain ⟨hl, g, hg⟩ := read_struct Tryz.underlying197 h
 rw [cSWE] at hl
 obtain ⟨a0, a1, a2, a3, rfl⟩ := lenL4 hl
 obtain ⟨y0, h0⟩ : ∃ y, DataW.trod enc Tryz.prog w 0 sp held g 9 (([a0, a1, a2, a3].drop 0).take (Tryz.prog.cellsOf 9)) = some y := hg 0 _ rfl
 rw [cSTR] at h0
 obtain ⟨y1, h1⟩ : ∃ y, DataW.trod enc Tryz.prog w 0 sp held g 9 (([a0, a1, a2, a3].drop 1).take (Tryz.prog.cellsOf 9)) = some y := hg 1 _ rfl
 rw [cSTR] at h1
 obtain ⟨y2, h2⟩ : ∃ y, DataW.trod enc Tryz.prog w 0 sp held g 3 (([a0, a1, a2, a3].drop 2).take (Tryz.prog.cellsOf 3)) = some y := hg 2 _ rfl
 rw [cINT] at h2
 obtain ⟨y3, h3⟩ : ∃ y, DataW.trod enc Tryz.prog w 0 sp held g 3 (([a0, a1, a2, a3].drop 3).take (Tryz.prog.cellsOf 3)) = some y := hg 3 _ rfl
 rw [cINT] at h3
 obtain ⟨s1, e0, -⟩ := read_string uSTR h0
 obtain ⟨s2, e1, -⟩ := read_string uSTR h1
 obtain ⟨n2, e2, -⟩ := read_int uINT h2
 obtain ⟨n3, e3, -⟩ := read_int uINT h3
 cases e0; cases e1; cases e2; cases e3
 exact ⟨_, _, _, _, rfl⟩
theorem open_world {cs : List Value} {fuel : Nat} {x : DataW H × List MemPlace} (h : DataW.trod enc Tryz.prog w 0 sp held fuel 38 cs = some x) : ∃ d : Wd, RWd (Bf.hp w) cs d ∧ ∀ f ∈ d.facts, FDay f := by
 obtain ⟨hl, g, hg⟩ := read_struct Tryz.underlying38 h
 rw [cW] at hl
 obtain ⟨a0, a1, a2, a3, a4, a5, a6, a7, a8, a9, a10, rfl⟩ := lenL11 hl
 obtain ⟨y0, h0⟩ : ∃ y, DataW.trod enc Tryz.prog w 0 sp held g 35 (([a0, a1, a2, a3, a4, a5, a6, a7, a8, a9, a10].drop 0).take (Tryz.prog.cellsOf 35)) = some y := hg 0 _ rfl
 rw [cTB] at h0
 obtain ⟨y1, h1⟩ : ∃ y, DataW.trod enc Tryz.prog w 0 sp held g 36 (([a0, a1, a2, a3, a4, a5, a6, a7, a8, a9, a10].drop 10).take (Tryz.prog.cellsOf 36)) = some y := hg 1 _ rfl
 rw [cFA] at h1
 have h0 : DataW.trod enc Tryz.prog w 0 sp held g 35 [a0, a1, a2, a3, a4, a5, a6, a7, a8, a9] = some y0 := h0
 obtain ⟨-, g2, hg2⟩ := read_struct Tryz.underlying35 h0
 obtain ⟨z0, k0⟩ : ∃ y, DataW.trod enc Tryz.prog w 0 sp held g2 31 (([a0, a1, a2, a3, a4, a5, a6, a7, a8, a9].drop 0).take (Tryz.prog.cellsOf 31)) = some y := hg2 0 _ rfl
 rw [cSRC] at k0
 obtain ⟨z1, k1⟩ : ∃ y, DataW.trod enc Tryz.prog w 0 sp held g2 32 (([a0, a1, a2, a3, a4, a5, a6, a7, a8, a9].drop 8).take (Tryz.prog.cellsOf 32)) = some y := hg2 1 _ rfl
 rw [cLV] at k1
 obtain ⟨z2, k2⟩ : ∃ y, DataW.trod enc Tryz.prog w 0 sp held g2 33 (([a0, a1, a2, a3, a4, a5, a6, a7, a8, a9].drop 9).take (Tryz.prog.cellsOf 33)) = some y := hg2 2 _ rfl
 rw [cCD] at k2
 have k0 : DataW.trod enc Tryz.prog w 0 sp held g2 31 [a0, a1, a2, a3, a4, a5, a6, a7] = some z0 := k0
 obtain ⟨-, g3, hg3⟩ := read_struct Tryz.underlying31 k0
 obtain ⟨x0, m0⟩ : ∃ y, DataW.trod enc Tryz.prog w 0 sp held g3 22 (([a0, a1, a2, a3, a4, a5, a6, a7].drop 0).take (Tryz.prog.cellsOf 22)) = some y := hg3 0 _ rfl
 rw [cS0] at m0
 obtain ⟨x1, m1⟩ : ∃ y, DataW.trod enc Tryz.prog w 0 sp held g3 23 (([a0, a1, a2, a3, a4, a5, a6, a7].drop 1).take (Tryz.prog.cellsOf 23)) = some y := hg3 1 _ rfl
 rw [cS1] at m1
 obtain ⟨x2, m2⟩ : ∃ y, DataW.trod enc Tryz.prog w 0 sp held g3 24 (([a0, a1, a2, a3, a4, a5, a6, a7].drop 2).take (Tryz.prog.cellsOf 24)) = some y := hg3 2 _ rfl
 rw [cS2] at m2
 obtain ⟨x3, m3⟩ : ∃ y, DataW.trod enc Tryz.prog w 0 sp held g3 25 (([a0, a1, a2, a3, a4, a5, a6, a7].drop 3).take (Tryz.prog.cellsOf 25)) = some y := hg3 3 _ rfl
 rw [cS3] at m3
 obtain ⟨x4, m4⟩ : ∃ y, DataW.trod enc Tryz.prog w 0 sp held g3 26 (([a0, a1, a2, a3, a4, a5, a6, a7].drop 4).take (Tryz.prog.cellsOf 26)) = some y := hg3 4 _ rfl
 rw [cS4] at m4
 obtain ⟨x5, m5⟩ : ∃ y, DataW.trod enc Tryz.prog w 0 sp held g3 27 (([a0, a1, a2, a3, a4, a5, a6, a7].drop 5).take (Tryz.prog.cellsOf 27)) = some y := hg3 5 _ rfl
 rw [cS5] at m5
 obtain ⟨x6, m6⟩ : ∃ y, DataW.trod enc Tryz.prog w 0 sp held g3 28 (([a0, a1, a2, a3, a4, a5, a6, a7].drop 6).take (Tryz.prog.cellsOf 28)) = some y := hg3 6 _ rfl
 rw [cS6] at m6
 obtain ⟨x7, m7⟩ : ∃ y, DataW.trod enc Tryz.prog w 0 sp held g3 29 (([a0, a1, a2, a3, a4, a5, a6, a7].drop 7).take (Tryz.prog.cellsOf 29)) = some y := hg3 7 _ rfl
 rw [cSW] at m7
 obtain ⟨e0, he0⟩ := uS0
 have o0 := one_slice he0 m0
 obtain ⟨e1, he1⟩ := uS1
 have o1 := one_slice he1 m1
 obtain ⟨e2, he2⟩ := uS2
 have o2 := one_slice he2 m2
 obtain ⟨e3, he3⟩ := uS3
 have o3 := one_slice he3 m3
 obtain ⟨e4, he4⟩ := uS4
 have o4 := one_slice he4 m4
 obtain ⟨e5, he5⟩ := uS5
 have o5 := one_slice he5 m5
 obtain ⟨e6, he6⟩ := uS6
 have o6 := one_slice he6 m6
 have o8 := one_slice uLV k1
 obtain ⟨e9, he9⟩ := uCD
 have o9 := one_slice he9 k2
 obtain ⟨swaps, A, c, rfl, hs⟩ := read_slOf (R := RSw) uSW cSWE (by omega) (fun f cs y hl hy => by
  obtain ⟨s1, s2, p, q, rfl⟩ := open_sw hy
  exact ⟨by intro u hu; simp at hu; rcases hu with rfl | rfl | rfl | rfl <;> rfl, (p, q), s1, s2, rfl⟩) m7
 obtain ⟨facts, B, d, rfl, hf0⟩ := read_slOf (R := fun M c x => RFc M c x ∧ FDay x) uFA cFC (by omega) (fun f cs y hl hy => by
  obtain ⟨z0, z1, z2, z3, z4, z5, z6, z7, rfl, hb1, hb2⟩ := open_fcb hy
  exact ⟨by intro u hu; simp at hu; rcases hu with rfl | rfl | rfl | rfl | rfl | rfl | rfl | rfl <;> rfl, ⟨(z0, z1, z2), z3, z4, z5, z6, z7⟩, rfl, hb1, hb2⟩) h1
 obtain ⟨hf, hfb⟩ := slOf_split (R' := RFc) (Q := FDay) hf0 fun c x hx => hx
 refine ⟨⟨swaps, facts⟩, ⟨rfl, ?_, ⟨A, c, rfl, hs⟩, ⟨B, d, rfl, hf⟩⟩, hfb⟩
 repeat (first | exact AllOne.nil | refine AllOne.cons (by first | assumption | rfl) ?_)
theorem open_book {cs : List Value} {fuel : Nat} {x : DataW H × List MemPlace} (h : DataW.trod enc Tryz.prog w 0 sp held fuel 44 cs = some x) : ∃ k : Bp, RBp (Bf.hp w) (.agg cs.toArray) k := by
 obtain ⟨hl, g, hg⟩ := read_struct Tryz.underlying44 h
 rw [cBK] at hl
 obtain ⟨a0, a1, a2, a3, a4, rfl⟩ := lenL5 hl
 obtain ⟨y0, h0⟩ : ∃ y, DataW.trod enc Tryz.prog w 0 sp held g 3 (([a0, a1, a2, a3, a4].drop 0).take (Tryz.prog.cellsOf 3)) = some y := hg 0 _ rfl
 rw [cINT] at h0
 obtain ⟨y1, h1⟩ : ∃ y, DataW.trod enc Tryz.prog w 0 sp held g 39 (([a0, a1, a2, a3, a4].drop 1).take (Tryz.prog.cellsOf 39)) = some y := hg 1 _ rfl
 rw [cSPS] at h1
 obtain ⟨y2, h2⟩ : ∃ y, DataW.trod enc Tryz.prog w 0 sp held g 40 (([a0, a1, a2, a3, a4].drop 2).take (Tryz.prog.cellsOf 40)) = some y := hg 2 _ rfl
 rw [cRQS] at h2
 obtain ⟨y3, h3⟩ : ∃ y, DataW.trod enc Tryz.prog w 0 sp held g 41 (([a0, a1, a2, a3, a4].drop 3).take (Tryz.prog.cellsOf 41)) = some y := hg 3 _ rfl
 rw [cFT] at h3
 obtain ⟨y4, h4⟩ : ∃ y, DataW.trod enc Tryz.prog w 0 sp held g 42 (([a0, a1, a2, a3, a4].drop 4).take (Tryz.prog.cellsOf 42)) = some y := hg 4 _ rfl
 rw [cRDS] at h4
 obtain ⟨n0, e0, -⟩ := read_int uINT h0
 cases e0
 obtain ⟨sups, As, ca, rfl, hs⟩ := read_slOf (R := RSpC) uSPS cSP (by omega) (fun f cs y hl hy => by
  obtain ⟨z0, z1, z2, z3, z4, z5, rfl, -⟩ := open_sp hy
  exact ⟨by intro u hu; simp at hu; rcases hu with rfl | rfl | rfl | rfl | rfl | rfl <;> rfl, ⟨z0, z1, z2, z3, z4, z5⟩, rfl⟩) h1
 obtain ⟨reqs, Ar, cr, rfl, hr⟩ := read_slOf (R := RRqC) uRQS cRQ (by omega) (fun f cs y hl hy => by
  obtain ⟨z0, z1, z2, z3, z4, z5, rfl, -⟩ := open_rq hy
  exact ⟨by intro u hu; simp at hu; rcases hu with rfl | rfl | rfl | rfl | rfl | rfl <;> rfl, ⟨z0, z1, z2, z3, z4, z5⟩, rfl⟩) h2
 obtain ⟨fits, Af, cf, rfl, hf⟩ := read_slOf (R := RRowB) uFT cROW (by omega) (fun f cs y hl hy => by
  obtain ⟨a, rfl⟩ := List.length_eq_one_iff.1 hl
  obtain ⟨l, A, c, rfl, hs⟩ := read_slOf (R := RBo) uROW cB (by omega) (fun f cs y hl hy => by
   obtain ⟨b, rfl⟩ := read_bool uB hy
   exact ⟨by intro u hu; simp at hu; subst hu; rfl, b, rfl⟩) hy
  exact ⟨by intro u hu; simp at hu; subst hu; rfl, l, A, c, rfl, hs⟩) h3
 obtain ⟨rds, Ad, cd, rfl, hd⟩ := read_slOf (R := RRd) uRDS cRD (by omega) (fun f cs y hl hy => by
  obtain ⟨z0, z1, z2, z3, z4, rfl, -⟩ := open_rd hy
  exact ⟨by intro u hu; simp at hu; rcases hu with rfl | rfl | rfl | rfl | rfl <;> rfl, ((z0, z1, z2), z3, z4), rfl⟩) h4
 exact ⟨⟨n0, sups, reqs, fits, rds⟩, As, ca, Ar, cr, Af, cf, Ad, cd, rfl, hs, hr, hf, hd⟩
theorem arg_world (h : Arg enc Tryz.prog W base 38 v) : ∃ ws d, v = .agg ws.toArray ∧ RWd (Bf.hp W) ws d ∧ ∀ f ∈ d.facts, FDay f := by
 obtain ⟨k0, f0, x, g0⟩ := h
 unfold Value.okWide at k0
 rw [Tryz.underlying38] at k0
 obtain ⟨cs, rfl, -, -⟩ := k0
 obtain ⟨d, hd⟩ := open_world (cs := cs.toList) (by simpa [Value.cells] using g0)
 exact ⟨cs.toList, d, by simp, hd⟩
theorem arg_book (h : Arg enc Tryz.prog W base 44 v) : ∃ k, RBp (Bf.hp W) v k := by
 obtain ⟨k0, f0, x, g0⟩ := h
 unfold Value.okWide at k0
 rw [Tryz.underlying44] at k0
 obtain ⟨cs, rfl, -, -⟩ := k0
 obtain ⟨dk, hdk⟩ := open_book g0
 exact ⟨dk, by simpa [Value.cells] using hdk⟩
theorem arg_req (h : Arg enc Tryz.prog W base 46 v) : ∃ r : Rq, v = .agg #[.int .i64 r.no, .int .i64 r.item, .int .i64 r.cust, .int .i64 r.due, .int .i64 r.shelf, .int .i64 r.amount] ∧ -9223372036854775808 ≤ r.amount ∧ r.amount ≤ 9223372036854775807 := by
 obtain ⟨k0, f0, x, g0⟩ := h
 unfold Value.okWide at k0
 rw [Tryz.underlying46] at k0
 obtain ⟨cs, rfl, -, -⟩ := k0
 obtain ⟨z0, z1, z2, z3, z4, z5, e, hb⟩ := open_rq (cs := cs.toList) (by simpa [Value.cells] using g0)
 refine ⟨⟨z0, z1, z2, z3, z4, z5⟩, ?_, hb⟩
 have : cs = cs.toList.toArray := by simp
 rw [this, e]
theorem arg_sups (h : Arg enc Tryz.prog W base 39 v) : ∃ (l : List Sp) (A : Option Addr) (c : Nat), v = .slice A l.length c ∧ SlOf 6 RSpC (Bf.hp W) (.slice A l.length c) l := by
 obtain ⟨k0, f0, x, g0⟩ := h
 obtain ⟨A, len, cap, rfl⟩ := okWide_slice uSPS k0
 exact read_slOf (R := RSpC) uSPS cSP (by omega) (fun f cs y hl hy => by
  obtain ⟨z0, z1, z2, z3, z4, z5, rfl, -⟩ := open_sp hy
  exact ⟨by intro u hu; simp at hu; rcases hu with rfl | rfl | rfl | rfl | rfl | rfl <;> rfl, ⟨z0, z1, z2, z3, z4, z5⟩, rfl⟩) (by simpa [Value.cells] using g0)
theorem arg_int (h : Arg enc Tryz.prog W base 3 v) : ∃ a : Int, v = .int .i64 a ∧ -9223372036854775808 ≤ a ∧ a ≤ 9223372036854775807 := by
 obtain ⟨k0, f0, x, g0⟩ := h
 obtain ⟨n, rfl⟩ := okWide_int uINT k0
 obtain ⟨m, e, hw⟩ := read_int uINT g0
 simp [Value.cells] at e
 subst e
 exact ⟨n, rfl, int_bounds hw⟩
end
theorem len3 {l : List Value} (h : l.length = 3) : ∃ a b c, l = [a, b, c] := lenL3 h
theorem len4 {l : List Value} (h : l.length = 4) : ∃ a b c d, l = [a, b, c, d] := lenL4 h
theorem ownT' : ownKnob Tryz.checked.prog.godebug = none := by kernel_rfl
theorem laidT' : laidOutB Tryz.checked.prog = true := by kernel_rfl
end Go.Proofs.YtmikfjcdgkopkaaGreat

/-
 Promises: how the steps of PromisesKept read.
 Conditions: none.
-/
namespace Go.Proofs.YtmikfjcdgkopkaaGreat
open Go Bf
open Go.ChangeShapes Go.WideShapes Go.ChangeAt Go.RowKit
set_option maxRecDepth 100000
section
variable {H : Type} {enc : TypeId × Value → H} {W : World} {base : Nat} {v : Value} {w : World} {sp : Nat → Bool} {held : Bool}
theorem uSTEPS : Tryz.prog.underlying 67 = some (.slice 69) := (tysOk.get (t := 67) rfl).1
theorem cSTEP : Tryz.prog.cellsOf 69 = 8 := by kernel_rfl
theorem open_step {cs : List Value} {fuel : Nat} {x : DataW H × List MemPlace} (h : DataW.trod enc Tryz.prog w 0 sp held fuel 69 cs = some x) : ∃ (d : Bool) (z0 z1 z2 z3 z4 z5 n : Int), cs = [.bool d, .int .i64 z0, .int .i64 z1, .int .i64 z2, .int .i64 z3, .int .i64 z4, .int .i64 z5, .int .i64 n] := by
 obtain ⟨hl, g, hg⟩ := read_struct Tryz.underlying69 h
 rw [cSTEP] at hl
 obtain ⟨a0, a1, a2, a3, a4, a5, a6, a7, rfl⟩ := lenL8 hl
 obtain ⟨y0, h0⟩ : ∃ y, DataW.trod enc Tryz.prog w 0 sp held g 4 (([a0, a1, a2, a3, a4, a5, a6, a7].drop 0).take (Tryz.prog.cellsOf 4)) = some y := hg 0 _ rfl
 rw [cB] at h0
 obtain ⟨y1, h1⟩ : ∃ y, DataW.trod enc Tryz.prog w 0 sp held g 46 (([a0, a1, a2, a3, a4, a5, a6, a7].drop 1).take (Tryz.prog.cellsOf 46)) = some y := hg 1 _ rfl
 rw [cRQ] at h1
 obtain ⟨y2, h2⟩ : ∃ y, DataW.trod enc Tryz.prog w 0 sp held g 3 (([a0, a1, a2, a3, a4, a5, a6, a7].drop 7).take (Tryz.prog.cellsOf 3)) = some y := hg 2 _ rfl
 rw [cINT] at h2
 obtain ⟨d, e0⟩ := read_bool uB h0
 obtain ⟨n0, n1, n2, n3, n4, n5, e1, -⟩ := open_rq h1
 obtain ⟨n, e2, -⟩ := read_int uINT h2
 cases e0
 cases e1
 cases e2
 exact ⟨_, _, _, _, _, _, _, _, rfl⟩
theorem arg_steps (h : Arg enc Tryz.prog W base 67 v) : ∃ (l : List St31) (A : Option Addr) (c : Nat), v = .slice A l.length c ∧ SlOf 8 RStp (Bf.hp W) (.slice A l.length c) l := by
 obtain ⟨k0, f0, x, g0⟩ := h
 obtain ⟨A, len, cap, rfl⟩ := okWide_slice uSTEPS k0
 exact read_slOf (R := RStp) uSTEPS cSTEP (by omega) (fun f cs y hl hy => by
  obtain ⟨d, z0, z1, z2, z3, z4, z5, n, rfl⟩ := open_step hy
  exact ⟨by intro u hu; simp at hu; rcases hu with rfl | rfl | rfl | rfl | rfl | rfl | rfl | rfl <;> rfl, ⟨d, ⟨z0, z1, z2, z3, z4, z5⟩, n⟩, rfl⟩) (by simpa [Value.cells] using g0)
end
end Go.Proofs.YtmikfjcdgkopkaaGreat

