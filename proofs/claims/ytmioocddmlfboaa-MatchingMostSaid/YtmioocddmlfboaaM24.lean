/-
  Matching, plain: sets of bits and sets of requests; what the reference computes of them.
  Conditions: none.
-/
import Derived.Test.YtmioocddmlfboaaM16
namespace Go.Proofs.Ytmioocddmlfboaa
open Go Bf
/-- the bits of a set -/
def bitsOf (S : Nat → Bool) : Nat → Nat
  | 0 => 0
  | m + 1 => bitsOf S m + if S m then 2 ^ m else 0
theorem bitsOf_lt (S : Nat → Bool) : ∀ m, bitsOf S m < 2 ^ m
  | 0 => by simp [bitsOf]
  | m + 1 => by
    have := bitsOf_lt S m
    rw [bitsOf, Nat.pow_succ]
    split <;> omega
theorem bitsOf_bit (S : Nat → Bool) : ∀ m i, (bitsOf S m).testBit i = (decide (i < m) && S i)
  | 0, i => by simp [bitsOf]
  | m + 1, i => by
    have hl := bitsOf_lt S m
    have ih := bitsOf_bit S m i
    have e : bitsOf S (m + 1) = 2 ^ m * (if S m then 1 else 0) + bitsOf S m := by
      rw [bitsOf]; split <;> simp <;> omega
    rw [e, Nat.testBit_two_pow_mul_add _ hl]
    by_cases h : i < m
    · rw [if_pos h, ih]
      have h2 : i < m + 1 := by omega
      simp [h, h2]
    · rw [if_neg h]
      by_cases h3 : i = m
      · subst h3
        simp
        cases S i <;> simp
      · have h4 : ¬ i < m + 1 := by omega
        simp only [h4, decide_false, Bool.false_and]
        obtain ⟨d, hd⟩ : ∃ d, i - m = d + 1 := ⟨i - m - 1, by omega⟩
        rw [hd]
        cases S m <;> simp [Nat.testBit_succ]
theorem touch_bits {fits : List (List Bool)} {sup need : List Int} (hv : Vld fits sup need) {k : Nat} (hk : k < sup.length) (s : Nat) : touchB (fits.getD k []) s = touches (pbOf fits sup need) (fun b => s.testBit b) k := by
  have hl := hv.lf
  obtain ⟨row, hr⟩ := get_of_lt (xs := fits) (i := k) (by omega)
  have hrl := hv.rows row (List.mem_of_getElem? hr)
  unfold touchB touches
  rw [getD_of (d := []) hr, hrl]
  show _ = (List.range need.length).any fun b => s.testBit b && (fits.getD k []).getD b false
  rw [getD_of (d := []) hr]
theorem lackB_eq {fits : List (List Bool)} {sup need : List Int} (hv : Vld fits sup need) (s : Nat) : lackB fits sup need s = lackOf (pbOf fits sup need) (fun b => s.testBit b) := by
  unfold lackB lackOf
  congr 1
  refine sumN_congr fun k hk => ?_
  rw [touch_bits hv hk]
  rfl
theorem lackOf_congr {p : Pb} {D D' : Nat → Bool} (h : ∀ b, b < p.m → D b = D' b) : lackOf p D = lackOf p D' := by
  unfold lackOf
  congr 1
  · exact sumN_congr fun b hb => by rw [h b hb]
  · refine sumN_congr fun k _ => ?_
    have : touches p D k = touches p D' k := by
      rw [Bool.eq_iff_iff, touches_iff, touches_iff]
      exact ⟨fun ⟨b, h1, h2, h3⟩ => ⟨b, h1, by rw [← h b h1]; exact h2, h3⟩, fun ⟨b, h1, h2, h3⟩ => ⟨b, h1, by rw [h b h1]; exact h2, h3⟩⟩
    rw [this]
theorem lackOf_bits {fits : List (List Bool)} {sup need : List Int} (hv : Vld fits sup need) (D : Nat → Bool) : lackOf (pbOf fits sup need) D = lackB fits sup need (bitsOf D need.length) := by
  rw [lackB_eq hv]
  refine lackOf_congr fun b hb => ?_
  rw [bitsOf_bit]
  have : b < need.length := hb
  simp [this]
theorem MaxLack.isLack {fits : List (List Bool)} {sup need : List Int} (hv : Vld fits sup need) {v : Int} (h : MaxLack fits sup need (2 ^ need.length) v) : IsLack (pbOf fits sup need) v := by
  refine ⟨?_, fun D => ?_⟩
  · rcases h.is with h | ⟨s, _, _, h⟩
    · exact ⟨fun _ => false, by rw [lackOf_none, h]⟩
    · exact ⟨_, by rw [← lackB_eq hv, h]⟩
  · rw [lackOf_bits hv]
    by_cases h0 : bitsOf D need.length = 0
    · rw [h0, lackB_eq hv]
      have : lackOf (pbOf fits sup need) (fun b => (0 : Nat).testBit b) = 0 := by
        rw [← lackOf_none (pbOf fits sup need)]
        exact lackOf_congr fun b _ => by simp
      rw [this]; exact h.nn
    · exact h.le _ (by omega) (bitsOf_lt _ _)
/-- a part of the requests can be met if no part of it lacks anything -/
theorem lackS_le {fits : List (List Bool)} {sup need : List Int} (hv : Vld fits sup need) (S D : Nat → Bool) : lackOf (pbS fits sup need S) D ≤ lackOf (pbOf fits sup need) (fun b => D b && S b) := by
  unfold lackOf
  have h1 : (sumN (pbS fits sup need S).m fun b => if D b = true then (pbS fits sup need S).need b else 0) = sumN (pbOf fits sup need).m fun b => if (D b && S b) = true then (pbOf fits sup need).need b else 0 := sumN_congr fun b _ => by
    show (if D b = true then (if S b = true then need.getD b 0 else 0) else 0) = if (D b && S b) = true then need.getD b 0 else 0
    cases D b <;> cases S b <;> simp
  have h2 : (sumN (pbOf fits sup need).n fun k => if touches (pbOf fits sup need) (fun b => D b && S b) k = true then (pbOf fits sup need).sup k else 0) ≤ sumN (pbS fits sup need S).n fun k => if touches (pbS fits sup need S) D k = true then (pbS fits sup need S).sup k else 0 := sumN_le fun k hk => by
    by_cases ht : touches (pbOf fits sup need) (fun b => D b && S b) k = true
    · have : touches (pbS fits sup need S) D k = true := by
        obtain ⟨b, g1, g2, g3⟩ := touches_iff.1 ht
        exact touches_iff.2 ⟨b, g1, by simp at g2; exact g2.1, g3⟩
      rw [if_pos ht, if_pos this]
      exact Int.le_refl _
    · rw [if_neg ht]
      split
      · exact (getD_rng hv.rs k).1
      · exact Int.le_refl _
  exact Int.sub_le_sub (Int.le_of_eq h1) h2
theorem lackS_eq {fits : List (List Bool)} {sup need : List Int} (S D : Nat → Bool) (h : ∀ b, b < need.length → D b = true → S b = true) : lackOf (pbS fits sup need S) D = lackOf (pbOf fits sup need) D := by
  unfold lackOf
  congr 1
  refine sumN_congr fun b hb => ?_
  show (if D b = true then (if S b = true then need.getD b 0 else 0) else 0) = if D b = true then need.getD b 0 else 0
  by_cases hd : D b = true
  · rw [if_pos hd, if_pos hd, if_pos (h b hb hd)]
  · rw [if_neg hd, if_neg hd]
theorem feasS_iff {fits : List (List Bool)} {sup need : List Int} (hv : Vld fits sup need) (S : Nat → Bool) : Feas (pbS fits sup need S) ↔ ∀ D, lackOf (pbS fits sup need S) D ≤ 0 := feas_iff (fun k _ => (getD_rng hv.rs k).1) (fun b _ => by
  show 0 ≤ if S b = true then need.getD b 0 else 0
  split
  · exact (getD_rng hv.rn b).1
  · exact Int.le_refl _)
theorem poss_iff {fits : List (List Bool)} {sup need : List Int} (hv : Vld fits sup need) {set : Nat} (hs : set < 2 ^ need.length) : Poss fits sup need set ↔ Feas (pbS fits sup need fun b => set.testBit b) := by
  rw [feasS_iff hv]
  refine ⟨fun h D => ?_, fun h s h1 h2 h3 => ?_⟩
  · refine Int.le_trans (lackS_le hv _ D) ?_
    rw [lackOf_bits hv]
    by_cases h0 : bitsOf (fun b => D b && set.testBit b) need.length = 0
    · rw [h0, lackB_eq hv]
      have : lackOf (pbOf fits sup need) (fun b => (0 : Nat).testBit b) = 0 := by
        rw [← lackOf_none (pbOf fits sup need)]
        exact lackOf_congr fun b _ => by simp
      rw [this]; exact Int.le_refl _
    · have hsub : bitsOf (fun b => D b && set.testBit b) need.length &&& set = bitsOf (fun b => D b && set.testBit b) need.length := by
        apply Nat.eq_of_testBit_eq
        intro i
        rw [Nat.testBit_and, bitsOf_bit]
        cases D i <;> cases set.testBit i <;> simp
      refine h _ (by omega) ?_ hsub
      rw [← hsub]
      exact Nat.and_le_right
  · rw [lackB_eq hv, ← lackS_eq (S := fun b => set.testBit b)]
    · exact h _
    · intro b _ hb
      rw [← h3, Nat.testBit_and] at hb
      simp at hb
      exact hb.2
theorem sub_bit {s r : Nat} (h : s.testBit r = true) : 2 ^ r ≤ s ∧ ∀ b, (s - 2 ^ r).testBit b = (s.testBit b && decide (b ≠ r)) := by
  have hd : s = 2 ^ r * (s / 2 ^ r) + s % 2 ^ r := (Nat.div_add_mod s (2 ^ r)).symm
  have hl : s % 2 ^ r < 2 ^ r := Nat.mod_lt _ (Nat.two_pow_pos r)
  have hb : (s / 2 ^ r).testBit 0 = true := by
    rw [hd, Nat.testBit_two_pow_mul_add _ hl, if_neg (Nat.lt_irrefl _), Nat.sub_self] at h
    exact h
  generalize s / 2 ^ r = u at hd hb
  generalize s % 2 ^ r = l at hd hl
  obtain ⟨q, rfl⟩ : ∃ q, u = 2 * q + 1 := ⟨u / 2, by simp at hb; omega⟩
  have e1 : 2 ^ r * (2 * q + 1) = 2 ^ r * (2 * q) + 2 ^ r := by rw [Nat.mul_add, Nat.mul_one]
  have e2 : s - 2 ^ r = 2 ^ r * (2 * q) + l := by omega
  refine ⟨by omega, fun b => ?_⟩
  rw [e2, hd, Nat.testBit_two_pow_mul_add _ hl, Nat.testBit_two_pow_mul_add _ hl]
  by_cases h1 : b < r
  · rw [if_pos h1, if_pos h1]
    have : b ≠ r := by omega
    simp [this]
  · rw [if_neg h1, if_neg h1]
    by_cases h2 : b = r
    · subst h2
      simp
    · obtain ⟨d, hd⟩ : ∃ d, b - r = d + 1 := ⟨b - r - 1, by omega⟩
      rw [hd]
      have e3 : (2 * q + 1) / 2 = q := by omega
      have e4 : 2 * q / 2 = q := by omega
      simp [Nat.testBit_succ, e3, e4, h2]
theorem cut_bits {fits : List (List Bool)} {sup need : List Int} (hv : Vld fits sup need) : ∀ (r s : Nat), r ≤ need.length → s < 2 ^ need.length → (∀ i, i < r → s.testBit i = true) →
    (fun b => (cutS (Poss fits sup need) r s).testBit b) = cutF (fun S => Feas (pbS fits sup need S)) r (fun b => s.testBit b)
  | 0, s, _, _, _ => rfl
  | r + 1, s, hr, hs, hb => by
    obtain ⟨h1, h2⟩ := sub_bit (hb r (by omega))
    have hp := poss_iff hv (set := s - 2 ^ r) (Nat.lt_of_le_of_lt (Nat.sub_le _ _) hs)
    have e : (fun b => (s - 2 ^ r).testBit b) = fun b => s.testBit b && decide (b ≠ r) := funext h2
    rw [e] at hp
    rw [cutS, cutF]
    by_cases h : Poss fits sup need (s - 2 ^ r)
    · rw [if_pos h, cut_bits hv r s (by omega) hs fun i hi => hb i (by omega)]
      congr
      funext b
      by_cases hbr : b = r
      · subst hbr
        rw [if_pos rfl]
        exact (hb b (by omega)).trans (@decide_eq_true _ (Classical.propDecidable _) (hp.1 h)).symm
      · rw [if_neg hbr]
    · rw [if_neg h, cut_bits hv r (s - 2 ^ r) (by omega) (Nat.lt_of_le_of_lt (Nat.sub_le _ _) hs) fun i hi => by rw [h2, hb i (by omega)]; simp; omega]
      congr
      funext b
      by_cases hbr : b = r
      · subst hbr
        rw [if_pos rfl, h2]
        refine Eq.trans ?_ (@decide_eq_false _ (Classical.propDecidable _) (fun h' => h (hp.2 h'))).symm
        simp
      · rw [if_neg hbr, h2]; simp [hbr]
theorem cutFin_bits {fits : List (List Bool)} {sup need : List Int} (hv : Vld fits sup need) : cutFin fits sup need = fun b => (cutOfP fits sup need).testBit b := by
  have h := cut_bits hv need.length (2 ^ need.length - 1) (Nat.le_refl _) (by have := Nat.two_pow_pos need.length; omega) (fun i hi => by rw [Nat.testBit_two_pow_sub_one]; simp [hi])
  unfold cutFin cutOfP
  rw [h]
  congr
  funext b
  rw [Nat.testBit_two_pow_sub_one]
theorem memF_bits {fits : List (List Bool)} {sup need : List Int} (hv : Vld fits sup need) : memF (cutFin fits sup need) need.length = memI (cutOfP fits sup need) need.length := by
  rw [cutFin_bits hv]; rfl
theorem feas_poss {fits : List (List Bool)} {sup need : List Int} (hv : Vld fits sup need) : Feas (pbOf fits sup need) ↔ Poss fits sup need (2 ^ need.length - 1) := by
  rw [poss_iff hv (by have := Nat.two_pow_pos need.length; omega), feasS_iff hv, feas_iff hv.sup0 hv.need0]
  have h : ∀ D, lackOf (pbS fits sup need fun b => (2 ^ need.length - 1).testBit b) D = lackOf (pbOf fits sup need) D := fun D => lackS_eq _ _ fun b hb _ => by rw [Nat.testBit_two_pow_sub_one]; simp [hb]
  simp only [h]
end Go.Proofs.Ytmioocddmlfboaa
