/-
  Matching, plain: the chapter's examples.
  Conditions: none.
-/
import Derived.Test.YtmioocddmlfboaaM24
import Derived.Test.YtmioocddmlfboaaM18
import Derived.Test.YtmioocddmlfboaaM22
namespace Go.Proofs.Ytmioocddmlfboaa
open Go Bf
theorem possD (fits : List (List Bool)) (sup need : List Int) (set : Nat) : Poss fits sup need set ↔ ∀ s, s ≤ set → (1 ≤ s → s &&& set = s → lackB fits sup need s ≤ 0) := ⟨fun h s h1 h2 h3 => h s h2 h1 h3, fun h s h1 h2 h3 => h s h2 h1 h3⟩
theorem x2_no : ¬ Feas (pbOf [] [] [1]) := by
  rw [feas_poss (vld_iff.1 (by decide)), possD]
  decide
theorem x2_cut : memF (cutFin [] [] [1]) 1 = [0] := by
  have h := memF_bits (fits := []) (sup := []) (need := [1]) (vld_iff.1 (by decide))
  have e : cutOfP [] [] [1] = 1 := by
    unfold cutOfP
    show cutS _ 1 1 = 1
    rw [cutS, if_pos ((possD _ _ _ _).2 (by decide)), cutS]
  rw [e] at h
  exact h
theorem x3_no : ¬ Feas (pbOf [[true, true]] [3] [2, 2]) := by
  rw [feas_poss (vld_iff.1 (by decide)), possD]
  decide
theorem x3_cut : memF (cutFin [[true, true]] [3] [2, 2]) 2 = [0, 1] := by
  have h := memF_bits (fits := [[true, true]]) (sup := [3]) (need := [2, 2]) (vld_iff.1 (by decide))
  have e : cutOfP [[true, true]] [3] [2, 2] = 3 := by
    unfold cutOfP
    show cutS _ 2 3 = 3
    rw [cutS, if_pos ((possD _ _ _ _).2 (by decide)), cutS, if_pos ((possD _ _ _ _).2 (by decide)), cutS]
  rw [e] at h
  exact h
theorem x6_no : ¬ Feas (pbOf [[true, false, true], [false, true, true]] [1, 5] [2, 3, 3]) := by
  rw [feas_poss (vld_iff.1 (by decide)), possD]
  decide
theorem x6_cut : memF (cutFin [[true, false, true], [false, true, true]] [1, 5] [2, 3, 3]) 3 = [0] := by
  have h := memF_bits (fits := [[true, false, true], [false, true, true]]) (sup := [1, 5]) (need := [2, 3, 3]) (vld_iff.1 (by decide))
  have e : cutOfP [[true, false, true], [false, true, true]] [1, 5] [2, 3, 3] = 1 := by
    unfold cutOfP
    show cutS _ 3 7 = 1
    rw [cutS, if_neg (fun h => absurd ((possD _ _ _ _).1 h) (by decide)), cutS, if_neg (fun h => absurd ((possD _ _ _ _).1 h) (by decide)), cutS, if_pos ((possD _ _ _ _).2 (by decide)), cutS]
  rw [e] at h
  exact h
theorem x1_yes : Feas (pbOf [] [] []) := by
  rw [feas_poss (vld_iff.1 (by decide)), possD]
  decide
theorem x4_yes : Feas (pbOf [[true], [true]] [2, 2] [3]) := by
  rw [feas_poss (vld_iff.1 (by decide)), possD]
  decide
theorem x5_yes : Feas (pbOf [[true, true], [true, false]] [3, 3] [2, 2]) := by
  rw [feas_poss (vld_iff.1 (by decide)), possD]
  decide
def tbl (l : List (List Int)) (k b : Nat) : Int := (l.getD k []).getD b 0
theorem x4_flow : Bf.Flow (pbOf [[true], [true]] [2, 2] [3]) (tbl [[2, 0], [1, 1]]) fun _ => 0 :=
  ⟨⟨by decide, by decide, by decide⟩, by decide, by decide⟩
theorem x4_max {a : Nat → Nat → Int} (h : LexMax (pbOf [[true], [true]] [2, 2] [3]) a) : allocOf a 1 2 = [[2], [1]] := by
  have h1 := h.2 _ x4_flow 0 (by decide) 0 (by decide) (fun k hk => by omega) (fun b hb => by omega)
  have h2 : (sumN 2 (a 0)) = 2 := h.1.row 0 (by decide)
  have h3 : (0 : Int) + sumN 2 (fun k => a k 0) = 3 := h.1.col 0 (by decide)
  have h4 := h.1.nn 0 (by decide) 1 (by decide)
  simp only [sumN] at h2 h3
  have h5 : (2 : Int) ≤ a 0 0 := h1
  have e1 : a 0 0 = 2 := by omega
  have e2 : a 1 0 = 1 := by omega
  simp [allocOf, rowOf, List.range_succ, e1, e2]
theorem x5_flow : Bf.Flow (pbOf [[true, true], [true, false]] [3, 3] [2, 2]) (tbl [[1, 2, 0], [1, 0, 2]]) fun _ => 0 :=
  ⟨⟨by decide, by decide, by decide⟩, by decide, by decide⟩
theorem x5_max {a : Nat → Nat → Int} (h : LexMax (pbOf [[true, true], [true, false]] [3, 3] [2, 2]) a) : allocOf a 2 2 = [[1, 2], [1, 0]] := by
  have h1 := h.2 _ x5_flow 0 (by decide) 0 (by decide) (fun k hk => by omega) (fun b hb => by omega)
  have h2 : (sumN 3 (a 0)) = 3 := h.1.row 0 (by decide)
  have h3 : (0 : Int) + sumN 2 (fun k => a k 0) = 2 := h.1.col 0 (by decide)
  have h6 : (0 : Int) + sumN 2 (fun k => a k 1) = 2 := h.1.col 1 (by decide)
  have h4 := h.1.nn 0 (by decide) 2 (by decide)
  have h7 : a 1 1 = 0 := by
    by_cases e : a 1 1 = 0
    · exact e
    · exact absurd (h.1.ok 1 (by decide) 1 (by decide) e) (by decide)
  simp only [sumN] at h2 h3 h6
  have h5 : (1 : Int) ≤ a 0 0 := h1
  have e1 : a 0 0 = 1 := by omega
  have e2 : a 0 1 = 2 := by omega
  have e3 : a 1 0 = 1 := by omega
  simp [allocOf, rowOf, List.range_succ, e1, e2, e3, h7]
theorem x7_lack : IsLack (pbOf [[true]] [3] [5]) 2 := by
  have hv : Vld [[true]] [3] [5] := vld_iff.1 (by decide)
  refine ⟨⟨fun _ => true, by decide⟩, fun D => ?_⟩
  rw [lackOf_bits hv]
  have h := bitsOf_lt D 1
  have : bitsOf D 1 = 0 ∨ bitsOf D 1 = 1 := by omega
  show lackB [[true]] [3] [5] (bitsOf D 1) ≤ 2
  rcases this with e | e
  · rw [e]; decide
  · rw [e]; decide
theorem x8_check : CheckP [[true, true]] [3] [2, 1] [[2, 1]] := by
  have h2 : ∀ j, j < ([2, 1] : List Int).length → j = 0 ∨ j = 1 := fun j hj => by
    have : j < 2 := hj
    omega
  have h1 : ∀ i, i < ([3] : List Int).length → i = 0 := fun i hi => by
    have : i < 1 := hi
    omega
  refine ⟨rfl, by decide, fun i j hi hj => ?_, fun i j hi hj => ?_, fun i hi => ?_, fun j hj => ?_⟩
  · rw [h1 i hi]; rcases h2 j hj with rfl | rfl <;> decide
  · rw [h1 i hi]; rcases h2 j hj with rfl | rfl <;> decide
  · rw [h1 i hi]; decide
  · rcases h2 j hj with rfl | rfl <;> decide
theorem x9_cut : CutP [[true, true]] [3] [2, 2] [0, 1] := by
  refine ⟨fun q x hq hx => ?_, by decide⟩
  have : q = 0 ∨ q = 1 := by have : q < 2 := hq; omega
  rcases this with rfl | rfl
  · cases hx; exact ⟨by decide, by decide, fun _ h => by omega⟩
  · cases hx; exact ⟨by decide, by decide, fun y _ hy => by cases hy; decide⟩
theorem x10_cut : ¬ CutP [[true, true]] [3] [2, 2] [] := fun h => absurd h.2 (by decide)
end Go.Proofs.Ytmioocddmlfboaa
