/-
  Matching: the contracts of slices.Equal and of Check, of the program and of the reference.
  Conditions: none.
-/
import Derived.Test.YtmioocddmlfboaaM17
namespace Go.Proofs.Ytmioocddmlfboaa
open Go Bf
attribute [local irreducible] Tr Exec Stab HasTy Go.Addr.add IntKind.wrap
set_option maxHeartbeats 2000000 in
theorem equal_fn (M : Mem) (p q : List Int) (A B : Option Addr) (c k : Nat) (hp : Ints M (.slice A p.length c) p) (hq : Ints M (.slice B q.length k) q) : Fn0 Try.prog 25 [.slice A p.length c, .slice B q.length k] M (fun r M' => (∃ b : Bool, r = .bool b ∧ (b = true ↔ p = q)) ∧ M = M') := by
  have l1 := hp.len_le
  have l2 := hq.len_le
  refine Fn.intro Try.func25 rfl rfl Try.ntmps25 rfl fun E F => ?_
  by_cases hl : p.length = q.length
  rotate_left
  · repeat (first | ((with_reducible refine Tr.step rfl ?_); (first | ((with_reducible refine Knd.move ?_); (refine Exec.stab rfl (Stab.move rfl) rfl ?_)) | ((with_reducible refine Knd.assign ?_); (refine Exec.stab rfl (Stab.assign rfl) rfl ?_)) | ((with_reducible refine Knd.len ?_); ((refine Exec.stab rfl (Stab.len rfl (tysOk.get rfl) rfl) rfl ?_))) | ((with_reducible refine Knd.binOp ?_); ((refine Exec.stab rfl (Stab.int rfl rfl rfl) rfl ?_))))) | (with_reducible refine Tr.next ?_) | (with_reducible refine Tr.seq ?_) | (with_reducible refine Tr.region ?_) | (with_reducible refine Tr.nil ?_) | (with_reducible refine Tr.ret ?_) | (with_reducible refine Tr.then_ret ?_) | (refine Tr.cond_t rfl (by first | (with_reducible assumption) | (with_reducible rfl) | (with_reducible exact (not_not_intro rfl)) | omega) ?_))
    (refine Tr.done (by first | exact .inl rfl | exact .inr rfl) rfl (by repeat (first | exact RVs.nil | (apply RVs.cons; (exact RV.tmp rfl)))) (by first | exact Mem.le.refl _ | assumption) (by exact ⟨[], rfl⟩) ⟨rfl, ?_⟩)
    exact ⟨⟨false, rfl, by simp; intro h; exact hl (congrArg _ h)⟩, rfl⟩
  repeat (first | ((with_reducible refine Tr.step rfl ?_); (first | ((with_reducible refine Knd.move ?_); (refine Exec.stab rfl (Stab.move rfl) rfl ?_)) | ((with_reducible refine Knd.assign ?_); (refine Exec.stab rfl (Stab.assign rfl) rfl ?_)) | ((with_reducible refine Knd.len ?_); ((refine Exec.stab rfl (Stab.len rfl (tysOk.get rfl) rfl) rfl ?_))) | ((with_reducible refine Knd.binOp ?_); ((refine Exec.stab rfl (Stab.int rfl rfl rfl) rfl ?_))))) | (with_reducible refine Tr.next ?_) | (with_reducible refine Tr.seq ?_) | (with_reducible refine Tr.region ?_) | (with_reducible refine Tr.nil ?_) | (with_reducible refine Tr.skip ?_) | (with_reducible refine Tr.block ?_) | (refine Tr.cond_f rfl (by first | (with_reducible assumption) | (with_reducible rfl) | (with_reducible exact (not_not_intro rfl)) | omega) ?_))
  refine Tr.loop (α := Nat) (fun i => ⟨26, [(13, .int .i64 (i : Int)), (12, .int .i64 p.length), (0, .slice A p.length c), (1, .slice B q.length k)], [], M, [] ++ F⟩) (fun i => i ≤ p.length ∧ p.take i = q.take i) (fun i => p.length - i) 0 ⟨by simp, by simp⟩ (holds_sub (by repeat (first | exact SubFr.nil | refine SubFr.cons rfl ?_)) (by repeat (first | exact DropL.refl | apply DropL.skip))) (fun i hi => ?_)
  obtain ⟨hi, heq⟩ := hi
  by_cases hlt : i < p.length
  · obtain ⟨x, hx⟩ := get_of_lt hlt
    obtain ⟨y, hy⟩ := get_of_lt (xs := q) (i := i) (by omega)
    obtain ⟨hA, hat⟩ := hp.at hx
    obtain ⟨hB, hbt⟩ := hq.at hy
    by_cases hxy : x = y
    · repeat (first | ((with_reducible refine Tr.step rfl ?_); (first | ((with_reducible refine Knd.move ?_); (refine Exec.stab rfl (Stab.move rfl) rfl ?_)) | ((with_reducible refine Knd.assign ?_); (refine Exec.stab rfl (Stab.assign rfl) rfl ?_)) | ((with_reducible refine Knd.binOp ?_); ((refine Exec.stab rfl (Stab.int rfl rfl rfl) rfl ?_))))) | (with_reducible refine Tr.next ?_) | (with_reducible refine Tr.seq ?_) | (with_reducible refine Tr.region ?_) | (with_reducible refine Tr.nil ?_) | (with_reducible refine Tr.skip ?_) | (with_reducible refine Tr.block ?_) | (refine Tr.cond_t rfl (by first | (with_reducible assumption) | (with_reducible rfl) | (with_reducible exact (not_not_intro rfl)) | omega) ?_))
      (((apply Tr.draw); (kernel_rfl)); (refine TrA.take 0 (by kernel_rfl) rfl (by kernel_rfl) (by first | exact fun _ _ _ h => h | exact fun _ _ _ h => nomatch h.1) (by exact fun _ h => h) rfl (by first | exact Stab.move rfl) rfl rfl ?_); (refine TrA.take 1 (by kernel_rfl) rfl (by kernel_rfl) (by first | exact fun _ _ _ h => h | exact fun _ _ _ h => nomatch h.1) (by exact fun _ h => h) rfl (by first | exact Stab.move rfl) rfl rfl ?_); (refine TrA.take 4 (by kernel_rfl) rfl (by kernel_rfl) (by first | exact fun _ _ _ h => h | exact fun _ _ _ h => nomatch h.1) (by exact fun _ h => h) rfl (by first | exact Stab.move rfl) rfl rfl ?_); (refine TrA.take 5 (by kernel_rfl) rfl (by kernel_rfl) (by first | exact fun _ _ _ h => h | exact fun _ _ _ h => nomatch h.1) (by exact fun _ h => h) rfl (by first | exact Stab.move rfl) rfl rfl ?_); (refine TrA.take 2 (by kernel_rfl) rfl (by kernel_rfl) (by first | exact fun _ _ _ h => h | exact fun _ _ _ h => nomatch h.1) (by exact fun _ h => h) rfl (by exact Stab.indexAddr rfl rfl (tysOk.get rfl) rfl (tysOk.get rfl) rfl (by omega) (by omega) (by first | rfl | assumption)) rfl rfl ?_); (refine TrA.take 6 (by kernel_rfl) rfl (by kernel_rfl) (by first | exact fun _ _ _ h => h | exact fun _ _ _ h => nomatch h.1) (by exact fun _ h => h) rfl (by exact Stab.indexAddr rfl rfl (tysOk.get rfl) rfl (tysOk.get rfl) rfl (by omega) (by omega) (by first | rfl | assumption)) rfl rfl ?_); (refine TrA.take 3 (by kernel_rfl) rfl (by kernel_rfl) (by first | exact fun _ _ _ h => h | exact fun _ _ _ h => nomatch h.1) (by exact fun _ h => h) rfl (by exact Stab.loadM rfl (tysOk.get rfl) rfl (by assumption)) rfl rfl ?_); (refine TrA.take 7 (by kernel_rfl) rfl (by kernel_rfl) (by first | exact fun _ _ _ h => h | exact fun _ _ _ h => nomatch h.1) (by exact fun _ h => h) rfl (by exact Stab.loadM rfl (tysOk.get rfl) rfl (by assumption)) rfl rfl ?_); (refine TrA.take 8 (by kernel_rfl) rfl (by kernel_rfl) (by first | exact fun _ _ _ h => h | exact fun _ _ _ h => nomatch h.1) (by exact fun _ h => h) rfl (by exact Stab.int rfl rfl rfl) rfl rfl ?_); (refine TrA.done (by kernel_rfl) ?_))
      repeat (first | ((with_reducible refine Tr.step rfl ?_); (first | ((with_reducible refine Knd.move ?_); (refine Exec.stab rfl (Stab.move rfl) rfl ?_)) | ((with_reducible refine Knd.binOp ?_); ((refine Exec.stab rfl (Stab.addi rfl rfl (by omega)) rfl ?_))))) | (with_reducible refine Tr.next ?_) | (with_reducible refine Tr.region ?_) | (with_reducible refine Tr.nil ?_) | (with_reducible refine Tr.skip ?_) | (with_reducible refine Tr.in_normal ?_) | (refine Tr.cond_f rfl (by first | (with_reducible assumption) | (with_reducible rfl) | (with_reducible exact (not_not_intro rfl)) | omega) ?_))
      refine Tr.again (i + 1) ⟨by omega, by rw [List.take_add_one, List.take_add_one, hx, hy, heq, hxy]⟩ (by omega) (holds_sub (by repeat (first | exact SubFr.nil | refine SubFr.cons rfl ?_)) (by repeat (first | exact DropL.refl | apply DropL.skip)))
    · repeat (first | ((with_reducible refine Tr.step rfl ?_); (first | ((with_reducible refine Knd.move ?_); (refine Exec.stab rfl (Stab.move rfl) rfl ?_)) | ((with_reducible refine Knd.assign ?_); (refine Exec.stab rfl (Stab.assign rfl) rfl ?_)) | ((with_reducible refine Knd.binOp ?_); ((refine Exec.stab rfl (Stab.int rfl rfl rfl) rfl ?_))))) | (with_reducible refine Tr.next ?_) | (with_reducible refine Tr.seq ?_) | (with_reducible refine Tr.region ?_) | (with_reducible refine Tr.nil ?_) | (with_reducible refine Tr.skip ?_) | (with_reducible refine Tr.block ?_) | (refine Tr.cond_t rfl (by first | (with_reducible assumption) | (with_reducible rfl) | (with_reducible exact (not_not_intro rfl)) | omega) ?_))
      (((apply Tr.draw); (kernel_rfl)); (refine TrA.take 0 (by kernel_rfl) rfl (by kernel_rfl) (by first | exact fun _ _ _ h => h | exact fun _ _ _ h => nomatch h.1) (by exact fun _ h => h) rfl (by first | exact Stab.move rfl) rfl rfl ?_); (refine TrA.take 1 (by kernel_rfl) rfl (by kernel_rfl) (by first | exact fun _ _ _ h => h | exact fun _ _ _ h => nomatch h.1) (by exact fun _ h => h) rfl (by first | exact Stab.move rfl) rfl rfl ?_); (refine TrA.take 4 (by kernel_rfl) rfl (by kernel_rfl) (by first | exact fun _ _ _ h => h | exact fun _ _ _ h => nomatch h.1) (by exact fun _ h => h) rfl (by first | exact Stab.move rfl) rfl rfl ?_); (refine TrA.take 5 (by kernel_rfl) rfl (by kernel_rfl) (by first | exact fun _ _ _ h => h | exact fun _ _ _ h => nomatch h.1) (by exact fun _ h => h) rfl (by first | exact Stab.move rfl) rfl rfl ?_); (refine TrA.take 2 (by kernel_rfl) rfl (by kernel_rfl) (by first | exact fun _ _ _ h => h | exact fun _ _ _ h => nomatch h.1) (by exact fun _ h => h) rfl (by exact Stab.indexAddr rfl rfl (tysOk.get rfl) rfl (tysOk.get rfl) rfl (by omega) (by omega) (by first | rfl | assumption)) rfl rfl ?_); (refine TrA.take 6 (by kernel_rfl) rfl (by kernel_rfl) (by first | exact fun _ _ _ h => h | exact fun _ _ _ h => nomatch h.1) (by exact fun _ h => h) rfl (by exact Stab.indexAddr rfl rfl (tysOk.get rfl) rfl (tysOk.get rfl) rfl (by omega) (by omega) (by first | rfl | assumption)) rfl rfl ?_); (refine TrA.take 3 (by kernel_rfl) rfl (by kernel_rfl) (by first | exact fun _ _ _ h => h | exact fun _ _ _ h => nomatch h.1) (by exact fun _ h => h) rfl (by exact Stab.loadM rfl (tysOk.get rfl) rfl (by assumption)) rfl rfl ?_); (refine TrA.take 7 (by kernel_rfl) rfl (by kernel_rfl) (by first | exact fun _ _ _ h => h | exact fun _ _ _ h => nomatch h.1) (by exact fun _ h => h) rfl (by exact Stab.loadM rfl (tysOk.get rfl) rfl (by assumption)) rfl rfl ?_); (refine TrA.take 8 (by kernel_rfl) rfl (by kernel_rfl) (by first | exact fun _ _ _ h => h | exact fun _ _ _ h => nomatch h.1) (by exact fun _ h => h) rfl (by exact Stab.int rfl rfl rfl) rfl rfl ?_); (refine TrA.done (by kernel_rfl) ?_))
      repeat (first | ((with_reducible refine Tr.step rfl ?_); (((with_reducible refine Knd.assign ?_); (refine Exec.stab rfl (Stab.assign rfl) rfl ?_)))) | (with_reducible refine Tr.next ?_) | (with_reducible refine Tr.seq ?_) | (with_reducible refine Tr.region ?_) | (with_reducible refine Tr.nil ?_) | (with_reducible refine Tr.ret ?_) | (with_reducible refine Tr.then_ret ?_) | (with_reducible refine Tr.in_ret ?_) | (refine Tr.cond_t rfl (by first | (with_reducible assumption) | (with_reducible rfl) | (with_reducible exact (not_not_intro rfl)) | omega) ?_))
      (refine Tr.done (by first | exact .inl rfl | exact .inr rfl) rfl (by repeat (first | exact RVs.nil | (apply RVs.cons; (exact RV.tmp rfl)))) (by first | exact Mem.le.refl _ | assumption) (by exact ⟨[], rfl⟩) ⟨rfl, ?_⟩)
      exact ⟨⟨false, rfl, by simp; intro h; rw [h, hy] at hx; cases hx; exact hxy rfl⟩, rfl⟩
  · have e : i = p.length := by omega
    subst e
    rw [List.take_length, hl, List.take_length] at heq
    repeat (first | ((with_reducible refine Tr.step rfl ?_); (first | ((with_reducible refine Knd.assign ?_); (refine Exec.stab rfl (Stab.assign rfl) rfl ?_)) | ((with_reducible refine Knd.binOp ?_); ((refine Exec.stab rfl (Stab.int rfl rfl rfl) rfl ?_))))) | (with_reducible refine Tr.next ?_) | (with_reducible refine Tr.seq ?_) | (with_reducible refine Tr.region ?_) | (with_reducible refine Tr.nil ?_) | (with_reducible refine Tr.exit ?_) | (with_reducible refine Tr.ret ?_) | (with_reducible refine Tr.then_exit ?_) | ((with_reducible refine Tr.in_exit ?_ ?_); (exact rfl)) | (refine Tr.cond_f rfl (by first | (with_reducible assumption) | (with_reducible rfl) | (with_reducible exact (not_not_intro rfl)) | omega) ?_))
    (refine Tr.done (by first | exact .inl rfl | exact .inr rfl) rfl (by repeat (first | exact RVs.nil | (apply RVs.cons; (exact RV.tmp rfl)))) (by first | exact Mem.le.refl _ | assumption) (by exact ⟨[], rfl⟩) ⟨rfl, ?_⟩)
    exact ⟨⟨true, rfl, by simpa using heq⟩, rfl⟩
/-- an allocation, as Check accepts it -/
def am2 (am : List (List Int)) (i j : Nat) : Int := (am.getD i []).getD j 0
structure CheckP (fits : List (List Bool)) (sup need : List Int) (am : List (List Int)) : Prop where
  len : am.length = sup.length
  rows : ∀ r ∈ am, r.length = need.length
  nn : ∀ i j, i < sup.length → j < need.length → 0 ≤ am2 am i j
  ok : ∀ i j, i < sup.length → j < need.length → 0 < am2 am i j → (fits.getD i []).getD j false = true
  row : ∀ i, i < sup.length → sumN need.length (am2 am i) ≤ sup.getD i 0
  col : ∀ j, j < need.length → sumN sup.length (fun i => am2 am i j) = need.getD j 0
theorem am2_of {am : List (List Int)} {i j : Nat} {r : List Int} {x : Int} (hr : am[i]? = some r) (hx : r[j]? = some x) : am2 am i j = x := by
  unfold am2
  rw [getD_of (d := []) hr, getD_of hx]
theorem CheckP.le {fits : List (List Bool)} {sup need : List Int} {am : List (List Int)} (h : CheckP fits sup need am) {i j : Nat} (hi : i < sup.length) (hj : j < need.length) : am2 am i j ≤ sup.getD i 0 := by
  have h1 := sumN_le_of_mem (f := am2 am i) (n := need.length) (k := j) (fun b hb => h.nn i b hi hb) hj
  have h2 := h.row i hi
  omega
/-- a place at which Check refuses -/
theorem CheckP.bad {fits : List (List Bool)} {sup need : List Int} {am : List (List Int)} {i j : Nat} (hi : i < sup.length) (hj : j < need.length) (hb : am2 am i j < 0 ∨ sup.getD i 0 < am2 am i j ∨ (0 < am2 am i j ∧ (fits.getD i []).getD j false = false)) : ¬ CheckP fits sup need am := fun h => by
  have h1 := h.nn i j hi hj
  have h2 := h.le hi hj
  rcases hb with hb | hb | ⟨hb1, hb2⟩
  · omega
  · omega
  · have := h.ok i j hi hj hb1
    rw [hb2] at this; cases this
theorem am2_row {am : List (List Int)} {i : Nat} {r : List Int} (hr : am[i]? = some r) : am2 am i = fun j => r.getD j 0 := by
  funext j
  unfold am2
  rw [getD_of (d := []) hr]
/-- what is right so far -/
structure Upto (fits : List (List Bool)) (sup need : List Int) (am : List (List Int)) (i j : Nat) (col : List Int) : Prop where
  cl : col.length = need.length
  ok : ∀ i' j', i' < sup.length → j' < need.length → (i' < i ∨ i' = i ∧ j' < j) → 0 ≤ am2 am i' j' ∧ am2 am i' j' ≤ 1048576 ∧ (0 < am2 am i' j' → (fits.getD i' []).getD j' false = true)
  rw_ : ∀ i', i' < i → (am.getD i' []).length = need.length ∧ sumN need.length (am2 am i') ≤ sup.getD i' 0
  sm : ∀ q, q < need.length → col.getD q 0 = sumN i (fun i' => am2 am i' q) + if q < j then am2 am i q else 0
theorem Upto.col_rng {fits : List (List Bool)} {sup need : List Int} {am : List (List Int)} {i j : Nat} {col : List Int} (h : Upto fits sup need am i j col) (hi : i ≤ 64) (hin : i ≤ sup.length) {q : Nat} (hq : q < need.length) (hqj : j ≤ q) : 0 ≤ col.getD q 0 ∧ col.getD q 0 ≤ 67108864 := by
  rw [h.sm q hq, if_neg (by omega)]
  have := sum_small (n := i) (f := fun i' => am2 am i' q) (fun i' hi' => by
    have := h.ok i' q (by omega) hq (.inl hi')
    exact ⟨this.1, this.2.1⟩)
  omega
theorem Upto.start (fits : List (List Bool)) (sup need : List Int) (am : List (List Int)) : Upto fits sup need am 0 0 (List.replicate need.length 0) := by
  refine ⟨by simp, fun _ _ _ _ h => by omega, fun _ h => by omega, fun q hq => ?_⟩
  rw [if_neg (by omega)]
  show _ = (0 : Int) + 0
  rw [List.getD_eq_getElem?_getD]; simp [hq]
theorem Upto.step {fits : List (List Bool)} {sup need : List Int} {am : List (List Int)} {i j : Nat} {col : List Int} (h : Upto fits sup need am i j col) (hj : j < need.length) (h0 : 0 ≤ am2 am i j ∧ am2 am i j ≤ 1048576) (hf : 0 < am2 am i j → (fits.getD i []).getD j false = true) :
    Upto fits sup need am i (j + 1) (col.set j (col.getD j 0 + am2 am i j)) := by
  refine ⟨by simpa using h.cl, fun i' j' h1 h2 h3 => ?_, h.rw_, fun q hq => ?_⟩
  · by_cases e : i' = i ∧ j' = j
    · obtain ⟨rfl, rfl⟩ := e
      exact ⟨h0.1, h0.2, hf⟩
    · exact h.ok i' j' h1 h2 (by omega)
  · by_cases e : q = j
    · subst e
      rw [getD_set_self' (by rw [h.cl]; exact hj), h.sm q hq, if_neg (by omega), if_pos (by omega)]
      omega
    · rw [getD_set_ne' (Ne.symm e), h.sm q hq]
      have : q < j + 1 ↔ q < j := by omega
      simp only [this]
theorem Upto.row {fits : List (List Bool)} {sup need : List Int} {am : List (List Int)} {i : Nat} {col : List Int} {r : List Int} (h : Upto fits sup need am i need.length col) (hr : am[i]? = some r) (hrl : r.length = need.length) (hs : sumN need.length (am2 am i) ≤ sup.getD i 0) : Upto fits sup need am (i + 1) 0 col := by
  refine ⟨h.cl, fun i' j' h1 h2 h3 => h.ok i' j' h1 h2 (by omega), fun i' h1 => ?_, fun q hq => ?_⟩
  · by_cases e : i' = i
    · subst e
      exact ⟨by rw [getD_of (d := []) hr]; exact hrl, hs⟩
    · exact h.rw_ i' (by omega)
  · rw [h.sm q hq, if_pos hq, if_neg (by omega)]
    show _ = (sumN i (fun i' => am2 am i' q) + am2 am i q) + 0
    omega
theorem Upto.fin {fits : List (List Bool)} {sup need : List Int} {am : List (List Int)} {col : List Int} (h : Upto fits sup need am sup.length 0 col) (hl : am.length = sup.length) : col = need ↔ CheckP fits sup need am := by
  refine ⟨fun e => ⟨hl, fun r hr => ?_, fun i j hi hj => (h.ok i j hi hj (.inl hi)).1, fun i j hi hj => (h.ok i j hi hj (.inl hi)).2.2, fun i hi => (h.rw_ i hi).2, fun j hj => ?_⟩, fun hc => ?_⟩
  · obtain ⟨i, hi⟩ := List.mem_iff_getElem?.1 hr
    have := (h.rw_ i (by have := (List.getElem?_eq_some_iff.1 hi).1; omega)).1
    rw [getD_of (d := []) hi] at this
    exact this
  · have := h.sm j hj
    rw [if_neg (by omega), e] at this
    omega
  · apply List.ext_getElem?
    intro q
    by_cases hq : q < need.length
    · have h1 := h.sm q hq
      rw [if_neg (by omega), hc.col q hq] at h1
      obtain ⟨a, ha⟩ := get_of_lt (xs := col) (i := q) (by rw [h.cl]; exact hq)
      obtain ⟨b, hb⟩ := get_of_lt hq
      rw [getD_of ha, getD_of hb] at h1
      rw [ha, hb, h1]; simp
    · rw [List.getElem?_eq_none (by rw [h.cl]; omega), List.getElem?_eq_none (by omega)]
/-- what Check answers -/
def CheckR (fits : List (List Bool)) (sup need : List Int) (am : List (List Int)) (r : Value) : Prop :=
  (validF fits sup need = false ∧ r = .tuple #[.bool false, .int .i64 300]) ∨ (Vld fits sup need ∧ ∃ b : Bool, r = .tuple #[.bool b, .int .i64 0] ∧ (b = true ↔ CheckP fits sup need am))
theorem CheckR.no {fits : List (List Bool)} {sup need : List Int} {am : List (List Int)} (hv : Vld fits sup need) (h : ¬ CheckP fits sup need am) : CheckR fits sup need am (.tuple #[.bool false, .int .i64 0]) := .inr ⟨hv, false, rfl, by simp [h]⟩
end Go.Proofs.Ytmioocddmlfboaa
