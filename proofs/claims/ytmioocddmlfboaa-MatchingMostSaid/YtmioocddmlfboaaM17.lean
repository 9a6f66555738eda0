/-
  Matching: the contracts of Flow and Most.
  Conditions: none.
-/
import Derived.Test.YtmioocddmlfboaaM16
namespace Go.Proofs.Ytmioocddmlfboaa
open Go Bf
theorem clone_ok (P : Program) (f : FuncId) (args : List Value) (M : Mem) (A : List Res) (R : Value → Mem → List Res → Prop) (h : Bf.Fn P f args M A R) : CallOk P f := h.1
attribute [local irreducible] Tr Exec Stab HasTy Go.Addr.add IntKind.wrap
/-- amounts before the place (i, j), in order, are as great as possible -/
def LexTo (p : Pb) (a : Nat → Nat → Int) (i j : Nat) : Prop := ∀ i' j', i' < p.n → j' < p.m → (i' < i ∨ i' = i ∧ j' < j) → ∀ a', (Bf.Flow p a' fun _ => 0) → (∀ k, k < i' → ∀ b, b < p.m → a' k b = a k b) → (∀ b, b < j' → a' i' b = a i' b) → a' i' j' ≤ a i' j'
theorem LexTo.start (p : Pb) (a : Nat → Nat → Int) : LexTo p a 0 0 := fun _ _ _ _ h => by omega
theorem LexTo.row {p : Pb} {a : Nat → Nat → Int} {i j : Nat} (h : LexTo p a i j) (hj : p.m ≤ j) : LexTo p a (i + 1) 0 := fun i' j' h1 h2 h3 => h i' j' h1 h2 (by omega)
theorem LexTo.skip {p : Pb} {a : Nat → Nat → Int} {i j : Nat} (h : LexTo p a i j) (hf : Bf.Flow p a fun _ => 0) (hi : i < p.n) (hj : j < p.m) (hn : p.fits i j = false) : LexTo p a i (j + 1) := fun i' j' h1 h2 h3 a' ha e1 e2 => by
  by_cases e : i' = i ∧ j' = j
  · obtain ⟨rfl, rfl⟩ := e
    have h4 := hf.nn i' hi j' (by omega)
    by_cases h5 : a' i' j' = 0
    · omega
    · have := ha.ok i' hi j' hj h5
      rw [hn] at this; cases this
  · exact h i' j' h1 h2 (by omega) a' ha e1 e2
theorem LexTo.step {p : Pb} {a b : Nat → Nat → Int} {i j : Nat} (h : LexTo p a i j) (hr : Raised p a b i j) (ht : Top p b i j) (hi : i < p.n) (hj : j < p.m) : LexTo p b i (j + 1) := fun i' j' h1 h2 h3 a' ha e1 e2 => by
  obtain ⟨hf, r1, r2⟩ := hr
  by_cases e : i' = i ∧ j' = j
  · obtain ⟨rfl, rfl⟩ := e
    obtain ⟨X, x1, x2, x3⟩ := ht
    exact raise_max hf.toRows ha.toRows (fun c hc => by
      have g1 := hf.col c hc
      have g2 := ha.col c hc
      omega) hi hj x1 x2 x3 e1 e2
  · have hb : b i' j' = a i' j' := by
      by_cases e3 : i' = i
      · subst e3; exact r2 j' (by omega)
      · rw [r1 i' (by omega)]
    rw [hb]
    refine h i' j' h1 h2 (by omega) a' ha (fun k hk c hc => ?_) (fun c hc => ?_)
    · rw [e1 k hk c hc, r1 k (by omega)]
    · rw [e2 c hc]
      by_cases e3 : i' = i
      · subst e3; exact r2 c (by omega)
      · rw [r1 i' (by omega)]
theorem LexTo.max {p : Pb} {a : Nat → Nat → Int} (h : LexTo p a p.n 0) (hf : Bf.Flow p a fun _ => 0) : LexMax p a := ⟨hf, fun a' ha i hi j hj h1 h2 => h i j hi hj (.inl hi) a' ha h1 h2⟩
/-- a row, and the rows, of an allocation -/
def rowOf (a : Nat → Nat → Int) (m k : Nat) : List Int := (List.range m).map (a k)
def allocOf (a : Nat → Nat → Int) (m n : Nat) : List (List Int) := (List.range n).map (rowOf a m)
theorem allocOf_succ (a : Nat → Nat → Int) (m n : Nat) : allocOf a m (n + 1) = allocOf a m n ++ [rowOf a m n] := by simp [allocOf, List.range_succ]
@[simp] theorem allocOf_length (a : Nat → Nat → Int) (m n : Nat) : (allocOf a m n).length = n := by simp [allocOf]
@[simp] theorem rowOf_length (a : Nat → Nat → Int) (m n : Nat) : (rowOf a m n).length = m := by simp [rowOf]
theorem allocOf_congr {a b : Nat → Nat → Int} {m n : Nat} (h : ∀ k, k < n → ∀ c, c < m → b k c = a k c) : allocOf b m n = allocOf a m n := by
  refine List.map_congr_left fun k hk => List.map_congr_left fun c hc => ?_
  exact h k (List.mem_range.1 hk) c (List.mem_range.1 hc)
theorem row_take {rws : List (Nat × List Int)} {k bk m : Nat} {row : List Int} (hr : rws[k]? = some (bk, row)) (hl : row.length = m + 1) : row.take m = rowOf (amt rws) m k := by
  apply List.ext_getElem?
  intro c
  by_cases hc : c < m
  · obtain ⟨v, hv⟩ := get_of_lt (xs := row) (i := c) (by omega)
    rw [List.getElem?_take, if_pos hc, hv]
    simp [rowOf, hc, amt_of hr, hv]
  · rw [List.getElem?_eq_none (by simp; omega), List.getElem?_eq_none (by simp; omega)]
/-- what Flow answers -/
def FlowR (fits : List (List Bool)) (sup need : List Int) (r : Value) (M' : Mem) : Prop :=
  (validF fits sup need = false ∧ r = .tuple #[.slice none 0 0, .bool false, .slice none 0 0, .int .i64 300]) ∨
  (Vld fits sup need ∧ ¬ Feas (pbOf fits sup need) ∧ ∃ B k, r = .tuple #[.slice none 0 0, .bool false, .slice B (memF (cutFin fits sup need) need.length).length k, .int .i64 0] ∧ Ints M' (.slice B (memF (cutFin fits sup need) need.length).length k) (memF (cutFin fits sup need) need.length)) ∨
  (Vld fits sup need ∧ ∃ a, LexMax (pbOf fits sup need) a ∧ ∃ A c, r = .tuple #[.slice A (allocOf a need.length sup.length).length c, .bool true, .slice none 0 0, .int .i64 0] ∧ Ints2 M' (.slice A (allocOf a need.length sup.length).length c) (allocOf a need.length sup.length))
set_option maxHeartbeats 2000000 in
theorem most2_fn (M : Mem) (A0 A1 A2 : Option Addr) (c0 c1 c2 : Nat) (fits : List (List Bool)) (sup need : List Int) (hf : Fits2 M (.slice A0 fits.length c0) fits) (hs : Ints M (.slice A1 sup.length c1) sup) (hn : Ints M (.slice A2 need.length c2) need) (rs : I64s sup) (rn : I64s need) :
    Fn0 Try.prog 17 [.slice A0 fits.length c0, .slice A1 sup.length c1, .slice A2 need.length c2] M (fun r M' => ((validF fits sup need = false ∧ r = .tuple #[.int .i64 0, .int .i64 300]) ∨ (Vld fits sup need ∧ ∃ L, r = .tuple #[.int .i64 (need.sum - L), .int .i64 0] ∧ IsLack (pbOf fits sup need) L)) ∧ M = M') := by
  refine Fn.intro Try.func17 rfl rfl Try.ntmps17 rfl fun E F => ?_
  repeat (first | ((with_reducible refine Tr.step rfl ?_); (first | ((with_reducible refine Knd.move ?_); (refine Exec.stab rfl (Stab.move rfl) rfl ?_)) | ((with_reducible refine Knd.assign ?_); (refine Exec.stab rfl (Stab.assign rfl) rfl ?_)))) | (with_reducible refine Tr.next ?_) | (with_reducible refine Tr.seq ?_) | (with_reducible refine Tr.region ?_) | (with_reducible refine Tr.nil ?_))
  ((refine Tr.step rfl ?_)); refine Exec.call0 rfl (valid_fn M A0 A1 A2 c0 c1 c2 fits sup need hf hs hn rs rn) rfl ?_
  rintro _ _ _ ⟨rfl, rfl⟩
  cases hvv : validF fits sup need
  · repeat (first | ((with_reducible refine Tr.step rfl ?_); (first | ((with_reducible refine Knd.assign ?_); (refine Exec.stab rfl (Stab.assign rfl) rfl ?_)) | ((with_reducible refine Knd.unOp ?_); ((refine Exec.stab rfl (Stab.not rfl) rfl ?_))))) | (with_reducible refine Tr.next ?_) | (with_reducible refine Tr.seq ?_) | (with_reducible refine Tr.region ?_) | (with_reducible refine Tr.nil ?_) | (with_reducible refine Tr.ret ?_) | (with_reducible refine Tr.then_ret ?_) | (refine Tr.cond_bt rfl (by first | (with_reducible rfl) | (with_reducible assumption) | (with_reducible exact Bool.not_true) | (with_reducible exact Bool.not_false)) ?_))
    (refine Tr.done (by first | exact .inl rfl | exact .inr rfl) rfl (by repeat (first | exact RVs.nil | (apply RVs.cons; (exact RV.tmp rfl)))) (by first | exact Mem.le.refl _ | assumption) (by exact ⟨[], rfl⟩) ⟨rfl, ?_⟩)
    exact ⟨.inl ⟨rfl, rfl⟩, rfl⟩
  · have hv := vld_iff.1 hvv
    repeat (first | ((with_reducible refine Tr.step rfl ?_); (first | ((with_reducible refine Knd.move ?_); (refine Exec.stab rfl (Stab.move rfl) rfl ?_)) | ((with_reducible refine Knd.unOp ?_); ((refine Exec.stab rfl (Stab.not rfl) rfl ?_))))) | (with_reducible refine Tr.next ?_) | (with_reducible refine Tr.seq ?_) | (with_reducible refine Tr.region ?_) | (with_reducible refine Tr.nil ?_) | (with_reducible refine Tr.skip ?_) | (refine Tr.cond_bf rfl (by first | (with_reducible rfl) | (with_reducible assumption) | (with_reducible exact Bool.not_true) | (with_reducible exact Bool.not_false)) ?_))
    ((refine Tr.step rfl ?_)); refine Exec.call0 rfl (most_fn M A0 A1 A2 c0 c1 c2 fits sup need hf hs hn hv) rfl ?_
    rintro _ _ _ ⟨⟨L, rfl, hL⟩, rfl⟩
    repeat (first | ((with_reducible refine Tr.step rfl ?_); (((with_reducible refine Knd.assign ?_); (refine Exec.stab rfl (Stab.assign rfl) rfl ?_)))) | (with_reducible refine Tr.next ?_) | (with_reducible refine Tr.nil ?_) | (with_reducible refine Tr.ret ?_))
    (refine Tr.done (by first | exact .inl rfl | exact .inr rfl) rfl (by repeat (first | exact RVs.nil | (apply RVs.cons; (exact RV.tmp rfl)))) (by first | exact Mem.le.refl _ | assumption) (by exact ⟨[], rfl⟩) ⟨rfl, ?_⟩)
    exact ⟨.inr ⟨hv, L, rfl, hL⟩, rfl⟩
theorem clone_lend (M : Mem) (bi m : Nat) (row : List Int) (hrl : row.length = m + 1) (hm : m ≤ 64) : Bf.Fn Try.prog 33 [.slice (some ⟨bi, 0, none⟩) (row.take m).length (m + 1)] M [box bi 3 (intV row)]
    (fun r M' A' => ∃ A1, A' = [box bi 3 (intV row)] ++ A1 ∧ M = M' ∧ ∃ B k, r = .slice B (row.take m).length k ∧ k ≤ 9223372036854775807 ∧ A1 = [ownS 3 1 B (row.take m).length k (intV (row.take m))]) := by
  have htl : (row.take m).length = m := by simp; omega
  refine Fn.lendA (rs := [box bi 3 (intV row)]) (R := fun r A1 => ∃ B k, r = .slice B (row.take m).length k ∧ k ≤ 9223372036854775807 ∧ A1 = [ownS 3 1 B (row.take m).length k (intV (row.take m))]) (clone_ok _ _ _ _ _ _ (clone_fn M none 0 [] ⟨_, 0, [], rfl, by simp, by simp, by simp, Row.nil _ _ _, by simp⟩ (by simp))) (fun M' _ hok => ?_)
  have hb : (box bi 3 (intV row)).ok M' := hok _ (by simp)
  refine clone_fn M' (some ⟨bi, 0, none⟩) (m + 1) (row.take m) (SlOf.ofBoxC hb rfl (by simp [hrl]) (by omega) (by omega) (fun u hu => intV_one row u (List.mem_of_mem_take hu)) ?_) (by omega)
  have := RI.elems M' (row.take m)
  rw [htl, Nat.mul_one]
  simpa [intV, List.map_take] using this
end Go.Proofs.Ytmioocddmlfboaa
