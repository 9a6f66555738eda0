/-
  Texts of the proof, one after the other.
  Conditions: none.
-/
import Derived.Test.YtmioocddmlfboaaTys
import Derived.Test.YtmioocddmlfboaaBfInts
import Derived.Test.YtmioocddmlfboaaBfPan
import Derived.Test.YtmioocddmlfboaaBfFn
import Derived.Test.YtmioocddmlfboaaBfUnd
import Derived.Test.YtmioocddmlfboaaBfOpt
import Derived.Test.YtmioocddmlfboaaBfArr
import Derived.Test.YtmioocddmlfboaaBfHall
import Derived.Test.YtmioocddmlfboaaBfTwo
import Derived.Test.YtmioocddmlfboaaBfLend
import Derived.Test.YtmioocddmlfboaaBfQueue
/-
  Matching: the contracts of valid, sum and what they call, and of the reference's.
  Conditions: none.
-/
namespace Go.Proofs.Ytmioocddmlfboaa
open Go Bf
attribute [local irreducible] Tr Exec Stab HasTy Go.Addr.add IntKind.wrap
/-- may an amount be? -/
def rng (x : Int) : Bool := decide (0 ≤ x) && decide (x ≤ 1048576)
def rngF (l : List Int) : Bool := l.all rng
theorem rng_iff {x : Int} : rng x = true ↔ 0 ≤ x ∧ x ≤ 1048576 := by simp [rng]
set_option maxHeartbeats 1000000 in
theorem rng1_fn (M : Mem) (x : Int) (hx : -9223372036854775808 ≤ x ∧ x ≤ 9223372036854775807) : Fn0 Try.prog 51 [.int .i64 x] M (fun r M' => r = .bool (!rng x) ∧ M = M') := by
  refine Fn.intro Try.func51 rfl rfl Try.ntmps51 rfl fun E F => ?_
  by_cases h1 : x < 0
  · repeat (first | ((with_reducible refine Tr.step rfl ?_); (first | ((with_reducible refine Knd.move ?_); (refine Exec.stab rfl (Stab.move rfl) rfl ?_)) | ((with_reducible refine Knd.assign ?_); (refine Exec.stab rfl (Stab.assign rfl) rfl ?_)) | ((with_reducible refine Knd.binOp ?_); ((refine Exec.stab rfl (Stab.int rfl rfl rfl) rfl ?_))) | ((with_reducible refine Knd.pick ?_); ((refine Exec.stab rfl (Stab.pick_td rfl (by first | (with_reducible assumption) | (with_reducible rfl) | (with_reducible exact (not_not_intro rfl)) | omega) rfl) rfl ?_))))) | (with_reducible refine Tr.next ?_) | (with_reducible refine Tr.seq ?_) | (with_reducible refine Tr.region ?_) | (with_reducible refine Tr.nil ?_) | (refine Tr.guard_n' rfl rfl rfl (by first | (with_reducible assumption) | (with_reducible rfl) | (with_reducible exact (not_not_intro rfl)) | omega) rfl rfl ?_) | (with_reducible refine Tr.ret ?_))
    (refine Tr.done (by first | exact .inl rfl | exact .inr rfl) rfl (by repeat (first | exact RVs.nil | (apply RVs.cons; (exact RV.tmp rfl)))) (by first | exact Mem.le.refl _ | assumption) (by exact ⟨[], rfl⟩) ⟨rfl, ?_⟩)
    have e : rng x = false := by
      rw [← Bool.not_eq_true, rng_iff]; omega
    exact ⟨by rw [e]; rfl, rfl⟩
  · repeat (first | ((with_reducible refine Tr.step rfl ?_); (first | ((with_reducible refine Knd.move ?_); (refine Exec.stab rfl (Stab.move rfl) rfl ?_)) | ((with_reducible refine Knd.assign ?_); (refine Exec.stab rfl (Stab.assign rfl) rfl ?_)) | ((with_reducible refine Knd.binOp ?_); ((refine Exec.stab rfl (Stab.int rfl rfl rfl) rfl ?_))) | ((with_reducible refine Knd.pick ?_); ((refine Exec.stab rfl (Stab.pick_fd rfl (by first | (with_reducible assumption) | (with_reducible rfl) | (with_reducible exact (not_not_intro rfl)) | omega) rfl) rfl ?_))))) | (with_reducible refine Tr.next ?_) | (with_reducible refine Tr.seq ?_) | (with_reducible refine Tr.region ?_) | (with_reducible refine Tr.nil ?_) | ((refine Tr.guard_y' rfl rfl rfl (by first | (with_reducible assumption) | (with_reducible rfl) | (with_reducible exact (not_not_intro rfl)) | omega) ?_); (first | ((with_reducible refine Knd.move ?_); (refine Exec.stab rfl (Stab.move rfl) rfl ?_)) | ((with_reducible refine Knd.binOp ?_); ((refine Exec.stab rfl (Stab.int rfl rfl rfl) rfl ?_))))) | (with_reducible refine Tr.ret ?_))
    (refine Tr.done (by first | exact .inl rfl | exact .inr rfl) rfl (by repeat (first | exact RVs.nil | (apply RVs.cons; (exact RV.tmp rfl)))) (by first | exact Mem.le.refl _ | assumption) (by exact ⟨[], rfl⟩) ⟨rfl, ?_⟩)
    have e : rng x = !decide (1048576 < x) := by
      by_cases h2 : x ≤ 1048576
      · have : ¬ (1048576 : Int) < x := by omega
        rw [rng_iff.2 ⟨by omega, h2⟩, decide_eq_false this]; rfl
      · have : (1048576 : Int) < x := by omega
        have e : rng x = false := by
          rw [← Bool.not_eq_true, rng_iff]; omega
        rw [e, decide_eq_true this]; rfl
    exact ⟨by rw [e, Bool.not_not]; rfl, rfl⟩
set_option maxHeartbeats 2000000 in
/-- the first that a function value says yes to -/
theorem indexFunc_fn (M : Mem) (A : Option Addr) (c : Nat) (l : List Int) (hl : Ints M (.slice A l.length c) l) (f : FuncId) (cap : List Value) (G : Int → Bool) (hG : ∀ x ∈ l, Fn0 Try.prog f ([.int .i64 x] ++ cap) M (fun r M' => r = .bool (G x) ∧ M = M')) :
    Fn0 Try.prog 43 [.slice A l.length c, .func (.func f) #[] cap.toArray] M (fun r M' => (∃ z : Int, r = .int .i64 z ∧ decide (0 ≤ z) = l.any G) ∧ M = M') := by
  have hll := hl.len_le
  refine Fn.intro Try.func43 rfl rfl Try.ntmps43 rfl fun E F => ?_
  repeat (first | ((with_reducible refine Tr.step rfl ?_); (first | ((with_reducible refine Knd.move ?_); (refine Exec.stab rfl (Stab.move rfl) rfl ?_)) | ((with_reducible refine Knd.assign ?_); (refine Exec.stab rfl (Stab.assign rfl) rfl ?_)) | ((with_reducible refine Knd.len ?_); ((refine Exec.stab rfl (Stab.len rfl (tysOk.get rfl) rfl) rfl ?_))))) | (with_reducible refine Tr.next ?_) | (with_reducible refine Tr.seq ?_) | (with_reducible refine Tr.region ?_) | (with_reducible refine Tr.nil ?_) | (with_reducible refine Tr.block ?_))
  refine Tr.loop (α := Nat) (fun i => ⟨19, [(8, .int .i64 i), (7, .int .i64 l.length), (0, .slice A l.length c), (1, .func (.func f) #[] cap.toArray)], [], M, [] ++ F⟩) (fun i => i ≤ l.length ∧ (l.take i).any G = false) (fun i => l.length - i) 0 ⟨by simp, by simp⟩ (holds_sub (by repeat (first | exact SubFr.nil | refine SubFr.cons rfl ?_)) (by repeat (first | exact DropL.refl | apply DropL.skip))) (fun i hi => ?_)
  obtain ⟨hi, hany⟩ := hi
  by_cases hlt : i < l.length
  · obtain ⟨x, hx⟩ := get_of_lt hlt
    obtain ⟨hA, hat⟩ := hl.at hx
    have hg := hG x (List.mem_of_getElem? hx)
    have htake : (l.take (i + 1)).any G = ((l.take i).any G || G x) := by rw [List.take_add_one, hx]; simp
    repeat (first | ((with_reducible refine Tr.step rfl ?_); (first | ((with_reducible refine Knd.move ?_); (refine Exec.stab rfl (Stab.move rfl) rfl ?_)) | ((with_reducible refine Knd.assign ?_); (refine Exec.stab rfl (Stab.assign rfl) rfl ?_)) | ((with_reducible refine Knd.load ?_); ((refine Exec.stab rfl (Stab.loadM rfl (tysOk.get rfl) rfl (by assumption)) rfl ?_))) | ((with_reducible refine Knd.binOp ?_); ((refine Exec.stab rfl (Stab.int rfl rfl rfl) rfl ?_))) | ((with_reducible refine Knd.indexAddr ?_); ((refine Exec.stab rfl (Stab.indexAddr rfl rfl (tysOk.get rfl) rfl (tysOk.get rfl) rfl (by omega) (by omega) (by first | rfl | assumption)) rfl ?_))))) | (with_reducible refine Tr.next ?_) | (with_reducible refine Tr.seq ?_) | (with_reducible refine Tr.region ?_) | (with_reducible refine Tr.nil ?_) | (with_reducible refine Tr.skip ?_) | (with_reducible refine Tr.block ?_) | (refine Tr.cond_t rfl (by first | (with_reducible assumption) | (with_reducible rfl) | (with_reducible exact (not_not_intro rfl)) | omega) ?_))
    ((refine Tr.step rfl ?_))
    refine Exec.callv (A := []) (first := []) (cap := cap) rfl rfl hg (List.Perm.refl _) rfl ?_
    rintro _ _ _ _ ⟨rfl, rfl, rfl⟩
    cases hGx : G x
    · rw [hGx] at htake
      repeat (first | ((with_reducible refine Tr.step rfl ?_); (first | ((with_reducible refine Knd.move ?_); (refine Exec.stab rfl (Stab.move rfl) rfl ?_)) | ((with_reducible refine Knd.binOp ?_); ((refine Exec.stab rfl (Stab.addi rfl rfl (by omega)) rfl ?_))))) | (with_reducible refine Tr.next ?_) | (with_reducible refine Tr.region ?_) | (with_reducible refine Tr.nil ?_) | (with_reducible refine Tr.skip ?_) | (with_reducible refine Tr.in_normal ?_) | (refine Tr.cond_bf rfl (by first | (with_reducible rfl) | (with_reducible assumption) | (with_reducible exact Bool.not_true) | (with_reducible exact Bool.not_false)) ?_))
      refine Tr.again (i + 1) ⟨hlt, by rw [htake, hany]; rfl⟩ (by omega) (holds_sub (by repeat (first | exact SubFr.nil | refine SubFr.cons rfl ?_)) (by repeat (first | exact DropL.refl | apply DropL.skip)))
    · repeat (first | ((with_reducible refine Tr.step rfl ?_); (first | ((with_reducible refine Knd.move ?_); (refine Exec.stab rfl (Stab.move rfl) rfl ?_)) | ((with_reducible refine Knd.assign ?_); (refine Exec.stab rfl (Stab.assign rfl) rfl ?_)))) | (with_reducible refine Tr.next ?_) | (with_reducible refine Tr.seq ?_) | (with_reducible refine Tr.region ?_) | (with_reducible refine Tr.nil ?_) | (with_reducible refine Tr.ret ?_) | (with_reducible refine Tr.then_ret ?_) | (with_reducible refine Tr.in_ret ?_) | (refine Tr.cond_bt rfl (by first | (with_reducible rfl) | (with_reducible assumption) | (with_reducible exact Bool.not_true) | (with_reducible exact Bool.not_false)) ?_))
      (refine Tr.done (by first | exact .inl rfl | exact .inr rfl) rfl (by repeat (first | exact RVs.nil | (apply RVs.cons; (exact RV.tmp rfl)))) (by first | exact Mem.le.refl _ | assumption) (by exact ⟨[], rfl⟩) ⟨rfl, ?_⟩)
      refine ⟨⟨i, rfl, ?_⟩, rfl⟩
      have : l.any G = true := List.any_eq_true.2 ⟨x, List.mem_of_getElem? hx, hGx⟩
      rw [this]; simp
  · have e : i = l.length := by omega
    subst e
    rw [List.take_length] at hany
    repeat (first | ((with_reducible refine Tr.step rfl ?_); (first | ((with_reducible refine Knd.assign ?_); (refine Exec.stab rfl (Stab.assign rfl) rfl ?_)) | ((with_reducible refine Knd.binOp ?_); ((refine Exec.stab rfl (Stab.int rfl rfl rfl) rfl ?_))))) | (with_reducible refine Tr.next ?_) | (with_reducible refine Tr.seq ?_) | (with_reducible refine Tr.region ?_) | (with_reducible refine Tr.nil ?_) | (with_reducible refine Tr.exit ?_) | (with_reducible refine Tr.ret ?_) | (with_reducible refine Tr.then_exit ?_) | ((with_reducible refine Tr.in_exit ?_ ?_); (exact rfl)) | (refine Tr.cond_f rfl (by first | (with_reducible assumption) | (with_reducible rfl) | (with_reducible exact (not_not_intro rfl)) | omega) ?_))
    (refine Tr.done (by first | exact .inl rfl | exact .inr rfl) rfl (by repeat (first | exact RVs.nil | (apply RVs.cons; (exact RV.tmp rfl)))) (by first | exact Mem.le.refl _ | assumption) (by exact ⟨[], rfl⟩) ⟨rfl, ?_⟩)
    exact ⟨⟨-1, rfl, by rw [hany]; rfl⟩, rfl⟩
set_option maxHeartbeats 1000000 in
theorem containsFunc_fn (M : Mem) (A : Option Addr) (c : Nat) (l : List Int) (hl : Ints M (.slice A l.length c) l) (f : FuncId) (cap : List Value) (G : Int → Bool) (hG : ∀ x ∈ l, Fn0 Try.prog f ([.int .i64 x] ++ cap) M (fun r M' => r = .bool (G x) ∧ M = M')) :
    Fn0 Try.prog 27 [.slice A l.length c, .func (.func f) #[] cap.toArray] M (fun r M' => r = .bool (l.any G) ∧ M = M') := by
  refine Fn.intro Try.func27 rfl rfl Try.ntmps27 rfl fun E F => ?_
  repeat (first | ((with_reducible refine Tr.step rfl ?_); (first | ((with_reducible refine Knd.move ?_); (refine Exec.stab rfl (Stab.move rfl) rfl ?_)) | ((with_reducible refine Knd.assign ?_); (refine Exec.stab rfl (Stab.assign rfl) rfl ?_)))) | (with_reducible refine Tr.next ?_) | (with_reducible refine Tr.seq ?_) | (with_reducible refine Tr.region ?_) | (with_reducible refine Tr.nil ?_))
  ((refine Tr.step rfl ?_)); refine Exec.call0 rfl (indexFunc_fn M A c l hl f cap G hG) rfl ?_
  rintro _ _ _ ⟨⟨z, rfl, hz⟩, rfl⟩
  repeat (first | ((with_reducible refine Tr.step rfl ?_); (first | ((with_reducible refine Knd.assign ?_); (refine Exec.stab rfl (Stab.assign rfl) rfl ?_)) | ((with_reducible refine Knd.binOp ?_); ((refine Exec.stab rfl (Stab.int rfl rfl rfl) rfl ?_))))) | (with_reducible refine Tr.next ?_) | (with_reducible refine Tr.nil ?_) | (with_reducible refine Tr.ret ?_))
  (refine Tr.done (by first | exact .inl rfl | exact .inr rfl) rfl (by repeat (first | exact RVs.nil | (apply RVs.cons; (exact RV.tmp rfl)))) (by first | exact Mem.le.refl _ | assumption) (by exact ⟨[], rfl⟩) ⟨rfl, ?_⟩)
  exact ⟨by rw [← hz]; rfl, rfl⟩
theorem all_any (l : List Int) : l.any (fun x => !rng x) = !rngF l := by
  unfold rngF
  induction l with
  | nil => rfl
  | cons x l ih => simp [ih]
set_option maxHeartbeats 1000000 in
theorem inRange_fn (M : Mem) (A : Option Addr) (c : Nat) (l : List Int) (hl : Ints M (.slice A l.length c) l) (hr : ∀ x ∈ l, -9223372036854775808 ≤ x ∧ x ≤ 9223372036854775807) :
    Fn0 Try.prog 41 [.slice A l.length c] M (fun r M' => r = .bool (rngF l) ∧ M = M') := by
  refine Fn.intro Try.func41 rfl rfl Try.ntmps41 rfl fun E F => ?_
  repeat (first | ((with_reducible refine Tr.step rfl ?_); (first | ((with_reducible refine Knd.move ?_); (refine Exec.stab rfl (Stab.move rfl) rfl ?_)) | ((with_reducible refine Knd.assign ?_); (refine Exec.stab rfl (Stab.assign rfl) rfl ?_)))) | (with_reducible refine Tr.next ?_) | (with_reducible refine Tr.seq ?_) | (with_reducible refine Tr.region ?_) | (with_reducible refine Tr.nil ?_))
  ((refine Tr.step rfl ?_)); refine Exec.call0 rfl (containsFunc_fn M A c l hl 51 [] (fun x => !rng x) (fun x hx => rng1_fn M x (hr x hx))) rfl ?_
  rintro _ _ _ ⟨rfl, rfl⟩
  rw [all_any]
  repeat (first | ((with_reducible refine Tr.step rfl ?_); (first | ((with_reducible refine Knd.assign ?_); (refine Exec.stab rfl (Stab.assign rfl) rfl ?_)) | ((with_reducible refine Knd.unOp ?_); ((refine Exec.stab rfl (Stab.not rfl) rfl ?_))))) | (with_reducible refine Tr.next ?_) | (with_reducible refine Tr.nil ?_) | (with_reducible refine Tr.ret ?_))
  (refine Tr.done (by first | exact .inl rfl | exact .inr rfl) rfl (by repeat (first | exact RVs.nil | (apply RVs.cons; (exact RV.tmp rfl)))) (by first | exact Mem.le.refl _ | assumption) (by exact ⟨[], rfl⟩) ⟨rfl, ?_⟩)
  exact ⟨by rw [Bool.not_not]; rfl, rfl⟩
set_option maxHeartbeats 2000000 in
theorem rInRange_fn (M : Mem) (A : Option Addr) (c : Nat) (l : List Int) (hl : Ints M (.slice A l.length c) l) :
    Fn0 Try.prog 42 [.slice A l.length c] M (fun r M' => r = .bool (rngF l) ∧ M = M') := by
  have hll := hl.len_le
  refine Fn.intro Try.func42 rfl rfl Try.ntmps42 rfl fun E F => ?_
  repeat (first | ((with_reducible refine Tr.step rfl ?_); (((with_reducible refine Knd.assign ?_); (refine Exec.stab rfl (Stab.assign rfl) rfl ?_)))) | (with_reducible refine Tr.next ?_) | (with_reducible refine Tr.seq ?_) | (with_reducible refine Tr.region ?_) | (with_reducible refine Tr.nil ?_) | (with_reducible refine Tr.block ?_))
  refine Tr.loop (α := Nat) (fun i => ⟨22, [(3, .int .i64 i), (0, .slice A l.length c)], [], M, [] ++ F⟩) (fun i => i ≤ l.length ∧ (l.take i).all rng = true) (fun i => l.length - i) 0 ⟨by simp, by simp⟩ (holds_sub (by repeat (first | exact SubFr.nil | refine SubFr.cons rfl ?_)) (by repeat (first | exact DropL.refl | apply DropL.skip))) (fun i hi => ?_)
  obtain ⟨hi, hall⟩ := hi
  by_cases hlt : i < l.length
  · obtain ⟨x, hx⟩ := get_of_lt hlt
    obtain ⟨hA, hat⟩ := hl.at hx
    have htake : (l.take (i + 1)).all rng = ((l.take i).all rng && rng x) := by rw [List.take_add_one, hx]; simp
    by_cases h0 : x < 0
    · have : rngF l = false := by
        unfold rngF
        rw [← Bool.not_eq_true, List.all_eq_true]
        intro h
        have := rng_iff.1 (h x (List.mem_of_getElem? hx))
        omega
      repeat (first | ((with_reducible refine Tr.step rfl ?_); (first | ((with_reducible refine Knd.move ?_); (refine Exec.stab rfl (Stab.move rfl) rfl ?_)) | ((with_reducible refine Knd.assign ?_); (refine Exec.stab rfl (Stab.assign rfl) rfl ?_)) | ((with_reducible refine Knd.load ?_); ((refine Exec.stab rfl (Stab.loadM rfl (tysOk.get rfl) rfl (by assumption)) rfl ?_))) | ((with_reducible refine Knd.len ?_); ((refine Exec.stab rfl (Stab.len rfl (tysOk.get rfl) rfl) rfl ?_))) | ((with_reducible refine Knd.binOp ?_); ((refine Exec.stab rfl (Stab.int rfl rfl rfl) rfl ?_))) | ((with_reducible refine Knd.pick ?_); ((refine Exec.stab rfl (Stab.pick_td rfl (by first | (with_reducible assumption) | (with_reducible rfl) | (with_reducible exact (not_not_intro rfl)) | omega) rfl) rfl ?_))) | ((with_reducible refine Knd.indexAddr ?_); ((refine Exec.stab rfl (Stab.indexAddr rfl rfl (tysOk.get rfl) rfl (tysOk.get rfl) rfl (by omega) (by omega) (by first | rfl | assumption)) rfl ?_))))) | (with_reducible refine Tr.next ?_) | (with_reducible refine Tr.seq ?_) | (with_reducible refine Tr.region ?_) | (with_reducible refine Tr.nil ?_) | (refine Tr.guard_n' rfl rfl rfl (by first | (with_reducible assumption) | (with_reducible rfl) | (with_reducible exact (not_not_intro rfl)) | omega) rfl rfl ?_) | (with_reducible refine Tr.skip ?_) | (with_reducible refine Tr.block ?_) | (with_reducible refine Tr.ret ?_) | (with_reducible refine Tr.then_ret ?_) | (with_reducible refine Tr.in_ret ?_) | (refine Tr.cond_bt rfl (by first | (with_reducible rfl) | (with_reducible assumption) | (with_reducible exact Bool.not_true) | (with_reducible exact Bool.not_false)) ?_) | (refine Tr.cond_t rfl (by first | (with_reducible assumption) | (with_reducible rfl) | (with_reducible exact (not_not_intro rfl)) | omega) ?_))
      (refine Tr.done (by first | exact .inl rfl | exact .inr rfl) rfl (by repeat (first | exact RVs.nil | (apply RVs.cons; (exact RV.tmp rfl)))) (by first | exact Mem.le.refl _ | assumption) (by exact ⟨[], rfl⟩) ⟨rfl, ?_⟩)
      exact ⟨by rw [this]; rfl, rfl⟩
    by_cases h1 : (1048576 : Int) < x
    · have : rngF l = false := by
        unfold rngF
        rw [← Bool.not_eq_true, List.all_eq_true]
        intro h
        have := rng_iff.1 (h x (List.mem_of_getElem? hx))
        omega
      repeat (first | ((with_reducible refine Tr.step rfl ?_); (first | ((with_reducible refine Knd.move ?_); (refine Exec.stab rfl (Stab.move rfl) rfl ?_)) | ((with_reducible refine Knd.assign ?_); (refine Exec.stab rfl (Stab.assign rfl) rfl ?_)) | ((with_reducible refine Knd.load ?_); ((refine Exec.stab rfl (Stab.loadM rfl (tysOk.get rfl) rfl (by assumption)) rfl ?_))) | ((with_reducible refine Knd.len ?_); ((refine Exec.stab rfl (Stab.len rfl (tysOk.get rfl) rfl) rfl ?_))) | ((with_reducible refine Knd.binOp ?_); ((refine Exec.stab rfl (Stab.int rfl rfl rfl) rfl ?_))) | ((with_reducible refine Knd.pick ?_); ((refine Exec.stab rfl (Stab.pick_fd rfl (by first | (with_reducible assumption) | (with_reducible rfl) | (with_reducible exact (not_not_intro rfl)) | omega) rfl) rfl ?_))) | ((with_reducible refine Knd.indexAddr ?_); ((refine Exec.stab rfl (Stab.indexAddr rfl rfl (tysOk.get rfl) rfl (tysOk.get rfl) rfl (by omega) (by omega) (by first | rfl | assumption)) rfl ?_))))) | (with_reducible refine Tr.next ?_) | (with_reducible refine Tr.seq ?_) | (with_reducible refine Tr.region ?_) | (with_reducible refine Tr.nil ?_) | ((refine Tr.guard_y' rfl rfl rfl (by first | (with_reducible assumption) | (with_reducible rfl) | (with_reducible exact (not_not_intro rfl)) | omega) ?_); (first | ((with_reducible refine Knd.move ?_); (refine Exec.stab rfl (Stab.move rfl) rfl ?_)) | ((with_reducible refine Knd.load ?_); ((refine Exec.stab rfl (Stab.loadM rfl (tysOk.get rfl) rfl (by assumption)) rfl ?_))) | ((with_reducible refine Knd.binOp ?_); ((refine Exec.stab rfl (Stab.int rfl rfl rfl) rfl ?_))) | ((with_reducible refine Knd.indexAddr ?_); ((refine Exec.stab rfl (Stab.indexAddr rfl rfl (tysOk.get rfl) rfl (tysOk.get rfl) rfl (by omega) (by omega) (by first | rfl | assumption)) rfl ?_))))) | (with_reducible refine Tr.skip ?_) | (with_reducible refine Tr.block ?_) | (with_reducible refine Tr.ret ?_) | (with_reducible refine Tr.then_ret ?_) | (with_reducible refine Tr.in_ret ?_) | (refine Tr.cond_t rfl (by first | (with_reducible assumption) | (with_reducible rfl) | (with_reducible exact (not_not_intro rfl)) | omega) ?_))
      (refine Tr.done (by first | exact .inl rfl | exact .inr rfl) rfl (by repeat (first | exact RVs.nil | (apply RVs.cons; (exact RV.tmp rfl)))) (by first | exact Mem.le.refl _ | assumption) (by exact ⟨[], rfl⟩) ⟨rfl, ?_⟩)
      exact ⟨by rw [this]; rfl, rfl⟩
    repeat (first | ((with_reducible refine Tr.step rfl ?_); (first | ((with_reducible refine Knd.move ?_); (refine Exec.stab rfl (Stab.move rfl) rfl ?_)) | ((with_reducible refine Knd.assign ?_); (refine Exec.stab rfl (Stab.assign rfl) rfl ?_)) | ((with_reducible refine Knd.load ?_); ((refine Exec.stab rfl (Stab.loadM rfl (tysOk.get rfl) rfl (by assumption)) rfl ?_))) | ((with_reducible refine Knd.len ?_); ((refine Exec.stab rfl (Stab.len rfl (tysOk.get rfl) rfl) rfl ?_))) | ((with_reducible refine Knd.binOp ?_); (first | (refine Exec.stab rfl (Stab.addi rfl rfl (by omega)) rfl ?_) | (refine Exec.stab rfl (Stab.int rfl rfl rfl) rfl ?_))) | ((with_reducible refine Knd.pick ?_); ((refine Exec.stab rfl (Stab.pick_fd rfl (by first | (with_reducible assumption) | (with_reducible rfl) | (with_reducible exact (not_not_intro rfl)) | omega) rfl) rfl ?_))) | ((with_reducible refine Knd.indexAddr ?_); ((refine Exec.stab rfl (Stab.indexAddr rfl rfl (tysOk.get rfl) rfl (tysOk.get rfl) rfl (by omega) (by omega) (by first | rfl | assumption)) rfl ?_))))) | (with_reducible refine Tr.next ?_) | (with_reducible refine Tr.seq ?_) | (with_reducible refine Tr.region ?_) | (with_reducible refine Tr.nil ?_) | ((refine Tr.guard_y' rfl rfl rfl (by first | (with_reducible assumption) | (with_reducible rfl) | (with_reducible exact (not_not_intro rfl)) | omega) ?_); (first | ((with_reducible refine Knd.move ?_); (refine Exec.stab rfl (Stab.move rfl) rfl ?_)) | ((with_reducible refine Knd.load ?_); ((refine Exec.stab rfl (Stab.loadM rfl (tysOk.get rfl) rfl (by assumption)) rfl ?_))) | ((with_reducible refine Knd.binOp ?_); ((refine Exec.stab rfl (Stab.int rfl rfl rfl) rfl ?_))) | ((with_reducible refine Knd.indexAddr ?_); ((refine Exec.stab rfl (Stab.indexAddr rfl rfl (tysOk.get rfl) rfl (tysOk.get rfl) rfl (by omega) (by omega) (by first | rfl | assumption)) rfl ?_))))) | (with_reducible refine Tr.skip ?_) | (with_reducible refine Tr.block ?_) | (with_reducible refine Tr.in_normal ?_) | (refine Tr.cond_t rfl (by first | (with_reducible assumption) | (with_reducible rfl) | (with_reducible exact (not_not_intro rfl)) | omega) ?_) | (refine Tr.cond_f rfl (by first | (with_reducible assumption) | (with_reducible rfl) | (with_reducible exact (not_not_intro rfl)) | omega) ?_))
    refine Tr.again (i + 1) ⟨hlt, by rw [htake, hall]; exact rng_iff.2 ⟨by omega, by omega⟩⟩ (by omega) (holds_sub (by repeat (first | exact SubFr.nil | refine SubFr.cons rfl ?_)) (by repeat (first | exact DropL.refl | apply DropL.skip)))
  · have e : i = l.length := by omega
    subst e
    rw [List.take_length] at hall
    repeat (first | ((with_reducible refine Tr.step rfl ?_); (first | ((with_reducible refine Knd.move ?_); (refine Exec.stab rfl (Stab.move rfl) rfl ?_)) | ((with_reducible refine Knd.assign ?_); (refine Exec.stab rfl (Stab.assign rfl) rfl ?_)) | ((with_reducible refine Knd.len ?_); ((refine Exec.stab rfl (Stab.len rfl (tysOk.get rfl) rfl) rfl ?_))) | ((with_reducible refine Knd.binOp ?_); ((refine Exec.stab rfl (Stab.int rfl rfl rfl) rfl ?_))))) | (with_reducible refine Tr.next ?_) | (with_reducible refine Tr.seq ?_) | (with_reducible refine Tr.region ?_) | (with_reducible refine Tr.nil ?_) | (with_reducible refine Tr.exit ?_) | (with_reducible refine Tr.ret ?_) | (with_reducible refine Tr.then_exit ?_) | ((with_reducible refine Tr.in_exit ?_ ?_); (exact rfl)) | (refine Tr.cond_f rfl (by first | (with_reducible assumption) | (with_reducible rfl) | (with_reducible exact (not_not_intro rfl)) | omega) ?_))
    (refine Tr.done (by first | exact .inl rfl | exact .inr rfl) rfl (by repeat (first | exact RVs.nil | (apply RVs.cons; (exact RV.tmp rfl)))) (by first | exact Mem.le.refl _ | assumption) (by exact ⟨[], rfl⟩) ⟨rfl, ?_⟩)
    exact ⟨by show _ = Value.bool (l.all rng); rw [hall]; rfl, rfl⟩
end Go.Proofs.Ytmioocddmlfboaa
/-
  Matching: the contracts of valid and sum, and of the reference's Valid, has, touches and Lack.
  Conditions: none.
-/
namespace Go.Proofs.Ytmioocddmlfboaa
open Go Bf
attribute [local irreducible] Tr Exec Stab HasTy Go.Addr.add IntKind.wrap
/-- is a problem valid? -/
def validF (fits : List (List Bool)) (sup need : List Int) : Bool := decide (sup.length ≤ 64) && decide (need.length ≤ 64) && decide (fits.length = sup.length) && fits.all (fun r => decide (r.length = need.length)) && rngF sup && rngF need
abbrev Fits2 (M : Mem) (v : Value) (l : List (List Bool)) : Prop := SlOf 1 RRowB M v l
abbrev Ints2 (M : Mem) (v : Value) (l : List (List Int)) : Prop := SlOf 1 RRowI M v l
abbrev I64s (l : List Int) : Prop := ∀ x ∈ l, -9223372036854775808 ≤ x ∧ x ≤ 9223372036854775807
theorem fits_cap {M : Mem} {A : Option Addr} {n c : Nat} {l : List (List Bool)} (h : Fits2 M (.slice A n c) l) : l.length ≤ c ∧ c ≤ 9223372036854775807 := by
  obtain ⟨cells, -, h2, h3, -⟩ := h.cells
  exact ⟨h2, h3⟩
theorem bools_len {M : Mem} {A : Option Addr} {n c : Nat} {l : List Bool} (h : Bools M (.slice A n c) l) : l.length ≤ c ∧ c ≤ 9223372036854775807 := by
  obtain ⟨cells, -, h2, h3, -⟩ := h.cells
  exact ⟨h2, h3⟩
set_option maxHeartbeats 4000000 in
theorem valid_fn (M : Mem) (A0 A1 A2 : Option Addr) (c0 c1 c2 : Nat) (fits : List (List Bool)) (sup need : List Int) (hf : Fits2 M (.slice A0 fits.length c0) fits) (hs : Ints M (.slice A1 sup.length c1) sup) (hn : Ints M (.slice A2 need.length c2) need) (rs : I64s sup) (rn : I64s need) :
    Fn0 Try.prog 23 [.slice A0 fits.length c0, .slice A1 sup.length c1, .slice A2 need.length c2] M (fun r M' => r = .bool (validF fits sup need) ∧ M = M') := by
  have l0 := hf.len_le
  have l1 := hs.len_le
  have l2 := hn.len_le
  refine Fn.intro Try.func23 rfl rfl Try.ntmps23 rfl fun E F => ?_
  by_cases h1 : 64 < sup.length
  · have e : validF fits sup need = false := by simp [validF]; omega
    repeat (first | ((with_reducible refine Tr.step rfl ?_); (first | ((with_reducible refine Knd.move ?_); (refine Exec.stab rfl (Stab.move rfl) rfl ?_)) | ((with_reducible refine Knd.assign ?_); (refine Exec.stab rfl (Stab.assign rfl) rfl ?_)) | ((with_reducible refine Knd.len ?_); ((refine Exec.stab rfl (Stab.len rfl (tysOk.get rfl) rfl) rfl ?_))) | ((with_reducible refine Knd.binOp ?_); ((refine Exec.stab rfl (Stab.int rfl rfl rfl) rfl ?_))) | ((with_reducible refine Knd.pick ?_); (first | (refine Exec.stab rfl (Stab.pick_t rfl (by first | (with_reducible rfl) | (with_reducible assumption) | (with_reducible exact Bool.not_true) | (with_reducible exact Bool.not_false)) rfl) rfl ?_) | (refine Exec.stab rfl (Stab.pick_td rfl (by first | (with_reducible assumption) | (with_reducible rfl) | (with_reducible exact (not_not_intro rfl)) | omega) rfl) rfl ?_))))) | (with_reducible refine Tr.next ?_) | (with_reducible refine Tr.seq ?_) | (with_reducible refine Tr.region ?_) | (with_reducible refine Tr.nil ?_) | (refine Tr.guard_s0 rfl rfl rfl (by first | (with_reducible rfl) | (with_reducible assumption) | (with_reducible exact Bool.not_true) | (with_reducible exact Bool.not_false)) rfl rfl ?_) | (refine Tr.guard_n' rfl rfl rfl (by first | (with_reducible assumption) | (with_reducible rfl) | (with_reducible exact (not_not_intro rfl)) | omega) rfl rfl ?_) | (with_reducible refine Tr.ret ?_) | (with_reducible refine Tr.then_ret ?_) | (refine Tr.cond_bt rfl (by first | (with_reducible rfl) | (with_reducible assumption) | (with_reducible exact Bool.not_true) | (with_reducible exact Bool.not_false)) ?_))
    (refine Tr.done (by first | exact .inl rfl | exact .inr rfl) rfl (by repeat (first | exact RVs.nil | (apply RVs.cons; (exact RV.tmp rfl)))) (by first | exact Mem.le.refl _ | assumption) (by exact ⟨[], rfl⟩) ⟨rfl, ?_⟩)
    exact ⟨by rw [e]; rfl, rfl⟩
  by_cases h2 : 64 < need.length
  · have e : validF fits sup need = false := by simp [validF]; omega
    repeat (first | ((with_reducible refine Tr.step rfl ?_); (first | ((with_reducible refine Knd.move ?_); (refine Exec.stab rfl (Stab.move rfl) rfl ?_)) | ((with_reducible refine Knd.assign ?_); (refine Exec.stab rfl (Stab.assign rfl) rfl ?_)) | ((with_reducible refine Knd.len ?_); ((refine Exec.stab rfl (Stab.len rfl (tysOk.get rfl) rfl) rfl ?_))) | ((with_reducible refine Knd.binOp ?_); ((refine Exec.stab rfl (Stab.int rfl rfl rfl) rfl ?_))) | ((with_reducible refine Knd.pick ?_); (first | (refine Exec.stab rfl (Stab.pick_td rfl (by first | (with_reducible assumption) | (with_reducible rfl) | (with_reducible exact (not_not_intro rfl)) | omega) rfl) rfl ?_) | (refine Exec.stab rfl (Stab.pick_fd rfl (by first | (with_reducible assumption) | (with_reducible rfl) | (with_reducible exact (not_not_intro rfl)) | omega) rfl) rfl ?_))))) | (with_reducible refine Tr.next ?_) | (with_reducible refine Tr.seq ?_) | (with_reducible refine Tr.region ?_) | (with_reducible refine Tr.nil ?_) | ((refine Tr.guard_y' rfl rfl rfl (by first | (with_reducible assumption) | (with_reducible rfl) | (with_reducible exact (not_not_intro rfl)) | omega) ?_); (first | ((with_reducible refine Knd.move ?_); (refine Exec.stab rfl (Stab.move rfl) rfl ?_)) | ((with_reducible refine Knd.len ?_); ((refine Exec.stab rfl (Stab.len rfl (tysOk.get rfl) rfl) rfl ?_))) | ((with_reducible refine Knd.binOp ?_); ((refine Exec.stab rfl (Stab.int rfl rfl rfl) rfl ?_))))) | (refine Tr.guard_n' rfl rfl rfl (by first | (with_reducible assumption) | (with_reducible rfl) | (with_reducible exact (not_not_intro rfl)) | omega) rfl rfl ?_) | (with_reducible refine Tr.ret ?_) | (with_reducible refine Tr.then_ret ?_) | (refine Tr.cond_bt rfl (by first | (with_reducible rfl) | (with_reducible assumption) | (with_reducible exact Bool.not_true) | (with_reducible exact Bool.not_false)) ?_))
    (refine Tr.done (by first | exact .inl rfl | exact .inr rfl) rfl (by repeat (first | exact RVs.nil | (apply RVs.cons; (exact RV.tmp rfl)))) (by first | exact Mem.le.refl _ | assumption) (by exact ⟨[], rfl⟩) ⟨rfl, ?_⟩)
    exact ⟨by rw [e]; rfl, rfl⟩
  by_cases h3 : fits.length = sup.length
  rotate_left
  · have e : validF fits sup need = false := by simp [validF, h3]
    repeat (first | ((with_reducible refine Tr.step rfl ?_); (first | ((with_reducible refine Knd.move ?_); (refine Exec.stab rfl (Stab.move rfl) rfl ?_)) | ((with_reducible refine Knd.assign ?_); (refine Exec.stab rfl (Stab.assign rfl) rfl ?_)) | ((with_reducible refine Knd.len ?_); ((refine Exec.stab rfl (Stab.len rfl (tysOk.get rfl) rfl) rfl ?_))) | ((with_reducible refine Knd.binOp ?_); ((refine Exec.stab rfl (Stab.int rfl rfl rfl) rfl ?_))) | ((with_reducible refine Knd.pick ?_); ((refine Exec.stab rfl (Stab.pick_fd rfl (by first | (with_reducible assumption) | (with_reducible rfl) | (with_reducible exact (not_not_intro rfl)) | omega) rfl) rfl ?_))))) | (with_reducible refine Tr.next ?_) | (with_reducible refine Tr.seq ?_) | (with_reducible refine Tr.region ?_) | (with_reducible refine Tr.nil ?_) | ((refine Tr.guard_y' rfl rfl rfl (by first | (with_reducible assumption) | (with_reducible rfl) | (with_reducible exact (not_not_intro rfl)) | omega) ?_); (first | ((with_reducible refine Knd.move ?_); (refine Exec.stab rfl (Stab.move rfl) rfl ?_)) | ((with_reducible refine Knd.len ?_); ((refine Exec.stab rfl (Stab.len rfl (tysOk.get rfl) rfl) rfl ?_))) | ((with_reducible refine Knd.binOp ?_); ((refine Exec.stab rfl (Stab.int rfl rfl rfl) rfl ?_))))) | (with_reducible refine Tr.ret ?_) | (with_reducible refine Tr.then_ret ?_) | (refine Tr.cond_t rfl (by first | (with_reducible assumption) | (with_reducible rfl) | (with_reducible exact (not_not_intro rfl)) | omega) ?_))
    (refine Tr.done (by first | exact .inl rfl | exact .inr rfl) rfl (by repeat (first | exact RVs.nil | (apply RVs.cons; (exact RV.tmp rfl)))) (by first | exact Mem.le.refl _ | assumption) (by exact ⟨[], rfl⟩) ⟨rfl, ?_⟩)
    exact ⟨by rw [e]; rfl, rfl⟩
  repeat (first | ((with_reducible refine Tr.step rfl ?_); (first | ((with_reducible refine Knd.move ?_); (refine Exec.stab rfl (Stab.move rfl) rfl ?_)) | ((with_reducible refine Knd.assign ?_); (refine Exec.stab rfl (Stab.assign rfl) rfl ?_)) | ((with_reducible refine Knd.len ?_); ((refine Exec.stab rfl (Stab.len rfl (tysOk.get rfl) rfl) rfl ?_))) | ((with_reducible refine Knd.binOp ?_); ((refine Exec.stab rfl (Stab.int rfl rfl rfl) rfl ?_))) | ((with_reducible refine Knd.pick ?_); ((refine Exec.stab rfl (Stab.pick_fd rfl (by first | (with_reducible assumption) | (with_reducible rfl) | (with_reducible exact (not_not_intro rfl)) | omega) rfl) rfl ?_))))) | (with_reducible refine Tr.next ?_) | (with_reducible refine Tr.seq ?_) | (with_reducible refine Tr.region ?_) | (with_reducible refine Tr.nil ?_) | ((refine Tr.guard_y' rfl rfl rfl (by first | (with_reducible assumption) | (with_reducible rfl) | (with_reducible exact (not_not_intro rfl)) | omega) ?_); (first | ((with_reducible refine Knd.move ?_); (refine Exec.stab rfl (Stab.move rfl) rfl ?_)) | ((with_reducible refine Knd.len ?_); ((refine Exec.stab rfl (Stab.len rfl (tysOk.get rfl) rfl) rfl ?_))) | ((with_reducible refine Knd.binOp ?_); ((refine Exec.stab rfl (Stab.int rfl rfl rfl) rfl ?_))))) | (with_reducible refine Tr.skip ?_) | (with_reducible refine Tr.block ?_) | (refine Tr.cond_f rfl (by first | (with_reducible assumption) | (with_reducible rfl) | (with_reducible exact (not_not_intro rfl)) | omega) ?_))
  refine Tr.loop (α := Nat) (fun i => ⟨42, [(26, .int .i64 i), (25, .int .i64 fits.length), (24, .slice A0 fits.length c0), (0, .slice A0 fits.length c0), (1, .slice A1 sup.length c1), (2, .slice A2 need.length c2)], [], M, [] ++ F⟩) (fun i => i ≤ fits.length ∧ (fits.take i).all (fun r => decide (r.length = need.length)) = true) (fun i => fits.length - i) 0 ⟨by simp, by simp⟩ (holds_sub (by repeat (first | exact SubFr.nil | refine SubFr.cons rfl ?_)) (by repeat (first | exact DropL.refl | apply DropL.skip))) (fun i hi => ?_)
  obtain ⟨hi, hall⟩ := hi
  by_cases hlt : i < fits.length
  · obtain ⟨x, hx⟩ := get_of_lt hlt
    obtain ⟨hA, ch, hat, B, k, rfl, hB⟩ := hf.elem hx
    have hxl := bools_len hB
    have htake : (fits.take (i + 1)).all (fun r => decide (r.length = need.length)) = ((fits.take i).all (fun r => decide (r.length = need.length)) && decide (x.length = need.length)) := by rw [List.take_add_one, hx]; simp
    by_cases h4 : x.length = need.length
    · repeat (first | ((with_reducible refine Tr.step rfl ?_); (first | ((with_reducible refine Knd.move ?_); (refine Exec.stab rfl (Stab.move rfl) rfl ?_)) | ((with_reducible refine Knd.assign ?_); (refine Exec.stab rfl (Stab.assign rfl) rfl ?_)) | ((with_reducible refine Knd.load ?_); ((refine Exec.stab rfl (Stab.loadM rfl (tysOk.get rfl) rfl (by assumption)) rfl ?_))) | ((with_reducible refine Knd.len ?_); ((refine Exec.stab rfl (Stab.len rfl (tysOk.get rfl) rfl) rfl ?_))) | ((with_reducible refine Knd.binOp ?_); (first | (refine Exec.stab rfl (Stab.addi rfl rfl (by omega)) rfl ?_) | (refine Exec.stab rfl (Stab.int rfl rfl rfl) rfl ?_))) | ((with_reducible refine Knd.indexAddr ?_); ((refine Exec.stab rfl (Stab.indexAddr rfl rfl (tysOk.get rfl) rfl (tysOk.get rfl) rfl (by omega) (by omega) (by first | rfl | assumption)) rfl ?_))))) | (with_reducible refine Tr.next ?_) | (with_reducible refine Tr.seq ?_) | (with_reducible refine Tr.region ?_) | (with_reducible refine Tr.nil ?_) | (with_reducible refine Tr.skip ?_) | (with_reducible refine Tr.block ?_) | (with_reducible refine Tr.in_normal ?_) | (refine Tr.cond_t rfl (by first | (with_reducible assumption) | (with_reducible rfl) | (with_reducible exact (not_not_intro rfl)) | omega) ?_) | (refine Tr.cond_f rfl (by first | (with_reducible assumption) | (with_reducible rfl) | (with_reducible exact (not_not_intro rfl)) | omega) ?_))
      refine Tr.again (i + 1) ⟨hlt, by rw [htake, hall]; simp [h4]⟩ (by omega) (holds_sub (by repeat (first | exact SubFr.nil | refine SubFr.cons rfl ?_)) (by repeat (first | exact DropL.refl | apply DropL.skip)))
    · have e : validF fits sup need = false := by
        have : fits.all (fun r => decide (r.length = need.length)) = false := by
          rw [← Bool.not_eq_true, List.all_eq_true]
          intro h
          have := h x (List.mem_of_getElem? hx)
          simp at this
          exact h4 this
        simp [validF, this]
      repeat (first | ((with_reducible refine Tr.step rfl ?_); (first | ((with_reducible refine Knd.move ?_); (refine Exec.stab rfl (Stab.move rfl) rfl ?_)) | ((with_reducible refine Knd.assign ?_); (refine Exec.stab rfl (Stab.assign rfl) rfl ?_)) | ((with_reducible refine Knd.load ?_); ((refine Exec.stab rfl (Stab.loadM rfl (tysOk.get rfl) rfl (by assumption)) rfl ?_))) | ((with_reducible refine Knd.len ?_); ((refine Exec.stab rfl (Stab.len rfl (tysOk.get rfl) rfl) rfl ?_))) | ((with_reducible refine Knd.binOp ?_); ((refine Exec.stab rfl (Stab.int rfl rfl rfl) rfl ?_))) | ((with_reducible refine Knd.indexAddr ?_); ((refine Exec.stab rfl (Stab.indexAddr rfl rfl (tysOk.get rfl) rfl (tysOk.get rfl) rfl (by omega) (by omega) (by first | rfl | assumption)) rfl ?_))))) | (with_reducible refine Tr.next ?_) | (with_reducible refine Tr.seq ?_) | (with_reducible refine Tr.region ?_) | (with_reducible refine Tr.nil ?_) | (with_reducible refine Tr.skip ?_) | (with_reducible refine Tr.block ?_) | (with_reducible refine Tr.ret ?_) | (with_reducible refine Tr.then_ret ?_) | (with_reducible refine Tr.in_ret ?_) | (refine Tr.cond_t rfl (by first | (with_reducible assumption) | (with_reducible rfl) | (with_reducible exact (not_not_intro rfl)) | omega) ?_))
      (refine Tr.done (by first | exact .inl rfl | exact .inr rfl) rfl (by repeat (first | exact RVs.nil | (apply RVs.cons; (exact RV.tmp rfl)))) (by first | exact Mem.le.refl _ | assumption) (by exact ⟨[], rfl⟩) ⟨rfl, ?_⟩)
      exact ⟨by rw [e]; rfl, rfl⟩
  · have e : i = fits.length := by omega
    subst e
    rw [List.take_length] at hall
    have e : validF fits sup need = (rngF sup && rngF need) := by
      unfold validF
      rw [decide_eq_true (show sup.length ≤ 64 by omega), decide_eq_true (show need.length ≤ 64 by omega), decide_eq_true h3, hall]; rfl
    repeat (first | ((with_reducible refine Tr.step rfl ?_); (first | ((with_reducible refine Knd.move ?_); (refine Exec.stab rfl (Stab.move rfl) rfl ?_)) | ((with_reducible refine Knd.binOp ?_); ((refine Exec.stab rfl (Stab.int rfl rfl rfl) rfl ?_))))) | (with_reducible refine Tr.next ?_) | (with_reducible refine Tr.seq ?_) | (with_reducible refine Tr.region ?_) | (with_reducible refine Tr.nil ?_) | (with_reducible refine Tr.exit ?_) | (with_reducible refine Tr.then_exit ?_) | ((with_reducible refine Tr.in_exit ?_ ?_); (exact rfl)) | (refine Tr.cond_f rfl (by first | (with_reducible assumption) | (with_reducible rfl) | (with_reducible exact (not_not_intro rfl)) | omega) ?_))
    ((refine Tr.step rfl ?_)); refine Exec.call0 rfl (inRange_fn M A1 c1 sup hs rs) rfl ?_
    rintro _ _ _ ⟨rfl, rfl⟩
    cases hr : rngF sup
    · rw [hr] at e
      repeat (first | ((with_reducible refine Tr.step rfl ?_); (first | ((with_reducible refine Knd.move ?_); (refine Exec.stab rfl (Stab.move rfl) rfl ?_)) | ((with_reducible refine Knd.assign ?_); (refine Exec.stab rfl (Stab.assign rfl) rfl ?_)) | ((with_reducible refine Knd.pick ?_); ((refine Exec.stab rfl (Stab.pick_f rfl (by first | (with_reducible rfl) | (with_reducible assumption) | (with_reducible exact Bool.not_true) | (with_reducible exact Bool.not_false)) rfl) rfl ?_))))) | (with_reducible refine Tr.next ?_) | (with_reducible refine Tr.nil ?_) | (refine Tr.guard_s1 rfl rfl rfl (by first | (with_reducible rfl) | (with_reducible assumption) | (with_reducible exact Bool.not_true) | (with_reducible exact Bool.not_false)) rfl rfl ?_) | (with_reducible refine Tr.ret ?_))
      (refine Tr.done (by first | exact .inl rfl | exact .inr rfl) rfl (by repeat (first | exact RVs.nil | (apply RVs.cons; (exact RV.tmp rfl)))) (by first | exact Mem.le.refl _ | assumption) (by exact ⟨[], rfl⟩) ⟨rfl, ?_⟩)
      exact ⟨by rw [e]; rfl, rfl⟩
    · rw [hr] at e
      repeat (first | ((with_reducible refine Tr.step rfl ?_); (((with_reducible refine Knd.move ?_); (refine Exec.stab rfl (Stab.move rfl) rfl ?_)))) | ((refine Tr.guard_l rfl rfl rfl (by first | (with_reducible rfl) | (with_reducible assumption) | (with_reducible exact Bool.not_true) | (with_reducible exact Bool.not_false)) ?_); (((with_reducible refine Knd.move ?_); (refine Exec.stab rfl (Stab.move rfl) rfl ?_)))))
      ((refine Tr.guard_l rfl rfl rfl (by first | (with_reducible rfl) | (with_reducible assumption) | (with_reducible exact Bool.not_true) | (with_reducible exact Bool.not_false)) ?_)); refine Exec.call0 rfl (inRange_fn M A2 c2 need hn rn) rfl ?_
      rintro _ _ _ ⟨rfl, rfl⟩
      repeat (first | ((with_reducible refine Tr.step rfl ?_); (first | ((with_reducible refine Knd.assign ?_); (refine Exec.stab rfl (Stab.assign rfl) rfl ?_)) | ((with_reducible refine Knd.pick ?_); ((refine Exec.stab rfl (Stab.pick_t rfl (by first | (with_reducible rfl) | (with_reducible assumption) | (with_reducible exact Bool.not_true) | (with_reducible exact Bool.not_false)) rfl) rfl ?_))))) | (with_reducible refine Tr.next ?_) | (with_reducible refine Tr.nil ?_) | (with_reducible refine Tr.ret ?_))
      (refine Tr.done (by first | exact .inl rfl | exact .inr rfl) rfl (by repeat (first | exact RVs.nil | (apply RVs.cons; (exact RV.tmp rfl)))) (by first | exact Mem.le.refl _ | assumption) (by exact ⟨[], rfl⟩) ⟨rfl, ?_⟩)
      exact ⟨by rw [e]; rfl, rfl⟩
set_option maxHeartbeats 4000000 in
theorem rValid_fn (M : Mem) (A0 A1 A2 : Option Addr) (c0 c1 c2 : Nat) (fits : List (List Bool)) (sup need : List Int) (hf : Fits2 M (.slice A0 fits.length c0) fits) (hs : Ints M (.slice A1 sup.length c1) sup) (hn : Ints M (.slice A2 need.length c2) need) :
    Fn0 Try.prog 26 [.slice A0 fits.length c0, .slice A1 sup.length c1, .slice A2 need.length c2] M (fun r M' => r = .bool (validF fits sup need) ∧ M = M') := by
  have l0 := hf.len_le
  have l1 := hs.len_le
  have l2 := hn.len_le
  refine Fn.intro Try.func26 rfl rfl Try.ntmps26 rfl fun E F => ?_
  by_cases h1 : 64 < sup.length
  · have e : validF fits sup need = false := by simp [validF]; omega
    repeat (first | ((with_reducible refine Tr.step rfl ?_); (first | ((with_reducible refine Knd.move ?_); (refine Exec.stab rfl (Stab.move rfl) rfl ?_)) | ((with_reducible refine Knd.assign ?_); (refine Exec.stab rfl (Stab.assign rfl) rfl ?_)) | ((with_reducible refine Knd.len ?_); ((refine Exec.stab rfl (Stab.len rfl (tysOk.get rfl) rfl) rfl ?_))) | ((with_reducible refine Knd.binOp ?_); ((refine Exec.stab rfl (Stab.int rfl rfl rfl) rfl ?_))) | ((with_reducible refine Knd.pick ?_); (first | (refine Exec.stab rfl (Stab.pick_t rfl (by first | (with_reducible rfl) | (with_reducible assumption) | (with_reducible exact Bool.not_true) | (with_reducible exact Bool.not_false)) rfl) rfl ?_) | (refine Exec.stab rfl (Stab.pick_td rfl (by first | (with_reducible assumption) | (with_reducible rfl) | (with_reducible exact (not_not_intro rfl)) | omega) rfl) rfl ?_))))) | (with_reducible refine Tr.next ?_) | (with_reducible refine Tr.seq ?_) | (with_reducible refine Tr.region ?_) | (with_reducible refine Tr.nil ?_) | (refine Tr.guard_s0 rfl rfl rfl (by first | (with_reducible rfl) | (with_reducible assumption) | (with_reducible exact Bool.not_true) | (with_reducible exact Bool.not_false)) rfl rfl ?_) | (refine Tr.guard_n' rfl rfl rfl (by first | (with_reducible assumption) | (with_reducible rfl) | (with_reducible exact (not_not_intro rfl)) | omega) rfl rfl ?_) | (with_reducible refine Tr.ret ?_) | (with_reducible refine Tr.then_ret ?_) | (refine Tr.cond_bt rfl (by first | (with_reducible rfl) | (with_reducible assumption) | (with_reducible exact Bool.not_true) | (with_reducible exact Bool.not_false)) ?_))
    (refine Tr.done (by first | exact .inl rfl | exact .inr rfl) rfl (by repeat (first | exact RVs.nil | (apply RVs.cons; (exact RV.tmp rfl)))) (by first | exact Mem.le.refl _ | assumption) (by exact ⟨[], rfl⟩) ⟨rfl, ?_⟩)
    exact ⟨by rw [e]; rfl, rfl⟩
  by_cases h2 : 64 < need.length
  · have e : validF fits sup need = false := by simp [validF]; omega
    repeat (first | ((with_reducible refine Tr.step rfl ?_); (first | ((with_reducible refine Knd.move ?_); (refine Exec.stab rfl (Stab.move rfl) rfl ?_)) | ((with_reducible refine Knd.assign ?_); (refine Exec.stab rfl (Stab.assign rfl) rfl ?_)) | ((with_reducible refine Knd.len ?_); ((refine Exec.stab rfl (Stab.len rfl (tysOk.get rfl) rfl) rfl ?_))) | ((with_reducible refine Knd.binOp ?_); ((refine Exec.stab rfl (Stab.int rfl rfl rfl) rfl ?_))) | ((with_reducible refine Knd.pick ?_); (first | (refine Exec.stab rfl (Stab.pick_t rfl (by first | (with_reducible rfl) | (with_reducible assumption) | (with_reducible exact Bool.not_true) | (with_reducible exact Bool.not_false)) rfl) rfl ?_) | (refine Exec.stab rfl (Stab.pick_td rfl (by first | (with_reducible assumption) | (with_reducible rfl) | (with_reducible exact (not_not_intro rfl)) | omega) rfl) rfl ?_) | (refine Exec.stab rfl (Stab.pick_fd rfl (by first | (with_reducible assumption) | (with_reducible rfl) | (with_reducible exact (not_not_intro rfl)) | omega) rfl) rfl ?_))))) | (with_reducible refine Tr.next ?_) | (with_reducible refine Tr.seq ?_) | (with_reducible refine Tr.region ?_) | (with_reducible refine Tr.nil ?_) | (refine Tr.guard_s0 rfl rfl rfl (by first | (with_reducible rfl) | (with_reducible assumption) | (with_reducible exact Bool.not_true) | (with_reducible exact Bool.not_false)) rfl rfl ?_) | ((refine Tr.guard_y' rfl rfl rfl (by first | (with_reducible assumption) | (with_reducible rfl) | (with_reducible exact (not_not_intro rfl)) | omega) ?_); (first | ((with_reducible refine Knd.move ?_); (refine Exec.stab rfl (Stab.move rfl) rfl ?_)) | ((with_reducible refine Knd.len ?_); ((refine Exec.stab rfl (Stab.len rfl (tysOk.get rfl) rfl) rfl ?_))) | ((with_reducible refine Knd.binOp ?_); ((refine Exec.stab rfl (Stab.int rfl rfl rfl) rfl ?_))))) | (refine Tr.guard_n' rfl rfl rfl (by first | (with_reducible assumption) | (with_reducible rfl) | (with_reducible exact (not_not_intro rfl)) | omega) rfl rfl ?_) | (with_reducible refine Tr.ret ?_) | (with_reducible refine Tr.then_ret ?_) | (refine Tr.cond_bt rfl (by first | (with_reducible rfl) | (with_reducible assumption) | (with_reducible exact Bool.not_true) | (with_reducible exact Bool.not_false)) ?_))
    (refine Tr.done (by first | exact .inl rfl | exact .inr rfl) rfl (by repeat (first | exact RVs.nil | (apply RVs.cons; (exact RV.tmp rfl)))) (by first | exact Mem.le.refl _ | assumption) (by exact ⟨[], rfl⟩) ⟨rfl, ?_⟩)
    exact ⟨by rw [e]; rfl, rfl⟩
  by_cases h3 : fits.length = sup.length
  rotate_left
  · have e : validF fits sup need = false := by simp [validF, h3]
    repeat (first | ((with_reducible refine Tr.step rfl ?_); (first | ((with_reducible refine Knd.move ?_); (refine Exec.stab rfl (Stab.move rfl) rfl ?_)) | ((with_reducible refine Knd.assign ?_); (refine Exec.stab rfl (Stab.assign rfl) rfl ?_)) | ((with_reducible refine Knd.len ?_); ((refine Exec.stab rfl (Stab.len rfl (tysOk.get rfl) rfl) rfl ?_))) | ((with_reducible refine Knd.binOp ?_); ((refine Exec.stab rfl (Stab.int rfl rfl rfl) rfl ?_))) | ((with_reducible refine Knd.pick ?_); (first | (refine Exec.stab rfl (Stab.pick_t rfl (by first | (with_reducible rfl) | (with_reducible assumption) | (with_reducible exact Bool.not_true) | (with_reducible exact Bool.not_false)) rfl) rfl ?_) | (refine Exec.stab rfl (Stab.pick_td rfl (by first | (with_reducible assumption) | (with_reducible rfl) | (with_reducible exact (not_not_intro rfl)) | omega) rfl) rfl ?_) | (refine Exec.stab rfl (Stab.pick_fd rfl (by first | (with_reducible assumption) | (with_reducible rfl) | (with_reducible exact (not_not_intro rfl)) | omega) rfl) rfl ?_))))) | (with_reducible refine Tr.next ?_) | (with_reducible refine Tr.seq ?_) | (with_reducible refine Tr.region ?_) | (with_reducible refine Tr.nil ?_) | (refine Tr.guard_s0 rfl rfl rfl (by first | (with_reducible rfl) | (with_reducible assumption) | (with_reducible exact Bool.not_true) | (with_reducible exact Bool.not_false)) rfl rfl ?_) | ((refine Tr.guard_y' rfl rfl rfl (by first | (with_reducible assumption) | (with_reducible rfl) | (with_reducible exact (not_not_intro rfl)) | omega) ?_); (first | ((with_reducible refine Knd.move ?_); (refine Exec.stab rfl (Stab.move rfl) rfl ?_)) | ((with_reducible refine Knd.len ?_); ((refine Exec.stab rfl (Stab.len rfl (tysOk.get rfl) rfl) rfl ?_))) | ((with_reducible refine Knd.binOp ?_); ((refine Exec.stab rfl (Stab.int rfl rfl rfl) rfl ?_))))) | (refine Tr.guard_n' rfl rfl rfl (by first | (with_reducible assumption) | (with_reducible rfl) | (with_reducible exact (not_not_intro rfl)) | omega) rfl rfl ?_) | (with_reducible refine Tr.ret ?_) | (with_reducible refine Tr.then_ret ?_) | (refine Tr.cond_bt rfl (by first | (with_reducible rfl) | (with_reducible assumption) | (with_reducible exact Bool.not_true) | (with_reducible exact Bool.not_false)) ?_))
    (refine Tr.done (by first | exact .inl rfl | exact .inr rfl) rfl (by repeat (first | exact RVs.nil | (apply RVs.cons; (exact RV.tmp rfl)))) (by first | exact Mem.le.refl _ | assumption) (by exact ⟨[], rfl⟩) ⟨rfl, ?_⟩)
    exact ⟨by rw [e]; rfl, rfl⟩
  repeat (first | ((with_reducible refine Tr.step rfl ?_); (first | ((with_reducible refine Knd.move ?_); (refine Exec.stab rfl (Stab.move rfl) rfl ?_)) | ((with_reducible refine Knd.assign ?_); (refine Exec.stab rfl (Stab.assign rfl) rfl ?_)) | ((with_reducible refine Knd.len ?_); ((refine Exec.stab rfl (Stab.len rfl (tysOk.get rfl) rfl) rfl ?_))) | ((with_reducible refine Knd.binOp ?_); ((refine Exec.stab rfl (Stab.int rfl rfl rfl) rfl ?_))) | ((with_reducible refine Knd.pick ?_); ((refine Exec.stab rfl (Stab.pick_fd rfl (by first | (with_reducible assumption) | (with_reducible rfl) | (with_reducible exact (not_not_intro rfl)) | omega) rfl) rfl ?_))))) | (with_reducible refine Tr.next ?_) | (with_reducible refine Tr.seq ?_) | (with_reducible refine Tr.region ?_) | (with_reducible refine Tr.nil ?_) | ((refine Tr.guard_y' rfl rfl rfl (by first | (with_reducible assumption) | (with_reducible rfl) | (with_reducible exact (not_not_intro rfl)) | omega) ?_); (first | ((with_reducible refine Knd.move ?_); (refine Exec.stab rfl (Stab.move rfl) rfl ?_)) | ((with_reducible refine Knd.len ?_); ((refine Exec.stab rfl (Stab.len rfl (tysOk.get rfl) rfl) rfl ?_))) | ((with_reducible refine Knd.binOp ?_); ((refine Exec.stab rfl (Stab.int rfl rfl rfl) rfl ?_))))))
  ((refine Tr.guard_y' rfl rfl rfl (by first | (with_reducible assumption) | (with_reducible rfl) | (with_reducible exact (not_not_intro rfl)) | omega) ?_)); refine Exec.call0 rfl (rInRange_fn M A1 c1 sup hs) rfl ?_
  rintro _ _ _ ⟨rfl, rfl⟩
  cases hr1 : rngF sup
  · have e : validF fits sup need = false := by simp [validF, hr1]
    repeat (first | ((with_reducible refine Tr.step rfl ?_); (first | ((with_reducible refine Knd.move ?_); (refine Exec.stab rfl (Stab.move rfl) rfl ?_)) | ((with_reducible refine Knd.assign ?_); (refine Exec.stab rfl (Stab.assign rfl) rfl ?_)) | ((with_reducible refine Knd.pick ?_); (first | (refine Exec.stab rfl (Stab.pick_t rfl (by first | (with_reducible rfl) | (with_reducible assumption) | (with_reducible exact Bool.not_true) | (with_reducible exact Bool.not_false)) rfl) rfl ?_) | (refine Exec.stab rfl (Stab.pick_fd rfl (by first | (with_reducible assumption) | (with_reducible rfl) | (with_reducible exact (not_not_intro rfl)) | omega) rfl) rfl ?_))))) | (with_reducible refine Tr.next ?_) | (with_reducible refine Tr.seq ?_) | (with_reducible refine Tr.region ?_) | (with_reducible refine Tr.nil ?_) | (refine Tr.guard_s0 rfl rfl rfl (by first | (with_reducible rfl) | (with_reducible assumption) | (with_reducible exact Bool.not_true) | (with_reducible exact Bool.not_false)) rfl rfl ?_) | ((refine Tr.guard_y' rfl rfl rfl (by first | (with_reducible assumption) | (with_reducible rfl) | (with_reducible exact (not_not_intro rfl)) | omega) ?_); (((with_reducible refine Knd.unOp ?_); ((refine Exec.stab rfl (Stab.not rfl) rfl ?_))))) | (with_reducible refine Tr.ret ?_) | (with_reducible refine Tr.then_ret ?_) | (refine Tr.cond_bt rfl (by first | (with_reducible rfl) | (with_reducible assumption) | (with_reducible exact Bool.not_true) | (with_reducible exact Bool.not_false)) ?_))
    (refine Tr.done (by first | exact .inl rfl | exact .inr rfl) rfl (by repeat (first | exact RVs.nil | (apply RVs.cons; (exact RV.tmp rfl)))) (by first | exact Mem.le.refl _ | assumption) (by exact ⟨[], rfl⟩) ⟨rfl, ?_⟩)
    exact ⟨by rw [e]; rfl, rfl⟩
  repeat (first | ((with_reducible refine Tr.step rfl ?_); (first | ((with_reducible refine Knd.move ?_); (refine Exec.stab rfl (Stab.move rfl) rfl ?_)) | ((with_reducible refine Knd.pick ?_); ((refine Exec.stab rfl (Stab.pick_fd rfl (by first | (with_reducible assumption) | (with_reducible rfl) | (with_reducible exact (not_not_intro rfl)) | omega) rfl) rfl ?_))))) | ((refine Tr.guard_l rfl rfl rfl (by first | (with_reducible rfl) | (with_reducible assumption) | (with_reducible exact Bool.not_true) | (with_reducible exact Bool.not_false)) ?_); (((with_reducible refine Knd.move ?_); (refine Exec.stab rfl (Stab.move rfl) rfl ?_)))) | ((refine Tr.guard_y' rfl rfl rfl (by first | (with_reducible assumption) | (with_reducible rfl) | (with_reducible exact (not_not_intro rfl)) | omega) ?_); (((with_reducible refine Knd.unOp ?_); ((refine Exec.stab rfl (Stab.not rfl) rfl ?_))))))
  ((refine Tr.guard_l rfl rfl rfl (by first | (with_reducible rfl) | (with_reducible assumption) | (with_reducible exact Bool.not_true) | (with_reducible exact Bool.not_false)) ?_)); refine Exec.call0 rfl (rInRange_fn M A2 c2 need hn) rfl ?_
  rintro _ _ _ ⟨rfl, rfl⟩
  cases hr2 : rngF need
  · have e : validF fits sup need = false := by simp [validF, hr2]
    repeat (first | ((with_reducible refine Tr.step rfl ?_); (first | ((with_reducible refine Knd.assign ?_); (refine Exec.stab rfl (Stab.assign rfl) rfl ?_)) | ((with_reducible refine Knd.pick ?_); ((refine Exec.stab rfl (Stab.pick_f rfl (by first | (with_reducible rfl) | (with_reducible assumption) | (with_reducible exact Bool.not_true) | (with_reducible exact Bool.not_false)) rfl) rfl ?_))))) | (with_reducible refine Tr.next ?_) | (with_reducible refine Tr.seq ?_) | (with_reducible refine Tr.region ?_) | (with_reducible refine Tr.nil ?_) | ((refine Tr.guard_l rfl rfl rfl (by first | (with_reducible rfl) | (with_reducible assumption) | (with_reducible exact Bool.not_true) | (with_reducible exact Bool.not_false)) ?_); (((with_reducible refine Knd.unOp ?_); ((refine Exec.stab rfl (Stab.not rfl) rfl ?_))))) | (with_reducible refine Tr.ret ?_) | (with_reducible refine Tr.then_ret ?_) | (refine Tr.cond_bt rfl (by first | (with_reducible rfl) | (with_reducible assumption) | (with_reducible exact Bool.not_true) | (with_reducible exact Bool.not_false)) ?_))
    (refine Tr.done (by first | exact .inl rfl | exact .inr rfl) rfl (by repeat (first | exact RVs.nil | (apply RVs.cons; (exact RV.tmp rfl)))) (by first | exact Mem.le.refl _ | assumption) (by exact ⟨[], rfl⟩) ⟨rfl, ?_⟩)
    exact ⟨by rw [e]; rfl, rfl⟩
  repeat (first | ((with_reducible refine Tr.step rfl ?_); (first | ((with_reducible refine Knd.assign ?_); (refine Exec.stab rfl (Stab.assign rfl) rfl ?_)) | ((with_reducible refine Knd.pick ?_); ((refine Exec.stab rfl (Stab.pick_f rfl (by first | (with_reducible rfl) | (with_reducible assumption) | (with_reducible exact Bool.not_true) | (with_reducible exact Bool.not_false)) rfl) rfl ?_))))) | (with_reducible refine Tr.next ?_) | (with_reducible refine Tr.seq ?_) | (with_reducible refine Tr.region ?_) | (with_reducible refine Tr.nil ?_) | ((refine Tr.guard_l rfl rfl rfl (by first | (with_reducible rfl) | (with_reducible assumption) | (with_reducible exact Bool.not_true) | (with_reducible exact Bool.not_false)) ?_); (((with_reducible refine Knd.unOp ?_); ((refine Exec.stab rfl (Stab.not rfl) rfl ?_))))) | (with_reducible refine Tr.skip ?_) | (with_reducible refine Tr.block ?_) | (refine Tr.cond_bf rfl (by first | (with_reducible rfl) | (with_reducible assumption) | (with_reducible exact Bool.not_true) | (with_reducible exact Bool.not_false)) ?_))
  refine Tr.loop (α := Nat) (fun i => ⟨47, [(7, .int .i64 i), (0, .slice A0 fits.length c0), (2, .slice A2 need.length c2)], [], M, [] ++ F⟩) (fun i => i ≤ fits.length ∧ (fits.take i).all (fun r => decide (r.length = need.length)) = true) (fun i => fits.length - i) 0 ⟨by simp, by simp⟩ (holds_sub (by repeat (first | exact SubFr.nil | refine SubFr.cons rfl ?_)) (by repeat (first | exact DropL.refl | apply DropL.skip))) (fun i hi => ?_)
  obtain ⟨hi, hall⟩ := hi
  by_cases hlt : i < fits.length
  · obtain ⟨x, hx⟩ := get_of_lt hlt
    obtain ⟨hA, ch, hat, B, k, rfl, hB⟩ := hf.elem hx
    have hxl := bools_len hB
    have htake : (fits.take (i + 1)).all (fun r => decide (r.length = need.length)) = ((fits.take i).all (fun r => decide (r.length = need.length)) && decide (x.length = need.length)) := by rw [List.take_add_one, hx]; simp
    by_cases h4 : x.length = need.length
    · repeat (first | ((with_reducible refine Tr.step rfl ?_); (first | ((with_reducible refine Knd.move ?_); (refine Exec.stab rfl (Stab.move rfl) rfl ?_)) | ((with_reducible refine Knd.assign ?_); (refine Exec.stab rfl (Stab.assign rfl) rfl ?_)) | ((with_reducible refine Knd.load ?_); ((refine Exec.stab rfl (Stab.loadM rfl (tysOk.get rfl) rfl (by assumption)) rfl ?_))) | ((with_reducible refine Knd.len ?_); ((refine Exec.stab rfl (Stab.len rfl (tysOk.get rfl) rfl) rfl ?_))) | ((with_reducible refine Knd.binOp ?_); (first | (refine Exec.stab rfl (Stab.addi rfl rfl (by omega)) rfl ?_) | (refine Exec.stab rfl (Stab.int rfl rfl rfl) rfl ?_))) | ((with_reducible refine Knd.indexAddr ?_); ((refine Exec.stab rfl (Stab.indexAddr rfl rfl (tysOk.get rfl) rfl (tysOk.get rfl) rfl (by omega) (by omega) (by first | rfl | assumption)) rfl ?_))))) | (with_reducible refine Tr.next ?_) | (with_reducible refine Tr.seq ?_) | (with_reducible refine Tr.region ?_) | (with_reducible refine Tr.nil ?_) | (with_reducible refine Tr.skip ?_) | (with_reducible refine Tr.block ?_) | (with_reducible refine Tr.in_normal ?_) | (refine Tr.cond_t rfl (by first | (with_reducible assumption) | (with_reducible rfl) | (with_reducible exact (not_not_intro rfl)) | omega) ?_) | (refine Tr.cond_f rfl (by first | (with_reducible assumption) | (with_reducible rfl) | (with_reducible exact (not_not_intro rfl)) | omega) ?_))
      refine Tr.again (i + 1) ⟨hlt, by rw [htake, hall]; simp [h4]⟩ (by omega) (holds_sub (by repeat (first | exact SubFr.nil | refine SubFr.cons rfl ?_)) (by repeat (first | exact DropL.refl | apply DropL.skip)))
    · have e : validF fits sup need = false := by
        have : fits.all (fun r => decide (r.length = need.length)) = false := by
          rw [← Bool.not_eq_true, List.all_eq_true]
          intro h
          have := h x (List.mem_of_getElem? hx)
          simp at this
          exact h4 this
        simp [validF, this]
      repeat (first | ((with_reducible refine Tr.step rfl ?_); (first | ((with_reducible refine Knd.move ?_); (refine Exec.stab rfl (Stab.move rfl) rfl ?_)) | ((with_reducible refine Knd.assign ?_); (refine Exec.stab rfl (Stab.assign rfl) rfl ?_)) | ((with_reducible refine Knd.load ?_); ((refine Exec.stab rfl (Stab.loadM rfl (tysOk.get rfl) rfl (by assumption)) rfl ?_))) | ((with_reducible refine Knd.len ?_); ((refine Exec.stab rfl (Stab.len rfl (tysOk.get rfl) rfl) rfl ?_))) | ((with_reducible refine Knd.binOp ?_); ((refine Exec.stab rfl (Stab.int rfl rfl rfl) rfl ?_))) | ((with_reducible refine Knd.indexAddr ?_); ((refine Exec.stab rfl (Stab.indexAddr rfl rfl (tysOk.get rfl) rfl (tysOk.get rfl) rfl (by omega) (by omega) (by first | rfl | assumption)) rfl ?_))))) | (with_reducible refine Tr.next ?_) | (with_reducible refine Tr.seq ?_) | (with_reducible refine Tr.region ?_) | (with_reducible refine Tr.nil ?_) | (with_reducible refine Tr.skip ?_) | (with_reducible refine Tr.block ?_) | (with_reducible refine Tr.ret ?_) | (with_reducible refine Tr.then_ret ?_) | (with_reducible refine Tr.in_ret ?_) | (refine Tr.cond_t rfl (by first | (with_reducible assumption) | (with_reducible rfl) | (with_reducible exact (not_not_intro rfl)) | omega) ?_))
      (refine Tr.done (by first | exact .inl rfl | exact .inr rfl) rfl (by repeat (first | exact RVs.nil | (apply RVs.cons; (exact RV.tmp rfl)))) (by first | exact Mem.le.refl _ | assumption) (by exact ⟨[], rfl⟩) ⟨rfl, ?_⟩)
      exact ⟨by rw [e]; rfl, rfl⟩
  · have e : i = fits.length := by omega
    subst e
    rw [List.take_length] at hall
    have e : validF fits sup need = true := by simp [validF, hall, hr1, hr2]; omega
    repeat (first | ((with_reducible refine Tr.step rfl ?_); (first | ((with_reducible refine Knd.move ?_); (refine Exec.stab rfl (Stab.move rfl) rfl ?_)) | ((with_reducible refine Knd.assign ?_); (refine Exec.stab rfl (Stab.assign rfl) rfl ?_)) | ((with_reducible refine Knd.len ?_); ((refine Exec.stab rfl (Stab.len rfl (tysOk.get rfl) rfl) rfl ?_))) | ((with_reducible refine Knd.binOp ?_); ((refine Exec.stab rfl (Stab.int rfl rfl rfl) rfl ?_))))) | (with_reducible refine Tr.next ?_) | (with_reducible refine Tr.seq ?_) | (with_reducible refine Tr.region ?_) | (with_reducible refine Tr.nil ?_) | (with_reducible refine Tr.exit ?_) | (with_reducible refine Tr.ret ?_) | (with_reducible refine Tr.then_exit ?_) | ((with_reducible refine Tr.in_exit ?_ ?_); (exact rfl)) | (refine Tr.cond_f rfl (by first | (with_reducible assumption) | (with_reducible rfl) | (with_reducible exact (not_not_intro rfl)) | omega) ?_))
    (refine Tr.done (by first | exact .inl rfl | exact .inr rfl) rfl (by repeat (first | exact RVs.nil | (apply RVs.cons; (exact RV.tmp rfl)))) (by first | exact Mem.le.refl _ | assumption) (by exact ⟨[], rfl⟩) ⟨rfl, ?_⟩)
    exact ⟨by rw [e]; rfl, rfl⟩
/-- sums that stay small -/
def Small (l : List Int) : Prop := l.length ≤ 100 ∧ ∀ x ∈ l, -1000000000 ≤ x ∧ x ≤ 1000000000
theorem Small.take {l : List Int} (h : Small l) (i : Nat) : -100000000000 ≤ (l.take i).sum ∧ (l.take i).sum ≤ 100000000000 := by
  have : ∀ l : List Int, (∀ x ∈ l, -1000000000 ≤ x ∧ x ≤ 1000000000) → -1000000000 * (l.length : Int) ≤ l.sum ∧ l.sum ≤ 1000000000 * (l.length : Int) := by
    intro l
    induction l with
    | nil => intro _; simp
    | cons x l ih =>
      intro h
      have h1 := h x (by simp)
      have h2 := ih fun y hy => h y (by simp [hy])
      simp only [List.sum_cons, List.length_cons]
      omega
  have h1 := this (l.take i) fun x hx => h.2 x (List.mem_of_mem_take hx)
  have h2 : (l.take i).length ≤ l.length := by simp; omega
  have := h.1
  omega
set_option maxHeartbeats 2000000 in
theorem sum_fn (M : Mem) (Own : List Res) (A : Option Addr) (c : Nat) (l : List Int) (hc : l.length ≤ c) (hA : l ≠ [] → A.isSome = true) (hl : Src M Own A l.length (intV l)) (hs : Small l) :
    Bf.Fn Try.prog 24 [.slice A l.length c] M Own (fun r M' A' => r = .int .i64 l.sum ∧ M = M' ∧ A' = Own) := by
  have hs100 := hs.1
  refine Fn.intro Try.func24 rfl rfl Try.ntmps24 rfl fun E F => ?_
  repeat (first | ((with_reducible refine Tr.step rfl ?_); (first | ((with_reducible refine Knd.move ?_); (refine Exec.stab rfl (Stab.move rfl) rfl ?_)) | ((with_reducible refine Knd.assign ?_); (refine Exec.stab rfl (Stab.assign rfl) rfl ?_)) | ((with_reducible refine Knd.len ?_); ((refine Exec.stab rfl (Stab.len rfl (tysOk.get rfl) rfl) rfl ?_))))) | (with_reducible refine Tr.next ?_) | (with_reducible refine Tr.seq ?_) | (with_reducible refine Tr.region ?_) | (with_reducible refine Tr.nil ?_) | (with_reducible refine Tr.block ?_))
  refine Tr.loop (α := Nat) (fun i => ⟨16, [(7, .int .i64 i), (6, .int .i64 l.length), (5, .slice A l.length c), (2, .int .i64 (l.take i).sum)], [], M, Own ++ F⟩) (fun i => i ≤ l.length) (fun i => l.length - i) 0 (by simp) (holds_sub (by repeat (first | exact SubFr.nil | refine SubFr.cons rfl ?_)) (by repeat (first | exact DropL.refl | apply DropL.skip))) (fun i hi => ?_)
  by_cases hlt : i < l.length
  · obtain ⟨x, hx⟩ := get_of_lt hlt
    have hA' := hA (by intro h; subst h; simp at hlt)
    obtain ⟨a, rfl⟩ := Option.isSome_iff_exists.1 hA'
    have hcell : Cell M Own (((some a).getD default).add ((i : Int).toNat * 1)) (.int .i64 x) := by
      have h := Src.at hl (by omega) (intV_get hx)
      have e : (i : Int).toNat * 1 = i := by simp
      show Cell M Own (a.add _) _
      rw [e]; exact h
    have b1 := hs.take i
    have b2 := hs.take (i + 1)
    have e : (l.take (i + 1)).sum = (l.take i).sum + x := by rw [List.take_add_one, hx]; simp
    rw [e] at b2
    repeat (first | ((with_reducible refine Tr.step rfl ?_); (first | ((with_reducible refine Knd.move ?_); (refine Exec.stab rfl (Stab.move rfl) rfl ?_)) | ((with_reducible refine Knd.assign ?_); (refine Exec.stab rfl (Stab.assign rfl) rfl ?_)) | ((with_reducible refine Knd.load ?_); ((refine Exec.stab rfl (Stab.loadC rfl (tysOk.get rfl) rfl (by assumption) (by exact fun _ h => List.mem_append_left _ h)) rfl ?_))) | ((with_reducible refine Knd.binOp ?_); (first | (refine Exec.stab rfl (Stab.addi rfl rfl (by omega)) rfl ?_) | (refine Exec.stab rfl (Stab.int rfl rfl rfl) rfl ?_))) | ((with_reducible refine Knd.indexAddr ?_); ((refine Exec.stab rfl (Stab.indexAddr rfl rfl (tysOk.get rfl) rfl (tysOk.get rfl) rfl (by omega) (by omega) (by first | rfl | assumption)) rfl ?_))))) | (with_reducible refine Tr.next ?_) | (with_reducible refine Tr.seq ?_) | (with_reducible refine Tr.region ?_) | (with_reducible refine Tr.nil ?_) | (with_reducible refine Tr.skip ?_) | (with_reducible refine Tr.block ?_) | (with_reducible refine Tr.in_normal ?_) | (refine Tr.cond_t rfl (by first | (with_reducible assumption) | (with_reducible rfl) | (with_reducible exact (not_not_intro rfl)) | omega) ?_))
    rw [← e]
    refine Tr.again (i + 1) hlt (by omega) (holds_sub (by repeat (first | exact SubFr.nil | refine SubFr.cons rfl ?_)) (by repeat (first | exact DropL.refl | apply DropL.skip)))
  · have e : i = l.length := by omega
    subst e
    rw [List.take_length]
    repeat (first | ((with_reducible refine Tr.step rfl ?_); (first | ((with_reducible refine Knd.move ?_); (refine Exec.stab rfl (Stab.move rfl) rfl ?_)) | ((with_reducible refine Knd.assign ?_); (refine Exec.stab rfl (Stab.assign rfl) rfl ?_)) | ((with_reducible refine Knd.binOp ?_); ((refine Exec.stab rfl (Stab.int rfl rfl rfl) rfl ?_))))) | (with_reducible refine Tr.next ?_) | (with_reducible refine Tr.seq ?_) | (with_reducible refine Tr.region ?_) | (with_reducible refine Tr.nil ?_) | (with_reducible refine Tr.exit ?_) | (with_reducible refine Tr.ret ?_) | (with_reducible refine Tr.then_exit ?_) | ((with_reducible refine Tr.in_exit ?_ ?_); (exact rfl)) | (refine Tr.cond_f rfl (by first | (with_reducible assumption) | (with_reducible rfl) | (with_reducible exact (not_not_intro rfl)) | omega) ?_))
    refine Tr.doneA (A' := Own) (by first | exact .inl rfl | exact .inr rfl) rfl (by repeat (first | exact RVs.nil | (apply RVs.cons; (exact RV.tmp rfl)))) (Mem.le.refl _) ⟨fun _ h => h, fun h => h⟩ ⟨rfl, rfl, rfl⟩
end Go.Proofs.Ytmioocddmlfboaa
/-
  Matching: the contracts of the reference's has, touches, Lack, members and Possible.
  Conditions: none.
-/
namespace Go.Proofs.Ytmioocddmlfboaa
open Go Bf
attribute [local irreducible] Tr Exec Stab HasTy Go.Addr.add IntKind.wrap
/-- is a request in a set? -/
theorem testBit_and (s r : Nat) : s.testBit r = decide (((s >>> r &&& 1 : Nat) : Int) = 1) := by
  rw [Nat.testBit, Nat.and_comm]
  rcases Nat.mod_two_eq_zero_or_one (s >>> r) with h | h <;> rw [Nat.and_one_is_mod, h] <;> rfl
set_option maxHeartbeats 1000000 in
theorem has_fn (M : Mem) (s r : Nat) (hs : s < 9223372036854775808) (hr : r ≤ 64) : Fn0 Try.prog 39 [.int .i64 (s : Int), .int .i64 (r : Int)] M (fun v M' => v = .bool (s.testBit r) ∧ M = M') := by
  have h1 : (s >>> r) < 9223372036854775808 := by rw [Nat.shiftRight_eq_div_pow]; exact Nat.lt_of_le_of_lt (Nat.div_le_self _ _) hs
  refine Fn.intro Try.func39 rfl rfl Try.ntmps39 rfl fun E F => ?_
  repeat (first | ((with_reducible refine Tr.step rfl ?_); (first | ((with_reducible refine Knd.move ?_); (refine Exec.stab rfl (Stab.move rfl) rfl ?_)) | ((with_reducible refine Knd.assign ?_); (refine Exec.stab rfl (Stab.assign rfl) rfl ?_)) | ((with_reducible refine Knd.binOp ?_); (first | (refine Exec.stab rfl (Stab.shrn rfl rfl (by omega)) rfl ?_) | (refine Exec.stab rfl (Stab.and1 rfl rfl (by omega)) rfl ?_) | (refine Exec.stab rfl (Stab.int rfl rfl rfl) rfl ?_))))) | (with_reducible refine Tr.next ?_) | (with_reducible refine Tr.seq ?_) | (with_reducible refine Tr.region ?_) | (with_reducible refine Tr.nil ?_) | (with_reducible refine Tr.ret ?_))
  (refine Tr.done (by first | exact .inl rfl | exact .inr rfl) rfl (by repeat (first | exact RVs.nil | (apply RVs.cons; (exact RV.tmp rfl)))) (by first | exact Mem.le.refl _ | assumption) (by exact ⟨[], rfl⟩) ⟨rfl, ?_⟩)
  exact ⟨by rw [testBit_and]; rfl, rfl⟩
/-- does a row fit a request of a set? -/
def touchB (row : List Bool) (s : Nat) : Bool := (List.range row.length).any fun b => s.testBit b && row.getD b false
theorem range_any_succ (f : Nat → Bool) (n : Nat) : (List.range (n + 1)).any f = ((List.range n).any f || f n) := by rw [List.range_succ, List.any_append]; simp
theorem getD_of {α : Type} {l : List α} {i : Nat} {x d : α} (h : l[i]? = some x) : l.getD i d = x := by rw [List.getD_eq_getElem?_getD, h]; rfl
set_option maxHeartbeats 2000000 in
theorem touches_fn (M : Mem) (A : Option Addr) (c : Nat) (row : List Bool) (hb : Bools M (.slice A row.length c) row) (hl : row.length ≤ 64) (s : Nat) (hs : s < 9223372036854775808) :
    Fn0 Try.prog 40 [.slice A row.length c, .int .i64 (s : Int)] M (fun v M' => v = .bool (touchB row s) ∧ M = M') := by
  have hbl := bools_len hb
  refine Fn.intro Try.func40 rfl rfl Try.ntmps40 rfl fun E F => ?_
  repeat (first | ((with_reducible refine Tr.step rfl ?_); (((with_reducible refine Knd.assign ?_); (refine Exec.stab rfl (Stab.assign rfl) rfl ?_)))) | (with_reducible refine Tr.next ?_) | (with_reducible refine Tr.seq ?_) | (with_reducible refine Tr.region ?_) | (with_reducible refine Tr.nil ?_) | (with_reducible refine Tr.block ?_))
  refine Tr.loop (α := Nat) (fun i => ⟨21, [(5, .int .i64 i), (0, .slice A row.length c), (1, .int .i64 (s : Int))], [], M, [] ++ F⟩) (fun i => i ≤ row.length ∧ (List.range i).any (fun b => s.testBit b && row.getD b false) = false) (fun i => row.length - i) 0 ⟨by simp, by simp⟩ (holds_sub (by repeat (first | exact SubFr.nil | refine SubFr.cons rfl ?_)) (by repeat (first | exact DropL.refl | apply DropL.skip))) (fun i hi => ?_)
  obtain ⟨hi, hany⟩ := hi
  by_cases hlt : i < row.length
  · obtain ⟨x, hx⟩ := get_of_lt hlt
    obtain ⟨hA, hat⟩ := hb.at hx
    have hstep := range_any_succ (fun b => s.testBit b && row.getD b false) i
    rw [getD_of hx] at hstep
    have found : s.testBit i = true → x = true → touchB row s = true := fun h1 h2 => by
      unfold touchB
      exact List.any_eq_true.2 ⟨i, List.mem_range.2 hlt, by rw [getD_of hx, h1, h2]; rfl⟩
    cases hxx : x
    · subst hxx
      repeat (first | ((with_reducible refine Tr.step rfl ?_); (first | ((with_reducible refine Knd.move ?_); (refine Exec.stab rfl (Stab.move rfl) rfl ?_)) | ((with_reducible refine Knd.assign ?_); (refine Exec.stab rfl (Stab.assign rfl) rfl ?_)) | ((with_reducible refine Knd.load ?_); ((refine Exec.stab rfl (Stab.loadM rfl (tysOk.get rfl) rfl (by assumption)) rfl ?_))) | ((with_reducible refine Knd.len ?_); ((refine Exec.stab rfl (Stab.len rfl (tysOk.get rfl) rfl) rfl ?_))) | ((with_reducible refine Knd.binOp ?_); (first | (refine Exec.stab rfl (Stab.addi rfl rfl (by omega)) rfl ?_) | (refine Exec.stab rfl (Stab.int rfl rfl rfl) rfl ?_))) | ((with_reducible refine Knd.pick ?_); ((refine Exec.stab rfl (Stab.pick_f rfl (by first | (with_reducible rfl) | (with_reducible assumption) | (with_reducible exact Bool.not_true) | (with_reducible exact Bool.not_false)) rfl) rfl ?_))) | ((with_reducible refine Knd.indexAddr ?_); ((refine Exec.stab rfl (Stab.indexAddr rfl rfl (tysOk.get rfl) rfl (tysOk.get rfl) rfl (by omega) (by omega) (by first | rfl | assumption)) rfl ?_))))) | (with_reducible refine Tr.next ?_) | (with_reducible refine Tr.seq ?_) | (with_reducible refine Tr.region ?_) | (with_reducible refine Tr.nil ?_) | (refine Tr.guard_s1 rfl rfl rfl (by first | (with_reducible rfl) | (with_reducible assumption) | (with_reducible exact Bool.not_true) | (with_reducible exact Bool.not_false)) rfl rfl ?_) | (with_reducible refine Tr.skip ?_) | (with_reducible refine Tr.block ?_) | (with_reducible refine Tr.in_normal ?_) | (refine Tr.cond_bf rfl (by first | (with_reducible rfl) | (with_reducible assumption) | (with_reducible exact Bool.not_true) | (with_reducible exact Bool.not_false)) ?_) | (refine Tr.cond_t rfl (by first | (with_reducible assumption) | (with_reducible rfl) | (with_reducible exact (not_not_intro rfl)) | omega) ?_))
      refine Tr.again (i + 1) ⟨hlt, by rw [hstep, hany]; simp⟩ (by omega) (holds_sub (by repeat (first | exact SubFr.nil | refine SubFr.cons rfl ?_)) (by repeat (first | exact DropL.refl | apply DropL.skip)))
    · subst hxx
      repeat (first | ((with_reducible refine Tr.step rfl ?_); (first | ((with_reducible refine Knd.move ?_); (refine Exec.stab rfl (Stab.move rfl) rfl ?_)) | ((with_reducible refine Knd.load ?_); ((refine Exec.stab rfl (Stab.loadM rfl (tysOk.get rfl) rfl (by assumption)) rfl ?_))) | ((with_reducible refine Knd.len ?_); ((refine Exec.stab rfl (Stab.len rfl (tysOk.get rfl) rfl) rfl ?_))) | ((with_reducible refine Knd.binOp ?_); ((refine Exec.stab rfl (Stab.int rfl rfl rfl) rfl ?_))) | ((with_reducible refine Knd.indexAddr ?_); ((refine Exec.stab rfl (Stab.indexAddr rfl rfl (tysOk.get rfl) rfl (tysOk.get rfl) rfl (by omega) (by omega) (by first | rfl | assumption)) rfl ?_))))) | (with_reducible refine Tr.next ?_) | (with_reducible refine Tr.seq ?_) | (with_reducible refine Tr.region ?_) | (with_reducible refine Tr.nil ?_) | ((refine Tr.guard_l rfl rfl rfl (by first | (with_reducible rfl) | (with_reducible assumption) | (with_reducible exact Bool.not_true) | (with_reducible exact Bool.not_false)) ?_); (((with_reducible refine Knd.move ?_); (refine Exec.stab rfl (Stab.move rfl) rfl ?_)))) | (with_reducible refine Tr.skip ?_) | (with_reducible refine Tr.block ?_) | (refine Tr.cond_t rfl (by first | (with_reducible assumption) | (with_reducible rfl) | (with_reducible exact (not_not_intro rfl)) | omega) ?_))
      ((refine Tr.guard_l rfl rfl rfl (by first | (with_reducible rfl) | (with_reducible assumption) | (with_reducible exact Bool.not_true) | (with_reducible exact Bool.not_false)) ?_)); refine Exec.call0 rfl (has_fn M s i hs (by omega)) rfl ?_
      rintro _ _ _ ⟨rfl, rfl⟩
      cases hbit : s.testBit i
      · rw [hbit] at hstep
        repeat (first | ((with_reducible refine Tr.step rfl ?_); (first | ((with_reducible refine Knd.move ?_); (refine Exec.stab rfl (Stab.move rfl) rfl ?_)) | ((with_reducible refine Knd.assign ?_); (refine Exec.stab rfl (Stab.assign rfl) rfl ?_)) | ((with_reducible refine Knd.binOp ?_); ((refine Exec.stab rfl (Stab.addi rfl rfl (by omega)) rfl ?_))) | ((with_reducible refine Knd.pick ?_); ((refine Exec.stab rfl (Stab.pick_t rfl (by first | (with_reducible rfl) | (with_reducible assumption) | (with_reducible exact Bool.not_true) | (with_reducible exact Bool.not_false)) rfl) rfl ?_))))) | (with_reducible refine Tr.next ?_) | (with_reducible refine Tr.region ?_) | (with_reducible refine Tr.nil ?_) | (with_reducible refine Tr.skip ?_) | (with_reducible refine Tr.in_normal ?_) | (refine Tr.cond_bf rfl (by first | (with_reducible rfl) | (with_reducible assumption) | (with_reducible exact Bool.not_true) | (with_reducible exact Bool.not_false)) ?_))
        refine Tr.again (i + 1) ⟨hlt, by rw [hstep, hany]; simp⟩ (by omega) (holds_sub (by repeat (first | exact SubFr.nil | refine SubFr.cons rfl ?_)) (by repeat (first | exact DropL.refl | apply DropL.skip)))
      · repeat (first | ((with_reducible refine Tr.step rfl ?_); (first | ((with_reducible refine Knd.assign ?_); (refine Exec.stab rfl (Stab.assign rfl) rfl ?_)) | ((with_reducible refine Knd.pick ?_); ((refine Exec.stab rfl (Stab.pick_t rfl (by first | (with_reducible rfl) | (with_reducible assumption) | (with_reducible exact Bool.not_true) | (with_reducible exact Bool.not_false)) rfl) rfl ?_))))) | (with_reducible refine Tr.next ?_) | (with_reducible refine Tr.seq ?_) | (with_reducible refine Tr.region ?_) | (with_reducible refine Tr.nil ?_) | (with_reducible refine Tr.ret ?_) | (with_reducible refine Tr.then_ret ?_) | (with_reducible refine Tr.in_ret ?_) | (refine Tr.cond_bt rfl (by first | (with_reducible rfl) | (with_reducible assumption) | (with_reducible exact Bool.not_true) | (with_reducible exact Bool.not_false)) ?_))
        (refine Tr.done (by first | exact .inl rfl | exact .inr rfl) rfl (by repeat (first | exact RVs.nil | (apply RVs.cons; (exact RV.tmp rfl)))) (by first | exact Mem.le.refl _ | assumption) (by exact ⟨[], rfl⟩) ⟨rfl, ?_⟩)
        exact ⟨by rw [found hbit rfl]; rfl, rfl⟩
  · have e : i = row.length := by omega
    subst e
    repeat (first | ((with_reducible refine Tr.step rfl ?_); (first | ((with_reducible refine Knd.move ?_); (refine Exec.stab rfl (Stab.move rfl) rfl ?_)) | ((with_reducible refine Knd.assign ?_); (refine Exec.stab rfl (Stab.assign rfl) rfl ?_)) | ((with_reducible refine Knd.len ?_); ((refine Exec.stab rfl (Stab.len rfl (tysOk.get rfl) rfl) rfl ?_))) | ((with_reducible refine Knd.binOp ?_); ((refine Exec.stab rfl (Stab.int rfl rfl rfl) rfl ?_))))) | (with_reducible refine Tr.next ?_) | (with_reducible refine Tr.seq ?_) | (with_reducible refine Tr.region ?_) | (with_reducible refine Tr.nil ?_) | (with_reducible refine Tr.exit ?_) | (with_reducible refine Tr.ret ?_) | (with_reducible refine Tr.then_exit ?_) | ((with_reducible refine Tr.in_exit ?_ ?_); (exact rfl)) | (refine Tr.cond_f rfl (by first | (with_reducible assumption) | (with_reducible rfl) | (with_reducible exact (not_not_intro rfl)) | omega) ?_))
    (refine Tr.done (by first | exact .inl rfl | exact .inr rfl) rfl (by repeat (first | exact RVs.nil | (apply RVs.cons; (exact RV.tmp rfl)))) (by first | exact Mem.le.refl _ | assumption) (by exact ⟨[], rfl⟩) ⟨rfl, ?_⟩)
    exact ⟨by show _ = Value.bool (touchB row s); unfold touchB; rw [hany]; rfl, rfl⟩
/-- the problem of lists -/
def pbOf (fits : List (List Bool)) (sup need : List Int) : Pb := ⟨sup.length, need.length, fun k b => (fits.getD k []).getD b false, fun k => sup.getD k 0, fun b => need.getD b 0⟩
/-- the lack of a set of bits -/
def lackB (fits : List (List Bool)) (sup need : List Int) (s : Nat) : Int := sumN need.length (fun b => if s.testBit b then need.getD b 0 else 0) - sumN sup.length (fun k => if touchB (fits.getD k []) s then sup.getD k 0 else 0)
theorem sum_small {n : Nat} {f : Nat → Int} (h : ∀ i, i < n → 0 ≤ f i ∧ f i ≤ 1048576) : 0 ≤ sumN n f ∧ sumN n f ≤ 1048576 * n := by
  induction n with
  | zero => simp [sumN]
  | succ n ih =>
    have h1 := ih fun i hi => h i (by omega)
    have h2 := h n (by omega)
    rw [sumN]
    push_cast
    omega
theorem getD_rng {l : List Int} (h : ∀ x ∈ l, 0 ≤ x ∧ x ≤ 1048576) (i : Nat) : 0 ≤ l.getD i 0 ∧ l.getD i 0 ≤ 1048576 := by
  rw [List.getD_eq_getElem?_getD]
  cases hx : l[i]? with
  | none => simp
  | some x => exact h x (List.mem_of_getElem? hx)
/-- a problem whose numbers are as they may be -/
structure Vld (fits : List (List Bool)) (sup need : List Int) : Prop where
  ls : sup.length ≤ 64
  ln : need.length ≤ 64
  lf : fits.length = sup.length
  rows : ∀ r ∈ fits, r.length = need.length
  rs : ∀ x ∈ sup, 0 ≤ x ∧ x ≤ 1048576
  rn : ∀ x ∈ need, 0 ≤ x ∧ x ≤ 1048576
theorem vld_iff {fits : List (List Bool)} {sup need : List Int} : validF fits sup need = true ↔ Vld fits sup need := by
  simp only [validF, Bool.and_eq_true, decide_eq_true_eq, List.all_eq_true, rngF, rng_iff]
  exact ⟨fun ⟨⟨⟨⟨⟨a, b⟩, c⟩, d⟩, e⟩, f⟩ => ⟨a, b, c, d, e, f⟩, fun h => ⟨⟨⟨⟨⟨h.ls, h.ln⟩, h.lf⟩, h.rows⟩, h.rs⟩, h.rn⟩⟩
set_option maxHeartbeats 4000000 in
theorem lack_fn (M : Mem) (A0 A1 A2 : Option Addr) (c0 c1 c2 : Nat) (fits : List (List Bool)) (sup need : List Int) (hf : Fits2 M (.slice A0 fits.length c0) fits) (hs : Ints M (.slice A1 sup.length c1) sup) (hn : Ints M (.slice A2 need.length c2) need) (hv : Vld fits sup need) (s : Nat) (hs63 : s < 9223372036854775808) :
    Fn0 Try.prog 22 [.slice A0 fits.length c0, .slice A1 sup.length c1, .slice A2 need.length c2, .int .i64 (s : Int)] M (fun r M' => r = .int .i64 (lackB fits sup need s) ∧ M = M') := by
  have l0 := hf.len_le
  have l1 := hv.ls
  have l2 := hv.ln
  have l3 := hv.lf
  refine Fn.intro Try.func22 rfl rfl Try.ntmps22 rfl fun E F => ?_
  have gN : ∀ i, 0 ≤ (if s.testBit i then need.getD i 0 else 0) ∧ (if s.testBit i then need.getD i 0 else 0) ≤ 1048576 := fun i => by
    have := getD_rng hv.rn i
    split <;> omega
  have gS : ∀ k, 0 ≤ (if touchB (fits.getD k []) s then sup.getD k 0 else 0) ∧ (if touchB (fits.getD k []) s then sup.getD k 0 else 0) ≤ 1048576 := fun i => by
    have := getD_rng hv.rs i
    split <;> omega
  have bN := fun i => sum_small (n := i) (fun j _ => gN j)
  have bS := fun i => sum_small (n := i) (fun j _ => gS j)
  repeat (first | ((with_reducible refine Tr.step rfl ?_); (((with_reducible refine Knd.assign ?_); (refine Exec.stab rfl (Stab.assign rfl) rfl ?_)))) | (with_reducible refine Tr.next ?_) | (with_reducible refine Tr.seq ?_) | (with_reducible refine Tr.region ?_) | (with_reducible refine Tr.nil ?_) | (with_reducible refine Tr.block ?_))
  refine Tr.loop (α := Nat) (fun i => ⟨46, [(10, .int .i64 i), (9, .int .i64 (sumN i (fun b => if s.testBit b then need.getD b 0 else 0))), (0, .slice A0 fits.length c0), (1, .slice A1 sup.length c1), (2, .slice A2 need.length c2), (3, .int .i64 (s : Int))], [], M, [] ++ F⟩) (fun i => i ≤ need.length) (fun i => need.length - i) 0 (by simp) (holds_sub (by repeat (first | exact SubFr.nil | refine SubFr.cons rfl ?_)) (by repeat (first | exact DropL.refl | apply DropL.skip))) (fun i hi => ?_)
  have b1 := bN i
  by_cases hlt : i < need.length
  · obtain ⟨x, hx⟩ := get_of_lt hlt
    obtain ⟨hA, hat⟩ := hn.at hx
    have hxr := hv.rn x (List.mem_of_getElem? hx)
    repeat (first | ((with_reducible refine Tr.step rfl ?_); (first | ((with_reducible refine Knd.move ?_); (refine Exec.stab rfl (Stab.move rfl) rfl ?_)) | ((with_reducible refine Knd.len ?_); ((refine Exec.stab rfl (Stab.len rfl (tysOk.get rfl) rfl) rfl ?_))) | ((with_reducible refine Knd.binOp ?_); ((refine Exec.stab rfl (Stab.int rfl rfl rfl) rfl ?_))))) | (with_reducible refine Tr.next ?_) | (with_reducible refine Tr.seq ?_) | (with_reducible refine Tr.region ?_) | (with_reducible refine Tr.nil ?_) | (with_reducible refine Tr.skip ?_) | (with_reducible refine Tr.block ?_) | (refine Tr.cond_t rfl (by first | (with_reducible assumption) | (with_reducible rfl) | (with_reducible exact (not_not_intro rfl)) | omega) ?_))
    ((refine Tr.step rfl ?_)); refine Exec.call0 rfl (has_fn M s i hs63 (by omega)) rfl ?_
    rintro _ _ _ ⟨rfl, rfl⟩
    have hstep : sumN (i + 1) (fun b => if s.testBit b then need.getD b 0 else 0) = sumN i (fun b => if s.testBit b then need.getD b 0 else 0) + if s.testBit i then x else 0 := by rw [sumN, getD_of hx]
    cases hbit : s.testBit i
    · rw [hbit] at hstep
      simp only [Bool.false_eq_true, if_false, Int.add_zero] at hstep
      repeat (first | ((with_reducible refine Tr.step rfl ?_); (first | ((with_reducible refine Knd.move ?_); (refine Exec.stab rfl (Stab.move rfl) rfl ?_)) | ((with_reducible refine Knd.assign ?_); (refine Exec.stab rfl (Stab.assign rfl) rfl ?_)) | ((with_reducible refine Knd.binOp ?_); ((refine Exec.stab rfl (Stab.addi rfl rfl (by omega)) rfl ?_))))) | (with_reducible refine Tr.next ?_) | (with_reducible refine Tr.region ?_) | (with_reducible refine Tr.nil ?_) | (with_reducible refine Tr.skip ?_) | (with_reducible refine Tr.in_normal ?_) | (refine Tr.cond_bf rfl (by first | (with_reducible rfl) | (with_reducible assumption) | (with_reducible exact Bool.not_true) | (with_reducible exact Bool.not_false)) ?_))
      rw [← hstep]
      refine Tr.again (i + 1) hlt (by omega) (holds_sub (by repeat (first | exact SubFr.nil | refine SubFr.cons rfl ?_)) (by repeat (first | exact DropL.refl | apply DropL.skip)))
    · rw [hbit] at hstep
      simp only [if_true] at hstep
      repeat (first | ((with_reducible refine Tr.step rfl ?_); (first | ((with_reducible refine Knd.move ?_); (refine Exec.stab rfl (Stab.move rfl) rfl ?_)) | ((with_reducible refine Knd.assign ?_); (refine Exec.stab rfl (Stab.assign rfl) rfl ?_)) | ((with_reducible refine Knd.load ?_); ((refine Exec.stab rfl (Stab.loadM rfl (tysOk.get rfl) rfl (by assumption)) rfl ?_))) | ((with_reducible refine Knd.binOp ?_); ((refine Exec.stab rfl (Stab.addi rfl rfl (by omega)) rfl ?_))) | ((with_reducible refine Knd.indexAddr ?_); ((refine Exec.stab rfl (Stab.indexAddr rfl rfl (tysOk.get rfl) rfl (tysOk.get rfl) rfl (by omega) (by omega) (by first | rfl | assumption)) rfl ?_))))) | (with_reducible refine Tr.next ?_) | (with_reducible refine Tr.region ?_) | (with_reducible refine Tr.nil ?_) | (with_reducible refine Tr.in_normal ?_) | (refine Tr.cond_bt rfl (by first | (with_reducible rfl) | (with_reducible assumption) | (with_reducible exact Bool.not_true) | (with_reducible exact Bool.not_false)) ?_))
      rw [← hstep]
      refine Tr.again (i + 1) hlt (by omega) (holds_sub (by repeat (first | exact SubFr.nil | refine SubFr.cons rfl ?_)) (by repeat (first | exact DropL.refl | apply DropL.skip)))
  have e : i = need.length := by omega
  subst e
  generalize hT : sumN need.length (fun b => if s.testBit b then need.getD b 0 else 0) = T at b1
  repeat (first | ((with_reducible refine Tr.step rfl ?_); (first | ((with_reducible refine Knd.move ?_); (refine Exec.stab rfl (Stab.move rfl) rfl ?_)) | ((with_reducible refine Knd.assign ?_); (refine Exec.stab rfl (Stab.assign rfl) rfl ?_)) | ((with_reducible refine Knd.len ?_); ((refine Exec.stab rfl (Stab.len rfl (tysOk.get rfl) rfl) rfl ?_))) | ((with_reducible refine Knd.binOp ?_); ((refine Exec.stab rfl (Stab.int rfl rfl rfl) rfl ?_))))) | (with_reducible refine Tr.next ?_) | (with_reducible refine Tr.seq ?_) | (with_reducible refine Tr.region ?_) | (with_reducible refine Tr.nil ?_) | (with_reducible refine Tr.block ?_) | (with_reducible refine Tr.exit ?_) | (with_reducible refine Tr.then_exit ?_) | ((with_reducible refine Tr.in_exit ?_ ?_); (exact rfl)) | (refine Tr.cond_f rfl (by first | (with_reducible assumption) | (with_reducible rfl) | (with_reducible exact (not_not_intro rfl)) | omega) ?_))
  refine Tr.loop (α := Nat) (fun i => ⟨46, [(11, .int .i64 i), (9, .int .i64 (T - sumN i (fun k => if touchB (fits.getD k []) s then sup.getD k 0 else 0))), (0, .slice A0 fits.length c0), (1, .slice A1 sup.length c1), (3, .int .i64 (s : Int))], [], M, [] ++ F⟩) (fun i => i ≤ sup.length) (fun i => sup.length - i) 0 (by simp) (holds_sub (by refine SubFr.cons rfl ?_; refine SubFr.cons (by simp [sumN]; rfl) ?_; exact (by repeat (first | exact SubFr.nil | refine SubFr.cons rfl ?_))) (by repeat (first | exact DropL.refl | apply DropL.skip))) (fun i hi => ?_)
  have b2 := bS i
  by_cases hlt : i < sup.length
  · obtain ⟨x, hx⟩ := get_of_lt hlt
    obtain ⟨hA, hat⟩ := hs.at hx
    obtain ⟨row, hrow⟩ := get_of_lt (xs := fits) (i := i) (by omega)
    obtain ⟨hA0, ch, hat0, B, k, rfl, hB⟩ := hf.elem hrow
    have hrl := hv.rows row (List.mem_of_getElem? hrow)
    have hxr := hv.rs x (List.mem_of_getElem? hx)
    repeat (first | ((with_reducible refine Tr.step rfl ?_); (first | ((with_reducible refine Knd.move ?_); (refine Exec.stab rfl (Stab.move rfl) rfl ?_)) | ((with_reducible refine Knd.load ?_); ((refine Exec.stab rfl (Stab.loadM rfl (tysOk.get rfl) rfl (by assumption)) rfl ?_))) | ((with_reducible refine Knd.len ?_); ((refine Exec.stab rfl (Stab.len rfl (tysOk.get rfl) rfl) rfl ?_))) | ((with_reducible refine Knd.binOp ?_); ((refine Exec.stab rfl (Stab.int rfl rfl rfl) rfl ?_))) | ((with_reducible refine Knd.indexAddr ?_); ((refine Exec.stab rfl (Stab.indexAddr rfl rfl (tysOk.get rfl) rfl (tysOk.get rfl) rfl (by omega) (by omega) (by first | rfl | assumption)) rfl ?_))))) | (with_reducible refine Tr.next ?_) | (with_reducible refine Tr.seq ?_) | (with_reducible refine Tr.region ?_) | (with_reducible refine Tr.nil ?_) | (with_reducible refine Tr.skip ?_) | (with_reducible refine Tr.block ?_) | (refine Tr.cond_t rfl (by first | (with_reducible assumption) | (with_reducible rfl) | (with_reducible exact (not_not_intro rfl)) | omega) ?_))
    ((refine Tr.step rfl ?_)); refine Exec.call0 rfl (touches_fn M B k row hB (by omega) s hs63) rfl ?_
    rintro _ _ _ ⟨rfl, rfl⟩
    have hstep : T - sumN (i + 1) (fun k => if touchB (fits.getD k []) s then sup.getD k 0 else 0) = T - sumN i (fun k => if touchB (fits.getD k []) s then sup.getD k 0 else 0) - if touchB row s then x else 0 := by rw [sumN, getD_of hx, getD_of hrow]; omega
    cases hbit : touchB row s
    · rw [hbit] at hstep
      simp only [Bool.false_eq_true, if_false, Int.sub_zero] at hstep
      repeat (first | ((with_reducible refine Tr.step rfl ?_); (first | ((with_reducible refine Knd.move ?_); (refine Exec.stab rfl (Stab.move rfl) rfl ?_)) | ((with_reducible refine Knd.assign ?_); (refine Exec.stab rfl (Stab.assign rfl) rfl ?_)) | ((with_reducible refine Knd.binOp ?_); ((refine Exec.stab rfl (Stab.addi rfl rfl (by omega)) rfl ?_))))) | (with_reducible refine Tr.next ?_) | (with_reducible refine Tr.region ?_) | (with_reducible refine Tr.nil ?_) | (with_reducible refine Tr.skip ?_) | (with_reducible refine Tr.in_normal ?_) | (refine Tr.cond_bf rfl (by first | (with_reducible rfl) | (with_reducible assumption) | (with_reducible exact Bool.not_true) | (with_reducible exact Bool.not_false)) ?_))
      rw [← hstep]
      refine Tr.again (i + 1) hlt (by omega) (holds_sub (by repeat (first | exact SubFr.nil | refine SubFr.cons rfl ?_)) (by repeat (first | exact DropL.refl | apply DropL.skip)))
    · rw [hbit] at hstep
      simp only [if_true] at hstep
      repeat (first | ((with_reducible refine Tr.step rfl ?_); (first | ((with_reducible refine Knd.move ?_); (refine Exec.stab rfl (Stab.move rfl) rfl ?_)) | ((with_reducible refine Knd.assign ?_); (refine Exec.stab rfl (Stab.assign rfl) rfl ?_)) | ((with_reducible refine Knd.load ?_); ((refine Exec.stab rfl (Stab.loadM rfl (tysOk.get rfl) rfl (by assumption)) rfl ?_))) | ((with_reducible refine Knd.binOp ?_); (first | (refine Exec.stab rfl (Stab.addi rfl rfl (by omega)) rfl ?_) | (refine Exec.stab rfl (Stab.subi rfl rfl (by omega)) rfl ?_))) | ((with_reducible refine Knd.indexAddr ?_); ((refine Exec.stab rfl (Stab.indexAddr rfl rfl (tysOk.get rfl) rfl (tysOk.get rfl) rfl (by omega) (by omega) (by first | rfl | assumption)) rfl ?_))))) | (with_reducible refine Tr.next ?_) | (with_reducible refine Tr.region ?_) | (with_reducible refine Tr.nil ?_) | (with_reducible refine Tr.in_normal ?_) | (refine Tr.cond_bt rfl (by first | (with_reducible rfl) | (with_reducible assumption) | (with_reducible exact Bool.not_true) | (with_reducible exact Bool.not_false)) ?_))
      rw [← hstep]
      refine Tr.again (i + 1) hlt (by omega) (holds_sub (by repeat (first | exact SubFr.nil | refine SubFr.cons rfl ?_)) (by repeat (first | exact DropL.refl | apply DropL.skip)))
  have e : i = sup.length := by omega
  subst e
  repeat (first | ((with_reducible refine Tr.step rfl ?_); (first | ((with_reducible refine Knd.move ?_); (refine Exec.stab rfl (Stab.move rfl) rfl ?_)) | ((with_reducible refine Knd.assign ?_); (refine Exec.stab rfl (Stab.assign rfl) rfl ?_)) | ((with_reducible refine Knd.len ?_); ((refine Exec.stab rfl (Stab.len rfl (tysOk.get rfl) rfl) rfl ?_))) | ((with_reducible refine Knd.binOp ?_); ((refine Exec.stab rfl (Stab.int rfl rfl rfl) rfl ?_))))) | (with_reducible refine Tr.next ?_) | (with_reducible refine Tr.seq ?_) | (with_reducible refine Tr.region ?_) | (with_reducible refine Tr.nil ?_) | (with_reducible refine Tr.exit ?_) | (with_reducible refine Tr.ret ?_) | (with_reducible refine Tr.then_exit ?_) | ((with_reducible refine Tr.in_exit ?_ ?_); (exact rfl)) | (refine Tr.cond_f rfl (by first | (with_reducible assumption) | (with_reducible rfl) | (with_reducible exact (not_not_intro rfl)) | omega) ?_))
  (refine Tr.done (by first | exact .inl rfl | exact .inr rfl) rfl (by repeat (first | exact RVs.nil | (apply RVs.cons; (exact RV.tmp rfl)))) (by first | exact Mem.le.refl _ | assumption) (by exact ⟨[], rfl⟩) ⟨rfl, ?_⟩)
  exact ⟨by rw [lackB, hT]; rfl, rfl⟩
end Go.Proofs.Ytmioocddmlfboaa
/-
  Matching: the contracts of the reference's Possible, members, Most, Few, SameInts and Same.
  Conditions: none.
-/
namespace Go.Proofs.Ytmioocddmlfboaa
open Go Bf
attribute [local irreducible] Tr Exec Stab HasTy Go.Addr.add IntKind.wrap
/-- no set within lacks anything -/
def Poss (fits : List (List Bool)) (sup need : List Int) (set : Nat) : Prop := ∀ s, 1 ≤ s → s ≤ set → s &&& set = s → lackB fits sup need s ≤ 0
set_option maxHeartbeats 2000000 in
theorem possible_fn (M : Mem) (A0 A1 A2 : Option Addr) (c0 c1 c2 : Nat) (fits : List (List Bool)) (sup need : List Int) (hf : Fits2 M (.slice A0 fits.length c0) fits) (hs : Ints M (.slice A1 sup.length c1) sup) (hn : Ints M (.slice A2 need.length c2) need) (hv : Vld fits sup need) (set : Nat) (h63 : set < 4611686018427387904) :
    Fn0 Try.prog 49 [.slice A0 fits.length c0, .slice A1 sup.length c1, .slice A2 need.length c2, .int .i64 (set : Int)] M (fun r M' => (∃ b : Bool, r = .bool b ∧ (b = true ↔ Poss fits sup need set)) ∧ M = M') := by
  refine Fn.intro Try.func49 rfl rfl Try.ntmps49 rfl fun E F => ?_
  repeat (first | ((with_reducible refine Tr.step rfl ?_); (((with_reducible refine Knd.assign ?_); (refine Exec.stab rfl (Stab.assign rfl) rfl ?_)))) | (with_reducible refine Tr.next ?_) | (with_reducible refine Tr.seq ?_) | (with_reducible refine Tr.region ?_) | (with_reducible refine Tr.nil ?_) | (with_reducible refine Tr.block ?_))
  refine Tr.loop (α := Nat) (fun i => ⟨28, [(9, .int .i64 i), (0, .slice A0 fits.length c0), (1, .slice A1 sup.length c1), (2, .slice A2 need.length c2), (3, .int .i64 (set : Int))], [], M, [] ++ F⟩) (fun i => 1 ≤ i ∧ i ≤ set + 1 ∧ ∀ s, 1 ≤ s → s < i → s &&& set = s → lackB fits sup need s ≤ 0) (fun i => set + 1 - i) 1 ⟨by omega, by omega, fun s h1 h2 => by omega⟩ (holds_sub (by repeat (first | exact SubFr.nil | refine SubFr.cons rfl ?_)) (by repeat (first | exact DropL.refl | apply DropL.skip))) (fun i hi => ?_)
  obtain ⟨h1, h2, hall⟩ := hi
  by_cases hlt : i ≤ set
  · by_cases hsub : i &&& set = i
    · repeat (first | ((with_reducible refine Tr.step rfl ?_); (first | ((with_reducible refine Knd.move ?_); (refine Exec.stab rfl (Stab.move rfl) rfl ?_)) | ((with_reducible refine Knd.binOp ?_); (first | (refine Exec.stab rfl (Stab.andn rfl rfl (by omega) (by omega)) rfl ?_) | (refine Exec.stab rfl (Stab.int rfl rfl rfl) rfl ?_))))) | (with_reducible refine Tr.next ?_) | (with_reducible refine Tr.seq ?_) | (with_reducible refine Tr.region ?_) | (with_reducible refine Tr.nil ?_) | ((refine Tr.guard_y rfl rfl rfl (by first | (with_reducible assumption) | (with_reducible rfl) | (with_reducible exact (not_not_intro rfl)) | omega) ?_); (((with_reducible refine Knd.move ?_); (refine Exec.stab rfl (Stab.move rfl) rfl ?_)))) | (with_reducible refine Tr.skip ?_) | (with_reducible refine Tr.block ?_) | (refine Tr.cond_t rfl (by first | (with_reducible assumption) | (with_reducible rfl) | (with_reducible exact (not_not_intro rfl)) | omega) ?_))
      ((refine Tr.guard_y rfl rfl rfl (by first | (with_reducible assumption) | (with_reducible rfl) | (with_reducible exact (not_not_intro rfl)) | omega) ?_)); refine Exec.call0 rfl (lack_fn M A0 A1 A2 c0 c1 c2 fits sup need hf hs hn hv i (by omega)) rfl ?_
      rintro _ _ _ ⟨rfl, rfl⟩
      by_cases hl : 0 < lackB fits sup need i
      · repeat (first | ((with_reducible refine Tr.step rfl ?_); (first | ((with_reducible refine Knd.assign ?_); (refine Exec.stab rfl (Stab.assign rfl) rfl ?_)) | ((with_reducible refine Knd.pick ?_); ((refine Exec.stab rfl (Stab.pick_td rfl (by first | (with_reducible assumption) | (with_reducible rfl) | (with_reducible exact (not_not_intro rfl)) | omega) rfl) rfl ?_))))) | (with_reducible refine Tr.next ?_) | (with_reducible refine Tr.seq ?_) | (with_reducible refine Tr.region ?_) | (with_reducible refine Tr.nil ?_) | ((refine Tr.guard_y rfl rfl rfl (by first | (with_reducible assumption) | (with_reducible rfl) | (with_reducible exact (not_not_intro rfl)) | omega) ?_); (((with_reducible refine Knd.binOp ?_); ((refine Exec.stab rfl (Stab.int rfl rfl rfl) rfl ?_))))) | (with_reducible refine Tr.ret ?_) | (with_reducible refine Tr.then_ret ?_) | (with_reducible refine Tr.in_ret ?_) | (refine Tr.cond_t rfl (by first | (with_reducible assumption) | (with_reducible rfl) | (with_reducible exact (not_not_intro rfl)) | omega) ?_))
        (refine Tr.done (by first | exact .inl rfl | exact .inr rfl) rfl (by repeat (first | exact RVs.nil | (apply RVs.cons; (exact RV.tmp rfl)))) (by first | exact Mem.le.refl _ | assumption) (by exact ⟨[], rfl⟩) ⟨rfl, ?_⟩)
        exact ⟨⟨false, rfl, ⟨fun h => (by cases h), fun h => (by have := h i h1 hlt hsub; omega)⟩⟩, rfl⟩
      · repeat (first | ((with_reducible refine Tr.step rfl ?_); (first | ((with_reducible refine Knd.move ?_); (refine Exec.stab rfl (Stab.move rfl) rfl ?_)) | ((with_reducible refine Knd.assign ?_); (refine Exec.stab rfl (Stab.assign rfl) rfl ?_)) | ((with_reducible refine Knd.binOp ?_); ((refine Exec.stab rfl (Stab.addi rfl rfl (by omega)) rfl ?_))) | ((with_reducible refine Knd.pick ?_); ((refine Exec.stab rfl (Stab.pick_td rfl (by first | (with_reducible assumption) | (with_reducible rfl) | (with_reducible exact (not_not_intro rfl)) | omega) rfl) rfl ?_))))) | (with_reducible refine Tr.next ?_) | (with_reducible refine Tr.region ?_) | (with_reducible refine Tr.nil ?_) | ((refine Tr.guard_y rfl rfl rfl (by first | (with_reducible assumption) | (with_reducible rfl) | (with_reducible exact (not_not_intro rfl)) | omega) ?_); (((with_reducible refine Knd.binOp ?_); ((refine Exec.stab rfl (Stab.int rfl rfl rfl) rfl ?_))))) | (with_reducible refine Tr.skip ?_) | (with_reducible refine Tr.in_normal ?_) | (refine Tr.cond_f rfl (by first | (with_reducible assumption) | (with_reducible rfl) | (with_reducible exact (not_not_intro rfl)) | omega) ?_))
        refine Tr.again (i + 1) ⟨by omega, by omega, fun s g1 g2 g3 => ?_⟩ (by omega) (holds_sub (by repeat (first | exact SubFr.nil | refine SubFr.cons rfl ?_)) (by repeat (first | exact DropL.refl | apply DropL.skip)))
        by_cases e : s = i
        · subst e; omega
        · exact hall s g1 (by omega) g3
    · have hne : ¬ ((i &&& set : Nat) : Int) = (i : Int) := by omega
      repeat (first | ((with_reducible refine Tr.step rfl ?_); (first | ((with_reducible refine Knd.move ?_); (refine Exec.stab rfl (Stab.move rfl) rfl ?_)) | ((with_reducible refine Knd.assign ?_); (refine Exec.stab rfl (Stab.assign rfl) rfl ?_)) | ((with_reducible refine Knd.binOp ?_); (first | (refine Exec.stab rfl (Stab.addi rfl rfl (by omega)) rfl ?_) | (refine Exec.stab rfl (Stab.andn rfl rfl (by omega) (by omega)) rfl ?_) | (refine Exec.stab rfl (Stab.int rfl rfl rfl) rfl ?_))) | ((with_reducible refine Knd.pick ?_); ((refine Exec.stab rfl (Stab.pick_fd rfl (by first | (with_reducible assumption) | (with_reducible rfl) | (with_reducible exact (not_not_intro rfl)) | omega) rfl) rfl ?_))))) | (with_reducible refine Tr.next ?_) | (with_reducible refine Tr.seq ?_) | (with_reducible refine Tr.region ?_) | (with_reducible refine Tr.nil ?_) | (refine Tr.guard_n rfl rfl rfl (by first | (with_reducible assumption) | (with_reducible rfl) | (with_reducible exact (not_not_intro rfl)) | omega) rfl rfl ?_) | (with_reducible refine Tr.skip ?_) | (with_reducible refine Tr.block ?_) | (with_reducible refine Tr.in_normal ?_) | (refine Tr.cond_bf rfl (by first | (with_reducible rfl) | (with_reducible assumption) | (with_reducible exact Bool.not_true) | (with_reducible exact Bool.not_false)) ?_) | (refine Tr.cond_t rfl (by first | (with_reducible assumption) | (with_reducible rfl) | (with_reducible exact (not_not_intro rfl)) | omega) ?_))
      refine Tr.again (i + 1) ⟨by omega, by omega, fun s g1 g2 g3 => ?_⟩ (by omega) (holds_sub (by repeat (first | exact SubFr.nil | refine SubFr.cons rfl ?_)) (by repeat (first | exact DropL.refl | apply DropL.skip)))
      by_cases e : s = i
      · subst e; exact absurd g3 hsub
      · exact hall s g1 (by omega) g3
  · have e : i = set + 1 := by omega
    repeat (first | ((with_reducible refine Tr.step rfl ?_); (first | ((with_reducible refine Knd.move ?_); (refine Exec.stab rfl (Stab.move rfl) rfl ?_)) | ((with_reducible refine Knd.assign ?_); (refine Exec.stab rfl (Stab.assign rfl) rfl ?_)) | ((with_reducible refine Knd.binOp ?_); ((refine Exec.stab rfl (Stab.int rfl rfl rfl) rfl ?_))))) | (with_reducible refine Tr.next ?_) | (with_reducible refine Tr.seq ?_) | (with_reducible refine Tr.region ?_) | (with_reducible refine Tr.nil ?_) | (with_reducible refine Tr.exit ?_) | (with_reducible refine Tr.ret ?_) | (with_reducible refine Tr.then_exit ?_) | ((with_reducible refine Tr.in_exit ?_ ?_); (exact rfl)) | (refine Tr.cond_f rfl (by first | (with_reducible assumption) | (with_reducible rfl) | (with_reducible exact (not_not_intro rfl)) | omega) ?_))
    (refine Tr.done (by first | exact .inl rfl | exact .inr rfl) rfl (by repeat (first | exact RVs.nil | (apply RVs.cons; (exact RV.tmp rfl)))) (by first | exact Mem.le.refl _ | assumption) (by exact ⟨[], rfl⟩) ⟨rfl, ?_⟩)
    exact ⟨⟨true, rfl, ⟨fun _ s g1 g2 g3 => hall s g1 (by omega) g3, fun _ => rfl⟩⟩, rfl⟩
/-- the members of a set of bits -/
def memI (s i : Nat) : List Int := ((List.range i).filter s.testBit).map Int.ofNat
theorem memI_succ (s i : Nat) : memI s (i + 1) = memI s i ++ if s.testBit i then [(i : Int)] else [] := by
  unfold memI
  rw [List.range_succ, List.filter_append, List.map_append]
  congr 1
  rw [List.filter_cons]
  split <;> rfl
theorem memI_len (s i : Nat) : (memI s i).length ≤ i := by
  unfold memI
  rw [List.length_map]
  exact Nat.le_trans (List.length_filter_le _ _) (by simp)
set_option maxHeartbeats 2000000 in
theorem members_fn (M : Mem) (s n : Nat) (hs : s < 4611686018427387904) (hn : n ≤ 64) : Fn0 Try.prog 50 [.int .i64 (s : Int), .int .i64 (n : Int)] M (fun r M' => ∃ B k, r = .slice B (memI s n).length k ∧ Ints M' (.slice B (memI s n).length k) (memI s n)) := by
  refine Fn.intro Try.func50 rfl rfl Try.ntmps50 rfl fun E F => ?_
  repeat (first | ((with_reducible refine Tr.step rfl ?_); (first | ((with_reducible refine Knd.assign ?_); (refine Exec.stab rfl (Stab.assign rfl) rfl ?_)) | ((with_reducible refine Knd.buildSlice ?_); ((refine Exec.buildSlice (tysOk.get rfl) rfl (tysOk.get rfl) rfl rfl rfl rfl rfl (by repeat (exact BuildP.nil)) rfl (fun b => ?_)))))) | (with_reducible refine Tr.next ?_) | (with_reducible refine Tr.seq ?_) | (with_reducible refine Tr.region ?_) | (with_reducible refine Tr.nil ?_) | (with_reducible refine Tr.block ?_))
  refine Tr.box_own 1 0 (by repeat (first | exact Upd.here | apply Upd.there)) rfl (by intro u hu; cases hu) (by simp [maxLen]) ?_
  refine Tr.loop (α := Nat × Option Addr × Nat) (fun y => ⟨21, [(6, .int .i64 y.1), (5, .slice y.2.1 (memI s y.1).length y.2.2), (0, .int .i64 (s : Int)), (1, .int .i64 (n : Int))], [], M, ownS 3 1 y.2.1 (memI s y.1).length y.2.2 (intV (memI s y.1)) :: ([] ++ F)⟩) (fun y => y.1 ≤ n ∧ y.2.2 ≤ 9223372036854775807) (fun y => n - y.1) (0, _, 0) ⟨by simp, by simp⟩ (holds_sub (by repeat (first | exact SubFr.nil | refine SubFr.cons rfl ?_)) (by repeat (first | exact DropL.refl | apply DropL.skip))) (fun y hy => ?_)
  obtain ⟨i, B, k⟩ := y
  obtain ⟨hi, hk⟩ := hy
  simp only at hi hk
  dsimp only
  have hml := memI_len s i
  by_cases hlt : i < n
  · repeat (first | ((with_reducible refine Tr.step rfl ?_); (first | ((with_reducible refine Knd.move ?_); (refine Exec.stab rfl (Stab.move rfl) rfl ?_)) | ((with_reducible refine Knd.binOp ?_); ((refine Exec.stab rfl (Stab.int rfl rfl rfl) rfl ?_))))) | (with_reducible refine Tr.next ?_) | (with_reducible refine Tr.seq ?_) | (with_reducible refine Tr.region ?_) | (with_reducible refine Tr.nil ?_) | (with_reducible refine Tr.skip ?_) | (with_reducible refine Tr.block ?_) | (refine Tr.cond_t rfl (by first | (with_reducible assumption) | (with_reducible rfl) | (with_reducible exact (not_not_intro rfl)) | omega) ?_))
    ((refine Tr.step rfl ?_)); refine Exec.call0 rfl (has_fn M s i (by omega) (by omega)) rfl ?_
    rintro _ _ _ ⟨rfl, rfl⟩
    have hstep := memI_succ s i
    cases hbit : s.testBit i
    · rw [hbit] at hstep
      simp only [Bool.false_eq_true, if_false, List.append_nil] at hstep
      repeat (first | ((with_reducible refine Tr.step rfl ?_); (first | ((with_reducible refine Knd.move ?_); (refine Exec.stab rfl (Stab.move rfl) rfl ?_)) | ((with_reducible refine Knd.assign ?_); (refine Exec.stab rfl (Stab.assign rfl) rfl ?_)) | ((with_reducible refine Knd.binOp ?_); ((refine Exec.stab rfl (Stab.addi rfl rfl (by omega)) rfl ?_))))) | (with_reducible refine Tr.next ?_) | (with_reducible refine Tr.region ?_) | (with_reducible refine Tr.nil ?_) | (with_reducible refine Tr.skip ?_) | (with_reducible refine Tr.in_normal ?_) | (refine Tr.cond_bf rfl (by first | (with_reducible rfl) | (with_reducible assumption) | (with_reducible exact Bool.not_true) | (with_reducible exact Bool.not_false)) ?_))
      rw [← hstep]
      refine Tr.again (i + 1, B, k) ⟨by simp only; omega, hk⟩ (by simp only; omega) (holds_sub (by repeat (first | exact SubFr.nil | refine SubFr.cons rfl ?_)) (by repeat (first | exact DropL.refl | apply DropL.skip)))
    · rw [hbit] at hstep
      simp only [if_true] at hstep
      repeat (first | ((with_reducible refine Tr.step rfl ?_); (first | ((with_reducible refine Knd.move ?_); (refine Exec.stab rfl (Stab.move rfl) rfl ?_)) | ((with_reducible refine Knd.buildSlice ?_); ((refine Exec.buildSlice (tysOk.get rfl) rfl (tysOk.get rfl) rfl rfl rfl rfl rfl (by repeat (first | exact BuildP.nil | ((apply BuildP.one); (rfl); (rfl); (first | rfl | assumption); (repeat (first | exact SetL.z | apply SetL.s))))) rfl (fun b => ?_)))))) | (with_reducible refine Tr.next ?_) | (with_reducible refine Tr.region ?_) | (with_reducible refine Tr.nil ?_) | (refine Tr.cond_bt rfl (by first | (with_reducible rfl) | (with_reducible assumption) | (with_reducible exact Bool.not_true) | (with_reducible exact Bool.not_false)) ?_))
      ((refine Tr.step rfl ?_))
      refine Exec.append (news := intV [(i : Int)]) rfl rfl (tysOk.get rfl) rfl (tysOk.get rfl) rfl rfl rfl rfl (by repeat (first | exact Del.here | apply Del.there)) (Src.box (by repeat (first | exact Has.here | apply Has.there))) (by simp) (intV_one _) (by omega) (by omega) rfl (fun A6 c6 hc6 => ?_)
      rw [← intV_append, ← hstep, show (memI s i).length + 1 = (memI s (i + 1)).length by rw [hstep]; simp]
      repeat (first | ((with_reducible refine Tr.step rfl ?_); (first | ((with_reducible refine Knd.move ?_); (refine Exec.stab rfl (Stab.move rfl) rfl ?_)) | ((with_reducible refine Knd.assign ?_); (refine Exec.stab rfl (Stab.assign rfl) rfl ?_)) | ((with_reducible refine Knd.binOp ?_); ((refine Exec.stab rfl (Stab.addi rfl rfl (by omega)) rfl ?_))))) | (with_reducible refine Tr.next ?_) | (with_reducible refine Tr.region ?_) | (with_reducible refine Tr.nil ?_) | (with_reducible refine Tr.in_normal ?_))
      refine Tr.give (r := box _ 3 _) (by repeat (first | exact Del.here | apply Del.there)) ?_
      refine Tr.again (i + 1, A6, c6) ⟨by simp only; omega, hc6⟩ (by simp only; omega) (holds_sub (by repeat (first | exact SubFr.nil | refine SubFr.cons rfl ?_)) (by repeat (first | exact DropL.refl | apply DropL.skip)))
  · have e : i = n := by omega
    subst e
    repeat (first | ((with_reducible refine Tr.step rfl ?_); (first | ((with_reducible refine Knd.move ?_); (refine Exec.stab rfl (Stab.move rfl) rfl ?_)) | ((with_reducible refine Knd.assign ?_); (refine Exec.stab rfl (Stab.assign rfl) rfl ?_)) | ((with_reducible refine Knd.binOp ?_); ((refine Exec.stab rfl (Stab.int rfl rfl rfl) rfl ?_))))) | (with_reducible refine Tr.next ?_) | (with_reducible refine Tr.seq ?_) | (with_reducible refine Tr.region ?_) | (with_reducible refine Tr.nil ?_) | (with_reducible refine Tr.exit ?_) | (with_reducible refine Tr.ret ?_) | (with_reducible refine Tr.then_exit ?_) | ((with_reducible refine Tr.in_exit ?_ ?_); (exact rfl)) | (refine Tr.cond_f rfl (by first | (with_reducible assumption) | (with_reducible rfl) | (with_reducible exact (not_not_intro rfl)) | omega) ?_))
    refine Tr.publish (r := ownS 3 1 _ _ _ _) (by repeat (first | exact Del.here | apply Del.there)) (fun M1 hm1 hok => ?_)
    (refine Tr.done (by first | exact .inl rfl | exact .inr rfl) rfl (by repeat (first | exact RVs.nil | (apply RVs.cons; (exact RV.tmp rfl)))) (by first | exact Mem.le.refl _ | assumption) (by exact ⟨[], rfl⟩) ⟨rfl, ?_⟩)
    exact ⟨B, k, rfl, Ints.ofOwn hok rfl hk⟩
set_option maxHeartbeats 2000000 in
theorem rSameInts_fn (M : Mem) (p : List Int) (A B : Option Addr) (c k : Nat) (hp : Ints M (.slice A p.length c) p) (hq : Ints M (.slice B p.length k) p) : Fn0 Try.prog 20 [.slice A p.length c, .slice B p.length k] M (fun r M' => r = .bool true ∧ M = M') := by
  have hll := hp.len_le
  refine Fn.intro Try.func20 rfl rfl Try.ntmps20 rfl fun E F => ?_
  repeat (first | ((with_reducible refine Tr.step rfl ?_); (first | ((with_reducible refine Knd.move ?_); (refine Exec.stab rfl (Stab.move rfl) rfl ?_)) | ((with_reducible refine Knd.assign ?_); (refine Exec.stab rfl (Stab.assign rfl) rfl ?_)) | ((with_reducible refine Knd.len ?_); ((refine Exec.stab rfl (Stab.len rfl (tysOk.get rfl) rfl) rfl ?_))) | ((with_reducible refine Knd.binOp ?_); ((refine Exec.stab rfl (Stab.int rfl rfl rfl) rfl ?_))))) | (with_reducible refine Tr.next ?_) | (with_reducible refine Tr.seq ?_) | (with_reducible refine Tr.region ?_) | (with_reducible refine Tr.nil ?_) | (with_reducible refine Tr.skip ?_) | (with_reducible refine Tr.block ?_) | (refine Tr.cond_f rfl (by first | (with_reducible assumption) | (with_reducible rfl) | (with_reducible exact (not_not_intro rfl)) | omega) ?_))
  refine Tr.loop (α := Nat) (fun i => ⟨26, [(5, .int .i64 i), (0, .slice A p.length c), (1, .slice B p.length k)], [], M, [] ++ F⟩) (fun i => i ≤ p.length) (fun i => p.length - i) 0 (by simp) (holds_sub (by repeat (first | exact SubFr.nil | refine SubFr.cons rfl ?_)) (by repeat (first | exact DropL.refl | apply DropL.skip))) (fun i hi => ?_)
  by_cases hlt : i < p.length
  · obtain ⟨x, hx⟩ := get_of_lt hlt
    obtain ⟨hA, hat⟩ := hp.at hx
    obtain ⟨hB, hbt⟩ := hq.at hx
    repeat (first | ((with_reducible refine Tr.step rfl ?_); (first | ((with_reducible refine Knd.move ?_); (refine Exec.stab rfl (Stab.move rfl) rfl ?_)) | ((with_reducible refine Knd.len ?_); ((refine Exec.stab rfl (Stab.len rfl (tysOk.get rfl) rfl) rfl ?_))) | ((with_reducible refine Knd.binOp ?_); ((refine Exec.stab rfl (Stab.int rfl rfl rfl) rfl ?_))))) | (with_reducible refine Tr.next ?_) | (with_reducible refine Tr.seq ?_) | (with_reducible refine Tr.region ?_) | (with_reducible refine Tr.nil ?_) | (with_reducible refine Tr.skip ?_) | (with_reducible refine Tr.block ?_) | (refine Tr.cond_t rfl (by first | (with_reducible assumption) | (with_reducible rfl) | (with_reducible exact (not_not_intro rfl)) | omega) ?_))
    (((apply Tr.draw); (kernel_rfl)); (refine TrA.take 0 (by kernel_rfl) rfl (by kernel_rfl) (by first | exact fun _ _ _ h => h | exact fun _ _ _ h => nomatch h.1) (by exact fun _ h => h) rfl (by first | exact Stab.move rfl) rfl rfl ?_); (refine TrA.take 1 (by kernel_rfl) rfl (by kernel_rfl) (by first | exact fun _ _ _ h => h | exact fun _ _ _ h => nomatch h.1) (by exact fun _ h => h) rfl (by first | exact Stab.move rfl) rfl rfl ?_); (refine TrA.take 2 (by kernel_rfl) rfl (by kernel_rfl) (by first | exact fun _ _ _ h => h | exact fun _ _ _ h => nomatch h.1) (by exact fun _ h => h) rfl (by exact Stab.indexAddr rfl rfl (tysOk.get rfl) rfl (tysOk.get rfl) rfl (by omega) (by omega) (by first | rfl | assumption)) rfl rfl ?_); (refine TrA.take 3 (by kernel_rfl) rfl (by kernel_rfl) (by first | exact fun _ _ _ h => h | exact fun _ _ _ h => nomatch h.1) (by exact fun _ h => h) rfl (by exact Stab.loadM rfl (tysOk.get rfl) rfl (by assumption)) rfl rfl ?_); (refine TrA.take 4 (by kernel_rfl) rfl (by kernel_rfl) (by first | exact fun _ _ _ h => h | exact fun _ _ _ h => nomatch h.1) (by exact fun _ h => h) rfl (by first | exact Stab.move rfl) rfl rfl ?_); (refine TrA.take 5 (by kernel_rfl) rfl (by kernel_rfl) (by first | exact fun _ _ _ h => h | exact fun _ _ _ h => nomatch h.1) (by exact fun _ h => h) rfl (by first | exact Stab.move rfl) rfl rfl ?_); (refine TrA.take 6 (by kernel_rfl) rfl (by kernel_rfl) (by first | exact fun _ _ _ h => h | exact fun _ _ _ h => nomatch h.1) (by exact fun _ h => h) rfl (by exact Stab.indexAddr rfl rfl (tysOk.get rfl) rfl (tysOk.get rfl) rfl (by omega) (by omega) (by first | rfl | assumption)) rfl rfl ?_); (refine TrA.take 7 (by kernel_rfl) rfl (by kernel_rfl) (by first | exact fun _ _ _ h => h | exact fun _ _ _ h => nomatch h.1) (by exact fun _ h => h) rfl (by exact Stab.loadM rfl (tysOk.get rfl) rfl (by assumption)) rfl rfl ?_); (refine TrA.take 8 (by kernel_rfl) rfl (by kernel_rfl) (by first | exact fun _ _ _ h => h | exact fun _ _ _ h => nomatch h.1) (by exact fun _ h => h) rfl (by exact Stab.int rfl rfl rfl) rfl rfl ?_); (refine TrA.done (by kernel_rfl) ?_))
    repeat (first | ((with_reducible refine Tr.step rfl ?_); (first | ((with_reducible refine Knd.move ?_); (refine Exec.stab rfl (Stab.move rfl) rfl ?_)) | ((with_reducible refine Knd.assign ?_); (refine Exec.stab rfl (Stab.assign rfl) rfl ?_)) | ((with_reducible refine Knd.binOp ?_); ((refine Exec.stab rfl (Stab.addi rfl rfl (by omega)) rfl ?_))))) | (with_reducible refine Tr.next ?_) | (with_reducible refine Tr.region ?_) | (with_reducible refine Tr.nil ?_) | (with_reducible refine Tr.skip ?_) | (with_reducible refine Tr.in_normal ?_) | (refine Tr.cond_f rfl (by first | (with_reducible assumption) | (with_reducible rfl) | (with_reducible exact (not_not_intro rfl)) | omega) ?_))
    refine Tr.again (i + 1) hlt (by omega) (holds_sub (by repeat (first | exact SubFr.nil | refine SubFr.cons rfl ?_)) (by repeat (first | exact DropL.refl | apply DropL.skip)))
  · have e : i = p.length := by omega
    subst e
    repeat (first | ((with_reducible refine Tr.step rfl ?_); (first | ((with_reducible refine Knd.move ?_); (refine Exec.stab rfl (Stab.move rfl) rfl ?_)) | ((with_reducible refine Knd.assign ?_); (refine Exec.stab rfl (Stab.assign rfl) rfl ?_)) | ((with_reducible refine Knd.len ?_); ((refine Exec.stab rfl (Stab.len rfl (tysOk.get rfl) rfl) rfl ?_))) | ((with_reducible refine Knd.binOp ?_); ((refine Exec.stab rfl (Stab.int rfl rfl rfl) rfl ?_))))) | (with_reducible refine Tr.next ?_) | (with_reducible refine Tr.seq ?_) | (with_reducible refine Tr.region ?_) | (with_reducible refine Tr.nil ?_) | (with_reducible refine Tr.exit ?_) | (with_reducible refine Tr.ret ?_) | (with_reducible refine Tr.then_exit ?_) | ((with_reducible refine Tr.in_exit ?_ ?_); (exact rfl)) | (refine Tr.cond_f rfl (by first | (with_reducible assumption) | (with_reducible rfl) | (with_reducible exact (not_not_intro rfl)) | omega) ?_))
    (refine Tr.done (by first | exact .inl rfl | exact .inr rfl) rfl (by repeat (first | exact RVs.nil | (apply RVs.cons; (exact RV.tmp rfl)))) (by first | exact Mem.le.refl _ | assumption) (by exact ⟨[], rfl⟩) ⟨rfl, ?_⟩)
    exact ⟨rfl, rfl⟩
set_option maxHeartbeats 2000000 in
theorem rSame_fn (M : Mem) (p : List (List Int)) (A B : Option Addr) (c k : Nat) (hp : Ints2 M (.slice A p.length c) p) (hq : Ints2 M (.slice B p.length k) p) : Fn0 Try.prog 19 [.slice A p.length c, .slice B p.length k] M (fun r M' => r = .bool true ∧ M = M') := by
  have hll := hp.len_le
  refine Fn.intro Try.func19 rfl rfl Try.ntmps19 rfl fun E F => ?_
  repeat (first | ((with_reducible refine Tr.step rfl ?_); (first | ((with_reducible refine Knd.move ?_); (refine Exec.stab rfl (Stab.move rfl) rfl ?_)) | ((with_reducible refine Knd.assign ?_); (refine Exec.stab rfl (Stab.assign rfl) rfl ?_)) | ((with_reducible refine Knd.len ?_); ((refine Exec.stab rfl (Stab.len rfl (tysOk.get rfl) rfl) rfl ?_))) | ((with_reducible refine Knd.binOp ?_); ((refine Exec.stab rfl (Stab.int rfl rfl rfl) rfl ?_))))) | (with_reducible refine Tr.next ?_) | (with_reducible refine Tr.seq ?_) | (with_reducible refine Tr.region ?_) | (with_reducible refine Tr.nil ?_) | (with_reducible refine Tr.skip ?_) | (with_reducible refine Tr.block ?_) | (refine Tr.cond_f rfl (by first | (with_reducible assumption) | (with_reducible rfl) | (with_reducible exact (not_not_intro rfl)) | omega) ?_))
  refine Tr.loop (α := Nat) (fun i => ⟨27, [(5, .int .i64 i), (0, .slice A p.length c), (1, .slice B p.length k)], [], M, [] ++ F⟩) (fun i => i ≤ p.length) (fun i => p.length - i) 0 (by simp) (holds_sub (by repeat (first | exact SubFr.nil | refine SubFr.cons rfl ?_)) (by repeat (first | exact DropL.refl | apply DropL.skip))) (fun i hi => ?_)
  by_cases hlt : i < p.length
  · obtain ⟨x, hx⟩ := get_of_lt hlt
    obtain ⟨hA, ch, hat, A1, k1, rfl, h1⟩ := hp.elem hx
    obtain ⟨hB, ch2, hbt, A2, k2, rfl, h2⟩ := hq.elem hx
    repeat (first | ((with_reducible refine Tr.step rfl ?_); (first | ((with_reducible refine Knd.move ?_); (refine Exec.stab rfl (Stab.move rfl) rfl ?_)) | ((with_reducible refine Knd.len ?_); ((refine Exec.stab rfl (Stab.len rfl (tysOk.get rfl) rfl) rfl ?_))) | ((with_reducible refine Knd.binOp ?_); ((refine Exec.stab rfl (Stab.int rfl rfl rfl) rfl ?_))))) | (with_reducible refine Tr.next ?_) | (with_reducible refine Tr.seq ?_) | (with_reducible refine Tr.region ?_) | (with_reducible refine Tr.nil ?_) | (with_reducible refine Tr.skip ?_) | (with_reducible refine Tr.block ?_) | (refine Tr.cond_t rfl (by first | (with_reducible assumption) | (with_reducible rfl) | (with_reducible exact (not_not_intro rfl)) | omega) ?_))
    (((apply Tr.draw); (kernel_rfl)); (refine TrA.take 0 (by kernel_rfl) rfl (by kernel_rfl) (by first | exact fun _ _ _ h => h | exact fun _ _ _ h => nomatch h.1) (by exact fun _ h => h) rfl (by first | exact Stab.move rfl) rfl rfl ?_); (refine TrA.take 1 (by kernel_rfl) rfl (by kernel_rfl) (by first | exact fun _ _ _ h => h | exact fun _ _ _ h => nomatch h.1) (by exact fun _ h => h) rfl (by first | exact Stab.move rfl) rfl rfl ?_); (refine TrA.take 2 (by kernel_rfl) rfl (by kernel_rfl) (by first | exact fun _ _ _ h => h | exact fun _ _ _ h => nomatch h.1) (by exact fun _ h => h) rfl (by exact Stab.indexAddr rfl rfl (tysOk.get rfl) rfl (tysOk.get rfl) rfl (by omega) (by omega) (by first | rfl | assumption)) rfl rfl ?_); (refine TrA.take 3 (by kernel_rfl) rfl (by kernel_rfl) (by first | exact fun _ _ _ h => h | exact fun _ _ _ h => nomatch h.1) (by exact fun _ h => h) rfl (by exact Stab.loadM rfl (tysOk.get rfl) rfl (by assumption)) rfl rfl ?_); (refine TrA.take 4 (by kernel_rfl) rfl (by kernel_rfl) (by first | exact fun _ _ _ h => h | exact fun _ _ _ h => nomatch h.1) (by exact fun _ h => h) rfl (by first | exact Stab.move rfl) rfl rfl ?_); (refine TrA.take 5 (by kernel_rfl) rfl (by kernel_rfl) (by first | exact fun _ _ _ h => h | exact fun _ _ _ h => nomatch h.1) (by exact fun _ h => h) rfl (by first | exact Stab.move rfl) rfl rfl ?_); (refine TrA.take 6 (by kernel_rfl) rfl (by kernel_rfl) (by first | exact fun _ _ _ h => h | exact fun _ _ _ h => nomatch h.1) (by exact fun _ h => h) rfl (by exact Stab.indexAddr rfl rfl (tysOk.get rfl) rfl (tysOk.get rfl) rfl (by omega) (by omega) (by first | rfl | assumption)) rfl rfl ?_); (refine TrA.take 7 (by kernel_rfl) rfl (by kernel_rfl) (by first | exact fun _ _ _ h => h | exact fun _ _ _ h => nomatch h.1) (by exact fun _ h => h) rfl (by exact Stab.loadM rfl (tysOk.get rfl) rfl (by assumption)) rfl rfl ?_); (refine TrA.eff 8 rfl (by kernel_rfl) (by first | exact .inl rfl | exact .inr ⟨_, _, _, rfl, rfl, rfl⟩) ?_))
    refine Exec.call0 rfl (rSameInts_fn M x A1 A2 k1 k2 h1 h2) rfl ?_
    rintro _ _ _ ⟨rfl, rfl⟩
    refine ⟨Mem.le.refl _, (by exact fun _ h => h), ?_⟩
    ((refine TrA.take 9 (by kernel_rfl) rfl (by kernel_rfl) (by first | exact fun _ _ _ h => h | exact fun _ _ _ h => nomatch h.1) (by exact fun _ h => h) rfl (by first | exact Stab.notw rfl | exact Stab.notd rfl | exact Stab.not rfl | exact Stab.neg rfl (by omega)) rfl rfl ?_); (refine TrA.done (by kernel_rfl) ?_))
    repeat (first | ((with_reducible refine Tr.step rfl ?_); (first | ((with_reducible refine Knd.move ?_); (refine Exec.stab rfl (Stab.move rfl) rfl ?_)) | ((with_reducible refine Knd.assign ?_); (refine Exec.stab rfl (Stab.assign rfl) rfl ?_)) | ((with_reducible refine Knd.binOp ?_); ((refine Exec.stab rfl (Stab.addi rfl rfl (by omega)) rfl ?_))))) | (with_reducible refine Tr.next ?_) | (with_reducible refine Tr.region ?_) | (with_reducible refine Tr.nil ?_) | (with_reducible refine Tr.skip ?_) | (with_reducible refine Tr.in_normal ?_) | (refine Tr.cond_bf rfl (by first | (with_reducible rfl) | (with_reducible assumption) | (with_reducible exact Bool.not_true) | (with_reducible exact Bool.not_false)) ?_))
    refine Tr.again (i + 1) hlt (by omega) (holds_sub (by repeat (first | exact SubFr.nil | refine SubFr.cons rfl ?_)) (by repeat (first | exact DropL.refl | apply DropL.skip)))
  · have e : i = p.length := by omega
    subst e
    repeat (first | ((with_reducible refine Tr.step rfl ?_); (first | ((with_reducible refine Knd.move ?_); (refine Exec.stab rfl (Stab.move rfl) rfl ?_)) | ((with_reducible refine Knd.assign ?_); (refine Exec.stab rfl (Stab.assign rfl) rfl ?_)) | ((with_reducible refine Knd.len ?_); ((refine Exec.stab rfl (Stab.len rfl (tysOk.get rfl) rfl) rfl ?_))) | ((with_reducible refine Knd.binOp ?_); ((refine Exec.stab rfl (Stab.int rfl rfl rfl) rfl ?_))))) | (with_reducible refine Tr.next ?_) | (with_reducible refine Tr.seq ?_) | (with_reducible refine Tr.region ?_) | (with_reducible refine Tr.nil ?_) | (with_reducible refine Tr.exit ?_) | (with_reducible refine Tr.ret ?_) | (with_reducible refine Tr.then_exit ?_) | ((with_reducible refine Tr.in_exit ?_ ?_); (exact rfl)) | (refine Tr.cond_f rfl (by first | (with_reducible assumption) | (with_reducible rfl) | (with_reducible exact (not_not_intro rfl)) | omega) ?_))
    (refine Tr.done (by first | exact .inl rfl | exact .inr rfl) rfl (by repeat (first | exact RVs.nil | (apply RVs.cons; (exact RV.tmp rfl)))) (by first | exact Mem.le.refl _ | assumption) (by exact ⟨[], rfl⟩) ⟨rfl, ?_⟩)
    exact ⟨rfl, rfl⟩
end Go.Proofs.Ytmioocddmlfboaa
/-
  Matching: the contracts of the reference's Most and Few.
  Conditions: none.
-/
namespace Go.Proofs.Ytmioocddmlfboaa
open Go Bf
attribute [local irreducible] Tr Exec Stab HasTy Go.Addr.add IntKind.wrap
theorem lackB_range {fits : List (List Bool)} {sup need : List Int} (hv : Vld fits sup need) (s : Nat) : -100000000 ≤ lackB fits sup need s ∧ lackB fits sup need s ≤ 100000000 := by
  have h1 := sum_small (n := need.length) (f := fun b => if s.testBit b then need.getD b 0 else 0) (fun i _ => by
    have := getD_rng hv.rn i
    show 0 ≤ (if s.testBit i then need.getD i 0 else 0) ∧ (if s.testBit i then need.getD i 0 else 0) ≤ 1048576
    split <;> omega)
  have h2 := sum_small (n := sup.length) (f := fun k => if touchB (fits.getD k []) s then sup.getD k 0 else 0) (fun i _ => by
    have := getD_rng hv.rs i
    show 0 ≤ (if touchB (fits.getD i []) s then sup.getD i 0 else 0) ∧ (if touchB (fits.getD i []) s then sup.getD i 0 else 0) ≤ 1048576
    split <;> omega)
  have := hv.ls
  have := hv.ln
  unfold lackB
  omega
/-- the greatest lack of a set -/
structure MaxLack (fits : List (List Bool)) (sup need : List Int) (top : Nat) (v : Int) : Prop where
  nn : 0 ≤ v
  le : ∀ s, 1 ≤ s → s < top → lackB fits sup need s ≤ v
  is : v = 0 ∨ ∃ s, 1 ≤ s ∧ s < top ∧ lackB fits sup need s = v
theorem MaxLack.start (fits : List (List Bool)) (sup need : List Int) : MaxLack fits sup need 1 0 := ⟨Int.le_refl _, fun s h1 h2 => by omega, .inl rfl⟩
theorem MaxLack.step {fits : List (List Bool)} {sup need : List Int} {i : Nat} {v : Int} (h : MaxLack fits sup need i v) (hi : 1 ≤ i) : MaxLack fits sup need (i + 1) (max v (lackB fits sup need i)) := by
  refine ⟨by have := h.nn; omega, fun s h1 h2 => ?_, ?_⟩
  · by_cases e : s = i
    · subst e; omega
    · have := h.le s h1 (by omega); omega
  · rcases Int.le_total (lackB fits sup need i) v with hle | hle
    · rw [Int.max_eq_left hle]
      rcases h.is with h0 | ⟨s, h1, h2, h3⟩
      · exact .inl h0
      · exact .inr ⟨s, h1, by omega, h3⟩
    · rw [Int.max_eq_right hle]
      exact .inr ⟨i, hi, by omega, rfl⟩
theorem MaxLack.range {fits : List (List Bool)} {sup need : List Int} {i : Nat} {v : Int} (h : MaxLack fits sup need i v) (hv : Vld fits sup need) : 0 ≤ v ∧ v ≤ 100000000 := by
  refine ⟨h.nn, ?_⟩
  rcases h.is with h0 | ⟨s, _, _, rfl⟩
  · omega
  · exact (lackB_range hv s).2
set_option maxHeartbeats 4000000 in
theorem rMost_fn (M : Mem) (A0 A1 A2 : Option Addr) (c0 c1 c2 : Nat) (fits : List (List Bool)) (sup need : List Int) (hf : Fits2 M (.slice A0 fits.length c0) fits) (hs : Ints M (.slice A1 sup.length c1) sup) (hn : Ints M (.slice A2 need.length c2) need) (hv : Vld fits sup need) (hn62 : need.length ≤ 61) :
    Fn0 Try.prog 18 [.slice A0 fits.length c0, .slice A1 sup.length c1, .slice A2 need.length c2] M (fun r M' => (∃ v, r = .tuple #[.int .i64 (sumN need.length (fun i => need.getD i 0) - v), .int .i64 0] ∧ MaxLack fits sup need (2 ^ need.length) v) ∧ M = M') := by
  have l2 := hv.ln
  refine Fn.intro Try.func18 rfl rfl Try.ntmps18 rfl fun E F => ?_
  repeat (first | ((with_reducible refine Tr.step rfl ?_); (first | ((with_reducible refine Knd.move ?_); (refine Exec.stab rfl (Stab.move rfl) rfl ?_)) | ((with_reducible refine Knd.assign ?_); (refine Exec.stab rfl (Stab.assign rfl) rfl ?_)))) | (with_reducible refine Tr.next ?_) | (with_reducible refine Tr.seq ?_) | (with_reducible refine Tr.region ?_) | (with_reducible refine Tr.nil ?_))
  ((refine Tr.step rfl ?_)); refine Exec.call0 rfl (rValid_fn M A0 A1 A2 c0 c1 c2 fits sup need hf hs hn) rfl ?_
  rintro _ _ _ ⟨rfl, rfl⟩
  rw [vld_iff.2 hv]
  repeat (first | ((with_reducible refine Tr.step rfl ?_); (first | ((with_reducible refine Knd.assign ?_); (refine Exec.stab rfl (Stab.assign rfl) rfl ?_)) | ((with_reducible refine Knd.unOp ?_); ((refine Exec.stab rfl (Stab.not rfl) rfl ?_))))) | (with_reducible refine Tr.next ?_) | (with_reducible refine Tr.seq ?_) | (with_reducible refine Tr.region ?_) | (with_reducible refine Tr.nil ?_) | (with_reducible refine Tr.skip ?_) | (with_reducible refine Tr.block ?_) | (refine Tr.cond_bf rfl (by first | (with_reducible rfl) | (with_reducible assumption) | (with_reducible exact Bool.not_true) | (with_reducible exact Bool.not_false)) ?_))
  refine Tr.loop (α := Nat) (fun i => ⟨46, [(9, .int .i64 i), (8, .int .i64 (sumN i (fun i => need.getD i 0))), (0, .slice A0 fits.length c0), (1, .slice A1 sup.length c1), (2, .slice A2 need.length c2)], [], M, [] ++ F⟩) (fun i => i ≤ need.length) (fun i => need.length - i) 0 (by simp) (holds_sub (by repeat (first | exact SubFr.nil | refine SubFr.cons rfl ?_)) (by repeat (first | exact DropL.refl | apply DropL.skip))) (fun i hi => ?_)
  have b1 := sum_small (n := i) (f := fun i => need.getD i 0) (fun j _ => getD_rng hv.rn j)
  by_cases hlt : i < need.length
  · obtain ⟨x, hx⟩ := get_of_lt hlt
    obtain ⟨hA, hat⟩ := hn.at hx
    have hxr := hv.rn x (List.mem_of_getElem? hx)
    have hstep : sumN (i + 1) (fun i => need.getD i 0) = sumN i (fun i => need.getD i 0) + x := by rw [sumN, getD_of hx]
    repeat (first | ((with_reducible refine Tr.step rfl ?_); (first | ((with_reducible refine Knd.move ?_); (refine Exec.stab rfl (Stab.move rfl) rfl ?_)) | ((with_reducible refine Knd.assign ?_); (refine Exec.stab rfl (Stab.assign rfl) rfl ?_)) | ((with_reducible refine Knd.load ?_); ((refine Exec.stab rfl (Stab.loadM rfl (tysOk.get rfl) rfl (by assumption)) rfl ?_))) | ((with_reducible refine Knd.len ?_); ((refine Exec.stab rfl (Stab.len rfl (tysOk.get rfl) rfl) rfl ?_))) | ((with_reducible refine Knd.binOp ?_); (first | (refine Exec.stab rfl (Stab.addi rfl rfl (by omega)) rfl ?_) | (refine Exec.stab rfl (Stab.int rfl rfl rfl) rfl ?_))) | ((with_reducible refine Knd.indexAddr ?_); ((refine Exec.stab rfl (Stab.indexAddr rfl rfl (tysOk.get rfl) rfl (tysOk.get rfl) rfl (by omega) (by omega) (by first | rfl | assumption)) rfl ?_))))) | (with_reducible refine Tr.next ?_) | (with_reducible refine Tr.seq ?_) | (with_reducible refine Tr.region ?_) | (with_reducible refine Tr.nil ?_) | (with_reducible refine Tr.skip ?_) | (with_reducible refine Tr.block ?_) | (with_reducible refine Tr.in_normal ?_) | (refine Tr.cond_t rfl (by first | (with_reducible assumption) | (with_reducible rfl) | (with_reducible exact (not_not_intro rfl)) | omega) ?_))
    rw [← hstep]
    refine Tr.again (i + 1) hlt (by omega) (holds_sub (by repeat (first | exact SubFr.nil | refine SubFr.cons rfl ?_)) (by repeat (first | exact DropL.refl | apply DropL.skip)))
  have e : i = need.length := by omega
  subst e
  generalize hT : sumN need.length (fun i => need.getD i 0) = T at b1
  repeat (first | ((with_reducible refine Tr.step rfl ?_); (first | ((with_reducible refine Knd.move ?_); (refine Exec.stab rfl (Stab.move rfl) rfl ?_)) | ((with_reducible refine Knd.assign ?_); (refine Exec.stab rfl (Stab.assign rfl) rfl ?_)) | ((with_reducible refine Knd.len ?_); ((refine Exec.stab rfl (Stab.len rfl (tysOk.get rfl) rfl) rfl ?_))) | ((with_reducible refine Knd.binOp ?_); ((refine Exec.stab rfl (Stab.int rfl rfl rfl) rfl ?_))))) | (with_reducible refine Tr.next ?_) | (with_reducible refine Tr.seq ?_) | (with_reducible refine Tr.region ?_) | (with_reducible refine Tr.nil ?_) | (with_reducible refine Tr.block ?_) | (with_reducible refine Tr.exit ?_) | (with_reducible refine Tr.then_exit ?_) | ((with_reducible refine Tr.in_exit ?_ ?_); (exact rfl)) | (refine Tr.cond_f rfl (by first | (with_reducible assumption) | (with_reducible rfl) | (with_reducible exact (not_not_intro rfl)) | omega) ?_))
  have hp1 := Nat.two_pow_pos need.length
  have hp2 : 2 ^ need.length ≤ 2 ^ 61 := Nat.pow_le_pow_right (by decide) hn62
  refine Tr.loop (α := Nat × Int) (fun y => ⟨46, [(11, .int .i64 y.1), (10, .int .i64 y.2), (8, .int .i64 T), (0, .slice A0 fits.length c0), (1, .slice A1 sup.length c1), (2, .slice A2 need.length c2)], [], M, [] ++ F⟩) (fun y => 1 ≤ y.1 ∧ y.1 ≤ 2 ^ need.length ∧ MaxLack fits sup need y.1 y.2) (fun y => 2 ^ need.length - y.1) (1, 0) ⟨by simp, by simp only; omega, MaxLack.start _ _ _⟩ (holds_sub (by repeat (first | exact SubFr.nil | refine SubFr.cons rfl ?_)) (by repeat (first | exact DropL.refl | apply DropL.skip))) (fun y hy => ?_)
  obtain ⟨i, v⟩ := y
  obtain ⟨h1, h2, hm⟩ := hy
  simp only at h1 h2 hm
  dsimp only
  have hvr := hm.range hv
  by_cases hlt : i < 2 ^ need.length
  · repeat (first | ((with_reducible refine Tr.step rfl ?_); (first | ((with_reducible refine Knd.move ?_); (refine Exec.stab rfl (Stab.move rfl) rfl ?_)) | ((with_reducible refine Knd.len ?_); ((refine Exec.stab rfl (Stab.len rfl (tysOk.get rfl) rfl) rfl ?_))) | ((with_reducible refine Knd.binOp ?_); (first | (refine Exec.stab rfl (Stab.shl1 rfl rfl (by omega)) rfl ?_) | (refine Exec.stab rfl (Stab.int rfl rfl rfl) rfl ?_))))) | (with_reducible refine Tr.next ?_) | (with_reducible refine Tr.seq ?_) | (with_reducible refine Tr.region ?_) | (with_reducible refine Tr.nil ?_) | (with_reducible refine Tr.skip ?_) | (with_reducible refine Tr.block ?_) | (refine Tr.cond_t rfl (by first | (with_reducible assumption) | (with_reducible rfl) | (with_reducible exact (not_not_intro rfl)) | omega) ?_))
    ((refine Tr.step rfl ?_)); refine Exec.call0 rfl (lack_fn M A0 A1 A2 c0 c1 c2 fits sup need hf hs hn hv i (by omega)) rfl ?_
    rintro _ _ _ ⟨rfl, rfl⟩
    repeat (first | ((with_reducible refine Tr.step rfl ?_); (first | ((with_reducible refine Knd.move ?_); (refine Exec.stab rfl (Stab.move rfl) rfl ?_)) | ((with_reducible refine Knd.assign ?_); (refine Exec.stab rfl (Stab.assign rfl) rfl ?_)) | ((with_reducible refine Knd.max ?_); (refine Exec.stab rfl (Stab.max2 rfl rfl) rfl ?_)) | ((with_reducible refine Knd.binOp ?_); ((refine Exec.stab rfl (Stab.addi rfl rfl (by omega)) rfl ?_))))) | (with_reducible refine Tr.next ?_) | (with_reducible refine Tr.region ?_) | (with_reducible refine Tr.nil ?_) | (with_reducible refine Tr.in_normal ?_))
    refine Tr.again (i + 1, _) ⟨by simp only; omega, by simp only; omega, hm.step h1⟩ (by simp only; omega) (holds_sub (by repeat (first | exact SubFr.nil | refine SubFr.cons rfl ?_)) (by repeat (first | exact DropL.refl | apply DropL.skip)))
  · have e : i = 2 ^ need.length := by omega
    rw [← e]
    repeat (first | ((with_reducible refine Tr.step rfl ?_); (first | ((with_reducible refine Knd.move ?_); (refine Exec.stab rfl (Stab.move rfl) rfl ?_)) | ((with_reducible refine Knd.assign ?_); (refine Exec.stab rfl (Stab.assign rfl) rfl ?_)) | ((with_reducible refine Knd.len ?_); ((refine Exec.stab rfl (Stab.len rfl (tysOk.get rfl) rfl) rfl ?_))) | ((with_reducible refine Knd.binOp ?_); (first | (refine Exec.stab rfl (Stab.subi rfl rfl (by omega)) rfl ?_) | (refine Exec.stab rfl (Stab.shl1 rfl rfl (by omega)) rfl ?_) | (refine Exec.stab rfl (Stab.int rfl rfl rfl) rfl ?_))))) | (with_reducible refine Tr.next ?_) | (with_reducible refine Tr.seq ?_) | (with_reducible refine Tr.region ?_) | (with_reducible refine Tr.nil ?_) | (with_reducible refine Tr.exit ?_) | (with_reducible refine Tr.ret ?_) | (with_reducible refine Tr.then_exit ?_) | ((with_reducible refine Tr.in_exit ?_ ?_); (exact rfl)) | (refine Tr.cond_f rfl (by first | (with_reducible assumption) | (with_reducible rfl) | (with_reducible exact (not_not_intro rfl)) | omega) ?_))
    (refine Tr.done (by first | exact .inl rfl | exact .inr rfl) rfl (by repeat (first | exact RVs.nil | (apply RVs.cons; (exact RV.tmp rfl)))) (by first | exact Mem.le.refl _ | assumption) (by exact ⟨[], rfl⟩) ⟨rfl, ?_⟩)
    exact ⟨⟨v, rfl, e ▸ hm⟩, rfl⟩
set_option maxHeartbeats 1000000 in
theorem rMostBad_fn (M : Mem) (A0 A1 A2 : Option Addr) (c0 c1 c2 : Nat) (fits : List (List Bool)) (sup need : List Int) (hf : Fits2 M (.slice A0 fits.length c0) fits) (hs : Ints M (.slice A1 sup.length c1) sup) (hn : Ints M (.slice A2 need.length c2) need) (hv : validF fits sup need = false) :
    Fn0 Try.prog 18 [.slice A0 fits.length c0, .slice A1 sup.length c1, .slice A2 need.length c2] M (fun r M' => r = .tuple #[.int .i64 0, .int .i64 300] ∧ M = M') := by
  refine Fn.intro Try.func18 rfl rfl Try.ntmps18 rfl fun E F => ?_
  repeat (first | ((with_reducible refine Tr.step rfl ?_); (first | ((with_reducible refine Knd.move ?_); (refine Exec.stab rfl (Stab.move rfl) rfl ?_)) | ((with_reducible refine Knd.assign ?_); (refine Exec.stab rfl (Stab.assign rfl) rfl ?_)))) | (with_reducible refine Tr.next ?_) | (with_reducible refine Tr.seq ?_) | (with_reducible refine Tr.region ?_) | (with_reducible refine Tr.nil ?_))
  ((refine Tr.step rfl ?_)); refine Exec.call0 rfl (rValid_fn M A0 A1 A2 c0 c1 c2 fits sup need hf hs hn) rfl ?_
  rintro _ _ _ ⟨rfl, rfl⟩
  rw [hv]
  repeat (first | ((with_reducible refine Tr.step rfl ?_); (first | ((with_reducible refine Knd.assign ?_); (refine Exec.stab rfl (Stab.assign rfl) rfl ?_)) | ((with_reducible refine Knd.unOp ?_); ((refine Exec.stab rfl (Stab.not rfl) rfl ?_))))) | (with_reducible refine Tr.next ?_) | (with_reducible refine Tr.seq ?_) | (with_reducible refine Tr.region ?_) | (with_reducible refine Tr.nil ?_) | (with_reducible refine Tr.ret ?_) | (with_reducible refine Tr.then_ret ?_) | (refine Tr.cond_bt rfl (by first | (with_reducible rfl) | (with_reducible assumption) | (with_reducible exact Bool.not_true) | (with_reducible exact Bool.not_false)) ?_))
  (refine Tr.done (by first | exact .inl rfl | exact .inr rfl) rfl (by repeat (first | exact RVs.nil | (apply RVs.cons; (exact RV.tmp rfl)))) (by first | exact Mem.le.refl _ | assumption) (by exact ⟨[], rfl⟩) ⟨rfl, ?_⟩)
  exact ⟨rfl, rfl⟩
/-- few supplies and requests, or too many -/
def FewP (fits : List (List Bool)) (sup need : List Int) : Prop := fits.length ≤ 80 ∧ (sup.length ≤ 6 ∨ 64 < sup.length ∧ sup.length ≤ 80) ∧ (need.length ≤ 6 ∨ 64 < need.length ∧ need.length ≤ 80)
set_option maxHeartbeats 4000000 in
theorem few_fn (M : Mem) (A0 A1 A2 : Option Addr) (c0 c1 c2 : Nat) (fits : List (List Bool)) (sup need : List Int) (hf : Fits2 M (.slice A0 fits.length c0) fits) (h1 : sup.length ≤ 9223372036854775807) (h2 : need.length ≤ 9223372036854775807) :
    Fn0 Try.prog 10 [.slice A0 fits.length c0, .slice A1 sup.length c1, .slice A2 need.length c2] M (fun r M' => (∃ b : Bool, r = .bool b ∧ (b = true → FewP fits sup need)) ∧ M = M') := by
  have l0 := hf.len_le
  refine Fn.intro Try.func10 rfl rfl Try.ntmps10 rfl fun E F => ?_
  repeat (first | ((with_reducible refine Tr.step rfl ?_); (((with_reducible refine Knd.assign ?_); (refine Exec.stab rfl (Stab.assign rfl) rfl ?_)))) | (with_reducible refine Tr.next ?_) | (with_reducible refine Tr.seq ?_) | (with_reducible refine Tr.region ?_) | (with_reducible refine Tr.nil ?_) | (with_reducible refine Tr.block ?_))
  refine Tr.loop (α := Nat) (fun i => ⟨53, [(7, .int .i64 i), (0, .slice A0 fits.length c0), (1, .slice A1 sup.length c1), (2, .slice A2 need.length c2)], [], M, [] ++ F⟩) (fun i => i ≤ fits.length) (fun i => fits.length - i) 0 (by simp) (holds_sub (by repeat (first | exact SubFr.nil | refine SubFr.cons rfl ?_)) (by repeat (first | exact DropL.refl | apply DropL.skip))) (fun i hi => ?_)
  by_cases hlt : i < fits.length
  · obtain ⟨x, hx⟩ := get_of_lt hlt
    obtain ⟨hA, ch, hat, B, k, rfl, hB⟩ := hf.elem hx
    have hxl := bools_len hB
    by_cases h80 : 80 < x.length
    · repeat (first | ((with_reducible refine Tr.step rfl ?_); (first | ((with_reducible refine Knd.move ?_); (refine Exec.stab rfl (Stab.move rfl) rfl ?_)) | ((with_reducible refine Knd.assign ?_); (refine Exec.stab rfl (Stab.assign rfl) rfl ?_)) | ((with_reducible refine Knd.load ?_); ((refine Exec.stab rfl (Stab.loadM rfl (tysOk.get rfl) rfl (by assumption)) rfl ?_))) | ((with_reducible refine Knd.len ?_); ((refine Exec.stab rfl (Stab.len rfl (tysOk.get rfl) rfl) rfl ?_))) | ((with_reducible refine Knd.binOp ?_); ((refine Exec.stab rfl (Stab.int rfl rfl rfl) rfl ?_))) | ((with_reducible refine Knd.indexAddr ?_); ((refine Exec.stab rfl (Stab.indexAddr rfl rfl (tysOk.get rfl) rfl (tysOk.get rfl) rfl (by omega) (by omega) (by first | rfl | assumption)) rfl ?_))))) | (with_reducible refine Tr.next ?_) | (with_reducible refine Tr.seq ?_) | (with_reducible refine Tr.region ?_) | (with_reducible refine Tr.nil ?_) | (with_reducible refine Tr.skip ?_) | (with_reducible refine Tr.block ?_) | (with_reducible refine Tr.ret ?_) | (with_reducible refine Tr.then_ret ?_) | (with_reducible refine Tr.in_ret ?_) | (refine Tr.cond_t rfl (by first | (with_reducible assumption) | (with_reducible rfl) | (with_reducible exact (not_not_intro rfl)) | omega) ?_))
      (refine Tr.done (by first | exact .inl rfl | exact .inr rfl) rfl (by repeat (first | exact RVs.nil | (apply RVs.cons; (exact RV.tmp rfl)))) (by first | exact Mem.le.refl _ | assumption) (by exact ⟨[], rfl⟩) ⟨rfl, ?_⟩)
      exact ⟨⟨false, rfl, fun h => by cases h⟩, rfl⟩
    · repeat (first | ((with_reducible refine Tr.step rfl ?_); (first | ((with_reducible refine Knd.move ?_); (refine Exec.stab rfl (Stab.move rfl) rfl ?_)) | ((with_reducible refine Knd.assign ?_); (refine Exec.stab rfl (Stab.assign rfl) rfl ?_)) | ((with_reducible refine Knd.load ?_); ((refine Exec.stab rfl (Stab.loadM rfl (tysOk.get rfl) rfl (by assumption)) rfl ?_))) | ((with_reducible refine Knd.len ?_); ((refine Exec.stab rfl (Stab.len rfl (tysOk.get rfl) rfl) rfl ?_))) | ((with_reducible refine Knd.binOp ?_); (first | (refine Exec.stab rfl (Stab.addi rfl rfl (by omega)) rfl ?_) | (refine Exec.stab rfl (Stab.int rfl rfl rfl) rfl ?_))) | ((with_reducible refine Knd.indexAddr ?_); ((refine Exec.stab rfl (Stab.indexAddr rfl rfl (tysOk.get rfl) rfl (tysOk.get rfl) rfl (by omega) (by omega) (by first | rfl | assumption)) rfl ?_))))) | (with_reducible refine Tr.next ?_) | (with_reducible refine Tr.seq ?_) | (with_reducible refine Tr.region ?_) | (with_reducible refine Tr.nil ?_) | (with_reducible refine Tr.skip ?_) | (with_reducible refine Tr.block ?_) | (with_reducible refine Tr.in_normal ?_) | (refine Tr.cond_t rfl (by first | (with_reducible assumption) | (with_reducible rfl) | (with_reducible exact (not_not_intro rfl)) | omega) ?_) | (refine Tr.cond_f rfl (by first | (with_reducible assumption) | (with_reducible rfl) | (with_reducible exact (not_not_intro rfl)) | omega) ?_))
      refine Tr.again (i + 1) hlt (by omega) (holds_sub (by repeat (first | exact SubFr.nil | refine SubFr.cons rfl ?_)) (by repeat (first | exact DropL.refl | apply DropL.skip)))
  have e : i = fits.length := by omega
  subst e
  by_cases a1 : fits.length ≤ 80
  rotate_left
  · repeat (first | ((with_reducible refine Tr.step rfl ?_); (first | ((with_reducible refine Knd.move ?_); (refine Exec.stab rfl (Stab.move rfl) rfl ?_)) | ((with_reducible refine Knd.assign ?_); (refine Exec.stab rfl (Stab.assign rfl) rfl ?_)) | ((with_reducible refine Knd.len ?_); ((refine Exec.stab rfl (Stab.len rfl (tysOk.get rfl) rfl) rfl ?_))) | ((with_reducible refine Knd.binOp ?_); ((refine Exec.stab rfl (Stab.int rfl rfl rfl) rfl ?_))) | ((with_reducible refine Knd.pick ?_); (first | (refine Exec.stab rfl (Stab.pick_f rfl (by first | (with_reducible rfl) | (with_reducible assumption) | (with_reducible exact Bool.not_true) | (with_reducible exact Bool.not_false)) rfl) rfl ?_) | (refine Exec.stab rfl (Stab.pick_fd rfl (by first | (with_reducible assumption) | (with_reducible rfl) | (with_reducible exact (not_not_intro rfl)) | omega) rfl) rfl ?_))))) | (with_reducible refine Tr.next ?_) | (with_reducible refine Tr.seq ?_) | (with_reducible refine Tr.region ?_) | (with_reducible refine Tr.nil ?_) | (refine Tr.guard_s1 rfl rfl rfl (by first | (with_reducible rfl) | (with_reducible assumption) | (with_reducible exact Bool.not_true) | (with_reducible exact Bool.not_false)) rfl rfl ?_) | (refine Tr.guard_n rfl rfl rfl (by first | (with_reducible assumption) | (with_reducible rfl) | (with_reducible exact (not_not_intro rfl)) | omega) rfl rfl ?_) | (refine Tr.guard_u rfl rfl rfl rfl rfl ?_) | (with_reducible refine Tr.exit ?_) | (with_reducible refine Tr.ret ?_) | (with_reducible refine Tr.then_exit ?_) | ((with_reducible refine Tr.in_exit ?_ ?_); (exact rfl)) | (refine Tr.cond_f rfl (by first | (with_reducible assumption) | (with_reducible rfl) | (with_reducible exact (not_not_intro rfl)) | omega) ?_))
    (refine Tr.done (by first | exact .inl rfl | exact .inr rfl) rfl (by repeat (first | exact RVs.nil | (apply RVs.cons; (exact RV.tmp rfl)))) (by first | exact Mem.le.refl _ | assumption) (by exact ⟨[], rfl⟩) ⟨rfl, ?_⟩)
    exact ⟨⟨false, rfl, fun h => by cases h⟩, rfl⟩
  by_cases a2 : sup.length ≤ 6
  · by_cases b2 : need.length ≤ 6
    · repeat (first | ((with_reducible refine Tr.step rfl ?_); (first | ((with_reducible refine Knd.move ?_); (refine Exec.stab rfl (Stab.move rfl) rfl ?_)) | ((with_reducible refine Knd.assign ?_); (refine Exec.stab rfl (Stab.assign rfl) rfl ?_)) | ((with_reducible refine Knd.len ?_); ((refine Exec.stab rfl (Stab.len rfl (tysOk.get rfl) rfl) rfl ?_))) | ((with_reducible refine Knd.binOp ?_); ((refine Exec.stab rfl (Stab.int rfl rfl rfl) rfl ?_))) | ((with_reducible refine Knd.pick ?_); (first | (refine Exec.stab rfl (Stab.pick_t rfl (by first | (with_reducible rfl) | (with_reducible assumption) | (with_reducible exact Bool.not_true) | (with_reducible exact Bool.not_false)) rfl) rfl ?_) | (refine Exec.stab rfl (Stab.pick_td rfl (by first | (with_reducible assumption) | (with_reducible rfl) | (with_reducible exact (not_not_intro rfl)) | omega) rfl) rfl ?_))))) | (with_reducible refine Tr.next ?_) | (with_reducible refine Tr.seq ?_) | (with_reducible refine Tr.region ?_) | (with_reducible refine Tr.nil ?_) | ((refine Tr.guard_l rfl rfl rfl (by first | (with_reducible rfl) | (with_reducible assumption) | (with_reducible exact Bool.not_true) | (with_reducible exact Bool.not_false)) ?_); (first | ((with_reducible refine Knd.move ?_); (refine Exec.stab rfl (Stab.move rfl) rfl ?_)) | ((with_reducible refine Knd.len ?_); ((refine Exec.stab rfl (Stab.len rfl (tysOk.get rfl) rfl) rfl ?_))) | ((with_reducible refine Knd.binOp ?_); ((refine Exec.stab rfl (Stab.int rfl rfl rfl) rfl ?_))) | ((with_reducible refine Knd.pick ?_); ((refine Exec.stab rfl (Stab.pick_td rfl (by first | (with_reducible assumption) | (with_reducible rfl) | (with_reducible exact (not_not_intro rfl)) | omega) rfl) rfl ?_))))) | ((refine Tr.guard_y rfl rfl rfl (by first | (with_reducible assumption) | (with_reducible rfl) | (with_reducible exact (not_not_intro rfl)) | omega) ?_); (first | ((with_reducible refine Knd.move ?_); (refine Exec.stab rfl (Stab.move rfl) rfl ?_)) | ((with_reducible refine Knd.len ?_); ((refine Exec.stab rfl (Stab.len rfl (tysOk.get rfl) rfl) rfl ?_))) | ((with_reducible refine Knd.binOp ?_); ((refine Exec.stab rfl (Stab.int rfl rfl rfl) rfl ?_))) | ((with_reducible refine Knd.pick ?_); ((refine Exec.stab rfl (Stab.pick_td rfl (by first | (with_reducible assumption) | (with_reducible rfl) | (with_reducible exact (not_not_intro rfl)) | omega) rfl) rfl ?_))))) | (refine Tr.guard_n' rfl rfl rfl (by first | (with_reducible assumption) | (with_reducible rfl) | (with_reducible exact (not_not_intro rfl)) | omega) rfl rfl ?_) | (refine Tr.guard_u rfl rfl rfl rfl rfl ?_) | (with_reducible refine Tr.exit ?_) | (with_reducible refine Tr.ret ?_) | (with_reducible refine Tr.then_exit ?_) | ((with_reducible refine Tr.in_exit ?_ ?_); (exact rfl)) | (refine Tr.cond_f rfl (by first | (with_reducible assumption) | (with_reducible rfl) | (with_reducible exact (not_not_intro rfl)) | omega) ?_))
      (refine Tr.done (by first | exact .inl rfl | exact .inr rfl) rfl (by repeat (first | exact RVs.nil | (apply RVs.cons; (exact RV.tmp rfl)))) (by first | exact Mem.le.refl _ | assumption) (by exact ⟨[], rfl⟩) ⟨rfl, ?_⟩)
      exact ⟨⟨_, rfl, fun _ => ⟨a1, .inl a2, .inl b2⟩⟩, rfl⟩
    · by_cases b3 : 64 < need.length
      · by_cases b4 : need.length ≤ 80
        · repeat (first | ((with_reducible refine Tr.step rfl ?_); (first | ((with_reducible refine Knd.move ?_); (refine Exec.stab rfl (Stab.move rfl) rfl ?_)) | ((with_reducible refine Knd.assign ?_); (refine Exec.stab rfl (Stab.assign rfl) rfl ?_)) | ((with_reducible refine Knd.len ?_); ((refine Exec.stab rfl (Stab.len rfl (tysOk.get rfl) rfl) rfl ?_))) | ((with_reducible refine Knd.binOp ?_); ((refine Exec.stab rfl (Stab.int rfl rfl rfl) rfl ?_))) | ((with_reducible refine Knd.pick ?_); (first | (refine Exec.stab rfl (Stab.pick_t rfl (by first | (with_reducible rfl) | (with_reducible assumption) | (with_reducible exact Bool.not_true) | (with_reducible exact Bool.not_false)) rfl) rfl ?_) | (refine Exec.stab rfl (Stab.pick_td rfl (by first | (with_reducible assumption) | (with_reducible rfl) | (with_reducible exact (not_not_intro rfl)) | omega) rfl) rfl ?_))))) | (with_reducible refine Tr.next ?_) | (with_reducible refine Tr.seq ?_) | (with_reducible refine Tr.region ?_) | (with_reducible refine Tr.nil ?_) | ((refine Tr.guard_l rfl rfl rfl (by first | (with_reducible rfl) | (with_reducible assumption) | (with_reducible exact Bool.not_true) | (with_reducible exact Bool.not_false)) ?_); (first | ((with_reducible refine Knd.move ?_); (refine Exec.stab rfl (Stab.move rfl) rfl ?_)) | ((with_reducible refine Knd.len ?_); ((refine Exec.stab rfl (Stab.len rfl (tysOk.get rfl) rfl) rfl ?_))) | ((with_reducible refine Knd.binOp ?_); ((refine Exec.stab rfl (Stab.int rfl rfl rfl) rfl ?_))) | ((with_reducible refine Knd.pick ?_); ((refine Exec.stab rfl (Stab.pick_fd rfl (by first | (with_reducible assumption) | (with_reducible rfl) | (with_reducible exact (not_not_intro rfl)) | omega) rfl) rfl ?_))))) | ((refine Tr.guard_y rfl rfl rfl (by first | (with_reducible assumption) | (with_reducible rfl) | (with_reducible exact (not_not_intro rfl)) | omega) ?_); (first | ((with_reducible refine Knd.move ?_); (refine Exec.stab rfl (Stab.move rfl) rfl ?_)) | ((with_reducible refine Knd.len ?_); ((refine Exec.stab rfl (Stab.len rfl (tysOk.get rfl) rfl) rfl ?_))) | ((with_reducible refine Knd.binOp ?_); ((refine Exec.stab rfl (Stab.int rfl rfl rfl) rfl ?_))) | ((with_reducible refine Knd.pick ?_); ((refine Exec.stab rfl (Stab.pick_td rfl (by first | (with_reducible assumption) | (with_reducible rfl) | (with_reducible exact (not_not_intro rfl)) | omega) rfl) rfl ?_))))) | ((refine Tr.guard_y' rfl rfl rfl (by first | (with_reducible assumption) | (with_reducible rfl) | (with_reducible exact (not_not_intro rfl)) | omega) ?_); (first | ((with_reducible refine Knd.move ?_); (refine Exec.stab rfl (Stab.move rfl) rfl ?_)) | ((with_reducible refine Knd.len ?_); ((refine Exec.stab rfl (Stab.len rfl (tysOk.get rfl) rfl) rfl ?_))) | ((with_reducible refine Knd.binOp ?_); ((refine Exec.stab rfl (Stab.int rfl rfl rfl) rfl ?_))) | ((with_reducible refine Knd.pick ?_); ((refine Exec.stab rfl (Stab.pick_td rfl (by first | (with_reducible assumption) | (with_reducible rfl) | (with_reducible exact (not_not_intro rfl)) | omega) rfl) rfl ?_))))) | (refine Tr.guard_n' rfl rfl rfl (by first | (with_reducible assumption) | (with_reducible rfl) | (with_reducible exact (not_not_intro rfl)) | omega) rfl rfl ?_) | (refine Tr.guard_u rfl rfl rfl rfl rfl ?_) | (with_reducible refine Tr.exit ?_) | (with_reducible refine Tr.ret ?_) | (with_reducible refine Tr.then_exit ?_) | ((with_reducible refine Tr.in_exit ?_ ?_); (exact rfl)) | (refine Tr.cond_f rfl (by first | (with_reducible assumption) | (with_reducible rfl) | (with_reducible exact (not_not_intro rfl)) | omega) ?_))
          (refine Tr.done (by first | exact .inl rfl | exact .inr rfl) rfl (by repeat (first | exact RVs.nil | (apply RVs.cons; (exact RV.tmp rfl)))) (by first | exact Mem.le.refl _ | assumption) (by exact ⟨[], rfl⟩) ⟨rfl, ?_⟩)
          exact ⟨⟨_, rfl, fun _ => ⟨a1, .inl a2, .inr ⟨b3, b4⟩⟩⟩, rfl⟩
        · repeat (first | ((with_reducible refine Tr.step rfl ?_); (first | ((with_reducible refine Knd.move ?_); (refine Exec.stab rfl (Stab.move rfl) rfl ?_)) | ((with_reducible refine Knd.assign ?_); (refine Exec.stab rfl (Stab.assign rfl) rfl ?_)) | ((with_reducible refine Knd.len ?_); ((refine Exec.stab rfl (Stab.len rfl (tysOk.get rfl) rfl) rfl ?_))) | ((with_reducible refine Knd.binOp ?_); ((refine Exec.stab rfl (Stab.int rfl rfl rfl) rfl ?_))) | ((with_reducible refine Knd.pick ?_); (first | (refine Exec.stab rfl (Stab.pick_t rfl (by first | (with_reducible rfl) | (with_reducible assumption) | (with_reducible exact Bool.not_true) | (with_reducible exact Bool.not_false)) rfl) rfl ?_) | (refine Exec.stab rfl (Stab.pick_td rfl (by first | (with_reducible assumption) | (with_reducible rfl) | (with_reducible exact (not_not_intro rfl)) | omega) rfl) rfl ?_))))) | (with_reducible refine Tr.next ?_) | (with_reducible refine Tr.seq ?_) | (with_reducible refine Tr.region ?_) | (with_reducible refine Tr.nil ?_) | ((refine Tr.guard_l rfl rfl rfl (by first | (with_reducible rfl) | (with_reducible assumption) | (with_reducible exact Bool.not_true) | (with_reducible exact Bool.not_false)) ?_); (first | ((with_reducible refine Knd.move ?_); (refine Exec.stab rfl (Stab.move rfl) rfl ?_)) | ((with_reducible refine Knd.len ?_); ((refine Exec.stab rfl (Stab.len rfl (tysOk.get rfl) rfl) rfl ?_))) | ((with_reducible refine Knd.binOp ?_); ((refine Exec.stab rfl (Stab.int rfl rfl rfl) rfl ?_))) | ((with_reducible refine Knd.pick ?_); ((refine Exec.stab rfl (Stab.pick_fd rfl (by first | (with_reducible assumption) | (with_reducible rfl) | (with_reducible exact (not_not_intro rfl)) | omega) rfl) rfl ?_))))) | ((refine Tr.guard_y rfl rfl rfl (by first | (with_reducible assumption) | (with_reducible rfl) | (with_reducible exact (not_not_intro rfl)) | omega) ?_); (first | ((with_reducible refine Knd.move ?_); (refine Exec.stab rfl (Stab.move rfl) rfl ?_)) | ((with_reducible refine Knd.len ?_); ((refine Exec.stab rfl (Stab.len rfl (tysOk.get rfl) rfl) rfl ?_))) | ((with_reducible refine Knd.binOp ?_); ((refine Exec.stab rfl (Stab.int rfl rfl rfl) rfl ?_))) | ((with_reducible refine Knd.pick ?_); ((refine Exec.stab rfl (Stab.pick_td rfl (by first | (with_reducible assumption) | (with_reducible rfl) | (with_reducible exact (not_not_intro rfl)) | omega) rfl) rfl ?_))))) | ((refine Tr.guard_y' rfl rfl rfl (by first | (with_reducible assumption) | (with_reducible rfl) | (with_reducible exact (not_not_intro rfl)) | omega) ?_); (first | ((with_reducible refine Knd.move ?_); (refine Exec.stab rfl (Stab.move rfl) rfl ?_)) | ((with_reducible refine Knd.len ?_); ((refine Exec.stab rfl (Stab.len rfl (tysOk.get rfl) rfl) rfl ?_))) | ((with_reducible refine Knd.binOp ?_); ((refine Exec.stab rfl (Stab.int rfl rfl rfl) rfl ?_))) | ((with_reducible refine Knd.pick ?_); ((refine Exec.stab rfl (Stab.pick_td rfl (by first | (with_reducible assumption) | (with_reducible rfl) | (with_reducible exact (not_not_intro rfl)) | omega) rfl) rfl ?_))))) | (refine Tr.guard_n' rfl rfl rfl (by first | (with_reducible assumption) | (with_reducible rfl) | (with_reducible exact (not_not_intro rfl)) | omega) rfl rfl ?_) | (refine Tr.guard_u rfl rfl rfl rfl rfl ?_) | (with_reducible refine Tr.exit ?_) | (with_reducible refine Tr.ret ?_) | (with_reducible refine Tr.then_exit ?_) | ((with_reducible refine Tr.in_exit ?_ ?_); (exact rfl)) | (refine Tr.cond_f rfl (by first | (with_reducible assumption) | (with_reducible rfl) | (with_reducible exact (not_not_intro rfl)) | omega) ?_))
          (refine Tr.done (by first | exact .inl rfl | exact .inr rfl) rfl (by repeat (first | exact RVs.nil | (apply RVs.cons; (exact RV.tmp rfl)))) (by first | exact Mem.le.refl _ | assumption) (by exact ⟨[], rfl⟩) ⟨rfl, ?_⟩)
          exact ⟨⟨_, rfl, fun h => by simp at h; omega⟩, rfl⟩
      · repeat (first | ((with_reducible refine Tr.step rfl ?_); (first | ((with_reducible refine Knd.move ?_); (refine Exec.stab rfl (Stab.move rfl) rfl ?_)) | ((with_reducible refine Knd.assign ?_); (refine Exec.stab rfl (Stab.assign rfl) rfl ?_)) | ((with_reducible refine Knd.len ?_); ((refine Exec.stab rfl (Stab.len rfl (tysOk.get rfl) rfl) rfl ?_))) | ((with_reducible refine Knd.binOp ?_); ((refine Exec.stab rfl (Stab.int rfl rfl rfl) rfl ?_))) | ((with_reducible refine Knd.pick ?_); (first | (refine Exec.stab rfl (Stab.pick_t rfl (by first | (with_reducible rfl) | (with_reducible assumption) | (with_reducible exact Bool.not_true) | (with_reducible exact Bool.not_false)) rfl) rfl ?_) | (refine Exec.stab rfl (Stab.pick_td rfl (by first | (with_reducible assumption) | (with_reducible rfl) | (with_reducible exact (not_not_intro rfl)) | omega) rfl) rfl ?_))))) | (with_reducible refine Tr.next ?_) | (with_reducible refine Tr.seq ?_) | (with_reducible refine Tr.region ?_) | (with_reducible refine Tr.nil ?_) | ((refine Tr.guard_l rfl rfl rfl (by first | (with_reducible rfl) | (with_reducible assumption) | (with_reducible exact Bool.not_true) | (with_reducible exact Bool.not_false)) ?_); (first | ((with_reducible refine Knd.move ?_); (refine Exec.stab rfl (Stab.move rfl) rfl ?_)) | ((with_reducible refine Knd.len ?_); ((refine Exec.stab rfl (Stab.len rfl (tysOk.get rfl) rfl) rfl ?_))) | ((with_reducible refine Knd.binOp ?_); ((refine Exec.stab rfl (Stab.int rfl rfl rfl) rfl ?_))) | ((with_reducible refine Knd.pick ?_); ((refine Exec.stab rfl (Stab.pick_fd rfl (by first | (with_reducible assumption) | (with_reducible rfl) | (with_reducible exact (not_not_intro rfl)) | omega) rfl) rfl ?_))))) | ((refine Tr.guard_y rfl rfl rfl (by first | (with_reducible assumption) | (with_reducible rfl) | (with_reducible exact (not_not_intro rfl)) | omega) ?_); (first | ((with_reducible refine Knd.move ?_); (refine Exec.stab rfl (Stab.move rfl) rfl ?_)) | ((with_reducible refine Knd.len ?_); ((refine Exec.stab rfl (Stab.len rfl (tysOk.get rfl) rfl) rfl ?_))) | ((with_reducible refine Knd.binOp ?_); ((refine Exec.stab rfl (Stab.int rfl rfl rfl) rfl ?_))) | ((with_reducible refine Knd.pick ?_); ((refine Exec.stab rfl (Stab.pick_td rfl (by first | (with_reducible assumption) | (with_reducible rfl) | (with_reducible exact (not_not_intro rfl)) | omega) rfl) rfl ?_))))) | ((refine Tr.guard_y' rfl rfl rfl (by first | (with_reducible assumption) | (with_reducible rfl) | (with_reducible exact (not_not_intro rfl)) | omega) ?_); (first | ((with_reducible refine Knd.move ?_); (refine Exec.stab rfl (Stab.move rfl) rfl ?_)) | ((with_reducible refine Knd.len ?_); ((refine Exec.stab rfl (Stab.len rfl (tysOk.get rfl) rfl) rfl ?_))) | ((with_reducible refine Knd.binOp ?_); ((refine Exec.stab rfl (Stab.int rfl rfl rfl) rfl ?_))) | ((with_reducible refine Knd.pick ?_); ((refine Exec.stab rfl (Stab.pick_fd rfl (by first | (with_reducible assumption) | (with_reducible rfl) | (with_reducible exact (not_not_intro rfl)) | omega) rfl) rfl ?_))))) | (refine Tr.guard_n rfl rfl rfl (by first | (with_reducible assumption) | (with_reducible rfl) | (with_reducible exact (not_not_intro rfl)) | omega) rfl rfl ?_) | (refine Tr.guard_n' rfl rfl rfl (by first | (with_reducible assumption) | (with_reducible rfl) | (with_reducible exact (not_not_intro rfl)) | omega) rfl rfl ?_) | (refine Tr.guard_u rfl rfl rfl rfl rfl ?_) | (with_reducible refine Tr.exit ?_) | (with_reducible refine Tr.ret ?_) | (with_reducible refine Tr.then_exit ?_) | ((with_reducible refine Tr.in_exit ?_ ?_); (exact rfl)) | (refine Tr.cond_f rfl (by first | (with_reducible assumption) | (with_reducible rfl) | (with_reducible exact (not_not_intro rfl)) | omega) ?_))
        (refine Tr.done (by first | exact .inl rfl | exact .inr rfl) rfl (by repeat (first | exact RVs.nil | (apply RVs.cons; (exact RV.tmp rfl)))) (by first | exact Mem.le.refl _ | assumption) (by exact ⟨[], rfl⟩) ⟨rfl, ?_⟩)
        exact ⟨⟨_, rfl, fun h => by simp at h⟩, rfl⟩
  · by_cases a3 : 64 < sup.length
    · by_cases a4 : sup.length ≤ 80
      · by_cases b2 : need.length ≤ 6
        · repeat (first | ((with_reducible refine Tr.step rfl ?_); (first | ((with_reducible refine Knd.move ?_); (refine Exec.stab rfl (Stab.move rfl) rfl ?_)) | ((with_reducible refine Knd.assign ?_); (refine Exec.stab rfl (Stab.assign rfl) rfl ?_)) | ((with_reducible refine Knd.len ?_); ((refine Exec.stab rfl (Stab.len rfl (tysOk.get rfl) rfl) rfl ?_))) | ((with_reducible refine Knd.binOp ?_); ((refine Exec.stab rfl (Stab.int rfl rfl rfl) rfl ?_))) | ((with_reducible refine Knd.pick ?_); ((refine Exec.stab rfl (Stab.pick_td rfl (by first | (with_reducible assumption) | (with_reducible rfl) | (with_reducible exact (not_not_intro rfl)) | omega) rfl) rfl ?_))))) | (with_reducible refine Tr.next ?_) | (with_reducible refine Tr.seq ?_) | (with_reducible refine Tr.region ?_) | (with_reducible refine Tr.nil ?_) | ((refine Tr.guard_y rfl rfl rfl (by first | (with_reducible assumption) | (with_reducible rfl) | (with_reducible exact (not_not_intro rfl)) | omega) ?_); (first | ((with_reducible refine Knd.move ?_); (refine Exec.stab rfl (Stab.move rfl) rfl ?_)) | ((with_reducible refine Knd.len ?_); ((refine Exec.stab rfl (Stab.len rfl (tysOk.get rfl) rfl) rfl ?_))) | ((with_reducible refine Knd.binOp ?_); ((refine Exec.stab rfl (Stab.int rfl rfl rfl) rfl ?_))) | ((with_reducible refine Knd.pick ?_); (first | (refine Exec.stab rfl (Stab.pick_td rfl (by first | (with_reducible assumption) | (with_reducible rfl) | (with_reducible exact (not_not_intro rfl)) | omega) rfl) rfl ?_) | (refine Exec.stab rfl (Stab.pick_fd rfl (by first | (with_reducible assumption) | (with_reducible rfl) | (with_reducible exact (not_not_intro rfl)) | omega) rfl) rfl ?_))))) | ((refine Tr.guard_y' rfl rfl rfl (by first | (with_reducible assumption) | (with_reducible rfl) | (with_reducible exact (not_not_intro rfl)) | omega) ?_); (first | ((with_reducible refine Knd.move ?_); (refine Exec.stab rfl (Stab.move rfl) rfl ?_)) | ((with_reducible refine Knd.len ?_); ((refine Exec.stab rfl (Stab.len rfl (tysOk.get rfl) rfl) rfl ?_))) | ((with_reducible refine Knd.binOp ?_); ((refine Exec.stab rfl (Stab.int rfl rfl rfl) rfl ?_))) | ((with_reducible refine Knd.pick ?_); ((refine Exec.stab rfl (Stab.pick_td rfl (by first | (with_reducible assumption) | (with_reducible rfl) | (with_reducible exact (not_not_intro rfl)) | omega) rfl) rfl ?_))))) | (refine Tr.guard_n' rfl rfl rfl (by first | (with_reducible assumption) | (with_reducible rfl) | (with_reducible exact (not_not_intro rfl)) | omega) rfl rfl ?_) | (refine Tr.guard_u rfl rfl rfl rfl rfl ?_) | (with_reducible refine Tr.exit ?_) | (with_reducible refine Tr.ret ?_) | (with_reducible refine Tr.then_exit ?_) | ((with_reducible refine Tr.in_exit ?_ ?_); (exact rfl)) | (refine Tr.cond_f rfl (by first | (with_reducible assumption) | (with_reducible rfl) | (with_reducible exact (not_not_intro rfl)) | omega) ?_))
          (refine Tr.done (by first | exact .inl rfl | exact .inr rfl) rfl (by repeat (first | exact RVs.nil | (apply RVs.cons; (exact RV.tmp rfl)))) (by first | exact Mem.le.refl _ | assumption) (by exact ⟨[], rfl⟩) ⟨rfl, ?_⟩)
          exact ⟨⟨_, rfl, fun _ => ⟨a1, .inr ⟨a3, a4⟩, .inl b2⟩⟩, rfl⟩
        · by_cases b3 : 64 < need.length
          · by_cases b4 : need.length ≤ 80
            · repeat (first | ((with_reducible refine Tr.step rfl ?_); (first | ((with_reducible refine Knd.move ?_); (refine Exec.stab rfl (Stab.move rfl) rfl ?_)) | ((with_reducible refine Knd.assign ?_); (refine Exec.stab rfl (Stab.assign rfl) rfl ?_)) | ((with_reducible refine Knd.len ?_); ((refine Exec.stab rfl (Stab.len rfl (tysOk.get rfl) rfl) rfl ?_))) | ((with_reducible refine Knd.binOp ?_); ((refine Exec.stab rfl (Stab.int rfl rfl rfl) rfl ?_))) | ((with_reducible refine Knd.pick ?_); ((refine Exec.stab rfl (Stab.pick_td rfl (by first | (with_reducible assumption) | (with_reducible rfl) | (with_reducible exact (not_not_intro rfl)) | omega) rfl) rfl ?_))))) | (with_reducible refine Tr.next ?_) | (with_reducible refine Tr.seq ?_) | (with_reducible refine Tr.region ?_) | (with_reducible refine Tr.nil ?_) | ((refine Tr.guard_y rfl rfl rfl (by first | (with_reducible assumption) | (with_reducible rfl) | (with_reducible exact (not_not_intro rfl)) | omega) ?_); (first | ((with_reducible refine Knd.move ?_); (refine Exec.stab rfl (Stab.move rfl) rfl ?_)) | ((with_reducible refine Knd.len ?_); ((refine Exec.stab rfl (Stab.len rfl (tysOk.get rfl) rfl) rfl ?_))) | ((with_reducible refine Knd.binOp ?_); ((refine Exec.stab rfl (Stab.int rfl rfl rfl) rfl ?_))) | ((with_reducible refine Knd.pick ?_); ((refine Exec.stab rfl (Stab.pick_fd rfl (by first | (with_reducible assumption) | (with_reducible rfl) | (with_reducible exact (not_not_intro rfl)) | omega) rfl) rfl ?_))))) | ((refine Tr.guard_y' rfl rfl rfl (by first | (with_reducible assumption) | (with_reducible rfl) | (with_reducible exact (not_not_intro rfl)) | omega) ?_); (first | ((with_reducible refine Knd.move ?_); (refine Exec.stab rfl (Stab.move rfl) rfl ?_)) | ((with_reducible refine Knd.len ?_); ((refine Exec.stab rfl (Stab.len rfl (tysOk.get rfl) rfl) rfl ?_))) | ((with_reducible refine Knd.binOp ?_); ((refine Exec.stab rfl (Stab.int rfl rfl rfl) rfl ?_))) | ((with_reducible refine Knd.pick ?_); ((refine Exec.stab rfl (Stab.pick_td rfl (by first | (with_reducible assumption) | (with_reducible rfl) | (with_reducible exact (not_not_intro rfl)) | omega) rfl) rfl ?_))))) | (with_reducible refine Tr.exit ?_) | (with_reducible refine Tr.ret ?_) | (with_reducible refine Tr.then_exit ?_) | ((with_reducible refine Tr.in_exit ?_ ?_); (exact rfl)) | (refine Tr.cond_f rfl (by first | (with_reducible assumption) | (with_reducible rfl) | (with_reducible exact (not_not_intro rfl)) | omega) ?_))
              (refine Tr.done (by first | exact .inl rfl | exact .inr rfl) rfl (by repeat (first | exact RVs.nil | (apply RVs.cons; (exact RV.tmp rfl)))) (by first | exact Mem.le.refl _ | assumption) (by exact ⟨[], rfl⟩) ⟨rfl, ?_⟩)
              exact ⟨⟨_, rfl, fun _ => ⟨a1, .inr ⟨a3, a4⟩, .inr ⟨b3, b4⟩⟩⟩, rfl⟩
            · repeat (first | ((with_reducible refine Tr.step rfl ?_); (first | ((with_reducible refine Knd.move ?_); (refine Exec.stab rfl (Stab.move rfl) rfl ?_)) | ((with_reducible refine Knd.assign ?_); (refine Exec.stab rfl (Stab.assign rfl) rfl ?_)) | ((with_reducible refine Knd.len ?_); ((refine Exec.stab rfl (Stab.len rfl (tysOk.get rfl) rfl) rfl ?_))) | ((with_reducible refine Knd.binOp ?_); ((refine Exec.stab rfl (Stab.int rfl rfl rfl) rfl ?_))) | ((with_reducible refine Knd.pick ?_); ((refine Exec.stab rfl (Stab.pick_td rfl (by first | (with_reducible assumption) | (with_reducible rfl) | (with_reducible exact (not_not_intro rfl)) | omega) rfl) rfl ?_))))) | (with_reducible refine Tr.next ?_) | (with_reducible refine Tr.seq ?_) | (with_reducible refine Tr.region ?_) | (with_reducible refine Tr.nil ?_) | ((refine Tr.guard_y rfl rfl rfl (by first | (with_reducible assumption) | (with_reducible rfl) | (with_reducible exact (not_not_intro rfl)) | omega) ?_); (first | ((with_reducible refine Knd.move ?_); (refine Exec.stab rfl (Stab.move rfl) rfl ?_)) | ((with_reducible refine Knd.len ?_); ((refine Exec.stab rfl (Stab.len rfl (tysOk.get rfl) rfl) rfl ?_))) | ((with_reducible refine Knd.binOp ?_); ((refine Exec.stab rfl (Stab.int rfl rfl rfl) rfl ?_))) | ((with_reducible refine Knd.pick ?_); ((refine Exec.stab rfl (Stab.pick_fd rfl (by first | (with_reducible assumption) | (with_reducible rfl) | (with_reducible exact (not_not_intro rfl)) | omega) rfl) rfl ?_))))) | ((refine Tr.guard_y' rfl rfl rfl (by first | (with_reducible assumption) | (with_reducible rfl) | (with_reducible exact (not_not_intro rfl)) | omega) ?_); (first | ((with_reducible refine Knd.move ?_); (refine Exec.stab rfl (Stab.move rfl) rfl ?_)) | ((with_reducible refine Knd.len ?_); ((refine Exec.stab rfl (Stab.len rfl (tysOk.get rfl) rfl) rfl ?_))) | ((with_reducible refine Knd.binOp ?_); ((refine Exec.stab rfl (Stab.int rfl rfl rfl) rfl ?_))) | ((with_reducible refine Knd.pick ?_); ((refine Exec.stab rfl (Stab.pick_td rfl (by first | (with_reducible assumption) | (with_reducible rfl) | (with_reducible exact (not_not_intro rfl)) | omega) rfl) rfl ?_))))) | (with_reducible refine Tr.exit ?_) | (with_reducible refine Tr.ret ?_) | (with_reducible refine Tr.then_exit ?_) | ((with_reducible refine Tr.in_exit ?_ ?_); (exact rfl)) | (refine Tr.cond_f rfl (by first | (with_reducible assumption) | (with_reducible rfl) | (with_reducible exact (not_not_intro rfl)) | omega) ?_))
              (refine Tr.done (by first | exact .inl rfl | exact .inr rfl) rfl (by repeat (first | exact RVs.nil | (apply RVs.cons; (exact RV.tmp rfl)))) (by first | exact Mem.le.refl _ | assumption) (by exact ⟨[], rfl⟩) ⟨rfl, ?_⟩)
              exact ⟨⟨_, rfl, fun h => by simp at h; omega⟩, rfl⟩
          · repeat (first | ((with_reducible refine Tr.step rfl ?_); (first | ((with_reducible refine Knd.move ?_); (refine Exec.stab rfl (Stab.move rfl) rfl ?_)) | ((with_reducible refine Knd.assign ?_); (refine Exec.stab rfl (Stab.assign rfl) rfl ?_)) | ((with_reducible refine Knd.len ?_); ((refine Exec.stab rfl (Stab.len rfl (tysOk.get rfl) rfl) rfl ?_))) | ((with_reducible refine Knd.binOp ?_); ((refine Exec.stab rfl (Stab.int rfl rfl rfl) rfl ?_))) | ((with_reducible refine Knd.pick ?_); ((refine Exec.stab rfl (Stab.pick_td rfl (by first | (with_reducible assumption) | (with_reducible rfl) | (with_reducible exact (not_not_intro rfl)) | omega) rfl) rfl ?_))))) | (with_reducible refine Tr.next ?_) | (with_reducible refine Tr.seq ?_) | (with_reducible refine Tr.region ?_) | (with_reducible refine Tr.nil ?_) | ((refine Tr.guard_y rfl rfl rfl (by first | (with_reducible assumption) | (with_reducible rfl) | (with_reducible exact (not_not_intro rfl)) | omega) ?_); (first | ((with_reducible refine Knd.move ?_); (refine Exec.stab rfl (Stab.move rfl) rfl ?_)) | ((with_reducible refine Knd.len ?_); ((refine Exec.stab rfl (Stab.len rfl (tysOk.get rfl) rfl) rfl ?_))) | ((with_reducible refine Knd.binOp ?_); ((refine Exec.stab rfl (Stab.int rfl rfl rfl) rfl ?_))) | ((with_reducible refine Knd.pick ?_); ((refine Exec.stab rfl (Stab.pick_fd rfl (by first | (with_reducible assumption) | (with_reducible rfl) | (with_reducible exact (not_not_intro rfl)) | omega) rfl) rfl ?_))))) | ((refine Tr.guard_y' rfl rfl rfl (by first | (with_reducible assumption) | (with_reducible rfl) | (with_reducible exact (not_not_intro rfl)) | omega) ?_); (first | ((with_reducible refine Knd.move ?_); (refine Exec.stab rfl (Stab.move rfl) rfl ?_)) | ((with_reducible refine Knd.len ?_); ((refine Exec.stab rfl (Stab.len rfl (tysOk.get rfl) rfl) rfl ?_))) | ((with_reducible refine Knd.binOp ?_); ((refine Exec.stab rfl (Stab.int rfl rfl rfl) rfl ?_))) | ((with_reducible refine Knd.pick ?_); (first | (refine Exec.stab rfl (Stab.pick_td rfl (by first | (with_reducible assumption) | (with_reducible rfl) | (with_reducible exact (not_not_intro rfl)) | omega) rfl) rfl ?_) | (refine Exec.stab rfl (Stab.pick_fd rfl (by first | (with_reducible assumption) | (with_reducible rfl) | (with_reducible exact (not_not_intro rfl)) | omega) rfl) rfl ?_))))) | (refine Tr.guard_n rfl rfl rfl (by first | (with_reducible assumption) | (with_reducible rfl) | (with_reducible exact (not_not_intro rfl)) | omega) rfl rfl ?_) | (with_reducible refine Tr.exit ?_) | (with_reducible refine Tr.ret ?_) | (with_reducible refine Tr.then_exit ?_) | ((with_reducible refine Tr.in_exit ?_ ?_); (exact rfl)) | (refine Tr.cond_f rfl (by first | (with_reducible assumption) | (with_reducible rfl) | (with_reducible exact (not_not_intro rfl)) | omega) ?_))
            (refine Tr.done (by first | exact .inl rfl | exact .inr rfl) rfl (by repeat (first | exact RVs.nil | (apply RVs.cons; (exact RV.tmp rfl)))) (by first | exact Mem.le.refl _ | assumption) (by exact ⟨[], rfl⟩) ⟨rfl, ?_⟩)
            exact ⟨⟨_, rfl, fun h => by simp at h⟩, rfl⟩
      · repeat (first | ((with_reducible refine Tr.step rfl ?_); (first | ((with_reducible refine Knd.move ?_); (refine Exec.stab rfl (Stab.move rfl) rfl ?_)) | ((with_reducible refine Knd.assign ?_); (refine Exec.stab rfl (Stab.assign rfl) rfl ?_)) | ((with_reducible refine Knd.len ?_); ((refine Exec.stab rfl (Stab.len rfl (tysOk.get rfl) rfl) rfl ?_))) | ((with_reducible refine Knd.binOp ?_); ((refine Exec.stab rfl (Stab.int rfl rfl rfl) rfl ?_))) | ((with_reducible refine Knd.pick ?_); (first | (refine Exec.stab rfl (Stab.pick_td rfl (by first | (with_reducible assumption) | (with_reducible rfl) | (with_reducible exact (not_not_intro rfl)) | omega) rfl) rfl ?_) | (refine Exec.stab rfl (Stab.pick_fd rfl (by first | (with_reducible assumption) | (with_reducible rfl) | (with_reducible exact (not_not_intro rfl)) | omega) rfl) rfl ?_))))) | (with_reducible refine Tr.next ?_) | (with_reducible refine Tr.seq ?_) | (with_reducible refine Tr.region ?_) | (with_reducible refine Tr.nil ?_) | ((refine Tr.guard_y rfl rfl rfl (by first | (with_reducible assumption) | (with_reducible rfl) | (with_reducible exact (not_not_intro rfl)) | omega) ?_); (first | ((with_reducible refine Knd.move ?_); (refine Exec.stab rfl (Stab.move rfl) rfl ?_)) | ((with_reducible refine Knd.len ?_); ((refine Exec.stab rfl (Stab.len rfl (tysOk.get rfl) rfl) rfl ?_))) | ((with_reducible refine Knd.binOp ?_); ((refine Exec.stab rfl (Stab.int rfl rfl rfl) rfl ?_))) | ((with_reducible refine Knd.pick ?_); ((refine Exec.stab rfl (Stab.pick_fd rfl (by first | (with_reducible assumption) | (with_reducible rfl) | (with_reducible exact (not_not_intro rfl)) | omega) rfl) rfl ?_))))) | ((refine Tr.guard_y' rfl rfl rfl (by first | (with_reducible assumption) | (with_reducible rfl) | (with_reducible exact (not_not_intro rfl)) | omega) ?_); (first | ((with_reducible refine Knd.move ?_); (refine Exec.stab rfl (Stab.move rfl) rfl ?_)) | ((with_reducible refine Knd.len ?_); ((refine Exec.stab rfl (Stab.len rfl (tysOk.get rfl) rfl) rfl ?_))) | ((with_reducible refine Knd.binOp ?_); ((refine Exec.stab rfl (Stab.int rfl rfl rfl) rfl ?_))) | ((with_reducible refine Knd.pick ?_); ((refine Exec.stab rfl (Stab.pick_td rfl (by first | (with_reducible assumption) | (with_reducible rfl) | (with_reducible exact (not_not_intro rfl)) | omega) rfl) rfl ?_))))) | (refine Tr.guard_n rfl rfl rfl (by first | (with_reducible assumption) | (with_reducible rfl) | (with_reducible exact (not_not_intro rfl)) | omega) rfl rfl ?_) | (refine Tr.guard_u rfl rfl rfl rfl rfl ?_) | (with_reducible refine Tr.exit ?_) | (with_reducible refine Tr.ret ?_) | (with_reducible refine Tr.then_exit ?_) | ((with_reducible refine Tr.in_exit ?_ ?_); (exact rfl)) | (refine Tr.cond_f rfl (by first | (with_reducible assumption) | (with_reducible rfl) | (with_reducible exact (not_not_intro rfl)) | omega) ?_))
        (refine Tr.done (by first | exact .inl rfl | exact .inr rfl) rfl (by repeat (first | exact RVs.nil | (apply RVs.cons; (exact RV.tmp rfl)))) (by first | exact Mem.le.refl _ | assumption) (by exact ⟨[], rfl⟩) ⟨rfl, ?_⟩)
        exact ⟨⟨_, rfl, fun h => by simp at h⟩, rfl⟩
    · repeat (first | ((with_reducible refine Tr.step rfl ?_); (first | ((with_reducible refine Knd.move ?_); (refine Exec.stab rfl (Stab.move rfl) rfl ?_)) | ((with_reducible refine Knd.assign ?_); (refine Exec.stab rfl (Stab.assign rfl) rfl ?_)) | ((with_reducible refine Knd.len ?_); ((refine Exec.stab rfl (Stab.len rfl (tysOk.get rfl) rfl) rfl ?_))) | ((with_reducible refine Knd.binOp ?_); ((refine Exec.stab rfl (Stab.int rfl rfl rfl) rfl ?_))) | ((with_reducible refine Knd.pick ?_); (first | (refine Exec.stab rfl (Stab.pick_f rfl (by first | (with_reducible rfl) | (with_reducible assumption) | (with_reducible exact Bool.not_true) | (with_reducible exact Bool.not_false)) rfl) rfl ?_) | (refine Exec.stab rfl (Stab.pick_td rfl (by first | (with_reducible assumption) | (with_reducible rfl) | (with_reducible exact (not_not_intro rfl)) | omega) rfl) rfl ?_))))) | (with_reducible refine Tr.next ?_) | (with_reducible refine Tr.seq ?_) | (with_reducible refine Tr.region ?_) | (with_reducible refine Tr.nil ?_) | (refine Tr.guard_s1 rfl rfl rfl (by first | (with_reducible rfl) | (with_reducible assumption) | (with_reducible exact Bool.not_true) | (with_reducible exact Bool.not_false)) rfl rfl ?_) | ((refine Tr.guard_y rfl rfl rfl (by first | (with_reducible assumption) | (with_reducible rfl) | (with_reducible exact (not_not_intro rfl)) | omega) ?_); (first | ((with_reducible refine Knd.move ?_); (refine Exec.stab rfl (Stab.move rfl) rfl ?_)) | ((with_reducible refine Knd.len ?_); ((refine Exec.stab rfl (Stab.len rfl (tysOk.get rfl) rfl) rfl ?_))) | ((with_reducible refine Knd.binOp ?_); ((refine Exec.stab rfl (Stab.int rfl rfl rfl) rfl ?_))) | ((with_reducible refine Knd.pick ?_); ((refine Exec.stab rfl (Stab.pick_fd rfl (by first | (with_reducible assumption) | (with_reducible rfl) | (with_reducible exact (not_not_intro rfl)) | omega) rfl) rfl ?_))))) | ((refine Tr.guard_y' rfl rfl rfl (by first | (with_reducible assumption) | (with_reducible rfl) | (with_reducible exact (not_not_intro rfl)) | omega) ?_); (first | ((with_reducible refine Knd.move ?_); (refine Exec.stab rfl (Stab.move rfl) rfl ?_)) | ((with_reducible refine Knd.len ?_); ((refine Exec.stab rfl (Stab.len rfl (tysOk.get rfl) rfl) rfl ?_))) | ((with_reducible refine Knd.binOp ?_); ((refine Exec.stab rfl (Stab.int rfl rfl rfl) rfl ?_))) | ((with_reducible refine Knd.pick ?_); ((refine Exec.stab rfl (Stab.pick_fd rfl (by first | (with_reducible assumption) | (with_reducible rfl) | (with_reducible exact (not_not_intro rfl)) | omega) rfl) rfl ?_))))) | (refine Tr.guard_n rfl rfl rfl (by first | (with_reducible assumption) | (with_reducible rfl) | (with_reducible exact (not_not_intro rfl)) | omega) rfl rfl ?_) | (refine Tr.guard_u rfl rfl rfl rfl rfl ?_) | (with_reducible refine Tr.exit ?_) | (with_reducible refine Tr.ret ?_) | (with_reducible refine Tr.then_exit ?_) | ((with_reducible refine Tr.in_exit ?_ ?_); (exact rfl)) | (refine Tr.cond_f rfl (by first | (with_reducible assumption) | (with_reducible rfl) | (with_reducible exact (not_not_intro rfl)) | omega) ?_))
      (refine Tr.done (by first | exact .inl rfl | exact .inr rfl) rfl (by repeat (first | exact RVs.nil | (apply RVs.cons; (exact RV.tmp rfl)))) (by first | exact Mem.le.refl _ | assumption) (by exact ⟨[], rfl⟩) ⟨rfl, ?_⟩)
      exact ⟨⟨_, rfl, fun h => by simp at h⟩, rfl⟩
end Go.Proofs.Ytmioocddmlfboaa
/-
  Matching: the contracts of the reference's cut and room, and of copies.
  Conditions: none.
-/
namespace Go.Proofs.Ytmioocddmlfboaa
open Go Bf
attribute [local irreducible] Tr Exec Stab HasTy Go.Addr.add IntKind.wrap
/-- requests are left out, from the last one on, if the others can't be met either -/
noncomputable def cutS (P : Nat → Prop) : Nat → Nat → Nat
  | 0, s => s
  | r + 1, s => open Classical in cutS P r (if P (s - 2 ^ r) then s else s - 2 ^ r)
theorem cutS_le (P : Nat → Prop) : ∀ (r s : Nat), cutS P r s ≤ s
  | 0, s => Nat.le_refl _
  | r + 1, s => by
    unfold cutS
    refine Nat.le_trans (cutS_le P r _) ?_
    split
    · exact Nat.le_refl _
    · exact Nat.sub_le _ _
/-- the cut of a problem -/
noncomputable def cutOfP (fits : List (List Bool)) (sup need : List Int) : Nat := cutS (Poss fits sup need) need.length (2 ^ need.length - 1)
set_option maxHeartbeats 4000000 in
theorem rcut_fn (M : Mem) (A0 A1 A2 : Option Addr) (c0 c1 c2 : Nat) (fits : List (List Bool)) (sup need : List Int) (hf : Fits2 M (.slice A0 fits.length c0) fits) (hs : Ints M (.slice A1 sup.length c1) sup) (hn : Ints M (.slice A2 need.length c2) need) (hv : Vld fits sup need) (hn62 : need.length ≤ 61) :
    Fn0 Try.prog 34 [.slice A0 fits.length c0, .slice A1 sup.length c1, .slice A2 need.length c2] M (fun r M' => (Poss fits sup need (2 ^ need.length - 1) ∧ r = .tuple #[.slice none 0 0, .bool false]) ∨
      (¬ Poss fits sup need (2 ^ need.length - 1) ∧ ∃ B k, r = .tuple #[.slice B (memI (cutOfP fits sup need) need.length).length k, .bool true] ∧ Ints M' (.slice B (memI (cutOfP fits sup need) need.length).length k) (memI (cutOfP fits sup need) need.length))) := by
  have hp1 := Nat.two_pow_pos need.length
  have hp2 : 2 ^ need.length ≤ 2 ^ 61 := Nat.pow_le_pow_right (by decide) hn62
  have f1 := possible_fn M A0 A1 A2 c0 c1 c2 fits sup need hf hs hn hv
  have f2 := fun s (hs : s < 4611686018427387904) => members_fn M s need.length hs (by omega)
  unfold cutOfP
  generalize hq : 2 ^ need.length = q at hp1 hp2 ⊢
  refine Fn.intro Try.func34 rfl rfl Try.ntmps34 rfl fun E F => ?_
  repeat (first | ((with_reducible refine Tr.step rfl ?_); (first | ((with_reducible refine Knd.move ?_); (refine Exec.stab rfl (Stab.move rfl) rfl ?_)) | ((with_reducible refine Knd.assign ?_); (refine Exec.stab rfl (Stab.assign rfl) rfl ?_)) | ((with_reducible refine Knd.len ?_); ((refine Exec.stab rfl (Stab.len rfl (tysOk.get rfl) rfl) rfl ?_))) | ((with_reducible refine Knd.binOp ?_); (first | (refine Exec.stab rfl (Stab.subi rfl rfl (by omega)) rfl ?_) | (refine Exec.stab rfl (Stab.shl1 rfl rfl (by omega)) rfl ?_))))) | (with_reducible refine Tr.next ?_) | (with_reducible refine Tr.seq ?_) | (with_reducible refine Tr.region ?_) | (with_reducible refine Tr.nil ?_))
  rw [hq]
  repeat (fail)
  have eq1 : (q : Int) - 1 = ((q - 1 : Nat) : Int) := by omega
  rw [eq1]
  ((refine Tr.step rfl ?_)); refine Exec.call0 rfl (f1 (q - 1) (by omega)) rfl ?_
  rintro _ _ _ ⟨⟨b, rfl, hb⟩, rfl⟩
  cases b
  rotate_left
  · repeat (first | ((with_reducible refine Tr.step rfl ?_); (((with_reducible refine Knd.assign ?_); (refine Exec.stab rfl (Stab.assign rfl) rfl ?_)))) | (with_reducible refine Tr.next ?_) | (with_reducible refine Tr.seq ?_) | (with_reducible refine Tr.region ?_) | (with_reducible refine Tr.nil ?_) | (with_reducible refine Tr.ret ?_) | (with_reducible refine Tr.then_ret ?_) | (refine Tr.cond_bt rfl (by first | (with_reducible rfl) | (with_reducible assumption) | (with_reducible exact Bool.not_true) | (with_reducible exact Bool.not_false)) ?_))
    (refine Tr.done (by first | exact .inl rfl | exact .inr rfl) rfl (by repeat (first | exact RVs.nil | (apply RVs.cons; (exact RV.tmp rfl)))) (by first | exact Mem.le.refl _ | assumption) (by exact ⟨[], rfl⟩) ⟨rfl, ?_⟩)
    exact .inl ⟨hb.1 rfl, rfl⟩
  have hnp : ¬ Poss fits sup need (q - 1) := fun h => by have := hb.2 h; cases this
  repeat (first | ((with_reducible refine Tr.step rfl ?_); (first | ((with_reducible refine Knd.move ?_); (refine Exec.stab rfl (Stab.move rfl) rfl ?_)) | ((with_reducible refine Knd.assign ?_); (refine Exec.stab rfl (Stab.assign rfl) rfl ?_)) | ((with_reducible refine Knd.len ?_); ((refine Exec.stab rfl (Stab.len rfl (tysOk.get rfl) rfl) rfl ?_))) | ((with_reducible refine Knd.binOp ?_); ((refine Exec.stab rfl (Stab.subi rfl rfl (by omega)) rfl ?_))))) | (with_reducible refine Tr.next ?_) | (with_reducible refine Tr.seq ?_) | (with_reducible refine Tr.region ?_) | (with_reducible refine Tr.nil ?_) | (with_reducible refine Tr.skip ?_) | (with_reducible refine Tr.block ?_) | (refine Tr.cond_bf rfl (by first | (with_reducible rfl) | (with_reducible assumption) | (with_reducible exact Bool.not_true) | (with_reducible exact Bool.not_false)) ?_))
  refine Tr.loop (α := Nat × Nat) (fun y => ⟨43, [(9, .int .i64 ((y.1 : Int) - 1)), (8, .int .i64 (y.2 : Int)), (0, .slice A0 fits.length c0), (1, .slice A1 sup.length c1), (2, .slice A2 need.length c2)], [], M, [] ++ F⟩) (fun y => y.1 ≤ need.length ∧ y.2 ≤ q - 1 ∧ 2 ^ y.1 ≤ y.2 + 1 ∧ cutS (Poss fits sup need) y.1 y.2 = cutS (Poss fits sup need) need.length (q - 1)) (fun y => y.1) (need.length, q - 1) ⟨by simp, by simp, by simp only; omega, rfl⟩ (holds_sub (by repeat (first | exact SubFr.nil | refine SubFr.cons rfl ?_)) (by repeat (first | exact DropL.refl | apply DropL.skip))) (fun y hy => ?_)
  obtain ⟨i, s⟩ := y
  obtain ⟨h1, h2, h3, h4⟩ := hy
  simp only at h1 h2 h3 h4
  dsimp only
  rcases i with _ | i
  · repeat (first | ((with_reducible refine Tr.step rfl ?_); (first | ((with_reducible refine Knd.move ?_); (refine Exec.stab rfl (Stab.move rfl) rfl ?_)) | ((with_reducible refine Knd.len ?_); ((refine Exec.stab rfl (Stab.len rfl (tysOk.get rfl) rfl) rfl ?_))) | ((with_reducible refine Knd.binOp ?_); ((refine Exec.stab rfl (Stab.int rfl rfl rfl) rfl ?_))))) | (with_reducible refine Tr.next ?_) | (with_reducible refine Tr.seq ?_) | (with_reducible refine Tr.region ?_) | (with_reducible refine Tr.nil ?_) | (with_reducible refine Tr.exit ?_) | (with_reducible refine Tr.then_exit ?_) | ((with_reducible refine Tr.in_exit ?_ ?_); (exact rfl)) | (refine Tr.cond_f rfl (by first | (with_reducible assumption) | (with_reducible rfl) | (with_reducible exact (not_not_intro rfl)) | omega) ?_))
    ((refine Tr.step rfl ?_)); refine Exec.call0 rfl (f2 s (by omega)) rfl ?_
    rintro _ M1 hm1 ⟨B, k, rfl, hl⟩
    have e : s = cutS (Poss fits sup need) need.length (q - 1) := by rw [← h4]; rfl
    rw [← e]
    repeat (first | ((with_reducible refine Tr.step rfl ?_); (((with_reducible refine Knd.assign ?_); (refine Exec.stab rfl (Stab.assign rfl) rfl ?_)))) | (with_reducible refine Tr.next ?_) | (with_reducible refine Tr.nil ?_) | (with_reducible refine Tr.ret ?_))
    (refine Tr.done (by first | exact .inl rfl | exact .inr rfl) rfl (by repeat (first | exact RVs.nil | (apply RVs.cons; (exact RV.tmp rfl)))) (by first | exact Mem.le.refl _ | assumption) (by exact ⟨[], rfl⟩) ⟨rfl, ?_⟩)
    exact .inr ⟨hnp, B, k, rfl, hl⟩
  · have hpi := Nat.two_pow_pos i
    have hps : 2 ^ (i + 1) = 2 * 2 ^ i := by rw [Nat.pow_succ]; omega
    generalize hqi : 2 ^ i = qi at hpi hps
    have ei : ((i + 1 : Nat) : Int) - 1 = (i : Int) := by omega
    rw [ei]
    have es : (s : Int) - (qi : Int) = ((s - qi : Nat) : Int) := by omega
    have hc : cutS (Poss fits sup need) (i + 1) s = open Classical in cutS (Poss fits sup need) i (if Poss fits sup need (s - qi) then s else s - qi) := by rw [cutS, hqi]
    rw [hc] at h4
    repeat (first | ((with_reducible refine Tr.step rfl ?_); (first | ((with_reducible refine Knd.move ?_); (refine Exec.stab rfl (Stab.move rfl) rfl ?_)) | ((with_reducible refine Knd.binOp ?_); (first | (refine Exec.stab rfl (Stab.subi rfl rfl (by omega)) rfl ?_) | (refine Exec.stab rfl (Stab.shl1 rfl rfl (by omega)) rfl ?_) | (refine Exec.stab rfl (Stab.int rfl rfl rfl) rfl ?_))))) | (with_reducible refine Tr.next ?_) | (with_reducible refine Tr.seq ?_) | (with_reducible refine Tr.region ?_) | (with_reducible refine Tr.nil ?_) | (with_reducible refine Tr.skip ?_) | (with_reducible refine Tr.block ?_) | (refine Tr.cond_t rfl (by first | (with_reducible assumption) | (with_reducible rfl) | (with_reducible exact (not_not_intro rfl)) | omega) ?_))
    rw [hqi]
    repeat (fail)
    rw [es]
    ((refine Tr.step rfl ?_)); refine Exec.call0 rfl (f1 (s - qi) (by omega)) rfl ?_
    rintro _ _ _ ⟨⟨b, rfl, hb⟩, rfl⟩
    cases b
    · have : ¬ Poss fits sup need (s - qi) := fun h => by have := hb.2 h; cases this
      rw [if_neg this] at h4
      repeat (first | ((with_reducible refine Tr.step rfl ?_); (first | ((with_reducible refine Knd.move ?_); (refine Exec.stab rfl (Stab.move rfl) rfl ?_)) | ((with_reducible refine Knd.assign ?_); (refine Exec.stab rfl (Stab.assign rfl) rfl ?_)) | ((with_reducible refine Knd.binOp ?_); (first | (refine Exec.stab rfl (Stab.subi rfl rfl (by omega)) rfl ?_) | (refine Exec.stab rfl (Stab.shl1 rfl rfl (by omega)) rfl ?_))) | ((with_reducible refine Knd.unOp ?_); ((refine Exec.stab rfl (Stab.not rfl) rfl ?_))))) | (with_reducible refine Tr.next ?_) | (with_reducible refine Tr.region ?_) | (with_reducible refine Tr.nil ?_) | (with_reducible refine Tr.in_normal ?_) | (refine Tr.cond_bt rfl (by first | (with_reducible rfl) | (with_reducible assumption) | (with_reducible exact Bool.not_true) | (with_reducible exact Bool.not_false)) ?_))
      rw [hqi]
      repeat (fail)
      rw [es]
      refine Tr.again (i, s - qi) ⟨by simp only; omega, by simp only; omega, by simp only; omega, h4⟩ (by simp only; omega) (holds_sub (by repeat (first | exact SubFr.nil | refine SubFr.cons rfl ?_)) (by repeat (first | exact DropL.refl | apply DropL.skip)))
    · rw [if_pos (hb.1 rfl)] at h4
      repeat (first | ((with_reducible refine Tr.step rfl ?_); (first | ((with_reducible refine Knd.move ?_); (refine Exec.stab rfl (Stab.move rfl) rfl ?_)) | ((with_reducible refine Knd.assign ?_); (refine Exec.stab rfl (Stab.assign rfl) rfl ?_)) | ((with_reducible refine Knd.binOp ?_); ((refine Exec.stab rfl (Stab.subi rfl rfl (by omega)) rfl ?_))) | ((with_reducible refine Knd.unOp ?_); ((refine Exec.stab rfl (Stab.not rfl) rfl ?_))))) | (with_reducible refine Tr.next ?_) | (with_reducible refine Tr.region ?_) | (with_reducible refine Tr.nil ?_) | (with_reducible refine Tr.skip ?_) | (with_reducible refine Tr.in_normal ?_) | (refine Tr.cond_bf rfl (by first | (with_reducible rfl) | (with_reducible assumption) | (with_reducible exact Bool.not_true) | (with_reducible exact Bool.not_false)) ?_))
      refine Tr.again (i, s) ⟨by simp only; omega, h2, by simp only; omega, h4⟩ (by simp only; omega) (holds_sub (by repeat (first | exact SubFr.nil | refine SubFr.cons rfl ?_)) (by repeat (first | exact DropL.refl | apply DropL.skip)))
/-- how much of a supply a request can get -/
structure RoomV (can : List (List Bool)) (left op : List Int) (s r : Nat) (top : Nat) (v : Int) : Prop where
  l1 : v ≤ left.getD s 0
  l2 : v ≤ op.getD r 0
  le : ∀ set, 1 ≤ set → set < top → set.testBit r = false → touchB (can.getD s []) set = true → v ≤ - lackB can left op set
  is : v = left.getD s 0 ∨ v = op.getD r 0 ∨ ∃ set, 1 ≤ set ∧ set < top ∧ set.testBit r = false ∧ touchB (can.getD s []) set = true ∧ v = - lackB can left op set
set_option maxHeartbeats 4000000 in
theorem room_fn (M : Mem) (A0 A1 A2 : Option Addr) (c0 c1 c2 : Nat) (can : List (List Bool)) (left op : List Int) (hf : Fits2 M (.slice A0 can.length c0) can) (hs : Ints M (.slice A1 left.length c1) left) (hn : Ints M (.slice A2 op.length c2) op) (hv : Vld can left op) (hn62 : op.length ≤ 61) (s r : Nat) (hsl : s < left.length) (hrl : r < op.length) :
    Fn0 Try.prog 37 [.slice A0 can.length c0, .slice A1 left.length c1, .slice A2 op.length c2, .int .i64 (s : Int), .int .i64 (r : Int)] M (fun x M' => (∃ v, x = .int .i64 v ∧ RoomV can left op s r (2 ^ op.length) v) ∧ M = M') := by
  have hp1 := Nat.two_pow_pos op.length
  have hp2 : 2 ^ op.length ≤ 2 ^ 61 := Nat.pow_le_pow_right (by decide) hn62
  have l3 := hv.lf
  obtain ⟨a, ha⟩ := get_of_lt hsl
  obtain ⟨b, hb⟩ := get_of_lt hrl
  obtain ⟨hA1, hat1⟩ := hs.at ha
  obtain ⟨hA2, hat2⟩ := hn.at hb
  obtain ⟨row, hrow⟩ := get_of_lt (xs := can) (i := s) (by omega)
  obtain ⟨hA0, ch, hat0, B, k, rfl, hB⟩ := hf.elem hrow
  have hrw := hv.rows row (List.mem_of_getElem? hrow)
  have har := hv.rs a (List.mem_of_getElem? ha)
  have hbr := hv.rn b (List.mem_of_getElem? hb)
  have ga := getD_of (d := 0) ha
  have gb := getD_of (d := 0) hb
  have gr := getD_of (d := []) hrow
  generalize hq : 2 ^ op.length = q at hp1 hp2 ⊢
  refine Fn.intro Try.func37 rfl rfl Try.ntmps37 rfl fun E F => ?_
  repeat (first | ((with_reducible refine Tr.step rfl ?_); (((with_reducible refine Knd.assign ?_); (refine Exec.stab rfl (Stab.assign rfl) rfl ?_)))) | (with_reducible refine Tr.next ?_) | (with_reducible refine Tr.seq ?_) | (with_reducible refine Tr.region ?_) | (with_reducible refine Tr.nil ?_))
  (((apply Tr.draw); (kernel_rfl)); (refine TrA.take 0 (by kernel_rfl) rfl (by kernel_rfl) (by first | exact fun _ _ _ h => h | exact fun _ _ _ h => nomatch h.1) (by exact fun _ h => h) rfl (by first | exact Stab.move rfl) rfl rfl ?_); (refine TrA.take 1 (by kernel_rfl) rfl (by kernel_rfl) (by first | exact fun _ _ _ h => h | exact fun _ _ _ h => nomatch h.1) (by exact fun _ h => h) rfl (by first | exact Stab.move rfl) rfl rfl ?_); (refine TrA.take 2 (by kernel_rfl) rfl (by kernel_rfl) (by first | exact fun _ _ _ h => h | exact fun _ _ _ h => nomatch h.1) (by exact fun _ h => h) rfl (by exact Stab.indexAddr rfl rfl (tysOk.get rfl) rfl (tysOk.get rfl) rfl (by omega) (by omega) (by first | rfl | assumption)) rfl rfl ?_); (refine TrA.take 3 (by kernel_rfl) rfl (by kernel_rfl) (by first | exact fun _ _ _ h => h | exact fun _ _ _ h => nomatch h.1) (by exact fun _ h => h) rfl (by exact Stab.loadM rfl (tysOk.get rfl) rfl (by assumption)) rfl rfl ?_); (refine TrA.take 4 (by kernel_rfl) rfl (by kernel_rfl) (by first | exact fun _ _ _ h => h | exact fun _ _ _ h => nomatch h.1) (by exact fun _ h => h) rfl (by first | exact Stab.move rfl) rfl rfl ?_); (refine TrA.take 5 (by kernel_rfl) rfl (by kernel_rfl) (by first | exact fun _ _ _ h => h | exact fun _ _ _ h => nomatch h.1) (by exact fun _ h => h) rfl (by first | exact Stab.move rfl) rfl rfl ?_); (refine TrA.take 6 (by kernel_rfl) rfl (by kernel_rfl) (by first | exact fun _ _ _ h => h | exact fun _ _ _ h => nomatch h.1) (by exact fun _ h => h) rfl (by exact Stab.indexAddr rfl rfl (tysOk.get rfl) rfl (tysOk.get rfl) rfl (by omega) (by omega) (by first | rfl | assumption)) rfl rfl ?_); (refine TrA.take 7 (by kernel_rfl) rfl (by kernel_rfl) (by first | exact fun _ _ _ h => h | exact fun _ _ _ h => nomatch h.1) (by exact fun _ h => h) rfl (by exact Stab.loadM rfl (tysOk.get rfl) rfl (by assumption)) rfl rfl ?_); (refine TrA.take 8 (by kernel_rfl) rfl (by kernel_rfl) (by first | exact fun _ _ _ h => h | exact fun _ _ _ h => nomatch h.1) (by exact fun _ h => h) rfl (by first | exact Stab.min2 rfl rfl) rfl rfl ?_); (refine TrA.take 9 (by kernel_rfl) rfl (by kernel_rfl) (by first | exact fun _ _ _ h => h | exact fun _ _ _ h => nomatch h.1) (by exact fun _ h => h) rfl (by first | exact Stab.assign rfl) rfl rfl ?_); (refine TrA.done (by kernel_rfl) ?_))
  repeat (first | ((with_reducible refine Tr.step rfl ?_); (((with_reducible refine Knd.assign ?_); (refine Exec.stab rfl (Stab.assign rfl) rfl ?_)))) | (with_reducible refine Tr.next ?_) | (with_reducible refine Tr.seq ?_) | (with_reducible refine Tr.region ?_) | (with_reducible refine Tr.nil ?_) | (with_reducible refine Tr.block ?_))
  refine Tr.loop (α := Nat × Int) (fun y => ⟨50, [(12, .int .i64 y.1), (11, .int .i64 y.2), (0, .slice A0 can.length c0), (1, .slice A1 left.length c1), (2, .slice A2 op.length c2), (3, .int .i64 (s : Int)), (4, .int .i64 (r : Int))], [], M, [] ++ F⟩) (fun y => 1 ≤ y.1 ∧ y.1 ≤ q ∧ -200000000 ≤ y.2 ∧ RoomV can left op s r y.1 y.2) (fun y => q - y.1) (1, min a b) ⟨by simp, by simp only; omega, by simp only; omega, ⟨by simp only; omega, by simp only; omega, fun set h1 h2 => by simp only at h2; omega, by simp only; omega⟩⟩ (holds_sub (by repeat (first | exact SubFr.nil | refine SubFr.cons rfl ?_)) (by repeat (first | exact DropL.refl | apply DropL.skip))) (fun y hy => ?_)
  obtain ⟨i, v⟩ := y
  obtain ⟨h1, h2, h3, hm⟩ := hy
  simp only at h1 h2 h3 hm
  dsimp only
  have hv2 : v ≤ 1048576 := by have := hm.l1; omega
  have skip : (i.testBit r = true ∨ touchB row i = false) → RoomV can left op s r (i + 1) v := fun h => ⟨hm.l1, hm.l2, fun set g1 g2 g3 g4 => by
    by_cases e : set = i
    · subst e
      rcases h with h | h
      · rw [h] at g3; cases g3
      · rw [gr, h] at g4; cases g4
    · exact hm.le set g1 (by omega) g3 g4, by
    rcases hm.is with h | h | ⟨set, g1, g2, g3⟩
    · exact .inl h
    · exact .inr (.inl h)
    · exact .inr (.inr ⟨set, g1, by omega, g3⟩)⟩
  by_cases hlt : i < q
  · repeat (first | ((with_reducible refine Tr.step rfl ?_); (first | ((with_reducible refine Knd.move ?_); (refine Exec.stab rfl (Stab.move rfl) rfl ?_)) | ((with_reducible refine Knd.len ?_); ((refine Exec.stab rfl (Stab.len rfl (tysOk.get rfl) rfl) rfl ?_))) | ((with_reducible refine Knd.binOp ?_); (first | (refine Exec.stab rfl (Stab.shl1 rfl rfl (by omega)) rfl ?_) | (refine Exec.stab rfl (Stab.int rfl rfl rfl) rfl ?_))))) | (with_reducible refine Tr.next ?_) | (with_reducible refine Tr.seq ?_) | (with_reducible refine Tr.region ?_) | (with_reducible refine Tr.nil ?_) | (with_reducible refine Tr.skip ?_) | (with_reducible refine Tr.block ?_) | (refine Tr.cond_t rfl (by first | (with_reducible assumption) | (with_reducible rfl) | (with_reducible exact (not_not_intro rfl)) | omega) ?_))
    rw [hq]
    repeat (fail)
    ((refine Tr.step rfl ?_)); refine Exec.call0 rfl (has_fn M i r (by omega) (by have := hv.ln; omega)) rfl ?_
    rintro _ _ _ ⟨rfl, rfl⟩
    cases hbit : i.testBit r
    rotate_left
    · repeat (first | ((with_reducible refine Tr.step rfl ?_); (first | ((with_reducible refine Knd.move ?_); (refine Exec.stab rfl (Stab.move rfl) rfl ?_)) | ((with_reducible refine Knd.assign ?_); (refine Exec.stab rfl (Stab.assign rfl) rfl ?_)) | ((with_reducible refine Knd.binOp ?_); ((refine Exec.stab rfl (Stab.addi rfl rfl (by omega)) rfl ?_))) | ((with_reducible refine Knd.pick ?_); ((refine Exec.stab rfl (Stab.pick_f rfl (by first | (with_reducible rfl) | (with_reducible assumption) | (with_reducible exact Bool.not_true) | (with_reducible exact Bool.not_false)) rfl) rfl ?_))) | ((with_reducible refine Knd.unOp ?_); ((refine Exec.stab rfl (Stab.not rfl) rfl ?_))))) | (with_reducible refine Tr.next ?_) | (with_reducible refine Tr.region ?_) | (with_reducible refine Tr.nil ?_) | (refine Tr.guard_s1 rfl rfl rfl (by first | (with_reducible rfl) | (with_reducible assumption) | (with_reducible exact Bool.not_true) | (with_reducible exact Bool.not_false)) rfl rfl ?_) | (with_reducible refine Tr.skip ?_) | (with_reducible refine Tr.in_normal ?_) | (refine Tr.cond_bf rfl (by first | (with_reducible rfl) | (with_reducible assumption) | (with_reducible exact Bool.not_true) | (with_reducible exact Bool.not_false)) ?_))
      refine Tr.again (i + 1, v) ⟨by simp only; omega, by simp only; omega, h3, skip (.inl hbit)⟩ (by simp only; omega) (holds_sub (by repeat (first | exact SubFr.nil | refine SubFr.cons rfl ?_)) (by repeat (first | exact DropL.refl | apply DropL.skip)))
    repeat (first | ((with_reducible refine Tr.step rfl ?_); (first | ((with_reducible refine Knd.move ?_); (refine Exec.stab rfl (Stab.move rfl) rfl ?_)) | ((with_reducible refine Knd.unOp ?_); ((refine Exec.stab rfl (Stab.not rfl) rfl ?_))))) | ((refine Tr.guard_l rfl rfl rfl (by first | (with_reducible rfl) | (with_reducible assumption) | (with_reducible exact Bool.not_true) | (with_reducible exact Bool.not_false)) ?_); (first | ((with_reducible refine Knd.move ?_); (refine Exec.stab rfl (Stab.move rfl) rfl ?_)) | ((with_reducible refine Knd.load ?_); ((refine Exec.stab rfl (Stab.loadM rfl (tysOk.get rfl) rfl (by assumption)) rfl ?_))) | ((with_reducible refine Knd.indexAddr ?_); ((refine Exec.stab rfl (Stab.indexAddr rfl rfl (tysOk.get rfl) rfl (tysOk.get rfl) rfl (by omega) (by omega) (by first | rfl | assumption)) rfl ?_))))))
    ((refine Tr.guard_l rfl rfl rfl (by first | (with_reducible rfl) | (with_reducible assumption) | (with_reducible exact Bool.not_true) | (with_reducible exact Bool.not_false)) ?_)); refine Exec.call0 rfl (touches_fn M B k row hB (by have := hv.ln; omega) i (by omega)) rfl ?_
    rintro _ _ _ ⟨rfl, rfl⟩
    cases ht : touchB row i
    · repeat (first | ((with_reducible refine Tr.step rfl ?_); (first | ((with_reducible refine Knd.move ?_); (refine Exec.stab rfl (Stab.move rfl) rfl ?_)) | ((with_reducible refine Knd.assign ?_); (refine Exec.stab rfl (Stab.assign rfl) rfl ?_)) | ((with_reducible refine Knd.binOp ?_); ((refine Exec.stab rfl (Stab.addi rfl rfl (by omega)) rfl ?_))) | ((with_reducible refine Knd.pick ?_); ((refine Exec.stab rfl (Stab.pick_t rfl (by first | (with_reducible rfl) | (with_reducible assumption) | (with_reducible exact Bool.not_true) | (with_reducible exact Bool.not_false)) rfl) rfl ?_))))) | (with_reducible refine Tr.next ?_) | (with_reducible refine Tr.region ?_) | (with_reducible refine Tr.nil ?_) | (with_reducible refine Tr.skip ?_) | (with_reducible refine Tr.in_normal ?_) | (refine Tr.cond_bf rfl (by first | (with_reducible rfl) | (with_reducible assumption) | (with_reducible exact Bool.not_true) | (with_reducible exact Bool.not_false)) ?_))
      refine Tr.again (i + 1, v) ⟨by simp only; omega, by simp only; omega, h3, skip (.inr ht)⟩ (by simp only; omega) (holds_sub (by repeat (first | exact SubFr.nil | refine SubFr.cons rfl ?_)) (by repeat (first | exact DropL.refl | apply DropL.skip)))
    have hlr := lackB_range hv i
    repeat (first | ((with_reducible refine Tr.step rfl ?_); (first | ((with_reducible refine Knd.move ?_); (refine Exec.stab rfl (Stab.move rfl) rfl ?_)) | ((with_reducible refine Knd.pick ?_); ((refine Exec.stab rfl (Stab.pick_t rfl (by first | (with_reducible rfl) | (with_reducible assumption) | (with_reducible exact Bool.not_true) | (with_reducible exact Bool.not_false)) rfl) rfl ?_))))) | (with_reducible refine Tr.next ?_) | (with_reducible refine Tr.region ?_) | (with_reducible refine Tr.nil ?_) | (refine Tr.cond_bt rfl (by first | (with_reducible rfl) | (with_reducible assumption) | (with_reducible exact Bool.not_true) | (with_reducible exact Bool.not_false)) ?_))
    ((refine Tr.step rfl ?_)); refine Exec.call0 rfl (lack_fn M A0 A1 A2 c0 c1 c2 can left op hf hs hn hv i (by omega)) rfl ?_
    rintro _ _ _ ⟨rfl, rfl⟩
    repeat (first | ((with_reducible refine Tr.step rfl ?_); (first | ((with_reducible refine Knd.move ?_); (refine Exec.stab rfl (Stab.move rfl) rfl ?_)) | ((with_reducible refine Knd.assign ?_); (refine Exec.stab rfl (Stab.assign rfl) rfl ?_)) | ((with_reducible refine Knd.min ?_); (refine Exec.stab rfl (Stab.min2 rfl rfl) rfl ?_)) | ((with_reducible refine Knd.binOp ?_); ((refine Exec.stab rfl (Stab.addi rfl rfl (by omega)) rfl ?_))) | ((with_reducible refine Knd.unOp ?_); ((refine Exec.stab rfl (Stab.neg rfl (by omega)) rfl ?_))))) | (with_reducible refine Tr.next ?_) | (with_reducible refine Tr.region ?_) | (with_reducible refine Tr.nil ?_) | (with_reducible refine Tr.in_normal ?_))
    refine Tr.again (i + 1, min v (-lackB can left op i)) ⟨by simp only; omega, by simp only; omega, by simp only; omega, ?_⟩ (by simp only; omega) (holds_sub (by repeat (first | exact SubFr.nil | refine SubFr.cons rfl ?_)) (by repeat (first | exact DropL.refl | apply DropL.skip)))
    refine ⟨by have := hm.l1; simp only; omega, by have := hm.l2; simp only; omega, fun set g1 g2 g3 g4 => ?_, ?_⟩
    · simp only at g2 ⊢
      by_cases e : set = i
      · subst e; omega
      · have := hm.le set g1 (by omega) g3 g4; omega
    · simp only
      rcases Int.le_total v (-lackB can left op i) with hle | hle
      · rw [Int.min_eq_left hle]
        rcases hm.is with h | h | ⟨set, g1, g2, g3⟩
        · exact .inl h
        · exact .inr (.inl h)
        · exact .inr (.inr ⟨set, g1, by omega, g3⟩)
      · rw [Int.min_eq_right hle]
        exact .inr (.inr ⟨i, h1, by omega, hbit, by rw [gr]; exact ht, rfl⟩)
  · have e : i = q := by omega
    subst e
    repeat (first | ((with_reducible refine Tr.step rfl ?_); (first | ((with_reducible refine Knd.move ?_); (refine Exec.stab rfl (Stab.move rfl) rfl ?_)) | ((with_reducible refine Knd.assign ?_); (refine Exec.stab rfl (Stab.assign rfl) rfl ?_)) | ((with_reducible refine Knd.len ?_); ((refine Exec.stab rfl (Stab.len rfl (tysOk.get rfl) rfl) rfl ?_))) | ((with_reducible refine Knd.binOp ?_); (first | (refine Exec.stab rfl (Stab.shl1 rfl rfl (by omega)) rfl ?_) | (refine Exec.stab rfl (Stab.int rfl rfl rfl) rfl ?_))))) | (with_reducible refine Tr.next ?_) | (with_reducible refine Tr.seq ?_) | (with_reducible refine Tr.region ?_) | (with_reducible refine Tr.nil ?_) | (with_reducible refine Tr.exit ?_) | (with_reducible refine Tr.ret ?_) | (with_reducible refine Tr.then_exit ?_) | ((with_reducible refine Tr.in_exit ?_ ?_); (exact rfl)) | (refine Tr.cond_f rfl (by first | (with_reducible assumption) | (with_reducible rfl) | (with_reducible exact (not_not_intro rfl)) | omega) ?_))
    rw [hq]
    repeat (fail)
    (refine Tr.done (by first | exact .inl rfl | exact .inr rfl) rfl (by repeat (first | exact RVs.nil | (apply RVs.cons; (exact RV.tmp rfl)))) (by first | exact Mem.le.refl _ | assumption) (by exact ⟨[], rfl⟩) ⟨rfl, ?_⟩)
    exact ⟨⟨v, rfl, hm⟩, rfl⟩
set_option maxHeartbeats 2000000 in
theorem copyInts_fn (M : Mem) (A : Option Addr) (c : Nat) (l : List Int) (hl : Ints M (.slice A l.length c) l) (hs : l.length ≤ 1000000) :
    Bf.Fn Try.prog 35 [.slice A l.length c] M [] (fun r M' A' => ∃ B k, r = .slice B l.length k ∧ k ≤ 9223372036854775807 ∧ M = M' ∧ A' = [ownS 3 1 B l.length k (intV l)]) := by
  have hrow := Ints.row hl
  refine Fn.intro Try.func35 rfl rfl Try.ntmps35 rfl fun E F => ?_
  repeat (first | ((with_reducible refine Tr.step rfl ?_); (first | ((with_reducible refine Knd.move ?_); (refine Exec.stab rfl (Stab.move rfl) rfl ?_)) | ((with_reducible refine Knd.assign ?_); (refine Exec.stab rfl (Stab.assign rfl) rfl ?_)) | ((with_reducible refine Knd.buildSlice ?_); ((refine Exec.buildSlice (tysOk.get rfl) rfl (tysOk.get rfl) rfl rfl rfl rfl rfl (by repeat (exact BuildP.nil)) rfl (fun b => ?_)))))) | (with_reducible refine Tr.next ?_) | (with_reducible refine Tr.seq ?_) | (with_reducible refine Tr.region ?_) | (with_reducible refine Tr.nil ?_))
  refine Tr.box_own 1 0 (by repeat (first | exact Upd.here | apply Upd.there)) rfl (by intro u hu; cases hu) (by simp [maxLen]) ?_
  ((refine Tr.step rfl ?_))
  refine Exec.append (news := intV l) rfl rfl (tysOk.get rfl) rfl (tysOk.get rfl) rfl rfl rfl rfl (by repeat (first | exact Del.here | apply Del.there)) (Src.row hrow) (by simp) (intV_one _) (by omega) (by omega) rfl (fun A6 c6 hc6 => ?_)
  rw [zeros0_app, Nat.zero_add]
  repeat (first | ((with_reducible refine Tr.step rfl ?_); (((with_reducible refine Knd.assign ?_); (refine Exec.stab rfl (Stab.assign rfl) rfl ?_)))) | (with_reducible refine Tr.next ?_) | (with_reducible refine Tr.nil ?_) | (with_reducible refine Tr.ret ?_))
  refine Tr.doneA (A' := [ownS 3 1 A6 l.length c6 (intV l)]) (by first | exact .inl rfl | exact .inr rfl) rfl (by repeat (first | exact RVs.nil | (apply RVs.cons; (exact RV.tmp rfl)))) (Mem.le.refl _) ⟨fun _ h => h, fun h => h⟩ ⟨A6, c6, rfl, hc6, rfl, rfl⟩
end Go.Proofs.Ytmioocddmlfboaa
/-
  Matching: the contracts of Clone, begin and serves; how the state lies in memory.
  Conditions: none.
-/
namespace Go.Proofs.Ytmioocddmlfboaa
open Go Bf
attribute [local irreducible] Tr Exec Stab HasTy Go.Addr.add IntKind.wrap
set_option maxHeartbeats 2000000 in
theorem clone_fn (M : Mem) (A : Option Addr) (c : Nat) (l : List Int) (hl : Ints M (.slice A l.length c) l) (hs : l.length ≤ 1000000) :
    Bf.Fn Try.prog 33 [.slice A l.length c] M [] (fun r M' A' => (∃ B k, r = .slice B l.length k ∧ k ≤ 9223372036854775807 ∧ A' = [ownS 3 1 B l.length k (intV l)]) ∧ M = M') := by
  have hrow := Ints.row hl
  have hcap := Ints.cap hl
  refine Fn.intro Try.func33 rfl rfl Try.ntmps33 rfl fun E F => ?_
  by_cases hA : A = none
  · have hnil : l = [] := List.eq_nil_of_length_eq_zero (hcap.2.2.2 hA)
    subst hnil
    repeat (first | ((with_reducible refine Tr.step rfl ?_); (first | ((with_reducible refine Knd.move ?_); (refine Exec.stab rfl (Stab.move rfl) rfl ?_)) | ((with_reducible refine Knd.assign ?_); (refine Exec.stab rfl (Stab.assign rfl) rfl ?_)) | ((with_reducible refine Knd.binOp ?_); ((refine Exec.stab rfl (Stab.slnil rfl (tysOk.get rfl) rfl) rfl ?_))))) | (with_reducible refine Tr.next ?_) | (with_reducible refine Tr.seq ?_) | (with_reducible refine Tr.region ?_) | (with_reducible refine Tr.nil ?_) | (with_reducible refine Tr.ret ?_) | (with_reducible refine Tr.then_ret ?_) | (refine Tr.cond_t rfl (by first | (with_reducible assumption) | (with_reducible rfl) | (with_reducible exact (not_not_intro rfl)) | omega) ?_))
    refine Tr.own_nil 3 1 ?_
    refine Tr.doneA (A' := [ownS 3 1 none 0 0 []]) (by first | exact .inl rfl | exact .inr rfl) rfl (by repeat (first | exact RVs.nil | (apply RVs.cons; (exact RV.tmp rfl)))) (Mem.le.refl _) ⟨fun _ h => h, fun h => h⟩ ⟨⟨none, 0, rfl, by omega, rfl⟩, rfl⟩
  · repeat (first | ((with_reducible refine Tr.step rfl ?_); (first | ((with_reducible refine Knd.move ?_); (refine Exec.stab rfl (Stab.move rfl) rfl ?_)) | ((with_reducible refine Knd.assign ?_); (refine Exec.stab rfl (Stab.assign rfl) rfl ?_)) | ((with_reducible refine Knd.binOp ?_); ((refine Exec.stab rfl (Stab.slnil rfl (tysOk.get rfl) rfl) rfl ?_))) | ((with_reducible refine Knd.buildSlice ?_); ((refine Exec.buildSlice (tysOk.get rfl) rfl (tysOk.get rfl) rfl rfl rfl rfl rfl (by repeat (exact BuildP.nil)) rfl (fun b => ?_)))))) | (with_reducible refine Tr.next ?_) | (with_reducible refine Tr.seq ?_) | (with_reducible refine Tr.region ?_) | (with_reducible refine Tr.nil ?_) | (with_reducible refine Tr.skip ?_) | (refine Tr.cond_f rfl (by first | (with_reducible assumption) | (with_reducible rfl) | (with_reducible exact (not_not_intro rfl)) | omega) ?_))
    refine Tr.box_own 1 0 (by repeat (first | exact Upd.here | apply Upd.there)) rfl (by intro u hu; cases hu) (by simp [maxLen]) ?_
    ((refine Tr.step rfl ?_))
    refine Exec.append (news := intV l) rfl rfl (tysOk.get rfl) rfl (tysOk.get rfl) rfl rfl rfl rfl (by repeat (first | exact Del.here | apply Del.there)) (Src.row hrow) (by simp) (intV_one _) (by omega) (by omega) rfl (fun A6 c6 hc6 => ?_)
    rw [zeros0_app, Nat.zero_add]
    repeat (first | ((with_reducible refine Tr.step rfl ?_); (((with_reducible refine Knd.assign ?_); (refine Exec.stab rfl (Stab.assign rfl) rfl ?_)))) | (with_reducible refine Tr.next ?_) | (with_reducible refine Tr.nil ?_) | (with_reducible refine Tr.ret ?_))
    refine Tr.doneA (A' := [ownS 3 1 A6 l.length c6 (intV l)]) (by first | exact .inl rfl | exact .inr rfl) rfl (by repeat (first | exact RVs.nil | (apply RVs.cons; (exact RV.tmp rfl)))) (Mem.le.refl _) ⟨fun _ h => h, fun h => h⟩ ⟨⟨A6, c6, rfl, hc6, rfl⟩, rfl⟩
/-- the cells of a state -/
def stC (fs am lk : Value) (tk gv : List Int) : List Value := fs :: am :: lk :: (intV tk ++ intV gv)
/-- the rows of a state, each in a block of its own -/
def rowsR (rws : List (Nat × List Int)) : Res := many (rws.map fun x => box x.1 3 (intV x.2))
def ptrV (m : Nat) (rws : List (Nat × List Int)) : List Value := rws.map fun x => .slice (some ⟨x.1, 0, none⟩) m m
theorem ptrV_append (m : Nat) (a b : List (Nat × List Int)) : ptrV m (a ++ b) = ptrV m a ++ ptrV m b := by simp [ptrV]
@[simp] theorem ptrV_length (m : Nat) (a : List (Nat × List Int)) : (ptrV m a).length = a.length := by simp [ptrV]
theorem ptrV_one (m : Nat) (a : List (Nat × List Int)) : ∀ u ∈ ptrV m a, u.oneCell' = true := by
  intro u hu
  obtain ⟨x, _, rfl⟩ := List.mem_map.1 hu
  rfl
/-- where a state lies: its block, the slices in it -/
structure Loc where
  sb : Nat
  fs : Value
  Am : Option Addr
  cm : Nat
  Al : Option Addr
  cl : Nat
/-- what a state owns -/
def stL (o : Loc) (m : Nat) (rws : List (Nat × List Int)) (lack tk gv : List Int) : List Res :=
  [box o.sb 56 (stC o.fs (.slice o.Am rws.length o.cm) (.slice o.Al lack.length o.cl) tk gv), ownS 23 1 o.Am rws.length o.cm (ptrV m rws), rowsR rws, ownS 3 1 o.Al lack.length o.cl (intV lack)]
/-- the row of a supply of which nothing is given -/
def row0 (m : Nat) (x : Int) : List Int := List.replicate m 0 ++ [x]
theorem row0_cells (m : Nat) (x : Int) : (List.replicate (m + 1) (Value.int .i64 0)).set m (.int .i64 x) = intV (row0 m x) := by
  have e : List.replicate (m + 1) (Value.int .i64 0) = intV (List.replicate m 0) ++ [.int .i64 0] := by
    rw [List.replicate_succ']; simp [intV]
  rw [e, List.set_append_right _ _ (by simp)]
  simp [row0, intV_append, intV]
theorem rowsR_add (rws : List (Nat × List Int)) (b : Nat) (r : List Int) : many ((rws.map fun x => box x.1 3 (intV x.2)) ++ [box b 3 (intV r)]) = rowsR (rws ++ [(b, r)]) := by simp [rowsR]
set_option maxHeartbeats 4000000 in
set_option maxRecDepth 20000 in
theorem begin_fn (M : Mem) (fA : Option Addr) (fn fc : Nat) (A1 A2 : Option Addr) (c1 c2 : Nat) (sup need : List Int) (hs : Ints M (.slice A1 sup.length c1) sup) (hn : Ints M (.slice A2 need.length c2) need) (ls : sup.length ≤ 64) (ln : need.length ≤ 64) :
    Bf.Fn Try.prog 29 [.slice fA fn fc, .slice A1 sup.length c1, .slice A2 need.length c2] M [] (fun r M' A' => ∃ (o : Loc) (rws : List (Nat × List Int)), r = .pointer (some ⟨o.sb, 0, none⟩) ∧ o.fs = .slice fA fn fc ∧ o.cm ≤ 9223372036854775807 ∧ o.cl ≤ 9223372036854775807 ∧ rws.map (·.2) = sup.map (row0 need.length) ∧ M = M' ∧ A' = stL o (need.length + 1) rws need (List.replicate 64 0) (List.replicate 65 0)) := by
  refine Fn.intro Try.func29 rfl rfl Try.ntmps29 rfl fun E F => ?_
  repeat (first | ((with_reducible refine Tr.step rfl ?_); (first | ((with_reducible refine Knd.move ?_); (refine Exec.stab rfl (Stab.move rfl) rfl ?_)) | ((with_reducible refine Knd.assign ?_); (refine Exec.stab rfl (Stab.assign rfl) rfl ?_)))) | (with_reducible refine Tr.next ?_) | (with_reducible refine Tr.seq ?_) | (with_reducible refine Tr.region ?_) | (with_reducible refine Tr.nil ?_))
  ((refine Tr.step rfl ?_))
  refine Exec.call (A := []) rfl (clone_fn M A2 c2 need hn (by omega)) (List.Perm.refl _) rfl ?_
  rintro _ _ _ _ ⟨⟨B, k, rfl, hk, rfl⟩, rfl⟩
  repeat (first | ((with_reducible refine Tr.step rfl ?_); (first | ((with_reducible refine Knd.move ?_); (refine Exec.stab rfl (Stab.move rfl) rfl ?_)) | ((with_reducible refine Knd.assign ?_); (refine Exec.stab rfl (Stab.assign rfl) rfl ?_)) | ((with_reducible refine Knd.len ?_); ((refine Exec.stab rfl (Stab.len rfl (tysOk.get rfl) rfl) rfl ?_))) | ((with_reducible refine Knd.box ?_); (first | (refine Exec.box rfl rfl (fun b => ?_)) | (refine Exec.box1 rfl (by first | rfl | assumption) rfl (fun b => ?_)))) | ((with_reducible refine Knd.build ?_); ((refine Exec.stab rfl (Stab.build tysOk rfl rfl rfl rfl (by repeat (first | exact BuildP.nil | ((apply BuildP.one); (rfl); (rfl); (first | rfl | assumption); (repeat (first | exact SetL.z | apply SetL.s)))))) rfl ?_))))) | (with_reducible refine Tr.next ?_) | (with_reducible refine Tr.seq ?_) | (with_reducible refine Tr.region ?_) | (with_reducible refine Tr.nil ?_) | (with_reducible refine Tr.block ?_))
  generalize hsb : b = sb
  refine Tr.cells (cs' := stC (.slice fA fn fc) (.slice none 0 0) (.slice B need.length k) (List.replicate 64 0) (List.replicate 65 0)) (by repeat (first | exact Upd.here | apply Upd.there)) rfl ?_
  refine Tr.many_new ?_
  refine Tr.own_nil 23 1 ?_
  refine Tr.loop (α := Nat × List (Nat × List Int) × Option Addr × Nat) (fun y => ⟨43, [(18, .int .i64 y.1), (17, .int .i64 sup.length), (16, .slice A1 sup.length c1), (7, .pointer (some ⟨sb, 0, none⟩)), (2, .slice A2 need.length c2)], [], M,
      ownS 23 1 y.2.2.1 y.2.1.length y.2.2.2 (ptrV (need.length + 1) y.2.1) :: rowsR y.2.1 :: box sb 56 (stC (.slice fA fn fc) (.slice y.2.2.1 y.2.1.length y.2.2.2) (.slice B need.length k) (List.replicate 64 0) (List.replicate 65 0)) :: ownS 3 1 B need.length k (intV need) :: ([] ++ F)⟩)
    (fun y => y.1 ≤ sup.length ∧ y.2.1.map (·.2) = (sup.take y.1).map (row0 need.length) ∧ y.2.2.2 ≤ 9223372036854775807) (fun y => sup.length - y.1) (0, [], none, 0) ⟨by simp, rfl, by simp⟩ (holds_sub (by repeat (first | exact SubFr.nil | refine SubFr.cons rfl ?_)) (by repeat (first | exact DropL.refl | apply DropL.skip))) (fun y hy => ?_)
  obtain ⟨i, rws, Am, cm⟩ := y
  obtain ⟨hi, hrw, hcm⟩ := hy
  simp only at hi hrw hcm
  dsimp only
  have hrl : rws.length = i := by
    have := congrArg List.length hrw
    simpa [Nat.min_eq_left hi] using this
  by_cases hlt : i < sup.length
  rotate_left
  · have e : i = sup.length := by omega
    subst e
    rw [List.take_length] at hrw
    repeat (first | ((with_reducible refine Tr.step rfl ?_); (first | ((with_reducible refine Knd.move ?_); (refine Exec.stab rfl (Stab.move rfl) rfl ?_)) | ((with_reducible refine Knd.assign ?_); (refine Exec.stab rfl (Stab.assign rfl) rfl ?_)) | ((with_reducible refine Knd.binOp ?_); ((refine Exec.stab rfl (Stab.int rfl rfl rfl) rfl ?_))))) | (with_reducible refine Tr.next ?_) | (with_reducible refine Tr.seq ?_) | (with_reducible refine Tr.region ?_) | (with_reducible refine Tr.nil ?_) | (with_reducible refine Tr.exit ?_) | (with_reducible refine Tr.ret ?_) | (with_reducible refine Tr.then_exit ?_) | ((with_reducible refine Tr.in_exit ?_ ?_); (exact rfl)) | (refine Tr.cond_f rfl (by first | (with_reducible assumption) | (with_reducible rfl) | (with_reducible exact (not_not_intro rfl)) | omega) ?_))
    refine Tr.front (x := ownS 3 1 _ _ _ _) (by repeat (first | exact Del.here | apply Del.there)) ?_
    refine Tr.front (x := rowsR _) (by repeat (first | exact Del.here | apply Del.there)) ?_
    refine Tr.front (x := ownS 23 1 _ _ _ _) (by repeat (first | exact Del.here | apply Del.there)) ?_
    refine Tr.front (x := box _ 56 _) (by repeat (first | exact Del.here | apply Del.there)) ?_
    refine Tr.doneA (A' := stL ⟨sb, .slice fA fn fc, Am, cm, B, k⟩ (need.length + 1) rws need (List.replicate 64 0) (List.replicate 65 0)) (by first | exact .inl rfl | exact .inr rfl) rfl (by repeat (first | exact RVs.nil | (apply RVs.cons; (exact RV.tmp rfl)))) (Mem.le.refl _) ⟨fun _ h => h, fun h => h⟩ ⟨⟨sb, .slice fA fn fc, Am, cm, B, k⟩, rws, rfl, rfl, hcm, hk, hrw, rfl, rfl⟩
  obtain ⟨x, hx⟩ := get_of_lt hlt
  obtain ⟨hA, hat⟩ := hs.at hx
  repeat (first | ((with_reducible refine Tr.step rfl ?_); (first | ((with_reducible refine Knd.move ?_); (refine Exec.stab rfl (Stab.move rfl) rfl ?_)) | ((with_reducible refine Knd.assign ?_); (refine Exec.stab rfl (Stab.assign rfl) rfl ?_)) | ((with_reducible refine Knd.load ?_); ((refine Exec.stab rfl (Stab.loadM rfl (tysOk.get rfl) rfl (by assumption)) rfl ?_))) | ((with_reducible refine Knd.len ?_); ((refine Exec.stab rfl (Stab.len rfl (tysOk.get rfl) rfl) rfl ?_))) | ((with_reducible refine Knd.binOp ?_); (first | (refine Exec.stab rfl (Stab.addi rfl rfl (by omega)) rfl ?_) | (refine Exec.stab rfl (Stab.int rfl rfl rfl) rfl ?_))) | ((with_reducible refine Knd.indexAddr ?_); (first | (refine Exec.stab rfl (Stab.indexB0 rfl rfl (tysOk.get rfl) rfl (tysOk.get rfl) rfl (by omega) (by omega)) rfl ?_) | (refine Exec.stab rfl (Stab.indexAddr rfl rfl (tysOk.get rfl) rfl (tysOk.get rfl) rfl (by omega) (by omega) (by first | rfl | assumption)) rfl ?_))) | ((with_reducible refine Knd.makeSlice ?_); (refine Exec.make rfl rfl (tysOk.get rfl) rfl (tysOk.get rfl) rfl rfl rfl (by omega) (by omega) (by first | omega | (simp; done) | (simp; omega)) (by omega) rfl (fun b => ?_))))) | (with_reducible refine Tr.next ?_) | (with_reducible refine Tr.seq ?_) | (with_reducible refine Tr.region ?_) | (with_reducible refine Tr.nil ?_) | (with_reducible refine Tr.skip ?_) | (with_reducible refine Tr.block ?_) | (refine Tr.cond_t rfl (by first | (with_reducible assumption) | (with_reducible rfl) | (with_reducible exact (not_not_intro rfl)) | omega) ?_))
  rw [show ((need.length : Int) + 1).toNat = need.length + 1 by omega]
  have hz : (List.replicate (need.length + 1) (Value.int .i64 0)).length = need.length + 1 := by simp
  generalize hb2 : b = b2
  repeat (first | ((with_reducible refine Tr.step rfl ?_); (first | ((with_reducible refine Knd.move ?_); (refine Exec.stab rfl (Stab.move rfl) rfl ?_)) | ((with_reducible refine Knd.load ?_); ((refine Exec.stab rfl (Stab.load rfl (tysOk.get rfl) rfl (by repeat (first | exact Has.here | apply Has.there)) rfl) rfl ?_))) | ((with_reducible refine Knd.fieldAddr ?_); ((refine Exec.stab rfl (Stab.fieldZ rfl (tysOk.get rfl) rfl rfl (tysOk.get rfl) rfl) rfl ?_))) | ((with_reducible refine Knd.nilCheck ?_); (refine Exec.stab rfl (Stab.nilCheck rfl) rfl ?_)) | ((with_reducible refine Knd.store ?_); ((refine Exec.storeS rfl rfl (tysOk.get rfl) rfl (by first | rfl | assumption) (by repeat (first | exact Upd.here | apply Upd.there)) (by omega) ?_))) | ((with_reducible refine Knd.buildSlice ?_); ((refine Exec.buildSlice (tysOk.get rfl) rfl (tysOk.get rfl) rfl rfl rfl rfl rfl (by repeat (first | exact BuildP.nil | ((apply BuildP.one); (rfl); (rfl); (first | rfl | assumption); (repeat (first | exact SetL.z | apply SetL.s))))) rfl (fun b => ?_)))))) | (with_reducible refine Tr.next ?_) | (with_reducible refine Tr.region ?_) | (with_reducible refine Tr.nil ?_))
  refine Tr.cells (cs' := intV (row0 need.length x)) (by repeat (first | exact Upd.here | apply Upd.there)) (row0_cells _ _) ?_
  ((refine Tr.step rfl ?_))
  refine Exec.append (news := ptrV (need.length + 1) [(b2, row0 need.length x)]) rfl rfl (tysOk.get rfl) rfl (tysOk.get rfl) rfl rfl rfl rfl (by repeat (first | exact Del.here | apply Del.there)) (Src.box (by repeat (first | exact Has.here | apply Has.there))) (by simp) (ptrV_one _ _) (by omega) (by omega) rfl (fun A6 c6 hc6 => ?_)
  rw [← ptrV_append, show rws.length + 1 = (rws ++ [(b2, row0 need.length x)]).length by simp]
  repeat (first | ((with_reducible refine Tr.step rfl ?_); (first | ((with_reducible refine Knd.move ?_); (refine Exec.stab rfl (Stab.move rfl) rfl ?_)) | ((with_reducible refine Knd.fieldAddr ?_); ((refine Exec.stab rfl (Stab.fieldZ rfl (tysOk.get rfl) rfl rfl (tysOk.get rfl) rfl) rfl ?_))) | ((with_reducible refine Knd.nilCheck ?_); (refine Exec.stab rfl (Stab.nilCheck rfl) rfl ?_)) | ((with_reducible refine Knd.binOp ?_); ((refine Exec.stab rfl (Stab.addi rfl rfl (by omega)) rfl ?_))) | ((with_reducible refine Knd.store ?_); ((refine Exec.store rfl rfl (tysOk.get rfl) rfl (by first | rfl | assumption) (by repeat (first | exact Upd.here | apply Upd.there)) (by repeat (first | exact SetL.z | apply SetL.s)) ?_))))) | (with_reducible refine Tr.next ?_) | (with_reducible refine Tr.region ?_) | (with_reducible refine Tr.nil ?_) | (with_reducible refine Tr.in_normal ?_))
  refine Tr.cells (cs' := stC (.slice fA fn fc) (.slice A6 (rws ++ [(b2, row0 need.length x)]).length c6) (.slice B need.length k) (List.replicate 64 0) (List.replicate 65 0)) (by repeat (first | exact Upd.here | apply Upd.there)) rfl ?_
  refine Tr.front (x := rowsR _) (by repeat (first | exact Del.here | apply Del.there)) ?_
  refine Tr.front (x := box b2 3 _) (by repeat (first | exact Del.here | apply Del.there)) ?_
  refine Tr.many_add ?_
  rw [rowsR_add]
  refine Tr.give (r := box _ 23 _) (by repeat (first | exact Del.here | apply Del.there)) ?_
  refine Tr.front (x := ownS 23 1 _ _ _ _) (by repeat (first | exact Del.here | apply Del.there)) ?_
  refine Tr.again (i + 1, rws ++ [(b2, row0 need.length x)], A6, c6) ⟨by simp only; omega, ?_, hc6⟩ (by simp only; omega) (holds_sub (by repeat (first | exact SubFr.nil | refine SubFr.cons rfl ?_)) (by repeat (first | exact DropL.refl | apply DropL.skip)))
  simp only [List.map_append, hrw, List.map_cons, List.map_nil]
  rw [List.take_add_one, hx]
  simp
end Go.Proofs.Ytmioocddmlfboaa
/-
  Matching: the contracts of serves and of the two goals (functions of what a search looks for).
  Conditions: none.
-/
namespace Go.Proofs.Ytmioocddmlfboaa
open Go Bf
attribute [local irreducible] Tr Exec Stab HasTy Go.Addr.add IntKind.wrap
/-- may the supply k give to the request b, or keep it? -/
def srvB (fits : List (List Bool)) (R k b : Nat) : Bool := decide (b = R) || (fits.getD k []).getD b false
set_option maxHeartbeats 2000000 in
theorem serves_fn (M : Mem) (A0 Am Al : Option Addr) (c0 cm cl n : Nat) (fits : List (List Bool)) (hf : Fits2 M (.slice A0 fits.length c0) fits) (R : Nat) (hR : R ≤ 64) (hrows : ∀ r ∈ fits, r.length = R) (tk gv : List Int) (sb : Nat) (k b : Nat) (hk : k < fits.length) (hb : b ≤ R) :
    Bf.Fn Try.prog 52 [.pointer (some ⟨sb, 0, none⟩), .int .i64 (k : Int), .int .i64 (b : Int)] M [box sb 56 (stC (.slice A0 fits.length c0) (.slice Am n cm) (.slice Al R cl) tk gv)]
      (fun r M' A' => r = .bool (srvB fits R k b) ∧ M = M' ∧ A' = [box sb 56 (stC (.slice A0 fits.length c0) (.slice Am n cm) (.slice Al R cl) tk gv)]) := by
  have l0 := hf.len_le
  obtain ⟨row, hrow⟩ := get_of_lt hk
  obtain ⟨hA0, ch, hat0, B, kk, rfl, hB⟩ := hf.elem hrow
  have hrl := hrows row (List.mem_of_getElem? hrow)
  refine Fn.intro Try.func52 rfl rfl Try.ntmps52 rfl fun E F => ?_
  by_cases e : b = R
  · have hs : srvB fits R k b = true := by simp [srvB, e]
    repeat (first | ((with_reducible refine Tr.step rfl ?_); (first | ((with_reducible refine Knd.move ?_); (refine Exec.stab rfl (Stab.move rfl) rfl ?_)) | ((with_reducible refine Knd.assign ?_); (refine Exec.stab rfl (Stab.assign rfl) rfl ?_)) | ((with_reducible refine Knd.load ?_); ((refine Exec.stab rfl (Stab.load rfl (tysOk.get rfl) rfl (by repeat (first | exact Has.here | apply Has.there)) rfl) rfl ?_))) | ((with_reducible refine Knd.fieldAddr ?_); ((refine Exec.stab rfl (Stab.fieldZ rfl (tysOk.get rfl) rfl rfl (tysOk.get rfl) rfl) rfl ?_))) | ((with_reducible refine Knd.len ?_); ((refine Exec.stab rfl (Stab.len rfl (tysOk.get rfl) rfl) rfl ?_))) | ((with_reducible refine Knd.nilCheck ?_); (refine Exec.stab rfl (Stab.nilCheck rfl) rfl ?_)) | ((with_reducible refine Knd.binOp ?_); ((refine Exec.stab rfl (Stab.int rfl rfl rfl) rfl ?_))) | ((with_reducible refine Knd.pick ?_); ((refine Exec.stab rfl (Stab.pick_td rfl (by first | (with_reducible assumption) | (with_reducible rfl) | (with_reducible exact (not_not_intro rfl)) | omega) rfl) rfl ?_))))) | (with_reducible refine Tr.next ?_) | (with_reducible refine Tr.seq ?_) | (with_reducible refine Tr.region ?_) | (with_reducible refine Tr.nil ?_) | (refine Tr.guard_n' rfl rfl rfl (by first | (with_reducible assumption) | (with_reducible rfl) | (with_reducible exact (not_not_intro rfl)) | omega) rfl rfl ?_) | (with_reducible refine Tr.ret ?_))
    refine Tr.doneA (A' := [box sb 56 _]) (by first | exact .inl rfl | exact .inr rfl) rfl (by repeat (first | exact RVs.nil | (apply RVs.cons; (exact RV.tmp rfl)))) (Mem.le.refl _) ⟨fun _ h => h, fun h => h⟩ ⟨by rw [hs]; rfl, rfl, rfl⟩
  · obtain ⟨x, hx⟩ := get_of_lt (xs := row) (i := b) (by omega)
    obtain ⟨hA, hat⟩ := hB.at hx
    have hs : srvB fits R k b = x := by
      unfold srvB
      rw [getD_of (d := []) hrow, getD_of (d := false) hx]; simp [e]
    have hne : ¬ (b : Int) = (R : Int) := by omega
    repeat (first | ((with_reducible refine Tr.step rfl ?_); (first | ((with_reducible refine Knd.move ?_); (refine Exec.stab rfl (Stab.move rfl) rfl ?_)) | ((with_reducible refine Knd.assign ?_); (refine Exec.stab rfl (Stab.assign rfl) rfl ?_)) | ((with_reducible refine Knd.load ?_); ((refine Exec.stab rfl (Stab.load rfl (tysOk.get rfl) rfl (by repeat (first | exact Has.here | apply Has.there)) rfl) rfl ?_))) | ((with_reducible refine Knd.fieldAddr ?_); ((refine Exec.stab rfl (Stab.fieldZ rfl (tysOk.get rfl) rfl rfl (tysOk.get rfl) rfl) rfl ?_))) | ((with_reducible refine Knd.len ?_); ((refine Exec.stab rfl (Stab.len rfl (tysOk.get rfl) rfl) rfl ?_))) | ((with_reducible refine Knd.nilCheck ?_); (refine Exec.stab rfl (Stab.nilCheck rfl) rfl ?_)) | ((with_reducible refine Knd.binOp ?_); ((refine Exec.stab rfl (Stab.int rfl rfl rfl) rfl ?_))) | ((with_reducible refine Knd.pick ?_); ((refine Exec.stab rfl (Stab.pick_fd rfl (by first | (with_reducible assumption) | (with_reducible rfl) | (with_reducible exact (not_not_intro rfl)) | omega) rfl) rfl ?_))))) | (with_reducible refine Tr.next ?_) | (with_reducible refine Tr.seq ?_) | (with_reducible refine Tr.region ?_) | (with_reducible refine Tr.nil ?_) | ((refine Tr.guard_y' rfl rfl rfl (by first | (with_reducible assumption) | (with_reducible rfl) | (with_reducible exact (not_not_intro rfl)) | omega) ?_); (first | ((with_reducible refine Knd.move ?_); (refine Exec.stab rfl (Stab.move rfl) rfl ?_)) | ((with_reducible refine Knd.load ?_); (first | (refine Exec.stab rfl (Stab.load rfl (tysOk.get rfl) rfl (by repeat (first | exact Has.here | apply Has.there)) rfl) rfl ?_) | (refine Exec.stab rfl (Stab.loadM rfl (tysOk.get rfl) rfl (by assumption)) rfl ?_))) | ((with_reducible refine Knd.fieldAddr ?_); ((refine Exec.stab rfl (Stab.fieldZ rfl (tysOk.get rfl) rfl rfl (tysOk.get rfl) rfl) rfl ?_))) | ((with_reducible refine Knd.nilCheck ?_); (refine Exec.stab rfl (Stab.nilCheck rfl) rfl ?_)) | ((with_reducible refine Knd.indexAddr ?_); ((refine Exec.stab rfl (Stab.indexAddr rfl rfl (tysOk.get rfl) rfl (tysOk.get rfl) rfl (by omega) (by omega) (by first | rfl | assumption)) rfl ?_))))) | (with_reducible refine Tr.ret ?_))
    refine Tr.doneA (A' := [box sb 56 _]) (by first | exact .inl rfl | exact .inr rfl) rfl (by repeat (first | exact RVs.nil | (apply RVs.cons; (exact RV.tmp rfl)))) (Mem.le.refl _) ⟨fun _ h => h, fun h => h⟩ ⟨by rw [hs]; rfl, rfl, rfl⟩
/-- the goal of fill: a request that lacks something -/
def lacksB (lack : List Int) (b : Nat) : Bool := decide (b < lack.length) && decide (0 < lack.getD b 0)
set_option maxHeartbeats 2000000 in
theorem lacks_fn (M : Mem) (o : Loc) (m : Nat) (rws : List (Nat × List Int)) (lack tk gv : List Int) (hl : lack.length ≤ 64) (rb sp : Nat) (b : Nat) (hb : b ≤ 64) :
    Bf.Fn Try.prog 44 [.int .i64 (b : Int), .pointer (some ⟨rb, 0, none⟩), .pointer (some ⟨sp, 0, none⟩)] M (stL o m rws lack tk gv ++ [box rb 3 [.int .i64 (lack.length : Int)], box sp 51 [.pointer (some ⟨o.sb, 0, none⟩)]])
      (fun r M' A' => r = .bool (lacksB lack b) ∧ M = M' ∧ A' = stL o m rws lack tk gv ++ [box rb 3 [.int .i64 (lack.length : Int)], box sp 51 [.pointer (some ⟨o.sb, 0, none⟩)]]) := by
  refine Fn.intro Try.func44 rfl rfl Try.ntmps44 rfl fun E F => ?_
  simp only [stL, List.cons_append, List.nil_append]
  by_cases hlt : b < lack.length
  · obtain ⟨x, hx⟩ := get_of_lt hlt
    have hv := intV_get hx
    have hs : lacksB lack b = decide (0 < x) := by
      unfold lacksB
      rw [getD_of (d := 0) hx]; simp [hlt]
    refine Tr.own_some o.Al (by repeat (first | exact Has.here | apply Has.there)) (by omega) (fun hA => ?_)
    repeat (first | ((with_reducible refine Tr.step rfl ?_); (first | ((with_reducible refine Knd.move ?_); (refine Exec.stab rfl (Stab.move rfl) rfl ?_)) | ((with_reducible refine Knd.assign ?_); (refine Exec.stab rfl (Stab.assign rfl) rfl ?_)) | ((with_reducible refine Knd.load ?_); ((refine Exec.stab rfl (Stab.load rfl (tysOk.get rfl) rfl (by repeat (first | exact Has.here | apply Has.there)) rfl) rfl ?_))) | ((with_reducible refine Knd.binOp ?_); ((refine Exec.stab rfl (Stab.int rfl rfl rfl) rfl ?_))) | ((with_reducible refine Knd.pick ?_); ((refine Exec.stab rfl (Stab.pick_td rfl (by first | (with_reducible assumption) | (with_reducible rfl) | (with_reducible exact (not_not_intro rfl)) | omega) rfl) rfl ?_))))) | (with_reducible refine Tr.next ?_) | (with_reducible refine Tr.seq ?_) | (with_reducible refine Tr.region ?_) | (with_reducible refine Tr.nil ?_) | ((refine Tr.guard_y rfl rfl rfl (by first | (with_reducible assumption) | (with_reducible rfl) | (with_reducible exact (not_not_intro rfl)) | omega) ?_); (first | ((with_reducible refine Knd.move ?_); (refine Exec.stab rfl (Stab.move rfl) rfl ?_)) | ((with_reducible refine Knd.load ?_); (first | (refine Exec.stab rfl (Stab.load rfl (tysOk.get rfl) rfl (by repeat (first | exact Has.here | apply Has.there)) rfl) rfl ?_) | (refine Exec.stab rfl (Stab.loadO rfl (tysOk.get rfl) rfl (by repeat (first | exact Has.here | apply Has.there)) (by assumption)) rfl ?_))) | ((with_reducible refine Knd.fieldAddr ?_); ((refine Exec.stab rfl (Stab.fieldZ rfl (tysOk.get rfl) rfl rfl (tysOk.get rfl) rfl) rfl ?_))) | ((with_reducible refine Knd.nilCheck ?_); (refine Exec.stab rfl (Stab.nilCheck rfl) rfl ?_)) | ((with_reducible refine Knd.binOp ?_); ((refine Exec.stab rfl (Stab.int rfl rfl rfl) rfl ?_))) | ((with_reducible refine Knd.indexAddr ?_); ((refine Exec.stab rfl (Stab.indexAddr rfl rfl (tysOk.get rfl) rfl (tysOk.get rfl) rfl (by omega) (by omega) (by first | rfl | assumption)) rfl ?_))))) | (with_reducible refine Tr.ret ?_))
    refine Tr.doneA (A' := [_, _, _, _, _, _]) (by first | exact .inl rfl | exact .inr rfl) rfl (by repeat (first | exact RVs.nil | (apply RVs.cons; (exact RV.tmp rfl)))) (Mem.le.refl _) ⟨fun _ h => h, fun h => h⟩ ⟨by rw [hs]; rfl, rfl, rfl⟩
  · have hs : lacksB lack b = false := by simp [lacksB, hlt]
    repeat (first | ((with_reducible refine Tr.step rfl ?_); (first | ((with_reducible refine Knd.move ?_); (refine Exec.stab rfl (Stab.move rfl) rfl ?_)) | ((with_reducible refine Knd.assign ?_); (refine Exec.stab rfl (Stab.assign rfl) rfl ?_)) | ((with_reducible refine Knd.load ?_); ((refine Exec.stab rfl (Stab.load rfl (tysOk.get rfl) rfl (by repeat (first | exact Has.here | apply Has.there)) rfl) rfl ?_))) | ((with_reducible refine Knd.binOp ?_); ((refine Exec.stab rfl (Stab.int rfl rfl rfl) rfl ?_))) | ((with_reducible refine Knd.pick ?_); ((refine Exec.stab rfl (Stab.pick_fd rfl (by first | (with_reducible assumption) | (with_reducible rfl) | (with_reducible exact (not_not_intro rfl)) | omega) rfl) rfl ?_))))) | (with_reducible refine Tr.next ?_) | (with_reducible refine Tr.seq ?_) | (with_reducible refine Tr.region ?_) | (with_reducible refine Tr.nil ?_) | (refine Tr.guard_n rfl rfl rfl (by first | (with_reducible assumption) | (with_reducible rfl) | (with_reducible exact (not_not_intro rfl)) | omega) rfl rfl ?_) | (with_reducible refine Tr.ret ?_))
    refine Tr.doneA (A' := [_, _, _, _, _, _]) (by first | exact .inl rfl | exact .inr rfl) rfl (by repeat (first | exact RVs.nil | (apply RVs.cons; (exact RV.tmp rfl)))) (Mem.le.refl _) ⟨fun _ h => h, fun h => h⟩ ⟨by rw [hs]; rfl, rfl, rfl⟩
theorem set_same {α : Type} {l : List α} {i : Nat} {x : α} (h : l[i]? = some x) : l.set i x = l := by
  apply List.ext_getElem?
  intro j
  by_cases e : i = j
  · subst e
    rw [List.getElem?_set_self (List.getElem?_eq_some_iff.1 h).1, h]
  · rw [List.getElem?_set_ne e]
theorem rows_get {rws : List (Nat × List Int)} {i b : Nat} {r : List Int} (h : rws[i]? = some (b, r)) : (rws.map fun x => box x.1 3 (intV x.2))[i]? = some (box b 3 (intV r)) := by simp [h]
theorem rows_set (rws : List (Nat × List Int)) (i b : Nat) (r : List Int) : (rws.map fun x => box x.1 3 (intV x.2)).set i (box b 3 (intV r)) = (rws.set i (b, r)).map fun x => box x.1 3 (intV x.2) := by rw [List.map_set]
/-- the goal of raise: a later request to which the supply gives something -/
def laterB (row : List Int) (j b : Nat) : Bool := decide (j < b) && decide (0 < row.getD b 0)
set_option maxHeartbeats 2000000 in
theorem later_fn (M : Mem) (o : Loc) (m : Nat) (rws : List (Nat × List Int)) (lack tk gv : List Int) (i bi : Nat) (row : List Int) (hrow : rws[i]? = some (bi, row)) (hm : row.length = m) (jb rb : Nat) (j b : Nat) (hb : b < m) (hm65 : m ≤ 65) (hj : j ≤ 64) :
    Bf.Fn Try.prog 48 [.int .i64 (b : Int), .pointer (some ⟨jb, 0, none⟩), .pointer (some ⟨rb, 0, none⟩)] M (stL o m rws lack tk gv ++ [box jb 3 [.int .i64 (j : Int)], box rb 23 [.slice (some ⟨bi, 0, none⟩) m m]])
      (fun r M' A' => r = .bool (laterB row j b) ∧ M = M' ∧ A' = stL o m rws lack tk gv ++ [box jb 3 [.int .i64 (j : Int)], box rb 23 [.slice (some ⟨bi, 0, none⟩) m m]]) := by
  refine Fn.intro Try.func48 rfl rfl Try.ntmps48 rfl fun E F => ?_
  simp only [stL, List.cons_append, List.nil_append]
  obtain ⟨x, hx⟩ := get_of_lt (xs := row) (i := b) (by omega)
  have hv : nthL (intV row) b = some (.int .i64 x) := by rw [nthL_eq]; exact intV_get hx
  by_cases hlt : j < b
  · have hs : laterB row j b = decide (0 < x) := by
      unfold laterB
      rw [getD_of (d := 0) hx]; simp [hlt]
    unfold rowsR
    refine Tr.many_out (by repeat (first | exact Del.here | apply Del.there)) (rows_get hrow) ?_
    repeat (first | ((with_reducible refine Tr.step rfl ?_); (first | ((with_reducible refine Knd.move ?_); (refine Exec.stab rfl (Stab.move rfl) rfl ?_)) | ((with_reducible refine Knd.assign ?_); (refine Exec.stab rfl (Stab.assign rfl) rfl ?_)) | ((with_reducible refine Knd.load ?_); ((refine Exec.stab rfl (Stab.load rfl (tysOk.get rfl) rfl (by repeat (first | exact Has.here | apply Has.there)) rfl) rfl ?_))) | ((with_reducible refine Knd.binOp ?_); ((refine Exec.stab rfl (Stab.int rfl rfl rfl) rfl ?_))) | ((with_reducible refine Knd.pick ?_); ((refine Exec.stab rfl (Stab.pick_td rfl (by first | (with_reducible assumption) | (with_reducible rfl) | (with_reducible exact (not_not_intro rfl)) | omega) rfl) rfl ?_))))) | (with_reducible refine Tr.next ?_) | (with_reducible refine Tr.seq ?_) | (with_reducible refine Tr.region ?_) | (with_reducible refine Tr.nil ?_) | ((refine Tr.guard_y rfl rfl rfl (by first | (with_reducible assumption) | (with_reducible rfl) | (with_reducible exact (not_not_intro rfl)) | omega) ?_); (first | ((with_reducible refine Knd.move ?_); (refine Exec.stab rfl (Stab.move rfl) rfl ?_)) | ((with_reducible refine Knd.load ?_); (first | (refine Exec.stab rfl (Stab.load rfl (tysOk.get rfl) rfl (by repeat (first | exact Has.here | apply Has.there)) rfl) rfl ?_) | (refine Exec.stab rfl (Stab.load rfl (tysOk.get rfl) rfl (by repeat (first | exact Has.here | apply Has.there)) (by assumption)) rfl ?_))) | ((with_reducible refine Knd.binOp ?_); ((refine Exec.stab rfl (Stab.int rfl rfl rfl) rfl ?_))) | ((with_reducible refine Knd.indexAddr ?_); ((refine Exec.stab rfl (Stab.indexB0 rfl rfl (tysOk.get rfl) rfl (tysOk.get rfl) rfl (by omega) (by omega)) rfl ?_))))) | (with_reducible refine Tr.ret ?_))
    refine Tr.many_in (rows_get hrow) ?_
    rw [rows_set, set_same hrow]
    refine Tr.front (x := ownS 23 1 _ _ _ _) (by repeat (first | exact Del.here | apply Del.there)) ?_
    refine Tr.front (x := box o.sb 56 _) (by repeat (first | exact Del.here | apply Del.there)) ?_
    refine Tr.doneA (A' := [_, _, _, _, _, _]) (by first | exact .inl rfl | exact .inr rfl) rfl (by repeat (first | exact RVs.nil | (apply RVs.cons; (exact RV.tmp rfl)))) (Mem.le.refl _) ⟨fun _ h => h, fun h => h⟩ ⟨by rw [hs]; rfl, rfl, rfl⟩
  · have hs : laterB row j b = false := by simp [laterB, hlt]
    repeat (first | ((with_reducible refine Tr.step rfl ?_); (first | ((with_reducible refine Knd.move ?_); (refine Exec.stab rfl (Stab.move rfl) rfl ?_)) | ((with_reducible refine Knd.assign ?_); (refine Exec.stab rfl (Stab.assign rfl) rfl ?_)) | ((with_reducible refine Knd.load ?_); ((refine Exec.stab rfl (Stab.load rfl (tysOk.get rfl) rfl (by repeat (first | exact Has.here | apply Has.there)) rfl) rfl ?_))) | ((with_reducible refine Knd.binOp ?_); ((refine Exec.stab rfl (Stab.int rfl rfl rfl) rfl ?_))) | ((with_reducible refine Knd.pick ?_); ((refine Exec.stab rfl (Stab.pick_fd rfl (by first | (with_reducible assumption) | (with_reducible rfl) | (with_reducible exact (not_not_intro rfl)) | omega) rfl) rfl ?_))))) | (with_reducible refine Tr.next ?_) | (with_reducible refine Tr.seq ?_) | (with_reducible refine Tr.region ?_) | (with_reducible refine Tr.nil ?_) | (refine Tr.guard_n rfl rfl rfl (by first | (with_reducible assumption) | (with_reducible rfl) | (with_reducible exact (not_not_intro rfl)) | omega) rfl rfl ?_) | (with_reducible refine Tr.ret ?_))
    refine Tr.doneA (A' := [_, _, _, _, _, _]) (by first | exact .inl rfl | exact .inr rfl) rfl (by repeat (first | exact RVs.nil | (apply RVs.cons; (exact RV.tmp rfl)))) (Mem.le.refl _) ⟨fun _ h => h, fun h => h⟩ ⟨by rw [hs]; rfl, rfl, rfl⟩
end Go.Proofs.Ytmioocddmlfboaa
/-
  Matching: what a search keeps (plain): the tree of what is reached, and how it grows.
  Conditions: none.
-/
namespace Go.Proofs.Ytmioocddmlfboaa
open Go Bf
attribute [local irreducible] Tr Exec Stab HasTy Go.Addr.add IntKind.wrap
/-- what the supply k gives to b -/
def amt (rws : List (Nat × List Int)) (k b : Nat) : Int := (rws.map (·.2)).getD k [] |>.getD b 0
/-- the tree of a search from a, by supplies from r1 on: what is reached, in order -/
structure Core (rws : List (Nat × List Int)) (fits : List (List Bool)) (R r1 a : Nat) (tk gv : List Int) (ord : List Nat) : Prop where
  ltk : tk.length = 64
  lgv : gv.length = 65
  nd : ord.Nodup
  le : ∀ b ∈ ord, b ≤ R
  mem : ∀ b, b ≤ R → (gv.getD b 0 ≠ -1 ↔ b ∈ ord)
  hd : ord[0]? = some a ∧ gv.getD a 0 = -2
  tkn : ∀ k, k < rws.length → -1 ≤ tk.getD k 0
  tree : ∀ i b, ord[i]? = some b → 0 < i → ∃ j x k : Nat, j < i ∧ ord[j]? = some x ∧ k < rws.length ∧ r1 ≤ k ∧ gv.getD b 0 = (k : Int) ∧ tk.getD k 0 = (x : Int) ∧ amt rws k x ≠ 0 ∧ srvB fits R k b = true
theorem getD_set_self' {l : List Int} {i : Nat} {v d : Int} (h : i < l.length) : (l.set i v).getD i d = v := by
  rw [List.getD_eq_getElem?_getD, List.getElem?_set_self h]; rfl
theorem getD_set_ne' {l : List Int} {i j : Nat} {v d : Int} (h : i ≠ j) : (l.set i v).getD j d = l.getD j d := by
  rw [List.getD_eq_getElem?_getD, List.getElem?_set_ne h, ← List.getD_eq_getElem?_getD]
/-- at the beginning -/
theorem Core.start {rws : List (Nat × List Int)} {fits : List (List Bool)} {R r1 a : Nat} {tk gv : List Int} (h1 : tk.length = 64) (h2 : gv.length = 65) (h3 : ∀ k, k < 64 → tk.getD k 0 = -1) (h4 : ∀ b, b < 65 → gv.getD b 0 = -1) (hR : R ≤ 64) (ha : a ≤ R) (hn : rws.length ≤ 64) :
    Core rws fits R r1 a tk (gv.set a (-2)) [a] := by
  refine ⟨h1, by simpa using h2, by simp, by simpa using ha, fun b hb => ?_, ⟨rfl, getD_set_self' (by omega)⟩, fun k hk => by rw [h3 k (by omega)]; decide, fun i b hi h0 => ?_⟩
  · by_cases e : a = b
    · subst e
      rw [getD_set_self' (by omega)]
      simp
    · rw [getD_set_ne' e, h4 b (by omega)]
      simp [Ne.symm e]
  · have := (List.getElem?_eq_some_iff.1 hi).1
    simp at this
    omega
/-- a supply is reached -/
theorem Core.take {rws : List (Nat × List Int)} {fits : List (List Bool)} {R r1 a : Nat} {tk gv : List Int} {ord : List Nat} (h : Core rws fits R r1 a tk gv ord) {k x : Nat} (hk : k < rws.length) (hn : rws.length ≤ 64) (h0 : tk.getD k 0 = -1) : Core rws fits R r1 a (tk.set k (x : Int)) gv ord := by
  refine ⟨by simpa using h.ltk, h.lgv, h.nd, h.le, h.mem, h.hd, fun k' hk' => ?_, fun i b hi hp => ?_⟩
  · by_cases e : k = k'
    · subst e
      rw [getD_set_self' (by have := h.ltk; omega)]; omega
    · rw [getD_set_ne' e]; exact h.tkn k' hk'
  · obtain ⟨j, y, k', g1, g2, g3, g4, g5, g6, g7, g8⟩ := h.tree i b hi hp
    have hne : k ≠ k' := fun e => by
      subst e
      rw [h0] at g6
      omega
    exact ⟨j, y, k', g1, g2, g3, g4, g5, by rw [getD_set_ne' hne]; exact g6, g7, g8⟩
/-- a request is reached -/
theorem Core.give {rws : List (Nat × List Int)} {fits : List (List Bool)} {R r1 a : Nat} {tk gv : List Int} {ord : List Nat} (h : Core rws fits R r1 a tk gv ord) (hR : R ≤ 64) {k x b : Nat} (hk : k < rws.length) (hr : r1 ≤ k) (hb : b ≤ R) (h0 : gv.getD b 0 = -1) (hx : x ∈ ord) (htk : tk.getD k 0 = (x : Int)) (ha : amt rws k x ≠ 0) (hs : srvB fits R k b = true) :
    Core rws fits R r1 a tk (gv.set b (k : Int)) (ord ++ [b]) := by
  have hbn : b ∉ ord := fun hm => (h.mem b hb).2 hm h0
  have hgl := h.lgv
  refine ⟨h.ltk, by simpa using h.lgv, ?_, fun c hc => ?_, fun c hc => ?_, ⟨?_, ?_⟩, h.tkn, fun i c hi hp => ?_⟩
  · rw [List.nodup_append]
    exact ⟨h.nd, by simp, fun c hc d hd e => by simp at hd; subst hd; subst e; exact hbn hc⟩
  · rcases List.mem_append.1 hc with hc | hc
    · exact h.le c hc
    · simp at hc; rw [hc]; exact hb
  · by_cases e : b = c
    · subst e
      rw [getD_set_self' (by omega)]
      exact ⟨fun _ => by simp, fun _ => by omega⟩
    · rw [getD_set_ne' e, h.mem c hc]
      simp [Ne.symm e]
  · rw [List.getElem?_append_left]
    · exact h.hd.1
    · exact (List.getElem?_eq_some_iff.1 h.hd.1).1
  · have : b ≠ a := fun e => by
      subst e
      exact hbn (List.mem_of_getElem? h.hd.1)
    rw [getD_set_ne' this]; exact h.hd.2
  · by_cases hlt : i < ord.length
    · rw [List.getElem?_append_left hlt] at hi
      obtain ⟨j, y, k', g1, g2, g3, g4, g5, g6, g7, g8⟩ := h.tree i c hi hp
      have hne : b ≠ c := fun e => by
        subst e
        exact hbn (List.mem_of_getElem? hi)
      exact ⟨j, y, k', g1, by rw [List.getElem?_append_left (by omega)]; exact g2, g3, g4, by rw [getD_set_ne' hne]; exact g5, g6, g7, g8⟩
    · have hi2 := (List.getElem?_eq_some_iff.1 hi).1
      simp at hi2
      have e : i = ord.length := by omega
      subst e
      rw [List.getElem?_append_right (Nat.le_refl _), Nat.sub_self] at hi
      simp at hi
      subst hi
      obtain ⟨j, hj⟩ := List.mem_iff_getElem?.1 hx
      have hjl := (List.getElem?_eq_some_iff.1 hj).1
      exact ⟨j, x, k, hjl, by rw [List.getElem?_append_left hjl]; exact hj, hk, hr, getD_set_self' (by omega), htk, ha, hs⟩
theorem nodup_len : ∀ (N : Nat) (l : List Nat), l.Nodup → (∀ x ∈ l, x < N) → l.length ≤ N
  | 0, [], _, _ => Nat.le_refl _
  | 0, x :: l, _, h => by have := h x (by simp); omega
  | N + 1, l, hn, h => by
    have h1 := nodup_len N (l.erase N) (hn.erase N) (fun x hx => by
      have h2 := (hn.mem_erase_iff).1 hx
      have := h x h2.2
      omega)
    rw [List.length_erase] at h1
    split at h1 <;> omega
theorem Core.count {rws : List (Nat × List Int)} {fits : List (List Bool)} {R r1 a : Nat} {tk gv : List Int} {ord : List Nat} (h : Core rws fits R r1 a tk gv ord) : ord.length ≤ R + 1 := nodup_len (R + 1) ord h.nd fun b hb => by have := h.le b hb; omega
/-- the cells of a state, changed -/
theorem stC_tk {fs am lk : Value} {tk gv : List Int} {k : Nat} {v : Int} (hk : k < tk.length) : (stC fs am lk tk gv).set (3 + k) (.int .i64 v) = stC fs am lk (tk.set k v) gv := by
  unfold stC
  rw [show 3 + k = k + 1 + 1 + 1 by omega]
  simp only [List.set_cons_succ]
  rw [List.set_append_left _ _ (by simpa using hk), intV_set]
theorem stC_gv {fs am lk : Value} {tk gv : List Int} {k : Nat} {v : Int} (ht : tk.length = 64) : (stC fs am lk tk gv).set (67 + k) (.int .i64 v) = stC fs am lk tk (gv.set k v) := by
  unfold stC
  rw [show 67 + k = (64 + k) + 1 + 1 + 1 by omega]
  simp only [List.set_cons_succ]
  rw [List.set_append_right _ _ (by simp; omega)]
  simp only [intV_length, ht]
  rw [show 64 + k - 64 = k by omega, intV_set]
theorem stC_tkAt {fs am lk : Value} {tk gv : List Int} {k : Nat} (hk : k < tk.length) : nthL (stC fs am lk tk gv) (3 + k) = some (.int .i64 (tk.getD k 0)) := by
  rw [nthL_eq]
  unfold stC
  rw [show 3 + k = k + 1 + 1 + 1 by omega]
  simp only [List.getElem?_cons_succ]
  rw [List.getElem?_append_left (by simpa using hk), intV_get (x := tk.getD k 0)]
  rw [List.getD_eq_getElem?_getD]
  simp [hk]
theorem stC_gvAt {fs am lk : Value} {tk gv : List Int} {k : Nat} (ht : tk.length = 64) (hk : k < gv.length) : nthL (stC fs am lk tk gv) (67 + k) = some (.int .i64 (gv.getD k 0)) := by
  rw [nthL_eq]
  unfold stC
  rw [show 67 + k = (64 + k) + 1 + 1 + 1 by omega]
  simp only [List.getElem?_cons_succ]
  rw [List.getElem?_append_right (by simp; omega)]
  simp only [intV_length, ht]
  rw [show 64 + k - 64 = k by omega, intV_get (x := gv.getD k 0)]
  rw [List.getD_eq_getElem?_getD]
  simp [hk]
end Go.Proofs.Ytmioocddmlfboaa
