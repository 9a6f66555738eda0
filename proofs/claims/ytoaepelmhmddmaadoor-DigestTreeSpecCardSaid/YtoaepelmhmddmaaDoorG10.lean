/-
  The digest: the contracts of steps and length; of Path where it refuses, and of the reference's Path and Same.
  Conditions: none.
-/
import Derived.Test.YtoaepelmhmddmaaDoorG9
namespace Go.Proofs.YtoaepelmhmddmaaDoor
open Go Bf
attribute [local irreducible] Tr Exec Stab HasTy Go.Addr.add IntKind.wrap
attribute [local irreducible] hlf tagF sumF
set_option maxHeartbeats 2000000 in
theorem steps_fn (M : Mem) (at0 n0 : Nat) (h0 : at0 < n0) (hn0 : n0 ≤ 1099511627776) : Fn0 Tryd.prog 37 [.int .i64 (at0 : Int), .int .i64 (n0 : Int)] M (fun r M' => r = .int .i64 (stepsF at0 n0 : Int) ∧ M = M') := by
  have hs0 := stepsF_le n0 at0
  refine Fn.intro Tryd.func37 rfl rfl Tryd.ntmps37 rfl fun E F => ?_
  repeat (first | ((with_reducible refine Tr.step rfl ?_); (((with_reducible refine Knd.assign ?_); (refine Exec.stab rfl (Stab.assign rfl) rfl ?_)))) | (with_reducible refine Tr.next ?_) | (with_reducible refine Tr.seq ?_) | (with_reducible refine Tr.region ?_) | (with_reducible refine Tr.nil ?_) | (with_reducible refine Tr.block ?_))
  refine Tr.loop (α := Nat × Nat × Nat) (fun y => ⟨23, [(4, .int .i64 y.2.2), (1, .int .i64 y.2.1), (0, .int .i64 y.1)], [], M, [] ++ F⟩)
    (fun y => y.1 < y.2.1 ∧ y.2.1 ≤ n0 ∧ y.2.2 + stepsF y.1 y.2.1 = stepsF at0 n0) (fun y => y.2.1) (at0, n0, 0) ⟨h0, Nat.le_refl _, by simp⟩ (holds_sub (by repeat (first | exact SubFr.nil | refine SubFr.cons rfl ?_)) (by repeat (first | exact DropL.refl | apply DropL.skip))) (fun y hy => ?_)
  obtain ⟨at_, n, m⟩ := y
  obtain ⟨h1, h2, h3⟩ := hy
  simp only at h1 h2 h3
  dsimp only
  by_cases hn : 2 ≤ n
  · have k1 := hlf_lt hn
    have k2 := hlf_pos n
    by_cases hl : at_ < hlf n
    · rw [stepsF_left hn hl] at h3
      repeat (first | ((with_reducible refine Tr.step rfl ?_); (first | ((with_reducible refine Knd.move ?_); (refine Exec.stab rfl (Stab.move rfl) rfl ?_)) | ((with_reducible refine Knd.binOp ?_); ((refine Exec.stab rfl (Stab.int rfl rfl rfl) rfl ?_))))) | (with_reducible refine Tr.next ?_) | (with_reducible refine Tr.seq ?_) | (with_reducible refine Tr.region ?_) | (with_reducible refine Tr.nil ?_) | (with_reducible refine Tr.skip ?_) | (with_reducible refine Tr.block ?_) | (refine Tr.cond_t rfl (by first | (with_reducible assumption) | (with_reducible rfl) | (with_reducible exact (not_not_intro rfl)) | omega) ?_))
      ((refine Tr.step rfl ?_)); refine Exec.call0 rfl (half_fn M n hn (by omega)) rfl ?_
      rintro _ _ _ ⟨rfl, rfl⟩
      repeat (first | ((with_reducible refine Tr.step rfl ?_); (first | ((with_reducible refine Knd.move ?_); (refine Exec.stab rfl (Stab.move rfl) rfl ?_)) | ((with_reducible refine Knd.assign ?_); (refine Exec.stab rfl (Stab.assign rfl) rfl ?_)) | ((with_reducible refine Knd.binOp ?_); (first | (refine Exec.stab rfl (Stab.addi rfl rfl (by omega)) rfl ?_) | (refine Exec.stab rfl (Stab.int rfl rfl rfl) rfl ?_))))) | (with_reducible refine Tr.next ?_) | (with_reducible refine Tr.seq ?_) | (with_reducible refine Tr.region ?_) | (with_reducible refine Tr.nil ?_) | (with_reducible refine Tr.in_normal ?_) | (refine Tr.cond_t rfl (by first | (with_reducible assumption) | (with_reducible rfl) | (with_reducible exact (not_not_intro rfl)) | omega) ?_))
      rw [show (m : Int) + 1 = ((m + 1 : Nat) : Int) by omega]
      refine Tr.again (at_, hlf n, m + 1) ⟨hl, by simp only; omega, by simp only; omega⟩ (by simp only; omega) (holds_sub (by repeat (first | exact SubFr.nil | refine SubFr.cons rfl ?_)) (by repeat (first | exact DropL.refl | apply DropL.skip)))
    · rw [stepsF_right hn hl] at h3
      repeat (first | ((with_reducible refine Tr.step rfl ?_); (first | ((with_reducible refine Knd.move ?_); (refine Exec.stab rfl (Stab.move rfl) rfl ?_)) | ((with_reducible refine Knd.binOp ?_); ((refine Exec.stab rfl (Stab.int rfl rfl rfl) rfl ?_))))) | (with_reducible refine Tr.next ?_) | (with_reducible refine Tr.seq ?_) | (with_reducible refine Tr.region ?_) | (with_reducible refine Tr.nil ?_) | (with_reducible refine Tr.skip ?_) | (with_reducible refine Tr.block ?_) | (refine Tr.cond_t rfl (by first | (with_reducible assumption) | (with_reducible rfl) | (with_reducible exact (not_not_intro rfl)) | omega) ?_))
      ((refine Tr.step rfl ?_)); refine Exec.call0 rfl (half_fn M n hn (by omega)) rfl ?_
      rintro _ _ _ ⟨rfl, rfl⟩
      repeat (first | ((with_reducible refine Tr.step rfl ?_); (first | ((with_reducible refine Knd.move ?_); (refine Exec.stab rfl (Stab.move rfl) rfl ?_)) | ((with_reducible refine Knd.assign ?_); (refine Exec.stab rfl (Stab.assign rfl) rfl ?_)) | ((with_reducible refine Knd.binOp ?_); (first | (refine Exec.stab rfl (Stab.addi rfl rfl (by omega)) rfl ?_) | (refine Exec.stab rfl (Stab.subi rfl rfl (by omega)) rfl ?_) | (refine Exec.stab rfl (Stab.int rfl rfl rfl) rfl ?_))))) | (with_reducible refine Tr.next ?_) | (with_reducible refine Tr.seq ?_) | (with_reducible refine Tr.region ?_) | (with_reducible refine Tr.nil ?_) | (with_reducible refine Tr.in_normal ?_) | (refine Tr.cond_f rfl (by first | (with_reducible assumption) | (with_reducible rfl) | (with_reducible exact (not_not_intro rfl)) | omega) ?_))
      rw [show (m : Int) + 1 = ((m + 1 : Nat) : Int) by omega, show (at_ : Int) - (hlf n : Int) = ((at_ - hlf n : Nat) : Int) by omega, show (n : Int) - (hlf n : Int) = ((n - hlf n : Nat) : Int) by omega]
      refine Tr.again (at_ - hlf n, n - hlf n, m + 1) ⟨by simp only; omega, by simp only; omega, by simp only; omega⟩ (by simp only; omega) (holds_sub (by repeat (first | exact SubFr.nil | refine SubFr.cons rfl ?_)) (by repeat (first | exact DropL.refl | apply DropL.skip)))
  · rw [stepsF_one hn] at h3
    repeat (first | ((with_reducible refine Tr.step rfl ?_); (first | ((with_reducible refine Knd.move ?_); (refine Exec.stab rfl (Stab.move rfl) rfl ?_)) | ((with_reducible refine Knd.assign ?_); (refine Exec.stab rfl (Stab.assign rfl) rfl ?_)) | ((with_reducible refine Knd.binOp ?_); ((refine Exec.stab rfl (Stab.int rfl rfl rfl) rfl ?_))))) | (with_reducible refine Tr.next ?_) | (with_reducible refine Tr.seq ?_) | (with_reducible refine Tr.region ?_) | (with_reducible refine Tr.nil ?_) | (with_reducible refine Tr.exit ?_) | (with_reducible refine Tr.ret ?_) | (with_reducible refine Tr.then_exit ?_) | ((with_reducible refine Tr.in_exit ?_ ?_); (exact rfl)) | (refine Tr.cond_f rfl (by first | (with_reducible assumption) | (with_reducible rfl) | (with_reducible exact (not_not_intro rfl)) | omega) ?_))
    (refine Tr.done (by first | exact .inl rfl | exact .inr rfl) rfl (by repeat (first | exact RVs.nil | (apply RVs.cons; (exact RV.tmp rfl)))) (by first | exact Mem.le.refl _ | assumption) (by exact ⟨[], rfl⟩) ⟨rfl, ?_⟩)
    exact ⟨by show Value.int .i64 (m : Int) = _; rw [← h3]; rfl, rfl⟩
set_option maxHeartbeats 2000000 in
theorem length_fn (M : Mem) : ∀ (n at_ : Nat), at_ < n → n ≤ 1099511627776 → Fn0 Tryd.prog 39 [.int .i64 (at_ : Int), .int .i64 (n : Int)] M (fun r M' => r = .int .i64 (stepsF at_ n : Int) ∧ M = M') := by
  intro n
  induction n using Nat.strongRecOn with
  | _ n ih =>
  intro at_ h1 h2
  have hs0 := stepsF_le n at_
  by_cases hn : 2 ≤ n
  · have k1 := hlf_lt hn
    have k2 := hlf_pos n
    by_cases hl : at_ < hlf n
    · rw [stepsF_left hn hl] at hs0 ⊢
      refine Fn.intro Tryd.func39 rfl rfl Tryd.ntmps39 rfl fun E F => ?_
      repeat (first | ((with_reducible refine Tr.step rfl ?_); (first | ((with_reducible refine Knd.move ?_); (refine Exec.stab rfl (Stab.move rfl) rfl ?_)) | ((with_reducible refine Knd.assign ?_); (refine Exec.stab rfl (Stab.assign rfl) rfl ?_)) | ((with_reducible refine Knd.binOp ?_); ((refine Exec.stab rfl (Stab.int rfl rfl rfl) rfl ?_))))) | (with_reducible refine Tr.next ?_) | (with_reducible refine Tr.seq ?_) | (with_reducible refine Tr.region ?_) | (with_reducible refine Tr.nil ?_) | (with_reducible refine Tr.skip ?_) | (refine Tr.cond_f rfl (by first | (with_reducible assumption) | (with_reducible rfl) | (with_reducible exact (not_not_intro rfl)) | omega) ?_))
      ((refine Tr.step rfl ?_)); refine Exec.call0 rfl (rhalf_fn M n hn (by omega)) rfl ?_
      rintro _ _ _ ⟨rfl, rfl⟩
      repeat (first | ((with_reducible refine Tr.step rfl ?_); (first | ((with_reducible refine Knd.move ?_); (refine Exec.stab rfl (Stab.move rfl) rfl ?_)) | ((with_reducible refine Knd.assign ?_); (refine Exec.stab rfl (Stab.assign rfl) rfl ?_)) | ((with_reducible refine Knd.binOp ?_); ((refine Exec.stab rfl (Stab.int rfl rfl rfl) rfl ?_))))) | (with_reducible refine Tr.next ?_) | (with_reducible refine Tr.seq ?_) | (with_reducible refine Tr.region ?_) | (with_reducible refine Tr.nil ?_) | (refine Tr.cond_t rfl (by first | (with_reducible assumption) | (with_reducible rfl) | (with_reducible exact (not_not_intro rfl)) | omega) ?_))
      ((refine Tr.step rfl ?_)); refine Exec.call0 rfl (ih (hlf n) k1 at_ hl (by omega)) rfl ?_
      rintro _ _ _ ⟨rfl, rfl⟩
      repeat (first | ((with_reducible refine Tr.step rfl ?_); (first | ((with_reducible refine Knd.assign ?_); (refine Exec.stab rfl (Stab.assign rfl) rfl ?_)) | ((with_reducible refine Knd.binOp ?_); ((refine Exec.stab rfl (Stab.addi rfl rfl (by omega)) rfl ?_))))) | (with_reducible refine Tr.next ?_) | (with_reducible refine Tr.nil ?_) | (with_reducible refine Tr.ret ?_) | (with_reducible refine Tr.then_ret ?_))
      (refine Tr.done (by first | exact .inl rfl | exact .inr rfl) rfl (by repeat (first | exact RVs.nil | (apply RVs.cons; (exact RV.tmp rfl)))) (by first | exact Mem.le.refl _ | assumption) (by exact ⟨[], rfl⟩) ⟨rfl, ?_⟩)
      exact ⟨by show Value.int .i64 (1 + (stepsF at_ (hlf n) : Int)) = _; congr 1; omega, rfl⟩
    · rw [stepsF_right hn hl] at hs0 ⊢
      refine Fn.intro Tryd.func39 rfl rfl Tryd.ntmps39 rfl fun E F => ?_
      repeat (first | ((with_reducible refine Tr.step rfl ?_); (first | ((with_reducible refine Knd.move ?_); (refine Exec.stab rfl (Stab.move rfl) rfl ?_)) | ((with_reducible refine Knd.assign ?_); (refine Exec.stab rfl (Stab.assign rfl) rfl ?_)) | ((with_reducible refine Knd.binOp ?_); ((refine Exec.stab rfl (Stab.int rfl rfl rfl) rfl ?_))))) | (with_reducible refine Tr.next ?_) | (with_reducible refine Tr.seq ?_) | (with_reducible refine Tr.region ?_) | (with_reducible refine Tr.nil ?_) | (with_reducible refine Tr.skip ?_) | (refine Tr.cond_f rfl (by first | (with_reducible assumption) | (with_reducible rfl) | (with_reducible exact (not_not_intro rfl)) | omega) ?_))
      ((refine Tr.step rfl ?_)); refine Exec.call0 rfl (rhalf_fn M n hn (by omega)) rfl ?_
      rintro _ _ _ ⟨rfl, rfl⟩
      repeat (first | ((with_reducible refine Tr.step rfl ?_); (first | ((with_reducible refine Knd.move ?_); (refine Exec.stab rfl (Stab.move rfl) rfl ?_)) | ((with_reducible refine Knd.assign ?_); (refine Exec.stab rfl (Stab.assign rfl) rfl ?_)) | ((with_reducible refine Knd.binOp ?_); (first | (refine Exec.stab rfl (Stab.subi rfl rfl (by omega)) rfl ?_) | (refine Exec.stab rfl (Stab.int rfl rfl rfl) rfl ?_))))) | (with_reducible refine Tr.next ?_) | (with_reducible refine Tr.seq ?_) | (with_reducible refine Tr.region ?_) | (with_reducible refine Tr.nil ?_) | (with_reducible refine Tr.skip ?_) | (refine Tr.cond_f rfl (by first | (with_reducible assumption) | (with_reducible rfl) | (with_reducible exact (not_not_intro rfl)) | omega) ?_))
      rw [show (at_ : Int) - (hlf n : Int) = ((at_ - hlf n : Nat) : Int) by omega, show (n : Int) - (hlf n : Int) = ((n - hlf n : Nat) : Int) by omega]
      ((refine Tr.step rfl ?_)); refine Exec.call0 rfl (ih (n - hlf n) (by omega) (at_ - hlf n) (by omega) (by omega)) rfl ?_
      rintro _ _ _ ⟨rfl, rfl⟩
      repeat (first | ((with_reducible refine Tr.step rfl ?_); (first | ((with_reducible refine Knd.assign ?_); (refine Exec.stab rfl (Stab.assign rfl) rfl ?_)) | ((with_reducible refine Knd.binOp ?_); ((refine Exec.stab rfl (Stab.addi rfl rfl (by omega)) rfl ?_))))) | (with_reducible refine Tr.next ?_) | (with_reducible refine Tr.nil ?_) | (with_reducible refine Tr.ret ?_))
      (refine Tr.done (by first | exact .inl rfl | exact .inr rfl) rfl (by repeat (first | exact RVs.nil | (apply RVs.cons; (exact RV.tmp rfl)))) (by first | exact Mem.le.refl _ | assumption) (by exact ⟨[], rfl⟩) ⟨rfl, ?_⟩)
      exact ⟨by show Value.int .i64 (1 + (stepsF (at_ - hlf n) (n - hlf n) : Int)) = _; congr 1; omega, rfl⟩
  · rw [stepsF_one hn]
    have e : n = 1 := by omega
    refine Fn.intro Tryd.func39 rfl rfl Tryd.ntmps39 rfl fun E F => ?_
    repeat (first | ((with_reducible refine Tr.step rfl ?_); (first | ((with_reducible refine Knd.move ?_); (refine Exec.stab rfl (Stab.move rfl) rfl ?_)) | ((with_reducible refine Knd.assign ?_); (refine Exec.stab rfl (Stab.assign rfl) rfl ?_)) | ((with_reducible refine Knd.binOp ?_); ((refine Exec.stab rfl (Stab.int rfl rfl rfl) rfl ?_))))) | (with_reducible refine Tr.next ?_) | (with_reducible refine Tr.seq ?_) | (with_reducible refine Tr.region ?_) | (with_reducible refine Tr.nil ?_) | (with_reducible refine Tr.ret ?_) | (with_reducible refine Tr.then_ret ?_) | (refine Tr.cond_t rfl (by first | (with_reducible assumption) | (with_reducible rfl) | (with_reducible exact (not_not_intro rfl)) | omega) ?_))
    (refine Tr.done (by first | exact .inl rfl | exact .inr rfl) rfl (by repeat (first | exact RVs.nil | (apply RVs.cons; (exact RV.tmp rfl)))) (by first | exact Mem.le.refl _ | assumption) (by exact ⟨[], rfl⟩) ⟨rfl, ?_⟩)
    exact ⟨rfl, rfl⟩
set_option maxHeartbeats 1000000 in
theorem path_err (M : Mem) (A : Option Addr) (n c : Nat) (at_ : Int) (hn : n ≤ 9223372036854775807) (h : at_ < 0 ∨ (n : Int) ≤ at_) : Fn0 Tryd.prog 19 [.slice A n c, .int .i64 at_] M (fun r M' => r = .tuple #[.slice none 0 0, .int .i64 1] ∧ M = M') := by
  refine Fn.intro Tryd.func19 rfl rfl Tryd.ntmps19 rfl fun E F => ?_
  by_cases h0 : at_ < 0
  · repeat (first | ((with_reducible refine Tr.step rfl ?_); (first | ((with_reducible refine Knd.move ?_); (refine Exec.stab rfl (Stab.move rfl) rfl ?_)) | ((with_reducible refine Knd.assign ?_); (refine Exec.stab rfl (Stab.assign rfl) rfl ?_)) | ((with_reducible refine Knd.binOp ?_); ((refine Exec.stab rfl (Stab.int rfl rfl rfl) rfl ?_))) | ((with_reducible refine Knd.pick ?_); ((refine Exec.stab rfl (Stab.pick_td rfl (by first | (with_reducible assumption) | (with_reducible rfl) | (with_reducible exact (not_not_intro rfl)) | omega) rfl) rfl ?_))))) | (with_reducible refine Tr.next ?_) | (with_reducible refine Tr.seq ?_) | (with_reducible refine Tr.region ?_) | (with_reducible refine Tr.nil ?_) | (refine Tr.guard_n' rfl rfl rfl (by first | (with_reducible assumption) | (with_reducible rfl) | (with_reducible exact (not_not_intro rfl)) | omega) rfl rfl ?_) | (with_reducible refine Tr.ret ?_) | (with_reducible refine Tr.then_ret ?_) | (refine Tr.cond_bt rfl (by first | (with_reducible rfl) | (with_reducible assumption) | (with_reducible exact Bool.not_true) | (with_reducible exact Bool.not_false)) ?_))
    (refine Tr.done (by first | exact .inl rfl | exact .inr rfl) rfl (by repeat (first | exact RVs.nil | (apply RVs.cons; (exact RV.tmp rfl)))) (by first | exact Mem.le.refl _ | assumption) (by exact ⟨[], rfl⟩) ⟨rfl, ?_⟩)
    exact ⟨rfl, rfl⟩
  · have h1 : (n : Int) ≤ at_ := by omega
    repeat (first | ((with_reducible refine Tr.step rfl ?_); (first | ((with_reducible refine Knd.move ?_); (refine Exec.stab rfl (Stab.move rfl) rfl ?_)) | ((with_reducible refine Knd.assign ?_); (refine Exec.stab rfl (Stab.assign rfl) rfl ?_)) | ((with_reducible refine Knd.binOp ?_); ((refine Exec.stab rfl (Stab.int rfl rfl rfl) rfl ?_))) | ((with_reducible refine Knd.pick ?_); ((refine Exec.stab rfl (Stab.pick_fd rfl (by first | (with_reducible assumption) | (with_reducible rfl) | (with_reducible exact (not_not_intro rfl)) | omega) rfl) rfl ?_))))) | (with_reducible refine Tr.next ?_) | (with_reducible refine Tr.seq ?_) | (with_reducible refine Tr.region ?_) | (with_reducible refine Tr.nil ?_) | ((refine Tr.guard_y' rfl rfl rfl (by first | (with_reducible assumption) | (with_reducible rfl) | (with_reducible exact (not_not_intro rfl)) | omega) ?_); (first | ((with_reducible refine Knd.move ?_); (refine Exec.stab rfl (Stab.move rfl) rfl ?_)) | ((with_reducible refine Knd.len ?_); ((refine Exec.stab rfl (Stab.len rfl (tysOk.get rfl) rfl) rfl ?_))) | ((with_reducible refine Knd.binOp ?_); ((refine Exec.stab rfl (Stab.int rfl rfl rfl) rfl ?_))))) | (with_reducible refine Tr.ret ?_) | (with_reducible refine Tr.then_ret ?_) | (refine Tr.cond_t rfl (by first | (with_reducible assumption) | (with_reducible rfl) | (with_reducible exact (not_not_intro rfl)) | omega) ?_))
    (refine Tr.done (by first | exact .inl rfl | exact .inr rfl) rfl (by repeat (first | exact RVs.nil | (apply RVs.cons; (exact RV.tmp rfl)))) (by first | exact Mem.le.refl _ | assumption) (by exact ⟨[], rfl⟩) ⟨rfl, ?_⟩)
    exact ⟨rfl, rfl⟩
set_option maxHeartbeats 1000000 in
theorem rPath_err (M : Mem) (A : Option Addr) (n c : Nat) (at_ : Int) (hn : n ≤ 9223372036854775807) (h : at_ < 0 ∨ (n : Int) ≤ at_) : Fn0 Tryd.prog 20 [.slice A n c, .int .i64 at_] M (fun r M' => r = .tuple #[.slice none 0 0, .int .i64 1] ∧ M = M') := by
  refine Fn.intro Tryd.func20 rfl rfl Tryd.ntmps20 rfl fun E F => ?_
  by_cases h0 : at_ < 0
  · repeat (first | ((with_reducible refine Tr.step rfl ?_); (first | ((with_reducible refine Knd.move ?_); (refine Exec.stab rfl (Stab.move rfl) rfl ?_)) | ((with_reducible refine Knd.assign ?_); (refine Exec.stab rfl (Stab.assign rfl) rfl ?_)) | ((with_reducible refine Knd.binOp ?_); ((refine Exec.stab rfl (Stab.int rfl rfl rfl) rfl ?_))) | ((with_reducible refine Knd.pick ?_); ((refine Exec.stab rfl (Stab.pick_td rfl (by first | (with_reducible assumption) | (with_reducible rfl) | (with_reducible exact (not_not_intro rfl)) | omega) rfl) rfl ?_))))) | (with_reducible refine Tr.next ?_) | (with_reducible refine Tr.seq ?_) | (with_reducible refine Tr.region ?_) | (with_reducible refine Tr.nil ?_) | (refine Tr.guard_n' rfl rfl rfl (by first | (with_reducible assumption) | (with_reducible rfl) | (with_reducible exact (not_not_intro rfl)) | omega) rfl rfl ?_) | (with_reducible refine Tr.ret ?_) | (with_reducible refine Tr.then_ret ?_) | (refine Tr.cond_bt rfl (by first | (with_reducible rfl) | (with_reducible assumption) | (with_reducible exact Bool.not_true) | (with_reducible exact Bool.not_false)) ?_))
    (refine Tr.done (by first | exact .inl rfl | exact .inr rfl) rfl (by repeat (first | exact RVs.nil | (apply RVs.cons; (exact RV.tmp rfl)))) (by first | exact Mem.le.refl _ | assumption) (by exact ⟨[], rfl⟩) ⟨rfl, ?_⟩)
    exact ⟨rfl, rfl⟩
  · have h1 : (n : Int) ≤ at_ := by omega
    repeat (first | ((with_reducible refine Tr.step rfl ?_); (first | ((with_reducible refine Knd.move ?_); (refine Exec.stab rfl (Stab.move rfl) rfl ?_)) | ((with_reducible refine Knd.assign ?_); (refine Exec.stab rfl (Stab.assign rfl) rfl ?_)) | ((with_reducible refine Knd.binOp ?_); ((refine Exec.stab rfl (Stab.int rfl rfl rfl) rfl ?_))) | ((with_reducible refine Knd.pick ?_); ((refine Exec.stab rfl (Stab.pick_fd rfl (by first | (with_reducible assumption) | (with_reducible rfl) | (with_reducible exact (not_not_intro rfl)) | omega) rfl) rfl ?_))))) | (with_reducible refine Tr.next ?_) | (with_reducible refine Tr.seq ?_) | (with_reducible refine Tr.region ?_) | (with_reducible refine Tr.nil ?_) | ((refine Tr.guard_y' rfl rfl rfl (by first | (with_reducible assumption) | (with_reducible rfl) | (with_reducible exact (not_not_intro rfl)) | omega) ?_); (first | ((with_reducible refine Knd.move ?_); (refine Exec.stab rfl (Stab.move rfl) rfl ?_)) | ((with_reducible refine Knd.len ?_); ((refine Exec.stab rfl (Stab.len rfl (tysOk.get rfl) rfl) rfl ?_))) | ((with_reducible refine Knd.binOp ?_); ((refine Exec.stab rfl (Stab.int rfl rfl rfl) rfl ?_))))) | (with_reducible refine Tr.ret ?_) | (with_reducible refine Tr.then_ret ?_) | (refine Tr.cond_t rfl (by first | (with_reducible assumption) | (with_reducible rfl) | (with_reducible exact (not_not_intro rfl)) | omega) ?_))
    (refine Tr.done (by first | exact .inl rfl | exact .inr rfl) rfl (by repeat (first | exact RVs.nil | (apply RVs.cons; (exact RV.tmp rfl)))) (by first | exact Mem.le.refl _ | assumption) (by exact ⟨[], rfl⟩) ⟨rfl, ?_⟩)
    exact ⟨rfl, rfl⟩
set_option maxHeartbeats 1000000 in
theorem rPath_fn (l : List (List UInt8)) (at_ : Nat) (M : Mem) (A : Option Addr) (c : Nat) (hl : RDs M (.slice A l.length c) l) (hat : at_ < l.length) (hlen : l.length ≤ 1000) :
    Bf.Fn Tryd.prog 20 [.slice A l.length c, .int .i64 (at_ : Int)] M [] (fun r M' A' => ∃ B k, r = .tuple #[.slice B (pathF l at_).length k, .int .i64 0] ∧ k ≤ 9223372036854775807 ∧ A' = [ownS 26 32 B (pathF l at_).length k (byteV (pathF l at_).flatten)]) := by
  have f1 := rpath_fn l at_ M A c hl hat hlen
  generalize hP : pathF l at_ = P at f1 ⊢
  refine Fn.intro Tryd.func20 rfl rfl Tryd.ntmps20 rfl fun E F => ?_
  repeat (first | ((with_reducible refine Tr.step rfl ?_); (first | ((with_reducible refine Knd.move ?_); (refine Exec.stab rfl (Stab.move rfl) rfl ?_)) | ((with_reducible refine Knd.assign ?_); (refine Exec.stab rfl (Stab.assign rfl) rfl ?_)) | ((with_reducible refine Knd.binOp ?_); ((refine Exec.stab rfl (Stab.int rfl rfl rfl) rfl ?_))) | ((with_reducible refine Knd.pick ?_); ((refine Exec.stab rfl (Stab.pick_fd rfl (by first | (with_reducible assumption) | (with_reducible rfl) | (with_reducible exact (not_not_intro rfl)) | omega) rfl) rfl ?_))))) | (with_reducible refine Tr.next ?_) | (with_reducible refine Tr.seq ?_) | (with_reducible refine Tr.region ?_) | (with_reducible refine Tr.nil ?_) | ((refine Tr.guard_y' rfl rfl rfl (by first | (with_reducible assumption) | (with_reducible rfl) | (with_reducible exact (not_not_intro rfl)) | omega) ?_); (first | ((with_reducible refine Knd.move ?_); (refine Exec.stab rfl (Stab.move rfl) rfl ?_)) | ((with_reducible refine Knd.len ?_); ((refine Exec.stab rfl (Stab.len rfl (tysOk.get rfl) rfl) rfl ?_))) | ((with_reducible refine Knd.binOp ?_); ((refine Exec.stab rfl (Stab.int rfl rfl rfl) rfl ?_))))) | (with_reducible refine Tr.skip ?_) | (refine Tr.cond_f rfl (by first | (with_reducible assumption) | (with_reducible rfl) | (with_reducible exact (not_not_intro rfl)) | omega) ?_))
  ((refine Tr.step rfl ?_))
  refine Exec.call (A := []) rfl f1 (List.Perm.refl _) rfl ?_
  rintro _ M1 _ hm1 ⟨B1, k1, rfl, hk1, rfl⟩
  repeat (first | ((with_reducible refine Tr.step rfl ?_); (((with_reducible refine Knd.assign ?_); (refine Exec.stab rfl (Stab.assign rfl) rfl ?_)))) | (with_reducible refine Tr.next ?_) | (with_reducible refine Tr.nil ?_) | (with_reducible refine Tr.ret ?_))
  refine Tr.doneA (A' := [ownS 26 32 B1 P.length k1 (byteV P.flatten)]) (by first | exact .inl rfl | exact .inr rfl) rfl (by repeat (first | exact RVs.nil | (apply RVs.cons; (exact RV.tmp rfl)))) hm1 ⟨fun _ h => h, fun h => h⟩ ⟨B1, k1, rfl, hk1, rfl⟩
theorem RD.elems {p : List (List UInt8)} (M : Mem) (h : ∀ x ∈ p, x.length = 32) : Elems 32 RD M (byteV p.flatten) p := by
  induction p with
  | nil => exact Elems.nil
  | cons x p ih =>
    have := Elems.append (Elems.one (sz := 32) (R := RD) (M := M) (cs := byteV x) (x := x) (by simpa using h x (by simp)) ⟨rfl, h x (by simp)⟩) (ih (fun y hy => h y (by simp [hy])))
    rw [← byteV_append] at this
    simpa using this
theorem pathF_all : ∀ (n : Nat) (l : List (List UInt8)), l.length = n → ∀ at_, ∀ x ∈ pathF l at_, x.length = 32 := by
  intro n
  induction n using Nat.strongRecOn with
  | _ n ih =>
  rintro l rfl at_
  by_cases h : 2 ≤ l.length
  · have h1 := hlf_lt h
    have h2 := hlf_pos l.length
    by_cases hl : at_ < hlf l.length
    · rw [pathF_left h hl]
      intro x hx
      rcases List.mem_append.1 hx with hx | hx
      · exact ih _ h1 _ (by simp; omega) _ x hx
      · simp at hx; rw [hx]; exact treeF_length _
    · rw [pathF_right h hl]
      intro x hx
      rcases List.mem_append.1 hx with hx | hx
      · exact ih (l.length - hlf l.length) (by omega) _ (by simp) _ x hx
      · simp at hx; rw [hx]; exact treeF_length _
  · rw [pathF_one h]; simp
/-- a path that has become immutable -/
theorem RDs.ofOwn {M : Mem} {B : Option Addr} {k : Nat} {p : List (List UInt8)} (h : (ownS 26 32 B p.length k (byteV p.flatten)).ok M) (hk : k ≤ 9223372036854775807) (hp : ∀ x ∈ p, x.length = 32) : RDs M (.slice B p.length k) p := SlOf.ofOwn h rfl hk (RD.elems M hp)
set_option maxHeartbeats 2000000 in
theorem rSame_fn (M : Mem) (p : List (List UInt8)) (A B : Option Addr) (c k : Nat) (hp : RDs M (.slice A p.length c) p) (hq : RDs M (.slice B p.length k) p) : Fn0 Tryd.prog 21 [.slice A p.length c, .slice B p.length k] M (fun r M' => r = .bool true ∧ M = M') := by
  have hll := hp.len_le
  refine Fn.intro Tryd.func21 rfl rfl Tryd.ntmps21 rfl fun E F => ?_
  repeat (first | ((with_reducible refine Tr.step rfl ?_); (first | ((with_reducible refine Knd.move ?_); (refine Exec.stab rfl (Stab.move rfl) rfl ?_)) | ((with_reducible refine Knd.assign ?_); (refine Exec.stab rfl (Stab.assign rfl) rfl ?_)) | ((with_reducible refine Knd.len ?_); ((refine Exec.stab rfl (Stab.len rfl (tysOk.get rfl) rfl) rfl ?_))) | ((with_reducible refine Knd.binOp ?_); ((refine Exec.stab rfl (Stab.int rfl rfl rfl) rfl ?_))))) | (with_reducible refine Tr.next ?_) | (with_reducible refine Tr.seq ?_) | (with_reducible refine Tr.region ?_) | (with_reducible refine Tr.nil ?_) | (with_reducible refine Tr.skip ?_) | (with_reducible refine Tr.block ?_) | (refine Tr.cond_f rfl (by first | (with_reducible assumption) | (with_reducible rfl) | (with_reducible exact (not_not_intro rfl)) | omega) ?_))
  refine Tr.loop (α := Nat) (fun i => ⟨26, [(5, .int .i64 i), (4, .bool false), (0, .slice A p.length c), (1, .slice B p.length k)], [], M, [] ++ F⟩) (fun i => i ≤ p.length) (fun i => p.length - i) 0 (Nat.zero_le _) (holds_sub (by repeat (first | exact SubFr.nil | refine SubFr.cons rfl ?_)) (by repeat (first | exact DropL.refl | apply DropL.skip))) (fun i hi => ?_)
  by_cases hlt : i < p.length
  · obtain ⟨x, hx⟩ := get_of_lt hlt
    obtain ⟨hA, ch1, hat1, rfl, hxl⟩ := hp.elem hx
    obtain ⟨hB, ch2, hat2, rfl, -⟩ := hq.elem hx
    have hbl : (byteV x).length = 32 := by simpa using hxl
    have hne : decide (¬ x = x) = false := decide_eq_false (not_not_intro rfl)
    repeat (first | ((with_reducible refine Tr.step rfl ?_); (first | ((with_reducible refine Knd.move ?_); (refine Exec.stab rfl (Stab.move rfl) rfl ?_)) | ((with_reducible refine Knd.len ?_); ((refine Exec.stab rfl (Stab.len rfl (tysOk.get rfl) rfl) rfl ?_))) | ((with_reducible refine Knd.binOp ?_); ((refine Exec.stab rfl (Stab.int rfl rfl rfl) rfl ?_))))) | (with_reducible refine Tr.next ?_) | (with_reducible refine Tr.seq ?_) | (with_reducible refine Tr.region ?_) | (with_reducible refine Tr.nil ?_) | (with_reducible refine Tr.skip ?_) | (with_reducible refine Tr.block ?_) | (refine Tr.cond_t rfl (by first | (with_reducible assumption) | (with_reducible rfl) | (with_reducible exact (not_not_intro rfl)) | omega) ?_))
    (((apply Tr.draw); (kernel_rfl)); (refine TrA.take 0 (by kernel_rfl) rfl (by kernel_rfl) (by first | exact fun _ _ _ h => h | exact fun _ _ _ h => nomatch h.1) (by first | exact fun _ h => h | (intro r h; cases h; done) | exact (Sub.mem (by repeat (first | exact Sub.refl | apply Sub.cons)))) rfl (by first | exact Stab.move rfl) rfl rfl ?_); (refine TrA.take 1 (by kernel_rfl) rfl (by kernel_rfl) (by first | exact fun _ _ _ h => h | exact fun _ _ _ h => nomatch h.1) (by first | exact fun _ h => h | (intro r h; cases h; done) | exact (Sub.mem (by repeat (first | exact Sub.refl | apply Sub.cons)))) rfl (by first | exact Stab.move rfl) rfl rfl ?_); (refine TrA.take 4 (by kernel_rfl) rfl (by kernel_rfl) (by first | exact fun _ _ _ h => h | exact fun _ _ _ h => nomatch h.1) (by first | exact fun _ h => h | (intro r h; cases h; done) | exact (Sub.mem (by repeat (first | exact Sub.refl | apply Sub.cons)))) rfl (by first | exact Stab.move rfl) rfl rfl ?_); (refine TrA.take 5 (by kernel_rfl) rfl (by kernel_rfl) (by first | exact fun _ _ _ h => h | exact fun _ _ _ h => nomatch h.1) (by first | exact fun _ h => h | (intro r h; cases h; done) | exact (Sub.mem (by repeat (first | exact Sub.refl | apply Sub.cons)))) rfl (by first | exact Stab.move rfl) rfl rfl ?_); (refine TrA.take 2 (by kernel_rfl) rfl (by kernel_rfl) (by first | exact fun _ _ _ h => h | exact fun _ _ _ h => nomatch h.1) (by first | exact fun _ h => h | (intro r h; cases h; done) | exact (Sub.mem (by repeat (first | exact Sub.refl | apply Sub.cons)))) rfl (by exact Stab.indexAddr rfl rfl (tysOk.get rfl) rfl (tysOk.get rfl) rfl (by omega) (by omega) (by first | rfl | assumption)) rfl rfl ?_); (refine TrA.take 6 (by kernel_rfl) rfl (by kernel_rfl) (by first | exact fun _ _ _ h => h | exact fun _ _ _ h => nomatch h.1) (by first | exact fun _ h => h | (intro r h; cases h; done) | exact (Sub.mem (by repeat (first | exact Sub.refl | apply Sub.cons)))) rfl (by exact Stab.indexAddr rfl rfl (tysOk.get rfl) rfl (tysOk.get rfl) rfl (by omega) (by omega) (by first | rfl | assumption)) rfl rfl ?_); (refine TrA.take 3 (by kernel_rfl) rfl (by kernel_rfl) (by first | exact fun _ _ _ h => h | exact fun _ _ _ h => nomatch h.1) (by first | exact fun _ h => h | (intro r h; cases h; done) | exact (Sub.mem (by repeat (first | exact Sub.refl | apply Sub.cons)))) rfl (by exact Stab.loadMA rfl (tysOk.get rfl) rfl (by assumption) (by first | rfl | assumption)) rfl rfl ?_); (refine TrA.take 7 (by kernel_rfl) rfl (by kernel_rfl) (by first | exact fun _ _ _ h => h | exact fun _ _ _ h => nomatch h.1) (by first | exact fun _ h => h | (intro r h; cases h; done) | exact (Sub.mem (by repeat (first | exact Sub.refl | apply Sub.cons)))) rfl (by exact Stab.loadMA rfl (tysOk.get rfl) rfl (by assumption) (by first | rfl | assumption)) rfl rfl ?_); (refine TrA.take 8 (by kernel_rfl) rfl (by kernel_rfl) (by first | exact fun _ _ _ h => h | exact fun _ _ _ h => nomatch h.1) (by first | exact fun _ h => h | (intro r h; cases h; done) | exact (Sub.mem (by repeat (first | exact Sub.refl | apply Sub.cons)))) rfl (by exact Stab.arrne rfl rfl (tysOk.get rfl) rfl (tysOk.get rfl) rfl rfl (by kernel_rfl) (by assumption) (by assumption)) rfl rfl ?_); (refine TrA.done (by kernel_rfl) ?_))
    rw [hne]
    repeat (first | ((with_reducible refine Tr.step rfl ?_); (first | ((with_reducible refine Knd.move ?_); (refine Exec.stab rfl (Stab.move rfl) rfl ?_)) | ((with_reducible refine Knd.assign ?_); (refine Exec.stab rfl (Stab.assign rfl) rfl ?_)) | ((with_reducible refine Knd.binOp ?_); ((refine Exec.stab rfl (Stab.addi rfl rfl (by omega)) rfl ?_))))) | (with_reducible refine Tr.next ?_) | (with_reducible refine Tr.region ?_) | (with_reducible refine Tr.nil ?_) | (with_reducible refine Tr.skip ?_) | (with_reducible refine Tr.in_normal ?_) | (refine Tr.cond_bf rfl (by first | (with_reducible rfl) | (with_reducible assumption) | (with_reducible exact Bool.not_true) | (with_reducible exact Bool.not_false)) ?_))
    refine Tr.again (i + 1) (by omega) (by omega) (holds_sub (by repeat (first | exact SubFr.nil | refine SubFr.cons rfl ?_)) (by repeat (first | exact DropL.refl | apply DropL.skip)))
  · repeat (first | ((with_reducible refine Tr.step rfl ?_); (first | ((with_reducible refine Knd.move ?_); (refine Exec.stab rfl (Stab.move rfl) rfl ?_)) | ((with_reducible refine Knd.assign ?_); (refine Exec.stab rfl (Stab.assign rfl) rfl ?_)) | ((with_reducible refine Knd.len ?_); ((refine Exec.stab rfl (Stab.len rfl (tysOk.get rfl) rfl) rfl ?_))) | ((with_reducible refine Knd.binOp ?_); ((refine Exec.stab rfl (Stab.int rfl rfl rfl) rfl ?_))))) | (with_reducible refine Tr.next ?_) | (with_reducible refine Tr.seq ?_) | (with_reducible refine Tr.region ?_) | (with_reducible refine Tr.nil ?_) | (with_reducible refine Tr.exit ?_) | (with_reducible refine Tr.ret ?_) | (with_reducible refine Tr.then_exit ?_) | ((with_reducible refine Tr.in_exit ?_ ?_); (exact rfl)) | (refine Tr.cond_f rfl (by first | (with_reducible assumption) | (with_reducible rfl) | (with_reducible exact (not_not_intro rfl)) | omega) ?_))
    (refine Tr.done (by first | exact .inl rfl | exact .inr rfl) rfl (by repeat (first | exact RVs.nil | (apply RVs.cons; (exact RV.tmp rfl)))) (by first | exact Mem.le.refl _ | assumption) (by exact ⟨[], rfl⟩) ⟨rfl, ?_⟩)
    exact ⟨rfl, rfl⟩
end Go.Proofs.YtoaepelmhmddmaaDoor
