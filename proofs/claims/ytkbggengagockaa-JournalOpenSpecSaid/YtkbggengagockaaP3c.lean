/-
  Texts of the proof, one after the other.
  Conditions: none.
-/
import Derived.Test.YtkbggengagockaaBfStr
import Derived.Test.YtkbggengagockaaBfArr
import Derived.Test.YtkbggengagockaaBfPend
import Derived.Test.YtkbggengagockaaBfLend
import Derived.Test.YtkbggengagockaaBfRepB
import Derived.Test.YtkbggengagockaaBfSl
import Derived.Test.YtkbggengagockaaBfConvS
import Derived.Test.YtkbggengagockaaBfUnd
import Derived.Test.YtkbggengagockaaP3b
/-
  The journal: the specification's Check, Room, Append, and the comparison of records.
  Conditions: none.
-/
namespace Go.Proofs.Ytkbggengagockaa
open Go Bf
attribute [local irreducible] Tr Exec Stab HasTy Go.Addr.add IntKind.wrap
theorem zeros0_appJ (z l : List Value) : zerosL z 0 ++ l = l := rfl
set_option maxHeartbeats 1000000 in
theorem sectors_fn (M : Mem) (n : Nat) (hn : n ≤ 9223372036854775000) :
    Fn0 Try.prog 40 [.int .i64 (n : Int)] M (fun r M' => r = .int .i64 ((occ n : Nat) : Int) ∧ M = M') := by
  refine Fn.intro Try.func40 rfl rfl Try.ntmps40 rfl fun E F => ?_
  repeat (first | ((with_reducible refine Tr.step rfl ?_); (first | ((with_reducible refine Knd.move ?_); (refine Exec.stab rfl (Stab.move rfl) rfl ?_)) | ((with_reducible refine Knd.assign ?_); (refine Exec.stab rfl (Stab.assign rfl) rfl ?_)) | ((with_reducible refine Knd.max ?_); (refine Exec.stab rfl (Stab.max2 rfl rfl) rfl ?_)) | ((with_reducible refine Knd.binOp ?_); (first | (refine Exec.stab rfl (Stab.addi rfl rfl (by omega)) rfl ?_) | (refine Exec.stab rfl (Stab.subi rfl rfl (by omega)) rfl ?_) | (refine Exec.stab rfl (Stab.quoi rfl rfl (by omega) (by omega) (by omega)) rfl ?_))))) | (with_reducible refine Tr.next ?_) | (with_reducible refine Tr.seq ?_) | (with_reducible refine Tr.region ?_) | (with_reducible refine Tr.nil ?_) | (with_reducible refine Tr.ret ?_))
  (refine Tr.done (by first | exact .inl rfl | exact .inr rfl) rfl (by repeat (first | exact RVs.nil | (apply RVs.cons; (exact RV.tmp rfl)))) (by first | exact Mem.le.refl _ | assumption) (by exact ⟨[], rfl⟩) ⟨rfl, ?_⟩)
  refine ⟨?_, rfl⟩
  have e : max (1 : Int) (((n : Int) + 112 - 1) / 112) = ((occ n : Nat) : Int) := by unfold occ; omega
  exact congrArg (Value.int .i64) e
set_option maxHeartbeats 1000000 in
theorem used_fn (M : Mem) (A : Option Addr) (c : Nat) (l : List (List UInt8)) (h : SlOf 1 RSec M (.slice A l.length c) l) (hb : occs l ≤ 1000000000) :
    Fn0 Try.prog 41 [.slice A l.length c] M (fun r M' => r = .int .i64 ((occs l : Nat) : Int) ∧ M = M') := by
  have hl := h.len_le
  refine Fn.intro Try.func41 rfl rfl Try.ntmps41 rfl fun E F => ?_
  repeat (first | ((with_reducible refine Tr.step rfl ?_); (((with_reducible refine Knd.assign ?_); (refine Exec.stab rfl (Stab.assign rfl) rfl ?_)))) | (with_reducible refine Tr.next ?_) | (with_reducible refine Tr.seq ?_) | (with_reducible refine Tr.region ?_) | (with_reducible refine Tr.nil ?_) | (with_reducible refine Tr.block ?_))
  refine Tr.loop (α := Nat) (fun i => ⟨20, [(4, .int .i64 i), (3, .int .i64 ((occs (l.take i) : Nat) : Int)), (0, .slice A l.length c)], [], M, _⟩) (fun i => i ≤ l.length) (fun i => l.length - i) 0 (Nat.zero_le _) (holds_sub (by repeat (first | exact SubFr.nil | refine SubFr.cons rfl ?_)) (by repeat (first | exact DropL.refl | apply DropL.skip))) (fun i hi => ?_)
  by_cases hlt : i < l.length
  · obtain ⟨x, hx⟩ := get_of_lt hlt
    obtain ⟨hA, ch, hat, A1, k1, rfl, hxb⟩ := h.elem hx
    have hst := occs_take hx
    have hle := occs_le l (i + 1)
    have hx2 := occ_le x.length
    repeat (first | ((with_reducible refine Tr.step rfl ?_); (first | ((with_reducible refine Knd.move ?_); (refine Exec.stab rfl (Stab.move rfl) rfl ?_)) | ((with_reducible refine Knd.load ?_); ((refine Exec.stab rfl (Stab.loadM rfl (tysOk.get rfl) rfl (by assumption)) rfl ?_))) | ((with_reducible refine Knd.len ?_); ((refine Exec.stab rfl (Stab.len rfl (tysOk.get rfl) rfl) rfl ?_))) | ((with_reducible refine Knd.binOp ?_); ((refine Exec.stab rfl (Stab.int rfl rfl rfl) rfl ?_))) | ((with_reducible refine Knd.indexAddr ?_); ((refine Exec.stab rfl (Stab.indexAddr rfl rfl (tysOk.get rfl) rfl (tysOk.get rfl) rfl (by omega) (by omega) (by first | rfl | assumption)) rfl ?_))))) | (with_reducible refine Tr.next ?_) | (with_reducible refine Tr.seq ?_) | (with_reducible refine Tr.region ?_) | (with_reducible refine Tr.nil ?_) | (with_reducible refine Tr.skip ?_) | (with_reducible refine Tr.block ?_) | (refine Tr.cond_t rfl (by first | (with_reducible assumption) | (with_reducible rfl) | (with_reducible exact (not_not_intro rfl)) | omega) ?_))
    ((refine Tr.step rfl ?_)); refine Exec.call0 rfl (sectors_fn M x.length (by omega)) rfl ?_
    rintro _ _ _ ⟨rfl, rfl⟩
    repeat (first | ((with_reducible refine Tr.step rfl ?_); (first | ((with_reducible refine Knd.move ?_); (refine Exec.stab rfl (Stab.move rfl) rfl ?_)) | ((with_reducible refine Knd.assign ?_); (refine Exec.stab rfl (Stab.assign rfl) rfl ?_)) | ((with_reducible refine Knd.binOp ?_); ((refine Exec.stab rfl (Stab.addi rfl rfl (by omega)) rfl ?_))))) | (with_reducible refine Tr.next ?_) | (with_reducible refine Tr.region ?_) | (with_reducible refine Tr.nil ?_) | (with_reducible refine Tr.in_normal ?_))
    have e : ((occs (l.take i) : Nat) : Int) + ((occ x.length : Nat) : Int) = ((occs (l.take (i + 1)) : Nat) : Int) := by omega
    rw [e]
    refine Tr.again (i + 1) (by omega) (by omega) (holds_sub (by repeat (first | exact SubFr.nil | refine SubFr.cons rfl ?_)) (by repeat (first | exact DropL.refl | apply DropL.skip)))
  · have e : i = l.length := by omega
    subst e
    rw [List.take_length]
    repeat (first | ((with_reducible refine Tr.step rfl ?_); (first | ((with_reducible refine Knd.move ?_); (refine Exec.stab rfl (Stab.move rfl) rfl ?_)) | ((with_reducible refine Knd.assign ?_); (refine Exec.stab rfl (Stab.assign rfl) rfl ?_)) | ((with_reducible refine Knd.len ?_); ((refine Exec.stab rfl (Stab.len rfl (tysOk.get rfl) rfl) rfl ?_))) | ((with_reducible refine Knd.binOp ?_); ((refine Exec.stab rfl (Stab.int rfl rfl rfl) rfl ?_))))) | (with_reducible refine Tr.next ?_) | (with_reducible refine Tr.seq ?_) | (with_reducible refine Tr.region ?_) | (with_reducible refine Tr.nil ?_) | (with_reducible refine Tr.exit ?_) | (with_reducible refine Tr.ret ?_) | (with_reducible refine Tr.then_exit ?_) | ((with_reducible refine Tr.in_exit ?_ ?_); (exact rfl)) | (refine Tr.cond_f rfl (by first | (with_reducible assumption) | (with_reducible rfl) | (with_reducible exact (not_not_intro rfl)) | omega) ?_))
    (refine Tr.done (by first | exact .inl rfl | exact .inr rfl) rfl (by repeat (first | exact RVs.nil | (apply RVs.cons; (exact RV.tmp rfl)))) (by first | exact Mem.le.refl _ | assumption) (by exact ⟨[], rfl⟩) ⟨rfl, ?_⟩)
    exact ⟨rfl, rfl⟩
set_option maxHeartbeats 1000000 in
theorem sameR_fn (M : Mem) (A B : Option Addr) (c k : Nat) (l m : List (List UInt8)) (h1 : SlOf 1 RSec M (.slice A l.length c) l) (h2 : SlOf 1 RSec M (.slice B m.length k) m) :
    Fn0 Try.prog 24 [.slice A l.length c, .slice B m.length k] M (fun r M' => r = .bool (decide (l = m)) ∧ M = M') := by
  have l1 := h1.len_le
  have l2 := h2.len_le
  refine Fn.intro Try.func24 rfl rfl Try.ntmps24 rfl fun E F => ?_
  by_cases c1 : (l.length : Int) ≠ (m.length : Int)
  · repeat (first | ((with_reducible refine Tr.step rfl ?_); (first | ((with_reducible refine Knd.move ?_); (refine Exec.stab rfl (Stab.move rfl) rfl ?_)) | ((with_reducible refine Knd.assign ?_); (refine Exec.stab rfl (Stab.assign rfl) rfl ?_)) | ((with_reducible refine Knd.len ?_); ((refine Exec.stab rfl (Stab.len rfl (tysOk.get rfl) rfl) rfl ?_))) | ((with_reducible refine Knd.binOp ?_); ((refine Exec.stab rfl (Stab.int rfl rfl rfl) rfl ?_))))) | (with_reducible refine Tr.next ?_) | (with_reducible refine Tr.seq ?_) | (with_reducible refine Tr.region ?_) | (with_reducible refine Tr.nil ?_) | (with_reducible refine Tr.ret ?_) | (with_reducible refine Tr.then_ret ?_) | (refine Tr.cond_t rfl (by first | (with_reducible assumption) | (with_reducible rfl) | (with_reducible exact (not_not_intro rfl)) | omega) ?_))
    (refine Tr.done (by first | exact .inl rfl | exact .inr rfl) rfl (by repeat (first | exact RVs.nil | (apply RVs.cons; (exact RV.tmp rfl)))) (by first | exact Mem.le.refl _ | assumption) (by exact ⟨[], rfl⟩) ⟨rfl, ?_⟩)
    exact ⟨by rw [decide_eq_false (fun e => c1 (by rw [e]))]; rfl, rfl⟩
  repeat (first | ((with_reducible refine Tr.step rfl ?_); (first | ((with_reducible refine Knd.move ?_); (refine Exec.stab rfl (Stab.move rfl) rfl ?_)) | ((with_reducible refine Knd.assign ?_); (refine Exec.stab rfl (Stab.assign rfl) rfl ?_)) | ((with_reducible refine Knd.len ?_); ((refine Exec.stab rfl (Stab.len rfl (tysOk.get rfl) rfl) rfl ?_))) | ((with_reducible refine Knd.binOp ?_); ((refine Exec.stab rfl (Stab.int rfl rfl rfl) rfl ?_))))) | (with_reducible refine Tr.next ?_) | (with_reducible refine Tr.seq ?_) | (with_reducible refine Tr.region ?_) | (with_reducible refine Tr.nil ?_) | (with_reducible refine Tr.skip ?_) | (with_reducible refine Tr.block ?_) | (refine Tr.cond_f rfl (by first | (with_reducible assumption) | (with_reducible rfl) | (with_reducible exact (not_not_intro rfl)) | omega) ?_))
  refine Tr.loop (α := Nat) (fun i => ⟨28, [(5, .int .i64 i), (0, .slice A l.length c), (1, .slice B m.length k)], [], M, _⟩) (fun i => i ≤ l.length ∧ l.take i = m.take i) (fun i => l.length - i) 0 ⟨Nat.zero_le _, rfl⟩ (holds_sub (by repeat (first | exact SubFr.nil | refine SubFr.cons rfl ?_)) (by repeat (first | exact DropL.refl | apply DropL.skip))) (fun i hi => ?_)
  obtain ⟨hi, heq⟩ := hi
  by_cases hlt : i < l.length
  · obtain ⟨x, hx⟩ := get_of_lt hlt
    obtain ⟨y, hy⟩ := get_of_lt (show i < m.length by omega)
    obtain ⟨hA1, ch1, hat1, A1, k1, rfl, hb1⟩ := h1.elem hx
    obtain ⟨hA2, ch2, hat2, A2, k2, rfl, hb2⟩ := h2.elem hy
    repeat (first | ((with_reducible refine Tr.step rfl ?_); (first | ((with_reducible refine Knd.move ?_); (refine Exec.stab rfl (Stab.move rfl) rfl ?_)) | ((with_reducible refine Knd.len ?_); ((refine Exec.stab rfl (Stab.len rfl (tysOk.get rfl) rfl) rfl ?_))) | ((with_reducible refine Knd.binOp ?_); ((refine Exec.stab rfl (Stab.int rfl rfl rfl) rfl ?_))))) | (with_reducible refine Tr.next ?_) | (with_reducible refine Tr.seq ?_) | (with_reducible refine Tr.region ?_) | (with_reducible refine Tr.nil ?_) | (with_reducible refine Tr.skip ?_) | (with_reducible refine Tr.block ?_) | (refine Tr.cond_t rfl (by first | (with_reducible assumption) | (with_reducible rfl) | (with_reducible exact (not_not_intro rfl)) | omega) ?_))
    (((apply Tr.draw); (kernel_rfl)); (refine TrA.take 0 (by kernel_rfl) rfl (by kernel_rfl) (by first | exact fun _ _ _ h => h | exact fun _ _ _ h => nomatch h.1) (by exact fun _ h => h) rfl (by first | exact Stab.move rfl) rfl rfl ?_); (refine TrA.take 1 (by kernel_rfl) rfl (by kernel_rfl) (by first | exact fun _ _ _ h => h | exact fun _ _ _ h => nomatch h.1) (by exact fun _ h => h) rfl (by first | exact Stab.move rfl) rfl rfl ?_); (refine TrA.take 2 (by kernel_rfl) rfl (by kernel_rfl) (by first | exact fun _ _ _ h => h | exact fun _ _ _ h => nomatch h.1) (by exact fun _ h => h) rfl (by exact Stab.indexAddr rfl rfl (tysOk.get rfl) rfl (tysOk.get rfl) rfl (by omega) (by omega) (by first | rfl | assumption)) rfl rfl ?_); (refine TrA.take 3 (by kernel_rfl) rfl (by kernel_rfl) (by first | exact fun _ _ _ h => h | exact fun _ _ _ h => nomatch h.1) (by exact fun _ h => h) rfl (by exact Stab.loadM rfl (tysOk.get rfl) rfl (by assumption)) rfl rfl ?_); (refine TrA.take 4 (by kernel_rfl) rfl (by kernel_rfl) (by first | exact fun _ _ _ h => h | exact fun _ _ _ h => nomatch h.1) (by exact fun _ h => h) rfl (by exact Stab.bstrB rfl (tysOk.get rfl) (tysOk.get rfl) rfl rfl (tysOk.get rfl) rfl (by assumption)) rfl rfl ?_); (refine TrA.take 5 (by kernel_rfl) rfl (by kernel_rfl) (by first | exact fun _ _ _ h => h | exact fun _ _ _ h => nomatch h.1) (by exact fun _ h => h) rfl (by first | exact Stab.move rfl) rfl rfl ?_); (refine TrA.take 6 (by kernel_rfl) rfl (by kernel_rfl) (by first | exact fun _ _ _ h => h | exact fun _ _ _ h => nomatch h.1) (by exact fun _ h => h) rfl (by first | exact Stab.move rfl) rfl rfl ?_); (refine TrA.take 7 (by kernel_rfl) rfl (by kernel_rfl) (by first | exact fun _ _ _ h => h | exact fun _ _ _ h => nomatch h.1) (by exact fun _ h => h) rfl (by exact Stab.indexAddr rfl rfl (tysOk.get rfl) rfl (tysOk.get rfl) rfl (by omega) (by omega) (by first | rfl | assumption)) rfl rfl ?_); (refine TrA.take 8 (by kernel_rfl) rfl (by kernel_rfl) (by first | exact fun _ _ _ h => h | exact fun _ _ _ h => nomatch h.1) (by exact fun _ h => h) rfl (by exact Stab.loadM rfl (tysOk.get rfl) rfl (by assumption)) rfl rfl ?_); (refine TrA.take 9 (by kernel_rfl) rfl (by kernel_rfl) (by first | exact fun _ _ _ h => h | exact fun _ _ _ h => nomatch h.1) (by exact fun _ h => h) rfl (by exact Stab.bstrB rfl (tysOk.get rfl) (tysOk.get rfl) rfl rfl (tysOk.get rfl) rfl (by assumption)) rfl rfl ?_); (refine TrA.take 10 (by kernel_rfl) rfl (by kernel_rfl) (by first | exact fun _ _ _ h => h | exact fun _ _ _ h => nomatch h.1) (by exact fun _ h => h) rfl (by exact Stab.strne rfl rfl) rfl rfl ?_); (refine TrA.done (by kernel_rfl) ?_))
    by_cases e : x = y
    · have hst := take_stepJ hx hy heq e
      subst e
      repeat (first | ((with_reducible refine Tr.step rfl ?_); (first | ((with_reducible refine Knd.move ?_); (refine Exec.stab rfl (Stab.move rfl) rfl ?_)) | ((with_reducible refine Knd.assign ?_); (refine Exec.stab rfl (Stab.assign rfl) rfl ?_)) | ((with_reducible refine Knd.binOp ?_); ((refine Exec.stab rfl (Stab.addi rfl rfl (by omega)) rfl ?_))))) | (with_reducible refine Tr.next ?_) | (with_reducible refine Tr.region ?_) | (with_reducible refine Tr.nil ?_) | (with_reducible refine Tr.skip ?_) | (with_reducible refine Tr.in_normal ?_) | (refine Tr.cond_f rfl (by first | (with_reducible assumption) | (with_reducible rfl) | (with_reducible exact (not_not_intro rfl)) | omega) ?_))
      refine Tr.again (i + 1) ⟨by omega, hst⟩ (by omega) (holds_sub (by repeat (first | exact SubFr.nil | refine SubFr.cons rfl ?_)) (by repeat (first | exact DropL.refl | apply DropL.skip)))
    · have e' : (⟨x.toArray⟩ : ByteArray).data.toList ≠ (⟨y.toArray⟩ : ByteArray).data.toList := by simpa using e
      have hne : ¬ l = m := fun h => e (by subst h; rw [hx] at hy; exact Option.some.inj hy)
      repeat (first | ((with_reducible refine Tr.step rfl ?_); (((with_reducible refine Knd.assign ?_); (refine Exec.stab rfl (Stab.assign rfl) rfl ?_)))) | (with_reducible refine Tr.next ?_) | (with_reducible refine Tr.seq ?_) | (with_reducible refine Tr.region ?_) | (with_reducible refine Tr.nil ?_) | (with_reducible refine Tr.ret ?_) | (with_reducible refine Tr.then_ret ?_) | (with_reducible refine Tr.in_ret ?_) | (refine Tr.cond_t rfl (by first | (with_reducible assumption) | (with_reducible rfl) | (with_reducible exact (not_not_intro rfl)) | omega) ?_))
      (refine Tr.done (by first | exact .inl rfl | exact .inr rfl) rfl (by repeat (first | exact RVs.nil | (apply RVs.cons; (exact RV.tmp rfl)))) (by first | exact Mem.le.refl _ | assumption) (by exact ⟨[], rfl⟩) ⟨rfl, ?_⟩)
      exact ⟨by rw [decide_eq_false hne]; rfl, rfl⟩
  · have e : i = l.length := by omega
    have hyes : l = m := by
      rw [e, List.take_length] at heq
      rw [heq]
      exact List.take_of_length_le (by omega)
    repeat (first | ((with_reducible refine Tr.step rfl ?_); (first | ((with_reducible refine Knd.move ?_); (refine Exec.stab rfl (Stab.move rfl) rfl ?_)) | ((with_reducible refine Knd.assign ?_); (refine Exec.stab rfl (Stab.assign rfl) rfl ?_)) | ((with_reducible refine Knd.len ?_); ((refine Exec.stab rfl (Stab.len rfl (tysOk.get rfl) rfl) rfl ?_))) | ((with_reducible refine Knd.binOp ?_); ((refine Exec.stab rfl (Stab.int rfl rfl rfl) rfl ?_))))) | (with_reducible refine Tr.next ?_) | (with_reducible refine Tr.seq ?_) | (with_reducible refine Tr.region ?_) | (with_reducible refine Tr.nil ?_) | (with_reducible refine Tr.exit ?_) | (with_reducible refine Tr.ret ?_) | (with_reducible refine Tr.then_exit ?_) | ((with_reducible refine Tr.in_exit ?_ ?_); (exact rfl)) | (refine Tr.cond_f rfl (by first | (with_reducible assumption) | (with_reducible rfl) | (with_reducible exact (not_not_intro rfl)) | omega) ?_))
    (refine Tr.done (by first | exact .inl rfl | exact .inr rfl) rfl (by repeat (first | exact RVs.nil | (apply RVs.cons; (exact RV.tmp rfl)))) (by first | exact Mem.le.refl _ | assumption) (by exact ⟨[], rfl⟩) ⟨rfl, ?_⟩)
    exact ⟨by rw [decide_eq_true hyes]; rfl, rfl⟩
def sameJ (a b : Jr) : Prop := a.many = b.many ∧ a.syn = b.syn ∧ a.rcs = b.rcs
instance (a b : Jr) : Decidable (sameJ a b) := by unfold sameJ; infer_instance
set_option maxHeartbeats 1000000 in
theorem sameJ_y (M : Mem) (v w : Value) (a : Jr) (ha : RJr M v a) (hb : RJr M w a) :
    Fn0 Try.prog 14 [v, w] M (fun r M' => r = .bool true ∧ M = M') := by
  obtain ⟨A, c, rfl, h1⟩ := ha
  obtain ⟨B, k, rfl, h2⟩ := hb
  refine Fn.intro Try.func14 rfl rfl Try.ntmps14 rfl fun E F => ?_
  have hs := sameR_fn M A B c k a.rcs a.rcs h1 h2
  rw [decide_eq_true rfl] at hs
  have e1 : a.many = a.many := rfl
  have e2 : a.syn = a.syn := rfl
  repeat (first | ((with_reducible refine Tr.step rfl ?_); (first | ((with_reducible refine Knd.move ?_); (refine Exec.stab rfl (Stab.move rfl) rfl ?_)) | ((with_reducible refine Knd.assign ?_); (refine Exec.stab rfl (Stab.assign rfl) rfl ?_)) | ((with_reducible refine Knd.load ?_); ((refine Exec.stab rfl (Stab.load rfl (tysOk.get rfl) rfl (by repeat (first | exact Has.here | apply Has.there)) rfl) rfl ?_))) | ((with_reducible refine Knd.fieldAddr ?_); ((refine Exec.stab rfl (Stab.fieldZ rfl (tysOk.get rfl) rfl rfl (tysOk.get rfl) rfl) rfl ?_))) | ((with_reducible refine Knd.binOp ?_); ((refine Exec.stab rfl (Stab.int rfl rfl rfl) rfl ?_))) | ((with_reducible refine Knd.pick ?_); ((refine Exec.stab rfl (Stab.pick_td rfl (by first | (with_reducible assumption) | (with_reducible rfl) | (with_reducible exact (not_not_intro rfl)) | omega) rfl) rfl ?_))) | ((with_reducible refine Knd.box ?_); (first | (refine Exec.box rfl rfl (fun b => ?_)) | (refine Exec.box1 rfl (by first | rfl | assumption) rfl (fun b => ?_)))))) | (with_reducible refine Tr.next ?_) | (with_reducible refine Tr.seq ?_) | (with_reducible refine Tr.region ?_) | (with_reducible refine Tr.nil ?_) | ((refine Tr.guard_y rfl rfl rfl (by first | (with_reducible assumption) | (with_reducible rfl) | (with_reducible exact (not_not_intro rfl)) | omega) ?_); (first | ((with_reducible refine Knd.load ?_); ((refine Exec.stab rfl (Stab.load rfl (tysOk.get rfl) rfl (by repeat (first | exact Has.here | apply Has.there)) rfl) rfl ?_))) | ((with_reducible refine Knd.fieldAddr ?_); ((refine Exec.stab rfl (Stab.fieldZ rfl (tysOk.get rfl) rfl rfl (tysOk.get rfl) rfl) rfl ?_))) | ((with_reducible refine Knd.binOp ?_); ((refine Exec.stab rfl (Stab.int rfl rfl rfl) rfl ?_))))))
  ((refine Tr.guard_y rfl rfl rfl (by first | (with_reducible assumption) | (with_reducible rfl) | (with_reducible exact (not_not_intro rfl)) | omega) ?_)); refine Exec.call0 rfl (hs) rfl ?_
  rintro _ _ _ ⟨rfl, rfl⟩
  repeat (first | ((with_reducible refine Tr.step rfl ?_); (first | ((with_reducible refine Knd.assign ?_); (refine Exec.stab rfl (Stab.assign rfl) rfl ?_)) | ((with_reducible refine Knd.pick ?_); ((refine Exec.stab rfl (Stab.pick_td rfl (by first | (with_reducible assumption) | (with_reducible rfl) | (with_reducible exact (not_not_intro rfl)) | omega) rfl) rfl ?_))))) | (with_reducible refine Tr.next ?_) | (with_reducible refine Tr.nil ?_) | (with_reducible refine Tr.ret ?_))
  (refine Tr.done (by first | exact .inl rfl | exact .inr rfl) rfl (by repeat (first | exact RVs.nil | (apply RVs.cons; (exact RV.tmp rfl)))) (by first | exact Mem.le.refl _ | assumption) (by exact ⟨[_, _], rfl⟩) ⟨rfl, ?_⟩)
  exact ⟨rfl, rfl⟩
end Go.Proofs.Ytkbggengagockaa
/-
  The journal: the specification's reading of a record, and of all.
  Conditions: none.
-/
namespace Go.Proofs.Ytkbggengagockaa
open Go Bf
attribute [local irreducible] Tr Exec Stab HasTy Go.Addr.add IntKind.wrap
def gen0 : List (List UInt8) → Nat
  | [] => 0
  | s :: _ => gen s
def recR (l : List (List UInt8)) (at_ : Nat) : Option (List UInt8 × Nat) := readR (gen0 (l.drop at_)) (l.drop at_) at_ true
/-- what the specification's record returns -/
def RecRes (l : List (List UInt8)) (at_ : Nat) (r : Value) (M : Mem) : Prop :=
  (recR l at_ = none ∧ r = .tuple #[.slice none 0 0, .int .i64 0]) ∨ ∃ b k R rc, recR l at_ = some (b, k) ∧ r = .tuple #[.slice R b.length rc, .int .i64 ((k - at_ : Nat) : Int)] ∧ BSl M (.slice R b.length rc) b

set_option maxHeartbeats 8000000 in
theorem record_fn (M : Mem) (A : Option Addr) (c : Nat) (l : List (List UInt8)) (at_ : Nat) (h : SlOf 1 RSec M (.slice A l.length c) l) (h128 : ∀ s ∈ l, s.length = 128) (hlen : l.length ≤ 4096) (hat : at_ ≤ l.length) :
    Fn0 Try.prog 59 [.slice A l.length c, .int .i64 (at_ : Int)] M (fun r M' => RecRes l at_ r M') := by
  have hl := h.len_le
  refine Fn.intro Try.func59 rfl rfl Try.ntmps59 rfl fun E F => ?_
  repeat (first | ((with_reducible refine Tr.step rfl ?_); (first | ((with_reducible refine Knd.assign ?_); (refine Exec.stab rfl (Stab.assign rfl) rfl ?_)) | ((with_reducible refine Knd.buildSlice ?_); ((refine Exec.buildSlice (tysOk.get rfl) rfl (tysOk.get rfl) rfl rfl rfl rfl rfl (by repeat (exact BuildP.nil)) rfl (fun b => ?_)))))) | (with_reducible refine Tr.next ?_) | (with_reducible refine Tr.seq ?_) | (with_reducible refine Tr.region ?_) | (with_reducible refine Tr.nil ?_) | (with_reducible refine Tr.block ?_))
  refine Tr.box_own (e := 5) 1 0 (by repeat (first | exact Upd.here | apply Upd.there)) rfl (by intro u hu; cases hu) (by simp [maxLen]) ?_
  have hrr : recR l at_ = readR (gen0 (l.drop at_)) (l.drop at_) at_ true := rfl
  have hg0 : ∀ s, l[at_]? = some s → gen0 (l.drop at_) = gen s := fun s hs => by rw [drop_cons hs]; rfl
  generalize gen0 (l.drop at_) = g at hrr hg0
  generalize b = bb
  refine Tr.loop (α := Nat × List UInt8 × Option Addr × Nat) (fun y => ⟨72, [(7, .int .i64 y.1), (6, .slice y.2.2.1 y.2.1.length y.2.2.2), (0, .slice A l.length c), (1, .int .i64 (at_ : Int))], [], M, ownS 5 1 y.2.2.1 y.2.1.length y.2.2.2 (byteV y.2.1) :: ([] ++ F)⟩)
    (fun y => at_ + y.1 ≤ l.length ∧ y.2.1.length ≤ 112 * y.1 ∧ recR l at_ = (readR g (l.drop (at_ + y.1)) (at_ + y.1) (decide (y.1 = 0))).map (fun p => (y.2.1 ++ p.1, p.2)) ∧ y.2.2.2 ≤ 9223372036854775807) (fun y => l.length - y.1) (0, [], some ⟨bb, 0, none⟩, 0) ⟨by simpa using hat, by simp, by simp only [decide_true, Nat.add_zero, hrr, List.nil_append]; cases readR g (l.drop at_) at_ true <;> rfl, by simp⟩ (holds_sub (by repeat (first | exact SubFr.nil | refine SubFr.cons rfl ?_)) (by repeat (first | exact DropL.refl | apply DropL.skip))) (fun y hy => ?_)
  obtain ⟨n, bs, R, rc⟩ := y
  obtain ⟨j1, j2, jr, j4⟩ := hy
  simp only at j1 j2 jr j4
  dsimp only
  by_cases hlt : at_ + n < l.length
  rotate_left
  · have hnone : recR l at_ = none := by
      have e : at_ + n = l.length := by omega
      rw [jr, e, List.drop_length]
      rfl
    repeat (first | ((with_reducible refine Tr.step rfl ?_); (first | ((with_reducible refine Knd.move ?_); (refine Exec.stab rfl (Stab.move rfl) rfl ?_)) | ((with_reducible refine Knd.assign ?_); (refine Exec.stab rfl (Stab.assign rfl) rfl ?_)) | ((with_reducible refine Knd.len ?_); ((refine Exec.stab rfl (Stab.len rfl (tysOk.get rfl) rfl) rfl ?_))) | ((with_reducible refine Knd.binOp ?_); (first | (refine Exec.stab rfl (Stab.addi rfl rfl (by omega)) rfl ?_) | (refine Exec.stab rfl (Stab.int rfl rfl rfl) rfl ?_))))) | (with_reducible refine Tr.next ?_) | (with_reducible refine Tr.seq ?_) | (with_reducible refine Tr.region ?_) | (with_reducible refine Tr.nil ?_) | (with_reducible refine Tr.exit ?_) | (with_reducible refine Tr.ret ?_) | (with_reducible refine Tr.then_exit ?_) | ((with_reducible refine Tr.in_exit ?_ ?_); (exact rfl)) | (refine Tr.cond_f rfl (by first | (with_reducible assumption) | (with_reducible rfl) | (with_reducible exact (not_not_intro rfl)) | omega) ?_))
    (refine Tr.done (by first | exact .inl rfl | exact .inr rfl) rfl (by repeat (first | exact RVs.nil | (apply RVs.cons; (exact RV.tmp rfl)))) (by first | exact Mem.le.refl _ | assumption) (by exact ⟨[_], rfl⟩) ⟨rfl, ?_⟩)
    exact .inl ⟨hnone, rfl⟩
  obtain ⟨s2, hs2⟩ := get_of_lt hlt
  obtain ⟨s1, hs1⟩ := get_of_lt (show at_ < l.length by omega)
  have hsl2 : s2.length = 128 := h128 s2 (List.mem_of_getElem? hs2)
  have hsl1 : s1.length = 128 := h128 s1 (List.mem_of_getElem? hs1)
  obtain ⟨hAA, ch2, hat2, A3, k3, rfl, hb3⟩ := h.elem hs2
  obtain ⟨-, ch1, hat1, A4, k4, rfl, hb4⟩ := h.elem hs1
  rw [hsl2] at hat2 hb3
  rw [hsl1] at hat1 hb4
  rw [drop_cons hs2, readR] at jr
  have hgs := hg0 s1 hs1
  have hc3 := hb3.cap
  have hc4 := hb4.cap
  obtain ⟨xf, hf⟩ := get_of_lt (show 10 < s2.length by omega)
  obtain ⟨xm, hm⟩ := get_of_lt (show 11 < s2.length by omega)
  obtain ⟨hA3, atf⟩ := hb3.byte hf
  obtain ⟨-, atm⟩ := hb3.byte hm
  have eK : kind s2 = xf := getD_of hf
  have eM : many s2 = xm.toNat := by rw [many, getD_of hm]
  have lf := xf.toNat_lt
  have lm := xm.toNat_lt
  have ecast : (at_ : Int) + (n : Int) = ((at_ + n : Nat) : Int) := by omega
  have q0 : BSl M (.slice A3 4 k3) (s2.take 4) := hb3.pre (by omega) (by omega) (by omega)
  have q1 : BSl M (.slice A4 4 k4) (s1.take 4) := hb4.pre (by omega) (by omega) (by omega)
  have n0 := rnumber_fn M _ _ _ _ q0 (by rw [List.length_take]; omega)
  have n1 := rnumber_fn M _ _ _ _ q1 (by rw [List.length_take]; omega)
  rw [show be (s2.take 4) = gen s2 from rfl] at n0
  rw [show be (s1.take 4) = gen s1 from rfl] at n1
  have hgood := rgood_fn M A3 k3 s2 (at_ + n) hb3 (by omega)
  have hbg : begs s2 = decide ((xf.toNat : Int) % 2 = 1) := by
    unfold begs
    rw [eK]
    apply decide_eq_decide.2
    omega
  have hn0 : decide ((n : Int) = 0) = decide (n = 0) := decide_eq_decide.2 (by omega)
  repeat (first | ((with_reducible refine Tr.step rfl ?_); (first | ((with_reducible refine Knd.move ?_); (refine Exec.stab rfl (Stab.move rfl) rfl ?_)) | ((with_reducible refine Knd.assign ?_); (refine Exec.stab rfl (Stab.assign rfl) rfl ?_)) | ((with_reducible refine Knd.load ?_); ((refine Exec.stab rfl (Stab.loadM rfl (tysOk.get rfl) rfl (by assumption)) rfl ?_))) | ((with_reducible refine Knd.len ?_); ((refine Exec.stab rfl (Stab.len rfl (tysOk.get rfl) rfl) rfl ?_))) | ((with_reducible refine Knd.binOp ?_); (first | (refine Exec.stab rfl (Stab.addi rfl rfl (by omega)) rfl ?_) | (refine Exec.stab rfl (Stab.int rfl rfl rfl) rfl ?_))) | ((with_reducible refine Knd.indexAddr ?_); ((refine Exec.stab rfl (Stab.indexAddr rfl rfl (tysOk.get rfl) rfl (tysOk.get rfl) rfl (by omega) (by omega) (by first | rfl | assumption)) rfl ?_))))) | (with_reducible refine Tr.next ?_) | (with_reducible refine Tr.seq ?_) | (with_reducible refine Tr.region ?_) | (with_reducible refine Tr.nil ?_) | (with_reducible refine Tr.skip ?_) | (with_reducible refine Tr.block ?_) | (refine Tr.cond_t rfl (by first | (with_reducible assumption) | (with_reducible rfl) | (with_reducible exact (not_not_intro rfl)) | omega) ?_))
  rw [ecast]
  refine Tr.cut (α := Bool) (fun y => ⟨72, [(55, .bool y), (8, .slice A3 128 k3), (7, .int .i64 n), (6, .slice R bs.length rc), (0, .slice A l.length c), (1, .int .i64 (at_ : Int))], [], M, ownS 5 1 R bs.length rc (byteV bs) :: ([] ++ F)⟩) (fun y => y = true ↔ ¬ (goodS s2 (at_ + n) ∧ gen s2 = g ∧ begs s2 = decide (n = 0))) ?_ (fun y hy => ?_)
  · (((apply Tr.draw); (kernel_rfl)); (refine TrA.take 0 (by kernel_rfl) rfl (by kernel_rfl) (by first | exact fun _ _ _ h => h | exact fun _ _ _ h => nomatch h.1) (by exact fun _ h => h) rfl (by first | exact Stab.move rfl) rfl rfl ?_); (refine TrA.take 1 (by kernel_rfl) rfl (by kernel_rfl) (by first | exact fun _ _ _ h => h | exact fun _ _ _ h => nomatch h.1) (by exact fun _ h => h) rfl (by first | exact Stab.move rfl) rfl rfl ?_); (refine TrA.take 2 (by kernel_rfl) rfl (by kernel_rfl) (by first | exact fun _ _ _ h => h | exact fun _ _ _ h => nomatch h.1) (by exact fun _ h => h) rfl (by first | exact Stab.move rfl) rfl rfl ?_); (refine TrA.take 3 (by kernel_rfl) rfl (by kernel_rfl) (by first | exact fun _ _ _ h => h | exact fun _ _ _ h => nomatch h.1) (by exact fun _ h => h) rfl (by exact Stab.addi rfl rfl (by omega)) rfl rfl ?_))
    rw [ecast]
    ((refine TrA.eff 4 rfl (by kernel_rfl) (by first | exact .inl rfl | exact .inr ⟨_, _, _, rfl, rfl, rfl⟩) ?_))
    refine Exec.call0 rfl hgood rfl ?_
    rintro _ _ _ ⟨rfl, rfl⟩
    refine ⟨Mem.le.refl _, (by exact fun _ h => h), ?_⟩
    by_cases hg : goodS s2 (at_ + n)
    rotate_left
    · rw [decide_eq_false hg]
      ((refine TrA.take 5 (by kernel_rfl) rfl (by kernel_rfl) (by first | exact fun _ _ _ h => h | exact fun _ _ _ h => nomatch h.1) (by exact fun _ h => h) rfl (by first | exact Stab.notw rfl | exact Stab.notd rfl | exact Stab.not rfl | exact Stab.neg rfl (by omega)) rfl rfl ?_); (refine TrA.take 6 (by kernel_rfl) rfl (by kernel_rfl) (by first | exact fun _ _ _ h => h | exact fun _ _ _ h => nomatch h.1) (by exact fun _ h => h) rfl (by first | exact Stab.move rfl) rfl rfl ?_); ((refine TrA.takeu 7 (by kernel_rfl) rfl (by kernel_rfl) (by first | exact fun _ _ _ h => h | exact fun _ _ _ h => nomatch h.1) (by exact fun _ h => h) rfl rfl rfl (by first | rfl | (simp; done) | (simp; omega)) rfl rfl ?_)); ((refine TrA.takeu 12 (by kernel_rfl) rfl (by kernel_rfl) (by first | exact fun _ _ _ h => h | exact fun _ _ _ h => nomatch h.1) (by exact fun _ h => h) rfl rfl rfl (by first | rfl | (simp; done) | (simp; omega)) rfl rfl ?_)); ((refine TrA.takeu 8 (by kernel_rfl) rfl (by kernel_rfl) (by first | exact fun _ _ _ h => h | exact fun _ _ _ h => nomatch h.1) (by exact fun _ h => h) rfl rfl rfl (by first | rfl | (simp; done) | (simp; omega)) rfl rfl ?_)); ((refine TrA.takeu 13 (by kernel_rfl) rfl (by kernel_rfl) (by first | exact fun _ _ _ h => h | exact fun _ _ _ h => nomatch h.1) (by exact fun _ h => h) rfl rfl rfl (by first | rfl | (simp; done) | (simp; omega)) rfl rfl ?_)); ((refine TrA.takeu 9 (by kernel_rfl) rfl (by kernel_rfl) (by first | exact fun _ _ _ h => h | exact fun _ _ _ h => nomatch h.1) (by exact fun _ h => h) rfl rfl rfl (by first | rfl | (simp; done) | (simp; omega)) rfl rfl ?_)); ((refine TrA.takeu 10 (by kernel_rfl) rfl (by kernel_rfl) (by first | exact fun _ _ _ h => h | exact fun _ _ _ h => nomatch h.1) (by exact fun _ h => h) rfl rfl rfl (by first | rfl | (simp; done) | (simp; omega)) rfl rfl ?_)); ((refine TrA.takeu 11 (by kernel_rfl) rfl (by kernel_rfl) (by first | exact fun _ _ _ h => h | exact fun _ _ _ h => nomatch h.1) (by exact fun _ h => h) rfl rfl rfl (by first | rfl | (simp; done) | (simp; omega)) rfl rfl ?_)); ((refine TrA.takeu 14 (by kernel_rfl) rfl (by kernel_rfl) (by first | exact fun _ _ _ h => h | exact fun _ _ _ h => nomatch h.1) (by exact fun _ h => h) rfl rfl rfl (by first | rfl | (simp; done) | (simp; omega)) rfl rfl ?_)); (refine TrA.take 15 (by kernel_rfl) rfl (by kernel_rfl) (by first | exact fun _ _ _ h => h | exact fun _ _ _ h => nomatch h.1) (by exact fun _ h => h) rfl (by exact Stab.pick_t rfl (by first | (with_reducible rfl) | (with_reducible assumption) | (with_reducible exact Bool.not_true) | (with_reducible exact Bool.not_false)) rfl) rfl rfl ?_); (refine TrA.take 16 (by kernel_rfl) rfl (by kernel_rfl) (by first | exact fun _ _ _ h => h | exact fun _ _ _ h => nomatch h.1) (by exact fun _ h => h) rfl (by first | exact Stab.move rfl) rfl rfl ?_); ((refine TrA.takeu 17 (by kernel_rfl) rfl (by kernel_rfl) (by first | exact fun _ _ _ h => h | exact fun _ _ _ h => nomatch h.1) (by exact fun _ h => h) rfl rfl rfl (by first | rfl | (simp; done) | (simp; omega)) rfl rfl ?_)); ((refine TrA.takeu 18 (by kernel_rfl) rfl (by kernel_rfl) (by first | exact fun _ _ _ h => h | exact fun _ _ _ h => nomatch h.1) (by exact fun _ h => h) rfl rfl rfl (by first | rfl | (simp; done) | (simp; omega)) rfl rfl ?_)); ((refine TrA.takeu 19 (by kernel_rfl) rfl (by kernel_rfl) (by first | exact fun _ _ _ h => h | exact fun _ _ _ h => nomatch h.1) (by exact fun _ h => h) rfl rfl rfl (by first | rfl | (simp; done) | (simp; omega)) rfl rfl ?_)); ((refine TrA.takew 20 (by kernel_rfl) rfl (by kernel_rfl) (by first | exact fun _ _ _ h => h | exact fun _ _ _ h => nomatch h.1) (by exact fun _ h => h) rfl rfl rfl rfl rfl ?_)); ((refine TrA.takew 23 (by kernel_rfl) rfl (by kernel_rfl) (by first | exact fun _ _ _ h => h | exact fun _ _ _ h => nomatch h.1) (by exact fun _ h => h) rfl rfl rfl rfl rfl ?_)); ((refine TrA.takew 24 (by kernel_rfl) rfl (by kernel_rfl) (by first | exact fun _ _ _ h => h | exact fun _ _ _ h => nomatch h.1) (by exact fun _ h => h) rfl rfl rfl rfl rfl ?_)); ((refine TrA.takew 21 (by kernel_rfl) rfl (by kernel_rfl) (by first | exact fun _ _ _ h => h | exact fun _ _ _ h => nomatch h.1) (by exact fun _ h => h) rfl rfl rfl rfl rfl ?_)); ((refine TrA.takew 25 (by kernel_rfl) rfl (by kernel_rfl) (by first | exact fun _ _ _ h => h | exact fun _ _ _ h => nomatch h.1) (by exact fun _ h => h) rfl rfl rfl rfl rfl ?_)); ((refine TrA.takew 26 (by kernel_rfl) rfl (by kernel_rfl) (by first | exact fun _ _ _ h => h | exact fun _ _ _ h => nomatch h.1) (by exact fun _ h => h) rfl rfl rfl rfl rfl ?_)); ((refine TrA.takew 27 (by kernel_rfl) rfl (by kernel_rfl) (by first | exact fun _ _ _ h => h | exact fun _ _ _ h => nomatch h.1) (by exact fun _ h => h) rfl rfl rfl rfl rfl ?_)); ((refine TrA.takew 22 (by kernel_rfl) rfl (by kernel_rfl) (by first | exact fun _ _ _ h => h | exact fun _ _ _ h => nomatch h.1) (by exact fun _ h => h) rfl rfl rfl rfl rfl ?_)); ((refine TrA.takew 28 (by kernel_rfl) rfl (by kernel_rfl) (by first | exact fun _ _ _ h => h | exact fun _ _ _ h => nomatch h.1) (by exact fun _ h => h) rfl rfl rfl rfl rfl ?_)); ((refine TrA.takew 29 (by kernel_rfl) rfl (by kernel_rfl) (by first | exact fun _ _ _ h => h | exact fun _ _ _ h => nomatch h.1) (by exact fun _ h => h) rfl rfl rfl rfl rfl ?_)); ((refine TrA.takeu 30 (by kernel_rfl) rfl (by kernel_rfl) (by first | exact fun _ _ _ h => h | exact fun _ _ _ h => nomatch h.1) (by exact fun _ h => h) rfl rfl rfl (by first | rfl | (simp; done) | (simp; omega)) rfl rfl ?_)); (refine TrA.take 31 (by kernel_rfl) rfl (by kernel_rfl) (by first | exact fun _ _ _ h => h | exact fun _ _ _ h => nomatch h.1) (by exact fun _ h => h) rfl (by exact Stab.pick_t rfl (by first | (with_reducible rfl) | (with_reducible assumption) | (with_reducible exact Bool.not_true) | (with_reducible exact Bool.not_false)) rfl) rfl rfl ?_); (refine TrA.done (by kernel_rfl) ?_))
      refine Tr.land true ⟨fun _ h => hg h.1, fun _ => rfl⟩ (holds_sub (by repeat (first | exact SubFr.nil | refine SubFr.cons rfl ?_)) (by repeat (first | exact DropL.refl | apply DropL.skip)))
    rw [decide_eq_true hg]
    ((refine TrA.take 5 (by kernel_rfl) rfl (by kernel_rfl) (by first | exact fun _ _ _ h => h | exact fun _ _ _ h => nomatch h.1) (by exact fun _ h => h) rfl (by first | exact Stab.notw rfl | exact Stab.notd rfl | exact Stab.not rfl | exact Stab.neg rfl (by omega)) rfl rfl ?_); (refine TrA.take 6 (by kernel_rfl) rfl (by kernel_rfl) (by first | exact fun _ _ _ h => h | exact fun _ _ _ h => nomatch h.1) (by exact fun _ h => h) rfl (by first | exact Stab.move rfl) rfl rfl ?_); ((refine TrA.takeg 7 (by kernel_rfl) rfl (by kernel_rfl) (by first | exact fun _ _ _ h => h | exact fun _ _ _ h => nomatch h.1) (by exact fun _ h => h) rfl rfl rfl (by first | (with_reducible rfl) | (with_reducible assumption) | (with_reducible exact Bool.not_true) | (with_reducible exact Bool.not_false)) (by first | exact Stab.move rfl) rfl rfl ?_)); ((refine TrA.takeg 12 (by kernel_rfl) rfl (by kernel_rfl) (by first | exact fun _ _ _ h => h | exact fun _ _ _ h => nomatch h.1) (by exact fun _ h => h) rfl rfl rfl (by first | (with_reducible rfl) | (with_reducible assumption) | (with_reducible exact Bool.not_true) | (with_reducible exact Bool.not_false)) (by first | exact Stab.move rfl) rfl rfl ?_)); ((refine TrA.takeg 8 (by kernel_rfl) rfl (by kernel_rfl) (by first | exact fun _ _ _ h => h | exact fun _ _ _ h => nomatch h.1) (by exact fun _ h => h) rfl rfl rfl (by first | (with_reducible rfl) | (with_reducible assumption) | (with_reducible exact Bool.not_true) | (with_reducible exact Bool.not_false)) (by exact Stab.indexAddr rfl rfl (tysOk.get rfl) rfl (tysOk.get rfl) rfl (by omega) (by omega) (by first | rfl | assumption)) rfl rfl ?_)); ((refine TrA.takeg 13 (by kernel_rfl) rfl (by kernel_rfl) (by first | exact fun _ _ _ h => h | exact fun _ _ _ h => nomatch h.1) (by exact fun _ h => h) rfl rfl rfl (by first | (with_reducible rfl) | (with_reducible assumption) | (with_reducible exact Bool.not_true) | (with_reducible exact Bool.not_false)) (by exact Stab.int rfl rfl rfl) rfl rfl ?_)); ((refine TrA.takeg 9 (by kernel_rfl) rfl (by kernel_rfl) (by first | exact fun _ _ _ h => h | exact fun _ _ _ h => nomatch h.1) (by exact fun _ h => h) rfl rfl rfl (by first | (with_reducible rfl) | (with_reducible assumption) | (with_reducible exact Bool.not_true) | (with_reducible exact Bool.not_false)) (by exact Stab.loadM rfl (tysOk.get rfl) rfl (by assumption)) rfl rfl ?_)); ((refine TrA.takeg 10 (by kernel_rfl) rfl (by kernel_rfl) (by first | exact fun _ _ _ h => h | exact fun _ _ _ h => nomatch h.1) (by exact fun _ h => h) rfl rfl rfl (by first | (with_reducible rfl) | (with_reducible assumption) | (with_reducible exact Bool.not_true) | (with_reducible exact Bool.not_false)) (by exact Stab.remp rfl rfl (by omega) (by omega)) rfl rfl ?_)); ((refine TrA.takeg 11 (by kernel_rfl) rfl (by kernel_rfl) (by first | exact fun _ _ _ h => h | exact fun _ _ _ h => nomatch h.1) (by exact fun _ h => h) rfl rfl rfl (by first | (with_reducible rfl) | (with_reducible assumption) | (with_reducible exact Bool.not_true) | (with_reducible exact Bool.not_false)) (by exact Stab.int rfl rfl rfl) rfl rfl ?_)); ((refine TrA.takeg 14 (by kernel_rfl) rfl (by kernel_rfl) (by first | exact fun _ _ _ h => h | exact fun _ _ _ h => nomatch h.1) (by exact fun _ h => h) rfl rfl rfl (by first | (with_reducible rfl) | (with_reducible assumption) | (with_reducible exact Bool.not_true) | (with_reducible exact Bool.not_false)) (by exact Stab.boolne rfl rfl (tysOk.get rfl) rfl) rfl rfl ?_)); (refine TrA.take 15 (by kernel_rfl) rfl (by kernel_rfl) (by first | exact fun _ _ _ h => h | exact fun _ _ _ h => nomatch h.1) (by exact fun _ h => h) rfl (by exact Stab.pick_f rfl (by first | (with_reducible rfl) | (with_reducible assumption) | (with_reducible exact Bool.not_true) | (with_reducible exact Bool.not_false)) rfl) rfl rfl ?_))
    by_cases hb : begs s2 = decide (n = 0)
    rotate_left
    · have hv : ¬ decide ((xf.toNat : Int) % 2 = 1) = decide ((n : Int) = 0) := by rw [← hbg, hn0]; exact hb
      rw [decide_eq_true hv]
      ((refine TrA.take 16 (by kernel_rfl) rfl (by kernel_rfl) (by first | exact fun _ _ _ h => h | exact fun _ _ _ h => nomatch h.1) (by exact fun _ h => h) rfl (by first | exact Stab.move rfl) rfl rfl ?_); ((refine TrA.takeu 17 (by kernel_rfl) rfl (by kernel_rfl) (by first | exact fun _ _ _ h => h | exact fun _ _ _ h => nomatch h.1) (by exact fun _ h => h) rfl rfl rfl (by first | rfl | (simp; done) | (simp; omega)) rfl rfl ?_)); ((refine TrA.takeu 18 (by kernel_rfl) rfl (by kernel_rfl) (by first | exact fun _ _ _ h => h | exact fun _ _ _ h => nomatch h.1) (by exact fun _ h => h) rfl rfl rfl (by first | rfl | (simp; done) | (simp; omega)) rfl rfl ?_)); ((refine TrA.takeu 19 (by kernel_rfl) rfl (by kernel_rfl) (by first | exact fun _ _ _ h => h | exact fun _ _ _ h => nomatch h.1) (by exact fun _ h => h) rfl rfl rfl (by first | rfl | (simp; done) | (simp; omega)) rfl rfl ?_)); ((refine TrA.takew 20 (by kernel_rfl) rfl (by kernel_rfl) (by first | exact fun _ _ _ h => h | exact fun _ _ _ h => nomatch h.1) (by exact fun _ h => h) rfl rfl rfl rfl rfl ?_)); ((refine TrA.takew 23 (by kernel_rfl) rfl (by kernel_rfl) (by first | exact fun _ _ _ h => h | exact fun _ _ _ h => nomatch h.1) (by exact fun _ h => h) rfl rfl rfl rfl rfl ?_)); ((refine TrA.takew 24 (by kernel_rfl) rfl (by kernel_rfl) (by first | exact fun _ _ _ h => h | exact fun _ _ _ h => nomatch h.1) (by exact fun _ h => h) rfl rfl rfl rfl rfl ?_)); ((refine TrA.takew 21 (by kernel_rfl) rfl (by kernel_rfl) (by first | exact fun _ _ _ h => h | exact fun _ _ _ h => nomatch h.1) (by exact fun _ h => h) rfl rfl rfl rfl rfl ?_)); ((refine TrA.takew 25 (by kernel_rfl) rfl (by kernel_rfl) (by first | exact fun _ _ _ h => h | exact fun _ _ _ h => nomatch h.1) (by exact fun _ h => h) rfl rfl rfl rfl rfl ?_)); ((refine TrA.takew 26 (by kernel_rfl) rfl (by kernel_rfl) (by first | exact fun _ _ _ h => h | exact fun _ _ _ h => nomatch h.1) (by exact fun _ h => h) rfl rfl rfl rfl rfl ?_)); ((refine TrA.takew 27 (by kernel_rfl) rfl (by kernel_rfl) (by first | exact fun _ _ _ h => h | exact fun _ _ _ h => nomatch h.1) (by exact fun _ h => h) rfl rfl rfl rfl rfl ?_)); ((refine TrA.takew 22 (by kernel_rfl) rfl (by kernel_rfl) (by first | exact fun _ _ _ h => h | exact fun _ _ _ h => nomatch h.1) (by exact fun _ h => h) rfl rfl rfl rfl rfl ?_)); ((refine TrA.takew 28 (by kernel_rfl) rfl (by kernel_rfl) (by first | exact fun _ _ _ h => h | exact fun _ _ _ h => nomatch h.1) (by exact fun _ h => h) rfl rfl rfl rfl rfl ?_)); ((refine TrA.takew 29 (by kernel_rfl) rfl (by kernel_rfl) (by first | exact fun _ _ _ h => h | exact fun _ _ _ h => nomatch h.1) (by exact fun _ h => h) rfl rfl rfl rfl rfl ?_)); ((refine TrA.takeu 30 (by kernel_rfl) rfl (by kernel_rfl) (by first | exact fun _ _ _ h => h | exact fun _ _ _ h => nomatch h.1) (by exact fun _ h => h) rfl rfl rfl (by first | rfl | (simp; done) | (simp; omega)) rfl rfl ?_)); (refine TrA.take 31 (by kernel_rfl) rfl (by kernel_rfl) (by first | exact fun _ _ _ h => h | exact fun _ _ _ h => nomatch h.1) (by exact fun _ h => h) rfl (by exact Stab.pick_t rfl (by first | (with_reducible rfl) | (with_reducible assumption) | (with_reducible exact Bool.not_true) | (with_reducible exact Bool.not_false)) rfl) rfl rfl ?_); (refine TrA.done (by kernel_rfl) ?_))
      refine Tr.land true ⟨fun _ h => hb h.2.2, fun _ => rfl⟩ (holds_sub (by repeat (first | exact SubFr.nil | refine SubFr.cons rfl ?_)) (by repeat (first | exact DropL.refl | apply DropL.skip)))
    have hv : ¬ ¬ decide ((xf.toNat : Int) % 2 = 1) = decide ((n : Int) = 0) := fun hh => hh (by rw [← hbg, hn0]; exact hb)
    rw [decide_eq_false hv]
    ((refine TrA.take 16 (by kernel_rfl) rfl (by kernel_rfl) (by first | exact fun _ _ _ h => h | exact fun _ _ _ h => nomatch h.1) (by exact fun _ h => h) rfl (by first | exact Stab.move rfl) rfl rfl ?_); ((refine TrA.takeg 17 (by kernel_rfl) rfl (by kernel_rfl) (by first | exact fun _ _ _ h => h | exact fun _ _ _ h => nomatch h.1) (by exact fun _ h => h) rfl rfl rfl (by first | (with_reducible rfl) | (with_reducible assumption) | (with_reducible exact Bool.not_true) | (with_reducible exact Bool.not_false)) (by first | exact Stab.move rfl) rfl rfl ?_)); ((refine TrA.takeg 18 (by kernel_rfl) rfl (by kernel_rfl) (by first | exact fun _ _ _ h => h | exact fun _ _ _ h => nomatch h.1) (by exact fun _ h => h) rfl rfl rfl (by first | (with_reducible rfl) | (with_reducible assumption) | (with_reducible exact Bool.not_true) | (with_reducible exact Bool.not_false)) (by exact Stab.int rfl rfl rfl) rfl rfl ?_)))
    by_cases hn : (0 : Int) < (n : Int)
    · rw [decide_eq_true hn]
      (((refine TrA.takeg 19 (by kernel_rfl) rfl (by kernel_rfl) (by first | exact fun _ _ _ h => h | exact fun _ _ _ h => nomatch h.1) (by exact fun _ h => h) rfl rfl rfl (by first | (with_reducible rfl) | (with_reducible assumption) | (with_reducible exact Bool.not_true) | (with_reducible exact Bool.not_false)) (by first | exact Stab.move rfl) rfl rfl ?_)); ((refine TrA.takeg 20 (by kernel_rfl) rfl (by kernel_rfl) (by first | exact fun _ _ _ h => h | exact fun _ _ _ h => nomatch h.1) (by exact fun _ h => h) rfl rfl rfl (by first | (with_reducible rfl) | (with_reducible assumption) | (with_reducible exact Bool.not_true) | (with_reducible exact Bool.not_false)) (by first | exact Stab.move rfl) rfl rfl ?_)); ((refine TrA.takeg 23 (by kernel_rfl) rfl (by kernel_rfl) (by first | exact fun _ _ _ h => h | exact fun _ _ _ h => nomatch h.1) (by exact fun _ h => h) rfl rfl rfl (by first | (with_reducible rfl) | (with_reducible assumption) | (with_reducible exact Bool.not_true) | (with_reducible exact Bool.not_false)) (by first | exact Stab.move rfl) rfl rfl ?_)); ((refine TrA.takeg 24 (by kernel_rfl) rfl (by kernel_rfl) (by first | exact fun _ _ _ h => h | exact fun _ _ _ h => nomatch h.1) (by exact fun _ h => h) rfl rfl rfl (by first | (with_reducible rfl) | (with_reducible assumption) | (with_reducible exact Bool.not_true) | (with_reducible exact Bool.not_false)) (by first | exact Stab.move rfl) rfl rfl ?_)); ((refine TrA.takeg 21 (by kernel_rfl) rfl (by kernel_rfl) (by first | exact fun _ _ _ h => h | exact fun _ _ _ h => nomatch h.1) (by exact fun _ h => h) rfl rfl rfl (by first | (with_reducible rfl) | (with_reducible assumption) | (with_reducible exact Bool.not_true) | (with_reducible exact Bool.not_false)) (by exact Stab.slice_h rfl rfl (tysOk.get rfl) rfl (tysOk.get rfl) (by omega) (by omega)) rfl rfl ?_)); ((refine TrA.takeg 25 (by kernel_rfl) rfl (by kernel_rfl) (by first | exact fun _ _ _ h => h | exact fun _ _ _ h => nomatch h.1) (by exact fun _ h => h) rfl rfl rfl (by first | (with_reducible rfl) | (with_reducible assumption) | (with_reducible exact Bool.not_true) | (with_reducible exact Bool.not_false)) (by exact Stab.indexAddr rfl rfl (tysOk.get rfl) rfl (tysOk.get rfl) rfl (by omega) (by omega) (by first | rfl | assumption)) rfl rfl ?_)); ((refine TrA.takeg 26 (by kernel_rfl) rfl (by kernel_rfl) (by first | exact fun _ _ _ h => h | exact fun _ _ _ h => nomatch h.1) (by exact fun _ h => h) rfl rfl rfl (by first | (with_reducible rfl) | (with_reducible assumption) | (with_reducible exact Bool.not_true) | (with_reducible exact Bool.not_false)) (by exact Stab.loadM rfl (tysOk.get rfl) rfl (by assumption)) rfl rfl ?_)); ((refine TrA.takeg 27 (by kernel_rfl) rfl (by kernel_rfl) (by first | exact fun _ _ _ h => h | exact fun _ _ _ h => nomatch h.1) (by exact fun _ h => h) rfl rfl rfl (by first | (with_reducible rfl) | (with_reducible assumption) | (with_reducible exact Bool.not_true) | (with_reducible exact Bool.not_false)) (by exact Stab.slice_h rfl rfl (tysOk.get rfl) rfl (tysOk.get rfl) (by omega) (by omega)) rfl rfl ?_)); (refine TrA.eff 22 rfl (by kernel_rfl) (by first | exact .inl rfl | exact .inr ⟨_, _, _, rfl, rfl, rfl⟩) ?_))
      refine Exec.call0 rfl n0 rfl ?_
      rintro _ _ _ ⟨rfl, rfl⟩
      refine ⟨Mem.le.refl _, (by exact fun _ h => h), ?_⟩
      ((refine TrA.eff 28 rfl (by kernel_rfl) (by first | exact .inl rfl | exact .inr ⟨_, _, _, rfl, rfl, rfl⟩) ?_))
      refine Exec.call0 rfl n1 rfl ?_
      rintro _ _ _ ⟨rfl, rfl⟩
      refine ⟨Mem.le.refl _, (by exact fun _ h => h), ?_⟩
      (((refine TrA.takeg 29 (by kernel_rfl) rfl (by kernel_rfl) (by first | exact fun _ _ _ h => h | exact fun _ _ _ h => nomatch h.1) (by exact fun _ h => h) rfl rfl rfl (by first | (with_reducible rfl) | (with_reducible assumption) | (with_reducible exact Bool.not_true) | (with_reducible exact Bool.not_false)) (by exact Stab.int rfl rfl rfl) rfl rfl ?_)); ((refine TrA.takeg 30 (by kernel_rfl) rfl (by kernel_rfl) (by first | exact fun _ _ _ h => h | exact fun _ _ _ h => nomatch h.1) (by exact fun _ h => h) rfl rfl rfl (by first | (with_reducible rfl) | (with_reducible assumption) | (with_reducible exact Bool.not_true) | (with_reducible exact Bool.not_false)) (by exact Stab.pick_t rfl (by first | (with_reducible rfl) | (with_reducible assumption) | (with_reducible exact Bool.not_true) | (with_reducible exact Bool.not_false)) rfl) rfl rfl ?_)); (refine TrA.take 31 (by kernel_rfl) rfl (by kernel_rfl) (by first | exact fun _ _ _ h => h | exact fun _ _ _ h => nomatch h.1) (by exact fun _ h => h) rfl (by exact Stab.pick_f rfl (by first | (with_reducible rfl) | (with_reducible assumption) | (with_reducible exact Bool.not_true) | (with_reducible exact Bool.not_false)) rfl) rfl rfl ?_); (refine TrA.done (by kernel_rfl) ?_))
      by_cases hgg : ((gen s2 : Nat) : Int) ≠ ((gen s1 : Nat) : Int)
      · rw [decide_eq_true hgg]
        refine Tr.land true ⟨fun _ h => hgg (by rw [h.2.1, hgs]), fun _ => rfl⟩ (holds_sub (by repeat (first | exact SubFr.nil | refine SubFr.cons rfl ?_)) (by repeat (first | exact DropL.refl | apply DropL.skip)))
      · rw [decide_eq_false hgg]
        refine Tr.land false ⟨fun e => (by cases e), fun h => absurd ⟨hg, by omega, hb⟩ h⟩ (holds_sub (by repeat (first | exact SubFr.nil | refine SubFr.cons rfl ?_)) (by repeat (first | exact DropL.refl | apply DropL.skip)))
    · rw [decide_eq_false hn]
      (((refine TrA.takeg 19 (by kernel_rfl) rfl (by kernel_rfl) (by first | exact fun _ _ _ h => h | exact fun _ _ _ h => nomatch h.1) (by exact fun _ h => h) rfl rfl rfl (by first | (with_reducible rfl) | (with_reducible assumption) | (with_reducible exact Bool.not_true) | (with_reducible exact Bool.not_false)) (by first | exact Stab.move rfl) rfl rfl ?_)); ((refine TrA.takeu 20 (by kernel_rfl) rfl (by kernel_rfl) (by first | exact fun _ _ _ h => h | exact fun _ _ _ h => nomatch h.1) (by exact fun _ h => h) rfl rfl rfl (by first | rfl | (simp; done) | (simp; omega)) rfl rfl ?_)); ((refine TrA.takeu 23 (by kernel_rfl) rfl (by kernel_rfl) (by first | exact fun _ _ _ h => h | exact fun _ _ _ h => nomatch h.1) (by exact fun _ h => h) rfl rfl rfl (by first | rfl | (simp; done) | (simp; omega)) rfl rfl ?_)); ((refine TrA.takeu 24 (by kernel_rfl) rfl (by kernel_rfl) (by first | exact fun _ _ _ h => h | exact fun _ _ _ h => nomatch h.1) (by exact fun _ h => h) rfl rfl rfl (by first | rfl | (simp; done) | (simp; omega)) rfl rfl ?_)); ((refine TrA.takeu 21 (by kernel_rfl) rfl (by kernel_rfl) (by first | exact fun _ _ _ h => h | exact fun _ _ _ h => nomatch h.1) (by exact fun _ h => h) rfl rfl rfl (by first | rfl | (simp; done) | (simp; omega)) rfl rfl ?_)); ((refine TrA.takeu 25 (by kernel_rfl) rfl (by kernel_rfl) (by first | exact fun _ _ _ h => h | exact fun _ _ _ h => nomatch h.1) (by exact fun _ h => h) rfl rfl rfl (by first | rfl | (simp; done) | (simp; omega)) rfl rfl ?_)); ((refine TrA.takeu 26 (by kernel_rfl) rfl (by kernel_rfl) (by first | exact fun _ _ _ h => h | exact fun _ _ _ h => nomatch h.1) (by exact fun _ h => h) rfl rfl rfl (by first | rfl | (simp; done) | (simp; omega)) rfl rfl ?_)); ((refine TrA.takeu 27 (by kernel_rfl) rfl (by kernel_rfl) (by first | exact fun _ _ _ h => h | exact fun _ _ _ h => nomatch h.1) (by exact fun _ h => h) rfl rfl rfl (by first | rfl | (simp; done) | (simp; omega)) rfl rfl ?_)); ((refine TrA.takeu 22 (by kernel_rfl) rfl (by kernel_rfl) (by first | exact fun _ _ _ h => h | exact fun _ _ _ h => nomatch h.1) (by exact fun _ h => h) rfl rfl rfl (by first | rfl | (simp; done) | (simp; omega)) rfl rfl ?_)); ((refine TrA.takeu 28 (by kernel_rfl) rfl (by kernel_rfl) (by first | exact fun _ _ _ h => h | exact fun _ _ _ h => nomatch h.1) (by exact fun _ h => h) rfl rfl rfl (by first | rfl | (simp; done) | (simp; omega)) rfl rfl ?_)); ((refine TrA.takeu 29 (by kernel_rfl) rfl (by kernel_rfl) (by first | exact fun _ _ _ h => h | exact fun _ _ _ h => nomatch h.1) (by exact fun _ h => h) rfl rfl rfl (by first | rfl | (simp; done) | (simp; omega)) rfl rfl ?_)); ((refine TrA.takeg 30 (by kernel_rfl) rfl (by kernel_rfl) (by first | exact fun _ _ _ h => h | exact fun _ _ _ h => nomatch h.1) (by exact fun _ h => h) rfl rfl rfl (by first | (with_reducible rfl) | (with_reducible assumption) | (with_reducible exact Bool.not_true) | (with_reducible exact Bool.not_false)) (by exact Stab.pick_f rfl (by first | (with_reducible rfl) | (with_reducible assumption) | (with_reducible exact Bool.not_true) | (with_reducible exact Bool.not_false)) rfl) rfl rfl ?_)); (refine TrA.take 31 (by kernel_rfl) rfl (by kernel_rfl) (by first | exact fun _ _ _ h => h | exact fun _ _ _ h => nomatch h.1) (by exact fun _ h => h) rfl (by exact Stab.pick_f rfl (by first | (with_reducible rfl) | (with_reducible assumption) | (with_reducible exact Bool.not_true) | (with_reducible exact Bool.not_false)) rfl) rfl rfl ?_); (refine TrA.done (by kernel_rfl) ?_))
      have e12 : s2 = s1 := by
        have : at_ + n = at_ := by omega
        rw [this, hs1] at hs2
        exact (Option.some.inj hs2).symm
      refine Tr.land false ⟨fun e => (by cases e), fun h => absurd ⟨hg, by rw [e12, hgs], hb⟩ h⟩ (holds_sub (by repeat (first | exact SubFr.nil | refine SubFr.cons rfl ?_)) (by repeat (first | exact DropL.refl | apply DropL.skip)))
  refine Tr.next ?_
  by_cases hok : goodS s2 (at_ + n) ∧ gen s2 = g ∧ begs s2 = decide (n = 0)
  rotate_left
  · have hyt : y = true := hy.2 hok
    subst hyt
    rw [if_neg hok] at jr
    repeat (first | ((with_reducible refine Tr.step rfl ?_); (((with_reducible refine Knd.assign ?_); (refine Exec.stab rfl (Stab.assign rfl) rfl ?_)))) | (with_reducible refine Tr.next ?_) | (with_reducible refine Tr.seq ?_) | (with_reducible refine Tr.region ?_) | (with_reducible refine Tr.nil ?_) | (with_reducible refine Tr.ret ?_) | (with_reducible refine Tr.then_ret ?_) | (with_reducible refine Tr.in_ret ?_) | (refine Tr.cond_bt rfl (by first | (with_reducible rfl) | (with_reducible assumption) | (with_reducible exact Bool.not_true) | (with_reducible exact Bool.not_false)) ?_))
    (refine Tr.done (by first | exact .inl rfl | exact .inr rfl) rfl (by repeat (first | exact RVs.nil | (apply RVs.cons; (exact RV.tmp rfl)))) (by first | exact Mem.le.refl _ | assumption) (by exact ⟨[_], rfl⟩) ⟨rfl, ?_⟩)
    exact .inl ⟨jr, rfl⟩
  have hyf : y = false := by
    cases y with
    | false => rfl
    | true => exact absurd hok (hy.1 rfl)
  subst hyf
  rw [if_pos hok] at jr
  have hm112 : many s2 ≤ 112 := hok.1.2.2.2.2.1
  have hdl : (dat s2).length = many s2 := dat_length hsl2 hm112
  rw [eM] at hm112
  have hdat : BSl M _ (dat s2) := hb3.sub (l := 12) (k := 12 + many s2) (m := k3) (by omega) (by omega) (by omega) (by omega)
  have hrow := hdat.cap.2.2.2
  rw [← hdat.len, eM] at hrow
  have e12 : ((12 : Int) + (xm.toNat : Int)).toNat = 12 + xm.toNat := by omega
  repeat (first | ((with_reducible refine Tr.step rfl ?_); (first | ((with_reducible refine Knd.move ?_); (refine Exec.stab rfl (Stab.move rfl) rfl ?_)) | ((with_reducible refine Knd.load ?_); ((refine Exec.stab rfl (Stab.loadM rfl (tysOk.get rfl) rfl (by assumption)) rfl ?_))) | ((with_reducible refine Knd.binOp ?_); ((refine Exec.stab rfl (Stab.addi rfl rfl (by omega)) rfl ?_))) | ((with_reducible refine Knd.indexAddr ?_); ((refine Exec.stab rfl (Stab.indexAddr rfl rfl (tysOk.get rfl) rfl (tysOk.get rfl) rfl (by omega) (by omega) (by first | rfl | assumption)) rfl ?_))) | ((with_reducible refine Knd.convert ?_); ((refine Exec.stab rfl (Stab.convi rfl (tysOk.get rfl) (tysOk.get rfl) rfl rfl (by omega)) rfl ?_))) | ((with_reducible refine Knd.slice ?_); ((refine Exec.stab rfl (Stab.slice_lh rfl rfl rfl (tysOk.get rfl) rfl (tysOk.get rfl) rfl (by omega) (by omega) (by omega)) rfl ?_))))) | (with_reducible refine Tr.next ?_) | (with_reducible refine Tr.seq ?_) | (with_reducible refine Tr.region ?_) | (with_reducible refine Tr.skip ?_) | (refine Tr.cond_bf rfl (by first | (with_reducible rfl) | (with_reducible assumption) | (with_reducible exact Bool.not_true) | (with_reducible exact Bool.not_false)) ?_))
  rw [e12]
  ((refine Tr.step rfl ?_))
  refine Exec.append (news := byteV (dat s2)) rfl rfl (tysOk.get rfl) rfl (tysOk.get rfl) rfl rfl rfl rfl (by repeat (first | exact Del.here | apply Del.there)) (Src.row hrow) (by rw [byteV_length, hdl, eM]; omega) (byteV_one _) (by omega) (by omega) rfl (fun R2 rc2 hrc2 => ?_)
  rw [← byteV_append, show bs.length + (12 + xm.toNat - Int.toNat 12) = (bs ++ dat s2).length by rw [List.length_append, hdl, eM]; show bs.length + (12 + xm.toNat - 12) = _; omega]
  by_cases de : (2 : Int) ≤ (xf.toNat : Int)
  · have hend : ends s2 = true := by unfold ends; rw [decide_eq_true_eq, eK]; omega
    rw [if_pos hend] at jr
    simp only [Option.map_some] at jr
    repeat (first | ((with_reducible refine Tr.step rfl ?_); (first | ((with_reducible refine Knd.move ?_); (refine Exec.stab rfl (Stab.move rfl) rfl ?_)) | ((with_reducible refine Knd.assign ?_); (refine Exec.stab rfl (Stab.assign rfl) rfl ?_)) | ((with_reducible refine Knd.load ?_); ((refine Exec.stab rfl (Stab.loadM rfl (tysOk.get rfl) rfl (by assumption)) rfl ?_))) | ((with_reducible refine Knd.binOp ?_); (first | (refine Exec.stab rfl (Stab.addi rfl rfl (by omega)) rfl ?_) | (refine Exec.stab rfl (Stab.int rfl rfl rfl) rfl ?_))) | ((with_reducible refine Knd.indexAddr ?_); ((refine Exec.stab rfl (Stab.indexAddr rfl rfl (tysOk.get rfl) rfl (tysOk.get rfl) rfl (by omega) (by omega) (by first | rfl | assumption)) rfl ?_))))) | (with_reducible refine Tr.next ?_) | (with_reducible refine Tr.seq ?_) | (with_reducible refine Tr.region ?_) | (with_reducible refine Tr.nil ?_) | (with_reducible refine Tr.ret ?_) | (with_reducible refine Tr.then_ret ?_) | (with_reducible refine Tr.in_ret ?_) | (refine Tr.cond_t rfl (by first | (with_reducible assumption) | (with_reducible rfl) | (with_reducible exact (not_not_intro rfl)) | omega) ?_))
    refine Tr.publish (r := ownS 5 1 R2 _ _ _) (by repeat (first | exact Del.here | apply Del.there)) (fun M2 hm2 hokk => ?_)
    have hby : BSl M2 (.slice R2 (bs ++ dat s2).length rc2) (bs ++ dat s2) := BSl.ofOwn hokk rfl hrc2
    (refine Tr.done (by first | exact .inl rfl | exact .inr rfl) rfl (by repeat (first | exact RVs.nil | (apply RVs.cons; (exact RV.tmp rfl)))) (by first | exact Mem.le.refl _ | assumption) (by exact ⟨[], rfl⟩) ⟨rfl, ?_⟩)
    refine .inr ⟨_, _, R2, rc2, jr, ?_, hby⟩
    rw [show at_ + n + 1 - at_ = n + 1 by omega]
    rfl
  · have hend : ¬ ends s2 = true := by unfold ends; rw [decide_eq_true_eq, eK]; omega
    rw [if_neg hend] at jr
    repeat (first | ((with_reducible refine Tr.step rfl ?_); (first | ((with_reducible refine Knd.move ?_); (refine Exec.stab rfl (Stab.move rfl) rfl ?_)) | ((with_reducible refine Knd.assign ?_); (refine Exec.stab rfl (Stab.assign rfl) rfl ?_)) | ((with_reducible refine Knd.load ?_); ((refine Exec.stab rfl (Stab.loadM rfl (tysOk.get rfl) rfl (by assumption)) rfl ?_))) | ((with_reducible refine Knd.binOp ?_); (first | (refine Exec.stab rfl (Stab.addi rfl rfl (by omega)) rfl ?_) | (refine Exec.stab rfl (Stab.int rfl rfl rfl) rfl ?_))) | ((with_reducible refine Knd.indexAddr ?_); ((refine Exec.stab rfl (Stab.indexAddr rfl rfl (tysOk.get rfl) rfl (tysOk.get rfl) rfl (by omega) (by omega) (by first | rfl | assumption)) rfl ?_))))) | (with_reducible refine Tr.next ?_) | (with_reducible refine Tr.seq ?_) | (with_reducible refine Tr.region ?_) | (with_reducible refine Tr.nil ?_) | (with_reducible refine Tr.skip ?_) | (with_reducible refine Tr.in_normal ?_) | (refine Tr.cond_f rfl (by first | (with_reducible assumption) | (with_reducible rfl) | (with_reducible exact (not_not_intro rfl)) | omega) ?_))
    refine Tr.again (n + 1, bs ++ dat s2, R2, rc2) ⟨by simp only; omega, by simp only [List.length_append, hdl, eM]; omega, ?_, hrc2⟩ (by simp only; omega) (holds_sub (by repeat (first | exact SubFr.nil | refine SubFr.cons rfl ?_)) (by repeat (first | exact DropL.refl | apply DropL.skip)))
    simp only
    rw [jr, show at_ + (n + 1) = at_ + n + 1 by omega, show decide (n + 1 = 0) = false from rfl]
    cases readR g (l.drop (at_ + n + 1)) (at_ + n + 1) false with
    | none => rfl
    | some p => simp [List.append_assoc]
end Go.Proofs.Ytkbggengagockaa
/-
  The journal: the specification's Records and Open.
  Conditions: none.
-/
namespace Go.Proofs.Ytkbggengagockaa
open Go Bf
attribute [local irreducible] Tr Exec Stab HasTy Go.Addr.add IntKind.wrap
set_option maxHeartbeats 8000000 in
theorem rrecs_fn (M : Mem) (A : Option Addr) (c : Nat) (l : List (List UInt8)) (h : SlOf 1 RSec M (.slice A l.length c) l) (h128 : ∀ s ∈ l, s.length = 128) (hlen : l.length ≤ 4096) :
    Fn0 Try.prog 35 [.slice A l.length c] M (fun r M' => ∃ R rc, r = .slice R (recs l).length rc ∧ SlOf 1 RSec M' (.slice R (recs l).length rc) (recs l)) := by
  have hl := h.len_le
  have hrl := recs_length l
  refine Fn.intro Try.func35 rfl rfl Try.ntmps35 rfl fun E F => ?_
  repeat (first | ((with_reducible refine Tr.step rfl ?_); (first | ((with_reducible refine Knd.assign ?_); (refine Exec.stab rfl (Stab.assign rfl) rfl ?_)) | ((with_reducible refine Knd.buildSlice ?_); ((refine Exec.buildSlice (tysOk.get rfl) rfl (tysOk.get rfl) rfl rfl rfl rfl rfl (by repeat (exact BuildP.nil)) rfl (fun b => ?_)))))) | (with_reducible refine Tr.next ?_) | (with_reducible refine Tr.seq ?_) | (with_reducible refine Tr.region ?_) | (with_reducible refine Tr.nil ?_) | (with_reducible refine Tr.block ?_))
  refine Tr.box_own (e := 35) 1 0 (by repeat (first | exact Upd.here | apply Upd.there)) rfl (by intro u hu; cases hu) (by simp [maxLen]) ?_
  generalize b = bb
  refine Tr.loop (α := Nat × Nat × List (List UInt8) × Nat × Mem × Option Addr × Nat × List Value) (fun y => ⟨41, [(4, .int .i64 y.1), (5, .int .u64 y.2.1), (3, .slice y.2.2.2.2.2.1 y.2.2.1.length y.2.2.2.2.2.2.1), (0, .slice A l.length c)], [], y.2.2.2.2.1, ownS 35 1 y.2.2.2.2.2.1 y.2.2.1.length y.2.2.2.2.2.2.1 y.2.2.2.2.2.2.2 :: ([] ++ F)⟩)
    (fun y => y.1 ≤ l.length ∧ Mem.le M y.2.2.2.2.1 ∧ y.2.2.1 ++ recsF y.2.2.2.1 (l.drop y.1) y.1 y.2.1 = recs l ∧ l.length ≤ y.1 + y.2.2.2.1 ∧ Elems 1 RSec y.2.2.2.2.1 y.2.2.2.2.2.2.2 y.2.2.1 ∧ y.2.2.2.2.2.2.1 ≤ 9223372036854775807) (fun y => l.length - y.1) (0, 0, [], l.length, M, some ⟨bb, 0, none⟩, 0, []) ⟨Nat.zero_le _, Mem.le.refl _, rfl, by simp, Elems.nil, by simp⟩ (holds_sub (by repeat (first | exact SubFr.nil | refine SubFr.cons rfl ?_)) (by repeat (first | exact DropL.refl | apply DropL.skip))) (fun y hy => ?_)
  obtain ⟨at_, least, ys, f, M1, R, rc, cs⟩ := y
  obtain ⟨i1, hm1, hrec, hf, hE, hrc⟩ := hy
  simp only at i1 hm1 hrec hf hE hrc
  dsimp only
  have h1 := h.mono RSec.mono hm1
  repeat (first | ((with_reducible refine Tr.step rfl ?_); (((with_reducible refine Knd.move ?_); (refine Exec.stab rfl (Stab.move rfl) rfl ?_)))) | (with_reducible refine Tr.seq ?_) | (with_reducible refine Tr.region ?_) | (with_reducible refine Tr.block ?_))
  ((refine Tr.step rfl ?_)); refine Exec.call0 rfl (record_fn M1 A c l at_ h1 h128 hlen i1) rfl ?_
  rintro _ M2 hm2 hR
  have hm12 := hm1.trans hm2
  rcases hR with ⟨hn, rfl⟩ | ⟨p, k, R1, rc1, hn, rfl, hb⟩
  · have e0 : recsF f (l.drop at_) at_ least = [] := by
      unfold recR at hn
      cases f with
      | zero => rfl
      | succ f =>
        cases hd : l.drop at_ with
        | nil => rfl
        | cons s t =>
          rw [hd] at hn
          rw [recsF]
          split
          · rfl
          · rw [show gen0 (s :: t) = gen s from rfl] at hn
            rw [hn]
    rw [e0, List.append_nil] at hrec
    repeat (first | ((with_reducible refine Tr.step rfl ?_); (first | ((with_reducible refine Knd.move ?_); (refine Exec.stab rfl (Stab.move rfl) rfl ?_)) | ((with_reducible refine Knd.assign ?_); (refine Exec.stab rfl (Stab.assign rfl) rfl ?_)) | ((with_reducible refine Knd.binOp ?_); ((refine Exec.stab rfl (Stab.int rfl rfl rfl) rfl ?_))) | ((with_reducible refine Knd.pick ?_); ((refine Exec.stab rfl (Stab.pick_td rfl (by first | (with_reducible assumption) | (with_reducible rfl) | (with_reducible exact (not_not_intro rfl)) | omega) rfl) rfl ?_))) | ((with_reducible refine Knd.extract ?_); (refine Exec.stab rfl (Stab.extract rfl rfl) rfl ?_)))) | (with_reducible refine Tr.next ?_) | (with_reducible refine Tr.seq ?_) | (with_reducible refine Tr.region ?_) | (with_reducible refine Tr.nil ?_) | (refine Tr.guard_n' rfl rfl rfl (by first | (with_reducible assumption) | (with_reducible rfl) | (with_reducible exact (not_not_intro rfl)) | omega) rfl rfl ?_) | (with_reducible refine Tr.ret ?_) | (with_reducible refine Tr.then_ret ?_) | (with_reducible refine Tr.in_ret ?_) | (refine Tr.cond_bt rfl (by first | (with_reducible rfl) | (with_reducible assumption) | (with_reducible exact Bool.not_true) | (with_reducible exact Bool.not_false)) ?_))
    refine Tr.publish (r := ownS 35 1 R _ _ _) (by repeat (first | exact Del.here | apply Del.there)) (fun M3 hm3 hok => ?_)
    have hm13 := hm12.trans hm3
    (refine Tr.done (by first | exact .inl rfl | exact .inr rfl) rfl (by repeat (first | exact RVs.nil | (apply RVs.cons; (exact RV.tmp rfl)))) (by first | exact Mem.le.refl _ | assumption) (by exact ⟨[], rfl⟩) ⟨rfl, ?_⟩)
    subst hrec
    exact ⟨R, rc, rfl, SlOf.ofOwn hok rfl hrc (hE.mono RSec.mono (hm2.trans hm3))⟩
  have hgt := readR_gt hn
  have hlt : at_ < l.length := by
    by_cases e : at_ < l.length
    · exact e
    · exfalso
      rw [List.drop_eq_nil_of_le (by omega)] at hgt
      simp at hgt
      omega
  obtain ⟨s1, hs1⟩ := get_of_lt hlt
  have hsl1 : s1.length = 128 := h128 s1 (List.mem_of_getElem? hs1)
  obtain ⟨hAA, ch1, hat1, A4, k4, rfl, hb4⟩ := (h.mono RSec.mono hm12).elem hs1
  rw [hsl1] at hat1 hb4
  have hc4 := hb4.cap
  have q1 : BSl M2 (.slice A4 4 k4) (s1.take 4) := hb4.pre (by omega) (by omega) (by omega)
  have n1 := rnumber_fn M2 _ _ _ _ q1 (by rw [List.length_take]; omega)
  rw [show be (s1.take 4) = gen s1 from rfl] at n1
  have hd := drop_cons hs1
  unfold recR at hn
  rw [hd] at hn hrec hgt
  rw [show gen0 (s1 :: l.drop (at_ + 1)) = gen s1 from rfl] at hn
  rw [List.length_cons, List.length_drop] at hgt
  obtain ⟨f, rfl⟩ : ∃ f', f = f' + 1 := ⟨f - 1, by omega⟩
  rw [recsF] at hrec
  have hk0 : ¬ ((k - at_ : Nat) : Int) = 0 := by omega
  have hkk : (at_ : Int) + ((k - at_ : Nat) : Int) = (k : Int) := by omega
  by_cases hlow : ((gen s1 : Nat) : Int) < (least : Int)
  · rw [if_pos (by omega), List.append_nil] at hrec
    repeat (first | ((with_reducible refine Tr.step rfl ?_); (first | ((with_reducible refine Knd.move ?_); (refine Exec.stab rfl (Stab.move rfl) rfl ?_)) | ((with_reducible refine Knd.assign ?_); (refine Exec.stab rfl (Stab.assign rfl) rfl ?_)) | ((with_reducible refine Knd.binOp ?_); ((refine Exec.stab rfl (Stab.int rfl rfl rfl) rfl ?_))) | ((with_reducible refine Knd.extract ?_); (refine Exec.stab rfl (Stab.extract rfl rfl) rfl ?_)))) | (with_reducible refine Tr.next ?_) | (with_reducible refine Tr.seq ?_) | (with_reducible refine Tr.region ?_) | (with_reducible refine Tr.nil ?_) | ((refine Tr.guard_y' rfl rfl rfl (by first | (with_reducible assumption) | (with_reducible rfl) | (with_reducible exact (not_not_intro rfl)) | omega) ?_); (first | ((with_reducible refine Knd.move ?_); (refine Exec.stab rfl (Stab.move rfl) rfl ?_)) | ((with_reducible refine Knd.load ?_); ((refine Exec.stab rfl (Stab.loadM rfl (tysOk.get rfl) rfl (by assumption)) rfl ?_))) | ((with_reducible refine Knd.indexAddr ?_); ((refine Exec.stab rfl (Stab.indexAddr rfl rfl (tysOk.get rfl) rfl (tysOk.get rfl) rfl (by omega) (by omega) (by first | rfl | assumption)) rfl ?_))) | ((with_reducible refine Knd.slice ?_); ((refine Exec.stab rfl (Stab.slice_h rfl rfl (tysOk.get rfl) rfl (tysOk.get rfl) (by omega) (by omega)) rfl ?_))))))
    ((refine Tr.guard_y' rfl rfl rfl (by first | (with_reducible assumption) | (with_reducible rfl) | (with_reducible exact (not_not_intro rfl)) | omega) ?_)); refine Exec.call0 rfl (n1) rfl ?_
    rintro _ _ _ ⟨rfl, rfl⟩
    repeat (first | ((with_reducible refine Tr.step rfl ?_); (first | ((with_reducible refine Knd.move ?_); (refine Exec.stab rfl (Stab.move rfl) rfl ?_)) | ((with_reducible refine Knd.assign ?_); (refine Exec.stab rfl (Stab.assign rfl) rfl ?_)) | ((with_reducible refine Knd.pick ?_); ((refine Exec.stab rfl (Stab.pick_fd rfl (by first | (with_reducible assumption) | (with_reducible rfl) | (with_reducible exact (not_not_intro rfl)) | omega) rfl) rfl ?_))))) | (with_reducible refine Tr.next ?_) | (with_reducible refine Tr.seq ?_) | (with_reducible refine Tr.region ?_) | (with_reducible refine Tr.nil ?_) | ((refine Tr.guard_y' rfl rfl rfl (by first | (with_reducible assumption) | (with_reducible rfl) | (with_reducible exact (not_not_intro rfl)) | omega) ?_); (first | ((with_reducible refine Knd.move ?_); (refine Exec.stab rfl (Stab.move rfl) rfl ?_)) | ((with_reducible refine Knd.binOp ?_); ((refine Exec.stab rfl (Stab.int rfl rfl rfl) rfl ?_))))) | (with_reducible refine Tr.ret ?_) | (with_reducible refine Tr.then_ret ?_) | (with_reducible refine Tr.in_ret ?_) | (refine Tr.cond_t rfl (by first | (with_reducible assumption) | (with_reducible rfl) | (with_reducible exact (not_not_intro rfl)) | omega) ?_))
    refine Tr.publish (r := ownS 35 1 R _ _ _) (by repeat (first | exact Del.here | apply Del.there)) (fun M3 hm3 hok => ?_)
    have hm13 := hm12.trans hm3
    (refine Tr.done (by first | exact .inl rfl | exact .inr rfl) rfl (by repeat (first | exact RVs.nil | (apply RVs.cons; (exact RV.tmp rfl)))) (by first | exact Mem.le.refl _ | assumption) (by exact ⟨[], rfl⟩) ⟨rfl, ?_⟩)
    subst hrec
    exact ⟨R, rc, rfl, SlOf.ofOwn hok rfl hrc (hE.mono RSec.mono (hm2.trans hm3))⟩
  rw [if_neg (by omega), hn] at hrec
  simp only at hrec
  have hyl : ys.length + 1 ≤ 4096 := by
    have := congrArg List.length hrec
    rw [List.length_append, List.length_cons] at this
    omega
  repeat (first | ((with_reducible refine Tr.step rfl ?_); (first | ((with_reducible refine Knd.move ?_); (refine Exec.stab rfl (Stab.move rfl) rfl ?_)) | ((with_reducible refine Knd.assign ?_); (refine Exec.stab rfl (Stab.assign rfl) rfl ?_)) | ((with_reducible refine Knd.binOp ?_); ((refine Exec.stab rfl (Stab.int rfl rfl rfl) rfl ?_))) | ((with_reducible refine Knd.extract ?_); (refine Exec.stab rfl (Stab.extract rfl rfl) rfl ?_)))) | (with_reducible refine Tr.next ?_) | (with_reducible refine Tr.seq ?_) | (with_reducible refine Tr.region ?_) | (with_reducible refine Tr.nil ?_) | ((refine Tr.guard_y' rfl rfl rfl (by first | (with_reducible assumption) | (with_reducible rfl) | (with_reducible exact (not_not_intro rfl)) | omega) ?_); (first | ((with_reducible refine Knd.move ?_); (refine Exec.stab rfl (Stab.move rfl) rfl ?_)) | ((with_reducible refine Knd.load ?_); ((refine Exec.stab rfl (Stab.loadM rfl (tysOk.get rfl) rfl (by assumption)) rfl ?_))) | ((with_reducible refine Knd.indexAddr ?_); ((refine Exec.stab rfl (Stab.indexAddr rfl rfl (tysOk.get rfl) rfl (tysOk.get rfl) rfl (by omega) (by omega) (by first | rfl | assumption)) rfl ?_))) | ((with_reducible refine Knd.slice ?_); ((refine Exec.stab rfl (Stab.slice_h rfl rfl (tysOk.get rfl) rfl (tysOk.get rfl) (by omega) (by omega)) rfl ?_))))))
  ((refine Tr.guard_y' rfl rfl rfl (by first | (with_reducible assumption) | (with_reducible rfl) | (with_reducible exact (not_not_intro rfl)) | omega) ?_)); refine Exec.call0 rfl (n1) rfl ?_
  rintro _ _ _ ⟨rfl, rfl⟩
  repeat (first | ((with_reducible refine Tr.step rfl ?_); (first | ((with_reducible refine Knd.move ?_); (refine Exec.stab rfl (Stab.move rfl) rfl ?_)) | ((with_reducible refine Knd.load ?_); ((refine Exec.stab rfl (Stab.loadM rfl (tysOk.get rfl) rfl (by assumption)) rfl ?_))) | ((with_reducible refine Knd.pick ?_); ((refine Exec.stab rfl (Stab.pick_fd rfl (by first | (with_reducible assumption) | (with_reducible rfl) | (with_reducible exact (not_not_intro rfl)) | omega) rfl) rfl ?_))) | ((with_reducible refine Knd.indexAddr ?_); ((refine Exec.stab rfl (Stab.indexAddr rfl rfl (tysOk.get rfl) rfl (tysOk.get rfl) rfl (by omega) (by omega) (by first | rfl | assumption)) rfl ?_))) | ((with_reducible refine Knd.slice ?_); ((refine Exec.stab rfl (Stab.slice_h rfl rfl (tysOk.get rfl) rfl (tysOk.get rfl) (by omega) (by omega)) rfl ?_))))) | (with_reducible refine Tr.next ?_) | (with_reducible refine Tr.seq ?_) | (with_reducible refine Tr.region ?_) | (with_reducible refine Tr.nil ?_) | ((refine Tr.guard_y' rfl rfl rfl (by first | (with_reducible assumption) | (with_reducible rfl) | (with_reducible exact (not_not_intro rfl)) | omega) ?_); (first | ((with_reducible refine Knd.move ?_); (refine Exec.stab rfl (Stab.move rfl) rfl ?_)) | ((with_reducible refine Knd.binOp ?_); ((refine Exec.stab rfl (Stab.int rfl rfl rfl) rfl ?_))))) | (with_reducible refine Tr.skip ?_) | (refine Tr.cond_f rfl (by first | (with_reducible assumption) | (with_reducible rfl) | (with_reducible exact (not_not_intro rfl)) | omega) ?_))
  ((refine Tr.step rfl ?_)); refine Exec.call0 rfl (n1) rfl ?_
  rintro _ _ _ ⟨rfl, rfl⟩
  repeat (first | ((with_reducible refine Tr.step rfl ?_); (first | ((with_reducible refine Knd.move ?_); (refine Exec.stab rfl (Stab.move rfl) rfl ?_)) | ((with_reducible refine Knd.assign ?_); (refine Exec.stab rfl (Stab.assign rfl) rfl ?_)) | ((with_reducible refine Knd.buildSlice ?_); ((refine Exec.buildSlice (tysOk.get rfl) rfl (tysOk.get rfl) rfl rfl rfl rfl rfl (by repeat (first | exact BuildP.nil | ((apply BuildP.one); (rfl); (rfl); (first | rfl | assumption); (repeat (first | exact SetL.z | apply SetL.s))))) rfl (fun b => ?_)))))) | (with_reducible refine Tr.next ?_) | (with_reducible refine Tr.seq ?_) | (with_reducible refine Tr.region ?_) | (with_reducible refine Tr.nil ?_))
  refine Tr.cells (cs' := [.slice R1 p.length rc1]) (by repeat (first | exact Upd.here | apply Upd.there)) rfl ?_
  ((refine Tr.step rfl ?_))
  refine Exec.append (A := R) (news := [.slice R1 p.length rc1]) rfl rfl (tysOk.get rfl) rfl (tysOk.get rfl) rfl rfl rfl rfl (by repeat (first | exact Del.here | apply Del.there)) (Src.box (by repeat (first | exact Has.here | apply Has.there))) rfl (by intro u hu; simp at hu; subst hu; rfl) (by omega) (by omega) rfl (fun R2 rc2 hrc2 => ?_)
  refine Tr.give (r := box _ 35 [_]) (by repeat (first | exact Del.here | apply Del.there)) ?_
  repeat (first | ((with_reducible refine Tr.step rfl ?_); (first | ((with_reducible refine Knd.move ?_); (refine Exec.stab rfl (Stab.move rfl) rfl ?_)) | ((with_reducible refine Knd.assign ?_); (refine Exec.stab rfl (Stab.assign rfl) rfl ?_)) | ((with_reducible refine Knd.binOp ?_); ((refine Exec.stab rfl (Stab.addi rfl rfl (by omega)) rfl ?_))))) | (with_reducible refine Tr.next ?_) | (with_reducible refine Tr.region ?_) | (with_reducible refine Tr.nil ?_) | (with_reducible refine Tr.in_normal ?_))
  rw [hkk, show ys.length + 1 = (ys ++ [p]).length by simp]
  refine Tr.again (k, gen s1, ys ++ [p], f, M2, R2, rc2, cs ++ [Value.slice R1 p.length rc1]) ⟨by simp only; omega, hm12, ?_, by simp only; omega, (hE.mono RSec.mono hm2).append (Elems.one rfl ⟨R1, rc1, rfl, hb⟩), hrc2⟩ (by simp only; omega) (holds_sub (by repeat (first | exact SubFr.nil | refine SubFr.cons rfl ?_)) (by repeat (first | exact DropL.refl | apply DropL.skip)))
  simp only
  rw [List.append_assoc, ← hrec, ← hd, List.drop_drop, show at_ + (k - at_) = k by omega]
  rfl

set_option maxHeartbeats 2000000 in
theorem ropen_fn (M : Mem) (v : Value) (d : Dsk) (h : RDisk M v d) :
    Fn0 Try.prog 13 [v] M (fun r M' => RJPair M' r (openF d)) := by
  have hD := h
  obtain ⟨A, c, B, k, rfl, h1, h2⟩ := h
  have l1 := h1.len_le
  have l2 := h2.len_le
  refine Fn.intro Try.func13 rfl rfl Try.ntmps13 rfl fun E F => ?_
  repeat (first | ((with_reducible refine Tr.step rfl ?_); (first | ((with_reducible refine Knd.assign ?_); (refine Exec.stab rfl (Stab.assign rfl) rfl ?_)) | ((with_reducible refine Knd.load ?_); ((refine Exec.stab rfl (Stab.loadW rfl (tysOk.get rfl) rfl (by repeat (first | exact Has.here | apply Has.there)) rfl) rfl ?_))) | ((with_reducible refine Knd.box ?_); (first | (refine Exec.box rfl rfl (fun b => ?_)) | (refine Exec.box1 rfl (by first | rfl | assumption) rfl (fun b => ?_)))) | ((with_reducible refine Knd.alloc ?_); (first | (refine Exec.alloc (tysOk.get rfl) rfl rfl (fun b => ?_)) | (refine Exec.alloc1 (tysOk.get rfl) rfl rfl rfl (fun b => ?_)))))) | (with_reducible refine Tr.next ?_) | (with_reducible refine Tr.seq ?_) | (with_reducible refine Tr.region ?_) | (with_reducible refine Tr.nil ?_))
  ((refine Tr.step rfl ?_)); refine Exec.call0 rfl (rcheck_fn M _ d hD) rfl ?_
  rintro _ _ _ ⟨rfl, rfl⟩
  by_cases hok : okD d
  rotate_left
  · rw [if_neg hok]
    have hi : idleF d (-1) = 440 := by rw [idleF, if_neg hok]
    repeat (first | ((with_reducible refine Tr.step rfl ?_); (first | ((with_reducible refine Knd.move ?_); (refine Exec.stab rfl (Stab.move rfl) rfl ?_)) | ((with_reducible refine Knd.assign ?_); (refine Exec.stab rfl (Stab.assign rfl) rfl ?_)) | ((with_reducible refine Knd.binOp ?_); ((refine Exec.stab rfl (Stab.int rfl rfl rfl) rfl ?_))) | ((with_reducible refine Knd.store ?_); ((refine Exec.storeW rfl rfl (tysOk.get rfl) (by repeat (first | exact Upd.here | apply Upd.there)) rfl rfl (by repeat (first | exact AllOne.nil | refine AllOne.cons (by first | rfl | assumption) ?_)) ?_))) | ((with_reducible refine Knd.build ?_); ((refine Exec.stab rfl (Stab.build tysOk rfl rfl rfl rfl (by repeat (exact BuildP.nil))) rfl ?_))))) | (with_reducible refine Tr.next ?_) | (with_reducible refine Tr.seq ?_) | (with_reducible refine Tr.region ?_) | (with_reducible refine Tr.nil ?_) | (with_reducible refine Tr.ret ?_) | (with_reducible refine Tr.then_ret ?_) | (refine Tr.cond_t rfl (by first | (with_reducible assumption) | (with_reducible rfl) | (with_reducible exact (not_not_intro rfl)) | omega) ?_))
    (refine Tr.done (by first | exact .inl rfl | exact .inr rfl) rfl (by repeat (first | exact RVs.nil | (apply RVs.cons; (first | exact RV.tmp rfl | exact RV.cellW (by rfl) (tysOk.get (by rfl)) (by rfl) (by repeat (first | exact Has.here | apply Has.there)) (by first | rfl | assumption))))) (by first | exact Mem.le.refl _ | assumption) (by exact ⟨[_, _], rfl⟩) ⟨rfl, ?_⟩)
    rw [openF, if_neg (by rw [hi]; decide), hi]
    exact ⟨_, rfl, RJr.zero M⟩
  rw [if_pos hok]
  by_cases hs : d.stop = true
  · have hi : idleF d (-1) = 440 := by rw [idleF, if_pos hok, if_pos hs]
    repeat (first | ((with_reducible refine Tr.step rfl ?_); (first | ((with_reducible refine Knd.move ?_); (refine Exec.stab rfl (Stab.move rfl) rfl ?_)) | ((with_reducible refine Knd.assign ?_); (refine Exec.stab rfl (Stab.assign rfl) rfl ?_)) | ((with_reducible refine Knd.load ?_); ((refine Exec.stab rfl (Stab.load rfl (tysOk.get rfl) rfl (by repeat (first | exact Has.here | apply Has.there)) rfl) rfl ?_))) | ((with_reducible refine Knd.fieldAddr ?_); ((refine Exec.stab rfl (Stab.fieldZ rfl (tysOk.get rfl) rfl rfl (tysOk.get rfl) rfl) rfl ?_))) | ((with_reducible refine Knd.binOp ?_); ((refine Exec.stab rfl (Stab.int rfl rfl rfl) rfl ?_))) | ((with_reducible refine Knd.store ?_); ((refine Exec.storeW rfl rfl (tysOk.get rfl) (by repeat (first | exact Upd.here | apply Upd.there)) rfl rfl (by repeat (first | exact AllOne.nil | refine AllOne.cons (by first | rfl | assumption) ?_)) ?_))) | ((with_reducible refine Knd.build ?_); ((refine Exec.stab rfl (Stab.build tysOk rfl rfl rfl rfl (by repeat (exact BuildP.nil))) rfl ?_))))) | (with_reducible refine Tr.next ?_) | (with_reducible refine Tr.seq ?_) | (with_reducible refine Tr.region ?_) | (with_reducible refine Tr.nil ?_) | (with_reducible refine Tr.skip ?_) | (with_reducible refine Tr.ret ?_) | (with_reducible refine Tr.then_ret ?_) | (refine Tr.cond_bt rfl (by first | (with_reducible rfl) | (with_reducible assumption) | (with_reducible exact Bool.not_true) | (with_reducible exact Bool.not_false)) ?_) | (refine Tr.cond_f rfl (by first | (with_reducible assumption) | (with_reducible rfl) | (with_reducible exact (not_not_intro rfl)) | omega) ?_))
    (refine Tr.done (by first | exact .inl rfl | exact .inr rfl) rfl (by repeat (first | exact RVs.nil | (apply RVs.cons; (first | exact RV.tmp rfl | exact RV.cellW (by rfl) (tysOk.get (by rfl)) (by rfl) (by repeat (first | exact Has.here | apply Has.there)) (by first | rfl | assumption))))) (by first | exact Mem.le.refl _ | assumption) (by exact ⟨[_, _], rfl⟩) ⟨rfl, ?_⟩)
    rw [openF, if_neg (by rw [hi]; decide), hi]
    exact ⟨_, rfl, RJr.zero M⟩
  have hs' : d.stop = false := by simpa using hs
  by_cases hp : (0 : Int) < (d.pen.length : Int)
  · have hi : idleF d (-1) = 1 := by rw [idleF, if_pos hok, if_neg hs, if_pos (.inr (by omega))]
    repeat (first | ((with_reducible refine Tr.step rfl ?_); (first | ((with_reducible refine Knd.move ?_); (refine Exec.stab rfl (Stab.move rfl) rfl ?_)) | ((with_reducible refine Knd.assign ?_); (refine Exec.stab rfl (Stab.assign rfl) rfl ?_)) | ((with_reducible refine Knd.load ?_); ((refine Exec.stab rfl (Stab.load rfl (tysOk.get rfl) rfl (by repeat (first | exact Has.here | apply Has.there)) rfl) rfl ?_))) | ((with_reducible refine Knd.fieldAddr ?_); ((refine Exec.stab rfl (Stab.fieldZ rfl (tysOk.get rfl) rfl rfl (tysOk.get rfl) rfl) rfl ?_))) | ((with_reducible refine Knd.len ?_); ((refine Exec.stab rfl (Stab.len rfl (tysOk.get rfl) rfl) rfl ?_))) | ((with_reducible refine Knd.binOp ?_); ((refine Exec.stab rfl (Stab.int rfl rfl rfl) rfl ?_))) | ((with_reducible refine Knd.store ?_); ((refine Exec.storeW rfl rfl (tysOk.get rfl) (by repeat (first | exact Upd.here | apply Upd.there)) rfl rfl (by repeat (first | exact AllOne.nil | refine AllOne.cons (by first | rfl | assumption) ?_)) ?_))) | ((with_reducible refine Knd.build ?_); ((refine Exec.stab rfl (Stab.build tysOk rfl rfl rfl rfl (by repeat (exact BuildP.nil))) rfl ?_))))) | (with_reducible refine Tr.next ?_) | (with_reducible refine Tr.seq ?_) | (with_reducible refine Tr.region ?_) | (with_reducible refine Tr.nil ?_) | (with_reducible refine Tr.skip ?_) | (with_reducible refine Tr.ret ?_) | (with_reducible refine Tr.then_ret ?_) | (refine Tr.cond_bf rfl (by first | (with_reducible rfl) | (with_reducible assumption) | (with_reducible exact Bool.not_true) | (with_reducible exact Bool.not_false)) ?_) | (refine Tr.cond_t rfl (by first | (with_reducible assumption) | (with_reducible rfl) | (with_reducible exact (not_not_intro rfl)) | omega) ?_) | (refine Tr.cond_f rfl (by first | (with_reducible assumption) | (with_reducible rfl) | (with_reducible exact (not_not_intro rfl)) | omega) ?_))
    (refine Tr.done (by first | exact .inl rfl | exact .inr rfl) rfl (by repeat (first | exact RVs.nil | (apply RVs.cons; (first | exact RV.tmp rfl | exact RV.cellW (by rfl) (tysOk.get (by rfl)) (by rfl) (by repeat (first | exact Has.here | apply Has.there)) (by first | rfl | assumption))))) (by first | exact Mem.le.refl _ | assumption) (by exact ⟨[_, _], rfl⟩) ⟨rfl, ?_⟩)
    rw [openF, if_neg (by rw [hi]; decide), hi]
    exact ⟨_, rfl, RJr.zero M⟩
  have hi : idleF d (-1) = 0 := by rw [idleF, if_pos hok, if_neg hs, if_neg (by omega)]
  repeat (first | ((with_reducible refine Tr.step rfl ?_); (first | ((with_reducible refine Knd.move ?_); (refine Exec.stab rfl (Stab.move rfl) rfl ?_)) | ((with_reducible refine Knd.assign ?_); (refine Exec.stab rfl (Stab.assign rfl) rfl ?_)) | ((with_reducible refine Knd.load ?_); ((refine Exec.stab rfl (Stab.load rfl (tysOk.get rfl) rfl (by repeat (first | exact Has.here | apply Has.there)) rfl) rfl ?_))) | ((with_reducible refine Knd.fieldAddr ?_); ((refine Exec.stab rfl (Stab.fieldZ rfl (tysOk.get rfl) rfl rfl (tysOk.get rfl) rfl) rfl ?_))) | ((with_reducible refine Knd.len ?_); ((refine Exec.stab rfl (Stab.len rfl (tysOk.get rfl) rfl) rfl ?_))) | ((with_reducible refine Knd.binOp ?_); ((refine Exec.stab rfl (Stab.int rfl rfl rfl) rfl ?_))))) | (with_reducible refine Tr.next ?_) | (with_reducible refine Tr.seq ?_) | (with_reducible refine Tr.region ?_) | (with_reducible refine Tr.nil ?_) | (with_reducible refine Tr.skip ?_) | (refine Tr.cond_bf rfl (by first | (with_reducible rfl) | (with_reducible assumption) | (with_reducible exact Bool.not_true) | (with_reducible exact Bool.not_false)) ?_) | (refine Tr.cond_f rfl (by first | (with_reducible assumption) | (with_reducible rfl) | (with_reducible exact (not_not_intro rfl)) | omega) ?_))
  ((refine Tr.step rfl ?_)); refine Exec.call0 rfl (rrecs_fn M A c d.sec h1 hok.2.2.2.1 hok.2.1) rfl ?_
  rintro _ M1 hm1 ⟨R, rc, rfl, hR⟩
  repeat (first | ((with_reducible refine Tr.step rfl ?_); (first | ((with_reducible refine Knd.move ?_); (refine Exec.stab rfl (Stab.move rfl) rfl ?_)) | ((with_reducible refine Knd.assign ?_); (refine Exec.stab rfl (Stab.assign rfl) rfl ?_)) | ((with_reducible refine Knd.load ?_); ((refine Exec.stab rfl (Stab.load rfl (tysOk.get rfl) rfl (by repeat (first | exact Has.here | apply Has.there)) rfl) rfl ?_))) | ((with_reducible refine Knd.fieldAddr ?_); ((refine Exec.stab rfl (Stab.fieldZ rfl (tysOk.get rfl) rfl rfl (tysOk.get rfl) rfl) rfl ?_))) | ((with_reducible refine Knd.len ?_); ((refine Exec.stab rfl (Stab.len rfl (tysOk.get rfl) rfl) rfl ?_))) | ((with_reducible refine Knd.store ?_); ((refine Exec.storeW rfl rfl (tysOk.get rfl) (by repeat (first | exact Upd.here | apply Upd.there)) rfl rfl (by repeat (first | exact AllOne.nil | refine AllOne.cons (by first | rfl | assumption) ?_)) ?_))) | ((with_reducible refine Knd.build ?_); ((refine Exec.stab rfl (Stab.build tysOk rfl rfl rfl rfl (by repeat (first | exact BuildP.nil | ((apply BuildP.one); (rfl); (rfl); (first | rfl | assumption); (repeat (first | exact SetL.z | apply SetL.s)))))) rfl ?_))))) | (with_reducible refine Tr.next ?_) | (with_reducible refine Tr.seq ?_) | (with_reducible refine Tr.region ?_) | (with_reducible refine Tr.nil ?_) | (with_reducible refine Tr.ret ?_))
  (refine Tr.done (by first | exact .inl rfl | exact .inr rfl) rfl (by repeat (first | exact RVs.nil | (apply RVs.cons; (first | exact RV.tmp rfl | exact RV.cellW (by rfl) (tysOk.get (by rfl)) (by rfl) (by repeat (first | exact Has.here | apply Has.there)) (by first | rfl | assumption))))) (by first | exact Mem.le.refl _ | assumption) (by exact ⟨[_, _], rfl⟩) ⟨rfl, ?_⟩)
  rw [openF, if_pos hi]
  exact ⟨_, rfl, R, rc, rfl, hR⟩
end Go.Proofs.Ytkbggengagockaa
/-
  The journal: the sector that a piece of a record leads to.
  Conditions: none.
-/
namespace Go.Proofs.Ytkbggengagockaa
open Go Bf
theorem slK (b m k : Nat) (h : ¬ m = k) : (if m = k then some (⟨b, 0, none⟩ : Addr) else Option.map (fun x : Addr => x.add (k * 1)) (some (⟨b, 0, none⟩ : Addr))) = some ⟨b, k, none⟩ := by
  rw [if_neg h, Option.map_some, Addr.add_lit, Nat.zero_add, Nat.mul_one]
attribute [local irreducible] Tr Exec Stab HasTy Go.Addr.add IntKind.wrap
/-- a number as four bytes -/
def be4 (n : Nat) : List UInt8 := [UInt8.ofNat (n / 16777216), UInt8.ofNat (n / 65536), UInt8.ofNat (n / 256), UInt8.ofNat n]
theorem be4_length (n : Nat) : (be4 n).length = 4 := rfl
theorem be_be4 {n : Nat} (h : n < 4294967296) : be (be4 n) = n := by
  rw [be4, be_four]
  simp only [UInt8.toNat_ofNat']
  omega
set_option maxHeartbeats 1000000 in
theorem write4_fn (M : Mem) (n : Nat) (h : n < 4294967296) :
    Fn0 Try.prog 67 [.int .i64 (n : Int)] M (fun r M' => r = .agg (byteV (be4 n)).toArray ∧ M = M') := by
  refine Fn.intro Try.func67 rfl rfl Try.ntmps67 rfl fun E F => ?_
  repeat (first | ((with_reducible refine Tr.step rfl ?_); (first | ((with_reducible refine Knd.move ?_); (refine Exec.stab rfl (Stab.move rfl) rfl ?_)) | ((with_reducible refine Knd.binOp ?_); (first | (refine Exec.stab rfl (Stab.shrc 8 (p := 256) rfl rfl rfl rfl) rfl ?_) | (refine Exec.stab rfl (Stab.shrc 16 (p := 65536) rfl rfl rfl rfl) rfl ?_) | (refine Exec.stab rfl (Stab.shrc 24 (p := 16777216) rfl rfl rfl rfl) rfl ?_))) | ((with_reducible refine Knd.store ?_); ((refine Exec.storeW rfl rfl (tysOk.get rfl) (by repeat (first | exact Upd.here | apply Upd.there)) rfl rfl (by repeat (first | exact AllOne.nil | refine AllOne.cons (by first | rfl | assumption) ?_)) ?_))) | ((with_reducible refine Knd.alloc ?_); (first | (refine Exec.alloc (tysOk.get rfl) rfl rfl (fun b => ?_)) | (refine Exec.alloc1 (tysOk.get rfl) rfl rfl rfl (fun b => ?_)))) | ((with_reducible refine Knd.convert ?_); ((refine Exec.stab rfl (Stab.lowb rfl (tysOk.get rfl) (tysOk.get rfl) rfl rfl) rfl ?_))) | ((with_reducible refine Knd.build ?_); ((refine Exec.stab rfl (Stab.buildA (tysOk.get rfl) rfl (tysOk.get rfl) rfl rfl (by repeat (first | exact BuildP.nil | ((apply BuildP.one); (rfl); (rfl); (first | rfl | assumption); (repeat (first | exact SetL.z | apply SetL.s)))))) rfl ?_))))) | (with_reducible refine Tr.next ?_) | (with_reducible refine Tr.seq ?_) | (with_reducible refine Tr.region ?_) | (with_reducible refine Tr.nil ?_) | (with_reducible refine Tr.ret ?_))
  (refine Tr.done (by first | exact .inl rfl | exact .inr rfl) rfl (by repeat (first | exact RVs.nil | (apply RVs.cons; (exact RV.cellW (by rfl) (tysOk.get (by rfl)) (by rfl) (by repeat (first | exact Has.here | apply Has.there)) (by first | rfl | assumption))))) (by first | exact Mem.le.refl _ | assumption) (by exact ⟨[_], rfl⟩) ⟨rfl, ?_⟩)
  exact ⟨rfl, rfl⟩

/-- the bytes of a sector that the checksum is of -/
def bodyF (n : Nat) (f : UInt8) (b : List UInt8) : List UInt8 := [UInt8.ofNat (n / 256), UInt8.ofNat n, f, UInt8.ofNat b.length] ++ b ++ List.replicate (112 - b.length) 0
def bF (g n : Nat) (f : UInt8) (b : List UInt8) : List UInt8 := be4 g ++ be4 (crc (bodyF n f b)).toNat ++ bodyF n f b ++ be4 g
theorem bodyF_length {n : Nat} {f : UInt8} {b : List UInt8} (h : b.length ≤ 112) : (bodyF n f b).length = 116 := by
  simp only [bodyF, List.length_append, List.length_replicate, List.length_cons, List.length_nil]; omega
theorem bF_length {g n : Nat} {f : UInt8} {b : List UInt8} (h : b.length ≤ 112) : (bF g n f b).length = 128 := by
  simp only [bF, List.length_append, be4_length, bodyF_length h]
theorem byteV_patch (S q : List UInt8) (o : Nat) : (byteV S).take o ++ byteV q ++ (byteV S).drop (o + (byteV q).length) = byteV (S.take o ++ q ++ S.drop (o + q.length)) := by
  simp [byteV, List.map_take, List.map_drop]
def sec0 (n : Nat) (f : UInt8) (p : List UInt8) : List UInt8 := List.replicate 8 0 ++ [UInt8.ofNat (n / 256), UInt8.ofNat n, f, UInt8.ofNat p.length] ++ List.replicate 116 0
def sec1 (n : Nat) (f : UInt8) (p : List UInt8) : List UInt8 := List.replicate 8 0 ++ bodyF n f p ++ List.replicate 4 0
theorem sec_patch0 (n : Nat) (f : UInt8) (p : List UInt8) (hl : p.length ≤ 112) : (sec0 n f p).take 12 ++ p ++ (sec0 n f p).drop (12 + p.length) = sec1 n f p := by
  have e1 : (sec0 n f p).take 12 = List.replicate 8 0 ++ [UInt8.ofNat (n / 256), UInt8.ofNat n, f, UInt8.ofNat p.length] := rfl
  have e2 : (sec0 n f p).drop 12 = List.replicate 116 0 := rfl
  have e3 : (sec0 n f p).drop (12 + p.length) = List.replicate (116 - p.length) 0 := by
    rw [← List.drop_drop, e2, List.drop_replicate]
  have e4 : List.replicate (116 - p.length) (0 : UInt8) = List.replicate (112 - p.length) 0 ++ List.replicate 4 0 := by
    rw [List.replicate_append_replicate]; congr 1; omega
  rw [e1, e3, e4, sec1, bodyF]
  simp only [List.append_assoc]
def sec2 (g n : Nat) (f : UInt8) (p : List UInt8) : List UInt8 := be4 g ++ List.replicate 4 0 ++ bodyF n f p ++ List.replicate 4 0
def sec3 (g n : Nat) (f : UInt8) (p : List UInt8) : List UInt8 := be4 g ++ be4 (crc (bodyF n f p)).toNat ++ bodyF n f p ++ List.replicate 4 0
theorem sec_patch1 (g n : Nat) (f : UInt8) (p : List UInt8) : (sec1 n f p).take 0 ++ be4 g ++ (sec1 n f p).drop (0 + 4) = sec2 g n f p := rfl
theorem sec_patch2 (g n : Nat) (f : UInt8) (p : List UInt8) : (sec2 g n f p).take 4 ++ be4 (crc (bodyF n f p)).toNat ++ (sec2 g n f p).drop (4 + 4) = sec3 g n f p := rfl
theorem sec_patch3 (g n : Nat) (f : UInt8) (p : List UInt8) (hl : p.length ≤ 112) : (sec3 g n f p).take 124 ++ be4 g ++ (sec3 g n f p).drop (124 + 4) = bF g n f p := by
  have h : (be4 g ++ be4 (crc (bodyF n f p)).toNat ++ bodyF n f p).length = 124 := by
    simp only [List.length_append, be4_length, bodyF_length hl]
  have h2 : (sec3 g n f p).drop (124 + 4) = [] := by
    apply List.drop_eq_nil_of_le
    simp only [sec3, List.length_append, be4_length, bodyF_length hl, List.length_replicate]
    omega
  rw [h2, sec3, List.take_left' h, bF, List.append_nil]
theorem sec1_body (n : Nat) (f : UInt8) (p : List UInt8) (hl : p.length ≤ 112) : ((sec1 n f p).drop 8).take (124 - 8) = bodyF n f p := by
  have e : (sec1 n f p).drop 8 = bodyF n f p ++ List.replicate 4 0 := rfl
  rw [e, List.take_left' (bodyF_length hl)]
theorem sec1_length (n : Nat) (f : UInt8) (p : List UInt8) (hl : p.length ≤ 112) : (sec1 n f p).length = 128 := by
  simp only [sec1, List.length_append, List.length_replicate, bodyF_length hl]
theorem patchV (S q S' : List UInt8) (o : Nat) (h : S.take o ++ q ++ S.drop (o + q.length) = S') : (byteV S).take o ++ byteV q ++ (byteV S).drop (o + (byteV q).length) = byteV S' := by
  rw [byteV_patch, h]
theorem checksum_lend (M : Mem) (b : Nat) (S : List UInt8) (hS : S.length = 128) : Bf.Fn Try.prog 65 [.slice (some ⟨b, 8, none⟩) 116 120] M [box b 5 (byteV S)]
    (fun v M' A' => A' = [box b 5 (byteV S)] ∧ M = M' ∧ v = .int .u32 ((crc ((S.drop 8).take 116)).toNat : Int)) :=
  Fn.lend (checksum_fn M none 0 0 [] (BSl.nil M)).1 fun M' hm hok => by
    have h := BSl.ofBox (hok _ List.mem_cons_self) (by omega)
    have h2 := h.sub (l := 8) (k := 124) (m := 128) (by omega) (by omega) (by omega) (by omega)
    rw [slK b 128 8 (by decide)] at h2
    exact checksum_fn M' (some ⟨b, 8, none⟩) 116 120 _ h2
set_option maxHeartbeats 4000000 in
theorem build_fn (M : Mem) (g n : Nat) (f : UInt8) (mm : Int) (A : Option Addr) (c : Nat) (p : List UInt8) (hb : BSl M (.slice A p.length c) p) (hl : p.length ≤ 112) (hg : g < 4294967296) (hn : n < 65536) :
    Fn0 Try.prog 62 [.agg #[.int .i64 (g : Int), .int .i64 (n : Int), .int .u8 (f.toNat : Int), .int .i64 mm], .slice A p.length c] M (fun r M' => ∃ A' c', r = .slice A' 128 c' ∧ BSl M' (.slice A' 128 c') (bF g n f p)) := by
  obtain ⟨h1, h2, h3, h4⟩ := hb.cap
  have lc := (crc (bodyF n f p)).toNat_lt
  refine Fn.intro Try.func62 rfl rfl Try.ntmps62 rfl fun E F => ?_
  repeat (first | ((with_reducible refine Tr.step rfl ?_); (first | ((with_reducible refine Knd.assign ?_); (refine Exec.stab rfl (Stab.assign rfl) rfl ?_)) | ((with_reducible refine Knd.box ?_); (first | (refine Exec.box rfl rfl (fun b => ?_)) | (refine Exec.box1 rfl (by first | rfl | assumption) rfl (fun b => ?_)))) | ((with_reducible refine Knd.makeSlice ?_); (refine Exec.make rfl rfl (tysOk.get rfl) rfl (tysOk.get rfl) rfl rfl rfl (by omega) (by omega) (by first | omega | (simp; done) | (simp; omega)) (by omega) rfl (fun b => ?_))))) | (with_reducible refine Tr.next ?_) | (with_reducible refine Tr.seq ?_) | (with_reducible refine Tr.region ?_) | (with_reducible refine Tr.nil ?_))
  (((apply Tr.draw ((box _ 84 _ :: _))); (kernel_rfl)); (refine TrA.take 0 (by kernel_rfl) rfl (by kernel_rfl) (by first | exact fun _ _ _ h => h | exact fun _ _ _ h => nomatch h.1) (by exact (Sub.mem (by repeat (first | exact Sub.refl | apply Sub.cons)))) rfl (by first | exact Stab.move rfl) rfl rfl ?_); (refine TrA.take 1 (by kernel_rfl) rfl (by kernel_rfl) (by first | exact fun _ _ _ h => h | exact fun _ _ _ h => nomatch h.1) (by exact (Sub.mem (by repeat (first | exact Sub.refl | apply Sub.cons)))) rfl (by first | exact Stab.move rfl) rfl rfl ?_); (refine TrA.take 2 (by kernel_rfl) rfl (by kernel_rfl) (by first | exact fun _ _ _ h => h | exact fun _ _ _ h => nomatch h.1) (by exact (Sub.mem (by repeat (first | exact Sub.refl | apply Sub.cons)))) rfl (by exact Stab.fieldZ rfl (tysOk.get rfl) rfl rfl (tysOk.get rfl) rfl) rfl rfl ?_); (refine TrA.take 6 (by kernel_rfl) rfl (by kernel_rfl) (by first | exact fun _ _ _ h => h | exact fun _ _ _ h => nomatch h.1) (by exact (Sub.mem (by repeat (first | exact Sub.refl | apply Sub.cons)))) rfl (by exact Stab.fieldZ rfl (tysOk.get rfl) rfl rfl (tysOk.get rfl) rfl) rfl rfl ?_); (refine TrA.take 3 (by kernel_rfl) rfl (by kernel_rfl) (by first | exact fun _ _ _ h => h | exact fun _ _ _ h => nomatch h.1) (by exact (Sub.mem (by repeat (first | exact Sub.refl | apply Sub.cons)))) rfl (by exact Stab.load rfl (tysOk.get rfl) rfl (by repeat (first | exact Has.here | apply Has.there)) rfl) rfl rfl ?_); (refine TrA.take 7 (by kernel_rfl) rfl (by kernel_rfl) (by first | exact fun _ _ _ h => h | exact fun _ _ _ h => nomatch h.1) (by exact (Sub.mem (by repeat (first | exact Sub.refl | apply Sub.cons)))) rfl (by exact Stab.load rfl (tysOk.get rfl) rfl (by repeat (first | exact Has.here | apply Has.there)) rfl) rfl rfl ?_); (refine TrA.take 4 (by kernel_rfl) rfl (by kernel_rfl) (by first | exact fun _ _ _ h => h | exact fun _ _ _ h => nomatch h.1) (by exact (Sub.mem (by repeat (first | exact Sub.refl | apply Sub.cons)))) rfl (by exact Stab.shrc 8 (p := 256) rfl rfl rfl rfl) rfl rfl ?_); (refine TrA.take 8 (by kernel_rfl) rfl (by kernel_rfl) (by first | exact fun _ _ _ h => h | exact fun _ _ _ h => nomatch h.1) (by exact (Sub.mem (by repeat (first | exact Sub.refl | apply Sub.cons)))) rfl (by exact Stab.lowb rfl (tysOk.get rfl) (tysOk.get rfl) rfl rfl) rfl rfl ?_); (refine TrA.take 5 (by kernel_rfl) rfl (by kernel_rfl) (by first | exact fun _ _ _ h => h | exact fun _ _ _ h => nomatch h.1) (by exact (Sub.mem (by repeat (first | exact Sub.refl | apply Sub.cons)))) rfl (by exact Stab.lowb rfl (tysOk.get rfl) (tysOk.get rfl) rfl rfl) rfl rfl ?_); (refine TrA.take 9 (by kernel_rfl) rfl (by kernel_rfl) (by first | exact fun _ _ _ h => h | exact fun _ _ _ h => nomatch h.1) (by exact (Sub.mem (by repeat (first | exact Sub.refl | apply Sub.cons)))) rfl (by exact Stab.indexB0 rfl rfl (tysOk.get rfl) rfl (tysOk.get rfl) rfl (by omega) (by omega)) rfl rfl ?_); (refine TrA.eff 10 rfl (by kernel_rfl) (by first | exact .inl rfl | exact .inr ⟨_, _, _, rfl, rfl, rfl⟩) ?_); (((refine Knd.store ?_); ((refine Exec.store rfl rfl (tysOk.get rfl) rfl (by first | rfl | assumption) (by repeat (first | exact Upd.here | apply Upd.there)) (by repeat (first | exact SetL.z | apply SetL.s)) ?_)))); (refine ⟨(by first | exact Mem.le.refl _ | assumption), (by exact (Sub.mem (by repeat (first | exact Sub.refl | apply Sub.cons)))), ?_⟩); (refine TrA.take 11 (by kernel_rfl) rfl (by kernel_rfl) (by first | exact fun _ _ _ h => h | exact fun _ _ _ h => nomatch h.1) (by exact (Sub.mem (by repeat (first | exact Sub.refl | apply Sub.cons)))) rfl (by exact Stab.indexB0 rfl rfl (tysOk.get rfl) rfl (tysOk.get rfl) rfl (by omega) (by omega)) rfl rfl ?_); (refine TrA.eff 12 rfl (by kernel_rfl) (by first | exact .inl rfl | exact .inr ⟨_, _, _, rfl, rfl, rfl⟩) ?_); (((refine Knd.store ?_); ((refine Exec.store rfl rfl (tysOk.get rfl) rfl (by first | rfl | assumption) (by repeat (first | exact Upd.here | apply Upd.there)) (by repeat (first | exact SetL.z | apply SetL.s)) ?_)))); (refine ⟨(by first | exact Mem.le.refl _ | assumption), (by exact (Sub.mem (by repeat (first | exact Sub.refl | apply Sub.cons)))), ?_⟩); (refine TrA.done (by kernel_rfl) ?_))
  repeat (first | ((with_reducible refine Tr.step rfl ?_); (first | ((with_reducible refine Knd.move ?_); (refine Exec.stab rfl (Stab.move rfl) rfl ?_)) | ((with_reducible refine Knd.load ?_); ((refine Exec.stab rfl (Stab.load rfl (tysOk.get rfl) rfl (by repeat (first | exact Has.here | apply Has.there)) rfl) rfl ?_))) | ((with_reducible refine Knd.fieldAddr ?_); ((refine Exec.stab rfl (Stab.fieldZ rfl (tysOk.get rfl) rfl rfl (tysOk.get rfl) rfl) rfl ?_))) | ((with_reducible refine Knd.len ?_); ((refine Exec.stab rfl (Stab.len rfl (tysOk.get rfl) rfl) rfl ?_))) | ((with_reducible refine Knd.store ?_); ((refine Exec.store rfl rfl (tysOk.get rfl) rfl (by first | rfl | assumption) (by repeat (first | exact Upd.here | apply Upd.there)) (by repeat (first | exact SetL.z | apply SetL.s)) ?_))) | ((with_reducible refine Knd.indexAddr ?_); ((refine Exec.stab rfl (Stab.indexB0 rfl rfl (tysOk.get rfl) rfl (tysOk.get rfl) rfl (by omega) (by omega)) rfl ?_))) | ((with_reducible refine Knd.convert ?_); ((refine Exec.stab rfl (Stab.lowb rfl (tysOk.get rfl) (tysOk.get rfl) rfl rfl) rfl ?_))) | ((with_reducible refine Knd.slice ?_); ((refine Exec.stab rfl (Stab.slice_l rfl rfl (tysOk.get rfl) rfl (tysOk.get rfl) rfl (by omega) (by omega)) rfl ?_))))) | (with_reducible refine Tr.next ?_) | (with_reducible refine Tr.seq ?_) | (with_reducible refine Tr.region ?_) | (with_reducible refine Tr.nil ?_))
  generalize b = bs
  rw [slK bs (Int.toNat 128) (Int.toNat 12) (by decide)]
  refine Tr.cells (cs' := byteV (sec0 n f p)) (by repeat (first | exact Upd.here | apply Upd.there)) rfl ?_
  ((refine Tr.step rfl ?_))
  refine Exec.copy (b := bs) (off := 12) (dn := 116) (dc := 116) (m := p.length) (cs := byteV (sec0 n f p)) (t0 := 5) (news := byteV p) rfl rfl (tysOk.get rfl) rfl (tysOk.get rfl) rfl (Src.row_min h4) (by rw [byteV_length]; omega) (byteV_one p) (by rw [byteV_length, show (sec0 n f p).length = 128 from rfl]; omega) (by repeat (first | exact Upd.here | apply Upd.there)) rfl ?_
  refine Tr.cells (cs' := byteV (sec1 n f p)) (by repeat (first | exact Upd.here | apply Upd.there)) (patchV _ _ _ _ (sec_patch0 n f p hl)) ?_
  repeat (first | (with_reducible refine Tr.next ?_) | (with_reducible refine Tr.seq ?_) | (with_reducible refine Tr.nil ?_))
  (((apply Tr.draw ((box _ 84 _ :: _))); (kernel_rfl)); (refine TrA.take 0 (by kernel_rfl) rfl (by kernel_rfl) (by first | exact fun _ _ _ h => h | exact fun _ _ _ h => nomatch h.1) (by exact (Sub.mem (by repeat (first | exact Sub.refl | apply Sub.cons)))) rfl (by exact Stab.fieldZ rfl (tysOk.get rfl) rfl rfl (tysOk.get rfl) rfl) rfl rfl ?_); (refine TrA.take 3 (by kernel_rfl) rfl (by kernel_rfl) (by first | exact fun _ _ _ h => h | exact fun _ _ _ h => nomatch h.1) (by exact (Sub.mem (by repeat (first | exact Sub.refl | apply Sub.cons)))) rfl (by first | exact Stab.move rfl) rfl rfl ?_); (refine TrA.take 1 (by kernel_rfl) rfl (by kernel_rfl) (by first | exact fun _ _ _ h => h | exact fun _ _ _ h => nomatch h.1) (by exact (Sub.mem (by repeat (first | exact Sub.refl | apply Sub.cons)))) rfl (by exact Stab.load rfl (tysOk.get rfl) rfl (by repeat (first | exact Has.here | apply Has.there)) rfl) rfl rfl ?_); (refine TrA.take 4 (by kernel_rfl) rfl (by kernel_rfl) (by first | exact fun _ _ _ h => h | exact fun _ _ _ h => nomatch h.1) (by exact (Sub.mem (by repeat (first | exact Sub.refl | apply Sub.cons)))) rfl (by exact Stab.slice_lh rfl rfl rfl (tysOk.get rfl) rfl (tysOk.get rfl) rfl (by omega) (by omega) (by omega)) rfl rfl ?_))
  rw [slK bs (Int.toNat 128) (Int.toNat 8) (by decide)]
  ((refine TrM.start2 _ (by first | exact PA.alloc 8 rfl (tysOk.get rfl) rfl rfl | exact PA.alloc1 8 rfl (tysOk.get rfl) rfl rfl rfl) (by first | exact PA.alloc 9 rfl (tysOk.get rfl) rfl rfl | exact PA.alloc1 9 rfl (tysOk.get rfl) rfl rfl rfl) (by kernel_rfl) (by kernel_rfl) (by kernel_rfl) ?_); (refine TrM.eff 2 rfl (by kernel_rfl) (by first | exact .inl rfl | exact .inr ⟨_, _, _, rfl, rfl, rfl⟩) (by repeat (first | exact PendOk.nil | refine PendOk.cons rfl (by repeat (first | exact SubFr.nil | refine SubFr.cons rfl ?_)) ?_)) (by exact (Sub.mem (by repeat (first | exact Sub.refl | apply Sub.cons)))) (by repeat (first | apply AppF.cons | exact AppF.nil | exact AppF.app)) (by repeat (first | apply AppF.cons | exact AppF.nil | exact AppF.app)) (fun Y X => ?_)))
  refine Exec.call0 rfl (write4_fn M g hg) rfl ?_
  rintro _ _ _ ⟨rfl, rfl⟩
  (refine ⟨_, _, (by repeat (first | apply App.cons | exact App.nil | exact App.app)), (by repeat (first | apply App.cons | exact App.nil | exact App.app)), rfl, (by first | exact Mem.le.refl _ | assumption), (by exact (Sub.mem (by repeat (first | exact Sub.refl | apply Sub.cons)))), ?_⟩)
  ((refine TrM.eff 5 rfl (by kernel_rfl) (by first | exact .inl rfl | exact .inr ⟨_, _, _, rfl, rfl, rfl⟩) (by repeat (first | exact PendOk.nil | refine PendOk.cons rfl (by repeat (first | exact SubFr.nil | refine SubFr.cons rfl ?_)) ?_)) (by exact (Sub.mem (by repeat (first | exact Sub.refl | apply Sub.cons)))) (by repeat (first | apply AppF.cons | exact AppF.nil | exact AppF.app)) (by repeat (first | apply AppF.cons | exact AppF.nil | exact AppF.app)) (fun Y X => ?_)))
  refine Exec.call (A := [box bs 5 (byteV (sec1 n f p))]) rfl (checksum_lend M bs _ (sec1_length n f p hl)) (List.Perm.refl _) rfl ?_
  rintro _ _ _ - ⟨rfl, rfl, rfl⟩
  (refine ⟨_, _, (by repeat (first | apply App.cons | exact App.nil | exact App.app)), (by repeat (first | apply App.cons | exact App.nil | exact App.app)), rfl, (by first | exact Mem.le.refl _ | assumption), (by exact (Sub.mem (by repeat (first | exact Sub.refl | apply Sub.cons)))), ?_⟩)
  rw [sec1_body n f p hl]
  ((refine TrM.take 6 (by kernel_rfl) rfl (by kernel_rfl) (by first | exact fun _ _ _ h => h | exact fun _ _ _ h => nomatch h.1) (by exact (Sub.mem (by repeat (first | exact Sub.refl | apply Sub.cons)))) rfl (by exact Stab.convi rfl (tysOk.get rfl) (tysOk.get rfl) rfl rfl (by omega)) rfl rfl ?_); (refine TrM.eff 7 rfl (by kernel_rfl) (by first | exact .inl rfl | exact .inr ⟨_, _, _, rfl, rfl, rfl⟩) (by repeat (first | exact PendOk.nil | refine PendOk.cons rfl (by repeat (first | exact SubFr.nil | refine SubFr.cons rfl ?_)) ?_)) (by exact (Sub.mem (by repeat (first | exact Sub.refl | apply Sub.cons)))) (by repeat (first | apply AppF.cons | exact AppF.nil | exact AppF.app)) (by repeat (first | apply AppF.cons | exact AppF.nil | exact AppF.app)) (fun Y X => ?_)))
  refine Exec.call0 rfl (write4_fn M _ lc) rfl ?_
  rintro _ _ _ ⟨rfl, rfl⟩
  (refine ⟨_, _, (by repeat (first | apply App.cons | exact App.nil | exact App.app)), (by repeat (first | apply App.cons | exact App.nil | exact App.app)), rfl, (by first | exact Mem.le.refl _ | assumption), (by exact (Sub.mem (by repeat (first | exact Sub.refl | apply Sub.cons)))), ?_⟩)
  ((refine TrM.land2 (by kernel_rfl) (by repeat (first | exact PendOk.nil | refine PendOk.cons rfl (by repeat (first | exact SubFr.nil | refine SubFr.cons rfl ?_)) ?_)) (by exact (Sub.mem (by repeat (first | exact Sub.refl | apply Sub.cons)))) ?_))
  intro q1 q2
  dsimp only
  ((refine TrA.eff 10 rfl (by kernel_rfl) (by first | exact .inl rfl | exact .inr ⟨_, _, _, rfl, rfl, rfl⟩) ?_); (((refine Knd.store ?_); ((refine Exec.storeW rfl rfl (tysOk.get rfl) (by repeat (first | exact Upd.here | apply Upd.there)) rfl rfl (by repeat (first | exact AllOne.nil | refine AllOne.cons (by first | rfl | assumption) ?_)) ?_)))); (refine ⟨(by first | exact Mem.le.refl _ | assumption), (by exact (Sub.mem (by repeat (first | exact Sub.refl | apply Sub.cons)))), ?_⟩); (refine TrA.eff 11 rfl (by kernel_rfl) (by first | exact .inl rfl | exact .inr ⟨_, _, _, rfl, rfl, rfl⟩) ?_); (((refine Knd.store ?_); ((refine Exec.storeW rfl rfl (tysOk.get rfl) (by repeat (first | exact Upd.here | apply Upd.there)) rfl rfl (by repeat (first | exact AllOne.nil | refine AllOne.cons (by first | rfl | assumption) ?_)) ?_)))); (refine ⟨(by first | exact Mem.le.refl _ | assumption), (by exact (Sub.mem (by repeat (first | exact Sub.refl | apply Sub.cons)))), ?_⟩); (refine TrA.done (by kernel_rfl) ?_))
  repeat (first | ((with_reducible refine Tr.step rfl ?_); (first | ((with_reducible refine Knd.move ?_); (refine Exec.stab rfl (Stab.move rfl) rfl ?_)) | ((with_reducible refine Knd.slice ?_); ((refine Exec.stab rfl (Stab.sliceArr rfl (tysOk.get rfl) rfl (tysOk.get rfl) rfl) rfl ?_))))) | (with_reducible refine Tr.next ?_) | (with_reducible refine Tr.seq ?_) | (with_reducible refine Tr.region ?_))
  ((refine Tr.step rfl ?_))
  refine Exec.copy (b := bs) (off := 0) (dn := 128) (dc := 128) (m := 4) (cs := byteV (sec1 n f p)) (t0 := 5) (news := byteV (be4 g)) rfl rfl (tysOk.get rfl) rfl (tysOk.get rfl) rfl (Src.box (by repeat (first | exact Has.here | apply Has.there))) rfl (byteV_one _) (by simp [sec1_length n f p hl]) (by repeat (first | exact Upd.here | apply Upd.there)) rfl ?_
  refine Tr.cells (cs' := byteV (sec2 g n f p)) (by repeat (first | exact Upd.here | apply Upd.there)) (patchV _ _ _ _ (sec_patch1 g n f p)) ?_
  repeat (first | (with_reducible refine Tr.next ?_) | (with_reducible refine Tr.seq ?_) | (with_reducible refine Tr.nil ?_))
  (((apply Tr.draw ((box _ 84 _ :: _))); (kernel_rfl)); (refine TrA.take 0 (by kernel_rfl) rfl (by kernel_rfl) (by first | exact fun _ _ _ h => h | exact fun _ _ _ h => nomatch h.1) (by exact (Sub.mem (by repeat (first | exact Sub.refl | apply Sub.cons)))) rfl (by first | exact Stab.move rfl) rfl rfl ?_); (refine TrA.take 2 (by kernel_rfl) rfl (by kernel_rfl) (by first | exact fun _ _ _ h => h | exact fun _ _ _ h => nomatch h.1) (by exact (Sub.mem (by repeat (first | exact Sub.refl | apply Sub.cons)))) rfl (by exact Stab.sliceArr rfl (tysOk.get rfl) rfl (tysOk.get rfl) rfl) rfl rfl ?_); (refine TrA.take 1 (by kernel_rfl) rfl (by kernel_rfl) (by first | exact fun _ _ _ h => h | exact fun _ _ _ h => nomatch h.1) (by exact (Sub.mem (by repeat (first | exact Sub.refl | apply Sub.cons)))) rfl (by exact Stab.slice_l rfl rfl (tysOk.get rfl) rfl (tysOk.get rfl) rfl (by omega) (by omega)) rfl rfl ?_))
  rw [slK bs (Int.toNat 128) (Int.toNat 4) (by decide)]
  ((refine TrA.eff 3 rfl (by kernel_rfl) (by first | exact .inl rfl | exact .inr ⟨_, _, _, rfl, rfl, rfl⟩) ?_))
  refine Exec.copy (b := bs) (off := 4) (dn := 124) (dc := 124) (m := 4) (cs := byteV (sec2 g n f p)) (t0 := 5) (news := byteV (be4 (crc (bodyF n f p)).toNat)) rfl rfl (tysOk.get rfl) rfl (tysOk.get rfl) rfl (Src.box (by repeat (first | exact Has.here | apply Has.there))) rfl (byteV_one _) (by simp [sec2, bodyF_length hl, be4_length]) (by repeat (first | exact Upd.here | apply Upd.there)) rfl ?_
  refine ⟨Mem.le.refl _, (by exact (Sub.mem (by repeat (first | exact Sub.refl | apply Sub.cons)))), ?_⟩
  ((refine TrA.done (by kernel_rfl) ?_))
  refine Tr.cells (cs' := byteV (sec3 g n f p)) (by repeat (first | exact Upd.here | apply Upd.there)) (patchV _ _ _ _ (sec_patch2 g n f p)) ?_
  repeat (first | (with_reducible refine Tr.next ?_) | (with_reducible refine Tr.seq ?_))
  (((apply Tr.draw ((box _ 84 _ :: _))); (kernel_rfl)); (refine TrA.take 0 (by kernel_rfl) rfl (by kernel_rfl) (by first | exact fun _ _ _ h => h | exact fun _ _ _ h => nomatch h.1) (by exact (Sub.mem (by repeat (first | exact Sub.refl | apply Sub.cons)))) rfl (by first | exact Stab.move rfl) rfl rfl ?_); (refine TrA.take 2 (by kernel_rfl) rfl (by kernel_rfl) (by first | exact fun _ _ _ h => h | exact fun _ _ _ h => nomatch h.1) (by exact (Sub.mem (by repeat (first | exact Sub.refl | apply Sub.cons)))) rfl (by exact Stab.sliceArr rfl (tysOk.get rfl) rfl (tysOk.get rfl) rfl) rfl rfl ?_); (refine TrA.take 1 (by kernel_rfl) rfl (by kernel_rfl) (by first | exact fun _ _ _ h => h | exact fun _ _ _ h => nomatch h.1) (by exact (Sub.mem (by repeat (first | exact Sub.refl | apply Sub.cons)))) rfl (by exact Stab.slice_l rfl rfl (tysOk.get rfl) rfl (tysOk.get rfl) rfl (by omega) (by omega)) rfl rfl ?_))
  rw [slK bs (Int.toNat 128) (Int.toNat 124) (by decide)]
  ((refine TrA.eff 3 rfl (by kernel_rfl) (by first | exact .inl rfl | exact .inr ⟨_, _, _, rfl, rfl, rfl⟩) ?_))
  refine Exec.copy (b := bs) (off := 124) (dn := 4) (dc := 4) (m := 4) (cs := byteV (sec3 g n f p)) (t0 := 5) (news := byteV (be4 g)) rfl rfl (tysOk.get rfl) rfl (tysOk.get rfl) rfl (Src.box (by repeat (first | exact Has.here | apply Has.there))) rfl (byteV_one _) (by simp [sec3, bodyF_length hl, be4_length]) (by repeat (first | exact Upd.here | apply Upd.there)) rfl ?_
  refine ⟨Mem.le.refl _, (by exact (Sub.mem (by repeat (first | exact Sub.refl | apply Sub.cons)))), ?_⟩
  ((refine TrA.done (by kernel_rfl) ?_))
  refine Tr.cells (cs' := byteV (bF g n f p)) (by repeat (first | exact Upd.here | apply Upd.there)) (patchV _ _ _ _ (sec_patch3 g n f p hl)) ?_
  repeat (first | ((with_reducible refine Tr.step rfl ?_); (first | ((with_reducible refine Knd.move ?_); (refine Exec.stab rfl (Stab.move rfl) rfl ?_)) | ((with_reducible refine Knd.assign ?_); (refine Exec.stab rfl (Stab.assign rfl) rfl ?_)))) | (with_reducible refine Tr.next ?_) | (with_reducible refine Tr.seq ?_) | (with_reducible refine Tr.region ?_) | (with_reducible refine Tr.nil ?_) | (with_reducible refine Tr.ret ?_))
  refine Tr.publish (r := box bs 5 _) (by repeat (first | exact Del.here | apply Del.there)) (fun M' hm hok => ?_)
  have hf := BSl.ofBox hok (by rw [bF_length hl]; omega)
  rw [bF_length hl] at hf
  (refine Tr.done (by first | exact .inl rfl | exact .inr rfl) rfl (by repeat (first | exact RVs.nil | (apply RVs.cons; (exact RV.tmp rfl)))) (by first | exact Mem.le.refl _ | assumption) (by exact ⟨[_, _, _], rfl⟩) ⟨rfl, ?_⟩)
  exact ⟨_, _, rfl, hf⟩
end Go.Proofs.Ytkbggengagockaa
/-
  The disk: the contract of Write.
  Conditions: none.
-/
namespace Go.Proofs.Ytkbggengagockaa
open Go Bf
attribute [local irreducible] Tr Exec Stab HasTy Go.Addr.add IntKind.wrap
def wrF (d : Dsk) (at_ : Int) (b : List UInt8) : Dsk × Int :=
  if runs d ∧ 0 ≤ at_ ∧ at_ < d.sec.length then (if b.length ≤ 128 then (if d.pen.length < 4096 then ({ d with pen := d.pen ++ [(at_, pad b)] }, 0) else (zD, 2)) else (zD, 1)) else (zD, 440)

set_option maxHeartbeats 1000000 in
theorem write_fn (M : Mem) (v : Value) (d : Dsk) (at_ : Int) (A0 : Option Addr) (c0 : Nat) (bs : List UInt8) (h : RDisk M v d) (hb : BSl M (.slice A0 bs.length c0) bs) :
    Fn0 Try.prog 26 [v, .int .i64 at_, .slice A0 bs.length c0] M (fun r M' => RPair M' r (wrF d at_ bs)) := by
  have hD := h
  obtain ⟨A, c, B, k, rfl, h1, h2⟩ := h
  have hb' := hb.len_le
  refine Fn.intro Try.func26 rfl rfl Try.ntmps26 rfl fun E F => ?_
  repeat (first | ((with_reducible refine Tr.step rfl ?_); (first | ((with_reducible refine Knd.assign ?_); (refine Exec.stab rfl (Stab.assign rfl) rfl ?_)) | ((with_reducible refine Knd.load ?_); ((refine Exec.stab rfl (Stab.loadW rfl (tysOk.get rfl) rfl (by repeat (first | exact Has.here | apply Has.there)) rfl) rfl ?_))) | ((with_reducible refine Knd.box ?_); (first | (refine Exec.box rfl rfl (fun b => ?_)) | (refine Exec.box1 rfl (by first | rfl | assumption) rfl (fun b => ?_)))) | ((with_reducible refine Knd.alloc ?_); (first | (refine Exec.alloc (tysOk.get rfl) rfl rfl (fun b => ?_)) | (refine Exec.alloc1 (tysOk.get rfl) rfl rfl rfl (fun b => ?_)))))) | (with_reducible refine Tr.next ?_) | (with_reducible refine Tr.seq ?_) | (with_reducible refine Tr.region ?_) | (with_reducible refine Tr.nil ?_))
  by_cases hk : runs d
  · have hpen := hk.1.2.2.1
    ((refine Tr.step rfl ?_)); refine Exec.call0 rfl (running_y M _ d hD hk) rfl ?_
    rintro _ _ _ ⟨rfl, rfl⟩
    repeat (first | ((with_reducible refine Tr.step rfl ?_); (first | ((with_reducible refine Knd.move ?_); (refine Exec.stab rfl (Stab.move rfl) rfl ?_)) | ((with_reducible refine Knd.assign ?_); (refine Exec.stab rfl (Stab.assign rfl) rfl ?_)) | ((with_reducible refine Knd.load ?_); ((refine Exec.stab rfl (Stab.loadW rfl (tysOk.get rfl) rfl (by repeat (first | exact Has.here | apply Has.there)) rfl) rfl ?_))) | ((with_reducible refine Knd.binOp ?_); ((refine Exec.stab rfl (Stab.int rfl rfl rfl) rfl ?_))))) | (with_reducible refine Tr.next ?_) | (with_reducible refine Tr.seq ?_) | (with_reducible refine Tr.region ?_) | (with_reducible refine Tr.nil ?_) | (with_reducible refine Tr.skip ?_) | (refine Tr.cond_f rfl (by first | (with_reducible assumption) | (with_reducible rfl) | (with_reducible exact (not_not_intro rfl)) | omega) ?_))
    ((refine Tr.step rfl ?_)); refine Exec.call0 rfl (index_fn M _ d at_ hD) rfl ?_
    rintro _ _ _ ⟨rfl, rfl⟩
    by_cases hi : 0 ≤ at_ ∧ at_ < d.sec.length
    · by_cases hl : bs.length ≤ 128
      · by_cases hp : d.pen.length < 4096
        · obtain ⟨cells, -, g1, g2, g3, g4, g5⟩ := h2.cells
          repeat (first | ((with_reducible refine Tr.step rfl ?_); (first | ((with_reducible refine Knd.move ?_); (refine Exec.stab rfl (Stab.move rfl) rfl ?_)) | ((with_reducible refine Knd.load ?_); (first | (refine Exec.stab rfl (Stab.load rfl (tysOk.get rfl) rfl (by repeat (first | exact Has.here | apply Has.there)) rfl) rfl ?_) | (refine Exec.stab rfl (Stab.loadW rfl (tysOk.get rfl) rfl (by repeat (first | exact Has.here | apply Has.there)) rfl) rfl ?_))) | ((with_reducible refine Knd.fieldAddr ?_); ((refine Exec.stab rfl (Stab.fieldZ rfl (tysOk.get rfl) rfl rfl (tysOk.get rfl) rfl) rfl ?_))) | ((with_reducible refine Knd.len ?_); ((refine Exec.stab rfl (Stab.len rfl (tysOk.get rfl) rfl) rfl ?_))) | ((with_reducible refine Knd.binOp ?_); ((refine Exec.stab rfl (Stab.int rfl rfl rfl) rfl ?_))) | ((with_reducible refine Knd.unOp ?_); ((refine Exec.stab rfl (Stab.notd rfl) rfl ?_))) | ((with_reducible refine Knd.store ?_); ((refine Exec.storeW rfl rfl (tysOk.get rfl) (by repeat (first | exact Upd.here | apply Upd.there)) rfl rfl (by repeat (first | exact AllOne.nil | refine AllOne.cons (by first | rfl | assumption) ?_)) ?_))))) | (with_reducible refine Tr.next ?_) | (with_reducible refine Tr.seq ?_) | (with_reducible refine Tr.region ?_) | (with_reducible refine Tr.nil ?_) | (with_reducible refine Tr.skip ?_) | (refine Tr.cond_f rfl (by first | (with_reducible assumption) | (with_reducible rfl) | (with_reducible exact (not_not_intro rfl)) | omega) ?_))
          ((refine Tr.step rfl ?_)); refine Exec.call0 rfl (clip_fn M B d.pen.length k g1 g2) rfl ?_
          rintro _ _ _ ⟨rfl, rfl⟩
          repeat (((with_reducible refine Tr.step rfl ?_); (((with_reducible refine Knd.move ?_); (refine Exec.stab rfl (Stab.move rfl) rfl ?_)))))
          ((refine Tr.step rfl ?_)); refine Exec.call0 rfl (sector_fn M A0 c0 bs hb hl) rfl ?_
          rintro _ M1 hm1 ⟨A2, k2, rfl, hb2⟩
          repeat (((with_reducible refine Tr.step rfl ?_); (first | ((with_reducible refine Knd.build ?_); ((refine Exec.stab rfl (Stab.build tysOk rfl rfl rfl rfl (by repeat (first | exact BuildP.nil | ((apply BuildP.one); (rfl); (rfl); (first | rfl | assumption); (repeat (first | exact SetL.z | apply SetL.s)))))) rfl ?_))) | ((with_reducible refine Knd.buildSlice ?_); ((refine Exec.buildSlice (tysOk.get rfl) rfl (tysOk.get rfl) rfl rfl rfl rfl rfl (by repeat (first | exact BuildP.nil | ((apply BuildP.many); (rfl); (rfl); (rfl); (rfl); (repeat (first | exact PutL.nil | ((apply PutL.cons); (repeat (first | exact SetL.z | apply SetL.s)))))))) rfl (fun b => ?_)))))))
          ((refine Tr.step rfl ?_))
          refine Exec.appendGrow (xs := cells) (news := [.int .i64 at_, .slice A2 (pad bs).length k2]) rfl rfl (tysOk.get rfl) rfl (tysOk.get rfl) rfl rfl rfl rfl (by cases B with | none => exact .inr ⟨rfl, g3 rfl, g3 rfl⟩ | some a => exact .inl rfl) g4.len g4.one (Src.row (g4.mono hm1)) (by omega) (by omega) (Src.box (by repeat (first | exact Has.here | apply Has.there))) rfl (by intro u hu; simp at hu; rcases hu with rfl | rfl <;> rfl) (by omega) (by omega) rfl (fun A' c' hc' => ?_)
          repeat (first | ((with_reducible refine Tr.step rfl ?_); (first | ((with_reducible refine Knd.assign ?_); (refine Exec.stab rfl (Stab.assign rfl) rfl ?_)) | ((with_reducible refine Knd.load ?_); ((refine Exec.stab rfl (Stab.loadW rfl (tysOk.get rfl) rfl (by repeat (first | exact Has.here | apply Has.there)) rfl) rfl ?_))) | ((with_reducible refine Knd.fieldAddr ?_); ((refine Exec.stab rfl (Stab.fieldZ rfl (tysOk.get rfl) rfl rfl (tysOk.get rfl) rfl) rfl ?_))) | ((with_reducible refine Knd.store ?_); (first | (refine Exec.store rfl rfl (tysOk.get rfl) rfl (by first | rfl | assumption) (by repeat (first | exact Upd.here | apply Upd.there)) (by repeat (first | exact SetL.z | apply SetL.s)) ?_) | (refine Exec.storeW rfl rfl (tysOk.get rfl) (by repeat (first | exact Upd.here | apply Upd.there)) rfl rfl (by repeat (first | exact AllOne.nil | refine AllOne.cons (by first | rfl | assumption) ?_)) ?_))))) | (with_reducible refine Tr.next ?_) | (with_reducible refine Tr.seq ?_) | (with_reducible refine Tr.region ?_) | (with_reducible refine Tr.nil ?_) | (with_reducible refine Tr.ret ?_))
          refine Tr.publish (by repeat (first | exact Del.here | apply Del.there)) (fun M2 hm2 hok => ?_)
          have hm := hm1.trans hm2
          (refine Tr.done (by first | exact .inl rfl | exact .inr rfl) rfl (by repeat (first | exact RVs.nil | (apply RVs.cons; (first | exact RV.tmp rfl | exact RV.cellW (by rfl) (tysOk.get (by rfl)) (by rfl) (by repeat (first | exact Has.here | apply Has.there)) (by first | rfl | assumption))))) (by first | exact Mem.le.refl _ | assumption) (by exact ⟨[_, _, _], rfl⟩) ⟨rfl, ?_⟩)
          unfold wrF; rw [if_pos ⟨hk, hi⟩, if_pos hl, if_pos hp]
          have hE : Elems 2 RWr M2 (cells ++ [.int .i64 at_, .slice A2 (pad bs).length k2]) (d.pen ++ [(at_, pad bs)]) := (g5.mono RWr.mono hm).append (Elems.one rfl ⟨A2, k2, rfl, hb2.mono hm2⟩)
          have hs := SlOf.ofOwn hok (by simp) hc' hE
          have hA := h1.mono RSec.mono hm
          have hl : (d.pen ++ [(at_, pad bs)]).length = d.pen.length + 1 := by simp
          refine ⟨_, rfl, A, c, A', c', ?_, hA, hs⟩
          simp only [hl]
        · repeat (first | ((with_reducible refine Tr.step rfl ?_); (first | ((with_reducible refine Knd.move ?_); (refine Exec.stab rfl (Stab.move rfl) rfl ?_)) | ((with_reducible refine Knd.assign ?_); (refine Exec.stab rfl (Stab.assign rfl) rfl ?_)) | ((with_reducible refine Knd.load ?_); ((refine Exec.stab rfl (Stab.load rfl (tysOk.get rfl) rfl (by repeat (first | exact Has.here | apply Has.there)) rfl) rfl ?_))) | ((with_reducible refine Knd.fieldAddr ?_); ((refine Exec.stab rfl (Stab.fieldZ rfl (tysOk.get rfl) rfl rfl (tysOk.get rfl) rfl) rfl ?_))) | ((with_reducible refine Knd.len ?_); ((refine Exec.stab rfl (Stab.len rfl (tysOk.get rfl) rfl) rfl ?_))) | ((with_reducible refine Knd.binOp ?_); ((refine Exec.stab rfl (Stab.int rfl rfl rfl) rfl ?_))) | ((with_reducible refine Knd.unOp ?_); ((refine Exec.stab rfl (Stab.notd rfl) rfl ?_))) | ((with_reducible refine Knd.store ?_); ((refine Exec.storeW rfl rfl (tysOk.get rfl) (by repeat (first | exact Upd.here | apply Upd.there)) rfl rfl (by repeat (first | exact AllOne.nil | refine AllOne.cons (by first | rfl | assumption) ?_)) ?_))) | ((with_reducible refine Knd.build ?_); ((refine Exec.stab rfl (Stab.build tysOk rfl rfl rfl rfl (by repeat (exact BuildP.nil))) rfl ?_))))) | (with_reducible refine Tr.next ?_) | (with_reducible refine Tr.seq ?_) | (with_reducible refine Tr.region ?_) | (with_reducible refine Tr.nil ?_) | (with_reducible refine Tr.skip ?_) | (with_reducible refine Tr.ret ?_) | (with_reducible refine Tr.then_ret ?_) | (refine Tr.cond_t rfl (by first | (with_reducible assumption) | (with_reducible rfl) | (with_reducible exact (not_not_intro rfl)) | omega) ?_) | (refine Tr.cond_f rfl (by first | (with_reducible assumption) | (with_reducible rfl) | (with_reducible exact (not_not_intro rfl)) | omega) ?_))
          (refine Tr.done (by first | exact .inl rfl | exact .inr rfl) rfl (by repeat (first | exact RVs.nil | (apply RVs.cons; (first | exact RV.tmp rfl | exact RV.cellW (by rfl) (tysOk.get (by rfl)) (by rfl) (by repeat (first | exact Has.here | apply Has.there)) (by first | rfl | assumption))))) (by first | exact Mem.le.refl _ | assumption) (by exact ⟨[_, _], rfl⟩) ⟨rfl, ?_⟩)
          exact (by unfold wrF; rw [if_pos ⟨hk, hi⟩, if_pos hl, if_neg hp]; exact ⟨_, rfl, RDisk.zero M⟩)
      · repeat (first | ((with_reducible refine Tr.step rfl ?_); (first | ((with_reducible refine Knd.move ?_); (refine Exec.stab rfl (Stab.move rfl) rfl ?_)) | ((with_reducible refine Knd.assign ?_); (refine Exec.stab rfl (Stab.assign rfl) rfl ?_)) | ((with_reducible refine Knd.len ?_); ((refine Exec.stab rfl (Stab.len rfl (tysOk.get rfl) rfl) rfl ?_))) | ((with_reducible refine Knd.binOp ?_); ((refine Exec.stab rfl (Stab.int rfl rfl rfl) rfl ?_))) | ((with_reducible refine Knd.unOp ?_); ((refine Exec.stab rfl (Stab.notd rfl) rfl ?_))) | ((with_reducible refine Knd.store ?_); ((refine Exec.storeW rfl rfl (tysOk.get rfl) (by repeat (first | exact Upd.here | apply Upd.there)) rfl rfl (by repeat (first | exact AllOne.nil | refine AllOne.cons (by first | rfl | assumption) ?_)) ?_))) | ((with_reducible refine Knd.build ?_); ((refine Exec.stab rfl (Stab.build tysOk rfl rfl rfl rfl (by repeat (exact BuildP.nil))) rfl ?_))))) | (with_reducible refine Tr.next ?_) | (with_reducible refine Tr.seq ?_) | (with_reducible refine Tr.region ?_) | (with_reducible refine Tr.nil ?_) | (with_reducible refine Tr.skip ?_) | (with_reducible refine Tr.ret ?_) | (with_reducible refine Tr.then_ret ?_) | (refine Tr.cond_t rfl (by first | (with_reducible assumption) | (with_reducible rfl) | (with_reducible exact (not_not_intro rfl)) | omega) ?_) | (refine Tr.cond_f rfl (by first | (with_reducible assumption) | (with_reducible rfl) | (with_reducible exact (not_not_intro rfl)) | omega) ?_))
        (refine Tr.done (by first | exact .inl rfl | exact .inr rfl) rfl (by repeat (first | exact RVs.nil | (apply RVs.cons; (first | exact RV.tmp rfl | exact RV.cellW (by rfl) (tysOk.get (by rfl)) (by rfl) (by repeat (first | exact Has.here | apply Has.there)) (by first | rfl | assumption))))) (by first | exact Mem.le.refl _ | assumption) (by exact ⟨[_, _], rfl⟩) ⟨rfl, ?_⟩)
        exact (by unfold wrF; rw [if_pos ⟨hk, hi⟩, if_neg hl]; exact ⟨_, rfl, RDisk.zero M⟩)
    · repeat (first | ((with_reducible refine Tr.step rfl ?_); (first | ((with_reducible refine Knd.assign ?_); (refine Exec.stab rfl (Stab.assign rfl) rfl ?_)) | ((with_reducible refine Knd.unOp ?_); ((refine Exec.stab rfl (Stab.notd rfl) rfl ?_))) | ((with_reducible refine Knd.store ?_); ((refine Exec.storeW rfl rfl (tysOk.get rfl) (by repeat (first | exact Upd.here | apply Upd.there)) rfl rfl (by repeat (first | exact AllOne.nil | refine AllOne.cons (by first | rfl | assumption) ?_)) ?_))) | ((with_reducible refine Knd.build ?_); ((refine Exec.stab rfl (Stab.build tysOk rfl rfl rfl rfl (by repeat (exact BuildP.nil))) rfl ?_))))) | (with_reducible refine Tr.next ?_) | (with_reducible refine Tr.seq ?_) | (with_reducible refine Tr.region ?_) | (with_reducible refine Tr.nil ?_) | (with_reducible refine Tr.ret ?_) | (with_reducible refine Tr.then_ret ?_) | (refine Tr.cond_t rfl (by first | (with_reducible assumption) | (with_reducible rfl) | (with_reducible exact (not_not_intro rfl)) | omega) ?_))
      (refine Tr.done (by first | exact .inl rfl | exact .inr rfl) rfl (by repeat (first | exact RVs.nil | (apply RVs.cons; (first | exact RV.tmp rfl | exact RV.cellW (by rfl) (tysOk.get (by rfl)) (by rfl) (by repeat (first | exact Has.here | apply Has.there)) (by first | rfl | assumption))))) (by first | exact Mem.le.refl _ | assumption) (by exact ⟨[_, _], rfl⟩) ⟨rfl, ?_⟩)
      exact (by unfold wrF; rw [if_neg (fun h => hi h.2)]; exact ⟨_, rfl, RDisk.zero M⟩)
  · ((refine Tr.step rfl ?_)); refine Exec.call0 rfl (running_n M _ d hD hk) rfl ?_
    rintro _ _ _ ⟨rfl, rfl⟩
    repeat (first | ((with_reducible refine Tr.step rfl ?_); (first | ((with_reducible refine Knd.move ?_); (refine Exec.stab rfl (Stab.move rfl) rfl ?_)) | ((with_reducible refine Knd.assign ?_); (refine Exec.stab rfl (Stab.assign rfl) rfl ?_)) | ((with_reducible refine Knd.binOp ?_); ((refine Exec.stab rfl (Stab.int rfl rfl rfl) rfl ?_))) | ((with_reducible refine Knd.store ?_); ((refine Exec.storeW rfl rfl (tysOk.get rfl) (by repeat (first | exact Upd.here | apply Upd.there)) rfl rfl (by repeat (first | exact AllOne.nil | refine AllOne.cons (by first | rfl | assumption) ?_)) ?_))) | ((with_reducible refine Knd.build ?_); ((refine Exec.stab rfl (Stab.build tysOk rfl rfl rfl rfl (by repeat (exact BuildP.nil))) rfl ?_))))) | (with_reducible refine Tr.next ?_) | (with_reducible refine Tr.seq ?_) | (with_reducible refine Tr.region ?_) | (with_reducible refine Tr.nil ?_) | (with_reducible refine Tr.ret ?_) | (with_reducible refine Tr.then_ret ?_) | (refine Tr.cond_t rfl (by first | (with_reducible assumption) | (with_reducible rfl) | (with_reducible exact (not_not_intro rfl)) | omega) ?_))
    (refine Tr.done (by first | exact .inl rfl | exact .inr rfl) rfl (by repeat (first | exact RVs.nil | (apply RVs.cons; (first | exact RV.tmp rfl | exact RV.cellW (by rfl) (tysOk.get (by rfl)) (by rfl) (by repeat (first | exact Has.here | apply Has.there)) (by first | rfl | assumption))))) (by first | exact Mem.le.refl _ | assumption) (by exact ⟨[_, _], rfl⟩) ⟨rfl, ?_⟩)
    exact (by unfold wrF; rw [if_neg (fun h => hk h.1)]; exact ⟨_, rfl, RDisk.zero M⟩)
end Go.Proofs.Ytkbggengagockaa
/-
  The journal: writing a record to the disk.
  Conditions: none.
-/
namespace Go.Proofs.Ytkbggengagockaa
open Go Bf
attribute [local irreducible] Tr Exec Stab HasTy Go.Addr.add IntKind.wrap
/-- the flags of the i-th of n sectors -/
def flg (i n : Nat) : UInt8 := (if i = 0 then 1 else 0) ||| (if i + 1 = n then 2 else 0)
/-- the bytes of a record in its i-th sector -/
def piece (p : List UInt8) (i : Nat) : List UInt8 := (p.drop (112 * i)).take 112
/-- the i-th write of a record from the sector at on -/
def wr1 (g at_ : Nat) (p : List UInt8) (i : Nat) : Int × List UInt8 := (((at_ + i : Nat) : Int), bF g (at_ + i) (flg i (occ p.length)) (piece p i))
def wrs (g at_ : Nat) (p : List UInt8) : List (Int × List UInt8) := (List.range (occ p.length)).map (wr1 g at_ p)
theorem wrs_length (g at_ : Nat) (p : List UInt8) : (wrs g at_ p).length = occ p.length := by simp [wrs]
theorem wrs_get {g at_ : Nat} {p : List UInt8} {i : Nat} (h : i < occ p.length) : (wrs g at_ p)[i]? = some (wr1 g at_ p i) := by simp [wrs, h]
theorem wrs_take {g at_ : Nat} {p : List UInt8} {i : Nat} (h : i < occ p.length) : (wrs g at_ p).take (i + 1) = (wrs g at_ p).take i ++ [wr1 g at_ p i] := by
  rw [List.take_add_one, wrs_get h]; rfl
theorem piece_length (p : List UInt8) (i : Nat) : (piece p i).length = min 112 (p.length - 112 * i) := by simp [piece]
theorem piece_le (p : List UInt8) (i : Nat) : (piece p i).length ≤ 112 := by rw [piece_length]; omega
theorem occ_mul {n i : Nat} (h : i < occ n) : 112 * i ≤ n := by unfold occ at h; omega
/-- the disk with so many of the writes -/
def dAfter (d : Dsk) (ws : List (Int × List UInt8)) : Dsk := { d with pen := d.pen ++ ws }
theorem dAfter_runs {d : Dsk} {g at_ : Nat} {p : List UInt8} {i : Nat} (h : runs d) (ha : at_ + occ p.length ≤ d.sec.length) (hp : d.pen.length + occ p.length ≤ 4096) : runs (dAfter d ((wrs g at_ p).take i)) := by
  obtain ⟨⟨h1, h2, h3, h4, h5, h6, h7⟩, h8⟩ := h
  have hl := wrs_length g at_ p
  refine ⟨⟨h1, h2, ?_, h4, ?_, h6, h7⟩, h8⟩
  · show (d.pen ++ _).length ≤ 4096
    rw [List.length_append, List.length_take]
    omega
  · intro w hw
    rcases List.mem_append.1 hw with h | h
    · exact h5 w h
    · have := List.mem_of_mem_take h
      simp only [wrs, List.mem_map, List.mem_range] at this
      obtain ⟨j, hj, rfl⟩ := this
      refine ⟨?_, ?_, bF_length (piece_le _ _)⟩
      · simp only [wr1]; omega
      · simp only [wr1, dAfter]; omega
theorem RPair.openJ {M : Mem} {r : Value} {d : Dsk} {e : Int} (h : RPair M r (d, e)) : ∃ A c B k, r = .tuple #[.agg #[.slice A d.sec.length c, .slice B d.pen.length k, .int .i64 d.left, .bool d.stop], .int .i64 e] ∧ RDisk M (.agg #[.slice A d.sec.length c, .slice B d.pen.length k, .int .i64 d.left, .bool d.stop]) d := by
  obtain ⟨v, rfl, hv⟩ := h
  obtain ⟨A, c, B, k, rfl, h1, h2⟩ := hv
  exact ⟨A, c, B, k, rfl, A, c, B, k, rfl, h1, h2⟩
theorem wr_one {d : Dsk} {g at_ : Nat} {p : List UInt8} {i : Nat} (h : runs d) (ha : at_ + occ p.length ≤ d.sec.length) (hp : d.pen.length + occ p.length ≤ 4096) (hi : i < occ p.length) :
    wrF (dAfter d ((wrs g at_ p).take i)) (((at_ + i : Nat) : Int)) (bF g (at_ + i) (flg i (occ p.length)) (piece p i)) = (dAfter d ((wrs g at_ p).take (i + 1)), 0) := by
  have hr := dAfter_runs (g := g) (i := i) h ha hp
  have hbl : (bF g (at_ + i) (flg i (occ p.length)) (piece p i)).length = 128 := bF_length (piece_le _ _)
  have hpl : (dAfter d ((wrs g at_ p).take i)).pen.length = d.pen.length + i := by
    show (d.pen ++ _).length = _
    rw [List.length_append, List.length_take, wrs_length]
    omega
  unfold wrF
  rw [if_pos ⟨hr, by omega, by show _ < (d.sec.length : Int); omega⟩, if_pos (by omega), if_pos (by omega), wrs_take hi, pad_full hbl]
  simp only [dAfter, List.append_assoc]
  rfl

set_option maxHeartbeats 4000000 in
theorem put_fn (M : Mem) (v : Value) (d : Dsk) (at_ g : Nat) (A0 : Option Addr) (c0 : Nat) (p : List UInt8) (h : RDisk M v d) (hk : runs d) (hb : BSl M (.slice A0 p.length c0) p) (ha : at_ + occ p.length ≤ d.sec.length) (hp : d.pen.length + occ p.length ≤ 4096) (hg : g < 4294967296) :
    Fn0 Try.prog 45 [v, .int .i64 (at_ : Int), .int .i64 (g : Int), .slice A0 p.length c0] M
      (fun r M' => ∃ v', r = .tuple #[v', .int .i64 ((at_ + occ p.length : Nat) : Int), .int .i64 0] ∧ RDisk M' v' (dAfter d (wrs g at_ p))) := by
  obtain ⟨q1, q2, q3, q4, q5, q6, q7⟩ := id hk.1
  have hst : d.stop = false := hk.2
  obtain ⟨A, c, B, k, rfl, h1, h2⟩ := h
  have hbc := hb.cap
  have ho := occ_le p.length
  have hop := occ_pos p.length
  refine Fn.intro Try.func45 rfl rfl Try.ntmps45 rfl fun E F => ?_
  repeat (first | ((with_reducible refine Tr.step rfl ?_); (first | ((with_reducible refine Knd.move ?_); (refine Exec.stab rfl (Stab.move rfl) rfl ?_)) | ((with_reducible refine Knd.assign ?_); (refine Exec.stab rfl (Stab.assign rfl) rfl ?_)) | ((with_reducible refine Knd.len ?_); ((refine Exec.stab rfl (Stab.len rfl (tysOk.get rfl) rfl) rfl ?_))) | ((with_reducible refine Knd.box ?_); (first | (refine Exec.box rfl rfl (fun b => ?_)) | (refine Exec.box1 rfl (by first | rfl | assumption) rfl (fun b => ?_)))) | ((with_reducible refine Knd.alloc ?_); (first | (refine Exec.alloc (tysOk.get rfl) rfl rfl (fun b => ?_)) | (refine Exec.alloc1 (tysOk.get rfl) rfl rfl rfl (fun b => ?_)))))) | (with_reducible refine Tr.next ?_) | (with_reducible refine Tr.seq ?_) | (with_reducible refine Tr.region ?_) | (with_reducible refine Tr.nil ?_))
  ((refine Tr.step rfl ?_)); refine Exec.call0 rfl (occupies_fn M p.length (by omega)) rfl ?_
  rintro _ _ _ ⟨rfl, rfl⟩
  repeat (first | ((with_reducible refine Tr.step rfl ?_); (first | ((with_reducible refine Knd.move ?_); (refine Exec.stab rfl (Stab.move rfl) rfl ?_)) | ((with_reducible refine Knd.assign ?_); (refine Exec.stab rfl (Stab.assign rfl) rfl ?_)))) | (with_reducible refine Tr.next ?_) | (with_reducible refine Tr.seq ?_) | (with_reducible refine Tr.region ?_) | (with_reducible refine Tr.nil ?_) | (with_reducible refine Tr.block ?_))
  rename_i bd _
  generalize b = bx
  generalize hN : occ p.length = N at *
  refine Tr.loop (α := Nat × Mem × (Option Addr × Nat × Option Addr × Nat)) (fun y => ⟨71, [(19, .int .i64 y.1), (18, .int .i64 (N : Int)), (11, .int .i64 (N : Int)), (8, .pointer (some ⟨bx, 0, none⟩)), (4, .pointer (some ⟨bd, 0, none⟩)), (1, .int .i64 (at_ : Int)), (2, .int .i64 (g : Int)), (3, .slice A0 p.length c0)], [], y.2.1, box bx 25 [.slice none 0 0, .slice none 0 0, .int .i64 0, .bool false] :: box bd 25 [.slice y.2.2.1 d.sec.length y.2.2.2.1, .slice y.2.2.2.2.1 (d.pen ++ (wrs g at_ p).take y.1).length y.2.2.2.2.2, .int .i64 d.left, .bool d.stop] :: ([] ++ F)⟩)
    (fun y => y.1 ≤ N ∧ Mem.le M y.2.1 ∧ RDisk y.2.1 (.agg #[.slice y.2.2.1 d.sec.length y.2.2.2.1, .slice y.2.2.2.2.1 (d.pen ++ (wrs g at_ p).take y.1).length y.2.2.2.2.2, .int .i64 d.left, .bool d.stop]) (dAfter d ((wrs g at_ p).take y.1))) (fun y => N - y.1) (0, M, A, c, B, k) ⟨Nat.zero_le _, Mem.le.refl _, ?_⟩ ?_ (fun y hy => ?_)
  · simp only [List.take_zero, List.append_nil, dAfter]
    exact ⟨A, c, B, k, rfl, h1, h2⟩
  · simp only [List.take_zero, List.append_nil]
    exact (holds_sub (by repeat (first | exact SubFr.nil | refine SubFr.cons rfl ?_)) (by repeat (first | exact DropL.refl | apply DropL.skip)))
  obtain ⟨i, M1, A1, c1, B1, k1⟩ := y
  obtain ⟨hi, hm1, hD1⟩ := hy
  simp only at hi hm1 hD1
  dsimp only
  by_cases hlt : i < N
  rotate_left
  · have e : i = N := by omega
    subst e
    rw [show (wrs g at_ p).take i = wrs g at_ p from List.take_of_length_le (by rw [wrs_length]; omega)] at hD1 ⊢
    repeat (first | ((with_reducible refine Tr.step rfl ?_); (first | ((with_reducible refine Knd.move ?_); (refine Exec.stab rfl (Stab.move rfl) rfl ?_)) | ((with_reducible refine Knd.assign ?_); (refine Exec.stab rfl (Stab.assign rfl) rfl ?_)) | ((with_reducible refine Knd.load ?_); ((refine Exec.stab rfl (Stab.loadW rfl (tysOk.get rfl) rfl (by repeat (first | exact Has.here | apply Has.there)) rfl) rfl ?_))) | ((with_reducible refine Knd.binOp ?_); (first | (refine Exec.stab rfl (Stab.addi rfl rfl (by omega)) rfl ?_) | (refine Exec.stab rfl (Stab.int rfl rfl rfl) rfl ?_))) | ((with_reducible refine Knd.store ?_); ((refine Exec.storeW rfl rfl (tysOk.get rfl) (by repeat (first | exact Upd.here | apply Upd.there)) rfl rfl (by repeat (first | exact AllOne.nil | refine AllOne.cons (by first | rfl | assumption) ?_)) ?_))))) | (with_reducible refine Tr.next ?_) | (with_reducible refine Tr.seq ?_) | (with_reducible refine Tr.region ?_) | (with_reducible refine Tr.nil ?_) | (with_reducible refine Tr.exit ?_) | (with_reducible refine Tr.ret ?_) | (with_reducible refine Tr.then_exit ?_) | ((with_reducible refine Tr.in_exit ?_ ?_); (exact rfl)) | (refine Tr.cond_f rfl (by first | (with_reducible assumption) | (with_reducible rfl) | (with_reducible exact (not_not_intro rfl)) | omega) ?_))
    (refine Tr.done (by first | exact .inl rfl | exact .inr rfl) rfl (by repeat (first | exact RVs.nil | (apply RVs.cons; (first | exact RV.tmp rfl | exact RV.cellW (by rfl) (tysOk.get (by rfl)) (by rfl) (by repeat (first | exact Has.here | apply Has.there)) (by first | rfl | assumption))))) (by first | exact Mem.le.refl _ | assumption) (by exact ⟨[_, _], rfl⟩) ⟨rfl, ?_⟩)
    exact ⟨_, rfl, hD1⟩
  have hmul : 112 * i ≤ p.length := occ_mul (by omega)
  have hpl := piece_le p i
  have hpc := piece_length p i
  have e1 : ((i : Int) * 112).toNat = 112 * i := by omega
  have e2 : (min (((i : Int) + 1) * 112) (p.length : Int)).toNat = min (112 * i + 112) p.length := by omega
  have e3 : (p.drop (112 * i)).take (min (112 * i + 112) p.length - 112 * i) = piece p i := by
    unfold piece
    by_cases h : 112 * i + 112 ≤ p.length
    · rw [Nat.min_eq_left h, Nat.add_sub_cancel_left]
    · rw [List.take_of_length_le (by simp; omega), List.take_of_length_le (by simp; omega)]
  have hsub : BSl M1 _ ((p.drop (112 * i)).take (min (112 * i + 112) p.length - 112 * i)) := (hb.mono hm1).sub (l := 112 * i) (k := min (112 * i + 112) p.length) (m := c0) (by omega) (by omega) (by omega) (by omega)
  rw [e3] at hsub
  have ecast : (at_ : Int) + (i : Int) = ((at_ + i : Nat) : Int) := by omega
  repeat (first | ((with_reducible refine Tr.step rfl ?_); (first | ((with_reducible refine Knd.move ?_); (refine Exec.stab rfl (Stab.move rfl) rfl ?_)) | ((with_reducible refine Knd.assign ?_); (refine Exec.stab rfl (Stab.assign rfl) rfl ?_)) | ((with_reducible refine Knd.len ?_); ((refine Exec.stab rfl (Stab.len rfl (tysOk.get rfl) rfl) rfl ?_))) | ((with_reducible refine Knd.min ?_); (refine Exec.stab rfl (Stab.min2 rfl rfl) rfl ?_)) | ((with_reducible refine Knd.binOp ?_); (first | (refine Exec.stab rfl (Stab.addi rfl rfl (by omega)) rfl ?_) | (refine Exec.stab rfl (Stab.muli rfl rfl (by omega)) rfl ?_) | (refine Exec.stab rfl (Stab.int rfl rfl rfl) rfl ?_))) | ((with_reducible refine Knd.store ?_); ((refine Exec.storeW rfl rfl (tysOk.get rfl) (by repeat (first | exact Upd.here | apply Upd.there)) rfl rfl (by repeat (first | exact AllOne.nil | refine AllOne.cons (by first | rfl | assumption) ?_)) ?_))) | ((with_reducible refine Knd.alloc ?_); (first | (refine Exec.alloc (tysOk.get rfl) rfl rfl (fun b => ?_)) | (refine Exec.alloc1 (tysOk.get rfl) rfl rfl rfl (fun b => ?_)))) | ((with_reducible refine Knd.slice ?_); ((refine Exec.stab rfl (Stab.slice_lh rfl rfl rfl (tysOk.get rfl) rfl (tysOk.get rfl) rfl (by omega) (by omega) (by omega)) rfl ?_))) | ((with_reducible refine Knd.build ?_); ((refine Exec.stab rfl (Stab.build tysOk rfl rfl rfl rfl (by repeat (first | exact BuildP.nil | ((apply BuildP.one); (rfl); (rfl); (first | rfl | assumption); (repeat (first | exact SetL.z | apply SetL.s)))))) rfl ?_))))) | (with_reducible refine Tr.next ?_) | (with_reducible refine Tr.seq ?_) | (with_reducible refine Tr.region ?_) | (with_reducible refine Tr.nil ?_) | (with_reducible refine Tr.skip ?_) | (with_reducible refine Tr.block ?_) | (refine Tr.cond_t rfl (by first | (with_reducible assumption) | (with_reducible rfl) | (with_reducible exact (not_not_intro rfl)) | omega) ?_))
  rw [e1, e2, ecast]
  generalize (if c0 = 112 * i then A0 else A0.map (·.add (112 * i * 1))) = A2 at hsub ⊢
  generalize c0 - 112 * i = c2 at hsub ⊢
  have hsl := hsub.len
  rw [hsl] at hsub ⊢
  generalize b = bh
  refine Tr.cells (cs' := [.int .i64 (g : Int), .int .i64 ((at_ + i : Nat) : Int), .int .u8 ((0 : UInt8).toNat : Int), .int .i64 0]) (by repeat (first | exact Upd.here | apply Upd.there)) rfl ?_
  refine Tr.cut (α := Unit) (fun _ => ⟨71, [(13, .slice A2 (piece p i).length c2), (14, .pointer (some ⟨bh, 0, none⟩)), (12, .int .i64 i), (19, .int .i64 i), (18, .int .i64 (N : Int)), (11, .int .i64 (N : Int)), (8, .pointer (some ⟨bx, 0, none⟩)), (4, .pointer (some ⟨bd, 0, none⟩)), (1, .int .i64 (at_ : Int)), (2, .int .i64 (g : Int)), (3, .slice A0 p.length c0)], [], M1, box bh 84 [.int .i64 (g : Int), .int .i64 ((at_ + i : Nat) : Int), .int .u8 ((if i = 0 then (1 : UInt8) else 0).toNat : Int), .int .i64 0] :: box bx 25 [.slice none 0 0, .slice none 0 0, .int .i64 0, .bool false] :: box bd 25 [.slice A1 d.sec.length c1, .slice B1 (d.pen ++ (wrs g at_ p).take i).length k1, .int .i64 d.left, .bool d.stop] :: ([] ++ F)⟩) (fun _ => True) ?_ (fun _ _ => ?_)
  · by_cases f0 : (i : Int) = 0
    · repeat (first | ((with_reducible refine Tr.step rfl ?_); (first | ((with_reducible refine Knd.load ?_); ((refine Exec.stab rfl (Stab.load rfl (tysOk.get rfl) rfl (by repeat (first | exact Has.here | apply Has.there)) rfl) rfl ?_))) | ((with_reducible refine Knd.fieldAddr ?_); ((refine Exec.stab rfl (Stab.fieldZ rfl (tysOk.get rfl) rfl rfl (tysOk.get rfl) rfl) rfl ?_))) | ((with_reducible refine Knd.binOp ?_); ((refine Exec.stab rfl (Stab.orbk 1 rfl rfl (by decide)) rfl ?_))) | ((with_reducible refine Knd.store ?_); ((refine Exec.store rfl rfl (tysOk.get rfl) rfl (by first | rfl | assumption) (by repeat (first | exact Upd.here | apply Upd.there)) (by repeat (first | exact SetL.z | apply SetL.s)) ?_))))) | (with_reducible refine Tr.region ?_) | (with_reducible refine Tr.nil ?_) | (refine Tr.cond_t rfl (by first | (with_reducible assumption) | (with_reducible rfl) | (with_reducible exact (not_not_intro rfl)) | omega) ?_))
      rw [show (0 : UInt8) ||| 1 = if i = 0 then (1 : UInt8) else 0 by rw [if_pos (by omega)]; rfl]
      refine Tr.land () trivial (holds_sub (by repeat (first | exact SubFr.nil | refine SubFr.cons rfl ?_)) (by repeat (first | exact DropL.refl | apply DropL.skip)))
    · repeat (first | (with_reducible refine Tr.skip ?_) | (refine Tr.cond_f rfl (by first | (with_reducible assumption) | (with_reducible rfl) | (with_reducible exact (not_not_intro rfl)) | omega) ?_))
      rw [show (0 : UInt8).toNat = (if i = 0 then (1 : UInt8) else 0).toNat by rw [if_neg (by omega)]]
      refine Tr.land () trivial (holds_sub (by repeat (first | exact SubFr.nil | refine SubFr.cons rfl ?_)) (by repeat (first | exact DropL.refl | apply DropL.skip)))
  refine Tr.next ?_
  repeat (first | ((with_reducible refine Tr.step rfl ?_); (first | ((with_reducible refine Knd.move ?_); (refine Exec.stab rfl (Stab.move rfl) rfl ?_)) | ((with_reducible refine Knd.binOp ?_); (first | (refine Exec.stab rfl (Stab.subi rfl rfl (by omega)) rfl ?_) | (refine Exec.stab rfl (Stab.int rfl rfl rfl) rfl ?_))))) | (with_reducible refine Tr.next ?_) | (with_reducible refine Tr.seq ?_) | (with_reducible refine Tr.region ?_) | (with_reducible refine Tr.nil ?_))
  refine Tr.cut (α := Unit) (fun _ => ⟨71, [(13, .slice A2 (piece p i).length c2), (14, .pointer (some ⟨bh, 0, none⟩)), (12, .int .i64 i), (19, .int .i64 i), (18, .int .i64 (N : Int)), (11, .int .i64 (N : Int)), (8, .pointer (some ⟨bx, 0, none⟩)), (4, .pointer (some ⟨bd, 0, none⟩)), (1, .int .i64 (at_ : Int)), (2, .int .i64 (g : Int)), (3, .slice A0 p.length c0)], [], M1, box bh 84 [.int .i64 (g : Int), .int .i64 ((at_ + i : Nat) : Int), .int .u8 ((flg i N).toNat : Int), .int .i64 0] :: box bx 25 [.slice none 0 0, .slice none 0 0, .int .i64 0, .bool false] :: box bd 25 [.slice A1 d.sec.length c1, .slice B1 (d.pen ++ (wrs g at_ p).take i).length k1, .int .i64 d.left, .bool d.stop] :: ([] ++ F)⟩) (fun _ => True) ?_ (fun _ _ => ?_)
  · by_cases f1 : (i : Int) = (N : Int) - 1
    · repeat (first | ((with_reducible refine Tr.step rfl ?_); (first | ((with_reducible refine Knd.load ?_); ((refine Exec.stab rfl (Stab.load rfl (tysOk.get rfl) rfl (by repeat (first | exact Has.here | apply Has.there)) rfl) rfl ?_))) | ((with_reducible refine Knd.fieldAddr ?_); ((refine Exec.stab rfl (Stab.fieldZ rfl (tysOk.get rfl) rfl rfl (tysOk.get rfl) rfl) rfl ?_))) | ((with_reducible refine Knd.binOp ?_); ((refine Exec.stab rfl (Stab.orbk 2 rfl rfl (by decide)) rfl ?_))) | ((with_reducible refine Knd.store ?_); ((refine Exec.store rfl rfl (tysOk.get rfl) rfl (by first | rfl | assumption) (by repeat (first | exact Upd.here | apply Upd.there)) (by repeat (first | exact SetL.z | apply SetL.s)) ?_))))) | (with_reducible refine Tr.region ?_) | (with_reducible refine Tr.nil ?_) | (refine Tr.cond_t rfl (by first | (with_reducible assumption) | (with_reducible rfl) | (with_reducible exact (not_not_intro rfl)) | omega) ?_))
      rw [show (if i = 0 then (1 : UInt8) else 0) ||| 2 = flg i N by unfold flg; rw [if_pos (show i + 1 = N by omega)]]
      refine Tr.land () trivial (holds_sub (by repeat (first | exact SubFr.nil | refine SubFr.cons rfl ?_)) (by repeat (first | exact DropL.refl | apply DropL.skip)))
    · repeat (first | (with_reducible refine Tr.skip ?_) | (refine Tr.cond_f rfl (by first | (with_reducible assumption) | (with_reducible rfl) | (with_reducible exact (not_not_intro rfl)) | omega) ?_))
      rw [show (if i = 0 then (1 : UInt8) else 0).toNat = (flg i N).toNat by unfold flg; rw [if_neg (show ¬ i + 1 = N by omega), UInt8.or_zero]]
      refine Tr.land () trivial (holds_sub (by repeat (first | exact SubFr.nil | refine SubFr.cons rfl ?_)) (by repeat (first | exact DropL.refl | apply DropL.skip)))
  refine Tr.next ?_
  have hbl : (bF g (at_ + i) (flg i N) (piece p i)).length = 128 := bF_length hpl
  have hone := wr_one (g := g) (at_ := at_) (p := p) (i := i) hk (by omega) (by omega) (by omega)
  rw [hN] at hone
  generalize flg i N = f at hbl hone
  repeat ((with_reducible refine Tr.seq ?_))
  (((apply Tr.draw); (kernel_rfl)); (refine TrA.take 0 (by kernel_rfl) rfl (by kernel_rfl) (by first | exact fun _ _ _ h => h | exact fun _ _ _ h => nomatch h.1) (by exact fun _ h => h) rfl (by exact Stab.loadW rfl (tysOk.get rfl) rfl (by repeat (first | exact Has.here | apply Has.there)) rfl) rfl rfl ?_); (refine TrA.take 1 (by kernel_rfl) rfl (by kernel_rfl) (by first | exact fun _ _ _ h => h | exact fun _ _ _ h => nomatch h.1) (by exact fun _ h => h) rfl (by first | exact Stab.move rfl) rfl rfl ?_); (refine TrA.take 2 (by kernel_rfl) rfl (by kernel_rfl) (by first | exact fun _ _ _ h => h | exact fun _ _ _ h => nomatch h.1) (by exact fun _ h => h) rfl (by first | exact Stab.move rfl) rfl rfl ?_); (refine TrA.take 4 (by kernel_rfl) rfl (by kernel_rfl) (by first | exact fun _ _ _ h => h | exact fun _ _ _ h => nomatch h.1) (by exact fun _ h => h) rfl (by exact Stab.loadW rfl (tysOk.get rfl) rfl (by repeat (first | exact Has.here | apply Has.there)) rfl) rfl rfl ?_); (refine TrA.take 5 (by kernel_rfl) rfl (by kernel_rfl) (by first | exact fun _ _ _ h => h | exact fun _ _ _ h => nomatch h.1) (by exact fun _ h => h) rfl (by first | exact Stab.move rfl) rfl rfl ?_); (refine TrA.take 3 (by kernel_rfl) rfl (by kernel_rfl) (by first | exact fun _ _ _ h => h | exact fun _ _ _ h => nomatch h.1) (by exact fun _ h => h) rfl (by exact Stab.addi rfl rfl (by omega)) rfl rfl ?_))
  rw [ecast]
  ((refine TrA.eff 6 rfl (by kernel_rfl) (by first | exact .inl rfl | exact .inr ⟨_, _, _, rfl, rfl, rfl⟩) ?_))
  refine Exec.call0 rfl (build_fn M1 g (at_ + i) f 0 A2 c2 (piece p i) hsub hpl hg (by omega)) rfl ?_
  rintro _ M2 hm2 ⟨A3, c3, rfl, hb3⟩
  refine ⟨hm2, (by exact fun _ h => h), ?_⟩
  have hw := write_fn M2 _ (dAfter d ((wrs g at_ p).take i)) ((at_ + i : Nat) : Int) A3 c3 (bF g (at_ + i) f (piece p i)) (hD1.mono hm2) (by rw [hbl]; exact hb3)
  rw [hone, hbl] at hw
  ((refine TrA.effD 7 rfl (by kernel_rfl) (by kernel_rfl) (by first | exact .inl rfl | exact .inr ⟨_, _, _, rfl, rfl, rfl⟩) ?_))
  refine Exec.call0 rfl hw rfl ?_
  rintro _ M3 hm3 hP
  obtain ⟨A4, c4, B4, k4, rfl, hD3⟩ := hP.openJ
  refine ⟨[], fun r h => absurd h List.not_mem_nil, ?_⟩
  ((refine TrA.take 8 (by kernel_rfl) rfl (by kernel_rfl) (by first | exact fun _ _ _ h => h | exact fun _ _ _ h => nomatch h.1) (by exact fun _ h => List.mem_append_left _ h) rfl (by first | exact Stab.move rfl) rfl rfl ?_); (refine TrA.take 9 (by kernel_rfl) rfl (by kernel_rfl) (by first | exact fun _ _ _ h => h | exact fun _ _ _ h => nomatch h.1) (by exact fun _ h => List.mem_append_left _ h) rfl (by first | exact Stab.extract rfl rfl) rfl rfl ?_); (refine TrA.take 10 (by kernel_rfl) rfl (by kernel_rfl) (by first | exact fun _ _ _ h => h | exact fun _ _ _ h => nomatch h.1) (by exact fun _ h => List.mem_append_left _ h) rfl (by first | exact Stab.extract rfl rfl) rfl rfl ?_); (refine TrA.eff 11 rfl (by kernel_rfl) (by first | exact .inl rfl | exact .inr ⟨_, _, _, rfl, rfl, rfl⟩) ?_); (((refine Knd.store ?_); ((refine Exec.storeW rfl rfl (tysOk.get rfl) (by repeat (first | exact Upd.here | apply Upd.there)) rfl rfl (by repeat (first | exact AllOne.nil | refine AllOne.cons (by first | rfl | assumption) ?_)) ?_)))); (refine ⟨(by first | exact Mem.le.refl _ | assumption), (by exact fun _ h => List.mem_append_left _ h), ?_⟩); (refine TrA.take 12 (by kernel_rfl) rfl (by kernel_rfl) (by first | exact fun _ _ _ h => h | exact fun _ _ _ h => nomatch h.1) (by exact fun _ h => List.mem_append_left _ h) rfl (by first | exact Stab.assign rfl) rfl rfl ?_); (refine TrA.done (by kernel_rfl) ?_))
  repeat (first | ((with_reducible refine Tr.step rfl ?_); (first | ((with_reducible refine Knd.move ?_); (refine Exec.stab rfl (Stab.move rfl) rfl ?_)) | ((with_reducible refine Knd.binOp ?_); (first | (refine Exec.stab rfl (Stab.addi rfl rfl (by omega)) rfl ?_) | (refine Exec.stab rfl (Stab.int rfl rfl rfl) rfl ?_))))) | (with_reducible refine Tr.next ?_) | (with_reducible refine Tr.seq ?_) | (with_reducible refine Tr.region ?_) | (with_reducible refine Tr.nil ?_) | (with_reducible refine Tr.skip ?_) | (with_reducible refine Tr.in_normal ?_) | (refine Tr.cond_f rfl (by first | (with_reducible assumption) | (with_reducible rfl) | (with_reducible exact (not_not_intro rfl)) | omega) ?_))
  refine Tr.again (i + 1, M3, A4, c4, B4, k4) ⟨by simp only; omega, hm1.trans (hm2.trans hm3), hD3⟩ (by simp only; omega) (holds_sub (by repeat (first | exact SubFr.nil | refine SubFr.cons rfl ?_)) (by repeat (first | exact DropL.refl | apply DropL.skip)))
end Go.Proofs.Ytkbggengagockaa
/-
  The journal: Sync.
  Conditions: none.
-/
namespace Go.Proofs.Ytkbggengagockaa
open Go Bf
attribute [local irreducible] Tr Exec Stab HasTy Go.Addr.add IntKind.wrap
/-- the writes of records, one after the other -/
def wrsAll (g : Nat) : Nat → List (List UInt8) → List (Int × List UInt8)
  | _, [] => []
  | at_, b :: l => wrs g at_ b ++ wrsAll g (at_ + occ b.length) l
theorem wrsAll_length (g : Nat) : ∀ (l : List (List UInt8)) (at_ : Nat), (wrsAll g at_ l).length = occs l
  | [], _ => rfl
  | b :: l, at_ => by
    rw [wrsAll, List.length_append, wrs_length, wrsAll_length g l]
    simp [occs]
theorem wrsAll_snoc (g : Nat) : ∀ (l : List (List UInt8)) (at_ : Nat) (b : List UInt8), wrsAll g at_ (l ++ [b]) = wrsAll g at_ l ++ wrs g (at_ + occs l) b
  | [], at_, b => by simp [wrsAll, occs]
  | c :: l, at_, b => by
    rw [List.cons_append, wrsAll, wrsAll_snoc g l, wrsAll, List.append_assoc]
    have : at_ + occ c.length + occs l = at_ + occs (c :: l) := by simp [occs]; omega
    rw [this]
theorem wrsAll_mem {g : Nat} : ∀ {l : List (List UInt8)} {at_ : Nat} {w : Int × List UInt8}, w ∈ wrsAll g at_ l → (at_ : Int) ≤ w.1 ∧ w.1 < ((at_ + occs l : Nat) : Int) ∧ w.2.length = 128
  | [], _, _, h => by cases h
  | b :: l, at_, w, h => by
    rw [wrsAll] at h
    have e : occs (b :: l) = occ b.length + occs l := by simp [occs]
    rcases List.mem_append.1 h with h | h
    · simp only [wrs, List.mem_map, List.mem_range] at h
      obtain ⟨j, hj, rfl⟩ := h
      refine ⟨?_, ?_, bF_length (piece_le _ _)⟩
      · simp only [wr1]; omega
      · simp only [wr1]; omega
    · have := wrsAll_mem h
      omega
theorem wrsAll_runs {d : Dsk} {g at_ : Nat} {l : List (List UInt8)} (h : runs d) (ha : at_ + occs l ≤ d.sec.length) (hp : d.pen = []) : runs (dAfter d (wrsAll g at_ l)) := by
  obtain ⟨⟨h1, h2, h3, h4, h5, h6, h7⟩, h8⟩ := h
  refine ⟨⟨h1, h2, ?_, h4, ?_, h6, h7⟩, h8⟩
  · show (d.pen ++ _).length ≤ 4096
    rw [hp, List.nil_append, wrsAll_length]
    omega
  · intro w hw
    have hw' : w ∈ d.pen ++ wrsAll g at_ l := hw
    rw [hp, List.nil_append] at hw'
    have := wrsAll_mem hw'
    exact ⟨by omega, by show _ < (d.sec.length : Int); omega, this.2.2⟩
def syncJ (j : Jr) (d : Dsk) : Jr × Dsk × Int :=
  if okJ j then
    if idleF d j.many = 0 then
      if recs d.sec = j.rcs.take j.syn.toNat then
        if gmax d.sec + 1 ≤ 4294967295 then
          if j.syn = (j.rcs.length : Int) then (j, d, 0)
          else
            (let s := syncF (dAfter d (wrsAll (gmax d.sec + 1) (occs (j.rcs.take j.syn.toNat)) (j.rcs.drop j.syn.toNat)))
             if s.2 = 0 then (⟨j.many, (j.rcs.length : Int), j.rcs⟩, s.1, 0) else (zJ, s.1, s.2))
        else (zJ, zD, 450)
      else (zJ, zD, 450)
    else (zJ, zD, idleF d j.many)
  else (zJ, zD, 1)
def R3 (M : Mem) (r : Value) (x : Jr × Dsk × Int) : Prop := ∃ v w, r = .tuple #[v, w, .int .i64 x.2.2] ∧ RJr M v x.1 ∧ RDisk M w x.2.1
theorem R3.zero (M : Mem) (e : Int) : R3 M (.tuple #[.agg #[.int .i64 0, .int .i64 0, .slice none 0 0], .agg #[.slice none 0 0, .slice none 0 0, .int .i64 0, .bool false], .int .i64 e]) (zJ, zD, e) := ⟨_, _, rfl, RJr.zero M, RDisk.zero M⟩

set_option maxHeartbeats 8000000 in
theorem sync_jfn (M : Mem) (v w : Value) (j : Jr) (d : Dsk) (h : RJr M v j) (hd : RDisk M w d) (ho : occs j.rcs ≤ 1000000000) :
    Fn0 Try.prog 21 [v, w] M (fun r M' => R3 M' r (syncJ j d)) := by
  have hJ := h
  have hD := hd
  obtain ⟨A, c, rfl, h1⟩ := h
  obtain ⟨A2, c2, B2, k2, rfl, h2, h3⟩ := hd
  have l1 := h1.len_le
  refine Fn.intro Try.func21 rfl rfl Try.ntmps21 rfl fun E F => ?_
  repeat (first | ((with_reducible refine Tr.step rfl ?_); (first | ((with_reducible refine Knd.assign ?_); (refine Exec.stab rfl (Stab.assign rfl) rfl ?_)) | ((with_reducible refine Knd.load ?_); ((refine Exec.stab rfl (Stab.loadW rfl (tysOk.get rfl) rfl (by repeat (first | exact Has.here | apply Has.there)) rfl) rfl ?_))) | ((with_reducible refine Knd.box ?_); (first | (refine Exec.box rfl rfl (fun b => ?_)) | (refine Exec.box1 rfl (by first | rfl | assumption) rfl (fun b => ?_)))) | ((with_reducible refine Knd.alloc ?_); (first | (refine Exec.alloc (tysOk.get rfl) rfl rfl (fun b => ?_)) | (refine Exec.alloc1 (tysOk.get rfl) rfl rfl rfl (fun b => ?_)))))) | (with_reducible refine Tr.next ?_) | (with_reducible refine Tr.seq ?_) | (with_reducible refine Tr.region ?_) | (with_reducible refine Tr.nil ?_))
  rename_i b2 b3 b4
  generalize b = b5
  by_cases hk : okJ j
  rotate_left
  · ((refine Tr.step rfl ?_)); refine Exec.call0 rfl (jcheck_n M _ j hJ ho hk) rfl ?_
    rintro _ _ _ ⟨rfl, rfl⟩
    repeat (first | ((with_reducible refine Tr.step rfl ?_); (first | ((with_reducible refine Knd.move ?_); (refine Exec.stab rfl (Stab.move rfl) rfl ?_)) | ((with_reducible refine Knd.assign ?_); (refine Exec.stab rfl (Stab.assign rfl) rfl ?_)) | ((with_reducible refine Knd.binOp ?_); ((refine Exec.stab rfl (Stab.int rfl rfl rfl) rfl ?_))) | ((with_reducible refine Knd.store ?_); ((refine Exec.storeW rfl rfl (tysOk.get rfl) (by repeat (first | exact Upd.here | apply Upd.there)) rfl rfl (by repeat (first | exact AllOne.nil | refine AllOne.cons (by first | rfl | assumption) ?_)) ?_))) | ((with_reducible refine Knd.build ?_); ((refine Exec.stab rfl (Stab.build tysOk rfl rfl rfl rfl (by repeat (exact BuildP.nil))) rfl ?_))))) | (with_reducible refine Tr.next ?_) | (with_reducible refine Tr.seq ?_) | (with_reducible refine Tr.region ?_) | (with_reducible refine Tr.nil ?_) | (with_reducible refine Tr.ret ?_) | (with_reducible refine Tr.then_ret ?_) | (refine Tr.cond_t rfl (by first | (with_reducible assumption) | (with_reducible rfl) | (with_reducible exact (not_not_intro rfl)) | omega) ?_))
    (refine Tr.done (by first | exact .inl rfl | exact .inr rfl) rfl (by repeat (first | exact RVs.nil | (apply RVs.cons; (first | exact RV.tmp rfl | exact RV.cellW (by rfl) (tysOk.get (by rfl)) (by rfl) (by repeat (first | exact Has.here | apply Has.there)) (by first | rfl | assumption))))) (by first | exact Mem.le.refl _ | assumption) (by exact ⟨[_, _, _, _], rfl⟩) ⟨rfl, ?_⟩)
    rw [syncJ, if_neg hk]
    exact R3.zero M 1
  ((refine Tr.step rfl ?_)); refine Exec.call0 rfl (jcheck_y M _ j hJ ho hk) rfl ?_
  rintro _ _ _ ⟨rfl, rfl⟩
  repeat (first | ((with_reducible refine Tr.step rfl ?_); (first | ((with_reducible refine Knd.move ?_); (refine Exec.stab rfl (Stab.move rfl) rfl ?_)) | ((with_reducible refine Knd.assign ?_); (refine Exec.stab rfl (Stab.assign rfl) rfl ?_)) | ((with_reducible refine Knd.load ?_); (first | (refine Exec.stab rfl (Stab.load rfl (tysOk.get rfl) rfl (by repeat (first | exact Has.here | apply Has.there)) rfl) rfl ?_) | (refine Exec.stab rfl (Stab.loadW rfl (tysOk.get rfl) rfl (by repeat (first | exact Has.here | apply Has.there)) rfl) rfl ?_))) | ((with_reducible refine Knd.fieldAddr ?_); ((refine Exec.stab rfl (Stab.fieldZ rfl (tysOk.get rfl) rfl rfl (tysOk.get rfl) rfl) rfl ?_))) | ((with_reducible refine Knd.binOp ?_); ((refine Exec.stab rfl (Stab.int rfl rfl rfl) rfl ?_))))) | (with_reducible refine Tr.next ?_) | (with_reducible refine Tr.seq ?_) | (with_reducible refine Tr.region ?_) | (with_reducible refine Tr.nil ?_) | (with_reducible refine Tr.skip ?_) | (refine Tr.cond_f rfl (by first | (with_reducible assumption) | (with_reducible rfl) | (with_reducible exact (not_not_intro rfl)) | omega) ?_))
  ((refine Tr.step rfl ?_)); refine Exec.call0 rfl (idle_fn M _ d j.many hD) rfl ?_
  rintro _ _ _ ⟨rfl, rfl⟩
  by_cases hi : idleF d j.many = 0
  rotate_left
  · repeat (first | ((with_reducible refine Tr.step rfl ?_); (first | ((with_reducible refine Knd.move ?_); (refine Exec.stab rfl (Stab.move rfl) rfl ?_)) | ((with_reducible refine Knd.assign ?_); (refine Exec.stab rfl (Stab.assign rfl) rfl ?_)) | ((with_reducible refine Knd.binOp ?_); ((refine Exec.stab rfl (Stab.int rfl rfl rfl) rfl ?_))) | ((with_reducible refine Knd.store ?_); ((refine Exec.storeW rfl rfl (tysOk.get rfl) (by repeat (first | exact Upd.here | apply Upd.there)) rfl rfl (by repeat (first | exact AllOne.nil | refine AllOne.cons (by first | rfl | assumption) ?_)) ?_))) | ((with_reducible refine Knd.build ?_); ((refine Exec.stab rfl (Stab.build tysOk rfl rfl rfl rfl (by repeat (exact BuildP.nil))) rfl ?_))))) | (with_reducible refine Tr.next ?_) | (with_reducible refine Tr.seq ?_) | (with_reducible refine Tr.region ?_) | (with_reducible refine Tr.nil ?_) | (with_reducible refine Tr.ret ?_) | (with_reducible refine Tr.then_ret ?_) | (refine Tr.cond_t rfl (by first | (with_reducible assumption) | (with_reducible rfl) | (with_reducible exact (not_not_intro rfl)) | omega) ?_))
    (refine Tr.done (by first | exact .inl rfl | exact .inr rfl) rfl (by repeat (first | exact RVs.nil | (apply RVs.cons; (first | exact RV.tmp rfl | exact RV.cellW (by rfl) (tysOk.get (by rfl)) (by rfl) (by repeat (first | exact Has.here | apply Has.there)) (by first | rfl | assumption))))) (by first | exact Mem.le.refl _ | assumption) (by exact ⟨[_, _, _, _], rfl⟩) ⟨rfl, ?_⟩)
    rw [syncJ, if_pos hk, if_neg hi]
    exact R3.zero M _
  obtain ⟨hok, hst', hpen, hmany⟩ := idleF_ok hi
  obtain ⟨k1, k2', k3, k4, k5⟩ := id hk
  have hmany' : j.many = (d.sec.length : Int) := by
    by_cases e : j.many = (d.sec.length : Int)
    · exact e
    · exact absurd ⟨by omega, e⟩ hmany
  have hS : ∃ S : Nat, j.syn = (S : Int) := ⟨j.syn.toNat, by omega⟩
  obtain ⟨S, hS⟩ := hS
  have hSl : S ≤ j.rcs.length := by omega
  have hcap := h1.cells
  obtain ⟨cells, -, g1, g2, g3, g4, g5⟩ := hcap
  rw [hi, hS]
  repeat (first | ((with_reducible refine Tr.step rfl ?_); (first | ((with_reducible refine Knd.move ?_); (refine Exec.stab rfl (Stab.move rfl) rfl ?_)) | ((with_reducible refine Knd.assign ?_); (refine Exec.stab rfl (Stab.assign rfl) rfl ?_)) | ((with_reducible refine Knd.load ?_); ((refine Exec.stab rfl (Stab.load rfl (tysOk.get rfl) rfl (by repeat (first | exact Has.here | apply Has.there)) rfl) rfl ?_))) | ((with_reducible refine Knd.fieldAddr ?_); ((refine Exec.stab rfl (Stab.fieldZ rfl (tysOk.get rfl) rfl rfl (tysOk.get rfl) rfl) rfl ?_))) | ((with_reducible refine Knd.binOp ?_); ((refine Exec.stab rfl (Stab.int rfl rfl rfl) rfl ?_))) | ((with_reducible refine Knd.slice ?_); ((refine Exec.stab rfl (Stab.slice_h rfl rfl (tysOk.get rfl) rfl (tysOk.get rfl) (by omega) (by omega)) rfl ?_))))) | (with_reducible refine Tr.next ?_) | (with_reducible refine Tr.seq ?_) | (with_reducible refine Tr.region ?_) | (with_reducible refine Tr.nil ?_) | (with_reducible refine Tr.skip ?_) | (refine Tr.cond_f rfl (by first | (with_reducible assumption) | (with_reducible rfl) | (with_reducible exact (not_not_intro rfl)) | omega) ?_))
  refine Tr.less [(36, _), (9, _), (6, _), (5, _), (4, _), (3, _), (2, _)] _ (by repeat (first | exact SubFr.nil | refine SubFr.cons rfl ?_)) (by repeat (first | exact DropL.refl | apply DropL.skip)) ?_
  have htl : (j.rcs.take S).length = S := by rw [List.length_take]; omega
  have htl' : S ≤ c := by omega
  ((refine Tr.step rfl ?_))
  refine Exec.call (A := []) rfl (records_fn M A2 d.sec.length c2) (List.Perm.refl _) rfl ?_
  rintro _ _ _ - ⟨bb, rfl, rfl, rfl⟩
  repeat (fail)
  ((refine Tr.step rfl ?_))
  refine Exec.call (A := [box bb 22 [.slice A2 d.sec.length c2]]) rfl (collect_fn M A2 c2 bb d.sec h2 hok.2.2.2.1 hok.2.1) (List.Perm.refl _) rfl ?_
  rintro _ M1 _ hm1 ⟨rfl, R, rc, rfl, hR⟩
  have hpre : SlOf 1 RSec M1 (.slice A S c) (j.rcs.take S) := (h1.mono RSec.mono hm1).pre hSl htl' (Nat.le_refl _)
  have heq := equalF_fn M1 R A rc c (recs d.sec) (j.rcs.take S) hR (by rw [htl]; exact hpre)
  rw [htl] at heq
  repeat (((with_reducible refine Tr.step rfl ?_); (((with_reducible refine Knd.move ?_); (refine Exec.stab rfl (Stab.move rfl) rfl ?_)))))
  ((refine Tr.step rfl ?_)); refine Exec.call0 rfl (heq) rfl ?_
  rintro _ _ _ ⟨rfl, rfl⟩
  have hT : j.syn.toNat = S := by omega
  by_cases hrec : recs d.sec = j.rcs.take S
  rotate_left
  · rw [decide_eq_false hrec]
    repeat (first | ((with_reducible refine Tr.step rfl ?_); (first | ((with_reducible refine Knd.assign ?_); (refine Exec.stab rfl (Stab.assign rfl) rfl ?_)) | ((with_reducible refine Knd.unOp ?_); ((refine Exec.stab rfl (Stab.not rfl) rfl ?_))) | ((with_reducible refine Knd.store ?_); ((refine Exec.storeW rfl rfl (tysOk.get rfl) (by repeat (first | exact Upd.here | apply Upd.there)) rfl rfl (by repeat (first | exact AllOne.nil | refine AllOne.cons (by first | rfl | assumption) ?_)) ?_))) | ((with_reducible refine Knd.build ?_); ((refine Exec.stab rfl (Stab.build tysOk rfl rfl rfl rfl (by repeat (exact BuildP.nil))) rfl ?_))))) | (with_reducible refine Tr.next ?_) | (with_reducible refine Tr.seq ?_) | (with_reducible refine Tr.region ?_) | (with_reducible refine Tr.nil ?_) | (with_reducible refine Tr.ret ?_) | (with_reducible refine Tr.then_ret ?_) | (refine Tr.cond_bt rfl (by first | (with_reducible rfl) | (with_reducible assumption) | (with_reducible exact Bool.not_true) | (with_reducible exact Bool.not_false)) ?_))
    (refine Tr.done (by first | exact .inl rfl | exact .inr rfl) rfl (by repeat (first | exact RVs.nil | (apply RVs.cons; (first | exact RV.tmp rfl | exact RV.cellW (by rfl) (tysOk.get (by rfl)) (by rfl) (by repeat (first | exact Has.here | apply Has.there)) (by first | rfl | assumption))))) (by first | exact Mem.le.refl _ | assumption) (by exact ⟨[_, _, _, _], rfl⟩) ⟨rfl, ?_⟩)
    rw [syncJ, if_pos hk, if_pos hi, if_neg (by rw [hT]; exact hrec)]
    exact R3.zero _ _
  rw [decide_eq_true hrec]
  repeat (first | ((with_reducible refine Tr.step rfl ?_); (first | ((with_reducible refine Knd.load ?_); ((refine Exec.stab rfl (Stab.loadW rfl (tysOk.get rfl) rfl (by repeat (first | exact Has.here | apply Has.there)) rfl) rfl ?_))) | ((with_reducible refine Knd.unOp ?_); ((refine Exec.stab rfl (Stab.not rfl) rfl ?_))))) | (with_reducible refine Tr.next ?_) | (with_reducible refine Tr.seq ?_) | (with_reducible refine Tr.region ?_) | (with_reducible refine Tr.nil ?_) | (with_reducible refine Tr.skip ?_) | (refine Tr.cond_bf rfl (by first | (with_reducible rfl) | (with_reducible assumption) | (with_reducible exact Bool.not_true) | (with_reducible exact Bool.not_false)) ?_))
  ((refine Tr.step rfl ?_)); refine Exec.call0 rfl (next_fn M1 _ d (hD.mono hm1) hok.2.2.2.1) rfl ?_
  rintro _ _ _ ⟨rfl, rfl⟩
  by_cases hg : gmax d.sec + 1 ≤ 4294967295
  rotate_left
  · have hg' : (4294967295 : Int) < ((gmax d.sec + 1 : Nat) : Int) := by omega
    repeat (first | ((with_reducible refine Tr.step rfl ?_); (first | ((with_reducible refine Knd.move ?_); (refine Exec.stab rfl (Stab.move rfl) rfl ?_)) | ((with_reducible refine Knd.assign ?_); (refine Exec.stab rfl (Stab.assign rfl) rfl ?_)) | ((with_reducible refine Knd.binOp ?_); ((refine Exec.stab rfl (Stab.int rfl rfl rfl) rfl ?_))) | ((with_reducible refine Knd.store ?_); ((refine Exec.storeW rfl rfl (tysOk.get rfl) (by repeat (first | exact Upd.here | apply Upd.there)) rfl rfl (by repeat (first | exact AllOne.nil | refine AllOne.cons (by first | rfl | assumption) ?_)) ?_))) | ((with_reducible refine Knd.build ?_); ((refine Exec.stab rfl (Stab.build tysOk rfl rfl rfl rfl (by repeat (exact BuildP.nil))) rfl ?_))))) | (with_reducible refine Tr.next ?_) | (with_reducible refine Tr.seq ?_) | (with_reducible refine Tr.region ?_) | (with_reducible refine Tr.nil ?_) | (with_reducible refine Tr.ret ?_) | (with_reducible refine Tr.then_ret ?_) | (refine Tr.cond_t rfl (by first | (with_reducible assumption) | (with_reducible rfl) | (with_reducible exact (not_not_intro rfl)) | omega) ?_))
    (refine Tr.done (by first | exact .inl rfl | exact .inr rfl) rfl (by repeat (first | exact RVs.nil | (apply RVs.cons; (first | exact RV.tmp rfl | exact RV.cellW (by rfl) (tysOk.get (by rfl)) (by rfl) (by repeat (first | exact Has.here | apply Has.there)) (by first | rfl | assumption))))) (by first | exact Mem.le.refl _ | assumption) (by exact ⟨[_, _, _, _], rfl⟩) ⟨rfl, ?_⟩)
    rw [syncJ, if_pos hk, if_pos hi, if_pos (by rw [hT]; exact hrec), if_neg hg]
    exact R3.zero _ _
  generalize hgg : gmax d.sec + 1 = g at hg
  by_cases hSe : (S : Int) = (j.rcs.length : Int)
  · repeat (first | ((with_reducible refine Tr.step rfl ?_); (first | ((with_reducible refine Knd.move ?_); (refine Exec.stab rfl (Stab.move rfl) rfl ?_)) | ((with_reducible refine Knd.assign ?_); (refine Exec.stab rfl (Stab.assign rfl) rfl ?_)) | ((with_reducible refine Knd.load ?_); ((refine Exec.stab rfl (Stab.load rfl (tysOk.get rfl) rfl (by repeat (first | exact Has.here | apply Has.there)) rfl) rfl ?_))) | ((with_reducible refine Knd.fieldAddr ?_); ((refine Exec.stab rfl (Stab.fieldZ rfl (tysOk.get rfl) rfl rfl (tysOk.get rfl) rfl) rfl ?_))) | ((with_reducible refine Knd.len ?_); ((refine Exec.stab rfl (Stab.len rfl (tysOk.get rfl) rfl) rfl ?_))) | ((with_reducible refine Knd.binOp ?_); ((refine Exec.stab rfl (Stab.int rfl rfl rfl) rfl ?_))))) | (with_reducible refine Tr.next ?_) | (with_reducible refine Tr.seq ?_) | (with_reducible refine Tr.region ?_) | (with_reducible refine Tr.nil ?_) | (with_reducible refine Tr.skip ?_) | (refine Tr.cond_t rfl (by first | (with_reducible assumption) | (with_reducible rfl) | (with_reducible exact (not_not_intro rfl)) | omega) ?_) | (refine Tr.cond_f rfl (by first | (with_reducible assumption) | (with_reducible rfl) | (with_reducible exact (not_not_intro rfl)) | omega) ?_))
    (((apply Tr.draw ((box b3 25 [.slice A2 d.sec.length c2, .slice B2 d.pen.length k2, .int .i64 d.left, .bool d.stop] :: box b2 29 [.int .i64 j.many, .int .i64 (S : Int), .slice A j.rcs.length c] :: ([] ++ F)))); (kernel_rfl)); (refine TrA.take 0 (by kernel_rfl) rfl (by kernel_rfl) (by first | exact fun _ _ _ h => h | exact fun _ _ _ h => nomatch h.1) (by exact (Sub.mem (by repeat (first | exact Sub.refl | apply Sub.cons)))) rfl (by exact Stab.loadW rfl (tysOk.get rfl) rfl (by repeat (first | exact Has.here | apply Has.there)) rfl) rfl rfl ?_); (refine TrA.take 1 (by kernel_rfl) rfl (by kernel_rfl) (by first | exact fun _ _ _ h => h | exact fun _ _ _ h => nomatch h.1) (by exact (Sub.mem (by repeat (first | exact Sub.refl | apply Sub.cons)))) rfl (by exact Stab.loadW rfl (tysOk.get rfl) rfl (by repeat (first | exact Has.here | apply Has.there)) rfl) rfl rfl ?_); (refine TrA.eff 2 rfl (by kernel_rfl) (by first | exact .inl rfl | exact .inr ⟨_, _, _, rfl, rfl, rfl⟩) ?_); (((refine Knd.store ?_); ((refine Exec.storeW rfl rfl (tysOk.get rfl) (by repeat (first | exact Upd.here | apply Upd.there)) rfl rfl (by repeat (first | exact AllOne.nil | refine AllOne.cons (by first | rfl | assumption) ?_)) ?_)))); (refine ⟨(by first | exact Mem.le.refl _ | assumption), (by exact (Sub.mem (by repeat (first | exact Sub.refl | apply Sub.cons)))), ?_⟩); (refine TrA.eff 3 rfl (by kernel_rfl) (by first | exact .inl rfl | exact .inr ⟨_, _, _, rfl, rfl, rfl⟩) ?_); (((refine Knd.store ?_); ((refine Exec.storeW rfl rfl (tysOk.get rfl) (by repeat (first | exact Upd.here | apply Upd.there)) rfl rfl (by repeat (first | exact AllOne.nil | refine AllOne.cons (by first | rfl | assumption) ?_)) ?_)))); (refine ⟨(by first | exact Mem.le.refl _ | assumption), (by exact (Sub.mem (by repeat (first | exact Sub.refl | apply Sub.cons)))), ?_⟩); (refine TrA.take 4 (by kernel_rfl) rfl (by kernel_rfl) (by first | exact fun _ _ _ h => h | exact fun _ _ _ h => nomatch h.1) (by exact (Sub.mem (by repeat (first | exact Sub.refl | apply Sub.cons)))) rfl (by first | exact Stab.assign rfl) rfl rfl ?_); (refine TrA.done (by kernel_rfl) ?_))
    repeat (first | (with_reducible refine Tr.next ?_) | (with_reducible refine Tr.ret ?_) | (with_reducible refine Tr.then_ret ?_))
    (refine Tr.done (by first | exact .inl rfl | exact .inr rfl) rfl (by repeat (first | exact RVs.nil | (apply RVs.cons; (first | exact RV.tmp rfl | exact RV.cellW (by rfl) (tysOk.get (by rfl)) (by rfl) (by repeat (first | exact Has.here | apply Has.there)) (by first | rfl | assumption))))) (by first | exact Mem.le.refl _ | assumption) (by exact ⟨[_, _, _, _], rfl⟩) ⟨rfl, ?_⟩)
    rw [syncJ, if_pos hk, if_pos hi, if_pos (by rw [hT]; exact hrec), hgg, if_pos hg, if_pos (by rw [hS]; exact hSe)]
    exact ⟨_, _, rfl, ⟨A, c, by rw [hS], h1.mono RSec.mono hm1⟩, hD.mono hm1⟩
  have hsub : SlOf 1 RSec M1 _ ((j.rcs.drop S).take (j.rcs.length - S)) := (h1.mono RSec.mono hm1).sub (l := S) (k := j.rcs.length) (m := c) hSl (Nat.le_refl _) g1 (Nat.le_refl _)
  rw [List.take_of_length_le (by rw [List.length_drop]; exact Nat.le_refl _)] at hsub
  have hocc := occupied_fn M1 A c (j.rcs.take S) (by rw [htl]; exact hpre) (Nat.le_trans (occs_le _ _) ho)
  rw [htl] at hocc
  repeat (first | ((with_reducible refine Tr.step rfl ?_); (first | ((with_reducible refine Knd.move ?_); (refine Exec.stab rfl (Stab.move rfl) rfl ?_)) | ((with_reducible refine Knd.assign ?_); (refine Exec.stab rfl (Stab.assign rfl) rfl ?_)) | ((with_reducible refine Knd.load ?_); ((refine Exec.stab rfl (Stab.load rfl (tysOk.get rfl) rfl (by repeat (first | exact Has.here | apply Has.there)) rfl) rfl ?_))) | ((with_reducible refine Knd.fieldAddr ?_); ((refine Exec.stab rfl (Stab.fieldZ rfl (tysOk.get rfl) rfl rfl (tysOk.get rfl) rfl) rfl ?_))) | ((with_reducible refine Knd.len ?_); ((refine Exec.stab rfl (Stab.len rfl (tysOk.get rfl) rfl) rfl ?_))) | ((with_reducible refine Knd.binOp ?_); ((refine Exec.stab rfl (Stab.int rfl rfl rfl) rfl ?_))))) | (with_reducible refine Tr.next ?_) | (with_reducible refine Tr.seq ?_) | (with_reducible refine Tr.region ?_) | (with_reducible refine Tr.nil ?_) | (with_reducible refine Tr.skip ?_) | (refine Tr.cond_f rfl (by first | (with_reducible assumption) | (with_reducible rfl) | (with_reducible exact (not_not_intro rfl)) | omega) ?_))
  (((apply Tr.draw ((box b3 25 [.slice A2 d.sec.length c2, .slice B2 d.pen.length k2, .int .i64 d.left, .bool d.stop] :: box b2 29 [.int .i64 j.many, .int .i64 (S : Int), .slice A j.rcs.length c] :: ([] ++ F)))); (kernel_rfl)); (refine TrA.take 0 (by kernel_rfl) rfl (by kernel_rfl) (by first | exact fun _ _ _ h => h | exact fun _ _ _ h => nomatch h.1) (by exact (Sub.mem (by repeat (first | exact Sub.refl | apply Sub.cons)))) rfl (by exact Stab.loadW rfl (tysOk.get rfl) rfl (by repeat (first | exact Has.here | apply Has.there)) rfl) rfl rfl ?_); (refine TrA.take 1 (by kernel_rfl) rfl (by kernel_rfl) (by first | exact fun _ _ _ h => h | exact fun _ _ _ h => nomatch h.1) (by exact (Sub.mem (by repeat (first | exact Sub.refl | apply Sub.cons)))) rfl (by first | exact Stab.move rfl) rfl rfl ?_); (refine TrA.eff 2 rfl (by kernel_rfl) (by first | exact .inl rfl | exact .inr ⟨_, _, _, rfl, rfl, rfl⟩) ?_))
  refine Exec.call0 rfl hocc rfl ?_
  rintro _ _ _ ⟨rfl, rfl⟩
  refine ⟨Mem.le.refl _, (by exact (Sub.mem (by repeat (first | exact Sub.refl | apply Sub.cons)))), ?_⟩
  ((refine TrA.eff 3 rfl (by kernel_rfl) (by first | exact .inl rfl | exact .inr ⟨_, _, _, rfl, rfl, rfl⟩) ?_); (((refine Knd.store ?_); ((refine Exec.storeW rfl rfl (tysOk.get rfl) (by repeat (first | exact Upd.here | apply Upd.there)) rfl rfl (by repeat (first | exact AllOne.nil | refine AllOne.cons (by first | rfl | assumption) ?_)) ?_)))); (refine ⟨(by first | exact Mem.le.refl _ | assumption), (by exact (Sub.mem (by repeat (first | exact Sub.refl | apply Sub.cons)))), ?_⟩); (refine TrA.take 4 (by kernel_rfl) rfl (by kernel_rfl) (by first | exact fun _ _ _ h => h | exact fun _ _ _ h => nomatch h.1) (by exact (Sub.mem (by repeat (first | exact Sub.refl | apply Sub.cons)))) rfl (by first | exact Stab.assign rfl) rfl rfl ?_); (refine TrA.done (by kernel_rfl) ?_))
  repeat (first | ((with_reducible refine Tr.step rfl ?_); (first | ((with_reducible refine Knd.move ?_); (refine Exec.stab rfl (Stab.move rfl) rfl ?_)) | ((with_reducible refine Knd.load ?_); ((refine Exec.stab rfl (Stab.load rfl (tysOk.get rfl) rfl (by repeat (first | exact Has.here | apply Has.there)) rfl) rfl ?_))) | ((with_reducible refine Knd.fieldAddr ?_); ((refine Exec.stab rfl (Stab.fieldZ rfl (tysOk.get rfl) rfl rfl (tysOk.get rfl) rfl) rfl ?_))) | ((with_reducible refine Knd.len ?_); ((refine Exec.stab rfl (Stab.len rfl (tysOk.get rfl) rfl) rfl ?_))) | ((with_reducible refine Knd.slice ?_); ((refine Exec.stab rfl (Stab.slice_l rfl rfl (tysOk.get rfl) rfl (tysOk.get rfl) rfl (by omega) (by omega)) rfl ?_))))) | (with_reducible refine Tr.next ?_) | (with_reducible refine Tr.seq ?_) | (with_reducible refine Tr.region ?_) | (with_reducible refine Tr.nil ?_) | (with_reducible refine Tr.block ?_))
  rw [Int.toNat_natCast S]
  have hall : j.rcs = j.rcs.take S ++ j.rcs.drop S := (List.take_append_drop _ _).symm
  have hsum : occs j.rcs = occs (j.rcs.take S) + occs (j.rcs.drop S) := occs_split _ _
  have hTl : (j.rcs.drop S).length = j.rcs.length - S := List.length_drop
  generalize (if c = S then A else A.map (·.add (S * 1))) = A3 at hsub ⊢
  generalize c - S = c3 at hsub ⊢
  rw [← hTl] at hsub ⊢
  generalize hTT : j.rcs.drop S = T at hsub hsum hTl
  generalize ha0 : occs (j.rcs.take S) = a0 at hsum
  have hTlen := hsub.len_le
  refine Tr.loop (α := Nat × Mem × (Option Addr × Nat × Option Addr × Nat)) (fun y => ⟨103, [(67, .int .i64 y.1), (66, .int .i64 T.length), (65, .slice A3 T.length c3), (11, .int .i64 ((a0 + occs (T.take y.1) : Nat) : Int)), (10, .int .i64 (g : Int)), (5, .pointer (some ⟨b5, 0, none⟩)), (4, .pointer (some ⟨b4, 0, none⟩)), (3, .pointer (some ⟨b3, 0, none⟩)), (2, .pointer (some ⟨b2, 0, none⟩))], [], y.2.1, box b5 25 [.slice y.2.2.1 d.sec.length y.2.2.2.1, .slice y.2.2.2.2.1 (d.pen ++ wrsAll g a0 (T.take y.1)).length y.2.2.2.2.2, .int .i64 d.left, .bool d.stop] :: box b4 29 [.int .i64 0, .int .i64 0, .slice none 0 0] :: box b3 25 [.slice A2 d.sec.length c2, .slice B2 d.pen.length k2, .int .i64 d.left, .bool d.stop] :: box b2 29 [.int .i64 j.many, .int .i64 (S : Int), .slice A j.rcs.length c] :: ([] ++ F)⟩)
    (fun y => y.1 ≤ T.length ∧ Mem.le M1 y.2.1 ∧ RDisk y.2.1 (.agg #[.slice y.2.2.1 d.sec.length y.2.2.2.1, .slice y.2.2.2.2.1 (d.pen ++ wrsAll g a0 (T.take y.1)).length y.2.2.2.2.2, .int .i64 d.left, .bool d.stop]) (dAfter d (wrsAll g a0 (T.take y.1)))) (fun y => T.length - y.1) (0, M1, A2, c2, B2, k2) ⟨Nat.zero_le _, Mem.le.refl _, ?_⟩ ?_ (fun y hy => ?_)
  · simp only [List.take_zero, wrsAll, List.append_nil, dAfter]
    exact hD.mono hm1
  · simp only [List.take_zero, wrsAll, List.append_nil, occs, List.map_nil, List.sum_nil, Nat.add_zero]
    exact (holds_sub (by repeat (first | exact SubFr.nil | refine SubFr.cons rfl ?_)) (by repeat (first | exact DropL.refl | apply DropL.skip)))
  obtain ⟨i, M2, A4, c4, B4, k4⟩ := y
  obtain ⟨hi2, hm2, hD2⟩ := hy
  simp only at hi2 hm2 hD2
  dsimp only
  by_cases hlt : i < T.length
  · obtain ⟨x, hx⟩ := get_of_lt hlt
    obtain ⟨hA, ch, hat, A5, k5', rfl, hxb⟩ := (hsub.mono RSec.mono hm2).elem hx
    have hst := occs_take hx
    have hle := occs_le T (i + 1)
    have htk : T.take (i + 1) = T.take i ++ [x] := by rw [List.take_add_one, hx]; rfl
    have hru : runs (dAfter d (wrsAll g a0 (T.take i))) := wrsAll_runs ⟨hok, hst'⟩ (by omega) hpen
    have hpl : (dAfter d (wrsAll g a0 (T.take i))).pen.length = occs (T.take i) := by
      show (d.pen ++ _).length = _
      rw [hpen, List.nil_append, wrsAll_length]
    have hput := put_fn M2 _ (dAfter d (wrsAll g a0 (T.take i))) (a0 + occs (T.take i)) g A5 k5' x hD2 hru hxb (by show _ ≤ d.sec.length; omega) (by rw [hpl]; have := hok.2.1; omega) (by omega)
    have hnew : dAfter (dAfter d (wrsAll g a0 (T.take i))) (wrs g (a0 + occs (T.take i)) x) = dAfter d (wrsAll g a0 (T.take (i + 1))) := by
      rw [htk, wrsAll_snoc]
      simp only [dAfter, List.append_assoc]
    rw [hnew, Nat.add_assoc, ← hst] at hput
    repeat (first | ((with_reducible refine Tr.step rfl ?_); (first | ((with_reducible refine Knd.move ?_); (refine Exec.stab rfl (Stab.move rfl) rfl ?_)) | ((with_reducible refine Knd.assign ?_); (refine Exec.stab rfl (Stab.assign rfl) rfl ?_)) | ((with_reducible refine Knd.load ?_); (first | (refine Exec.stab rfl (Stab.loadW rfl (tysOk.get rfl) rfl (by repeat (first | exact Has.here | apply Has.there)) rfl) rfl ?_) | (refine Exec.stab rfl (Stab.loadM rfl (tysOk.get rfl) rfl (by assumption)) rfl ?_))) | ((with_reducible refine Knd.binOp ?_); ((refine Exec.stab rfl (Stab.int rfl rfl rfl) rfl ?_))) | ((with_reducible refine Knd.indexAddr ?_); ((refine Exec.stab rfl (Stab.indexAddr rfl rfl (tysOk.get rfl) rfl (tysOk.get rfl) rfl (by omega) (by omega) (by first | rfl | assumption)) rfl ?_))))) | (with_reducible refine Tr.next ?_) | (with_reducible refine Tr.seq ?_) | (with_reducible refine Tr.region ?_) | (with_reducible refine Tr.nil ?_) | (with_reducible refine Tr.skip ?_) | (with_reducible refine Tr.block ?_) | (refine Tr.cond_t rfl (by first | (with_reducible assumption) | (with_reducible rfl) | (with_reducible exact (not_not_intro rfl)) | omega) ?_))
    ((refine Tr.step rfl ?_)); refine Exec.call0 rfl (hput) rfl ?_
    rintro _ M3 hm3 ⟨v', rfl, hD3⟩
    obtain ⟨A6, c6, B6, k6, rfl, h61, h62⟩ := id hD3
    repeat (first | ((with_reducible refine Tr.step rfl ?_); (first | ((with_reducible refine Knd.move ?_); (refine Exec.stab rfl (Stab.move rfl) rfl ?_)) | ((with_reducible refine Knd.assign ?_); (refine Exec.stab rfl (Stab.assign rfl) rfl ?_)) | ((with_reducible refine Knd.binOp ?_); (first | (refine Exec.stab rfl (Stab.addi rfl rfl (by omega)) rfl ?_) | (refine Exec.stab rfl (Stab.int rfl rfl rfl) rfl ?_))) | ((with_reducible refine Knd.store ?_); ((refine Exec.storeW rfl rfl (tysOk.get rfl) (by repeat (first | exact Upd.here | apply Upd.there)) rfl rfl (by repeat (first | exact AllOne.nil | refine AllOne.cons (by first | rfl | assumption) ?_)) ?_))) | ((with_reducible refine Knd.extract ?_); (refine Exec.stab rfl (Stab.extract rfl rfl) rfl ?_)))) | (with_reducible refine Tr.next ?_) | (with_reducible refine Tr.seq ?_) | (with_reducible refine Tr.region ?_) | (with_reducible refine Tr.nil ?_) | (with_reducible refine Tr.skip ?_) | (with_reducible refine Tr.in_normal ?_) | (refine Tr.cond_f rfl (by first | (with_reducible assumption) | (with_reducible rfl) | (with_reducible exact (not_not_intro rfl)) | omega) ?_))
    refine Tr.again (i + 1, M3, A6, c6, B6, k6) ⟨by simp only; omega, hm2.trans hm3, hD3⟩ (by simp only; omega) (holds_sub (by repeat (first | exact SubFr.nil | refine SubFr.cons rfl ?_)) (by repeat (first | exact DropL.refl | apply DropL.skip)))
  have e : i = T.length := by omega
  subst e
  rw [List.take_length] at hD2 ⊢
  have hsy := sync_fn M2 _ _ hD2
  generalize hs : syncF (dAfter d (wrsAll g a0 T)) = s at hsy
  repeat (first | ((with_reducible refine Tr.step rfl ?_); (first | ((with_reducible refine Knd.load ?_); ((refine Exec.stab rfl (Stab.loadW rfl (tysOk.get rfl) rfl (by repeat (first | exact Has.here | apply Has.there)) rfl) rfl ?_))) | ((with_reducible refine Knd.binOp ?_); ((refine Exec.stab rfl (Stab.int rfl rfl rfl) rfl ?_))))) | (with_reducible refine Tr.next ?_) | (with_reducible refine Tr.seq ?_) | (with_reducible refine Tr.region ?_) | (with_reducible refine Tr.nil ?_) | (with_reducible refine Tr.exit ?_) | (with_reducible refine Tr.then_exit ?_) | ((with_reducible refine Tr.in_exit ?_ ?_); (exact rfl)) | (refine Tr.cond_f rfl (by first | (with_reducible assumption) | (with_reducible rfl) | (with_reducible exact (not_not_intro rfl)) | omega) ?_))
  ((refine Tr.step rfl ?_)); refine Exec.call0 rfl (hsy) rfl ?_
  rintro _ M3 hm3 ⟨v', rfl, hD3⟩
  obtain ⟨A6, c6, B6, k6, rfl, h61, h62⟩ := id hD3
  have hm13 := hm1.trans (hm2.trans hm3)
  have hfin : ∀ q, syncJ j d = q ↔ (if s.2 = 0 then ((⟨j.many, (j.rcs.length : Int), j.rcs⟩ : Jr), s.1, (0 : Int)) else (zJ, s.1, s.2)) = q := fun q => by
    rw [syncJ, if_pos hk, if_pos hi, if_pos (by rw [hT]; exact hrec), hgg, if_pos hg, if_neg (by rw [hS]; exact hSe), hT, ha0, hTT, hs]
  by_cases hs2 : s.2 = 0
  · rw [hs2]
    repeat (first | ((with_reducible refine Tr.step rfl ?_); (first | ((with_reducible refine Knd.move ?_); (refine Exec.stab rfl (Stab.move rfl) rfl ?_)) | ((with_reducible refine Knd.assign ?_); (refine Exec.stab rfl (Stab.assign rfl) rfl ?_)) | ((with_reducible refine Knd.load ?_); (first | (refine Exec.stab rfl (Stab.load rfl (tysOk.get rfl) rfl (by repeat (first | exact Has.here | apply Has.there)) rfl) rfl ?_) | (refine Exec.stab rfl (Stab.loadW rfl (tysOk.get rfl) rfl (by repeat (first | exact Has.here | apply Has.there)) rfl) rfl ?_))) | ((with_reducible refine Knd.fieldAddr ?_); ((refine Exec.stab rfl (Stab.fieldZ rfl (tysOk.get rfl) rfl rfl (tysOk.get rfl) rfl) rfl ?_))) | ((with_reducible refine Knd.len ?_); ((refine Exec.stab rfl (Stab.len rfl (tysOk.get rfl) rfl) rfl ?_))) | ((with_reducible refine Knd.binOp ?_); ((refine Exec.stab rfl (Stab.int rfl rfl rfl) rfl ?_))) | ((with_reducible refine Knd.store ?_); (first | (refine Exec.store rfl rfl (tysOk.get rfl) rfl (by first | rfl | assumption) (by repeat (first | exact Upd.here | apply Upd.there)) (by repeat (first | exact SetL.z | apply SetL.s)) ?_) | (refine Exec.storeW rfl rfl (tysOk.get rfl) (by repeat (first | exact Upd.here | apply Upd.there)) rfl rfl (by repeat (first | exact AllOne.nil | refine AllOne.cons (by first | rfl | assumption) ?_)) ?_))) | ((with_reducible refine Knd.extract ?_); (refine Exec.stab rfl (Stab.extract rfl rfl) rfl ?_)))) | (with_reducible refine Tr.next ?_) | (with_reducible refine Tr.seq ?_) | (with_reducible refine Tr.region ?_) | (with_reducible refine Tr.nil ?_) | (with_reducible refine Tr.skip ?_) | (refine Tr.cond_f rfl (by first | (with_reducible assumption) | (with_reducible rfl) | (with_reducible exact (not_not_intro rfl)) | omega) ?_))
    (((apply Tr.draw); (kernel_rfl)); (refine TrA.take 0 (by kernel_rfl) rfl (by kernel_rfl) (by first | exact fun _ _ _ h => h | exact fun _ _ _ h => nomatch h.1) (by exact fun _ h => h) rfl (by exact Stab.loadW rfl (tysOk.get rfl) rfl (by repeat (first | exact Has.here | apply Has.there)) rfl) rfl rfl ?_); (refine TrA.take 1 (by kernel_rfl) rfl (by kernel_rfl) (by first | exact fun _ _ _ h => h | exact fun _ _ _ h => nomatch h.1) (by exact fun _ h => h) rfl (by exact Stab.loadW rfl (tysOk.get rfl) rfl (by repeat (first | exact Has.here | apply Has.there)) rfl) rfl rfl ?_); (refine TrA.eff 2 rfl (by kernel_rfl) (by first | exact .inl rfl | exact .inr ⟨_, _, _, rfl, rfl, rfl⟩) ?_); (((refine Knd.store ?_); ((refine Exec.storeW rfl rfl (tysOk.get rfl) (by repeat (first | exact Upd.here | apply Upd.there)) rfl rfl (by repeat (first | exact AllOne.nil | refine AllOne.cons (by first | rfl | assumption) ?_)) ?_)))); (refine ⟨(by first | exact Mem.le.refl _ | assumption), (by exact fun _ h => h), ?_⟩); (refine TrA.eff 3 rfl (by kernel_rfl) (by first | exact .inl rfl | exact .inr ⟨_, _, _, rfl, rfl, rfl⟩) ?_); (((refine Knd.store ?_); ((refine Exec.storeW rfl rfl (tysOk.get rfl) (by repeat (first | exact Upd.here | apply Upd.there)) rfl rfl (by repeat (first | exact AllOne.nil | refine AllOne.cons (by first | rfl | assumption) ?_)) ?_)))); (refine ⟨(by first | exact Mem.le.refl _ | assumption), (by exact fun _ h => h), ?_⟩); (refine TrA.take 4 (by kernel_rfl) rfl (by kernel_rfl) (by first | exact fun _ _ _ h => h | exact fun _ _ _ h => nomatch h.1) (by exact fun _ h => h) rfl (by first | exact Stab.assign rfl) rfl rfl ?_); (refine TrA.done (by kernel_rfl) ?_))
    repeat (first | (with_reducible refine Tr.next ?_) | (with_reducible refine Tr.ret ?_))
    (refine Tr.done (by first | exact .inl rfl | exact .inr rfl) rfl (by repeat (first | exact RVs.nil | (apply RVs.cons; (first | exact RV.tmp rfl | exact RV.cellW (by rfl) (tysOk.get (by rfl)) (by rfl) (by repeat (first | exact Has.here | apply Has.there)) (by first | rfl | assumption))))) (by first | exact Mem.le.refl _ | assumption) (by exact ⟨[_, _, _, _], rfl⟩) ⟨rfl, ?_⟩)
    rw [(hfin _).2 (if_pos hs2)]
    exact ⟨_, _, rfl, ⟨A, c, rfl, h1.mono RSec.mono hm13⟩, hD3⟩
  · repeat (first | ((with_reducible refine Tr.step rfl ?_); (first | ((with_reducible refine Knd.move ?_); (refine Exec.stab rfl (Stab.move rfl) rfl ?_)) | ((with_reducible refine Knd.assign ?_); (refine Exec.stab rfl (Stab.assign rfl) rfl ?_)) | ((with_reducible refine Knd.binOp ?_); ((refine Exec.stab rfl (Stab.int rfl rfl rfl) rfl ?_))) | ((with_reducible refine Knd.store ?_); ((refine Exec.storeW rfl rfl (tysOk.get rfl) (by repeat (first | exact Upd.here | apply Upd.there)) rfl rfl (by repeat (first | exact AllOne.nil | refine AllOne.cons (by first | rfl | assumption) ?_)) ?_))) | ((with_reducible refine Knd.extract ?_); (refine Exec.stab rfl (Stab.extract rfl rfl) rfl ?_)))) | (with_reducible refine Tr.next ?_) | (with_reducible refine Tr.seq ?_) | (with_reducible refine Tr.region ?_) | (with_reducible refine Tr.nil ?_) | (refine Tr.cond_t rfl (by first | (with_reducible assumption) | (with_reducible rfl) | (with_reducible exact (not_not_intro rfl)) | omega) ?_))
    (((apply Tr.draw); (kernel_rfl)); (refine TrA.take 0 (by kernel_rfl) rfl (by kernel_rfl) (by first | exact fun _ _ _ h => h | exact fun _ _ _ h => nomatch h.1) (by exact fun _ h => h) rfl (by exact Stab.build tysOk rfl rfl rfl rfl (by repeat (exact BuildP.nil))) rfl rfl ?_); (refine TrA.take 1 (by kernel_rfl) rfl (by kernel_rfl) (by first | exact fun _ _ _ h => h | exact fun _ _ _ h => nomatch h.1) (by exact fun _ h => h) rfl (by exact Stab.loadW rfl (tysOk.get rfl) rfl (by repeat (first | exact Has.here | apply Has.there)) rfl) rfl rfl ?_); (refine TrA.take 2 (by kernel_rfl) rfl (by kernel_rfl) (by first | exact fun _ _ _ h => h | exact fun _ _ _ h => nomatch h.1) (by exact fun _ h => h) rfl (by first | exact Stab.move rfl) rfl rfl ?_); (refine TrA.eff 3 rfl (by kernel_rfl) (by first | exact .inl rfl | exact .inr ⟨_, _, _, rfl, rfl, rfl⟩) ?_); (((refine Knd.store ?_); ((refine Exec.storeW rfl rfl (tysOk.get rfl) (by repeat (first | exact Upd.here | apply Upd.there)) rfl rfl (by repeat (first | exact AllOne.nil | refine AllOne.cons (by first | rfl | assumption) ?_)) ?_)))); (refine ⟨(by first | exact Mem.le.refl _ | assumption), (by exact fun _ h => h), ?_⟩); (refine TrA.eff 4 rfl (by kernel_rfl) (by first | exact .inl rfl | exact .inr ⟨_, _, _, rfl, rfl, rfl⟩) ?_); (((refine Knd.store ?_); ((refine Exec.storeW rfl rfl (tysOk.get rfl) (by repeat (first | exact Upd.here | apply Upd.there)) rfl rfl (by repeat (first | exact AllOne.nil | refine AllOne.cons (by first | rfl | assumption) ?_)) ?_)))); (refine ⟨(by first | exact Mem.le.refl _ | assumption), (by exact fun _ h => h), ?_⟩); (refine TrA.take 5 (by kernel_rfl) rfl (by kernel_rfl) (by first | exact fun _ _ _ h => h | exact fun _ _ _ h => nomatch h.1) (by exact fun _ h => h) rfl (by first | exact Stab.assign rfl) rfl rfl ?_); (refine TrA.done (by kernel_rfl) ?_))
    repeat (first | (with_reducible refine Tr.next ?_) | (with_reducible refine Tr.ret ?_) | (with_reducible refine Tr.then_ret ?_))
    (refine Tr.done (by first | exact .inl rfl | exact .inr rfl) rfl (by repeat (first | exact RVs.nil | (apply RVs.cons; (first | exact RV.tmp rfl | exact RV.cellW (by rfl) (tysOk.get (by rfl)) (by rfl) (by repeat (first | exact Has.here | apply Has.there)) (by first | rfl | assumption))))) (by first | exact Mem.le.refl _ | assumption) (by exact ⟨[_, _, _, _], rfl⟩) ⟨rfl, ?_⟩)
    rw [(hfin _).2 (if_neg hs2)]
    exact ⟨_, _, rfl, RJr.zero _, hD3⟩
end Go.Proofs.Ytkbggengagockaa
/-
  The journal, plain: what was written is read.
  Conditions: none.
-/
namespace Go.Proofs.Ytkbggengagockaa
open Go Bf
/-! a sector that was built -/
section
variable {g n : Nat} {f : UInt8} {p : List UInt8}
theorem gen_bF (hg : g < 4294967296) : gen (bF g n f p) = g := by
  have : (bF g n f p).take 4 = be4 g := rfl
  rw [gen, this, be_be4 hg]
theorem bF_drop8 : (bF g n f p).drop 8 = bodyF n f p ++ be4 g := rfl
theorem body_bF (hl : p.length ≤ 112) : body (bF g n f p) = bodyF n f p := by
  rw [body, bF_drop8, List.take_left' (bodyF_length hl)]
theorem tail_bF (hl : p.length ≤ 112) : (bF g n f p).drop 124 = be4 g := by
  have : (bF g n f p).drop 124 = ((bF g n f p).drop 8).drop 116 := by rw [List.drop_drop]
  rw [this, bF_drop8, List.drop_left' (bodyF_length hl)]
theorem sum_bF : ((bF g n f p).drop 4).take 4 = be4 (crc (bodyF n f p)).toNat := rfl
theorem num_bF (hn : n < 65536) : num (bF g n f p) = n := by
  have h1 : (bF g n f p).getD 8 0 = UInt8.ofNat (n / 256) := rfl
  have h2 : (bF g n f p).getD 9 0 = UInt8.ofNat n := rfl
  rw [num, h1, h2]
  simp only [UInt8.toNat_ofNat']
  omega
theorem kind_bF : kind (bF g n f p) = f := rfl
theorem many_bF (hl : p.length ≤ 112) : many (bF g n f p) = p.length := by
  have h1 : (bF g n f p).getD 11 0 = UInt8.ofNat p.length := rfl
  rw [many, h1]
  simp only [UInt8.toNat_ofNat']
  omega
theorem bF_drop12 : (bF g n f p).drop 12 = p ++ List.replicate (112 - p.length) 0 ++ be4 g := rfl
theorem dat_bF (hl : p.length ≤ 112) : dat (bF g n f p) = p := by
  rw [dat, many_bF hl, bF_drop12, Nat.add_sub_cancel_left, List.append_assoc, List.take_left' rfl]
theorem rest_bF (hl : p.length ≤ 112) : rest (bF g n f p) = List.replicate (112 - p.length) 0 := by
  rw [rest, many_bF hl, ← List.drop_drop, bF_drop12, List.append_assoc, List.drop_left' rfl, List.take_left' (by rw [List.length_replicate]; omega)]
theorem good_bF (hl : p.length ≤ 112) (hg0 : g ≠ 0) (hg : g < 4294967296) (hn : n < 65536) (hf : f.toNat ≤ 3) (h1 : f.toNat < 2 → p.length = 112) (h2 : f.toNat % 2 = 0 → p.length ≠ 0) : goodS (bF g n f p) n := by
  refine ⟨by rw [gen_bF hg]; exact hg0, by rw [gen_bF hg, tail_bF hl, be_be4 hg], num_bF hn, hf, by rw [many_bF hl]; exact hl, ?_, fun x hx => ?_, fun h => ?_, fun h => ?_⟩
  · rw [body_bF hl, sum_bF, be_be4 (crc _).toNat_lt]
  · rw [rest_bF hl] at hx
    exact List.eq_of_mem_replicate hx
  · rw [many_bF hl, kind_bF] at h
    exact h.2 (h1 h.1)
  · rw [many_bF hl, kind_bF] at h
    exact h2 h.1 h.2
end
/-! the sectors of a record -/
theorem flg_toNat (i n : Nat) : (flg i n).toNat = (if i = 0 then 1 else 0) + (if i + 1 = n then 2 else 0) := by
  unfold flg
  split <;> split <;> rfl
def secsFrom (g at_ : Nat) (p : List UInt8) (i n : Nat) : List (List UInt8) := (List.range' i n).map fun j => bF g (at_ + j) (flg j (occ p.length)) (piece p j)
theorem secsFrom_length (g at_ : Nat) (p : List UInt8) (i n : Nat) : (secsFrom g at_ p i n).length = n := by simp [secsFrom]
theorem begs_bF {g n : Nat} {p : List UInt8} {i m : Nat} : begs (bF g n (flg i m) p) = decide (i = 0) := by
  rw [begs, kind_bF, flg_toNat]
  apply decide_eq_decide.2
  split <;> split <;> omega
theorem ends_bF {g n : Nat} {p : List UInt8} {i m : Nat} : ends (bF g n (flg i m) p) = decide (i + 1 = m) := by
  rw [ends, kind_bF, flg_toNat]
  apply decide_eq_decide.2
  split <;> split <;> omega
theorem read_from {g at_ : Nat} {p : List UInt8} (hg0 : g ≠ 0) (hg : g < 4294967296) (hat : at_ + occ p.length ≤ 65536) (X : List (List UInt8)) :
    ∀ (n i : Nat), i + n = occ p.length → 0 < n → readR g (secsFrom g at_ p i n ++ X) (at_ + i) (decide (i = 0)) = some (p.drop (112 * i), at_ + occ p.length)
  | 0, _, _, h => absurd h (by omega)
  | n + 1, i, hin, _ => by
    have hpl := piece_length p i
    have hple := piece_le p i
    have hocc : occ p.length = max 1 ((p.length + 111) / 112) := rfl
    rw [secsFrom, List.range'_succ, List.map_cons, List.cons_append, readR]
    have hgood : goodS (bF g (at_ + i) (flg i (occ p.length)) (piece p i)) (at_ + i) := by
      refine good_bF hple hg0 hg (by omega) (by rw [flg_toNat]; split <;> split <;> omega) (fun h => ?_) (fun h => ?_)
      · rw [flg_toNat] at h
        have : ¬ i + 1 = occ p.length := fun e => by rw [if_pos e] at h; omega
        omega
      · rw [flg_toNat] at h
        have : ¬ i = 0 := fun e => by rw [if_pos e] at h; split at h <;> omega
        omega
    rw [if_pos ⟨hgood, gen_bF hg, begs_bF⟩, ends_bF, dat_bF hple]
    by_cases hend : i + 1 = occ p.length
    · rw [decide_eq_true hend, if_pos rfl]
      congr 2
      · rw [piece, List.take_of_length_le]
        rw [List.length_drop]
        omega
      · omega
    · rw [decide_eq_false hend, if_neg (by decide)]
      have ih := read_from hg0 hg hat X n (i + 1) (by omega) (by omega)
      rw [show decide (i + 1 = 0) = false from rfl] at ih
      rw [show at_ + i + 1 = at_ + (i + 1) by omega]
      rw [show (List.map (fun j => bF g (at_ + j) (flg j (occ p.length)) (piece p j)) (List.range' (i + 1) n)) = secsFrom g at_ p (i + 1) n from rfl, ih, Option.map_some]
      congr 2
      rw [piece, show 112 * (i + 1) = 112 * i + 112 by omega, ← List.drop_drop, List.take_append_drop]
/-- the sectors of a record -/
def secs (g at_ : Nat) (p : List UInt8) : List (List UInt8) := secsFrom g at_ p 0 (occ p.length)
theorem secs_length (g at_ : Nat) (p : List UInt8) : (secs g at_ p).length = occ p.length := secsFrom_length _ _ _ _ _
theorem read_secs {g at_ : Nat} {p : List UInt8} (hg0 : g ≠ 0) (hg : g < 4294967296) (hat : at_ + occ p.length ≤ 65536) (X : List (List UInt8)) : readR g (secs g at_ p ++ X) at_ true = some (p, at_ + occ p.length) := by
  have := read_from hg0 hg hat X (occ p.length) 0 (by omega) (occ_pos _)
  rw [Nat.mul_zero, List.drop_zero, Nat.add_zero] at this
  exact this
/-! the records, without fuel -/
theorem recsF_fuel : ∀ (f : Nat) (l : List (List UInt8)) (a b : Nat), l.length ≤ f → recsF f l a b = recsF l.length l a b := by
  intro f
  induction f using Nat.strongRecOn with
  | _ f ih =>
    intro l a b h
    match f, l, h with
    | 0, [], _ => rfl
    | f + 1, [], _ => rfl
    | f + 1, s :: t, h =>
      rw [List.length_cons, recsF, recsF]
      split
      · rfl
      · split
        · rfl
        · rename_i r k hr
          have hgt := readR_gt hr
          rw [List.length_cons] at h
          have e : ((s :: t).drop (k - a)).length ≤ t.length := by
            rw [List.length_drop, List.length_cons]; omega
          rw [ih f (by omega) _ _ _ (by omega)]
          by_cases ht : t.length < f + 1
          · rw [← ih t.length ht _ _ _ e]
          · omega
def recsL (l : List (List UInt8)) (a b : Nat) : List (List UInt8) := recsF l.length l a b
theorem recs_eq (l : List (List UInt8)) : recs l = recsL l 0 0 := rfl
theorem recsL_nil (a b : Nat) : recsL [] a b = [] := rfl
theorem recsL_cons (s : List UInt8) (t : List (List UInt8)) (a b : Nat) : recsL (s :: t) a b = if gen s < b then [] else
    match readR (gen s) (s :: t) a true with
    | none => []
    | some (r, k) => r :: recsL ((s :: t).drop (k - a)) k (gen s) := by
  rw [recsL, List.length_cons, recsF]
  by_cases h : gen s < b
  · rw [if_pos h, if_pos h]
  · rw [if_neg h, if_neg h]
    cases hr : readR (gen s) (s :: t) a true with
    | none => rfl
    | some q =>
      obtain ⟨r, k⟩ := q
      have hgt := readR_gt hr
      simp only
      rw [recsF_fuel t.length _ _ _ (by rw [List.length_drop, List.length_cons]; rw [List.length_cons] at hgt; omega)]
      rfl
theorem recsL_low {X : List (List UInt8)} {a g : Nat} (h : ∀ s ∈ X, gen s < g) : recsL X a g = [] := by
  cases X with
  | nil => rfl
  | cons s t => rw [recsL_cons, if_pos (h s List.mem_cons_self)]
theorem secs_cons (g at_ : Nat) (p : List UInt8) : ∃ t, secs g at_ p = bF g at_ (flg 0 (occ p.length)) (piece p 0) :: t := by
  obtain ⟨n, hn⟩ : ∃ n, occ p.length = n + 1 := ⟨occ p.length - 1, by have := occ_pos p.length; omega⟩
  exact ⟨secsFrom g at_ p 1 n, by rw [secs, secsFrom, hn, List.range'_succ, List.map_cons, secsFrom, hn]; rfl⟩
theorem recsL_secs {g at_ least : Nat} {p : List UInt8} (hg0 : g ≠ 0) (hg : g < 4294967296) (hat : at_ + occ p.length ≤ 65536) (hle : least ≤ g) (X : List (List UInt8)) :
    recsL (secs g at_ p ++ X) at_ least = p :: recsL X (at_ + occ p.length) g := by
  have hr := read_secs hg0 hg hat X
  have hl := secs_length g at_ p
  obtain ⟨t, ht⟩ := secs_cons g at_ p
  rw [ht] at hr hl ⊢
  rw [List.cons_append] at hr ⊢
  rw [recsL_cons, gen_bF hg, if_neg (by omega), hr]
  simp only
  congr 2
  rw [Nat.add_sub_cancel_left, ← List.cons_append, List.drop_left' hl]
/-- the sectors of records, one after the other -/
def secsAll (g : Nat) : Nat → List (List UInt8) → List (List UInt8)
  | _, [] => []
  | at_, b :: l => secs g at_ b ++ secsAll g (at_ + occ b.length) l
theorem secsAll_length (g : Nat) : ∀ (l : List (List UInt8)) (at_ : Nat), (secsAll g at_ l).length = occs l
  | [], _ => rfl
  | b :: l, at_ => by rw [secsAll, List.length_append, secs_length, secsAll_length g l]; simp [occs]
theorem occs_cons (b : List UInt8) (l : List (List UInt8)) : occs (b :: l) = occ b.length + occs l := by simp [occs]
theorem recsL_all {g : Nat} (hg0 : g ≠ 0) (hg : g < 4294967296) (X : List (List UInt8)) : ∀ (l : List (List UInt8)) (at_ least : Nat), at_ + occs l ≤ 65536 → least ≤ g →
    recsL (secsAll g at_ l ++ X) at_ least = l ++ recsL X (at_ + occs l) (if l = [] then least else g)
  | [], at_, least, _, _ => by simp [secsAll, occs]
  | b :: l, at_, least, h, hle => by
    rw [occs_cons] at h ⊢
    rw [secsAll, List.append_assoc, recsL_secs hg0 hg (by omega) hle, recsL_all hg0 hg X l _ _ (by omega) (Nat.le_refl _), List.cons_append, Nat.add_assoc, if_neg (List.cons_ne_nil _ _)]
    congr 3
    split <;> rfl
end Go.Proofs.Ytkbggengagockaa
/-
  The journal, plain: what a sync leaves is read.
  Conditions: none.
-/
namespace Go.Proofs.Ytkbggengagockaa
open Go Bf
theorem readR_occ {g : Nat} : ∀ {l : List (List UInt8)} {k : Nat} {first : Bool} {b : List UInt8} {m : Nat}, (∀ s ∈ l, s.length = 128) → readR g l k first = some (b, m) →
    (first = true → m = k + occ b.length) ∧ (first = false → 1 ≤ b.length ∧ m = k + (b.length + 111) / 112)
  | [], _, _, _, _, _, h => by cases h
  | s :: t, k, first, b, m, h128, h => by
    have hs := h128 s List.mem_cons_self
    rw [readR] at h
    split at h
    · rename_i hc
      obtain ⟨hg, -, hb⟩ := hc
      have hm := hg.2.2.2.2.1
      have hdl := dat_length hs hm
      have hbeg : first = false → many s ≠ 0 := fun hf h0 => by
        rw [hf] at hb
        unfold begs at hb
        rw [decide_eq_false_iff_not] at hb
        exact hg.2.2.2.2.2.2.2.2 ⟨by omega, h0⟩
      split at h
      · simp only [Option.some.injEq, Prod.mk.injEq] at h
        obtain ⟨rfl, rfl⟩ := h
        rw [hdl]
        refine ⟨fun _ => ?_, fun hf => ?_⟩
        · unfold occ; omega
        · have := hbeg hf; omega
      · rename_i hne
        have h112 : many s = 112 := by
          have h1 := hg.2.2.2.2.2.2.2.1
          unfold ends at hne
          rw [decide_eq_true_eq] at hne
          by_cases e : many s = 112
          · exact e
          · exact absurd ⟨by omega, e⟩ h1
        cases h2 : readR g t (k + 1) false with
        | none => rw [h2] at h; cases h
        | some q =>
          obtain ⟨b2, m2⟩ := q
          rw [h2] at h
          simp only [Option.map_some, Option.some.injEq, Prod.mk.injEq] at h
          obtain ⟨rfl, rfl⟩ := h
          have ih := (readR_occ (fun x hx => h128 x (List.mem_cons_of_mem _ hx)) h2).2 rfl
          rw [List.length_append, hdl, h112]
          refine ⟨fun _ => ?_, fun _ => ?_⟩
          · unfold occ; omega
          · omega
    · cases h
theorem readR_take {g : Nat} : ∀ {l : List (List UInt8)} {k : Nat} {first : Bool} {b : List UInt8} {m : Nat}, readR g l k first = some (b, m) → ∀ X, readR g (l.take (m - k) ++ X) k first = some (b, m)
  | [], _, _, _, _, h, _ => by cases h
  | s :: t, k, first, b, m, h, X => by
    have hgt := readR_gt h
    obtain ⟨j, hj⟩ : ∃ j, m - k = j + 1 := ⟨m - k - 1, by omega⟩
    rw [hj, List.take_succ_cons, List.cons_append, readR]
    rw [readR] at h
    split at h
    · rename_i hc
      rw [if_pos hc]
      split at h
      · rename_i he
        rw [if_pos he]
        exact h
      · rename_i he
        rw [if_neg he]
        cases h2 : readR g t (k + 1) false with
        | none => rw [h2] at h; cases h
        | some q =>
          obtain ⟨b2, m2⟩ := q
          rw [h2] at h
          simp only [Option.map_some, Option.some.injEq, Prod.mk.injEq] at h
          obtain ⟨rfl, rfl⟩ := h
          have ih := readR_take h2 X
          rw [show m2 - (k + 1) = j by omega] at ih
          rw [ih]
          rfl
    · cases h
theorem recsL_prefix (G : Nat) : ∀ (n : Nat) (L : List (List UInt8)), L.length ≤ n → (∀ s ∈ L, s.length = 128) → (∀ s ∈ L, gen s ≤ G) → ∀ (a least : Nat), least ≤ G →
    occs (recsL L a least) ≤ L.length ∧ ∀ X, ∃ g0, g0 ≤ G ∧ recsL (L.take (occs (recsL L a least)) ++ X) a least = recsL L a least ++ recsL X (a + occs (recsL L a least)) g0 := by
  intro n
  induction n with
  | zero =>
    intro L hL _ _ a least hle
    have : L = [] := List.eq_nil_of_length_eq_zero (by omega)
    subst this
    rw [recsL_nil]
    exact ⟨by simp [occs], fun X => ⟨least, hle, by simp [occs]⟩⟩
  | succ n ih =>
    intro L hL h128 hG a least hle
    have hstop : recsL L a least = [] → occs (recsL L a least) ≤ L.length ∧ ∀ X, ∃ g0, g0 ≤ G ∧ recsL (L.take (occs (recsL L a least)) ++ X) a least = recsL L a least ++ recsL X (a + occs (recsL L a least)) g0 := fun e => by
      rw [e]
      exact ⟨by simp [occs], fun X => ⟨least, hle, by simp [occs]⟩⟩
    cases L with
    | nil => exact hstop rfl
    | cons s t =>
      by_cases hlow : gen s < least
      · exact hstop (by rw [recsL_cons, if_pos hlow])
      · cases hr : readR (gen s) (s :: t) a true with
        | none => exact hstop (by rw [recsL_cons, if_neg hlow, hr])
        | some q =>
          obtain ⟨r, k⟩ := q
          have hgt := readR_gt hr
          have hk := (readR_occ h128 hr).1 rfl
          have hoc := occ_pos r.length
          have e0 : recsL (s :: t) a least = r :: recsL ((s :: t).drop (k - a)) k (gen s) := by rw [recsL_cons, if_neg hlow, hr]
          have hkk : k - a = occ r.length := by omega
          rw [hkk] at e0
          have hdl : ((s :: t).drop (occ r.length)).length = (s :: t).length - occ r.length := List.length_drop
          obtain ⟨i1, i2⟩ := ih ((s :: t).drop (occ r.length)) (by omega) (fun x hx => h128 x (List.mem_of_mem_drop hx)) (fun x hx => hG x (List.mem_of_mem_drop hx)) k (gen s) (hG s List.mem_cons_self)
          generalize hR : recsL ((s :: t).drop (occ r.length)) k (gen s) = R' at e0 i1 i2
          rw [e0, occs_cons]
          refine ⟨by omega, fun X => ?_⟩
          obtain ⟨g0, hg0, hX⟩ := i2 X
          refine ⟨g0, hg0, ?_⟩
          have htake : (s :: t).take (occ r.length + occs R') ++ X = (s :: t).take (occ r.length) ++ (((s :: t).drop (occ r.length)).take (occs R') ++ X) := by
            rw [List.take_add, List.append_assoc]
          rw [htake]
          generalize ((s :: t).drop (occ r.length)).take (occs R') ++ X = Y at hX
          have hrt := readR_take hr Y
          rw [hkk] at hrt
          have htl : ((s :: t).take (occ r.length)).length = occ r.length := by rw [List.length_take]; omega
          obtain ⟨j, hj⟩ : ∃ j, occ r.length = j + 1 := ⟨occ r.length - 1, by omega⟩
          rw [hj, List.take_succ_cons] at hrt htl ⊢
          rw [List.cons_append] at hrt ⊢
          rw [recsL_cons, if_neg hlow, hrt]
          simp only
          rw [hkk, hj, ← List.cons_append, List.drop_left' htl, hX, List.cons_append, show a + (j + 1 + occs R') = k + occs R' by omega]
/-! the writes, performed -/
theorem perf_append (s : List (List UInt8)) (p q : List (Int × List UInt8)) : perf s (p ++ q) = perf (perf s p) q := by simp [perf, List.foldl_append]
theorem take_set_succ {α : Type} (D : List α) (k : Nat) (x : α) (h : k < D.length) : (D.set k x).take (k + 1) = D.take k ++ [x] := by
  rw [List.take_add_one, List.getElem?_set_self h, List.take_set_of_le (Nat.le_refl _)]; rfl
theorem drop_set_lt {α : Type} (D : List α) (k m : Nat) (x : α) (h : k < m) : (D.set k x).drop m = D.drop m := by
  rw [List.drop_set_of_lt h]
theorem perf_from (g at_ : Nat) (p : List UInt8) : ∀ (n i : Nat) (D : List (List UInt8)), at_ + i + n ≤ D.length →
    perf D ((List.range' i n).map (wr1 g at_ p)) = D.take (at_ + i) ++ secsFrom g at_ p i n ++ D.drop (at_ + i + n)
  | 0, i, D, _ => by simp [perf, secsFrom]
  | n + 1, i, D, h => by
    have ih := perf_from g at_ p n (i + 1) (D.set (at_ + i) (bF g (at_ + i) (flg i (occ p.length)) (piece p i))) (by rw [List.length_set]; omega)
    rw [List.range'_succ, List.map_cons]
    have e : perf D (wr1 g at_ p i :: (List.range' (i + 1) n).map (wr1 g at_ p)) = perf (D.set (at_ + i) (bF g (at_ + i) (flg i (occ p.length)) (piece p i))) ((List.range' (i + 1) n).map (wr1 g at_ p)) := by
      simp only [perf, List.foldl_cons, wr1]
      rw [Int.toNat_natCast]
    rw [e, ih, show at_ + (i + 1) = at_ + i + 1 by omega, take_set_succ _ _ _ (by omega), drop_set_lt _ _ _ _ (by omega), secsFrom, secsFrom, List.range'_succ, List.map_cons, show at_ + i + 1 + n = at_ + i + (n + 1) by omega]
    simp only [List.append_assoc, List.cons_append, List.nil_append]
theorem perf_wrs (g at_ : Nat) (p : List UInt8) (D : List (List UInt8)) (h : at_ + occ p.length ≤ D.length) : perf D (wrs g at_ p) = D.take at_ ++ secs g at_ p ++ D.drop (at_ + occ p.length) := by
  have := perf_from g at_ p (occ p.length) 0 D (by omega)
  rw [Nat.add_zero] at this
  rw [wrs, List.range_eq_range', secs]
  exact this
theorem perf_wrsAll (g : Nat) : ∀ (l : List (List UInt8)) (at_ : Nat) (D : List (List UInt8)), at_ + occs l ≤ D.length → perf D (wrsAll g at_ l) = D.take at_ ++ secsAll g at_ l ++ D.drop (at_ + occs l)
  | [], at_, D, _ => by simp [wrsAll, secsAll, occs, perf]
  | b :: l, at_, D, h => by
    rw [occs_cons] at h ⊢
    have hl : (D.take at_ ++ secs g at_ b).length = at_ + occ b.length := by rw [List.length_append, secs_length, List.length_take]; omega
    rw [wrsAll, perf_append, perf_wrs _ _ _ _ (by omega), perf_wrsAll g l _ _ (by rw [List.length_append, hl, List.length_drop]; omega), List.take_left' hl, secsAll]
    rw [show at_ + occ b.length + occs l = (at_ + occ b.length) + occs l from rfl, ← List.drop_drop, List.drop_left' hl, List.drop_drop]
    simp only [List.append_assoc, Nat.add_assoc]
/-! generations -/
theorem gmax_ge : ∀ (l : List (List UInt8)) (n : Nat), n ≤ l.foldl (fun g s => max (max g (gen s)) (be (s.drop 124))) n ∧ ∀ s ∈ l, gen s ≤ l.foldl (fun g s => max (max g (gen s)) (be (s.drop 124))) n
  | [], n => ⟨Nat.le_refl _, fun s h => by cases h⟩
  | x :: l, n => by
    rw [List.foldl_cons]
    have := gmax_ge l (max (max n (gen x)) (be (x.drop 124)))
    refine ⟨by omega, fun s hs => ?_⟩
    rcases List.mem_cons.1 hs with rfl | h
    · omega
    · exact this.2 s h
theorem gen_le_gmax {l : List (List UInt8)} {s : List UInt8} (h : s ∈ l) : gen s ≤ gmax l := (gmax_ge l 0).2 s h
theorem recs_occs {D : List (List UInt8)} (h128 : ∀ s ∈ D, s.length = 128) : occs (recs D) ≤ D.length :=
  (recsL_prefix (gmax D) D.length D (Nat.le_refl _) h128 (fun _ h => gen_le_gmax h) 0 0 (Nat.zero_le _)).1
/-- what is read behind the records of before -/
theorem recs_behind {D : List (List UInt8)} (h128 : ∀ s ∈ D, s.length = 128) (X : List (List UInt8)) : ∃ g0, g0 ≤ gmax D ∧ recs (D.take (occs (recs D)) ++ X) = recs D ++ recsL X (occs (recs D)) g0 := by
  obtain ⟨g0, h1, h2⟩ := (recsL_prefix (gmax D) D.length D (Nat.le_refl _) h128 (fun _ h => gen_le_gmax h) 0 0 (Nat.zero_le _)).2 X
  rw [Nat.zero_add] at h2
  exact ⟨g0, h1, h2⟩
theorem sync_reads {D T : List (List UInt8)} (h128 : ∀ s ∈ D, s.length = 128) (hT : occs (recs D) + occs T ≤ 65536) (hg : gmax D + 1 < 4294967296) :
    recs (D.take (occs (recs D)) ++ secsAll (gmax D + 1) (occs (recs D)) T ++ D.drop (occs (recs D) + occs T)) = recs D ++ T := by
  obtain ⟨g0, h1, h2⟩ := recs_behind h128 (secsAll (gmax D + 1) (occs (recs D)) T ++ D.drop (occs (recs D) + occs T))
  rw [List.append_assoc, h2]
  by_cases e : T = []
  · subst e
    obtain ⟨g1, h3, h4⟩ := recs_behind h128 (D.drop (occs (recs D)))
    have e2 : secsAll (gmax D + 1) (occs (recs D)) [] ++ D.drop (occs (recs D) + occs []) = D.drop (occs (recs D)) := by simp [secsAll, occs]
    rw [e2] at h2 ⊢
    rw [← h2, List.take_append_drop, List.append_nil]
  · rw [recsL_all (by omega) hg _ T _ _ hT (by omega), if_neg e, recsL_low, List.append_nil]
    intro s hs
    have := gen_le_gmax (List.mem_of_mem_drop hs)
    omega
end Go.Proofs.Ytkbggengagockaa
/-
  The disk: the contract of New.
  Conditions: none.
-/
namespace Go.Proofs.Ytkbggengagockaa
open Go Bf
attribute [local irreducible] Tr Exec Stab HasTy Go.Addr.add IntKind.wrap
def zsec : List UInt8 := List.replicate 128 0
def newF (n : Int) : Dsk × Int := if 1 ≤ n ∧ n ≤ 4096 then (⟨List.replicate n.toNat zsec, [], -1, false⟩, 0) else (zD, 1)

/-- the cells of a half made table of sectors -/
def Half (M : Mem) (n i : Nat) (cs : List Value) : Prop := cs.length = n ∧ (∀ u ∈ cs, u.oneCell' = true) ∧ ∀ j, j < i → ∃ A k, cs[j]? = some (.slice A 128 k) ∧ BSl M (.slice A 128 k) zsec
theorem Half.set {M M' : Mem} {n i : Nat} {cs : List Value} {A : Option Addr} {k : Nat} (h : Half M n i cs) (hi : i < n) (hm : Mem.le M M') (hb : BSl M' (.slice A 128 k) zsec) : Half M' n (i + 1) (cs.set i (.slice A 128 k)) := by
  obtain ⟨h1, h2, h3⟩ := h
  refine ⟨by simpa using h1, fun u hu => ?_, fun j hj => ?_⟩
  · rcases List.mem_or_eq_of_mem_set hu with h | rfl
    · exact h2 u h
    · rfl
  · by_cases e : j = i
    · subst e
      exact ⟨A, k, by rw [List.getElem?_set_self (by omega)], hb⟩
    · obtain ⟨A, k, h4, h5⟩ := h3 j (by omega)
      exact ⟨A, k, by rw [List.getElem?_set_ne (by omega)]; exact h4, h5.mono hm⟩
theorem Half.done {M : Mem} {n : Nat} {cs : List Value} {b t : Nat} (h : Half M n n cs) (hb : (box b t cs).ok M) (hn : n ≤ 9223372036854775807) : SlOf 1 RSec M (.slice (some ⟨b, 0, none⟩) n n) (List.replicate n zsec) := by
  obtain ⟨h1, h2, h3⟩ := h
  have hr := Row.of_box (n := n) (sz := 1) hb (by omega) (fun u hu => h2 u (List.mem_of_mem_take hu))
  have e : cs.take (n * 1) = cs := by rw [List.take_of_length_le]; omega
  rw [e] at hr
  have hs : SlOf 1 RSec M (.slice (some ⟨b, 0, none⟩) (List.replicate n zsec).length n) (List.replicate n zsec) := by
    refine ⟨_, _, cs, rfl, by simp, hn, fun h => (by cases h), by simpa using hr, fun i x hx => ?_⟩
    obtain ⟨hi, e⟩ := List.getElem?_eq_some_iff.1 hx
    simp at hi e
    subst e
    obtain ⟨A, k, h4, h5⟩ := h3 i hi
    refine ⟨A, k, ?_, h5⟩
    rw [List.getElem?_eq_some_iff] at h4
    obtain ⟨h6, h7⟩ := h4
    rw [Nat.mul_one, List.take_one, List.head?_drop, List.getElem?_eq_getElem h6, h7]; rfl
  simpa using hs

set_option maxHeartbeats 1000000 in
theorem new_fn (M : Mem) (n : Int) :
    Fn0 Try.prog 25 [.int .i64 n] M (fun r M' => RPair M' r (newF n)) := by
  refine Fn.intro Try.func25 rfl rfl Try.ntmps25 rfl fun E F => ?_
  by_cases hn : 1 ≤ n ∧ n ≤ 4096
  · obtain ⟨hn1, hn2⟩ := hn
    obtain ⟨m, rfl⟩ : ∃ m : Nat, n = (m : Int) := ⟨n.toNat, by omega⟩
    repeat (first | ((with_reducible refine Tr.step rfl ?_); (first | ((with_reducible refine Knd.move ?_); (refine Exec.stab rfl (Stab.move rfl) rfl ?_)) | ((with_reducible refine Knd.assign ?_); (refine Exec.stab rfl (Stab.assign rfl) rfl ?_)) | ((with_reducible refine Knd.load ?_); ((refine Exec.stab rfl (Stab.load rfl (tysOk.get rfl) rfl (by repeat (first | exact Has.here | apply Has.there)) rfl) rfl ?_))) | ((with_reducible refine Knd.fieldAddr ?_); ((refine Exec.stab rfl (Stab.fieldZ rfl (tysOk.get rfl) rfl rfl (tysOk.get rfl) rfl) rfl ?_))) | ((with_reducible refine Knd.len ?_); ((refine Exec.stab rfl (Stab.len rfl (tysOk.get rfl) rfl) rfl ?_))) | ((with_reducible refine Knd.binOp ?_); ((refine Exec.stab rfl (Stab.int rfl rfl rfl) rfl ?_))) | ((with_reducible refine Knd.pick ?_); ((refine Exec.stab rfl (Stab.pick_fd rfl (by first | (with_reducible assumption) | (with_reducible rfl) | (with_reducible exact (not_not_intro rfl)) | omega) rfl) rfl ?_))) | ((with_reducible refine Knd.store ?_); ((refine Exec.store rfl rfl (tysOk.get rfl) rfl (by first | rfl | assumption) (by repeat (first | exact Upd.here | apply Upd.there)) (by repeat (first | exact SetL.z | apply SetL.s)) ?_))) | ((with_reducible refine Knd.alloc ?_); (first | (refine Exec.alloc (tysOk.get rfl) rfl rfl (fun b => ?_)) | (refine Exec.alloc1 (tysOk.get rfl) rfl rfl rfl (fun b => ?_)))) | ((with_reducible refine Knd.makeSlice ?_); (refine Exec.make rfl rfl (tysOk.get rfl) rfl (tysOk.get rfl) rfl rfl rfl (by omega) (by omega) (by first | omega | (simp; done) | (simp; omega)) (by omega) rfl (fun b => ?_))))) | (with_reducible refine Tr.next ?_) | (with_reducible refine Tr.seq ?_) | (with_reducible refine Tr.region ?_) | (with_reducible refine Tr.nil ?_) | ((refine Tr.guard_y' rfl rfl rfl (by first | (with_reducible assumption) | (with_reducible rfl) | (with_reducible exact (not_not_intro rfl)) | omega) ?_); (first | ((with_reducible refine Knd.move ?_); (refine Exec.stab rfl (Stab.move rfl) rfl ?_)) | ((with_reducible refine Knd.binOp ?_); ((refine Exec.stab rfl (Stab.int rfl rfl rfl) rfl ?_))))) | (with_reducible refine Tr.skip ?_) | (with_reducible refine Tr.block ?_) | (refine Tr.cond_f rfl (by first | (with_reducible assumption) | (with_reducible rfl) | (with_reducible exact (not_not_intro rfl)) | omega) ?_))
    refine Tr.loop (α := Nat × Mem × List Value) (fun x => ⟨29, [(18, .int .i64 x.1), (17, .int .i64 m), (16, .slice (some ⟨_, 0, none⟩) m m), (2, .pointer (some ⟨_, 0, none⟩)), (3, .int .i64 0)], [], x.2.1, box _ 35 x.2.2 :: box _ 25 [.slice (some ⟨_, 0, none⟩) m m, .slice none 0 0, .int .i64 0, .bool false] :: _⟩) (fun x => x.1 ≤ m ∧ Mem.le M x.2.1 ∧ Half x.2.1 m x.1 x.2.2) (fun x => m - x.1) (0, M, List.replicate m (.slice none 0 0)) ⟨Nat.zero_le _, Mem.le.refl _, by simp, fun u hu => by rw [List.eq_of_mem_replicate hu]; rfl, fun j hj => absurd hj (Nat.not_lt_zero _)⟩ (holds_sub (by repeat (first | exact SubFr.nil | refine SubFr.cons rfl ?_)) (by repeat (first | exact DropL.refl | apply DropL.skip))) (fun x hi => ?_)
    obtain ⟨i, M1, cs⟩ := x
    obtain ⟨hi, hm1, hh⟩ := hi
    simp only at hi hm1 hh
    dsimp only
    have hl := hh.1
    by_cases hlt : i < m
    · repeat (first | ((with_reducible refine Tr.step rfl ?_); (first | ((with_reducible refine Knd.move ?_); (refine Exec.stab rfl (Stab.move rfl) rfl ?_)) | ((with_reducible refine Knd.assign ?_); (refine Exec.stab rfl (Stab.assign rfl) rfl ?_)) | ((with_reducible refine Knd.binOp ?_); ((refine Exec.stab rfl (Stab.int rfl rfl rfl) rfl ?_))))) | (with_reducible refine Tr.next ?_) | (with_reducible refine Tr.seq ?_) | (with_reducible refine Tr.region ?_) | (with_reducible refine Tr.nil ?_) | (with_reducible refine Tr.skip ?_) | (with_reducible refine Tr.block ?_) | (refine Tr.cond_t rfl (by first | (with_reducible assumption) | (with_reducible rfl) | (with_reducible exact (not_not_intro rfl)) | omega) ?_))
      (((apply Tr.draw); (kernel_rfl)); ((refine TrA.take 0 (by kernel_rfl) rfl (by kernel_rfl) (by first | exact fun _ _ _ h => h | exact fun _ _ _ h => nomatch h.1) (by exact fun _ h => h) rfl (by exact Stab.fieldZ rfl (tysOk.get rfl) rfl rfl (tysOk.get rfl) rfl) rfl rfl ?_)); ((refine TrA.take 1 (by kernel_rfl) rfl (by kernel_rfl) (by first | exact fun _ _ _ h => h | exact fun _ _ _ h => nomatch h.1) (by exact fun _ h => h) rfl (by exact Stab.load rfl (tysOk.get rfl) rfl (by repeat (first | exact Has.here | apply Has.there)) rfl) rfl rfl ?_)); ((refine TrA.take 2 (by kernel_rfl) rfl (by kernel_rfl) (by first | exact fun _ _ _ h => h | exact fun _ _ _ h => nomatch h.1) (by exact fun _ h => h) rfl (by exact Stab.move rfl) rfl rfl ?_)); (refine TrA.eff 3 rfl (by kernel_rfl) (by first | exact .inl rfl | exact .inr ⟨_, _, _, rfl, rfl, rfl⟩) ?_); (((refine Knd.makeSlice ?_); (refine Exec.make rfl rfl (tysOk.get rfl) rfl (tysOk.get rfl) rfl rfl rfl (by omega) (by omega) (by first | omega | (simp; done) | (simp; omega)) (by omega) rfl (fun b => ?_)))); (refine ⟨(by first | exact Mem.le.refl _ | assumption), (by exact (Sub.mem (by repeat (first | exact Sub.refl | apply Sub.cons)))), ?_⟩); ((refine TrA.take 4 (by kernel_rfl) rfl (by kernel_rfl) (by first | exact fun _ _ _ h => h | exact fun _ _ _ h => nomatch h.1) (by exact (Sub.mem (by repeat (first | exact Sub.refl | apply Sub.cons)))) rfl (by exact Stab.indexB0 rfl rfl (tysOk.get rfl) rfl (tysOk.get rfl) rfl (by omega) (by omega)) rfl rfl ?_)); (refine TrA.effD 5 rfl (by kernel_rfl) (by kernel_rfl) (by first | exact .inl rfl | exact .inr ⟨_, _, _, rfl, rfl, rfl⟩) ?_); (((refine Knd.store ?_); ((refine Exec.storeS rfl rfl (tysOk.get rfl) rfl (by first | rfl | assumption) (by repeat (first | exact Upd.here | apply Upd.there)) (by omega) ?_)))); (refine ⟨_, fun _ h => h, ?_⟩); (refine TrA.done (by kernel_rfl) ?_))
      repeat (first | ((with_reducible refine Tr.step rfl ?_); (first | ((with_reducible refine Knd.move ?_); (refine Exec.stab rfl (Stab.move rfl) rfl ?_)) | ((with_reducible refine Knd.binOp ?_); ((refine Exec.stab rfl (Stab.addi rfl rfl (by omega)) rfl ?_))))) | (with_reducible refine Tr.next ?_) | (with_reducible refine Tr.region ?_) | (with_reducible refine Tr.nil ?_) | (with_reducible refine Tr.in_normal ?_))
      refine Tr.publish Del.here (fun M2 hm2 hok => ?_)
      have hb : BSl M2 (.slice (some ⟨_, 0, none⟩) 128 128) zsec := BSl.of_box (bs := zsec) (by rw [byteV_replicate] at hok; exact hok) (by simp [zsec])
      refine Tr.again (i + 1, M2, _) ⟨by simp only; omega, hm1.trans hm2, hh.set hlt hm2 hb⟩ (by simp only; omega) (holds_sub (by repeat (first | exact SubFr.nil | refine SubFr.cons rfl ?_)) (by repeat (first | exact DropL.refl | apply DropL.skip)))
    · have e : i = m := by omega
      subst e
      repeat (first | ((with_reducible refine Tr.step rfl ?_); (first | ((with_reducible refine Knd.assign ?_); (refine Exec.stab rfl (Stab.assign rfl) rfl ?_)) | ((with_reducible refine Knd.load ?_); ((refine Exec.stab rfl (Stab.loadW rfl (tysOk.get rfl) rfl (by repeat (first | exact Has.here | apply Has.there)) rfl) rfl ?_))) | ((with_reducible refine Knd.fieldAddr ?_); ((refine Exec.stab rfl (Stab.fieldZ rfl (tysOk.get rfl) rfl rfl (tysOk.get rfl) rfl) rfl ?_))) | ((with_reducible refine Knd.binOp ?_); ((refine Exec.stab rfl (Stab.int rfl rfl rfl) rfl ?_))) | ((with_reducible refine Knd.store ?_); (first | (refine Exec.store rfl rfl (tysOk.get rfl) rfl (by first | rfl | assumption) (by repeat (first | exact Upd.here | apply Upd.there)) (by repeat (first | exact SetL.z | apply SetL.s)) ?_) | (refine Exec.storeW rfl rfl (tysOk.get rfl) (by repeat (first | exact Upd.here | apply Upd.there)) rfl rfl (by repeat (first | exact AllOne.nil | refine AllOne.cons (by first | rfl | assumption) ?_)) ?_))))) | (with_reducible refine Tr.next ?_) | (with_reducible refine Tr.seq ?_) | (with_reducible refine Tr.region ?_) | (with_reducible refine Tr.nil ?_) | (with_reducible refine Tr.exit ?_) | (with_reducible refine Tr.ret ?_) | (with_reducible refine Tr.then_exit ?_) | ((with_reducible refine Tr.in_exit ?_ ?_); (exact rfl)) | (refine Tr.cond_f rfl (by first | (with_reducible assumption) | (with_reducible rfl) | (with_reducible exact (not_not_intro rfl)) | omega) ?_))
      refine Tr.publish Del.here (fun M2 hm2 hok => ?_)
      have hm := hm1.trans hm2
      (refine Tr.done (by first | exact .inl rfl | exact .inr rfl) rfl (by repeat (first | exact RVs.nil | (apply RVs.cons; (first | exact RV.tmp rfl | exact RV.cellW (by rfl) (tysOk.get (by rfl)) (by rfl) (by repeat (first | exact Has.here | apply Has.there)) (by first | rfl | assumption))))) (by first | exact Mem.le.refl _ | assumption) (by exact ⟨[_], rfl⟩) ⟨rfl, ?_⟩)
      unfold newF
      rw [if_pos (by omega)]
      refine ⟨_, rfl, ?_⟩
      have hs := Half.done ⟨hh.1, hh.2.1, fun j hj => let ⟨A, k, h1, h2⟩ := hh.2.2 j hj; ⟨A, k, h1, h2.mono hm2⟩⟩ hok (by omega)
      have e : (i : Int).toNat = i := by omega
      have : ∀ A, SlOf 1 RSec M2 (.slice A (List.replicate (i : Int).toNat zsec).length i) (List.replicate (i : Int).toNat zsec) → RDisk M2 (.agg #[.slice A i i, .slice none 0 0, .int .i64 (-1), .bool false]) ⟨List.replicate (i : Int).toNat zsec, [], -1, false⟩ := fun A h => ⟨A, i, none, 0, by simp only [e, List.length_replicate]; rfl, h, SlOf.nil _ _ _⟩
      refine this _ ?_
      simp only [e, List.length_replicate]; exact hs
  · repeat' (first | ((with_reducible refine Tr.step rfl ?_); (first | ((with_reducible refine Knd.move ?_); (refine Exec.stab rfl (Stab.move rfl) rfl ?_)) | ((with_reducible refine Knd.assign ?_); (refine Exec.stab rfl (Stab.assign rfl) rfl ?_)) | ((with_reducible refine Knd.binOp ?_); ((refine Exec.stab rfl (Stab.int rfl rfl rfl) rfl ?_))) | ((with_reducible refine Knd.pick ?_); (first | (refine Exec.stab rfl (Stab.pick_td rfl (by first | (with_reducible assumption) | (with_reducible rfl) | (with_reducible exact (not_not_intro rfl)) | omega) rfl) rfl ?_) | (refine Exec.stab rfl (Stab.pick_fd rfl (by first | (with_reducible assumption) | (with_reducible rfl) | (with_reducible exact (not_not_intro rfl)) | omega) rfl) rfl ?_))) | ((with_reducible refine Knd.store ?_); ((refine Exec.storeW rfl rfl (tysOk.get rfl) (by repeat (first | exact Upd.here | apply Upd.there)) rfl rfl (by repeat (first | exact AllOne.nil | refine AllOne.cons (by first | rfl | assumption) ?_)) ?_))) | ((with_reducible refine Knd.alloc ?_); (first | (refine Exec.alloc (tysOk.get rfl) rfl rfl (fun b => ?_)) | (refine Exec.alloc1 (tysOk.get rfl) rfl rfl rfl (fun b => ?_)))) | ((with_reducible refine Knd.build ?_); ((refine Exec.stab rfl (Stab.build tysOk rfl rfl rfl rfl (by repeat (exact BuildP.nil))) rfl ?_))))) | (with_reducible refine Tr.next ?_) | (with_reducible refine Tr.seq ?_) | (with_reducible refine Tr.region ?_) | (with_reducible refine Tr.nil ?_) | ((refine Tr.guard_y' rfl rfl rfl (by first | (with_reducible assumption) | (with_reducible rfl) | (with_reducible exact (not_not_intro rfl)) | omega) ?_); (((with_reducible refine Knd.binOp ?_); ((refine Exec.stab rfl (Stab.int rfl rfl rfl) rfl ?_))))) | (refine Tr.guard_n' rfl rfl rfl (by first | (with_reducible assumption) | (with_reducible rfl) | (with_reducible exact (not_not_intro rfl)) | omega) rfl rfl ?_) | (with_reducible refine Tr.ret ?_) | (with_reducible refine Tr.then_ret ?_) | (refine Tr.cond_bt rfl (by first | (with_reducible rfl) | (with_reducible assumption) | (with_reducible exact Bool.not_true) | (with_reducible exact Bool.not_false)) ?_) | (refine Tr.cond_t rfl (by first | (with_reducible assumption) | (with_reducible rfl) | (with_reducible exact (not_not_intro rfl)) | omega) ?_) | (((with_reducible refine Knd.move ?_); (refine Exec.stab rfl (Stab.move rfl) rfl ?_))) | ((refine Tr.guardd' rfl rfl rfl rfl rfl (fun hg => ?_) (fun hg => ?_))))
    all_goals
      first
        | (exfalso; omega)
        | ((refine Tr.done (by first | exact .inl rfl | exact .inr rfl) rfl (by repeat (first | exact RVs.nil | (apply RVs.cons; (first | exact RV.tmp rfl | exact RV.cellW (by rfl) (tysOk.get (by rfl)) (by rfl) (by repeat (first | exact Has.here | apply Has.there)) (by first | rfl | assumption))))) (by first | exact Mem.le.refl _ | assumption) (by exact ⟨[_], rfl⟩) ⟨rfl, ?_⟩)
           exact ⟨_, by unfold newF; rw [if_neg hn]; rfl, by unfold newF; rw [if_neg hn]; exact RDisk.zero M⟩)
end Go.Proofs.Ytkbggengagockaa
/-
  The journal, plain: Sync on a disk that does not stop.
  Conditions: none.
-/
namespace Go.Proofs.Ytkbggengagockaa
open Go Bf
/-- the sectors after more records -/
def after (D T : List (List UInt8)) : List (List UInt8) := D.take (occs (recs D)) ++ secsAll (gmax D + 1) (occs (recs D)) T ++ D.drop (occs (recs D) + occs T)
theorem after_nil (D : List (List UInt8)) : after D [] = D := by simp [after, secsAll, occs]
theorem after_length {D T : List (List UInt8)} (h : occs (recs D) + occs T ≤ D.length) : (after D T).length = D.length := by
  simp only [after, List.length_append, List.length_take, List.length_drop, secsAll_length]; omega
theorem secsAll_mem {g : Nat} (hg : g < 4294967296) : ∀ {l : List (List UInt8)} {at_ : Nat} {s : List UInt8}, s ∈ secsAll g at_ l → s.length = 128 ∧ gen s = g ∧ be (s.drop 124) = g
  | [], _, _, h => by cases h
  | b :: l, at_, s, h => by
    rw [secsAll] at h
    rcases List.mem_append.1 h with h | h
    · simp only [secs, secsFrom, List.mem_map] at h
      obtain ⟨j, _, rfl⟩ := h
      have hl := piece_le b j
      exact ⟨bF_length hl, gen_bF hg, by rw [tail_bF hl, be_be4 hg]⟩
    · exact secsAll_mem hg h
theorem after_mem {D T : List (List UInt8)} (hg : gmax D + 1 < 4294967296) {s : List UInt8} (h : s ∈ after D T) : s ∈ D ∨ (s.length = 128 ∧ gen s = gmax D + 1 ∧ be (s.drop 124) = gmax D + 1) := by
  rw [after] at h
  rcases List.mem_append.1 h with h | h
  · rcases List.mem_append.1 h with h | h
    · exact .inl (List.mem_of_mem_take h)
    · exact .inr (secsAll_mem hg h)
  · exact .inl (List.mem_of_mem_drop h)
theorem after_128 {D T : List (List UInt8)} (hg : gmax D + 1 < 4294967296) (h128 : ∀ s ∈ D, s.length = 128) : ∀ s ∈ after D T, s.length = 128 := fun s hs => by
  rcases after_mem hg hs with h | h
  · exact h128 s h
  · exact h.1
theorem gmax_ge2 : ∀ (l : List (List UInt8)) (n : Nat), ∀ s ∈ l, be (s.drop 124) ≤ l.foldl (fun g s => max (max g (gen s)) (be (s.drop 124))) n
  | [], _, s, h => by cases h
  | x :: l, n, s, hs => by
    rw [List.foldl_cons]
    rcases List.mem_cons.1 hs with rfl | h
    · have := (gmax_ge l (max (max n (gen s)) (be (s.drop 124)))).1; omega
    · exact gmax_ge2 l _ s h
theorem tail_le_gmax {l : List (List UInt8)} {s : List UInt8} (h : s ∈ l) : be (s.drop 124) ≤ gmax l := gmax_ge2 l 0 s h
theorem gmax_le {G : Nat} (l : List (List UInt8)) (h : ∀ s ∈ l, gen s ≤ G ∧ be (s.drop 124) ≤ G) : gmax l ≤ G := by
  have key : ∀ (l : List (List UInt8)) (n : Nat), n ≤ G → (∀ s ∈ l, gen s ≤ G ∧ be (s.drop 124) ≤ G) → l.foldl (fun g s => max (max g (gen s)) (be (s.drop 124))) n ≤ G := by
    intro l
    induction l with
    | nil => intro n hn _; exact hn
    | cons s l ih =>
      intro n hn h
      rw [List.foldl_cons]
      have hs := h s List.mem_cons_self
      exact ih _ (by omega) fun x hx => h x (List.mem_cons_of_mem _ hx)
  exact key l 0 (Nat.zero_le _) h
theorem gmax_after {D T : List (List UInt8)} (hg : gmax D + 1 < 4294967296) : gmax (after D T) ≤ gmax D + 1 := gmax_le _ fun s hs => by
  rcases after_mem hg hs with h | h
  · have h1 := gen_le_gmax h; have h2 := tail_le_gmax h; omega
  · omega
theorem recs_after {D T : List (List UInt8)} (h128 : ∀ s ∈ D, s.length = 128) (hT : occs (recs D) + occs T ≤ D.length) (hl : D.length ≤ 4096) (hg : gmax D + 1 < 4294967296) : recs (after D T) = recs D ++ T :=
  sync_reads h128 (by omega) hg
theorem idle_ok {d : Dsk} {n : Int} (h : okD d) (hs : d.stop = false) (hp : d.pen = []) (hn : ¬ (0 ≤ n ∧ n ≠ d.sec.length)) : idleF d n = 0 := by
  rw [idleF, if_pos h, if_neg (by rw [hs]; decide), if_neg (by rw [hp]; simp only [List.length_nil]; omega)]
/-- a disk that is synced -/
def dk (D : List (List UInt8)) : Dsk := ⟨D, [], -1, false⟩
theorem dk_ok {D : List (List UInt8)} (h1 : 1 ≤ D.length) (h2 : D.length ≤ 4096) (h128 : ∀ s ∈ D, s.length = 128) : okD (dk D) :=
  ⟨h1, h2, by simp [dk], h128, fun w hw => (by cases hw), by simp [dk], by simp [dk]⟩
theorem syncJ_run {j : Jr} {D : List (List UInt8)} (hk : okJ j) (h128 : ∀ s ∈ D, s.length = 128) (hm : j.many = (D.length : Int)) (hr : recs D = j.rcs.take j.syn.toNat) (hg : gmax D + 1 ≤ 4294967295) :
    syncJ j (dk D) = (⟨j.many, (j.rcs.length : Int), j.rcs⟩, dk (after D (j.rcs.drop j.syn.toNat)), 0) := by
  obtain ⟨k1, k2, k3, k4, k5⟩ := id hk
  have hok := dk_ok (D := D) (by omega) (by omega) h128
  have hsum := occs_split j.rcs j.syn.toNat
  rw [syncJ, if_pos hk, if_pos (idle_ok hok rfl rfl (fun h => h.2 hm)), if_pos (show recs (dk D).sec = _ from hr), if_pos (show gmax (dk D).sec + 1 ≤ 4294967295 from hg)]
  by_cases e : j.syn = (j.rcs.length : Int)
  · rw [if_pos e]
    have : j.rcs.drop j.syn.toNat = [] := List.drop_eq_nil_of_le (by omega)
    rw [this, after_nil]
    cases j
    simp only at e ⊢
    rw [e]
  · rw [if_neg e]
    have hru : runs (dAfter (dk D) (wrsAll (gmax (dk D).sec + 1) (occs (j.rcs.take j.syn.toNat)) (j.rcs.drop j.syn.toNat))) := wrsAll_runs ⟨hok, rfl⟩ (by show _ ≤ D.length; omega) rfl
    have hs : syncF (dAfter (dk D) (wrsAll (gmax (dk D).sec + 1) (occs (j.rcs.take j.syn.toNat)) (j.rcs.drop j.syn.toNat))) = (dk (after D (j.rcs.drop j.syn.toNat)), 0) := by
      rw [syncF, if_pos hru, if_neg (fun h => absurd h.1 (by simp [dAfter, dk]))]
      have e1 : perf (dAfter (dk D) (wrsAll (gmax (dk D).sec + 1) (occs (j.rcs.take j.syn.toNat)) (j.rcs.drop j.syn.toNat))).sec (dAfter (dk D) (wrsAll (gmax (dk D).sec + 1) (occs (j.rcs.take j.syn.toNat)) (j.rcs.drop j.syn.toNat))).pen = after D (j.rcs.drop j.syn.toNat) := by
        show perf D ([] ++ wrsAll (gmax D + 1) (occs (j.rcs.take j.syn.toNat)) (j.rcs.drop j.syn.toNat)) = _
        rw [List.nil_append, perf_wrsAll _ _ _ _ (by omega), after, hr]
      rw [e1]
      rfl
    simp only [hs, if_true]
theorem openF_dk {D : List (List UInt8)} (h1 : 1 ≤ D.length) (h2 : D.length ≤ 4096) (h128 : ∀ s ∈ D, s.length = 128) : openF (dk D) = (⟨(D.length : Int), ((recs D).length : Int), recs D⟩, 0) := by
  rw [openF, if_pos (idle_ok (dk_ok h1 h2 h128) rfl rfl (by omega))]
  rfl
/-! a new disk -/
theorem gen_zsec : gen zsec = 0 := by decide +kernel
theorem tail_zsec : be (zsec.drop 124) = 0 := by decide +kernel
theorem zsec_len : zsec.length = 128 := by simp [zsec]
theorem recs_new (n : Nat) : recs (List.replicate n zsec) = [] := by
  cases n with
  | zero => rfl
  | succ n =>
    rw [recs_eq, List.replicate_succ, recsL_cons, if_neg (by omega), gen_zsec, readR, if_neg (fun h => h.1.1 gen_zsec)]
theorem gmax_new (n : Nat) : gmax (List.replicate n zsec) = 0 := Nat.le_zero.1 (gmax_le _ fun s hs => by
  rw [List.eq_of_mem_replicate hs, gen_zsec, tail_zsec]
  exact ⟨Nat.le_refl _, Nat.le_refl _⟩)
theorem new_128 (n : Nat) : ∀ s ∈ List.replicate n zsec, s.length = 128 := fun s hs => by rw [List.eq_of_mem_replicate hs, zsec_len]
theorem newF_dk {n : Nat} (h1 : 1 ≤ n) (h2 : n ≤ 4096) : newF (n : Int) = (dk (List.replicate n zsec), 0) := by
  rw [newF, if_pos (by omega), Int.toNat_natCast]
  rfl
end Go.Proofs.Ytkbggengagockaa
/-
  The journal: the chapter's examples hold.
  Conditions: none.
-/
namespace Go.Proofs.Ytkbggengagockaa
open Go Bf
attribute [local irreducible] Tr Exec Stab HasTy Go.Addr.add IntKind.wrap
theorem RJPair.openJ {M : Mem} {r : Value} {j : Jr} {e : Int} (h : RJPair M r (j, e)) : ∃ A c, r = .tuple #[.agg #[.int .i64 j.many, .int .i64 j.syn, .slice A j.rcs.length c], .int .i64 e] ∧ RJr M (.agg #[.int .i64 j.many, .int .i64 j.syn, .slice A j.rcs.length c]) j := by
  obtain ⟨v, rfl, A, c, rfl, h1⟩ := h
  exact ⟨A, c, rfl, A, c, rfl, h1⟩
theorem R3.openJ {M : Mem} {r : Value} {j : Jr} {d : Dsk} {e : Int} (h : R3 M r (j, d, e)) : ∃ A c A2 c2 B2 k2, r = .tuple #[.agg #[.int .i64 j.many, .int .i64 j.syn, .slice A j.rcs.length c], .agg #[.slice A2 d.sec.length c2, .slice B2 d.pen.length k2, .int .i64 d.left, .bool d.stop], .int .i64 e] ∧ RJr M (.agg #[.int .i64 j.many, .int .i64 j.syn, .slice A j.rcs.length c]) j ∧ RDisk M (.agg #[.slice A2 d.sec.length c2, .slice B2 d.pen.length k2, .int .i64 d.left, .bool d.stop]) d := by
  obtain ⟨v, w, rfl, ⟨A, c, rfl, h1⟩, A2, c2, B2, k2, rfl, h2, h3⟩ := h
  exact ⟨A, c, A2, c2, B2, k2, rfl, ⟨A, c, rfl, h1⟩, A2, c2, B2, k2, rfl, h2, h3⟩
def xAB : List UInt8 := [97, 98]
def D1 : List (List UInt8) := after [zsec] [xAB]
theorem z_128 : ∀ s ∈ [zsec], s.length = 128 := new_128 1
theorem recs_z : recs [zsec] = [] := recs_new 1
theorem gmax_z : gmax [zsec] = 0 := gmax_new 1
theorem occ_ab : occs [xAB] = 1 := rfl
theorem D1_length : D1.length = 1 := after_length (by rw [recs_z, occ_ab]; exact Nat.le_refl _)
theorem D1_128 : ∀ s ∈ D1, s.length = 128 := after_128 (by rw [gmax_z]; decide) z_128
theorem recs_D1 : recs D1 = [xAB] := by
  rw [D1, recs_after z_128 (by rw [recs_z, occ_ab]; exact Nat.le_refl _) (by decide) (by rw [gmax_z]; decide), recs_z]; rfl
theorem ex_new1 : newF 1 = (dk [zsec], 0) := newF_dk (n := 1) (by decide) (by decide)
theorem ex_open0 : openF (dk [zsec]) = (⟨1, 0, []⟩, 0) := by
  rw [openF_dk (by decide) (by decide) z_128, recs_z]; rfl
theorem ex_app113 : appF ⟨1, 0, []⟩ (List.replicate 113 0) = (zJ, 2) := by
  rw [appF, if_pos (by decide), if_neg (by rw [List.length_replicate]; decide)]
theorem ex_app2 : appF ⟨1, 0, []⟩ xAB = (⟨1, 0, [xAB]⟩, 0) := by
  rw [appF, if_pos (by decide), if_pos (by decide)]; rfl
theorem ex_ok : okJ ⟨1, 0, [xAB]⟩ := by decide
theorem ex_sync1 : syncJ ⟨1, 0, [xAB]⟩ (dk [zsec]) = (⟨1, 1, [xAB]⟩, dk D1, 0) := by
  rw [syncJ_run ex_ok z_128 rfl (by rw [recs_z]; rfl) (by rw [gmax_z]; decide)]; rfl
theorem ex_open1 : openF (dk D1) = (⟨1, 1, [xAB]⟩, 0) := by
  rw [openF_dk (by rw [D1_length]; decide) (by rw [D1_length]; decide) D1_128, recs_D1, D1_length]; rfl
theorem ex_sync2 : syncJ ⟨1, 0, [xAB]⟩ (dk D1) = (zJ, zD, 450) := by
  have hok := dk_ok (D := D1) (by rw [D1_length]; decide) (by rw [D1_length]; decide) D1_128
  rw [syncJ, if_pos ex_ok, if_pos (idle_ok hok rfl rfl (fun h => h.2 (by show (1 : Int) = (D1.length : Int); rw [D1_length]; rfl))), if_neg (by
    show ¬ recs D1 = [xAB].take (Int.toNat 0)
    rw [recs_D1]
    intro h
    cases h)]
theorem ex_room : roomF ⟨1, 0, []⟩ = 112 := by decide
theorem ex_chk : ¬ okJ zJ := by decide

theorem fx_new1 (M : Mem) : Fn0 Try.prog 25 [.int .i64 1] M (fun r M' => ∃ A c B k, r = .tuple #[.agg #[.slice A 1 c, .slice B 0 k, .int .i64 (-1), .bool false], .int .i64 0] ∧ RDisk M' (.agg #[.slice A 1 c, .slice B 0 k, .int .i64 (-1), .bool false]) (dk [zsec])) :=
  Fn0.mono (new_fn M 1) fun v M' _ h => by
    rw [ex_new1] at h
    exact h.openJ
theorem fx_open0 (M : Mem) (v : Value) (h : RDisk M v (dk [zsec])) : Fn0 Try.prog 12 [v] M (fun r M' => ∃ A c, r = .tuple #[.agg #[.int .i64 1, .int .i64 0, .slice A 0 c], .int .i64 0] ∧ RJr M' (.agg #[.int .i64 1, .int .i64 0, .slice A 0 c]) ⟨1, 0, []⟩) :=
  Fn0.mono (open_fn M v _ h) fun v M' _ h => by
    rw [ex_open0] at h
    exact h.openJ
theorem fx_app113 (M : Mem) (v : Value) (A : Option Addr) (c : Nat) (h : RJr M v ⟨1, 0, []⟩) (hb : BSl M (.slice A 113 c) (List.replicate 113 0)) : Fn0 Try.prog 15 [v, .slice A 113 c] M (fun r M' => ∃ A c, r = .tuple #[.agg #[.int .i64 0, .int .i64 0, .slice A 0 c], .int .i64 2]) :=
  Fn0.mono (append_fn M v _ A c (List.replicate 113 0) h hb (by decide) (by simp) (by decide)) fun v M' _ h => by
    rw [ex_app113] at h
    obtain ⟨A, c, h, -⟩ := h.openJ
    exact ⟨A, c, h⟩
theorem fx_app2 (M : Mem) (v : Value) (A : Option Addr) (c : Nat) (h : RJr M v ⟨1, 0, []⟩) (hb : BSl M (.slice A 2 c) xAB) : Fn0 Try.prog 15 [v, .slice A 2 c] M (fun r M' => ∃ A c, r = .tuple #[.agg #[.int .i64 1, .int .i64 0, .slice A 1 c], .int .i64 0] ∧ RJr M' (.agg #[.int .i64 1, .int .i64 0, .slice A 1 c]) ⟨1, 0, [xAB]⟩) :=
  Fn0.mono (append_fn M v _ A c xAB h hb (by decide) (by decide) (by decide)) fun v M' _ h => by
    rw [ex_app2] at h
    exact h.openJ
theorem fx_sync1 (M : Mem) (v w : Value) (h : RJr M v ⟨1, 0, [xAB]⟩) (hd : RDisk M w (dk [zsec])) : Fn0 Try.prog 21 [v, w] M (fun r M' => ∃ A c A2 c2 B2 k2, r = .tuple #[.agg #[.int .i64 1, .int .i64 1, .slice A 1 c], .agg #[.slice A2 1 c2, .slice B2 0 k2, .int .i64 (-1), .bool false], .int .i64 0] ∧ RDisk M' (.agg #[.slice A2 1 c2, .slice B2 0 k2, .int .i64 (-1), .bool false]) (dk D1)) :=
  Fn0.mono (sync_jfn M v w _ _ h hd (by decide)) fun v M' _ h => by
    rw [ex_sync1] at h
    obtain ⟨A, c, A2, c2, B2, k2, h, -, h2⟩ := h.openJ
    rw [show (dk D1).sec.length = 1 from D1_length] at h h2
    exact ⟨A, c, A2, c2, B2, k2, h, h2⟩
theorem fx_open1 (M : Mem) (v : Value) (h : RDisk M v (dk D1)) : Fn0 Try.prog 12 [v] M (fun r M' => ∃ A c, r = .tuple #[.agg #[.int .i64 1, .int .i64 1, .slice A 1 c], .int .i64 0] ∧ RJr M' (.agg #[.int .i64 1, .int .i64 1, .slice A 1 c]) ⟨1, 1, [xAB]⟩) :=
  Fn0.mono (open_fn M v _ h) fun v M' _ h => by
    rw [ex_open1] at h
    exact h.openJ
theorem fx_sync2 (M : Mem) (v w : Value) (h : RJr M v ⟨1, 0, [xAB]⟩) (hd : RDisk M w (dk D1)) : Fn0 Try.prog 21 [v, w] M (fun r M' => ∃ A c A2 c2 B2 k2, r = .tuple #[.agg #[.int .i64 0, .int .i64 0, .slice A 0 c], .agg #[.slice A2 0 c2, .slice B2 0 k2, .int .i64 0, .bool false], .int .i64 450]) :=
  Fn0.mono (sync_jfn M v w _ _ h hd (by decide)) fun v M' _ h => by
    rw [ex_sync2] at h
    obtain ⟨A, c, A2, c2, B2, k2, h, -, -⟩ := h.openJ
    exact ⟨A, c, A2, c2, B2, k2, h⟩
theorem fx_room (M : Mem) (v : Value) (h : RJr M v ⟨1, 0, []⟩) : Fn0 Try.prog 19 [v] M (fun r M' => r = .int .i64 112 ∧ M = M') := by
  have := room_fn M v _ h (by decide)
  rwa [ex_room] at this
theorem fx_chk (M : Mem) : Fn0 Try.prog 17 [.agg #[.int .i64 0, .int .i64 0, .slice none 0 0]] M (fun r M' => r = .int .i64 1 ∧ M = M') := jcheck_n M _ zJ (RJr.zero M) (by decide) ex_chk

set_option maxHeartbeats 8000000 in
theorem sane_jfn (M : Mem) : Fn0 Try.prog 10 [] M (fun r M' => r = .bool true) := by
  refine Fn.intro Try.func10 rfl rfl Try.ntmps10 rfl fun E F => ?_
  repeat (first | ((with_reducible refine Tr.step rfl ?_); (((with_reducible refine Knd.assign ?_); (refine Exec.stab rfl (Stab.assign rfl) rfl ?_)))) | (with_reducible refine Tr.next ?_) | (with_reducible refine Tr.seq ?_) | (with_reducible refine Tr.region ?_) | (with_reducible refine Tr.nil ?_))
  ((refine Tr.step rfl ?_)); refine Exec.call0 rfl (fx_new1 M) rfl ?_
  rintro _ M1 hm1 ⟨A1, c1, B1, k1, rfl, hd1⟩
  repeat (first | ((with_reducible refine Tr.step rfl ?_); (first | ((with_reducible refine Knd.move ?_); (refine Exec.stab rfl (Stab.move rfl) rfl ?_)) | ((with_reducible refine Knd.assign ?_); (refine Exec.stab rfl (Stab.assign rfl) rfl ?_)) | ((with_reducible refine Knd.load ?_); ((refine Exec.stab rfl (Stab.loadW rfl (tysOk.get rfl) rfl (by repeat (first | exact Has.here | apply Has.there)) rfl) rfl ?_))) | ((with_reducible refine Knd.store ?_); ((refine Exec.storeW rfl rfl (tysOk.get rfl) (by repeat (first | exact Upd.here | apply Upd.there)) rfl rfl (by repeat (first | exact AllOne.nil | refine AllOne.cons (by first | rfl | assumption) ?_)) ?_))) | ((with_reducible refine Knd.alloc ?_); (first | (refine Exec.alloc (tysOk.get rfl) rfl rfl (fun b => ?_)) | (refine Exec.alloc1 (tysOk.get rfl) rfl rfl rfl (fun b => ?_)))) | ((with_reducible refine Knd.extract ?_); (refine Exec.stab rfl (Stab.extract rfl rfl) rfl ?_)))) | (with_reducible refine Tr.next ?_) | (with_reducible refine Tr.seq ?_) | (with_reducible refine Tr.region ?_) | (with_reducible refine Tr.nil ?_))
  ((refine Tr.step rfl ?_)); refine Exec.call0 rfl (fx_open0 M1 _ hd1) rfl ?_
  rintro _ M2 hm2 ⟨A2, c2, rfl, hl⟩
  repeat (first | ((with_reducible refine Tr.step rfl ?_); (first | ((with_reducible refine Knd.move ?_); (refine Exec.stab rfl (Stab.move rfl) rfl ?_)) | ((with_reducible refine Knd.assign ?_); (refine Exec.stab rfl (Stab.assign rfl) rfl ?_)) | ((with_reducible refine Knd.store ?_); ((refine Exec.storeW rfl rfl (tysOk.get rfl) (by repeat (first | exact Upd.here | apply Upd.there)) rfl rfl (by repeat (first | exact AllOne.nil | refine AllOne.cons (by first | rfl | assumption) ?_)) ?_))) | ((with_reducible refine Knd.alloc ?_); (first | (refine Exec.alloc (tysOk.get rfl) rfl rfl (fun b => ?_)) | (refine Exec.alloc1 (tysOk.get rfl) rfl rfl rfl (fun b => ?_)))) | ((with_reducible refine Knd.extract ?_); (refine Exec.stab rfl (Stab.extract rfl rfl) rfl ?_)))) | (with_reducible refine Tr.next ?_) | (with_reducible refine Tr.seq ?_) | (with_reducible refine Tr.nil ?_))
  (((apply Tr.draw); (kernel_rfl)); (refine TrA.take 0 (by kernel_rfl) rfl (by kernel_rfl) (by first | exact fun _ _ _ h => h | exact fun _ _ _ h => nomatch h.1) (by exact fun _ h => h) rfl (by exact Stab.loadW rfl (tysOk.get rfl) rfl (by repeat (first | exact Has.here | apply Has.there)) rfl) rfl rfl ?_))
  ((refine TrM.start1 _ (by first | exact PA.alloc 6 rfl (tysOk.get rfl) rfl rfl | exact PA.alloc1 6 rfl (tysOk.get rfl) rfl rfl rfl) (by kernel_rfl) ?_); (refine TrM.eff 1 rfl (by kernel_rfl) (by first | exact .inl rfl | exact .inr ⟨_, _, _, rfl, rfl, rfl⟩) (by repeat (first | exact PendOk.nil | refine PendOk.cons rfl (by repeat (first | exact SubFr.nil | refine SubFr.cons rfl ?_)) ?_)) (by exact fun _ h => h) (by repeat (first | apply AppF.cons | exact AppF.nil | exact AppF.app)) (by repeat (first | apply AppF.cons | exact AppF.nil | exact AppF.app)) (fun Y X => ?_)); (((refine Knd.makeSlice ?_); (refine Exec.make rfl rfl (tysOk.get rfl) rfl (tysOk.get rfl) rfl rfl rfl (by omega) (by omega) (by first | omega | (simp; done) | (simp; omega)) (by omega) rfl (fun b => ?_)))); (refine ⟨_, _, (by repeat (first | apply App.cons | exact App.nil | exact App.app)), (by repeat (first | apply App.cons | exact App.nil | exact App.app)), rfl, (by first | exact Mem.le.refl _ | assumption), (by exact (Sub.mem (by repeat (first | exact Sub.refl | apply Sub.cons)))), ?_⟩))
  refine TrM.publish (x := box _ 5 _) (by repeat (first | exact Del.here | apply Del.there)) (fun M3 hm3 hok => ?_)
  have hb : BSl M3 (.slice (some ⟨_, 0, none⟩) 113 113) (List.replicate 113 0) := BSl.ofBox (bs := List.replicate 113 0) (by rw [byteV_replicate] at hok; exact hok) (by simp)
  ((refine TrM.eff 2 rfl (by kernel_rfl) (by first | exact .inl rfl | exact .inr ⟨_, _, _, rfl, rfl, rfl⟩) (by repeat (first | exact PendOk.nil | refine PendOk.cons rfl (by repeat (first | exact SubFr.nil | refine SubFr.cons rfl ?_)) ?_)) (by exact fun _ h => h) (by repeat (first | apply AppF.cons | exact AppF.nil | exact AppF.app)) (by repeat (first | apply AppF.cons | exact AppF.nil | exact AppF.app)) (fun Y X => ?_)))
  refine Exec.call0 rfl (fx_app113 M3 _ _ _ (hl.mono hm3) hb) rfl ?_
  rintro _ M4 hm4 ⟨A4, c4, rfl⟩
  (refine ⟨_, _, (by repeat (first | apply App.cons | exact App.nil | exact App.app)), (by repeat (first | apply App.cons | exact App.nil | exact App.app)), rfl, (by first | exact Mem.le.refl _ | assumption), (by exact fun _ h => h), ?_⟩)
  ((refine TrM.take 3 (by kernel_rfl) rfl (by kernel_rfl) (by first | exact fun _ _ _ h => h | exact fun _ _ _ h => nomatch h.1) (by exact fun _ h => h) rfl (by first | exact Stab.move rfl) rfl rfl ?_); (refine TrM.take 4 (by kernel_rfl) rfl (by kernel_rfl) (by first | exact fun _ _ _ h => h | exact fun _ _ _ h => nomatch h.1) (by exact fun _ h => h) rfl (by first | exact Stab.extract rfl rfl) rfl rfl ?_); (refine TrM.take 5 (by kernel_rfl) rfl (by kernel_rfl) (by first | exact fun _ _ _ h => h | exact fun _ _ _ h => nomatch h.1) (by exact fun _ h => h) rfl (by first | exact Stab.extract rfl rfl) rfl rfl ?_); (refine TrM.settle (by kernel_rfl) (by repeat (first | exact PendOk.nil | refine PendOk.cons rfl (by repeat (first | exact SubFr.nil | refine SubFr.cons rfl ?_)) ?_)) (by exact fun _ h => h) (fun b => ?_)); dsimp only; (refine TrM.fin ?_))
  ((refine TrA.eff 7 rfl (by kernel_rfl) (by first | exact .inl rfl | exact .inr ⟨_, _, _, rfl, rfl, rfl⟩) ?_); (((refine Knd.store ?_); ((refine Exec.storeW rfl rfl (tysOk.get rfl) (by repeat (first | exact Upd.here | apply Upd.there)) rfl rfl (by repeat (first | exact AllOne.nil | refine AllOne.cons (by first | rfl | assumption) ?_)) ?_)))); (refine ⟨(by first | exact Mem.le.refl _ | assumption), (by exact (Sub.mem (by repeat (first | exact Sub.refl | apply Sub.cons)))), ?_⟩); (refine TrA.take 8 (by kernel_rfl) rfl (by kernel_rfl) (by first | exact fun _ _ _ h => h | exact fun _ _ _ h => nomatch h.1) (by exact (Sub.mem (by repeat (first | exact Sub.refl | apply Sub.cons)))) rfl (by first | exact Stab.assign rfl) rfl rfl ?_); (refine TrA.done (by kernel_rfl) ?_))
  repeat (first | ((with_reducible refine Tr.step rfl ?_); (first | ((with_reducible refine Knd.load ?_); ((refine Exec.stab rfl (Stab.loadW rfl (tysOk.get rfl) rfl (by repeat (first | exact Has.here | apply Has.there)) rfl) rfl ?_))) | ((with_reducible refine Knd.buildSlice ?_); ((refine Exec.buildSlice (tysOk.get rfl) rfl (tysOk.get rfl) rfl rfl rfl rfl rfl (by repeat (first | exact BuildP.nil | ((apply BuildP.one); (rfl); (rfl); (first | rfl | assumption); (repeat (first | exact SetL.z | apply SetL.s))))) rfl (fun b => ?_)))))) | (with_reducible refine Tr.next ?_) | (with_reducible refine Tr.seq ?_) | (with_reducible refine Tr.region ?_))
  refine Tr.cells (cs' := byteV xAB) (by repeat (first | exact Upd.here | apply Upd.there)) rfl ?_
  ((refine Tr.step rfl ?_))
  refine Exec.convMark (l := xAB) rfl (tysOk.get rfl) rfl (tysOk.get rfl) rfl (by repeat (first | exact Del.here | apply Del.there)) (by decide) (by decide) rfl (fun M5 hm5 hb5 => ?_)
  have hm25 := hm3.trans (hm4.trans hm5)
  repeat (fail)
  ((refine Tr.step rfl ?_)); refine Exec.call0 rfl (fx_app2 M5 _ _ _ (hl.mono hm25) hb5) rfl ?_
  rintro _ M6 hm6 ⟨A6, c6, rfl, hx⟩
  have hm16 := hm2.trans (hm25.trans hm6)
  repeat (first | ((with_reducible refine Tr.step rfl ?_); (first | ((with_reducible refine Knd.move ?_); (refine Exec.stab rfl (Stab.move rfl) rfl ?_)) | ((with_reducible refine Knd.assign ?_); (refine Exec.stab rfl (Stab.assign rfl) rfl ?_)) | ((with_reducible refine Knd.load ?_); ((refine Exec.stab rfl (Stab.loadW rfl (tysOk.get rfl) rfl (by repeat (first | exact Has.here | apply Has.there)) rfl) rfl ?_))) | ((with_reducible refine Knd.store ?_); ((refine Exec.storeW rfl rfl (tysOk.get rfl) (by repeat (first | exact Upd.here | apply Upd.there)) rfl rfl (by repeat (first | exact AllOne.nil | refine AllOne.cons (by first | rfl | assumption) ?_)) ?_))) | ((with_reducible refine Knd.alloc ?_); (first | (refine Exec.alloc (tysOk.get rfl) rfl rfl (fun b => ?_)) | (refine Exec.alloc1 (tysOk.get rfl) rfl rfl rfl (fun b => ?_)))) | ((with_reducible refine Knd.extract ?_); (refine Exec.stab rfl (Stab.extract rfl rfl) rfl ?_)))) | (with_reducible refine Tr.next ?_) | (with_reducible refine Tr.seq ?_) | (with_reducible refine Tr.region ?_) | (with_reducible refine Tr.nil ?_))
  ((refine Tr.step rfl ?_)); refine Exec.call0 rfl (fx_sync1 M6 _ _ hx (hd1.mono hm16)) rfl ?_
  rintro _ M7 hm7 ⟨A7, c7, A8, c8, B8, k8, rfl, hc⟩
  repeat (first | ((with_reducible refine Tr.step rfl ?_); (first | ((with_reducible refine Knd.move ?_); (refine Exec.stab rfl (Stab.move rfl) rfl ?_)) | ((with_reducible refine Knd.assign ?_); (refine Exec.stab rfl (Stab.assign rfl) rfl ?_)) | ((with_reducible refine Knd.load ?_); ((refine Exec.stab rfl (Stab.loadW rfl (tysOk.get rfl) rfl (by repeat (first | exact Has.here | apply Has.there)) rfl) rfl ?_))) | ((with_reducible refine Knd.store ?_); ((refine Exec.storeW rfl rfl (tysOk.get rfl) (by repeat (first | exact Upd.here | apply Upd.there)) rfl rfl (by repeat (first | exact AllOne.nil | refine AllOne.cons (by first | rfl | assumption) ?_)) ?_))) | ((with_reducible refine Knd.alloc ?_); (first | (refine Exec.alloc (tysOk.get rfl) rfl rfl (fun b => ?_)) | (refine Exec.alloc1 (tysOk.get rfl) rfl rfl rfl (fun b => ?_)))) | ((with_reducible refine Knd.extract ?_); (refine Exec.stab rfl (Stab.extract rfl rfl) rfl ?_)))) | (with_reducible refine Tr.next ?_) | (with_reducible refine Tr.seq ?_) | (with_reducible refine Tr.region ?_) | (with_reducible refine Tr.nil ?_))
  ((refine Tr.step rfl ?_)); refine Exec.call0 rfl (fx_open1 M7 _ hc) rfl ?_
  rintro _ M8 hm8 ⟨A9, c9, rfl, hz⟩
  have hm28 := hm25.trans (hm6.trans (hm7.trans hm8))
  repeat (first | ((with_reducible refine Tr.step rfl ?_); (first | ((with_reducible refine Knd.move ?_); (refine Exec.stab rfl (Stab.move rfl) rfl ?_)) | ((with_reducible refine Knd.assign ?_); (refine Exec.stab rfl (Stab.assign rfl) rfl ?_)) | ((with_reducible refine Knd.load ?_); ((refine Exec.stab rfl (Stab.loadW rfl (tysOk.get rfl) rfl (by repeat (first | exact Has.here | apply Has.there)) rfl) rfl ?_))) | ((with_reducible refine Knd.store ?_); ((refine Exec.storeW rfl rfl (tysOk.get rfl) (by repeat (first | exact Upd.here | apply Upd.there)) rfl rfl (by repeat (first | exact AllOne.nil | refine AllOne.cons (by first | rfl | assumption) ?_)) ?_))) | ((with_reducible refine Knd.alloc ?_); (first | (refine Exec.alloc (tysOk.get rfl) rfl rfl (fun b => ?_)) | (refine Exec.alloc1 (tysOk.get rfl) rfl rfl rfl (fun b => ?_)))) | ((with_reducible refine Knd.extract ?_); (refine Exec.stab rfl (Stab.extract rfl rfl) rfl ?_)))) | (with_reducible refine Tr.next ?_) | (with_reducible refine Tr.seq ?_) | (with_reducible refine Tr.region ?_) | (with_reducible refine Tr.nil ?_))
  ((refine Tr.step rfl ?_)); refine Exec.call0 rfl (fx_sync2 M8 _ _ (hx.mono (hm7.trans hm8)) (hc.mono hm8)) rfl ?_
  rintro _ M9 hm9 ⟨A10, c10, A11, c11, B11, k11, rfl⟩
  have hzz := hz.mono hm9
  obtain ⟨Az, cz, ez, hzs⟩ := hzz
  cases ez
  obtain ⟨hAz, chz, hatz, A12, k12, rfl, hb12⟩ := hzs.elem (i := 0) (x := xAB) rfl
  repeat (first | ((with_reducible refine Tr.step rfl ?_); (first | ((with_reducible refine Knd.move ?_); (refine Exec.stab rfl (Stab.move rfl) rfl ?_)) | ((with_reducible refine Knd.assign ?_); (refine Exec.stab rfl (Stab.assign rfl) rfl ?_)) | ((with_reducible refine Knd.binOp ?_); ((refine Exec.stab rfl (Stab.int rfl rfl rfl) rfl ?_))) | ((with_reducible refine Knd.pick ?_); ((refine Exec.stab rfl (Stab.pick_td rfl (by first | (with_reducible assumption) | (with_reducible rfl) | (with_reducible exact (not_not_intro rfl)) | omega) rfl) rfl ?_))) | ((with_reducible refine Knd.store ?_); ((refine Exec.storeW rfl rfl (tysOk.get rfl) (by repeat (first | exact Upd.here | apply Upd.there)) rfl rfl (by repeat (first | exact AllOne.nil | refine AllOne.cons (by first | rfl | assumption) ?_)) ?_))) | ((with_reducible refine Knd.alloc ?_); (first | (refine Exec.alloc (tysOk.get rfl) rfl rfl (fun b => ?_)) | (refine Exec.alloc1 (tysOk.get rfl) rfl rfl rfl (fun b => ?_)))) | ((with_reducible refine Knd.extract ?_); (refine Exec.stab rfl (Stab.extract rfl rfl) rfl ?_)))) | (with_reducible refine Tr.next ?_) | (with_reducible refine Tr.seq ?_) | (with_reducible refine Tr.region ?_) | (with_reducible refine Tr.nil ?_) | ((refine Tr.guard_y rfl rfl rfl (by first | (with_reducible assumption) | (with_reducible rfl) | (with_reducible exact (not_not_intro rfl)) | omega) ?_); (first | ((with_reducible refine Knd.move ?_); (refine Exec.stab rfl (Stab.move rfl) rfl ?_)) | ((with_reducible refine Knd.load ?_); (first | (refine Exec.stab rfl (Stab.load rfl (tysOk.get rfl) rfl (by repeat (first | exact Has.here | apply Has.there)) rfl) rfl ?_) | (refine Exec.stab rfl (Stab.loadW rfl (tysOk.get rfl) rfl (by repeat (first | exact Has.here | apply Has.there)) rfl) rfl ?_))) | ((with_reducible refine Knd.fieldAddr ?_); ((refine Exec.stab rfl (Stab.fieldZ rfl (tysOk.get rfl) rfl rfl (tysOk.get rfl) rfl) rfl ?_))) | ((with_reducible refine Knd.len ?_); ((refine Exec.stab rfl (Stab.len rfl (tysOk.get rfl) rfl) rfl ?_))) | ((with_reducible refine Knd.binOp ?_); ((refine Exec.stab rfl (Stab.int rfl rfl rfl) rfl ?_))))))
  have hstr : (⟨xAB.toArray⟩ : ByteArray).data.toList = (⟨#[97, 98]⟩ : ByteArray).data.toList := rfl
  ((refine Tr.guard_y rfl rfl rfl (by first | (with_reducible assumption) | (with_reducible rfl) | (with_reducible exact (not_not_intro rfl)) | omega) ?_)); refine Exec.call0 rfl (fx_room M9 _ (hl.mono (hm28.trans hm9))) rfl ?_
  rintro _ _ _ ⟨rfl, rfl⟩
  repeat (first | ((with_reducible refine Tr.step rfl ?_); (first | ((with_reducible refine Knd.move ?_); (refine Exec.stab rfl (Stab.move rfl) rfl ?_)) | ((with_reducible refine Knd.pick ?_); ((refine Exec.stab rfl (Stab.pick_td rfl (by first | (with_reducible assumption) | (with_reducible rfl) | (with_reducible exact (not_not_intro rfl)) | omega) rfl) rfl ?_))))) | ((refine Tr.guard_y rfl rfl rfl (by first | (with_reducible assumption) | (with_reducible rfl) | (with_reducible exact (not_not_intro rfl)) | omega) ?_); (first | ((with_reducible refine Knd.move ?_); (refine Exec.stab rfl (Stab.move rfl) rfl ?_)) | ((with_reducible refine Knd.load ?_); (first | (refine Exec.stab rfl (Stab.load rfl (tysOk.get rfl) rfl (by repeat (first | exact Has.here | apply Has.there)) rfl) rfl ?_) | (refine Exec.stab rfl (Stab.loadM rfl (tysOk.get rfl) rfl (by assumption)) rfl ?_))) | ((with_reducible refine Knd.fieldAddr ?_); ((refine Exec.stab rfl (Stab.fieldZ rfl (tysOk.get rfl) rfl rfl (tysOk.get rfl) rfl) rfl ?_))) | ((with_reducible refine Knd.len ?_); ((refine Exec.stab rfl (Stab.len rfl (tysOk.get rfl) rfl) rfl ?_))) | ((with_reducible refine Knd.binOp ?_); (first | (refine Exec.stab rfl (Stab.int rfl rfl rfl) rfl ?_) | (refine Exec.stab rfl (Stab.streq rfl rfl) rfl ?_))) | ((with_reducible refine Knd.indexAddr ?_); ((refine Exec.stab rfl (Stab.indexAddr rfl rfl (tysOk.get rfl) rfl (tysOk.get rfl) rfl (by omega) (by omega) (by first | rfl | assumption)) rfl ?_))) | ((with_reducible refine Knd.convert ?_); ((refine Exec.stab rfl (Stab.bstrB rfl (tysOk.get rfl) (tysOk.get rfl) rfl rfl (tysOk.get rfl) rfl (by assumption)) rfl ?_))) | ((with_reducible refine Knd.build ?_); ((refine Exec.stab rfl (Stab.build tysOk rfl rfl rfl rfl (by repeat (exact BuildP.nil))) rfl ?_))))))
  ((refine Tr.guard_y rfl rfl rfl (by first | (with_reducible assumption) | (with_reducible rfl) | (with_reducible exact (not_not_intro rfl)) | omega) ?_)); refine Exec.call0 rfl (fx_chk M9) rfl ?_
  rintro _ _ _ ⟨rfl, rfl⟩
  repeat (first | ((with_reducible refine Tr.step rfl ?_); (first | ((with_reducible refine Knd.assign ?_); (refine Exec.stab rfl (Stab.assign rfl) rfl ?_)) | ((with_reducible refine Knd.pick ?_); ((refine Exec.stab rfl (Stab.pick_td rfl (by first | (with_reducible assumption) | (with_reducible rfl) | (with_reducible exact (not_not_intro rfl)) | omega) rfl) rfl ?_))))) | (with_reducible refine Tr.next ?_) | (with_reducible refine Tr.nil ?_) | ((refine Tr.guard_y rfl rfl rfl (by first | (with_reducible assumption) | (with_reducible rfl) | (with_reducible exact (not_not_intro rfl)) | omega) ?_); (((with_reducible refine Knd.binOp ?_); ((refine Exec.stab rfl (Stab.int rfl rfl rfl) rfl ?_))))) | (with_reducible refine Tr.ret ?_))
  have hmm := hm1.trans (hm16.trans (hm7.trans (hm8.trans hm9)))
  (refine Tr.done (by first | exact .inl rfl | exact .inr rfl) rfl (by repeat (first | exact RVs.nil | (apply RVs.cons; (exact RV.tmp rfl)))) (by first | exact Mem.le.refl _ | assumption) (by exact ⟨[_, _, _, _, _, _, _, _, _], rfl⟩) ⟨rfl, ?_⟩)
  rfl
end Go.Proofs.Ytkbggengagockaa
/-
  The journal: the guard on sizes.
  Conditions: the records are not too many.
-/
namespace Go.Proofs.Ytkbggengagockaa
open Go Bf
attribute [local irreducible] Tr Exec Stab HasTy Go.Addr.add IntKind.wrap
def tot (l : List (List UInt8)) : Nat := (l.map fun b => 1 + b.length).sum
theorem tot_take {l : List (List UInt8)} {i : Nat} {x : List UInt8} (h : l[i]? = some x) : tot (l.take (i + 1)) = tot (l.take i) + (1 + x.length) := by
  rw [List.take_add_one, h]
  simp [tot]
theorem tot_le (l : List (List UInt8)) (i : Nat) : tot (l.take i) ≤ tot l := by
  have : tot l = tot (l.take i) + tot (l.drop i) := by
    conv => lhs; rw [← List.take_append_drop i l]
    simp only [tot, List.map_append, List.sum_append]
  omega
theorem occs_tot : ∀ l : List (List UInt8), occs l ≤ tot l ∧ l.length ≤ tot l
  | [] => ⟨Nat.le_refl _, Nat.le_refl _⟩
  | b :: l => by
    have h := occs_tot l
    have e : tot (b :: l) = 1 + b.length + tot l := by simp [tot]
    rw [occs_cons, List.length_cons, e]
    unfold occ
    omega
def fewP (d : Dsk) (l : List (List UInt8)) : Prop := d.sec.length ≤ 40 ∧ d.pen.length ≤ 40 ∧ tot l ≤ 4000
instance (d : Dsk) (l : List (List UInt8)) : Decidable (fewP d l) := by unfold fewP; infer_instance
set_option maxHeartbeats 1000000 in
theorem few_jfn (M : Mem) (v : Value) (d : Dsk) (A : Option Addr) (c : Nat) (l : List (List UInt8)) (hd : RDisk M v d) (h : SlOf 1 RSec M (.slice A l.length c) l) (hb : tot l ≤ 1048576) :
    Fn0 Try.prog 11 [v, .slice A l.length c] M (fun r M' => r = .bool (decide (fewP d l)) ∧ M = M') := by
  obtain ⟨A2, c2, B2, k2, rfl, h1, h2⟩ := hd
  have hl := h.len_le
  have l1 := h1.len_le
  have l2 := h2.len_le
  refine Fn.intro Try.func11 rfl rfl Try.ntmps11 rfl fun E F => ?_
  repeat (first | ((with_reducible refine Tr.step rfl ?_); (first | ((with_reducible refine Knd.move ?_); (refine Exec.stab rfl (Stab.move rfl) rfl ?_)) | ((with_reducible refine Knd.assign ?_); (refine Exec.stab rfl (Stab.assign rfl) rfl ?_)) | ((with_reducible refine Knd.len ?_); ((refine Exec.stab rfl (Stab.len rfl (tysOk.get rfl) rfl) rfl ?_))) | ((with_reducible refine Knd.box ?_); (first | (refine Exec.box rfl rfl (fun b => ?_)) | (refine Exec.box1 rfl (by first | rfl | assumption) rfl (fun b => ?_)))))) | (with_reducible refine Tr.next ?_) | (with_reducible refine Tr.seq ?_) | (with_reducible refine Tr.region ?_) | (with_reducible refine Tr.nil ?_) | (with_reducible refine Tr.block ?_))
  refine Tr.loop (α := Nat) (fun i => ⟨34, [(10, .int .i64 i), (9, .int .i64 l.length), (8, .slice A l.length c), (5, .int .i64 ((tot (l.take i) : Nat) : Int)), (2, .pointer (some ⟨_, 0, none⟩)), (4, .bool false)], [], M, _⟩) (fun i => i ≤ l.length) (fun i => l.length - i) 0 (Nat.zero_le _) (holds_sub (by repeat (first | exact SubFr.nil | refine SubFr.cons rfl ?_)) (by repeat (first | exact DropL.refl | apply DropL.skip))) (fun i hi => ?_)
  by_cases hlt : i < l.length
  · obtain ⟨x, hx⟩ := get_of_lt hlt
    obtain ⟨hA, ch, hat, A1, k1, rfl, hxb⟩ := h.elem hx
    have hst := tot_take hx
    have hle := tot_le l (i + 1)
    repeat (first | ((with_reducible refine Tr.step rfl ?_); (first | ((with_reducible refine Knd.move ?_); (refine Exec.stab rfl (Stab.move rfl) rfl ?_)) | ((with_reducible refine Knd.assign ?_); (refine Exec.stab rfl (Stab.assign rfl) rfl ?_)) | ((with_reducible refine Knd.load ?_); ((refine Exec.stab rfl (Stab.loadM rfl (tysOk.get rfl) rfl (by assumption)) rfl ?_))) | ((with_reducible refine Knd.len ?_); ((refine Exec.stab rfl (Stab.len rfl (tysOk.get rfl) rfl) rfl ?_))) | ((with_reducible refine Knd.binOp ?_); (first | (refine Exec.stab rfl (Stab.addi rfl rfl (by omega)) rfl ?_) | (refine Exec.stab rfl (Stab.int rfl rfl rfl) rfl ?_))) | ((with_reducible refine Knd.indexAddr ?_); ((refine Exec.stab rfl (Stab.indexAddr rfl rfl (tysOk.get rfl) rfl (tysOk.get rfl) rfl (by omega) (by omega) (by first | rfl | assumption)) rfl ?_))))) | (with_reducible refine Tr.next ?_) | (with_reducible refine Tr.seq ?_) | (with_reducible refine Tr.region ?_) | (with_reducible refine Tr.nil ?_) | (with_reducible refine Tr.skip ?_) | (with_reducible refine Tr.block ?_) | (with_reducible refine Tr.in_normal ?_) | (refine Tr.cond_t rfl (by first | (with_reducible assumption) | (with_reducible rfl) | (with_reducible exact (not_not_intro rfl)) | omega) ?_))
    have e : ((tot (l.take i) : Nat) : Int) + (1 + (x.length : Int)) = ((tot (l.take (i + 1)) : Nat) : Int) := by omega
    rw [e]
    refine Tr.again (i + 1) (by omega) (by omega) (holds_sub (by repeat (first | exact SubFr.nil | refine SubFr.cons rfl ?_)) (by repeat (first | exact DropL.refl | apply DropL.skip)))
  · have e : i = l.length := by omega
    subst e
    rw [List.take_length]
    by_cases c1 : (d.sec.length : Int) ≤ 40
    · by_cases c2 : (d.pen.length : Int) ≤ 40
      · by_cases c3 : ((tot l : Nat) : Int) ≤ 4000
        · repeat (first | ((with_reducible refine Tr.step rfl ?_); (first | ((with_reducible refine Knd.move ?_); (refine Exec.stab rfl (Stab.move rfl) rfl ?_)) | ((with_reducible refine Knd.assign ?_); (refine Exec.stab rfl (Stab.assign rfl) rfl ?_)) | ((with_reducible refine Knd.load ?_); ((refine Exec.stab rfl (Stab.load rfl (tysOk.get rfl) rfl (by repeat (first | exact Has.here | apply Has.there)) rfl) rfl ?_))) | ((with_reducible refine Knd.fieldAddr ?_); ((refine Exec.stab rfl (Stab.fieldZ rfl (tysOk.get rfl) rfl rfl (tysOk.get rfl) rfl) rfl ?_))) | ((with_reducible refine Knd.len ?_); ((refine Exec.stab rfl (Stab.len rfl (tysOk.get rfl) rfl) rfl ?_))) | ((with_reducible refine Knd.binOp ?_); ((refine Exec.stab rfl (Stab.int rfl rfl rfl) rfl ?_))) | ((with_reducible refine Knd.pick ?_); ((refine Exec.stab rfl (Stab.pick_td rfl (by first | (with_reducible assumption) | (with_reducible rfl) | (with_reducible exact (not_not_intro rfl)) | omega) rfl) rfl ?_))))) | (with_reducible refine Tr.next ?_) | (with_reducible refine Tr.seq ?_) | (with_reducible refine Tr.region ?_) | (with_reducible refine Tr.nil ?_) | ((refine Tr.guard_y rfl rfl rfl (by first | (with_reducible assumption) | (with_reducible rfl) | (with_reducible exact (not_not_intro rfl)) | omega) ?_); (first | ((with_reducible refine Knd.move ?_); (refine Exec.stab rfl (Stab.move rfl) rfl ?_)) | ((with_reducible refine Knd.load ?_); ((refine Exec.stab rfl (Stab.load rfl (tysOk.get rfl) rfl (by repeat (first | exact Has.here | apply Has.there)) rfl) rfl ?_))) | ((with_reducible refine Knd.fieldAddr ?_); ((refine Exec.stab rfl (Stab.fieldZ rfl (tysOk.get rfl) rfl rfl (tysOk.get rfl) rfl) rfl ?_))) | ((with_reducible refine Knd.len ?_); ((refine Exec.stab rfl (Stab.len rfl (tysOk.get rfl) rfl) rfl ?_))) | ((with_reducible refine Knd.binOp ?_); ((refine Exec.stab rfl (Stab.int rfl rfl rfl) rfl ?_))))) | (with_reducible refine Tr.exit ?_) | (with_reducible refine Tr.ret ?_) | (with_reducible refine Tr.then_exit ?_) | ((with_reducible refine Tr.in_exit ?_ ?_); (exact rfl)) | (refine Tr.cond_f rfl (by first | (with_reducible assumption) | (with_reducible rfl) | (with_reducible exact (not_not_intro rfl)) | omega) ?_))
          (refine Tr.done (by first | exact .inl rfl | exact .inr rfl) rfl (by repeat (first | exact RVs.nil | (apply RVs.cons; (exact RV.tmp rfl)))) (by first | exact Mem.le.refl _ | assumption) (by exact ⟨[_], rfl⟩) ⟨rfl, ?_⟩)
          exact ⟨by rw [decide_eq_true (show fewP d l from ⟨by omega, by omega, by omega⟩)]; exact congrArg Value.bool (decide_eq_true c3), rfl⟩
        · repeat (first | ((with_reducible refine Tr.step rfl ?_); (first | ((with_reducible refine Knd.move ?_); (refine Exec.stab rfl (Stab.move rfl) rfl ?_)) | ((with_reducible refine Knd.assign ?_); (refine Exec.stab rfl (Stab.assign rfl) rfl ?_)) | ((with_reducible refine Knd.load ?_); ((refine Exec.stab rfl (Stab.load rfl (tysOk.get rfl) rfl (by repeat (first | exact Has.here | apply Has.there)) rfl) rfl ?_))) | ((with_reducible refine Knd.fieldAddr ?_); ((refine Exec.stab rfl (Stab.fieldZ rfl (tysOk.get rfl) rfl rfl (tysOk.get rfl) rfl) rfl ?_))) | ((with_reducible refine Knd.len ?_); ((refine Exec.stab rfl (Stab.len rfl (tysOk.get rfl) rfl) rfl ?_))) | ((with_reducible refine Knd.binOp ?_); ((refine Exec.stab rfl (Stab.int rfl rfl rfl) rfl ?_))) | ((with_reducible refine Knd.pick ?_); ((refine Exec.stab rfl (Stab.pick_td rfl (by first | (with_reducible assumption) | (with_reducible rfl) | (with_reducible exact (not_not_intro rfl)) | omega) rfl) rfl ?_))))) | (with_reducible refine Tr.next ?_) | (with_reducible refine Tr.seq ?_) | (with_reducible refine Tr.region ?_) | (with_reducible refine Tr.nil ?_) | ((refine Tr.guard_y rfl rfl rfl (by first | (with_reducible assumption) | (with_reducible rfl) | (with_reducible exact (not_not_intro rfl)) | omega) ?_); (first | ((with_reducible refine Knd.move ?_); (refine Exec.stab rfl (Stab.move rfl) rfl ?_)) | ((with_reducible refine Knd.load ?_); ((refine Exec.stab rfl (Stab.load rfl (tysOk.get rfl) rfl (by repeat (first | exact Has.here | apply Has.there)) rfl) rfl ?_))) | ((with_reducible refine Knd.fieldAddr ?_); ((refine Exec.stab rfl (Stab.fieldZ rfl (tysOk.get rfl) rfl rfl (tysOk.get rfl) rfl) rfl ?_))) | ((with_reducible refine Knd.len ?_); ((refine Exec.stab rfl (Stab.len rfl (tysOk.get rfl) rfl) rfl ?_))) | ((with_reducible refine Knd.binOp ?_); ((refine Exec.stab rfl (Stab.int rfl rfl rfl) rfl ?_))))) | (with_reducible refine Tr.exit ?_) | (with_reducible refine Tr.ret ?_) | (with_reducible refine Tr.then_exit ?_) | ((with_reducible refine Tr.in_exit ?_ ?_); (exact rfl)) | (refine Tr.cond_f rfl (by first | (with_reducible assumption) | (with_reducible rfl) | (with_reducible exact (not_not_intro rfl)) | omega) ?_))
          (refine Tr.done (by first | exact .inl rfl | exact .inr rfl) rfl (by repeat (first | exact RVs.nil | (apply RVs.cons; (exact RV.tmp rfl)))) (by first | exact Mem.le.refl _ | assumption) (by exact ⟨[_], rfl⟩) ⟨rfl, ?_⟩)
          exact ⟨by rw [decide_eq_false (show ¬ fewP d l from fun h => c3 (by have := h.2.2; omega))]; exact congrArg Value.bool (decide_eq_false c3), rfl⟩
      · repeat (first | ((with_reducible refine Tr.step rfl ?_); (first | ((with_reducible refine Knd.move ?_); (refine Exec.stab rfl (Stab.move rfl) rfl ?_)) | ((with_reducible refine Knd.assign ?_); (refine Exec.stab rfl (Stab.assign rfl) rfl ?_)) | ((with_reducible refine Knd.load ?_); ((refine Exec.stab rfl (Stab.load rfl (tysOk.get rfl) rfl (by repeat (first | exact Has.here | apply Has.there)) rfl) rfl ?_))) | ((with_reducible refine Knd.fieldAddr ?_); ((refine Exec.stab rfl (Stab.fieldZ rfl (tysOk.get rfl) rfl rfl (tysOk.get rfl) rfl) rfl ?_))) | ((with_reducible refine Knd.len ?_); ((refine Exec.stab rfl (Stab.len rfl (tysOk.get rfl) rfl) rfl ?_))) | ((with_reducible refine Knd.binOp ?_); ((refine Exec.stab rfl (Stab.int rfl rfl rfl) rfl ?_))) | ((with_reducible refine Knd.pick ?_); (first | (refine Exec.stab rfl (Stab.pick_td rfl (by first | (with_reducible assumption) | (with_reducible rfl) | (with_reducible exact (not_not_intro rfl)) | omega) rfl) rfl ?_) | (refine Exec.stab rfl (Stab.pick_fd rfl (by first | (with_reducible assumption) | (with_reducible rfl) | (with_reducible exact (not_not_intro rfl)) | omega) rfl) rfl ?_))))) | (with_reducible refine Tr.next ?_) | (with_reducible refine Tr.seq ?_) | (with_reducible refine Tr.region ?_) | (with_reducible refine Tr.nil ?_) | ((refine Tr.guard_y rfl rfl rfl (by first | (with_reducible assumption) | (with_reducible rfl) | (with_reducible exact (not_not_intro rfl)) | omega) ?_); (first | ((with_reducible refine Knd.load ?_); ((refine Exec.stab rfl (Stab.load rfl (tysOk.get rfl) rfl (by repeat (first | exact Has.here | apply Has.there)) rfl) rfl ?_))) | ((with_reducible refine Knd.fieldAddr ?_); ((refine Exec.stab rfl (Stab.fieldZ rfl (tysOk.get rfl) rfl rfl (tysOk.get rfl) rfl) rfl ?_))) | ((with_reducible refine Knd.len ?_); ((refine Exec.stab rfl (Stab.len rfl (tysOk.get rfl) rfl) rfl ?_))) | ((with_reducible refine Knd.binOp ?_); ((refine Exec.stab rfl (Stab.int rfl rfl rfl) rfl ?_))))) | (refine Tr.guard_n rfl rfl rfl (by first | (with_reducible assumption) | (with_reducible rfl) | (with_reducible exact (not_not_intro rfl)) | omega) rfl rfl ?_) | (with_reducible refine Tr.exit ?_) | (with_reducible refine Tr.ret ?_) | (with_reducible refine Tr.then_exit ?_) | ((with_reducible refine Tr.in_exit ?_ ?_); (exact rfl)) | (refine Tr.cond_f rfl (by first | (with_reducible assumption) | (with_reducible rfl) | (with_reducible exact (not_not_intro rfl)) | omega) ?_))
        (refine Tr.done (by first | exact .inl rfl | exact .inr rfl) rfl (by repeat (first | exact RVs.nil | (apply RVs.cons; (exact RV.tmp rfl)))) (by first | exact Mem.le.refl _ | assumption) (by exact ⟨[_], rfl⟩) ⟨rfl, ?_⟩)
        exact ⟨by rw [decide_eq_false (show ¬ fewP d l from fun h => c2 (by have := h.2.1; omega))]; rfl, rfl⟩
    · repeat (first | ((with_reducible refine Tr.step rfl ?_); (first | ((with_reducible refine Knd.move ?_); (refine Exec.stab rfl (Stab.move rfl) rfl ?_)) | ((with_reducible refine Knd.assign ?_); (refine Exec.stab rfl (Stab.assign rfl) rfl ?_)) | ((with_reducible refine Knd.load ?_); ((refine Exec.stab rfl (Stab.load rfl (tysOk.get rfl) rfl (by repeat (first | exact Has.here | apply Has.there)) rfl) rfl ?_))) | ((with_reducible refine Knd.fieldAddr ?_); ((refine Exec.stab rfl (Stab.fieldZ rfl (tysOk.get rfl) rfl rfl (tysOk.get rfl) rfl) rfl ?_))) | ((with_reducible refine Knd.len ?_); ((refine Exec.stab rfl (Stab.len rfl (tysOk.get rfl) rfl) rfl ?_))) | ((with_reducible refine Knd.binOp ?_); ((refine Exec.stab rfl (Stab.int rfl rfl rfl) rfl ?_))) | ((with_reducible refine Knd.pick ?_); (first | (refine Exec.stab rfl (Stab.pick_f rfl (by first | (with_reducible rfl) | (with_reducible assumption) | (with_reducible exact Bool.not_true) | (with_reducible exact Bool.not_false)) rfl) rfl ?_) | (refine Exec.stab rfl (Stab.pick_fd rfl (by first | (with_reducible assumption) | (with_reducible rfl) | (with_reducible exact (not_not_intro rfl)) | omega) rfl) rfl ?_))))) | (with_reducible refine Tr.next ?_) | (with_reducible refine Tr.seq ?_) | (with_reducible refine Tr.region ?_) | (with_reducible refine Tr.nil ?_) | (refine Tr.guard_s1 rfl rfl rfl (by first | (with_reducible rfl) | (with_reducible assumption) | (with_reducible exact Bool.not_true) | (with_reducible exact Bool.not_false)) rfl rfl ?_) | (refine Tr.guard_n rfl rfl rfl (by first | (with_reducible assumption) | (with_reducible rfl) | (with_reducible exact (not_not_intro rfl)) | omega) rfl rfl ?_) | (with_reducible refine Tr.exit ?_) | (with_reducible refine Tr.ret ?_) | (with_reducible refine Tr.then_exit ?_) | ((with_reducible refine Tr.in_exit ?_ ?_); (exact rfl)) | (refine Tr.cond_f rfl (by first | (with_reducible assumption) | (with_reducible rfl) | (with_reducible exact (not_not_intro rfl)) | omega) ?_))
      (refine Tr.done (by first | exact .inl rfl | exact .inr rfl) rfl (by repeat (first | exact RVs.nil | (apply RVs.cons; (exact RV.tmp rfl)))) (by first | exact Mem.le.refl _ | assumption) (by exact ⟨[_], rfl⟩) ⟨rfl, ?_⟩)
      exact ⟨by rw [decide_eq_false (show ¬ fewP d l from fun h => c1 (by have := h.1; omega))]; rfl, rfl⟩

end Go.Proofs.Ytkbggengagockaa
