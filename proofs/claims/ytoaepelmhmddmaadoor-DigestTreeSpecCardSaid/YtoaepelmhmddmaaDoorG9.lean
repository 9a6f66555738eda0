/-
  The digest: paths and steps; the contracts of Path, path, steps and length.
  Conditions: none.
-/
import Derived.Test.YtoaepelmhmddmaaDoorG8
import Derived.Test.YtoaepelmhmddmaaDoorBfBuild
namespace Go.Proofs.YtoaepelmhmddmaaDoor
open Go Bf
attribute [local irreducible] Tr Exec Stab HasTy Go.Addr.add IntKind.wrap
attribute [local irreducible] hlf tagF sumF
/-- how many steps lead to an element -/
def stepsF (at_ n : Nat) : Nat :=
  if h : 2 ≤ n then (if at_ < hlf n then stepsF at_ (hlf n) + 1 else stepsF (at_ - hlf n) (n - hlf n) + 1) else 0
termination_by n
decreasing_by
  · exact hlf_lt h
  · have := hlf_pos n; omega
theorem stepsF_left {at_ n : Nat} (h : 2 ≤ n) (hl : at_ < hlf n) : stepsF at_ n = stepsF at_ (hlf n) + 1 := by rw [stepsF, dif_pos h, if_pos hl]
theorem stepsF_right {at_ n : Nat} (h : 2 ≤ n) (hl : ¬ at_ < hlf n) : stepsF at_ n = stepsF (at_ - hlf n) (n - hlf n) + 1 := by rw [stepsF, dif_pos h, if_neg hl]
theorem stepsF_one {at_ n : Nat} (h : ¬ 2 ≤ n) : stepsF at_ n = 0 := by rw [stepsF, dif_neg h]
theorem stepsF_le : ∀ (n at_ : Nat), stepsF at_ n ≤ n := by
  intro n
  induction n using Nat.strongRecOn with
  | _ n ih =>
  intro at_
  by_cases h : 2 ≤ n
  · have h1 := hlf_lt h
    have h2 := hlf_pos n
    by_cases hl : at_ < hlf n
    · rw [stepsF_left h hl]; have := ih _ h1 at_; omega
    · rw [stepsF_right h hl]; have := ih (n - hlf n) (by omega) (at_ - hlf n); omega
  · rw [stepsF_one h]; omega
/-- the path of an element -/
def pathF (l : List (List UInt8)) (at_ : Nat) : List (List UInt8) :=
  if h : 2 ≤ l.length then (if at_ < hlf l.length then pathF (l.take (hlf l.length)) at_ ++ [treeF (l.drop (hlf l.length))] else pathF (l.drop (hlf l.length)) (at_ - hlf l.length) ++ [treeF (l.take (hlf l.length))]) else []
termination_by l.length
decreasing_by
  · have := hlf_lt h; simp; omega
  · have := hlf_pos l.length; simp; omega
theorem pathF_left {l : List (List UInt8)} {at_ : Nat} (h : 2 ≤ l.length) (hl : at_ < hlf l.length) : pathF l at_ = pathF (l.take (hlf l.length)) at_ ++ [treeF (l.drop (hlf l.length))] := by rw [pathF, dif_pos h, if_pos hl]
theorem pathF_right {l : List (List UInt8)} {at_ : Nat} (h : 2 ≤ l.length) (hl : ¬ at_ < hlf l.length) : pathF l at_ = pathF (l.drop (hlf l.length)) (at_ - hlf l.length) ++ [treeF (l.take (hlf l.length))] := by rw [pathF, dif_pos h, if_neg hl]
theorem pathF_one {l : List (List UInt8)} {at_ : Nat} (h : ¬ 2 ≤ l.length) : pathF l at_ = [] := by rw [pathF, dif_neg h]
theorem pathF_steps : ∀ (n : Nat) (l : List (List UInt8)), l.length = n → ∀ at_, (pathF l at_).length = stepsF at_ n := by
  intro n
  induction n using Nat.strongRecOn with
  | _ n ih =>
  rintro l rfl at_
  by_cases h : 2 ≤ l.length
  · have h1 := hlf_lt h
    have h2 := hlf_pos l.length
    by_cases hl : at_ < hlf l.length
    · rw [pathF_left h hl, stepsF_left h hl, List.length_append, ih _ h1 _ (by simp; omega)]; rfl
    · rw [pathF_right h hl, stepsF_right h hl, List.length_append, ih (l.length - hlf l.length) (by omega) _ (by simp)]; rfl
  · rw [pathF_one h, stepsF_one h]; rfl
theorem pathF_len (l : List (List UInt8)) (at_ : Nat) : (pathF l at_).length ≤ l.length := by rw [pathF_steps _ l rfl]; exact stepsF_le _ _
set_option maxHeartbeats 4000000 in
theorem path_fn : ∀ (l : List (List UInt8)) (at_ : Nat) (M : Mem) (hK : At M ⟨0, 0, none⟩ (wV Kw)) (A : Option Addr) (c : Nat), RDs M (.slice A l.length c) l → at_ < l.length → l.length ≤ 1000 →
    Bf.Fn Tryd.prog 19 [.slice A l.length c, .int .i64 (at_ : Int)] M [] (fun r M' A' => ∃ B k, r = .tuple #[.slice B (pathF l at_).length k, .int .i64 0] ∧ k ≤ 9223372036854775807 ∧ A' = [ownS 26 32 B (pathF l at_).length k (byteV (pathF l at_).flatten)]) := by
  intro l
  induction hn : l.length using Nat.strongRecOn generalizing l with
  | _ n ih =>
  subst hn
  intro at_ M hK A c hl hat hlen
  have hll := hl.len_le
  by_cases h2 : 2 ≤ l.length
  rotate_left
  · have h1 : l.length = 1 := by omega
    rw [pathF_one (by omega)]
    refine Fn.intro Tryd.func19 rfl rfl Tryd.ntmps19 rfl fun E F => ?_
    repeat (first | ((with_reducible refine Tr.step rfl ?_); (first | ((with_reducible refine Knd.move ?_); (refine Exec.stab rfl (Stab.move rfl) rfl ?_)) | ((with_reducible refine Knd.assign ?_); (refine Exec.stab rfl (Stab.assign rfl) rfl ?_)) | ((with_reducible refine Knd.len ?_); ((refine Exec.stab rfl (Stab.len rfl (tysOk.get rfl) rfl) rfl ?_))) | ((with_reducible refine Knd.binOp ?_); ((refine Exec.stab rfl (Stab.int rfl rfl rfl) rfl ?_))) | ((with_reducible refine Knd.pick ?_); ((refine Exec.stab rfl (Stab.pick_fd rfl (by first | (with_reducible assumption) | (with_reducible rfl) | (with_reducible exact (not_not_intro rfl)) | omega) rfl) rfl ?_))))) | (with_reducible refine Tr.next ?_) | (with_reducible refine Tr.seq ?_) | (with_reducible refine Tr.region ?_) | (with_reducible refine Tr.nil ?_) | ((refine Tr.guard_y' rfl rfl rfl (by first | (with_reducible assumption) | (with_reducible rfl) | (with_reducible exact (not_not_intro rfl)) | omega) ?_); (first | ((with_reducible refine Knd.move ?_); (refine Exec.stab rfl (Stab.move rfl) rfl ?_)) | ((with_reducible refine Knd.len ?_); ((refine Exec.stab rfl (Stab.len rfl (tysOk.get rfl) rfl) rfl ?_))) | ((with_reducible refine Knd.binOp ?_); ((refine Exec.stab rfl (Stab.int rfl rfl rfl) rfl ?_))))) | (with_reducible refine Tr.skip ?_) | (with_reducible refine Tr.ret ?_) | (with_reducible refine Tr.then_ret ?_) | (refine Tr.cond_t rfl (by first | (with_reducible assumption) | (with_reducible rfl) | (with_reducible exact (not_not_intro rfl)) | omega) ?_) | (refine Tr.cond_f rfl (by first | (with_reducible assumption) | (with_reducible rfl) | (with_reducible exact (not_not_intro rfl)) | omega) ?_))
    refine Tr.own_nil 26 32 ?_
    refine Tr.doneA (A' := [ownS 26 32 _ 0 0 []]) (by first | exact .inl rfl | exact .inr rfl) rfl (by repeat (first | exact RVs.nil | (apply RVs.cons; (exact RV.tmp rfl)))) (Mem.le.refl _) ⟨fun _ h => h, fun h => h⟩ ⟨_, 0, rfl, by omega, rfl⟩
  have k1 := hlf_lt h2
  have k2 := hlf_pos l.length
  obtain ⟨cells, -, hlc, hcm, -⟩ := hl.cells
  have hp := hl.pre (k := hlf l.length) (m := c) (by omega) (by omega) (Nat.le_refl _)
  have hq := hl.sub (l := hlf l.length) (k := l.length) (m := c) (by omega) (Nat.le_refl _) (by omega) (Nat.le_refl _)
  have e1 : (l.take (hlf l.length)).length = hlf l.length := by simp; omega
  have e2 : (l.drop (hlf l.length)).length = l.length - hlf l.length := by simp
  have e3 : (l.drop (hlf l.length)).take (l.length - hlf l.length) = l.drop (hlf l.length) := by rw [List.take_of_length_le (by simp)]
  rw [e3] at hq
  have hh := half_fn M l.length h2 (by omega)
  have hp' : RDs M (.slice A (l.take (hlf l.length)).length c) (l.take (hlf l.length)) := by rw [e1]; exact hp
  have hq' := hq
  rw [← e2] at hq'
  by_cases hlt : at_ < hlf l.length
  · rw [pathF_left h2 hlt]
    have f1 := ih _ (by rw [e1]; omega) (l.take (hlf l.length)) rfl at_ M hK A c hp' (by omega) (by omega)
    have hpl := pathF_len (l.take (hlf l.length)) at_
    rw [e1] at f1 hpl
    refine Fn.intro Tryd.func19 rfl rfl Tryd.ntmps19 rfl fun E F => ?_
    repeat (first | ((with_reducible refine Tr.step rfl ?_); (first | ((with_reducible refine Knd.move ?_); (refine Exec.stab rfl (Stab.move rfl) rfl ?_)) | ((with_reducible refine Knd.assign ?_); (refine Exec.stab rfl (Stab.assign rfl) rfl ?_)) | ((with_reducible refine Knd.len ?_); ((refine Exec.stab rfl (Stab.len rfl (tysOk.get rfl) rfl) rfl ?_))) | ((with_reducible refine Knd.binOp ?_); ((refine Exec.stab rfl (Stab.int rfl rfl rfl) rfl ?_))) | ((with_reducible refine Knd.pick ?_); ((refine Exec.stab rfl (Stab.pick_fd rfl (by first | (with_reducible assumption) | (with_reducible rfl) | (with_reducible exact (not_not_intro rfl)) | omega) rfl) rfl ?_))))) | (with_reducible refine Tr.next ?_) | (with_reducible refine Tr.seq ?_) | (with_reducible refine Tr.region ?_) | (with_reducible refine Tr.nil ?_) | ((refine Tr.guard_y' rfl rfl rfl (by first | (with_reducible assumption) | (with_reducible rfl) | (with_reducible exact (not_not_intro rfl)) | omega) ?_); (first | ((with_reducible refine Knd.move ?_); (refine Exec.stab rfl (Stab.move rfl) rfl ?_)) | ((with_reducible refine Knd.len ?_); ((refine Exec.stab rfl (Stab.len rfl (tysOk.get rfl) rfl) rfl ?_))) | ((with_reducible refine Knd.binOp ?_); ((refine Exec.stab rfl (Stab.int rfl rfl rfl) rfl ?_))))) | (with_reducible refine Tr.skip ?_) | (refine Tr.cond_f rfl (by first | (with_reducible assumption) | (with_reducible rfl) | (with_reducible exact (not_not_intro rfl)) | omega) ?_))
    ((refine Tr.step rfl ?_)); refine Exec.call0 rfl (hh) rfl ?_
    rintro _ _ _ ⟨rfl, rfl⟩
    · repeat (first | ((with_reducible refine Tr.step rfl ?_); (first | ((with_reducible refine Knd.move ?_); (refine Exec.stab rfl (Stab.move rfl) rfl ?_)) | ((with_reducible refine Knd.assign ?_); (refine Exec.stab rfl (Stab.assign rfl) rfl ?_)) | ((with_reducible refine Knd.binOp ?_); ((refine Exec.stab rfl (Stab.int rfl rfl rfl) rfl ?_))) | ((with_reducible refine Knd.slice ?_); ((refine Exec.stab rfl (Stab.slice_h rfl rfl (tysOk.get rfl) rfl (tysOk.get rfl) (by omega) (by omega)) rfl ?_))))) | (with_reducible refine Tr.next ?_) | (with_reducible refine Tr.seq ?_) | (with_reducible refine Tr.region ?_) | (with_reducible refine Tr.nil ?_) | (refine Tr.cond_t rfl (by first | (with_reducible assumption) | (with_reducible rfl) | (with_reducible exact (not_not_intro rfl)) | omega) ?_))
      ((refine Tr.step rfl ?_))
      refine Exec.call (A := []) rfl f1 (List.Perm.refl _) rfl ?_
      rintro _ M1 _ hm1 ⟨B1, k1, rfl, hk1, rfl⟩
      repeat (first | ((with_reducible refine Tr.step rfl ?_); (first | ((with_reducible refine Knd.move ?_); (refine Exec.stab rfl (Stab.move rfl) rfl ?_)) | ((with_reducible refine Knd.assign ?_); (refine Exec.stab rfl (Stab.assign rfl) rfl ?_)) | ((with_reducible refine Knd.extract ?_); (refine Exec.stab rfl (Stab.extract rfl rfl) rfl ?_)) | ((with_reducible refine Knd.slice ?_); ((refine Exec.stab rfl (Stab.slice_l rfl rfl (tysOk.get rfl) rfl (tysOk.get rfl) rfl (by omega) (by omega)) rfl ?_))))) | (with_reducible refine Tr.next ?_) | (with_reducible refine Tr.seq ?_) | (with_reducible refine Tr.region ?_) | (with_reducible refine Tr.nil ?_))
      have ft := tree_fn _ M1 (hK.mono hm1) _ _ ((hq').mono RD.mono hm1) (by rw [e2]; omega)
      rw [e2] at ft
      have tl := treeF_length (l.drop (hlf l.length))
      have htl : (byteV (treeF (l.drop (hlf l.length)))).length = 32 := by simpa using tl
      generalize hT : treeF (l.drop (hlf l.length)) = T at ft tl htl ⊢
      ((refine Tr.step rfl ?_))
      refine Exec.call0 rfl ft rfl ?_
      rintro _ M2 hm2 rfl
      repeat (((with_reducible refine Tr.step rfl ?_); (((with_reducible refine Knd.buildSlice ?_); ((refine Exec.buildSlice1 rfl (tysOk.get rfl) rfl (tysOk.get rfl) rfl rfl rfl rfl rfl (by first | rfl | assumption) rfl (fun b => ?_)))))))
      ((refine Tr.step rfl ?_))
      refine Exec.append (news := byteV T) rfl rfl (tysOk.get rfl) rfl (tysOk.get rfl) rfl rfl rfl rfl (by repeat (first | exact Del.here | apply Del.there)) (Src.box (by repeat (first | exact Has.here | apply Has.there))) (by simpa using tl) (byteV_one _) (by omega) (by omega) rfl (fun A6 c6 hc6 => ?_)
      rw [← byteV_append, show (pathF (l.take (hlf l.length)) at_).flatten ++ T = (pathF (l.take (hlf l.length)) at_ ++ [T]).flatten by simp, show (pathF (l.take (hlf l.length)) at_).length + 1 = (pathF (l.take (hlf l.length)) at_ ++ [T]).length by simp]
      repeat (first | ((with_reducible refine Tr.step rfl ?_); (((with_reducible refine Knd.assign ?_); (refine Exec.stab rfl (Stab.assign rfl) rfl ?_)))) | (with_reducible refine Tr.next ?_) | (with_reducible refine Tr.nil ?_) | (with_reducible refine Tr.ret ?_) | (with_reducible refine Tr.then_ret ?_))
      have hm02 := hm1.trans hm2
      refine Tr.doneB (A' := [ownS 26 32 A6 (pathF (l.take (hlf l.length)) at_ ++ [T]).length c6 (byteV (pathF (l.take (hlf l.length)) at_ ++ [T]).flatten)]) [box _ 26 _] (by first | exact .inl rfl | exact .inr rfl) rfl (by repeat (first | exact RVs.nil | (apply RVs.cons; (exact RV.tmp rfl)))) hm02 (List.Perm.swap _ _ _) ⟨A6, c6, rfl, hc6, rfl⟩

  · rw [pathF_right h2 hlt]
    have f1 := ih _ (by rw [e2]; omega) (l.drop (hlf l.length)) rfl (at_ - hlf l.length) M hK _ _ hq' (by omega) (by omega)
    have hpl := pathF_len (l.drop (hlf l.length)) (at_ - hlf l.length)
    rw [e2] at f1 hpl
    have hsub : (at_ : Int) - (hlf l.length : Int) = ((at_ - hlf l.length : Nat) : Int) := by omega
    refine Fn.intro Tryd.func19 rfl rfl Tryd.ntmps19 rfl fun E F => ?_
    repeat (first | ((with_reducible refine Tr.step rfl ?_); (first | ((with_reducible refine Knd.move ?_); (refine Exec.stab rfl (Stab.move rfl) rfl ?_)) | ((with_reducible refine Knd.assign ?_); (refine Exec.stab rfl (Stab.assign rfl) rfl ?_)) | ((with_reducible refine Knd.len ?_); ((refine Exec.stab rfl (Stab.len rfl (tysOk.get rfl) rfl) rfl ?_))) | ((with_reducible refine Knd.binOp ?_); ((refine Exec.stab rfl (Stab.int rfl rfl rfl) rfl ?_))) | ((with_reducible refine Knd.pick ?_); ((refine Exec.stab rfl (Stab.pick_fd rfl (by first | (with_reducible assumption) | (with_reducible rfl) | (with_reducible exact (not_not_intro rfl)) | omega) rfl) rfl ?_))))) | (with_reducible refine Tr.next ?_) | (with_reducible refine Tr.seq ?_) | (with_reducible refine Tr.region ?_) | (with_reducible refine Tr.nil ?_) | ((refine Tr.guard_y' rfl rfl rfl (by first | (with_reducible assumption) | (with_reducible rfl) | (with_reducible exact (not_not_intro rfl)) | omega) ?_); (first | ((with_reducible refine Knd.move ?_); (refine Exec.stab rfl (Stab.move rfl) rfl ?_)) | ((with_reducible refine Knd.len ?_); ((refine Exec.stab rfl (Stab.len rfl (tysOk.get rfl) rfl) rfl ?_))) | ((with_reducible refine Knd.binOp ?_); ((refine Exec.stab rfl (Stab.int rfl rfl rfl) rfl ?_))))) | (with_reducible refine Tr.skip ?_) | (refine Tr.cond_f rfl (by first | (with_reducible assumption) | (with_reducible rfl) | (with_reducible exact (not_not_intro rfl)) | omega) ?_))
    ((refine Tr.step rfl ?_)); refine Exec.call0 rfl (hh) rfl ?_
    rintro _ _ _ ⟨rfl, rfl⟩
    · repeat (first | ((with_reducible refine Tr.step rfl ?_); (first | ((with_reducible refine Knd.move ?_); (refine Exec.stab rfl (Stab.move rfl) rfl ?_)) | ((with_reducible refine Knd.assign ?_); (refine Exec.stab rfl (Stab.assign rfl) rfl ?_)) | ((with_reducible refine Knd.binOp ?_); (first | (refine Exec.stab rfl (Stab.subi rfl rfl (by omega)) rfl ?_) | (refine Exec.stab rfl (Stab.int rfl rfl rfl) rfl ?_))) | ((with_reducible refine Knd.slice ?_); ((refine Exec.stab rfl (Stab.slice_l rfl rfl (tysOk.get rfl) rfl (tysOk.get rfl) rfl (by omega) (by omega)) rfl ?_))))) | (with_reducible refine Tr.next ?_) | (with_reducible refine Tr.seq ?_) | (with_reducible refine Tr.region ?_) | (with_reducible refine Tr.nil ?_) | (with_reducible refine Tr.skip ?_) | (refine Tr.cond_f rfl (by first | (with_reducible assumption) | (with_reducible rfl) | (with_reducible exact (not_not_intro rfl)) | omega) ?_))
      rw [hsub]
      ((refine Tr.step rfl ?_))
      refine Exec.call (A := []) rfl f1 (List.Perm.refl _) rfl ?_
      rintro _ M1 _ hm1 ⟨B1, k1, rfl, hk1, rfl⟩
      repeat (first | ((with_reducible refine Tr.step rfl ?_); (first | ((with_reducible refine Knd.move ?_); (refine Exec.stab rfl (Stab.move rfl) rfl ?_)) | ((with_reducible refine Knd.assign ?_); (refine Exec.stab rfl (Stab.assign rfl) rfl ?_)) | ((with_reducible refine Knd.extract ?_); (refine Exec.stab rfl (Stab.extract rfl rfl) rfl ?_)) | ((with_reducible refine Knd.slice ?_); ((refine Exec.stab rfl (Stab.slice_h rfl rfl (tysOk.get rfl) rfl (tysOk.get rfl) (by omega) (by omega)) rfl ?_))))) | (with_reducible refine Tr.next ?_) | (with_reducible refine Tr.seq ?_) | (with_reducible refine Tr.region ?_) | (with_reducible refine Tr.nil ?_))
      have ft := tree_fn _ M1 (hK.mono hm1) _ _ ((hp').mono RD.mono hm1) (by rw [e1]; omega)
      rw [e1] at ft
      have tl := treeF_length (l.take (hlf l.length))
      have htl : (byteV (treeF (l.take (hlf l.length)))).length = 32 := by simpa using tl
      generalize hT : treeF (l.take (hlf l.length)) = T at ft tl htl ⊢
      ((refine Tr.step rfl ?_))
      refine Exec.call0 rfl ft rfl ?_
      rintro _ M2 hm2 rfl
      repeat (((with_reducible refine Tr.step rfl ?_); (((with_reducible refine Knd.buildSlice ?_); ((refine Exec.buildSlice1 rfl (tysOk.get rfl) rfl (tysOk.get rfl) rfl rfl rfl rfl rfl (by first | rfl | assumption) rfl (fun b => ?_)))))))
      ((refine Tr.step rfl ?_))
      refine Exec.append (news := byteV T) rfl rfl (tysOk.get rfl) rfl (tysOk.get rfl) rfl rfl rfl rfl (by repeat (first | exact Del.here | apply Del.there)) (Src.box (by repeat (first | exact Has.here | apply Has.there))) (by simpa using tl) (byteV_one _) (by omega) (by omega) rfl (fun A6 c6 hc6 => ?_)
      rw [← byteV_append, show (pathF (l.drop (hlf l.length)) (at_ - hlf l.length)).flatten ++ T = (pathF (l.drop (hlf l.length)) (at_ - hlf l.length) ++ [T]).flatten by simp, show (pathF (l.drop (hlf l.length)) (at_ - hlf l.length)).length + 1 = (pathF (l.drop (hlf l.length)) (at_ - hlf l.length) ++ [T]).length by simp]
      repeat (first | ((with_reducible refine Tr.step rfl ?_); (((with_reducible refine Knd.assign ?_); (refine Exec.stab rfl (Stab.assign rfl) rfl ?_)))) | (with_reducible refine Tr.next ?_) | (with_reducible refine Tr.nil ?_) | (with_reducible refine Tr.ret ?_))
      have hm02 := hm1.trans hm2
      refine Tr.doneB (A' := [ownS 26 32 A6 (pathF (l.drop (hlf l.length)) (at_ - hlf l.length) ++ [T]).length c6 (byteV (pathF (l.drop (hlf l.length)) (at_ - hlf l.length) ++ [T]).flatten)]) [box _ 26 _] (by first | exact .inl rfl | exact .inr rfl) rfl (by repeat (first | exact RVs.nil | (apply RVs.cons; (exact RV.tmp rfl)))) hm02 (List.Perm.swap _ _ _) ⟨A6, c6, rfl, hc6, rfl⟩

set_option maxHeartbeats 4000000 in
theorem rpath_fn : ∀ (l : List (List UInt8)) (at_ : Nat) (M : Mem) (A : Option Addr) (c : Nat), RDs M (.slice A l.length c) l → at_ < l.length → l.length ≤ 1000 →
    Bf.Fn Tryd.prog 36 [.slice A l.length c, .int .i64 (at_ : Int)] M [] (fun r M' A' => ∃ B k, r = .slice B (pathF l at_).length k ∧ k ≤ 9223372036854775807 ∧ A' = [ownS 26 32 B (pathF l at_).length k (byteV (pathF l at_).flatten)]) := by
  intro l
  induction hn : l.length using Nat.strongRecOn generalizing l with
  | _ n ih =>
  subst hn
  intro at_ M A c hl hat hlen
  have hll := hl.len_le
  by_cases h2 : 2 ≤ l.length
  rotate_left
  · have h1 : l.length = 1 := by omega
    rw [pathF_one (by omega)]
    refine Fn.intro Tryd.func36 rfl rfl Tryd.ntmps36 rfl fun E F => ?_
    repeat (first | ((with_reducible refine Tr.step rfl ?_); (first | ((with_reducible refine Knd.move ?_); (refine Exec.stab rfl (Stab.move rfl) rfl ?_)) | ((with_reducible refine Knd.assign ?_); (refine Exec.stab rfl (Stab.assign rfl) rfl ?_)) | ((with_reducible refine Knd.len ?_); ((refine Exec.stab rfl (Stab.len rfl (tysOk.get rfl) rfl) rfl ?_))) | ((with_reducible refine Knd.binOp ?_); ((refine Exec.stab rfl (Stab.int rfl rfl rfl) rfl ?_))) | ((with_reducible refine Knd.buildSlice ?_); ((refine Exec.buildSlice (tysOk.get rfl) rfl (tysOk.get rfl) rfl rfl rfl rfl rfl (by repeat (exact BuildP.nil)) rfl (fun b => ?_)))))) | (with_reducible refine Tr.next ?_) | (with_reducible refine Tr.seq ?_) | (with_reducible refine Tr.region ?_) | (with_reducible refine Tr.nil ?_) | (with_reducible refine Tr.ret ?_) | (with_reducible refine Tr.then_ret ?_) | (refine Tr.cond_t rfl (by first | (with_reducible assumption) | (with_reducible rfl) | (with_reducible exact (not_not_intro rfl)) | omega) ?_))
    refine Tr.box_own 32 0 (by repeat (first | exact Upd.here | apply Upd.there)) rfl (by intro u hu; cases hu) (by simp [maxLen]) ?_
    refine Tr.doneA (A' := [ownS 26 32 _ 0 0 []]) (by first | exact .inl rfl | exact .inr rfl) rfl (by repeat (first | exact RVs.nil | (apply RVs.cons; (exact RV.tmp rfl)))) (Mem.le.refl _) ⟨fun _ h => h, fun h => h⟩ ⟨_, 0, rfl, by omega, rfl⟩
  have k1 := hlf_lt h2
  have k2 := hlf_pos l.length
  obtain ⟨cells, -, hlc, hcm, -⟩ := hl.cells
  have hp := hl.pre (k := hlf l.length) (m := c) (by omega) (by omega) (Nat.le_refl _)
  have hq := hl.sub (l := hlf l.length) (k := l.length) (m := c) (by omega) (Nat.le_refl _) (by omega) (Nat.le_refl _)
  have e1 : (l.take (hlf l.length)).length = hlf l.length := by simp; omega
  have e2 : (l.drop (hlf l.length)).length = l.length - hlf l.length := by simp
  have e3 : (l.drop (hlf l.length)).take (l.length - hlf l.length) = l.drop (hlf l.length) := by rw [List.take_of_length_le (by simp)]
  rw [e3] at hq
  have hh := rhalf_fn M l.length h2 (by omega)
  have hp' : RDs M (.slice A (l.take (hlf l.length)).length c) (l.take (hlf l.length)) := by rw [e1]; exact hp
  have hq' := hq
  rw [← e2] at hq'
  by_cases hlt : at_ < hlf l.length
  · rw [pathF_left h2 hlt]
    have f1 := ih _ (by rw [e1]; omega) (l.take (hlf l.length)) rfl at_ M A c hp' (by omega) (by omega)
    have hpl := pathF_len (l.take (hlf l.length)) at_
    rw [e1] at f1 hpl
    refine Fn.intro Tryd.func36 rfl rfl Tryd.ntmps36 rfl fun E F => ?_
    repeat (first | ((with_reducible refine Tr.step rfl ?_); (first | ((with_reducible refine Knd.move ?_); (refine Exec.stab rfl (Stab.move rfl) rfl ?_)) | ((with_reducible refine Knd.assign ?_); (refine Exec.stab rfl (Stab.assign rfl) rfl ?_)) | ((with_reducible refine Knd.len ?_); ((refine Exec.stab rfl (Stab.len rfl (tysOk.get rfl) rfl) rfl ?_))) | ((with_reducible refine Knd.binOp ?_); ((refine Exec.stab rfl (Stab.int rfl rfl rfl) rfl ?_))))) | (with_reducible refine Tr.next ?_) | (with_reducible refine Tr.seq ?_) | (with_reducible refine Tr.region ?_) | (with_reducible refine Tr.nil ?_) | (with_reducible refine Tr.skip ?_) | (refine Tr.cond_f rfl (by first | (with_reducible assumption) | (with_reducible rfl) | (with_reducible exact (not_not_intro rfl)) | omega) ?_))
    ((refine Tr.step rfl ?_)); refine Exec.call0 rfl (hh) rfl ?_
    rintro _ _ _ ⟨rfl, rfl⟩
    · repeat (first | ((with_reducible refine Tr.step rfl ?_); (first | ((with_reducible refine Knd.move ?_); (refine Exec.stab rfl (Stab.move rfl) rfl ?_)) | ((with_reducible refine Knd.assign ?_); (refine Exec.stab rfl (Stab.assign rfl) rfl ?_)) | ((with_reducible refine Knd.binOp ?_); ((refine Exec.stab rfl (Stab.int rfl rfl rfl) rfl ?_))))) | (with_reducible refine Tr.next ?_) | (with_reducible refine Tr.seq ?_) | (with_reducible refine Tr.region ?_) | (with_reducible refine Tr.nil ?_) | (refine Tr.cond_t rfl (by first | (with_reducible assumption) | (with_reducible rfl) | (with_reducible exact (not_not_intro rfl)) | omega) ?_))
      (((apply Tr.draw); (kernel_rfl)); (refine TrA.take 0 (by kernel_rfl) rfl (by kernel_rfl) (by first | exact fun _ _ _ h => h | exact fun _ _ _ h => nomatch h.1) (by first | exact fun _ h => h | (intro r h; cases h; done) | exact (Sub.mem (by repeat (first | exact Sub.refl | apply Sub.cons)))) rfl (by first | exact Stab.move rfl) rfl rfl ?_); (refine TrA.take 1 (by kernel_rfl) rfl (by kernel_rfl) (by first | exact fun _ _ _ h => h | exact fun _ _ _ h => nomatch h.1) (by first | exact fun _ h => h | (intro r h; cases h; done) | exact (Sub.mem (by repeat (first | exact Sub.refl | apply Sub.cons)))) rfl (by first | exact Stab.move rfl) rfl rfl ?_); (refine TrA.take 3 (by kernel_rfl) rfl (by kernel_rfl) (by first | exact fun _ _ _ h => h | exact fun _ _ _ h => nomatch h.1) (by first | exact fun _ h => h | (intro r h; cases h; done) | exact (Sub.mem (by repeat (first | exact Sub.refl | apply Sub.cons)))) rfl (by first | exact Stab.move rfl) rfl rfl ?_); (refine TrA.take 5 (by kernel_rfl) rfl (by kernel_rfl) (by first | exact fun _ _ _ h => h | exact fun _ _ _ h => nomatch h.1) (by first | exact fun _ h => h | (intro r h; cases h; done) | exact (Sub.mem (by repeat (first | exact Sub.refl | apply Sub.cons)))) rfl (by first | exact Stab.move rfl) rfl rfl ?_); (refine TrA.take 6 (by kernel_rfl) rfl (by kernel_rfl) (by first | exact fun _ _ _ h => h | exact fun _ _ _ h => nomatch h.1) (by first | exact fun _ h => h | (intro r h; cases h; done) | exact (Sub.mem (by repeat (first | exact Sub.refl | apply Sub.cons)))) rfl (by first | exact Stab.move rfl) rfl rfl ?_); (refine TrA.take 2 (by kernel_rfl) rfl (by kernel_rfl) (by first | exact fun _ _ _ h => h | exact fun _ _ _ h => nomatch h.1) (by first | exact fun _ h => h | (intro r h; cases h; done) | exact (Sub.mem (by repeat (first | exact Sub.refl | apply Sub.cons)))) rfl (by exact Stab.slice_h rfl rfl (tysOk.get rfl) rfl (tysOk.get rfl) (by omega) (by omega)) rfl rfl ?_); (refine TrA.take 7 (by kernel_rfl) rfl (by kernel_rfl) (by first | exact fun _ _ _ h => h | exact fun _ _ _ h => nomatch h.1) (by first | exact fun _ h => h | (intro r h; cases h; done) | exact (Sub.mem (by repeat (first | exact Sub.refl | apply Sub.cons)))) rfl (by exact Stab.slice_l rfl rfl (tysOk.get rfl) rfl (tysOk.get rfl) rfl (by omega) (by omega)) rfl rfl ?_); (refine TrA.eff 4 rfl (by kernel_rfl) (by first | exact .inl rfl | exact .inr ⟨_, _, _, rfl, rfl, rfl⟩) ?_))
      refine Exec.call (A := []) rfl f1 (List.Perm.refl _) rfl ?_
      rintro _ M1 _ hm1 ⟨B1, k1, rfl, hk1, rfl⟩
      refine ⟨hm1, fun r hr => by simp at hr ⊢; simp [hr], ?_⟩
      ((refine TrA.eff 8 rfl (by kernel_rfl) (by first | exact .inl rfl | exact .inr ⟨_, _, _, rfl, rfl, rfl⟩) ?_))
      have ft := rtree_fn _ M1 _ _ ((hq').mono RD.mono hm1) (by rw [e2]; omega)
      rw [e2] at ft
      have tl := treeF_length (l.drop (hlf l.length))
      have htl : (byteV (treeF (l.drop (hlf l.length)))).length = 32 := by simpa using tl
      generalize hT : treeF (l.drop (hlf l.length)) = T at ft tl htl ⊢
      refine Exec.call0 rfl ft rfl ?_
      rintro _ M2 hm2 rfl
      refine ⟨hm2, fun r hr => by simp at hr ⊢; simp [hr], ?_⟩
      ((refine TrA.eff 9 rfl (by kernel_rfl) (by first | exact .inl rfl | exact .inr ⟨_, _, _, rfl, rfl, rfl⟩) ?_); (((refine Knd.buildSlice ?_); ((refine Exec.buildSlice1 rfl (tysOk.get rfl) rfl (tysOk.get rfl) rfl rfl rfl rfl rfl (by first | rfl | assumption) rfl (fun b => ?_))))); (refine ⟨(by first | exact Mem.le.refl _ | assumption), (by first | exact fun _ h => h | (intro r h; cases h; done) | exact (Sub.mem (by repeat (first | exact Sub.refl | apply Sub.cons)))), ?_⟩); (refine TrA.eff 10 rfl (by kernel_rfl) (by first | exact .inl rfl | exact .inr ⟨_, _, _, rfl, rfl, rfl⟩) ?_))
      refine Exec.append (news := byteV T) rfl rfl (tysOk.get rfl) rfl (tysOk.get rfl) rfl rfl rfl rfl (by repeat (first | exact Del.here | apply Del.there)) (Src.box (by repeat (first | exact Has.here | apply Has.there))) (by simpa using tl) (byteV_one _) (by omega) (by omega) rfl (fun A6 c6 hc6 => ?_)
      rw [← byteV_append, show (pathF (l.take (hlf l.length)) at_).flatten ++ T = (pathF (l.take (hlf l.length)) at_ ++ [T]).flatten by simp, show (pathF (l.take (hlf l.length)) at_).length + 1 = (pathF (l.take (hlf l.length)) at_ ++ [T]).length by simp]
      refine ⟨Mem.le.refl _, fun r hr => by simp at hr ⊢; simp [hr], ?_⟩
      ((refine TrA.take 11 (by kernel_rfl) rfl (by kernel_rfl) (by first | exact fun _ _ _ h => h | exact fun _ _ _ h => nomatch h.1) (by first | exact fun _ h => h | (intro r h; cases h; done) | exact (Sub.mem (by repeat (first | exact Sub.refl | apply Sub.cons)))) rfl (by first | exact Stab.assign rfl) rfl rfl ?_); (refine TrA.done (by kernel_rfl) ?_))
      repeat (first | (with_reducible refine Tr.next ?_) | (with_reducible refine Tr.ret ?_) | (with_reducible refine Tr.then_ret ?_))
      have hm02 := hm1.trans hm2
      refine Tr.doneB (A' := [ownS 26 32 A6 (pathF (l.take (hlf l.length)) at_ ++ [T]).length c6 (byteV (pathF (l.take (hlf l.length)) at_ ++ [T]).flatten)]) [box _ 26 _] (by first | exact .inl rfl | exact .inr rfl) rfl (by repeat (first | exact RVs.nil | (apply RVs.cons; (exact RV.tmp rfl)))) hm02 (List.Perm.swap _ _ _) ⟨A6, c6, rfl, hc6, rfl⟩

  · rw [pathF_right h2 hlt]
    have f1 := ih _ (by rw [e2]; omega) (l.drop (hlf l.length)) rfl (at_ - hlf l.length) M _ _ hq' (by omega) (by omega)
    have hpl := pathF_len (l.drop (hlf l.length)) (at_ - hlf l.length)
    rw [e2] at f1 hpl
    have hsub : (at_ : Int) - (hlf l.length : Int) = ((at_ - hlf l.length : Nat) : Int) := by omega
    refine Fn.intro Tryd.func36 rfl rfl Tryd.ntmps36 rfl fun E F => ?_
    repeat (first | ((with_reducible refine Tr.step rfl ?_); (first | ((with_reducible refine Knd.move ?_); (refine Exec.stab rfl (Stab.move rfl) rfl ?_)) | ((with_reducible refine Knd.assign ?_); (refine Exec.stab rfl (Stab.assign rfl) rfl ?_)) | ((with_reducible refine Knd.len ?_); ((refine Exec.stab rfl (Stab.len rfl (tysOk.get rfl) rfl) rfl ?_))) | ((with_reducible refine Knd.binOp ?_); ((refine Exec.stab rfl (Stab.int rfl rfl rfl) rfl ?_))))) | (with_reducible refine Tr.next ?_) | (with_reducible refine Tr.seq ?_) | (with_reducible refine Tr.region ?_) | (with_reducible refine Tr.nil ?_) | (with_reducible refine Tr.skip ?_) | (refine Tr.cond_f rfl (by first | (with_reducible assumption) | (with_reducible rfl) | (with_reducible exact (not_not_intro rfl)) | omega) ?_))
    ((refine Tr.step rfl ?_)); refine Exec.call0 rfl (hh) rfl ?_
    rintro _ _ _ ⟨rfl, rfl⟩
    · repeat (first | ((with_reducible refine Tr.step rfl ?_); (first | ((with_reducible refine Knd.move ?_); (refine Exec.stab rfl (Stab.move rfl) rfl ?_)) | ((with_reducible refine Knd.assign ?_); (refine Exec.stab rfl (Stab.assign rfl) rfl ?_)) | ((with_reducible refine Knd.binOp ?_); ((refine Exec.stab rfl (Stab.int rfl rfl rfl) rfl ?_))))) | (with_reducible refine Tr.next ?_) | (with_reducible refine Tr.seq ?_) | (with_reducible refine Tr.region ?_) | (with_reducible refine Tr.nil ?_) | (with_reducible refine Tr.skip ?_) | (refine Tr.cond_f rfl (by first | (with_reducible assumption) | (with_reducible rfl) | (with_reducible exact (not_not_intro rfl)) | omega) ?_))
      (((apply Tr.draw); (kernel_rfl)); (refine TrA.take 0 (by kernel_rfl) rfl (by kernel_rfl) (by first | exact fun _ _ _ h => h | exact fun _ _ _ h => nomatch h.1) (by first | exact fun _ h => h | (intro r h; cases h; done) | exact (Sub.mem (by repeat (first | exact Sub.refl | apply Sub.cons)))) rfl (by first | exact Stab.move rfl) rfl rfl ?_); (refine TrA.take 1 (by kernel_rfl) rfl (by kernel_rfl) (by first | exact fun _ _ _ h => h | exact fun _ _ _ h => nomatch h.1) (by first | exact fun _ h => h | (intro r h; cases h; done) | exact (Sub.mem (by repeat (first | exact Sub.refl | apply Sub.cons)))) rfl (by first | exact Stab.move rfl) rfl rfl ?_); (refine TrA.take 3 (by kernel_rfl) rfl (by kernel_rfl) (by first | exact fun _ _ _ h => h | exact fun _ _ _ h => nomatch h.1) (by first | exact fun _ h => h | (intro r h; cases h; done) | exact (Sub.mem (by repeat (first | exact Sub.refl | apply Sub.cons)))) rfl (by first | exact Stab.move rfl) rfl rfl ?_); (refine TrA.take 4 (by kernel_rfl) rfl (by kernel_rfl) (by first | exact fun _ _ _ h => h | exact fun _ _ _ h => nomatch h.1) (by first | exact fun _ h => h | (intro r h; cases h; done) | exact (Sub.mem (by repeat (first | exact Sub.refl | apply Sub.cons)))) rfl (by first | exact Stab.move rfl) rfl rfl ?_); (refine TrA.take 7 (by kernel_rfl) rfl (by kernel_rfl) (by first | exact fun _ _ _ h => h | exact fun _ _ _ h => nomatch h.1) (by first | exact fun _ h => h | (intro r h; cases h; done) | exact (Sub.mem (by repeat (first | exact Sub.refl | apply Sub.cons)))) rfl (by first | exact Stab.move rfl) rfl rfl ?_); (refine TrA.take 8 (by kernel_rfl) rfl (by kernel_rfl) (by first | exact fun _ _ _ h => h | exact fun _ _ _ h => nomatch h.1) (by first | exact fun _ h => h | (intro r h; cases h; done) | exact (Sub.mem (by repeat (first | exact Sub.refl | apply Sub.cons)))) rfl (by first | exact Stab.move rfl) rfl rfl ?_); (refine TrA.take 2 (by kernel_rfl) rfl (by kernel_rfl) (by first | exact fun _ _ _ h => h | exact fun _ _ _ h => nomatch h.1) (by first | exact fun _ h => h | (intro r h; cases h; done) | exact (Sub.mem (by repeat (first | exact Sub.refl | apply Sub.cons)))) rfl (by exact Stab.slice_l rfl rfl (tysOk.get rfl) rfl (tysOk.get rfl) rfl (by omega) (by omega)) rfl rfl ?_); (refine TrA.take 5 (by kernel_rfl) rfl (by kernel_rfl) (by first | exact fun _ _ _ h => h | exact fun _ _ _ h => nomatch h.1) (by first | exact fun _ h => h | (intro r h; cases h; done) | exact (Sub.mem (by repeat (first | exact Sub.refl | apply Sub.cons)))) rfl (by exact Stab.subi rfl rfl (by omega)) rfl rfl ?_); (refine TrA.take 9 (by kernel_rfl) rfl (by kernel_rfl) (by first | exact fun _ _ _ h => h | exact fun _ _ _ h => nomatch h.1) (by first | exact fun _ h => h | (intro r h; cases h; done) | exact (Sub.mem (by repeat (first | exact Sub.refl | apply Sub.cons)))) rfl (by exact Stab.slice_h rfl rfl (tysOk.get rfl) rfl (tysOk.get rfl) (by omega) (by omega)) rfl rfl ?_))
      rw [hsub]
      ((refine TrA.eff 6 rfl (by kernel_rfl) (by first | exact .inl rfl | exact .inr ⟨_, _, _, rfl, rfl, rfl⟩) ?_))
      refine Exec.call (A := []) rfl f1 (List.Perm.refl _) rfl ?_
      rintro _ M1 _ hm1 ⟨B1, k1, rfl, hk1, rfl⟩
      refine ⟨hm1, fun r hr => by simp at hr ⊢; simp [hr], ?_⟩
      ((refine TrA.eff 10 rfl (by kernel_rfl) (by first | exact .inl rfl | exact .inr ⟨_, _, _, rfl, rfl, rfl⟩) ?_))
      have ft := rtree_fn _ M1 _ _ ((hp').mono RD.mono hm1) (by rw [e1]; omega)
      rw [e1] at ft
      have tl := treeF_length (l.take (hlf l.length))
      have htl : (byteV (treeF (l.take (hlf l.length)))).length = 32 := by simpa using tl
      generalize hT : treeF (l.take (hlf l.length)) = T at ft tl htl ⊢
      refine Exec.call0 rfl ft rfl ?_
      rintro _ M2 hm2 rfl
      refine ⟨hm2, fun r hr => by simp at hr ⊢; simp [hr], ?_⟩
      ((refine TrA.eff 11 rfl (by kernel_rfl) (by first | exact .inl rfl | exact .inr ⟨_, _, _, rfl, rfl, rfl⟩) ?_); (((refine Knd.buildSlice ?_); ((refine Exec.buildSlice1 rfl (tysOk.get rfl) rfl (tysOk.get rfl) rfl rfl rfl rfl rfl (by first | rfl | assumption) rfl (fun b => ?_))))); (refine ⟨(by first | exact Mem.le.refl _ | assumption), (by first | exact fun _ h => h | (intro r h; cases h; done) | exact (Sub.mem (by repeat (first | exact Sub.refl | apply Sub.cons)))), ?_⟩); (refine TrA.eff 12 rfl (by kernel_rfl) (by first | exact .inl rfl | exact .inr ⟨_, _, _, rfl, rfl, rfl⟩) ?_))
      refine Exec.append (news := byteV T) rfl rfl (tysOk.get rfl) rfl (tysOk.get rfl) rfl rfl rfl rfl (by repeat (first | exact Del.here | apply Del.there)) (Src.box (by repeat (first | exact Has.here | apply Has.there))) (by simpa using tl) (byteV_one _) (by omega) (by omega) rfl (fun A6 c6 hc6 => ?_)
      rw [← byteV_append, show (pathF (l.drop (hlf l.length)) (at_ - hlf l.length)).flatten ++ T = (pathF (l.drop (hlf l.length)) (at_ - hlf l.length) ++ [T]).flatten by simp, show (pathF (l.drop (hlf l.length)) (at_ - hlf l.length)).length + 1 = (pathF (l.drop (hlf l.length)) (at_ - hlf l.length) ++ [T]).length by simp]
      refine ⟨Mem.le.refl _, fun r hr => by simp at hr ⊢; simp [hr], ?_⟩
      ((refine TrA.take 13 (by kernel_rfl) rfl (by kernel_rfl) (by first | exact fun _ _ _ h => h | exact fun _ _ _ h => nomatch h.1) (by first | exact fun _ h => h | (intro r h; cases h; done) | exact (Sub.mem (by repeat (first | exact Sub.refl | apply Sub.cons)))) rfl (by first | exact Stab.assign rfl) rfl rfl ?_); (refine TrA.done (by kernel_rfl) ?_))
      repeat (first | (with_reducible refine Tr.next ?_) | (with_reducible refine Tr.ret ?_))
      have hm02 := hm1.trans hm2
      refine Tr.doneB (A' := [ownS 26 32 A6 (pathF (l.drop (hlf l.length)) (at_ - hlf l.length) ++ [T]).length c6 (byteV (pathF (l.drop (hlf l.length)) (at_ - hlf l.length) ++ [T]).flatten)]) [box _ 26 _] (by first | exact .inl rfl | exact .inr rfl) rfl (by repeat (first | exact RVs.nil | (apply RVs.cons; (exact RV.tmp rfl)))) hm02 (List.Perm.swap _ _ _) ⟨A6, c6, rfl, hc6, rfl⟩

end Go.Proofs.YtoaepelmhmddmaaDoor
