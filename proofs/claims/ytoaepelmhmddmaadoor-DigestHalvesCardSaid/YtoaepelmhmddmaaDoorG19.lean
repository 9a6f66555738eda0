/-
  The digest: the contract of the law of halves.
  Conditions: none.
-/
import Derived.Test.YtoaepelmhmddmaaDoorG17
namespace Go.Proofs.YtoaepelmhmddmaaDoor
open Go Bf
attribute [local irreducible] Tr Exec Stab HasTy Go.Addr.add IntKind.wrap
attribute [local irreducible] hlf tagF sumF
set_option maxHeartbeats 8000000 in
set_option maxRecDepth 20000 in
theorem f7_fn (M : Mem) (hK : At M ⟨0, 0, none⟩ (wV Kw)) (A : Option Addr) (c : Nat) (bs : List UInt8) (hb : BSl M (.slice A bs.length c) bs) :
    Fn0 Tryd.prog 7 [.slice A bs.length c] M (fun r _ => r = .bool true) := by
  have hll := hb.len_le
  refine Fn.intro Tryd.func7 rfl rfl Tryd.ntmps7 rfl fun E F => ?_
  repeat (first | ((with_reducible refine Tr.step rfl ?_); (((with_reducible refine Knd.assign ?_); (refine Exec.stab rfl (Stab.assign rfl) rfl ?_)))) | (with_reducible refine Tr.next ?_) | (with_reducible refine Tr.seq ?_) | (with_reducible refine Tr.region ?_) | (with_reducible refine Tr.nil ?_))
  ((refine Tr.step rfl ?_)); refine Exec.call0 rfl (sane_fn M hK) rfl ?_
  rintro _ M1 hm1 rfl
  repeat (first | ((with_reducible refine Tr.step rfl ?_); (first | ((with_reducible refine Knd.move ?_); (refine Exec.stab rfl (Stab.move rfl) rfl ?_)) | ((with_reducible refine Knd.unOp ?_); ((refine Exec.stab rfl (Stab.not rfl) rfl ?_))))) | (with_reducible refine Tr.next ?_) | (with_reducible refine Tr.seq ?_) | (with_reducible refine Tr.region ?_) | (with_reducible refine Tr.nil ?_) | (with_reducible refine Tr.skip ?_) | (refine Tr.cond_bf rfl (by first | (with_reducible rfl) | (with_reducible assumption) | (with_reducible exact Bool.not_true) | (with_reducible exact Bool.not_false)) ?_))
  ((refine Tr.step rfl ?_)); refine Exec.call0 rfl (digestsOf_fn M1 A c bs (hb.mono hm1)) rfl ?_
  rintro _ M2 hm2 ⟨B, k, rfl, hl⟩
  have hm02 := hm1.trans hm2
  have hK2 := hK.mono hm02
  have hlen : (digs bs (min bs.length 24)).length = min bs.length 24 := digs_length _ _
  have h24 : min bs.length 24 ≤ 24 := by omega
  generalize digs bs (min bs.length 24) = l at hl hlen
  generalize min bs.length 24 = N at hl hlen h24
  subst hlen
  have ft := tree_fn l M2 hK2 B k hl (by omega)
  have lT := treeF_length l
  rcases (by omega : l.length = 0 ∨ l.length = 1 ∨ 2 ≤ l.length) with h0 | h1 | h2
  · have ht := fun M hK => tagged_fn M hK emptyT (by decide) none 0 [] (BSl.nil _) (by simp)
    rw [treeF_nil h0] at lT ft
    generalize tagF emptyT [] = R at ht lT ft
    have lT' : (byteV R).length = 32 := by simpa using lT
    have hR : decide (R = R) = true := decide_eq_true rfl
    repeat (first | ((with_reducible refine Tr.step rfl ?_); (first | ((with_reducible refine Knd.move ?_); (refine Exec.stab rfl (Stab.move rfl) rfl ?_)) | ((with_reducible refine Knd.assign ?_); (refine Exec.stab rfl (Stab.assign rfl) rfl ?_)) | ((with_reducible refine Knd.len ?_); ((refine Exec.stab rfl (Stab.len rfl (tysOk.get rfl) rfl) rfl ?_))) | ((with_reducible refine Knd.binOp ?_); ((refine Exec.stab rfl (Stab.int rfl rfl rfl) rfl ?_))))) | (with_reducible refine Tr.next ?_) | (with_reducible refine Tr.seq ?_) | (with_reducible refine Tr.region ?_) | (with_reducible refine Tr.nil ?_) | (with_reducible refine Tr.block ?_) | (refine Tr.cond_t rfl (by first | (with_reducible assumption) | (with_reducible rfl) | (with_reducible exact (not_not_intro rfl)) | omega) ?_))
    ((refine Tr.step rfl ?_)); refine Exec.call0 rfl (ft) rfl ?_
    rintro _ M3 hm3 rfl
    repeat (fail)
    ((refine Tr.step rfl ?_)); refine Exec.call0 rfl (ht M3 (hK2.mono hm3)) rfl ?_
    rintro _ M4 hm4 rfl
    have hm04 := hm02.trans (hm3.trans hm4)
    repeat (first | ((with_reducible refine Tr.step rfl ?_); (first | ((with_reducible refine Knd.assign ?_); (refine Exec.stab rfl (Stab.assign rfl) rfl ?_)) | ((with_reducible refine Knd.binOp ?_); ((refine Exec.stab rfl (Stab.arreq rfl rfl (tysOk.get rfl) rfl (tysOk.get rfl) rfl rfl (by kernel_rfl) (by assumption) (by assumption)) rfl ?_))))) | (with_reducible refine Tr.next ?_) | (with_reducible refine Tr.nil ?_) | (with_reducible refine Tr.ret ?_) | (with_reducible refine Tr.then_ret ?_) | (with_reducible refine Tr.in_ret ?_))
    rw [hR]
    repeat (fail)
    (refine Tr.done (by first | exact .inl rfl | exact .inr rfl) rfl (by repeat (first | exact RVs.nil | (apply RVs.cons; (exact RV.tmp rfl)))) (by first | exact Mem.le.refl _ | assumption) (by exact ⟨[], rfl⟩) ⟨rfl, ?_⟩)
    rfl
  · obtain ⟨x, rfl⟩ := List.length_eq_one_iff.1 h1
    rw [treeF_one rfl] at lT ft
    obtain ⟨hA, ch, hat, hch, hx⟩ := hl.elem (i := 0) (x := x) rfl
    subst hch
    have hbx := BSl.ofAt hat hx (by omega)
    have ht := fun M hK hb => tagged_fn M hK leafT (by decide) ((B.getD default).add (0 * 32)) 32 x (by rw [hx]; exact hb) (by omega)
    rw [hx] at ht
    have ft : Fn0 _ _ _ _ (fun r M' => r = .agg (byteV (tagF leafT x)).toArray) := ft
    have lT : (tagF leafT x).length = 32 := lT
    generalize tagF leafT x = R at ht lT ft
    have lT' : (byteV R).length = 32 := by simpa using lT
    have hR : decide (R = R) = true := decide_eq_true rfl
    repeat (first | ((with_reducible refine Tr.step rfl ?_); (first | ((with_reducible refine Knd.move ?_); (refine Exec.stab rfl (Stab.move rfl) rfl ?_)) | ((with_reducible refine Knd.assign ?_); (refine Exec.stab rfl (Stab.assign rfl) rfl ?_)) | ((with_reducible refine Knd.len ?_); ((refine Exec.stab rfl (Stab.len rfl (tysOk.get rfl) rfl) rfl ?_))) | ((with_reducible refine Knd.binOp ?_); ((refine Exec.stab rfl (Stab.int rfl rfl rfl) rfl ?_))))) | (with_reducible refine Tr.next ?_) | (with_reducible refine Tr.seq ?_) | (with_reducible refine Tr.region ?_) | (with_reducible refine Tr.nil ?_) | (with_reducible refine Tr.block ?_) | (refine Tr.cond_t rfl (by first | (with_reducible assumption) | (with_reducible rfl) | (with_reducible exact (not_not_intro rfl)) | omega) ?_) | (refine Tr.cond_f rfl (by first | (with_reducible assumption) | (with_reducible rfl) | (with_reducible exact (not_not_intro rfl)) | omega) ?_))
    (((apply Tr.draw); (kernel_rfl)); (refine TrA.take 0 (by kernel_rfl) rfl (by kernel_rfl) (by first | exact fun _ _ _ h => h | exact fun _ _ _ h => nomatch h.1) (by first | exact fun _ h => h | (intro r h; cases h; done) | exact (Sub.mem (by repeat (first | exact Sub.refl | apply Sub.cons)))) rfl (by first | exact Stab.move rfl) rfl rfl ?_); (refine TrA.take 2 (by kernel_rfl) rfl (by kernel_rfl) (by first | exact fun _ _ _ h => h | exact fun _ _ _ h => nomatch h.1) (by first | exact fun _ h => h | (intro r h; cases h; done) | exact (Sub.mem (by repeat (first | exact Sub.refl | apply Sub.cons)))) rfl (by first | exact Stab.move rfl) rfl rfl ?_); (refine TrA.take 3 (by kernel_rfl) rfl (by kernel_rfl) (by first | exact fun _ _ _ h => h | exact fun _ _ _ h => nomatch h.1) (by first | exact fun _ h => h | (intro r h; cases h; done) | exact (Sub.mem (by repeat (first | exact Sub.refl | apply Sub.cons)))) rfl (by exact Stab.indexAddr rfl rfl (tysOk.get rfl) rfl (tysOk.get rfl) rfl (by omega) (by omega) (by first | rfl | assumption)) rfl rfl ?_); (refine TrA.take 4 (by kernel_rfl) rfl (by kernel_rfl) (by first | exact fun _ _ _ h => h | exact fun _ _ _ h => nomatch h.1) (by first | exact fun _ h => h | (intro r h; cases h; done) | exact (Sub.mem (by repeat (first | exact Sub.refl | apply Sub.cons)))) rfl (by exact Stab.sliceArr rfl (tysOk.get rfl) rfl (tysOk.get rfl) rfl) rfl rfl ?_); (refine TrA.eff 1 rfl (by kernel_rfl) (by first | exact .inl rfl | exact .inr ⟨_, _, _, rfl, rfl, rfl⟩) ?_))
    refine Exec.call0 rfl ft rfl ?_
    rintro _ M3 hm3 rfl
    refine ⟨hm3, (by first | exact fun _ h => h | (intro r h; cases h; done) | exact (Sub.mem (by repeat (first | exact Sub.refl | apply Sub.cons)))), ?_⟩
    ((refine TrA.eff 5 rfl (by kernel_rfl) (by first | exact .inl rfl | exact .inr ⟨_, _, _, rfl, rfl, rfl⟩) ?_))
    refine Exec.call0 rfl (ht M3 (hK2.mono hm3) (hbx.mono hm3)) rfl ?_
    rintro _ M4 hm4 rfl
    refine ⟨hm4, (by first | exact fun _ h => h | (intro r h; cases h; done) | exact (Sub.mem (by repeat (first | exact Sub.refl | apply Sub.cons)))), ?_⟩
    ((refine TrA.take 6 (by kernel_rfl) rfl (by kernel_rfl) (by first | exact fun _ _ _ h => h | exact fun _ _ _ h => nomatch h.1) (by first | exact fun _ h => h | (intro r h; cases h; done) | exact (Sub.mem (by repeat (first | exact Sub.refl | apply Sub.cons)))) rfl (by exact Stab.arreq rfl rfl (tysOk.get rfl) rfl (tysOk.get rfl) rfl rfl (by kernel_rfl) (by assumption) (by assumption)) rfl rfl ?_))
    rw [hR]
    ((refine TrA.take 7 (by kernel_rfl) rfl (by kernel_rfl) (by first | exact fun _ _ _ h => h | exact fun _ _ _ h => nomatch h.1) (by first | exact fun _ h => h | (intro r h; cases h; done) | exact (Sub.mem (by repeat (first | exact Sub.refl | apply Sub.cons)))) rfl (by first | exact Stab.assign rfl) rfl rfl ?_); (refine TrA.done (by kernel_rfl) ?_))
    have hm04 := hm02.trans (hm3.trans hm4)
    repeat (first | (with_reducible refine Tr.next ?_) | (with_reducible refine Tr.ret ?_) | (with_reducible refine Tr.then_ret ?_) | (with_reducible refine Tr.in_ret ?_))
    (refine Tr.done (by first | exact .inl rfl | exact .inr rfl) rfl (by repeat (first | exact RVs.nil | (apply RVs.cons; (exact RV.tmp rfl)))) (by first | exact Mem.le.refl _ | assumption) (by exact ⟨[], rfl⟩) ⟨rfl, ?_⟩)
    rfl
  have q1 := hlf_lt h2
  have q2 := hlf_pos l.length
  obtain ⟨cells, -, hlc, hcm, -⟩ := hl.cells
  have hp := hl.pre (k := hlf l.length) (m := k) (by omega) (by omega) (Nat.le_refl _)
  have hq := hl.sub (l := hlf l.length) (k := l.length) (m := k) (by omega) (Nat.le_refl _) (by omega) (Nat.le_refl _)
  have e1 : (l.take (hlf l.length)).length = hlf l.length := by simp; omega
  have e2 : (l.drop (hlf l.length)).length = l.length - hlf l.length := by simp
  have e3 : (l.drop (hlf l.length)).take (l.length - hlf l.length) = l.drop (hlf l.length) := by rw [List.take_of_length_le (by simp)]
  rw [e3] at hq
  have hp' : RDs M2 (.slice B (l.take (hlf l.length)).length k) (l.take (hlf l.length)) := by rw [e1]; exact hp
  have hq' := hq
  rw [← e2] at hq'
  have f1 := tree_fn _ M2 hK2 _ _ hp' (by rw [e1]; omega)
  have f2 := fun M hK hm => tree_fn _ M hK _ _ (hq'.mono RD.mono hm) (by rw [e2]; omega)
  have f3 := fun M hK hm => tree_fn l M hK B k (hl.mono RD.mono hm) (by omega)
  have l1 := treeF_length (l.take (hlf l.length))
  have l2 := treeF_length (l.drop (hlf l.length))
  rw [treeF_two h2] at lT f3
  rw [e1] at f1
  rw [e2] at f2
  clear ft
  generalize treeF (l.take (hlf l.length)) = T1 at f1 l1 f3 lT
  generalize treeF (l.drop (hlf l.length)) = T2 at f2 l2 f3 lT
  have f4 := fun M hK A c hb => tagged_fn M hK nodeT (by decide) A c (T1 ++ T2) hb (by simp; omega)
  generalize tagF nodeT (T1 ++ T2) = R at f3 f4 lT
  have lT' : (byteV R).length = 32 := by simpa using lT
  have l1' : (byteV T1).length = 32 := by simpa using l1
  have l2' : (byteV T2).length = 32 := by simpa using l2
  have hR : decide (R = R) = true := decide_eq_true rfl
  repeat (first | ((with_reducible refine Tr.step rfl ?_); (first | ((with_reducible refine Knd.move ?_); (refine Exec.stab rfl (Stab.move rfl) rfl ?_)) | ((with_reducible refine Knd.assign ?_); (refine Exec.stab rfl (Stab.assign rfl) rfl ?_)) | ((with_reducible refine Knd.len ?_); ((refine Exec.stab rfl (Stab.len rfl (tysOk.get rfl) rfl) rfl ?_))) | ((with_reducible refine Knd.binOp ?_); ((refine Exec.stab rfl (Stab.int rfl rfl rfl) rfl ?_))))) | (with_reducible refine Tr.next ?_) | (with_reducible refine Tr.seq ?_) | (with_reducible refine Tr.region ?_) | (with_reducible refine Tr.nil ?_) | (with_reducible refine Tr.skip ?_) | (with_reducible refine Tr.block ?_) | (with_reducible refine Tr.in_normal ?_) | (refine Tr.cond_f rfl (by first | (with_reducible assumption) | (with_reducible rfl) | (with_reducible exact (not_not_intro rfl)) | omega) ?_))
  refine Tr.loop (α := Nat) (fun k' => ⟨52, [(4, .int .i64 k'), (3, .slice B l.length k), (2, .bool false)], [], M2, [] ++ F⟩) (fun k => (∃ j, k = 2 ^ j) ∧ k < l.length ∧ 0 < k) (fun k => l.length - k) 1 ⟨⟨0, rfl⟩, by omega, by omega⟩ (holds_sub (by repeat (first | exact SubFr.nil | refine SubFr.cons rfl ?_)) (by repeat (first | exact DropL.refl | apply DropL.skip))) (fun k' hk => ?_)
  obtain ⟨⟨j, hj⟩, hk, hk0⟩ := hk
  by_cases hlt : 2 * k' < l.length
  · repeat (first | ((with_reducible refine Tr.step rfl ?_); (first | ((with_reducible refine Knd.move ?_); (refine Exec.stab rfl (Stab.move rfl) rfl ?_)) | ((with_reducible refine Knd.assign ?_); (refine Exec.stab rfl (Stab.assign rfl) rfl ?_)) | ((with_reducible refine Knd.len ?_); ((refine Exec.stab rfl (Stab.len rfl (tysOk.get rfl) rfl) rfl ?_))) | ((with_reducible refine Knd.binOp ?_); (first | (refine Exec.stab rfl (Stab.muli rfl rfl (by omega)) rfl ?_) | (refine Exec.stab rfl (Stab.int rfl rfl rfl) rfl ?_))))) | (with_reducible refine Tr.next ?_) | (with_reducible refine Tr.seq ?_) | (with_reducible refine Tr.region ?_) | (with_reducible refine Tr.nil ?_) | (with_reducible refine Tr.skip ?_) | (with_reducible refine Tr.block ?_) | (with_reducible refine Tr.in_normal ?_) | (refine Tr.cond_t rfl (by first | (with_reducible assumption) | (with_reducible rfl) | (with_reducible exact (not_not_intro rfl)) | omega) ?_))
    rw [show (k' : Int) * 2 = ((2 * k' : Nat) : Int) by omega]
    refine Tr.again (2 * k') ⟨⟨j + 1, by rw [hj, Nat.pow_succ]; omega⟩, hlt, by omega⟩ (by omega) (holds_sub (by repeat (first | exact SubFr.nil | refine SubFr.cons rfl ?_)) (by repeat (first | exact DropL.refl | apply DropL.skip)))
  have e := hlf_eq h2 j hj hk (by omega)
  clear hj
  subst e
  repeat (first | ((with_reducible refine Tr.step rfl ?_); (first | ((with_reducible refine Knd.move ?_); (refine Exec.stab rfl (Stab.move rfl) rfl ?_)) | ((with_reducible refine Knd.len ?_); ((refine Exec.stab rfl (Stab.len rfl (tysOk.get rfl) rfl) rfl ?_))) | ((with_reducible refine Knd.binOp ?_); (first | (refine Exec.stab rfl (Stab.muli rfl rfl (by omega)) rfl ?_) | (refine Exec.stab rfl (Stab.int rfl rfl rfl) rfl ?_))))) | (with_reducible refine Tr.next ?_) | (with_reducible refine Tr.seq ?_) | (with_reducible refine Tr.region ?_) | (with_reducible refine Tr.nil ?_) | (with_reducible refine Tr.exit ?_) | (with_reducible refine Tr.then_exit ?_) | ((with_reducible refine Tr.in_exit ?_ ?_); (exact rfl)) | (refine Tr.cond_f rfl (by first | (with_reducible assumption) | (with_reducible rfl) | (with_reducible exact (not_not_intro rfl)) | omega) ?_))
  (((apply Tr.draw); (kernel_rfl)); (refine TrA.take 0 (by kernel_rfl) rfl (by kernel_rfl) (by first | exact fun _ _ _ h => h | exact fun _ _ _ h => nomatch h.1) (by first | exact fun _ h => h | (intro r h; cases h; done) | exact (Sub.mem (by repeat (first | exact Sub.refl | apply Sub.cons)))) rfl (by first | exact Stab.move rfl) rfl rfl ?_); (refine TrA.take 1 (by kernel_rfl) rfl (by kernel_rfl) (by first | exact fun _ _ _ h => h | exact fun _ _ _ h => nomatch h.1) (by first | exact fun _ h => h | (intro r h; cases h; done) | exact (Sub.mem (by repeat (first | exact Sub.refl | apply Sub.cons)))) rfl (by first | exact Stab.move rfl) rfl rfl ?_); (refine TrA.take 2 (by kernel_rfl) rfl (by kernel_rfl) (by first | exact fun _ _ _ h => h | exact fun _ _ _ h => nomatch h.1) (by first | exact fun _ h => h | (intro r h; cases h; done) | exact (Sub.mem (by repeat (first | exact Sub.refl | apply Sub.cons)))) rfl (by exact Stab.slice_h rfl rfl (tysOk.get rfl) rfl (tysOk.get rfl) (by omega) (by omega)) rfl rfl ?_); (refine TrA.take 4 (by kernel_rfl) rfl (by kernel_rfl) (by first | exact fun _ _ _ h => h | exact fun _ _ _ h => nomatch h.1) (by first | exact fun _ h => h | (intro r h; cases h; done) | exact (Sub.mem (by repeat (first | exact Sub.refl | apply Sub.cons)))) rfl (by first | exact Stab.move rfl) rfl rfl ?_); (refine TrA.take 5 (by kernel_rfl) rfl (by kernel_rfl) (by first | exact fun _ _ _ h => h | exact fun _ _ _ h => nomatch h.1) (by first | exact fun _ h => h | (intro r h; cases h; done) | exact (Sub.mem (by repeat (first | exact Sub.refl | apply Sub.cons)))) rfl (by first | exact Stab.move rfl) rfl rfl ?_); (refine TrA.take 6 (by kernel_rfl) rfl (by kernel_rfl) (by first | exact fun _ _ _ h => h | exact fun _ _ _ h => nomatch h.1) (by first | exact fun _ h => h | (intro r h; cases h; done) | exact (Sub.mem (by repeat (first | exact Sub.refl | apply Sub.cons)))) rfl (by exact Stab.slice_l rfl rfl (tysOk.get rfl) rfl (tysOk.get rfl) rfl (by omega) (by omega)) rfl rfl ?_))
  ((refine TrM.start2 _ (by first | exact PA.alloc 8 rfl (tysOk.get rfl) rfl rfl | exact PA.alloc1 8 rfl (tysOk.get rfl) rfl rfl rfl) (by first | exact PA.alloc 9 rfl (tysOk.get rfl) rfl rfl | exact PA.alloc1 9 rfl (tysOk.get rfl) rfl rfl rfl) (by kernel_rfl) (by kernel_rfl) (by kernel_rfl) ?_); (refine TrM.eff 3 rfl (by kernel_rfl) (by first | exact .inl rfl | exact .inr ⟨_, _, _, rfl, rfl, rfl⟩) (by repeat (first | exact PendOk.nil | refine PendOk.cons rfl (by repeat (first | exact SubFr.nil | refine SubFr.cons rfl ?_)) ?_)) (by first | exact fun _ h => h | (intro r h; cases h; done) | exact (Sub.mem (by repeat (first | exact Sub.refl | apply Sub.cons)))) (by repeat (first | apply AppF.cons | exact AppF.nil | exact AppF.app)) (by repeat (first | apply AppF.cons | exact AppF.nil | exact AppF.app)) (fun Y X => ?_)))
  refine Exec.call0 rfl f1 rfl ?_
  rintro _ M3 hm3 rfl
  (refine ⟨_, _, (by repeat (first | apply App.cons | exact App.nil | exact App.app)), (by repeat (first | apply App.cons | exact App.nil | exact App.app)), rfl, (by first | exact Mem.le.refl _ | assumption), (by first | exact fun _ h => h | (intro r h; cases h; done) | exact (Sub.mem (by repeat (first | exact Sub.refl | apply Sub.cons)))), ?_⟩)
  ((refine TrM.eff 7 rfl (by kernel_rfl) (by first | exact .inl rfl | exact .inr ⟨_, _, _, rfl, rfl, rfl⟩) (by repeat (first | exact PendOk.nil | refine PendOk.cons rfl (by repeat (first | exact SubFr.nil | refine SubFr.cons rfl ?_)) ?_)) (by first | exact fun _ h => h | (intro r h; cases h; done) | exact (Sub.mem (by repeat (first | exact Sub.refl | apply Sub.cons)))) (by repeat (first | apply AppF.cons | exact AppF.nil | exact AppF.app)) (by repeat (first | apply AppF.cons | exact AppF.nil | exact AppF.app)) (fun Y X => ?_)))
  refine Exec.call0 rfl (f2 M3 (hK2.mono hm3) hm3) rfl ?_
  rintro _ M4 hm4 rfl
  (refine ⟨_, _, (by repeat (first | apply App.cons | exact App.nil | exact App.app)), (by repeat (first | apply App.cons | exact App.nil | exact App.app)), rfl, (by first | exact Mem.le.refl _ | assumption), (by first | exact fun _ h => h | (intro r h; cases h; done) | exact (Sub.mem (by repeat (first | exact Sub.refl | apply Sub.cons)))), ?_⟩)
  ((refine TrM.land2 (by kernel_rfl) (by repeat (first | exact PendOk.nil | refine PendOk.cons rfl (by repeat (first | exact SubFr.nil | refine SubFr.cons rfl ?_)) ?_)) (by first | exact fun _ h => h | (intro r h; cases h; done) | exact (Sub.mem (by repeat (first | exact Sub.refl | apply Sub.cons)))) ?_))
  intro b1 b2
  dsimp only
  ((refine TrA.eff 10 rfl (by kernel_rfl) (by first | exact .inl rfl | exact .inr ⟨_, _, _, rfl, rfl, rfl⟩) ?_); (((refine Knd.store ?_); ((refine Exec.storeW rfl rfl (tysOk.get rfl) (by repeat (first | exact Upd.here | apply Upd.there)) (by first | rfl | assumption) (by first | rfl | assumption) (by first | exact AllOne.bytes _ | exact AllOne.words _ | exact (by repeat (first | exact AllOne.nil | refine AllOne.cons (by first | rfl | assumption) ?_))) ?_)))); (refine ⟨(by first | exact Mem.le.refl _ | assumption), (by first | exact fun _ h => h | (intro r h; cases h; done) | exact (Sub.mem (by repeat (first | exact Sub.refl | apply Sub.cons)))), ?_⟩); (refine TrA.eff 11 rfl (by kernel_rfl) (by first | exact .inl rfl | exact .inr ⟨_, _, _, rfl, rfl, rfl⟩) ?_); (((refine Knd.store ?_); ((refine Exec.storeW rfl rfl (tysOk.get rfl) (by repeat (first | exact Upd.here | apply Upd.there)) (by first | rfl | assumption) (by first | rfl | assumption) (by first | exact AllOne.bytes _ | exact AllOne.words _ | exact (by repeat (first | exact AllOne.nil | refine AllOne.cons (by first | rfl | assumption) ?_))) ?_)))); (refine ⟨(by first | exact Mem.le.refl _ | assumption), (by first | exact fun _ h => h | (intro r h; cases h; done) | exact (Sub.mem (by repeat (first | exact Sub.refl | apply Sub.cons)))), ?_⟩); (refine TrA.done (by kernel_rfl) ?_))
  have hm24 := hm3.trans hm4
  repeat (first | (with_reducible refine Tr.next ?_) | (with_reducible refine Tr.seq ?_))
  (((apply Tr.draw); (kernel_rfl)); (refine TrA.take 0 (by kernel_rfl) rfl (by kernel_rfl) (by first | exact fun _ _ _ h => h | exact fun _ _ _ h => nomatch h.1) (by first | exact fun _ h => h | (intro r h; cases h; done) | exact (Sub.mem (by repeat (first | exact Sub.refl | apply Sub.cons)))) rfl (by first | exact Stab.move rfl) rfl rfl ?_); (refine TrA.take 3 (by kernel_rfl) rfl (by kernel_rfl) (by first | exact fun _ _ _ h => h | exact fun _ _ _ h => nomatch h.1) (by first | exact fun _ h => h | (intro r h; cases h; done) | exact (Sub.mem (by repeat (first | exact Sub.refl | apply Sub.cons)))) rfl (by exact Stab.sliceArr rfl (tysOk.get rfl) rfl (tysOk.get rfl) rfl) rfl rfl ?_); (refine TrA.take 5 (by kernel_rfl) rfl (by kernel_rfl) (by first | exact fun _ _ _ h => h | exact fun _ _ _ h => nomatch h.1) (by first | exact fun _ h => h | (intro r h; cases h; done) | exact (Sub.mem (by repeat (first | exact Sub.refl | apply Sub.cons)))) rfl (by exact Stab.sliceArr rfl (tysOk.get rfl) rfl (tysOk.get rfl) rfl) rfl rfl ?_))
  ((refine TrM.start1 _ (PA.build 2 [] rfl (by first | exact .inl rfl | exact .inr ⟨_, _, _, rfl, rfl, rfl⟩) (tysOk.get rfl) rfl (tysOk.get rfl) rfl rfl rfl rfl rfl (by repeat (exact BuildP.nil)) rfl) (by kernel_rfl) ?_); (refine TrM.eff 1 rfl (by kernel_rfl) (by first | exact .inl rfl | exact .inr ⟨_, _, _, rfl, rfl, rfl⟩) (by repeat (first | exact PendOk.nil | refine PendOk.cons rfl (by repeat (first | exact SubFr.nil | refine SubFr.cons rfl ?_)) ?_)) (by first | exact fun _ h => h | (intro r h; cases h; done) | exact (Sub.mem (by repeat (first | exact Sub.refl | apply Sub.cons)))) (by repeat (first | apply AppF.cons | exact AppF.nil | exact AppF.app)) (by repeat (first | apply AppF.cons | exact AppF.nil | exact AppF.app)) (fun Y X => ?_)))
  refine Exec.call0 rfl (f3 M4 (hK2.mono hm24) hm24) rfl ?_
  rintro _ M5 hm5 rfl
  (refine ⟨_, _, (by repeat (first | apply App.cons | exact App.nil | exact App.app)), (by repeat (first | apply App.cons | exact App.nil | exact App.app)), rfl, (by first | exact Mem.le.refl _ | assumption), (by first | exact fun _ h => h | (intro r h; cases h; done) | exact (Sub.mem (by repeat (first | exact Sub.refl | apply Sub.cons)))), ?_⟩)
  ((refine TrM.land1 (by kernel_rfl) (by repeat (first | exact PendOk.nil | refine PendOk.cons rfl (by repeat (first | exact SubFr.nil | refine SubFr.cons rfl ?_)) ?_)) (by first | exact fun _ h => h | (intro r h; cases h; done) | exact (Sub.mem (by repeat (first | exact Sub.refl | apply Sub.cons)))) ?_))
  intro b3
  dsimp only
  refine TrA.via (fun X h => Tr.box_own 1 0 (by repeat (first | exact Upd.here | apply Upd.there)) rfl (by intro u hu; cases hu) (by simp [maxLen]) h) ?_
  ((refine TrA.eff 4 rfl (by kernel_rfl) (by first | exact .inl rfl | exact .inr ⟨_, _, _, rfl, rfl, rfl⟩) ?_))
  refine Exec.append (news := byteV T1) rfl rfl (tysOk.get rfl) rfl (tysOk.get rfl) rfl rfl rfl rfl (by repeat (first | exact Del.here | apply Del.there)) (Src.box (by repeat (first | exact Has.here | apply Has.there))) (by simpa using l1) (byteV_one _) (by omega) (by omega) rfl (fun A8 c8 hc8 => ?_)
  refine ⟨Mem.le.refl _, (by first | exact fun _ h => h | (intro r h; cases h; done) | exact (Sub.mem (by repeat (first | exact Sub.refl | apply Sub.cons)))), ?_⟩
  rw [zerosL_app, Nat.zero_add]
  ((refine TrA.eff 6 rfl (by kernel_rfl) (by first | exact .inl rfl | exact .inr ⟨_, _, _, rfl, rfl, rfl⟩) ?_))
  refine Exec.append (news := byteV T2) rfl rfl (tysOk.get rfl) rfl (tysOk.get rfl) rfl rfl rfl rfl (by repeat (first | exact Del.here | apply Del.there)) (Src.box (by repeat (first | exact Has.here | apply Has.there))) (by simpa using l2) (byteV_one _) (by omega) (by omega) rfl (fun A9 c9 hc9 => ?_)
  refine ⟨Mem.le.refl _, (by first | exact fun _ h => h | (intro r h; cases h; done) | exact (Sub.mem (by repeat (first | exact Sub.refl | apply Sub.cons)))), ?_⟩
  rw [← byteV_append, show 32 + 32 = (T1 ++ T2).length by simp [l1, l2]]
  refine TrA.publish (x := ownS 5 1 _ _ _ _) (by repeat (first | exact Del.here | apply Del.there)) (fun M8 hm8 hok8 => ?_)
  have hm28 := hm24.trans (hm5.trans hm8)
  have hbc := BSl.ofOwn hok8 rfl hc9
  ((refine TrA.eff 7 rfl (by kernel_rfl) (by first | exact .inl rfl | exact .inr ⟨_, _, _, rfl, rfl, rfl⟩) ?_))
  refine Exec.call0 rfl (f4 M8 (hK2.mono hm28) _ _ hbc) rfl ?_
  rintro _ M9 hm9 rfl
  refine ⟨hm9, (by first | exact fun _ h => h | (intro r h; cases h; done) | exact (Sub.mem (by repeat (first | exact Sub.refl | apply Sub.cons)))), ?_⟩
  ((refine TrA.take 8 (by kernel_rfl) rfl (by kernel_rfl) (by first | exact fun _ _ _ h => h | exact fun _ _ _ h => nomatch h.1) (by first | exact fun _ h => h | (intro r h; cases h; done) | exact (Sub.mem (by repeat (first | exact Sub.refl | apply Sub.cons)))) rfl (by exact Stab.arreq rfl rfl (tysOk.get rfl) rfl (tysOk.get rfl) rfl rfl (by kernel_rfl) (by assumption) (by assumption)) rfl rfl ?_))
  rw [hR]
  ((refine TrA.take 9 (by kernel_rfl) rfl (by kernel_rfl) (by first | exact fun _ _ _ h => h | exact fun _ _ _ h => nomatch h.1) (by first | exact fun _ h => h | (intro r h; cases h; done) | exact (Sub.mem (by repeat (first | exact Sub.refl | apply Sub.cons)))) rfl (by first | exact Stab.assign rfl) rfl rfl ?_); (refine TrA.done (by kernel_rfl) ?_))
  have hm09 := hm02.trans (hm28.trans hm9)
  repeat (first | (with_reducible refine Tr.next ?_) | (with_reducible refine Tr.ret ?_))
  (refine Tr.done (by first | exact .inl rfl | exact .inr rfl) rfl (by repeat (first | exact RVs.nil | (apply RVs.cons; (exact RV.tmp rfl)))) (by first | exact Mem.le.refl _ | assumption) (by exact ⟨[_, _], rfl⟩) ⟨rfl, ?_⟩)
  rfl
end Go.Proofs.YtoaepelmhmddmaaDoor
