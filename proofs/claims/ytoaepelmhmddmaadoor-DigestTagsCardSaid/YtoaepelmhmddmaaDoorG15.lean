/-
  The digest: the contract of the law of tags.
  Conditions: none.
-/
import Derived.Test.YtoaepelmhmddmaaDoorG13
namespace Go.Proofs.YtoaepelmhmddmaaDoor
open Go Bf
attribute [local irreducible] Tr Exec Stab HasTy Go.Addr.add IntKind.wrap
attribute [local irreducible] hlf tagF sumF
set_option maxHeartbeats 8000000 in
set_option maxRecDepth 20000 in
theorem f5_fn (M : Mem) (hK : At M ⟨0, 0, none⟩ (wV Kw)) (A : Option Addr) (c : Nat) (bs t : List UInt8) (hb : BSl M (.slice A bs.length c) bs) :
    Fn0 Tryd.prog 5 [.string ⟨t.toArray⟩, .slice A bs.length c] M (fun r _ => r = .bool true) := by
  have hll := hb.len_le
  refine Fn.intro Tryd.func5 rfl rfl Tryd.ntmps5 rfl fun E F => ?_
  repeat (first | ((with_reducible refine Tr.step rfl ?_); (((with_reducible refine Knd.assign ?_); (refine Exec.stab rfl (Stab.assign rfl) rfl ?_)))) | (with_reducible refine Tr.next ?_) | (with_reducible refine Tr.seq ?_) | (with_reducible refine Tr.region ?_) | (with_reducible refine Tr.nil ?_))
  ((refine Tr.step rfl ?_)); refine Exec.call0 rfl (sane_fn M hK) rfl ?_
  rintro _ M1 hm1 rfl
  replace hb := hb.mono hm1
  by_cases h2 : t.length ≤ 600
  case neg =>
    repeat (first | ((with_reducible refine Tr.step rfl ?_); (first | ((with_reducible refine Knd.move ?_); (refine Exec.stab rfl (Stab.move rfl) rfl ?_)) | ((with_reducible refine Knd.assign ?_); (refine Exec.stab rfl (Stab.assign rfl) rfl ?_)) | ((with_reducible refine Knd.len ?_); ((refine Exec.stab rfl (Stab.lensL rfl (tysOk.get rfl) rfl) rfl ?_))) | ((with_reducible refine Knd.binOp ?_); ((refine Exec.stab rfl (Stab.int rfl rfl rfl) rfl ?_))) | ((with_reducible refine Knd.pick ?_); ((refine Exec.stab rfl (Stab.pick_td rfl (by first | (with_reducible assumption) | (with_reducible rfl) | (with_reducible exact (not_not_intro rfl)) | omega) rfl) rfl ?_))) | ((with_reducible refine Knd.unOp ?_); ((refine Exec.stab rfl (Stab.not rfl) rfl ?_))))) | (with_reducible refine Tr.next ?_) | (with_reducible refine Tr.seq ?_) | (with_reducible refine Tr.region ?_) | (with_reducible refine Tr.nil ?_) | (refine Tr.guard_n' rfl rfl rfl (by first | (with_reducible assumption) | (with_reducible rfl) | (with_reducible exact (not_not_intro rfl)) | omega) rfl rfl ?_) | (with_reducible refine Tr.skip ?_) | (with_reducible refine Tr.ret ?_) | (with_reducible refine Tr.then_ret ?_) | (refine Tr.cond_bt rfl (by first | (with_reducible rfl) | (with_reducible assumption) | (with_reducible exact Bool.not_true) | (with_reducible exact Bool.not_false)) ?_) | (refine Tr.cond_bf rfl (by first | (with_reducible rfl) | (with_reducible assumption) | (with_reducible exact Bool.not_true) | (with_reducible exact Bool.not_false)) ?_))
    (refine Tr.done (by first | exact .inl rfl | exact .inr rfl) rfl (by repeat (first | exact RVs.nil | (apply RVs.cons; (exact RV.tmp rfl)))) (by first | exact Mem.le.refl _ | assumption) (by exact ⟨[], rfl⟩) ⟨rfl, ?_⟩)
    rfl
  by_cases h1 : bs.length ≤ 600
  case neg =>
    repeat (first | ((with_reducible refine Tr.step rfl ?_); (first | ((with_reducible refine Knd.move ?_); (refine Exec.stab rfl (Stab.move rfl) rfl ?_)) | ((with_reducible refine Knd.assign ?_); (refine Exec.stab rfl (Stab.assign rfl) rfl ?_)) | ((with_reducible refine Knd.len ?_); ((refine Exec.stab rfl (Stab.lensL rfl (tysOk.get rfl) rfl) rfl ?_))) | ((with_reducible refine Knd.binOp ?_); ((refine Exec.stab rfl (Stab.int rfl rfl rfl) rfl ?_))) | ((with_reducible refine Knd.pick ?_); ((refine Exec.stab rfl (Stab.pick_fd rfl (by first | (with_reducible assumption) | (with_reducible rfl) | (with_reducible exact (not_not_intro rfl)) | omega) rfl) rfl ?_))) | ((with_reducible refine Knd.unOp ?_); ((refine Exec.stab rfl (Stab.not rfl) rfl ?_))))) | (with_reducible refine Tr.next ?_) | (with_reducible refine Tr.seq ?_) | (with_reducible refine Tr.region ?_) | (with_reducible refine Tr.nil ?_) | ((refine Tr.guard_y' rfl rfl rfl (by first | (with_reducible assumption) | (with_reducible rfl) | (with_reducible exact (not_not_intro rfl)) | omega) ?_); (first | ((with_reducible refine Knd.move ?_); (refine Exec.stab rfl (Stab.move rfl) rfl ?_)) | ((with_reducible refine Knd.len ?_); ((refine Exec.stab rfl (Stab.len rfl (tysOk.get rfl) rfl) rfl ?_))) | ((with_reducible refine Knd.binOp ?_); ((refine Exec.stab rfl (Stab.int rfl rfl rfl) rfl ?_))))) | (with_reducible refine Tr.skip ?_) | (with_reducible refine Tr.ret ?_) | (with_reducible refine Tr.then_ret ?_) | (refine Tr.cond_bf rfl (by first | (with_reducible rfl) | (with_reducible assumption) | (with_reducible exact Bool.not_true) | (with_reducible exact Bool.not_false)) ?_) | (refine Tr.cond_t rfl (by first | (with_reducible assumption) | (with_reducible rfl) | (with_reducible exact (not_not_intro rfl)) | omega) ?_))
    (refine Tr.done (by first | exact .inl rfl | exact .inr rfl) rfl (by repeat (first | exact RVs.nil | (apply RVs.cons; (exact RV.tmp rfl)))) (by first | exact Mem.le.refl _ | assumption) (by exact ⟨[], rfl⟩) ⟨rfl, ?_⟩)
    rfl
  repeat (first | ((with_reducible refine Tr.step rfl ?_); (first | ((with_reducible refine Knd.move ?_); (refine Exec.stab rfl (Stab.move rfl) rfl ?_)) | ((with_reducible refine Knd.len ?_); ((refine Exec.stab rfl (Stab.lensL rfl (tysOk.get rfl) rfl) rfl ?_))) | ((with_reducible refine Knd.binOp ?_); ((refine Exec.stab rfl (Stab.int rfl rfl rfl) rfl ?_))) | ((with_reducible refine Knd.pick ?_); ((refine Exec.stab rfl (Stab.pick_fd rfl (by first | (with_reducible assumption) | (with_reducible rfl) | (with_reducible exact (not_not_intro rfl)) | omega) rfl) rfl ?_))) | ((with_reducible refine Knd.unOp ?_); ((refine Exec.stab rfl (Stab.not rfl) rfl ?_))))) | (with_reducible refine Tr.next ?_) | (with_reducible refine Tr.seq ?_) | (with_reducible refine Tr.region ?_) | (with_reducible refine Tr.nil ?_) | ((refine Tr.guard_y' rfl rfl rfl (by first | (with_reducible assumption) | (with_reducible rfl) | (with_reducible exact (not_not_intro rfl)) | omega) ?_); (first | ((with_reducible refine Knd.move ?_); (refine Exec.stab rfl (Stab.move rfl) rfl ?_)) | ((with_reducible refine Knd.len ?_); ((refine Exec.stab rfl (Stab.len rfl (tysOk.get rfl) rfl) rfl ?_))) | ((with_reducible refine Knd.binOp ?_); ((refine Exec.stab rfl (Stab.int rfl rfl rfl) rfl ?_))))) | (with_reducible refine Tr.skip ?_) | (refine Tr.cond_bf rfl (by first | (with_reducible rfl) | (with_reducible assumption) | (with_reducible exact Bool.not_true) | (with_reducible exact Bool.not_false)) ?_) | (refine Tr.cond_f rfl (by first | (with_reducible assumption) | (with_reducible rfl) | (with_reducible exact (not_not_intro rfl)) | omega) ?_))
  ((refine Tr.step rfl ?_))
  refine Exec.strBytes (l := t) rfl (tysOk.get rfl) (tysOk.get rfl) rfl (tysOk.get rfl) rfl (by omega) rfl (fun b9 c9 M2 hm2 hb9 => ?_)
  have hs := sum_fn M2 (hK.mono (hm1.trans hm2)) _ _ t hb9 (by omega)
  have lT := sumF_length t
  have hx := fun M hK A c hb => tagged_fn M hK t (by omega) A c bs hb (by omega)
  unfold tagF at hx
  generalize hT : sumF t = T at hs hx lT
  have lT' : (byteV T).length = 32 := by simpa using lT
  have lX := sumF_length (T ++ bs)
  ((refine Tr.step rfl ?_)); refine Exec.call0 rfl (hs) rfl ?_
  rintro _ M3 hm3 rfl
  repeat (first | ((with_reducible refine Tr.step rfl ?_); (first | ((with_reducible refine Knd.store ?_); ((refine Exec.storeW rfl rfl (tysOk.get rfl) (by repeat (first | exact Upd.here | apply Upd.there)) (by first | rfl | assumption) (by first | rfl | assumption) (by first | exact AllOne.bytes _ | exact AllOne.words _ | exact (by repeat (first | exact AllOne.nil | refine AllOne.cons (by first | rfl | assumption) ?_))) ?_))) | ((with_reducible refine Knd.alloc ?_); (first | (refine Exec.alloc (tysOk.get rfl) rfl rfl (fun b => ?_)) | (refine Exec.alloc1 (tysOk.get rfl) rfl rfl rfl (fun b => ?_)))))) | (with_reducible refine Tr.next ?_) | (with_reducible refine Tr.seq ?_) | (with_reducible refine Tr.nil ?_))
  generalize hb1 : b = b1
  refine Tr.publish (r := box b1 26 _) (by repeat (first | exact Del.here | apply Del.there)) (fun M4 hm4 hok4 => ?_)
  have hm04 := hm1.trans (hm2.trans (hm3.trans hm4))
  have hbt := BSl.of32 hok4 lT
  replace hb := hb.mono (hm2.trans (hm3.trans hm4))
  replace hx := hx M4 (hK.mono hm04) A c hb
  generalize hX : sumF (T ++ bs) = X at hx lX
  have lX' : (byteV X).length = 32 := by simpa using lX
  have hXX : decide (X = X) = true := decide_eq_true rfl
  (((apply Tr.draw); (kernel_rfl)); (refine TrA.take 0 (by kernel_rfl) rfl (by kernel_rfl) (by first | exact fun _ _ _ h => h | exact fun _ _ _ h => nomatch h.1) (by first | exact fun _ h => h | (intro r h; cases h; done) | exact (Sub.mem (by repeat (first | exact Sub.refl | apply Sub.cons)))) rfl (by first | exact Stab.move rfl) rfl rfl ?_); (refine TrA.take 1 (by kernel_rfl) rfl (by kernel_rfl) (by first | exact fun _ _ _ h => h | exact fun _ _ _ h => nomatch h.1) (by first | exact fun _ h => h | (intro r h; cases h; done) | exact (Sub.mem (by repeat (first | exact Sub.refl | apply Sub.cons)))) rfl (by first | exact Stab.move rfl) rfl rfl ?_); (refine TrA.take 4 (by kernel_rfl) rfl (by kernel_rfl) (by first | exact fun _ _ _ h => h | exact fun _ _ _ h => nomatch h.1) (by first | exact fun _ h => h | (intro r h; cases h; done) | exact (Sub.mem (by repeat (first | exact Sub.refl | apply Sub.cons)))) rfl (by exact Stab.sliceArr rfl (tysOk.get rfl) rfl (tysOk.get rfl) rfl) rfl rfl ?_); (refine TrA.take 6 (by kernel_rfl) rfl (by kernel_rfl) (by first | exact fun _ _ _ h => h | exact fun _ _ _ h => nomatch h.1) (by first | exact fun _ h => h | (intro r h; cases h; done) | exact (Sub.mem (by repeat (first | exact Sub.refl | apply Sub.cons)))) rfl (by first | exact Stab.move rfl) rfl rfl ?_); (refine TrA.eff2 2 3 rfl rfl (by kernel_rfl) (by first | exact .inl rfl | exact .inr ⟨_, _, _, rfl, rfl, rfl⟩) (by first | exact .inl rfl | exact .inr ⟨_, _, _, rfl, rfl, rfl⟩) ?_ ?_))
  · refine Exec.call0 rfl hx rfl ?_
    rintro _ M5 hm5 rfl
    refine ⟨hm5, (by first | exact fun _ h => h | (intro r h; cases h; done) | exact (Sub.mem (by repeat (first | exact Sub.refl | apply Sub.cons)))), ?_⟩
    have hm05 := hm04.trans hm5
    have c1 := (hbt.mono hm5).cap
    have c2 := (hb.mono hm5).cap
    rw [lT] at c1
    ((refine TrA.eff 3 rfl (by kernel_rfl) (by first | exact .inl rfl | exact .inr ⟨_, _, _, rfl, rfl, rfl⟩) ?_); (((refine Knd.buildSlice ?_); ((refine Exec.buildSlice (tysOk.get rfl) rfl (tysOk.get rfl) rfl rfl rfl rfl rfl (by repeat (exact BuildP.nil)) rfl (fun b => ?_))))); (refine ⟨(by first | exact Mem.le.refl _ | assumption), (by first | exact fun _ h => h | (intro r h; cases h; done) | exact (Sub.mem (by repeat (first | exact Sub.refl | apply Sub.cons)))), ?_⟩))
    refine TrA.via (fun X h => Tr.box_own 1 0 (by repeat (first | exact Upd.here | apply Upd.there)) rfl (by intro u hu; cases hu) (by simp [maxLen]) h) ?_
    ((refine TrA.eff 5 rfl (by kernel_rfl) (by first | exact .inl rfl | exact .inr ⟨_, _, _, rfl, rfl, rfl⟩) ?_))
    refine Exec.append (news := byteV T) rfl rfl (tysOk.get rfl) rfl (tysOk.get rfl) rfl rfl rfl rfl (by repeat (first | exact Del.here | apply Del.there)) (Src.row c1.2.2.2) (by simpa using lT) (byteV_one _) (by omega) (by omega) rfl (fun A6 c6 hc6 => ?_)
    refine ⟨Mem.le.refl _, (by first | exact fun _ h => h | (intro r h; cases h; done) | exact (Sub.mem (by repeat (first | exact Sub.refl | apply Sub.cons)))), ?_⟩
    rw [zerosL_app, Nat.zero_add]
    ((refine TrA.eff 7 rfl (by kernel_rfl) (by first | exact .inl rfl | exact .inr ⟨_, _, _, rfl, rfl, rfl⟩) ?_))
    refine Exec.append (news := byteV bs) rfl rfl (tysOk.get rfl) rfl (tysOk.get rfl) rfl rfl rfl rfl (by repeat (first | exact Del.here | apply Del.there)) (Src.row c2.2.2.2) (by simp) (byteV_one _) (by omega) (by omega) rfl (fun A7 c7 hc7 => ?_)
    refine ⟨Mem.le.refl _, (by first | exact fun _ h => h | (intro r h; cases h; done) | exact (Sub.mem (by repeat (first | exact Sub.refl | apply Sub.cons)))), ?_⟩
    rw [← byteV_append, show 32 + bs.length = (T ++ bs).length by simp [lT]]
    refine TrA.publish (x := ownS 5 1 _ _ _ _) (by repeat (first | exact Del.here | apply Del.there)) (fun M6 hm6 hok6 => ?_)
    have hbc := BSl.ofOwn hok6 rfl hc7
    have hsu := sum_fn M6 (hK.mono (hm05.trans hm6)) A7 c7 (T ++ bs) hbc (by simp; omega)
    rw [hX] at hsu
    ((refine TrA.eff 8 rfl (by kernel_rfl) (by first | exact .inl rfl | exact .inr ⟨_, _, _, rfl, rfl, rfl⟩) ?_))
    refine Exec.call0 rfl hsu rfl ?_
    rintro _ M7 hm7 rfl
    refine ⟨hm7, (by first | exact fun _ h => h | (intro r h; cases h; done) | exact (Sub.mem (by repeat (first | exact Sub.refl | apply Sub.cons)))), ?_⟩
    ((refine TrA.take 9 (by kernel_rfl) rfl (by kernel_rfl) (by first | exact fun _ _ _ h => h | exact fun _ _ _ h => nomatch h.1) (by first | exact fun _ h => h | (intro r h; cases h; done) | exact (Sub.mem (by repeat (first | exact Sub.refl | apply Sub.cons)))) rfl (by exact Stab.arreq rfl rfl (tysOk.get rfl) rfl (tysOk.get rfl) rfl rfl (by kernel_rfl) (by assumption) (by assumption)) rfl rfl ?_))
    rw [hXX]
    ((refine TrA.take 10 (by kernel_rfl) rfl (by kernel_rfl) (by first | exact fun _ _ _ h => h | exact fun _ _ _ h => nomatch h.1) (by first | exact fun _ h => h | (intro r h; cases h; done) | exact (Sub.mem (by repeat (first | exact Sub.refl | apply Sub.cons)))) rfl (by first | exact Stab.assign rfl) rfl rfl ?_); (refine TrA.done (by kernel_rfl) ?_))
    have hmf := hm05.trans (hm6.trans hm7)
    repeat (first | (with_reducible refine Tr.next ?_) | (with_reducible refine Tr.ret ?_))
    (refine Tr.done (by first | exact .inl rfl | exact .inr rfl) rfl (by repeat (first | exact RVs.nil | (apply RVs.cons; (exact RV.tmp rfl)))) (by first | exact Mem.le.refl _ | assumption) (by exact ⟨[], rfl⟩) ⟨rfl, ?_⟩)
    rfl
  · ((((refine Knd.buildSlice ?_); ((refine Exec.buildSlice (tysOk.get rfl) rfl (tysOk.get rfl) rfl rfl rfl rfl rfl (by repeat (exact BuildP.nil)) rfl (fun b => ?_))))); (refine ⟨(by first | exact Mem.le.refl _ | assumption), (by first | exact fun _ h => h | (intro r h; cases h; done) | exact (Sub.mem (by repeat (first | exact Sub.refl | apply Sub.cons)))), ?_⟩))
    refine TrA.via (fun X h => Tr.box_own 1 0 (by repeat (first | exact Upd.here | apply Upd.there)) rfl (by intro u hu; cases hu) (by simp [maxLen]) h) ?_
    ((refine TrA.eff 2 rfl (by kernel_rfl) (by first | exact .inl rfl | exact .inr ⟨_, _, _, rfl, rfl, rfl⟩) ?_))
    refine Exec.call0 rfl hx rfl ?_
    rintro _ M5 hm5 rfl
    refine ⟨hm5, (by first | exact fun _ h => h | (intro r h; cases h; done) | exact (Sub.mem (by repeat (first | exact Sub.refl | apply Sub.cons)))), ?_⟩
    have hm05 := hm04.trans hm5
    have c1 := (hbt.mono hm5).cap
    have c2 := (hb.mono hm5).cap
    rw [lT] at c1
    ((refine TrA.eff 5 rfl (by kernel_rfl) (by first | exact .inl rfl | exact .inr ⟨_, _, _, rfl, rfl, rfl⟩) ?_))
    refine Exec.append (news := byteV T) rfl rfl (tysOk.get rfl) rfl (tysOk.get rfl) rfl rfl rfl rfl (by repeat (first | exact Del.here | apply Del.there)) (Src.row c1.2.2.2) (by simpa using lT) (byteV_one _) (by omega) (by omega) rfl (fun A6 c6 hc6 => ?_)
    refine ⟨Mem.le.refl _, (by first | exact fun _ h => h | (intro r h; cases h; done) | exact (Sub.mem (by repeat (first | exact Sub.refl | apply Sub.cons)))), ?_⟩
    rw [zerosL_app, Nat.zero_add]
    ((refine TrA.eff 7 rfl (by kernel_rfl) (by first | exact .inl rfl | exact .inr ⟨_, _, _, rfl, rfl, rfl⟩) ?_))
    refine Exec.append (news := byteV bs) rfl rfl (tysOk.get rfl) rfl (tysOk.get rfl) rfl rfl rfl rfl (by repeat (first | exact Del.here | apply Del.there)) (Src.row c2.2.2.2) (by simp) (byteV_one _) (by omega) (by omega) rfl (fun A7 c7 hc7 => ?_)
    refine ⟨Mem.le.refl _, (by first | exact fun _ h => h | (intro r h; cases h; done) | exact (Sub.mem (by repeat (first | exact Sub.refl | apply Sub.cons)))), ?_⟩
    rw [← byteV_append, show 32 + bs.length = (T ++ bs).length by simp [lT]]
    refine TrA.publish (x := ownS 5 1 _ _ _ _) (by repeat (first | exact Del.here | apply Del.there)) (fun M6 hm6 hok6 => ?_)
    have hbc := BSl.ofOwn hok6 rfl hc7
    have hsu := sum_fn M6 (hK.mono (hm05.trans hm6)) A7 c7 (T ++ bs) hbc (by simp; omega)
    rw [hX] at hsu
    ((refine TrA.eff 8 rfl (by kernel_rfl) (by first | exact .inl rfl | exact .inr ⟨_, _, _, rfl, rfl, rfl⟩) ?_))
    refine Exec.call0 rfl hsu rfl ?_
    rintro _ M7 hm7 rfl
    refine ⟨hm7, (by first | exact fun _ h => h | (intro r h; cases h; done) | exact (Sub.mem (by repeat (first | exact Sub.refl | apply Sub.cons)))), ?_⟩
    ((refine TrA.take 9 (by kernel_rfl) rfl (by kernel_rfl) (by first | exact fun _ _ _ h => h | exact fun _ _ _ h => nomatch h.1) (by first | exact fun _ h => h | (intro r h; cases h; done) | exact (Sub.mem (by repeat (first | exact Sub.refl | apply Sub.cons)))) rfl (by exact Stab.arreq rfl rfl (tysOk.get rfl) rfl (tysOk.get rfl) rfl rfl (by kernel_rfl) (by assumption) (by assumption)) rfl rfl ?_))
    rw [hXX]
    ((refine TrA.take 10 (by kernel_rfl) rfl (by kernel_rfl) (by first | exact fun _ _ _ h => h | exact fun _ _ _ h => nomatch h.1) (by first | exact fun _ h => h | (intro r h; cases h; done) | exact (Sub.mem (by repeat (first | exact Sub.refl | apply Sub.cons)))) rfl (by first | exact Stab.assign rfl) rfl rfl ?_); (refine TrA.done (by kernel_rfl) ?_))
    have hmf := hm05.trans (hm6.trans hm7)
    repeat (first | (with_reducible refine Tr.next ?_) | (with_reducible refine Tr.ret ?_))
    (refine Tr.done (by first | exact .inl rfl | exact .inr rfl) rfl (by repeat (first | exact RVs.nil | (apply RVs.cons; (exact RV.tmp rfl)))) (by first | exact Mem.le.refl _ | assumption) (by exact ⟨[], rfl⟩) ⟨rfl, ?_⟩)
    rfl
end Go.Proofs.YtoaepelmhmddmaaDoor
