/-
  The digest: the contracts of the reference's Tagged, node and Chain; of both Trees.
  Conditions: none.
-/
import Derived.Test.YtoaepelmhmddmaaDoorG6
import Derived.Test.YtoaepelmhmddmaaDoorG7
import Derived.Test.YtoaepelmhmddmaaDoorBfSl
namespace Go.Proofs.YtoaepelmhmddmaaDoor
open Go Bf
attribute [local irreducible] Tr Exec Stab HasTy Go.Addr.add IntKind.wrap
set_option maxHeartbeats 4000000 in
theorem rtagged_fn (M : Mem) (t : List UInt8) (ht : t.length ≤ 100000000) (A : Option Addr) (c : Nat) (bs : List UInt8) (hb : BSl M (.slice A bs.length c) bs) (hl : bs.length ≤ 100000000) :
    Fn0 Tryd.prog 15 [.string ⟨t.toArray⟩, .slice A bs.length c] M (fun r M' => r = .agg (byteV (tagF t bs)).toArray) := by
  refine Fn.intro Tryd.func15 rfl rfl Tryd.ntmps15 rfl fun E F => ?_
  repeat (first | ((with_reducible refine Tr.step rfl ?_); (first | ((with_reducible refine Knd.move ?_); (refine Exec.stab rfl (Stab.move rfl) rfl ?_)) | ((with_reducible refine Knd.alloc ?_); (first | (refine Exec.alloc (tysOk.get rfl) rfl rfl (fun b => ?_)) | (refine Exec.alloc1 (tysOk.get rfl) rfl rfl rfl (fun b => ?_)))))) | (with_reducible refine Tr.next ?_) | (with_reducible refine Tr.seq ?_) | (with_reducible refine Tr.region ?_) | (with_reducible refine Tr.nil ?_))
  generalize hb4 : b = b4
  ((refine Tr.step rfl ?_))
  refine Exec.strBytes (l := t) rfl (tysOk.get rfl) (tysOk.get rfl) rfl (tysOk.get rfl) rfl (by omega) rfl (fun b9 c9 M1 hm1 hb9 => ?_)
  have hs := rsum_fn M1 _ _ t hb9 (by omega)
  have hsl : (byteV (sumF t)).length = 32 := by simpa using sumF_length t
  have hsl' := sumF_length t
  unfold tagF
  generalize hT : sumF t = T at hs hsl hsl' ⊢
  repeat (fail)
  ((refine Tr.step rfl ?_)); refine Exec.call0 rfl (hs) rfl ?_
  rintro _ M2 hm2 rfl
  repeat (first | ((with_reducible refine Tr.step rfl ?_); (first | ((with_reducible refine Knd.store ?_); ((refine Exec.storeW rfl rfl (tysOk.get rfl) (by repeat (first | exact Upd.here | apply Upd.there)) (by first | rfl | assumption) (by first | rfl | assumption) (by first | exact AllOne.bytes _ | exact AllOne.words _ | exact (by repeat (first | exact AllOne.nil | refine AllOne.cons (by first | rfl | assumption) ?_))) ?_))) | ((with_reducible refine Knd.alloc ?_); (first | (refine Exec.alloc (tysOk.get rfl) rfl rfl (fun b => ?_)) | (refine Exec.alloc1 (tysOk.get rfl) rfl rfl rfl (fun b => ?_)))) | ((with_reducible refine Knd.slice ?_); ((refine Exec.stab rfl (Stab.sliceArr rfl (tysOk.get rfl) rfl (tysOk.get rfl) rfl) rfl ?_))) | ((with_reducible refine Knd.buildSlice ?_); (refine Exec.buildSlice (tysOk.get rfl) rfl (tysOk.get rfl) rfl rfl rfl rfl rfl (by repeat (exact BuildP.nil)) rfl (fun b => ?_))))) | (with_reducible refine Tr.next ?_) | (with_reducible refine Tr.seq ?_) | (with_reducible refine Tr.region ?_) | (with_reducible refine Tr.nil ?_))
  rename_i b5
  refine Tr.publish (r := box b5 26 _) (by repeat (first | exact Del.here | apply Del.there)) (fun M3 hm3 hok3 => ?_)
  have hbt := BSl.of32 hok3 hsl'
  have hm03 := hm1.trans (hm2.trans hm3)
  have hb3 := hb.mono hm03
  have hcap := hb3.cap
  have hcapt := hbt.cap
  rw [hsl'] at hcapt
  refine Tr.box_own (b := b) 1 0 (by repeat (first | exact Upd.here | apply Upd.there)) rfl (by intro u hu; cases hu) (by simp [maxLen]) ?_
  ((refine Tr.step rfl ?_))
  refine Exec.append (news := byteV T) rfl rfl (tysOk.get rfl) rfl (tysOk.get rfl) rfl rfl rfl rfl (by repeat (first | exact Del.here | apply Del.there)) (Src.row hcapt.2.2.2) (by simpa using hsl') (byteV_one _) (by omega) (by omega) rfl (fun A6 c6 hc6 => ?_)
  rw [zerosL_app, Nat.zero_add]
  repeat (((with_reducible refine Tr.step rfl ?_); (((with_reducible refine Knd.move ?_); (refine Exec.stab rfl (Stab.move rfl) rfl ?_)))))
  ((refine Tr.step rfl ?_))
  refine Exec.append (news := byteV bs) rfl rfl (tysOk.get rfl) rfl (tysOk.get rfl) rfl rfl rfl rfl (by repeat (first | exact Del.here | apply Del.there)) (Src.row hcap.2.2.2) (by simp) (byteV_one _) (by omega) (by omega) rfl (fun A7 c7 hc7 => ?_)
  rw [← byteV_append, show 32 + bs.length = (T ++ bs).length by simp [hsl']]
  refine Tr.publish (r := ownS 5 1 _ _ _ _) (by repeat (first | exact Del.here | apply Del.there)) (fun M4 hm4 hok4 => ?_)
  have hbc := BSl.ofOwn hok4 rfl hc7
  have hm04 := hm03.trans hm4
  have hs2 := rsum_fn M4 A7 c7 (T ++ bs) hbc (by simp; omega)
  have hrl : (byteV (sumF (T ++ bs))).length = 32 := by simpa using sumF_length (T ++ bs)
  generalize hR : sumF (T ++ bs) = R at hs2 hrl ⊢
  ((refine Tr.step rfl ?_)); refine Exec.call0 rfl (hs2) rfl ?_
  rintro _ M6 hm6 rfl
  have hm06 := hm04.trans hm6
  repeat (first | ((with_reducible refine Tr.step rfl ?_); (((with_reducible refine Knd.store ?_); ((refine Exec.storeW rfl rfl (tysOk.get rfl) (by repeat (first | exact Upd.here | apply Upd.there)) (by first | rfl | assumption) (by first | rfl | assumption) (by first | exact AllOne.bytes _ | exact AllOne.words _ | exact (by repeat (first | exact AllOne.nil | refine AllOne.cons (by first | rfl | assumption) ?_))) ?_))))) | (with_reducible refine Tr.next ?_) | (with_reducible refine Tr.nil ?_) | (with_reducible refine Tr.ret ?_))
  (refine Tr.done (by first | exact .inl rfl | exact .inr rfl) rfl (by repeat (first | exact RVs.nil | (apply RVs.cons; (exact RV.cellW (by rfl) (tysOk.get (by rfl)) (by rfl) (by repeat (first | exact Has.here | apply Has.there)) (by first | rfl | assumption))))) (by first | exact Mem.le.refl _ | assumption) (by exact ⟨[_], rfl⟩) ⟨rfl, ?_⟩)
  rfl
/-- a digest as an element -/
def RD (_ : Mem) (c : List Value) (x : List UInt8) : Prop := c = byteV x ∧ x.length = 32
theorem RD.mono (M M' : Mem) (c : List Value) (x : List UInt8) (_ : Mem.le M M') (h : RD M c x) : RD M' c x := h
abbrev RDs (M : Mem) (v : Value) (l : List (List UInt8)) : Prop := SlOf 32 RD M v l
def nodeT : List UInt8 := [110, 111, 100, 101]
def leafT : List UInt8 := [108, 101, 97, 102]
def emptyT : List UInt8 := [101, 109, 112, 116, 121]
def chainT : List UInt8 := [99, 104, 97, 105, 110]
/-- the digest of a list -/
def treeF (l : List (List UInt8)) : List UInt8 :=
  if l.length = 0 then tagF emptyT []
  else if h1 : l.length = 1 then tagF leafT (l.headD [])
  else if h2 : 2 ≤ l.length then tagF nodeT (treeF (l.take (hlf l.length)) ++ treeF (l.drop (hlf l.length))) else []
termination_by l.length
decreasing_by
  · have := hlf_lt h2; simp; omega
  · have := hlf_pos l.length; simp; omega
theorem treeF_two {l : List (List UInt8)} (h : 2 ≤ l.length) : treeF l = tagF nodeT (treeF (l.take (hlf l.length)) ++ treeF (l.drop (hlf l.length))) := by
  rw [treeF, if_neg (by omega), dif_neg (by omega), dif_pos h]
theorem treeF_one {l : List (List UInt8)} (h : l.length = 1) : treeF l = tagF leafT (l.headD []) := by
  rw [treeF, if_neg (by omega), dif_pos h]
theorem treeF_nil {l : List (List UInt8)} (h : l.length = 0) : treeF l = tagF emptyT [] := by
  rw [treeF, if_pos h]
theorem treeF_length (l : List (List UInt8)) : (treeF l).length = 32 := by
  rcases (by omega : l.length = 0 ∨ l.length = 1 ∨ 2 ≤ l.length) with h | h | h
  · rw [treeF_nil h]; exact tagF_length _ _
  · rw [treeF_one h]; exact tagF_length _ _
  · rw [treeF_two h]; exact tagF_length _ _
set_option maxHeartbeats 4000000 in
theorem rnode_fn (M : Mem) (x y : List UInt8) (hx : x.length = 32) (hy : y.length = 32) :
    Fn0 Tryd.prog 35 [.agg (byteV x).toArray, .agg (byteV y).toArray] M (fun r M' => r = .agg (byteV (tagF nodeT (x ++ y))).toArray) := by
  refine Fn.intro Tryd.func35 rfl rfl Tryd.ntmps35 rfl fun E F => ?_
  repeat (first | ((with_reducible refine Tr.step rfl ?_); (first | ((with_reducible refine Knd.box ?_); (first | (refine Exec.box rfl rfl (fun b => ?_)) | (refine Exec.box1 rfl (by first | rfl | assumption) rfl (fun b => ?_)))) | ((with_reducible refine Knd.alloc ?_); (first | (refine Exec.alloc (tysOk.get rfl) rfl rfl (fun b => ?_)) | (refine Exec.alloc1 (tysOk.get rfl) rfl rfl rfl (fun b => ?_)))))) | (with_reducible refine Tr.next ?_) | (with_reducible refine Tr.seq ?_) | (with_reducible refine Tr.region ?_) | (with_reducible refine Tr.nil ?_))
  generalize hb4 : b = b4
  rename_i b2 b3
  refine Tr.publish (r := box b3 26 _) (by repeat (first | exact Del.here | apply Del.there)) (fun M1 hm1 hok1 => ?_)
  refine Tr.publish (r := box b2 26 _) (by repeat (first | exact Del.here | apply Del.there)) (fun M2 hm2 hok2 => ?_)
  have h1 := (BSl.of32 hok1 hy).mono hm2
  have h2 := BSl.of32 hok2 hx
  have hm02 := hm1.trans hm2
  have c1 := h1.cap
  have c2 := h2.cap
  rw [hy] at c1
  rw [hx] at c2
  (((apply Tr.draw); (kernel_rfl)); (refine TrA.take 1 (by kernel_rfl) rfl (by kernel_rfl) (by first | exact fun _ _ _ h => h | exact fun _ _ _ h => nomatch h.1) (by first | exact fun _ h => h | (intro r h; cases h; done) | exact (Sub.mem (by repeat (first | exact Sub.refl | apply Sub.cons)))) rfl (by exact Stab.sliceArr rfl (tysOk.get rfl) rfl (tysOk.get rfl) rfl) rfl rfl ?_); (refine TrA.take 3 (by kernel_rfl) rfl (by kernel_rfl) (by first | exact fun _ _ _ h => h | exact fun _ _ _ h => nomatch h.1) (by first | exact fun _ h => h | (intro r h; cases h; done) | exact (Sub.mem (by repeat (first | exact Sub.refl | apply Sub.cons)))) rfl (by exact Stab.sliceArr rfl (tysOk.get rfl) rfl (tysOk.get rfl) rfl) rfl rfl ?_); (refine TrA.eff 0 rfl (by kernel_rfl) (by first | exact .inl rfl | exact .inr ⟨_, _, _, rfl, rfl, rfl⟩) ?_); (((refine Knd.buildSlice ?_); (refine Exec.buildSlice (tysOk.get rfl) rfl (tysOk.get rfl) rfl rfl rfl rfl rfl (by repeat (exact BuildP.nil)) rfl (fun b => ?_)))); (refine ⟨(by first | exact Mem.le.refl _ | assumption), (by first | exact fun _ h => h | (intro r h; cases h; done) | exact (Sub.mem (by repeat (first | exact Sub.refl | apply Sub.cons)))), ?_⟩))
  refine TrA.via (fun X h => Tr.box_own 1 0 (by repeat (first | exact Upd.here | apply Upd.there)) rfl (by intro u hu; cases hu) (by simp [maxLen]) h) ?_
  ((refine TrA.eff 2 rfl (by kernel_rfl) (by first | exact .inl rfl | exact .inr ⟨_, _, _, rfl, rfl, rfl⟩) ?_))
  refine Exec.append (news := byteV x) rfl rfl (tysOk.get rfl) rfl (tysOk.get rfl) rfl rfl rfl rfl (by repeat (first | exact Del.here | apply Del.there)) (Src.row c2.2.2.2) (by simpa using hx) (byteV_one _) (by omega) (by omega) rfl (fun A6 c6 hc6 => ?_)
  refine ⟨Mem.le.refl _, (by first | exact fun _ h => h | (intro r h; cases h; done) | exact (Sub.mem (by repeat (first | exact Sub.refl | apply Sub.cons)))), ?_⟩
  rw [zerosL_app, Nat.zero_add]
  ((refine TrA.eff 4 rfl (by kernel_rfl) (by first | exact .inl rfl | exact .inr ⟨_, _, _, rfl, rfl, rfl⟩) ?_))
  refine Exec.append (news := byteV y) rfl rfl (tysOk.get rfl) rfl (tysOk.get rfl) rfl rfl rfl rfl (by repeat (first | exact Del.here | apply Del.there)) (Src.row c1.2.2.2) (by simpa using hy) (byteV_one _) (by omega) (by omega) rfl (fun A7 c7 hc7 => ?_)
  refine ⟨Mem.le.refl _, (by first | exact fun _ h => h | (intro r h; cases h; done) | exact (Sub.mem (by repeat (first | exact Sub.refl | apply Sub.cons)))), ?_⟩
  rw [← byteV_append, show 32 + 32 = (x ++ y).length by simp [hx, hy]]
  refine TrA.publish (x := ownS 5 1 _ _ _ _) (by repeat (first | exact Del.here | apply Del.there)) (fun M3 hm3 hok3 => ?_)
  have hbc := BSl.ofOwn hok3 rfl hc7
  have hm03 := hm02.trans hm3
  have ht := rtagged_fn M3 nodeT (by decide) A7 c7 (x ++ y) hbc (by simp; omega)
  have hrl : (byteV (tagF nodeT (x ++ y))).length = 32 := by simpa using tagF_length nodeT (x ++ y)
  generalize hR : tagF nodeT (x ++ y) = R at ht hrl ⊢
  ((refine TrA.eff 5 rfl (by kernel_rfl) (by first | exact .inl rfl | exact .inr ⟨_, _, _, rfl, rfl, rfl⟩) ?_))
  refine Exec.call0 rfl ht rfl ?_
  rintro _ M5 hm5 rfl
  refine ⟨hm5, (by first | exact fun _ h => h | (intro r h; cases h; done) | exact (Sub.mem (by repeat (first | exact Sub.refl | apply Sub.cons)))), ?_⟩
  have hm05 := hm03.trans hm5
  ((refine TrA.effD 6 rfl (by kernel_rfl) (by kernel_rfl) (by first | exact .inl rfl | exact .inr ⟨_, _, _, rfl, rfl, rfl⟩) ?_); (((refine Knd.store ?_); ((refine Exec.storeW rfl rfl (tysOk.get rfl) (by repeat (first | exact Upd.here | apply Upd.there)) (by first | rfl | assumption) (by first | rfl | assumption) (by first | exact AllOne.bytes _ | exact AllOne.words _ | exact (by repeat (first | exact AllOne.nil | refine AllOne.cons (by first | rfl | assumption) ?_))) ?_)))); (refine ⟨_, fun _ h => h, ?_⟩); (refine TrA.done (by kernel_rfl) ?_))
  repeat (first | (with_reducible refine Tr.next ?_) | (with_reducible refine Tr.ret ?_))
  (refine Tr.done (by first | exact .inl rfl | exact .inr rfl) rfl (by repeat (first | exact RVs.nil | (apply RVs.cons; (exact RV.cellW (by rfl) (tysOk.get (by rfl)) (by rfl) (by repeat (first | exact Has.here | apply Has.there)) (by first | rfl | assumption))))) (by first | exact Mem.le.refl _ | assumption) (by exact ⟨[_], rfl⟩) ⟨rfl, ?_⟩)
  rfl
set_option maxHeartbeats 4000000 in
theorem rchain_fn (M : Mem) (x y : List UInt8) (hx : x.length = 32) (hy : y.length = 32) :
    Fn0 Tryd.prog 26 [.agg (byteV x).toArray, .agg (byteV y).toArray] M (fun r M' => r = .agg (byteV (tagF chainT (x ++ y))).toArray) := by
  refine Fn.intro Tryd.func26 rfl rfl Tryd.ntmps26 rfl fun E F => ?_
  repeat (first | ((with_reducible refine Tr.step rfl ?_); (first | ((with_reducible refine Knd.box ?_); (first | (refine Exec.box rfl rfl (fun b => ?_)) | (refine Exec.box1 rfl (by first | rfl | assumption) rfl (fun b => ?_)))) | ((with_reducible refine Knd.alloc ?_); (first | (refine Exec.alloc (tysOk.get rfl) rfl rfl (fun b => ?_)) | (refine Exec.alloc1 (tysOk.get rfl) rfl rfl rfl (fun b => ?_)))))) | (with_reducible refine Tr.next ?_) | (with_reducible refine Tr.seq ?_) | (with_reducible refine Tr.region ?_) | (with_reducible refine Tr.nil ?_))
  generalize hb4 : b = b4
  rename_i b2 b3
  refine Tr.publish (r := box b3 26 _) (by repeat (first | exact Del.here | apply Del.there)) (fun M1 hm1 hok1 => ?_)
  refine Tr.publish (r := box b2 26 _) (by repeat (first | exact Del.here | apply Del.there)) (fun M2 hm2 hok2 => ?_)
  have h1 := (BSl.of32 hok1 hy).mono hm2
  have h2 := BSl.of32 hok2 hx
  have hm02 := hm1.trans hm2
  have c1 := h1.cap
  have c2 := h2.cap
  rw [hy] at c1
  rw [hx] at c2
  (((apply Tr.draw); (kernel_rfl)); (refine TrA.take 1 (by kernel_rfl) rfl (by kernel_rfl) (by first | exact fun _ _ _ h => h | exact fun _ _ _ h => nomatch h.1) (by first | exact fun _ h => h | (intro r h; cases h; done) | exact (Sub.mem (by repeat (first | exact Sub.refl | apply Sub.cons)))) rfl (by exact Stab.sliceArr rfl (tysOk.get rfl) rfl (tysOk.get rfl) rfl) rfl rfl ?_); (refine TrA.take 3 (by kernel_rfl) rfl (by kernel_rfl) (by first | exact fun _ _ _ h => h | exact fun _ _ _ h => nomatch h.1) (by first | exact fun _ h => h | (intro r h; cases h; done) | exact (Sub.mem (by repeat (first | exact Sub.refl | apply Sub.cons)))) rfl (by exact Stab.sliceArr rfl (tysOk.get rfl) rfl (tysOk.get rfl) rfl) rfl rfl ?_); (refine TrA.eff 0 rfl (by kernel_rfl) (by first | exact .inl rfl | exact .inr ⟨_, _, _, rfl, rfl, rfl⟩) ?_); (((refine Knd.buildSlice ?_); (refine Exec.buildSlice (tysOk.get rfl) rfl (tysOk.get rfl) rfl rfl rfl rfl rfl (by repeat (exact BuildP.nil)) rfl (fun b => ?_)))); (refine ⟨(by first | exact Mem.le.refl _ | assumption), (by first | exact fun _ h => h | (intro r h; cases h; done) | exact (Sub.mem (by repeat (first | exact Sub.refl | apply Sub.cons)))), ?_⟩))
  refine TrA.via (fun X h => Tr.box_own 1 0 (by repeat (first | exact Upd.here | apply Upd.there)) rfl (by intro u hu; cases hu) (by simp [maxLen]) h) ?_
  ((refine TrA.eff 2 rfl (by kernel_rfl) (by first | exact .inl rfl | exact .inr ⟨_, _, _, rfl, rfl, rfl⟩) ?_))
  refine Exec.append (news := byteV x) rfl rfl (tysOk.get rfl) rfl (tysOk.get rfl) rfl rfl rfl rfl (by repeat (first | exact Del.here | apply Del.there)) (Src.row c2.2.2.2) (by simpa using hx) (byteV_one _) (by omega) (by omega) rfl (fun A6 c6 hc6 => ?_)
  refine ⟨Mem.le.refl _, (by first | exact fun _ h => h | (intro r h; cases h; done) | exact (Sub.mem (by repeat (first | exact Sub.refl | apply Sub.cons)))), ?_⟩
  rw [zerosL_app, Nat.zero_add]
  ((refine TrA.eff 4 rfl (by kernel_rfl) (by first | exact .inl rfl | exact .inr ⟨_, _, _, rfl, rfl, rfl⟩) ?_))
  refine Exec.append (news := byteV y) rfl rfl (tysOk.get rfl) rfl (tysOk.get rfl) rfl rfl rfl rfl (by repeat (first | exact Del.here | apply Del.there)) (Src.row c1.2.2.2) (by simpa using hy) (byteV_one _) (by omega) (by omega) rfl (fun A7 c7 hc7 => ?_)
  refine ⟨Mem.le.refl _, (by first | exact fun _ h => h | (intro r h; cases h; done) | exact (Sub.mem (by repeat (first | exact Sub.refl | apply Sub.cons)))), ?_⟩
  rw [← byteV_append, show 32 + 32 = (x ++ y).length by simp [hx, hy]]
  refine TrA.publish (x := ownS 5 1 _ _ _ _) (by repeat (first | exact Del.here | apply Del.there)) (fun M3 hm3 hok3 => ?_)
  have hbc := BSl.ofOwn hok3 rfl hc7
  have hm03 := hm02.trans hm3
  have ht := rtagged_fn M3 chainT (by decide) A7 c7 (x ++ y) hbc (by simp; omega)
  have hrl : (byteV (tagF chainT (x ++ y))).length = 32 := by simpa using tagF_length chainT (x ++ y)
  generalize hR : tagF chainT (x ++ y) = R at ht hrl ⊢
  ((refine TrA.eff 5 rfl (by kernel_rfl) (by first | exact .inl rfl | exact .inr ⟨_, _, _, rfl, rfl, rfl⟩) ?_))
  refine Exec.call0 rfl ht rfl ?_
  rintro _ M5 hm5 rfl
  refine ⟨hm5, (by first | exact fun _ h => h | (intro r h; cases h; done) | exact (Sub.mem (by repeat (first | exact Sub.refl | apply Sub.cons)))), ?_⟩
  have hm05 := hm03.trans hm5
  ((refine TrA.effD 6 rfl (by kernel_rfl) (by kernel_rfl) (by first | exact .inl rfl | exact .inr ⟨_, _, _, rfl, rfl, rfl⟩) ?_); (((refine Knd.store ?_); ((refine Exec.storeW rfl rfl (tysOk.get rfl) (by repeat (first | exact Upd.here | apply Upd.there)) (by first | rfl | assumption) (by first | rfl | assumption) (by first | exact AllOne.bytes _ | exact AllOne.words _ | exact (by repeat (first | exact AllOne.nil | refine AllOne.cons (by first | rfl | assumption) ?_))) ?_)))); (refine ⟨_, fun _ h => h, ?_⟩); (refine TrA.done (by kernel_rfl) ?_))
  repeat (first | (with_reducible refine Tr.next ?_) | (with_reducible refine Tr.ret ?_))
  (refine Tr.done (by first | exact .inl rfl | exact .inr rfl) rfl (by repeat (first | exact RVs.nil | (apply RVs.cons; (exact RV.cellW (by rfl) (tysOk.get (by rfl)) (by rfl) (by repeat (first | exact Has.here | apply Has.there)) (by first | rfl | assumption))))) (by first | exact Mem.le.refl _ | assumption) (by exact ⟨[_], rfl⟩) ⟨rfl, ?_⟩)
  rfl
set_option maxHeartbeats 4000000 in
theorem tree_fn : ∀ (l : List (List UInt8)) (M : Mem) (hK : At M ⟨0, 0, none⟩ (wV Kw)) (A : Option Addr) (c : Nat), RDs M (.slice A l.length c) l → l.length ≤ 1000 →
    Fn0 Tryd.prog 17 [.slice A l.length c] M (fun r M' => r = .agg (byteV (treeF l)).toArray) := by
  intro l
  induction hn : l.length using Nat.strongRecOn generalizing l with
  | _ n ih =>
  subst hn
  intro M hK A c hl hlen
  have hll := hl.len_le
  have htl := treeF_length l
  rcases (by omega : l.length = 0 ∨ l.length = 1 ∨ 2 ≤ l.length) with h0 | h1 | h2
  · rw [treeF_nil h0] at htl ⊢
    have ht := tagged_fn M hK emptyT (by decide) none 0 [] (BSl.nil _) (by simp)
    have hrl : (byteV (tagF emptyT [])).length = 32 := by simpa using htl
    generalize hR : tagF emptyT [] = R at ht hrl ⊢
    refine Fn.intro Tryd.func17 rfl rfl Tryd.ntmps17 rfl fun E F => ?_
    repeat (first | ((with_reducible refine Tr.step rfl ?_); (first | ((with_reducible refine Knd.move ?_); (refine Exec.stab rfl (Stab.move rfl) rfl ?_)) | ((with_reducible refine Knd.assign ?_); (refine Exec.stab rfl (Stab.assign rfl) rfl ?_)) | ((with_reducible refine Knd.len ?_); ((refine Exec.stab rfl (Stab.len rfl (tysOk.get rfl) rfl) rfl ?_))) | ((with_reducible refine Knd.binOp ?_); ((refine Exec.stab rfl (Stab.int rfl rfl rfl) rfl ?_))) | ((with_reducible refine Knd.alloc ?_); (first | (refine Exec.alloc (tysOk.get rfl) rfl rfl (fun b => ?_)) | (refine Exec.alloc1 (tysOk.get rfl) rfl rfl rfl (fun b => ?_)))))) | (with_reducible refine Tr.next ?_) | (with_reducible refine Tr.seq ?_) | (with_reducible refine Tr.region ?_) | (with_reducible refine Tr.nil ?_) | (with_reducible refine Tr.block ?_) | (refine Tr.cond_t rfl (by first | (with_reducible assumption) | (with_reducible rfl) | (with_reducible exact (not_not_intro rfl)) | omega) ?_))
    ((refine Tr.step rfl ?_)); refine Exec.call0 rfl (ht) rfl ?_
    rintro _ M1 hm1 rfl
    repeat (first | ((with_reducible refine Tr.step rfl ?_); (((with_reducible refine Knd.store ?_); ((refine Exec.storeW rfl rfl (tysOk.get rfl) (by repeat (first | exact Upd.here | apply Upd.there)) (by first | rfl | assumption) (by first | rfl | assumption) (by first | exact AllOne.bytes _ | exact AllOne.words _ | exact (by repeat (first | exact AllOne.nil | refine AllOne.cons (by first | rfl | assumption) ?_))) ?_))))) | (with_reducible refine Tr.next ?_) | (with_reducible refine Tr.nil ?_) | (with_reducible refine Tr.ret ?_) | (with_reducible refine Tr.then_ret ?_) | (with_reducible refine Tr.in_ret ?_))
    (refine Tr.done (by first | exact .inl rfl | exact .inr rfl) rfl (by repeat (first | exact RVs.nil | (apply RVs.cons; (exact RV.cellW (by rfl) (tysOk.get (by rfl)) (by rfl) (by repeat (first | exact Has.here | apply Has.there)) (by first | rfl | assumption))))) (by first | exact Mem.le.refl _ | assumption) (by exact ⟨[_], rfl⟩) ⟨rfl, ?_⟩)
    rfl
  · obtain ⟨x, rfl⟩ := List.length_eq_one_iff.1 h1
    rw [treeF_one rfl] at htl ⊢
    obtain ⟨hA, ch, hat, hch, hx⟩ := hl.elem (i := 0) (x := x) rfl
    subst hch
    have hbx := BSl.ofAt hat hx (by omega)
    have ht := tagged_fn M hK leafT (by decide) _ 32 x (by rw [hx]; exact hbx) (by omega)
    rw [hx] at ht
    have hrl : (byteV (tagF leafT x)).length = 32 := by simpa using htl
    show Fn0 _ _ _ _ (fun r M' => r = .agg (byteV (tagF leafT x)).toArray)
    generalize hR : tagF leafT x = R at ht hrl ⊢
    refine Fn.intro Tryd.func17 rfl rfl Tryd.ntmps17 rfl fun E F => ?_
    repeat (first | ((with_reducible refine Tr.step rfl ?_); (first | ((with_reducible refine Knd.move ?_); (refine Exec.stab rfl (Stab.move rfl) rfl ?_)) | ((with_reducible refine Knd.assign ?_); (refine Exec.stab rfl (Stab.assign rfl) rfl ?_)) | ((with_reducible refine Knd.len ?_); ((refine Exec.stab rfl (Stab.len rfl (tysOk.get rfl) rfl) rfl ?_))) | ((with_reducible refine Knd.binOp ?_); ((refine Exec.stab rfl (Stab.int rfl rfl rfl) rfl ?_))) | ((with_reducible refine Knd.alloc ?_); (first | (refine Exec.alloc (tysOk.get rfl) rfl rfl (fun b => ?_)) | (refine Exec.alloc1 (tysOk.get rfl) rfl rfl rfl (fun b => ?_)))) | ((with_reducible refine Knd.indexAddr ?_); ((refine Exec.stab rfl (Stab.indexAddr rfl rfl (tysOk.get rfl) rfl (tysOk.get rfl) rfl (by omega) (by omega) (by first | rfl | assumption)) rfl ?_))) | ((with_reducible refine Knd.slice ?_); ((refine Exec.stab rfl (Stab.sliceArr rfl (tysOk.get rfl) rfl (tysOk.get rfl) rfl) rfl ?_))))) | (with_reducible refine Tr.next ?_) | (with_reducible refine Tr.seq ?_) | (with_reducible refine Tr.region ?_) | (with_reducible refine Tr.nil ?_) | (with_reducible refine Tr.block ?_) | (refine Tr.cond_t rfl (by first | (with_reducible assumption) | (with_reducible rfl) | (with_reducible exact (not_not_intro rfl)) | omega) ?_) | (refine Tr.cond_f rfl (by first | (with_reducible assumption) | (with_reducible rfl) | (with_reducible exact (not_not_intro rfl)) | omega) ?_))
    ((refine Tr.step rfl ?_)); refine Exec.call0 rfl (ht) rfl ?_
    rintro _ M1 hm1 rfl
    repeat (first | ((with_reducible refine Tr.step rfl ?_); (((with_reducible refine Knd.store ?_); ((refine Exec.storeW rfl rfl (tysOk.get rfl) (by repeat (first | exact Upd.here | apply Upd.there)) (by first | rfl | assumption) (by first | rfl | assumption) (by first | exact AllOne.bytes _ | exact AllOne.words _ | exact (by repeat (first | exact AllOne.nil | refine AllOne.cons (by first | rfl | assumption) ?_))) ?_))))) | (with_reducible refine Tr.next ?_) | (with_reducible refine Tr.nil ?_) | (with_reducible refine Tr.ret ?_) | (with_reducible refine Tr.then_ret ?_) | (with_reducible refine Tr.in_ret ?_))
    (refine Tr.done (by first | exact .inl rfl | exact .inr rfl) rfl (by repeat (first | exact RVs.nil | (apply RVs.cons; (exact RV.cellW (by rfl) (tysOk.get (by rfl)) (by rfl) (by repeat (first | exact Has.here | apply Has.there)) (by first | rfl | assumption))))) (by first | exact Mem.le.refl _ | assumption) (by exact ⟨[_], rfl⟩) ⟨rfl, ?_⟩)
    rfl
  · rw [treeF_two h2] at htl ⊢
    have k1 := hlf_lt h2
    have k2 := hlf_pos l.length
    obtain ⟨cells, -, hlc, hcm, -⟩ := hl.cells
    have hp := hl.pre (k := hlf l.length) (m := c) (by omega) (by omega) (Nat.le_refl _)
    have hq := hl.sub (l := hlf l.length) (k := l.length) (m := c) (by omega) (Nat.le_refl _) (by omega) (Nat.le_refl _)
    have e1 : (l.take (hlf l.length)).length = hlf l.length := by simp; omega
    have e2 : (l.drop (hlf l.length)).length = l.length - hlf l.length := by simp
    have e3 : (l.drop (hlf l.length)).take (l.length - hlf l.length) = l.drop (hlf l.length) := by rw [List.take_of_length_le (by simp)]
    rw [e3] at hq
    have hh := half_fn M l.length h2 (by omega)
    have l1 := treeF_length (l.take (hlf l.length))
    have l2 := treeF_length (l.drop (hlf l.length))
    have f1 := ih _ (by rw [e1]; omega) (l.take (hlf l.length)) rfl M hK A c (by rw [e1]; exact hp) (by omega)
    rw [e1] at f1
    generalize hX : treeF (l.take (hlf l.length)) = X at f1 l1 htl ⊢
    refine Fn.intro Tryd.func17 rfl rfl Tryd.ntmps17 rfl fun E F => ?_
    repeat (first | ((with_reducible refine Tr.step rfl ?_); (first | ((with_reducible refine Knd.move ?_); (refine Exec.stab rfl (Stab.move rfl) rfl ?_)) | ((with_reducible refine Knd.assign ?_); (refine Exec.stab rfl (Stab.assign rfl) rfl ?_)) | ((with_reducible refine Knd.len ?_); ((refine Exec.stab rfl (Stab.len rfl (tysOk.get rfl) rfl) rfl ?_))) | ((with_reducible refine Knd.binOp ?_); ((refine Exec.stab rfl (Stab.int rfl rfl rfl) rfl ?_))) | ((with_reducible refine Knd.alloc ?_); (first | (refine Exec.alloc (tysOk.get rfl) rfl rfl (fun b => ?_)) | (refine Exec.alloc1 (tysOk.get rfl) rfl rfl rfl (fun b => ?_)))))) | (with_reducible refine Tr.next ?_) | (with_reducible refine Tr.seq ?_) | (with_reducible refine Tr.region ?_) | (with_reducible refine Tr.nil ?_) | (with_reducible refine Tr.skip ?_) | (with_reducible refine Tr.block ?_) | (with_reducible refine Tr.in_normal ?_) | (refine Tr.cond_f rfl (by first | (with_reducible assumption) | (with_reducible rfl) | (with_reducible exact (not_not_intro rfl)) | omega) ?_))
    ((refine Tr.step rfl ?_)); refine Exec.call0 rfl (hh) rfl ?_
    rintro _ _ _ ⟨rfl, rfl⟩
    repeat (first | ((with_reducible refine Tr.step rfl ?_); (((with_reducible refine Knd.assign ?_); (refine Exec.stab rfl (Stab.assign rfl) rfl ?_)))) | (with_reducible refine Tr.next ?_) | (with_reducible refine Tr.seq ?_) | (with_reducible refine Tr.nil ?_))
    (((apply Tr.draw); (kernel_rfl)); (refine TrA.take 0 (by kernel_rfl) rfl (by kernel_rfl) (by first | exact fun _ _ _ h => h | exact fun _ _ _ h => nomatch h.1) (by first | exact fun _ h => h | (intro r h; cases h; done) | exact (Sub.mem (by repeat (first | exact Sub.refl | apply Sub.cons)))) rfl (by first | exact Stab.move rfl) rfl rfl ?_); (refine TrA.take 1 (by kernel_rfl) rfl (by kernel_rfl) (by first | exact fun _ _ _ h => h | exact fun _ _ _ h => nomatch h.1) (by first | exact fun _ h => h | (intro r h; cases h; done) | exact (Sub.mem (by repeat (first | exact Sub.refl | apply Sub.cons)))) rfl (by first | exact Stab.move rfl) rfl rfl ?_); (refine TrA.take 4 (by kernel_rfl) rfl (by kernel_rfl) (by first | exact fun _ _ _ h => h | exact fun _ _ _ h => nomatch h.1) (by first | exact fun _ h => h | (intro r h; cases h; done) | exact (Sub.mem (by repeat (first | exact Sub.refl | apply Sub.cons)))) rfl (by first | exact Stab.move rfl) rfl rfl ?_); (refine TrA.take 5 (by kernel_rfl) rfl (by kernel_rfl) (by first | exact fun _ _ _ h => h | exact fun _ _ _ h => nomatch h.1) (by first | exact fun _ h => h | (intro r h; cases h; done) | exact (Sub.mem (by repeat (first | exact Sub.refl | apply Sub.cons)))) rfl (by first | exact Stab.move rfl) rfl rfl ?_); (refine TrA.take 2 (by kernel_rfl) rfl (by kernel_rfl) (by first | exact fun _ _ _ h => h | exact fun _ _ _ h => nomatch h.1) (by first | exact fun _ h => h | (intro r h; cases h; done) | exact (Sub.mem (by repeat (first | exact Sub.refl | apply Sub.cons)))) rfl (by exact Stab.slice_h rfl rfl (tysOk.get rfl) rfl (tysOk.get rfl) (by omega) (by omega)) rfl rfl ?_); (refine TrA.take 6 (by kernel_rfl) rfl (by kernel_rfl) (by first | exact fun _ _ _ h => h | exact fun _ _ _ h => nomatch h.1) (by first | exact fun _ h => h | (intro r h; cases h; done) | exact (Sub.mem (by repeat (first | exact Sub.refl | apply Sub.cons)))) rfl (by exact Stab.slice_l rfl rfl (tysOk.get rfl) rfl (tysOk.get rfl) rfl (by omega) (by omega)) rfl rfl ?_); (refine TrA.eff 3 rfl (by kernel_rfl) (by first | exact .inl rfl | exact .inr ⟨_, _, _, rfl, rfl, rfl⟩) ?_))
    rw [show Int.toNat (hlf l.length : Int) = hlf l.length from rfl]
    refine Exec.call0 rfl f1 rfl ?_
    rintro _ M1 hm1 rfl
    refine ⟨hm1, (by first | exact fun _ h => h | (intro r h; cases h; done) | exact (Sub.mem (by repeat (first | exact Sub.refl | apply Sub.cons)))), ?_⟩
    have f2 := ih _ (by rw [e2]; omega) (l.drop (hlf l.length)) rfl M1 (hK.mono hm1) _ _ (by rw [e2]; exact hq.mono RD.mono hm1) (by omega)
    rw [e2] at f2
    generalize hY : treeF (l.drop (hlf l.length)) = Y at f2 l2 htl ⊢
    ((refine TrA.eff 7 rfl (by kernel_rfl) (by first | exact .inl rfl | exact .inr ⟨_, _, _, rfl, rfl, rfl⟩) ?_))
    refine Exec.call0 rfl f2 rfl ?_
    rintro _ M2 hm2 rfl
    refine ⟨hm2, (by first | exact fun _ h => h | (intro r h; cases h; done) | exact (Sub.mem (by repeat (first | exact Sub.refl | apply Sub.cons)))), ?_⟩
    have f3 := node_fn M2 (hK.mono (hm1.trans hm2)) X Y l1 l2
    rw [show [110, 111, 100, 101] = nodeT from rfl] at f3
    have hrl : (byteV (tagF nodeT (X ++ Y))).length = 32 := by simpa using htl
    generalize hR : tagF nodeT (X ++ Y) = R at f3 hrl ⊢
    ((refine TrA.eff 8 rfl (by kernel_rfl) (by first | exact .inl rfl | exact .inr ⟨_, _, _, rfl, rfl, rfl⟩) ?_))
    refine Exec.call0 rfl f3 rfl ?_
    rintro _ M3 hm3 rfl
    refine ⟨hm3, (by first | exact fun _ h => h | (intro r h; cases h; done) | exact (Sub.mem (by repeat (first | exact Sub.refl | apply Sub.cons)))), ?_⟩
    have hm03 := hm1.trans (hm2.trans hm3)
    ((refine TrA.effD 9 rfl (by kernel_rfl) (by kernel_rfl) (by first | exact .inl rfl | exact .inr ⟨_, _, _, rfl, rfl, rfl⟩) ?_); (((refine Knd.store ?_); ((refine Exec.storeW rfl rfl (tysOk.get rfl) (by repeat (first | exact Upd.here | apply Upd.there)) (by first | rfl | assumption) (by first | rfl | assumption) (by first | exact AllOne.bytes _ | exact AllOne.words _ | exact (by repeat (first | exact AllOne.nil | refine AllOne.cons (by first | rfl | assumption) ?_))) ?_)))); (refine ⟨_, fun _ h => h, ?_⟩); (refine TrA.done (by kernel_rfl) ?_))
    repeat (first | (with_reducible refine Tr.next ?_) | (with_reducible refine Tr.ret ?_))
    (refine Tr.done (by first | exact .inl rfl | exact .inr rfl) rfl (by repeat (first | exact RVs.nil | (apply RVs.cons; (exact RV.cellW (by rfl) (tysOk.get (by rfl)) (by rfl) (by repeat (first | exact Has.here | apply Has.there)) (by first | rfl | assumption))))) (by first | exact Mem.le.refl _ | assumption) (by exact ⟨[_], rfl⟩) ⟨rfl, ?_⟩)
    rfl
set_option maxHeartbeats 4000000 in
theorem rtree_fn : ∀ (l : List (List UInt8)) (M : Mem) (A : Option Addr) (c : Nat), RDs M (.slice A l.length c) l → l.length ≤ 1000 →
    Fn0 Tryd.prog 18 [.slice A l.length c] M (fun r M' => r = .agg (byteV (treeF l)).toArray) := by
  intro l
  induction hn : l.length using Nat.strongRecOn generalizing l with
  | _ n ih =>
  subst hn
  intro M A c hl hlen
  have hll := hl.len_le
  have htl := treeF_length l
  rcases (by omega : l.length = 0 ∨ l.length = 1 ∨ 2 ≤ l.length) with h0 | h1 | h2
  · rw [treeF_nil h0] at htl ⊢
    have ht := rtagged_fn M emptyT (by decide) none 0 [] (BSl.nil _) (by simp)
    have hrl : (byteV (tagF emptyT [])).length = 32 := by simpa using htl
    generalize hR : tagF emptyT [] = R at ht hrl ⊢
    refine Fn.intro Tryd.func18 rfl rfl Tryd.ntmps18 rfl fun E F => ?_
    repeat (first | ((with_reducible refine Tr.step rfl ?_); (first | ((with_reducible refine Knd.move ?_); (refine Exec.stab rfl (Stab.move rfl) rfl ?_)) | ((with_reducible refine Knd.len ?_); ((refine Exec.stab rfl (Stab.len rfl (tysOk.get rfl) rfl) rfl ?_))) | ((with_reducible refine Knd.binOp ?_); ((refine Exec.stab rfl (Stab.int rfl rfl rfl) rfl ?_))) | ((with_reducible refine Knd.alloc ?_); (first | (refine Exec.alloc (tysOk.get rfl) rfl rfl (fun b => ?_)) | (refine Exec.alloc1 (tysOk.get rfl) rfl rfl rfl (fun b => ?_)))))) | (with_reducible refine Tr.next ?_) | (with_reducible refine Tr.seq ?_) | (with_reducible refine Tr.region ?_) | (with_reducible refine Tr.nil ?_) | (refine Tr.cond_t rfl (by first | (with_reducible assumption) | (with_reducible rfl) | (with_reducible exact (not_not_intro rfl)) | omega) ?_))
    ((refine Tr.step rfl ?_)); refine Exec.call0 rfl (ht) rfl ?_
    rintro _ M1 hm1 rfl
    repeat (first | ((with_reducible refine Tr.step rfl ?_); (((with_reducible refine Knd.store ?_); ((refine Exec.storeW rfl rfl (tysOk.get rfl) (by repeat (first | exact Upd.here | apply Upd.there)) (by first | rfl | assumption) (by first | rfl | assumption) (by first | exact AllOne.bytes _ | exact AllOne.words _ | exact (by repeat (first | exact AllOne.nil | refine AllOne.cons (by first | rfl | assumption) ?_))) ?_))))) | (with_reducible refine Tr.next ?_) | (with_reducible refine Tr.nil ?_) | (with_reducible refine Tr.ret ?_) | (with_reducible refine Tr.then_ret ?_))
    (refine Tr.done (by first | exact .inl rfl | exact .inr rfl) rfl (by repeat (first | exact RVs.nil | (apply RVs.cons; (exact RV.cellW (by rfl) (tysOk.get (by rfl)) (by rfl) (by repeat (first | exact Has.here | apply Has.there)) (by first | rfl | assumption))))) (by first | exact Mem.le.refl _ | assumption) (by exact ⟨[_], rfl⟩) ⟨rfl, ?_⟩)
    rfl
  · obtain ⟨x, rfl⟩ := List.length_eq_one_iff.1 h1
    rw [treeF_one rfl] at htl ⊢
    obtain ⟨hA, ch, hat, hch, hx⟩ := hl.elem (i := 0) (x := x) rfl
    subst hch
    have hbx := BSl.ofAt hat hx (by omega)
    have ht := rtagged_fn M leafT (by decide) _ 32 x (by rw [hx]; exact hbx) (by omega)
    rw [hx] at ht
    have hrl : (byteV (tagF leafT x)).length = 32 := by simpa using htl
    show Fn0 _ _ _ _ (fun r M' => r = .agg (byteV (tagF leafT x)).toArray)
    generalize hR : tagF leafT x = R at ht hrl ⊢
    refine Fn.intro Tryd.func18 rfl rfl Tryd.ntmps18 rfl fun E F => ?_
    repeat (first | ((with_reducible refine Tr.step rfl ?_); (first | ((with_reducible refine Knd.move ?_); (refine Exec.stab rfl (Stab.move rfl) rfl ?_)) | ((with_reducible refine Knd.len ?_); ((refine Exec.stab rfl (Stab.len rfl (tysOk.get rfl) rfl) rfl ?_))) | ((with_reducible refine Knd.binOp ?_); ((refine Exec.stab rfl (Stab.int rfl rfl rfl) rfl ?_))) | ((with_reducible refine Knd.alloc ?_); (first | (refine Exec.alloc (tysOk.get rfl) rfl rfl (fun b => ?_)) | (refine Exec.alloc1 (tysOk.get rfl) rfl rfl rfl (fun b => ?_)))) | ((with_reducible refine Knd.indexAddr ?_); ((refine Exec.stab rfl (Stab.indexAddr rfl rfl (tysOk.get rfl) rfl (tysOk.get rfl) rfl (by omega) (by omega) (by first | rfl | assumption)) rfl ?_))) | ((with_reducible refine Knd.slice ?_); ((refine Exec.stab rfl (Stab.sliceArr rfl (tysOk.get rfl) rfl (tysOk.get rfl) rfl) rfl ?_))))) | (with_reducible refine Tr.next ?_) | (with_reducible refine Tr.seq ?_) | (with_reducible refine Tr.region ?_) | (with_reducible refine Tr.nil ?_) | (with_reducible refine Tr.skip ?_) | (refine Tr.cond_t rfl (by first | (with_reducible assumption) | (with_reducible rfl) | (with_reducible exact (not_not_intro rfl)) | omega) ?_) | (refine Tr.cond_f rfl (by first | (with_reducible assumption) | (with_reducible rfl) | (with_reducible exact (not_not_intro rfl)) | omega) ?_))
    ((refine Tr.step rfl ?_)); refine Exec.call0 rfl (ht) rfl ?_
    rintro _ M1 hm1 rfl
    repeat (first | ((with_reducible refine Tr.step rfl ?_); (((with_reducible refine Knd.store ?_); ((refine Exec.storeW rfl rfl (tysOk.get rfl) (by repeat (first | exact Upd.here | apply Upd.there)) (by first | rfl | assumption) (by first | rfl | assumption) (by first | exact AllOne.bytes _ | exact AllOne.words _ | exact (by repeat (first | exact AllOne.nil | refine AllOne.cons (by first | rfl | assumption) ?_))) ?_))))) | (with_reducible refine Tr.next ?_) | (with_reducible refine Tr.nil ?_) | (with_reducible refine Tr.ret ?_) | (with_reducible refine Tr.then_ret ?_))
    (refine Tr.done (by first | exact .inl rfl | exact .inr rfl) rfl (by repeat (first | exact RVs.nil | (apply RVs.cons; (exact RV.cellW (by rfl) (tysOk.get (by rfl)) (by rfl) (by repeat (first | exact Has.here | apply Has.there)) (by first | rfl | assumption))))) (by first | exact Mem.le.refl _ | assumption) (by exact ⟨[_], rfl⟩) ⟨rfl, ?_⟩)
    rfl
  · rw [treeF_two h2] at htl ⊢
    have k1 := hlf_lt h2
    have k2 := hlf_pos l.length
    obtain ⟨cells, -, hlc, hcm, -⟩ := hl.cells
    have hp := hl.pre (k := hlf l.length) (m := c) (by omega) (by omega) (Nat.le_refl _)
    have hq := hl.sub (l := hlf l.length) (k := l.length) (m := c) (by omega) (Nat.le_refl _) (by omega) (Nat.le_refl _)
    have e1 : (l.take (hlf l.length)).length = hlf l.length := by simp; omega
    have e2 : (l.drop (hlf l.length)).length = l.length - hlf l.length := by simp
    have e3 : (l.drop (hlf l.length)).take (l.length - hlf l.length) = l.drop (hlf l.length) := by rw [List.take_of_length_le (by simp)]
    rw [e3] at hq
    have hh := rhalf_fn M l.length h2 (by omega)
    have l1 := treeF_length (l.take (hlf l.length))
    have l2 := treeF_length (l.drop (hlf l.length))
    have f1 := ih _ (by rw [e1]; omega) (l.take (hlf l.length)) rfl M A c (by rw [e1]; exact hp) (by omega)
    rw [e1] at f1
    generalize hX : treeF (l.take (hlf l.length)) = X at f1 l1 htl ⊢
    refine Fn.intro Tryd.func18 rfl rfl Tryd.ntmps18 rfl fun E F => ?_
    repeat (first | ((with_reducible refine Tr.step rfl ?_); (first | ((with_reducible refine Knd.move ?_); (refine Exec.stab rfl (Stab.move rfl) rfl ?_)) | ((with_reducible refine Knd.len ?_); ((refine Exec.stab rfl (Stab.len rfl (tysOk.get rfl) rfl) rfl ?_))) | ((with_reducible refine Knd.binOp ?_); ((refine Exec.stab rfl (Stab.int rfl rfl rfl) rfl ?_))) | ((with_reducible refine Knd.alloc ?_); (first | (refine Exec.alloc (tysOk.get rfl) rfl rfl (fun b => ?_)) | (refine Exec.alloc1 (tysOk.get rfl) rfl rfl rfl (fun b => ?_)))))) | (with_reducible refine Tr.next ?_) | (with_reducible refine Tr.seq ?_) | (with_reducible refine Tr.region ?_) | (with_reducible refine Tr.nil ?_) | (with_reducible refine Tr.skip ?_) | (refine Tr.cond_f rfl (by first | (with_reducible assumption) | (with_reducible rfl) | (with_reducible exact (not_not_intro rfl)) | omega) ?_))
    ((refine Tr.step rfl ?_)); refine Exec.call0 rfl (hh) rfl ?_
    rintro _ _ _ ⟨rfl, rfl⟩
    repeat (first | ((with_reducible refine Tr.step rfl ?_); (((with_reducible refine Knd.assign ?_); (refine Exec.stab rfl (Stab.assign rfl) rfl ?_)))) | (with_reducible refine Tr.next ?_) | (with_reducible refine Tr.seq ?_) | (with_reducible refine Tr.nil ?_))
    (((apply Tr.draw); (kernel_rfl)); (refine TrA.take 0 (by kernel_rfl) rfl (by kernel_rfl) (by first | exact fun _ _ _ h => h | exact fun _ _ _ h => nomatch h.1) (by first | exact fun _ h => h | (intro r h; cases h; done) | exact (Sub.mem (by repeat (first | exact Sub.refl | apply Sub.cons)))) rfl (by first | exact Stab.move rfl) rfl rfl ?_); (refine TrA.take 1 (by kernel_rfl) rfl (by kernel_rfl) (by first | exact fun _ _ _ h => h | exact fun _ _ _ h => nomatch h.1) (by first | exact fun _ h => h | (intro r h; cases h; done) | exact (Sub.mem (by repeat (first | exact Sub.refl | apply Sub.cons)))) rfl (by first | exact Stab.move rfl) rfl rfl ?_); (refine TrA.take 4 (by kernel_rfl) rfl (by kernel_rfl) (by first | exact fun _ _ _ h => h | exact fun _ _ _ h => nomatch h.1) (by first | exact fun _ h => h | (intro r h; cases h; done) | exact (Sub.mem (by repeat (first | exact Sub.refl | apply Sub.cons)))) rfl (by first | exact Stab.move rfl) rfl rfl ?_); (refine TrA.take 5 (by kernel_rfl) rfl (by kernel_rfl) (by first | exact fun _ _ _ h => h | exact fun _ _ _ h => nomatch h.1) (by first | exact fun _ h => h | (intro r h; cases h; done) | exact (Sub.mem (by repeat (first | exact Sub.refl | apply Sub.cons)))) rfl (by first | exact Stab.move rfl) rfl rfl ?_); (refine TrA.take 2 (by kernel_rfl) rfl (by kernel_rfl) (by first | exact fun _ _ _ h => h | exact fun _ _ _ h => nomatch h.1) (by first | exact fun _ h => h | (intro r h; cases h; done) | exact (Sub.mem (by repeat (first | exact Sub.refl | apply Sub.cons)))) rfl (by exact Stab.slice_h rfl rfl (tysOk.get rfl) rfl (tysOk.get rfl) (by omega) (by omega)) rfl rfl ?_); (refine TrA.take 6 (by kernel_rfl) rfl (by kernel_rfl) (by first | exact fun _ _ _ h => h | exact fun _ _ _ h => nomatch h.1) (by first | exact fun _ h => h | (intro r h; cases h; done) | exact (Sub.mem (by repeat (first | exact Sub.refl | apply Sub.cons)))) rfl (by exact Stab.slice_l rfl rfl (tysOk.get rfl) rfl (tysOk.get rfl) rfl (by omega) (by omega)) rfl rfl ?_); (refine TrA.eff 3 rfl (by kernel_rfl) (by first | exact .inl rfl | exact .inr ⟨_, _, _, rfl, rfl, rfl⟩) ?_))
    rw [show Int.toNat (hlf l.length : Int) = hlf l.length from rfl]
    refine Exec.call0 rfl f1 rfl ?_
    rintro _ M1 hm1 rfl
    refine ⟨hm1, (by first | exact fun _ h => h | (intro r h; cases h; done) | exact (Sub.mem (by repeat (first | exact Sub.refl | apply Sub.cons)))), ?_⟩
    have f2 := ih _ (by rw [e2]; omega) (l.drop (hlf l.length)) rfl M1 _ _ (by rw [e2]; exact hq.mono RD.mono hm1) (by omega)
    rw [e2] at f2
    generalize hY : treeF (l.drop (hlf l.length)) = Y at f2 l2 htl ⊢
    ((refine TrA.eff 7 rfl (by kernel_rfl) (by first | exact .inl rfl | exact .inr ⟨_, _, _, rfl, rfl, rfl⟩) ?_))
    refine Exec.call0 rfl f2 rfl ?_
    rintro _ M2 hm2 rfl
    refine ⟨hm2, (by first | exact fun _ h => h | (intro r h; cases h; done) | exact (Sub.mem (by repeat (first | exact Sub.refl | apply Sub.cons)))), ?_⟩
    have f3 := rnode_fn M2 X Y l1 l2
    skip
    have hrl : (byteV (tagF nodeT (X ++ Y))).length = 32 := by simpa using htl
    generalize hR : tagF nodeT (X ++ Y) = R at f3 hrl ⊢
    ((refine TrA.eff 8 rfl (by kernel_rfl) (by first | exact .inl rfl | exact .inr ⟨_, _, _, rfl, rfl, rfl⟩) ?_))
    refine Exec.call0 rfl f3 rfl ?_
    rintro _ M3 hm3 rfl
    refine ⟨hm3, (by first | exact fun _ h => h | (intro r h; cases h; done) | exact (Sub.mem (by repeat (first | exact Sub.refl | apply Sub.cons)))), ?_⟩
    have hm03 := hm1.trans (hm2.trans hm3)
    ((refine TrA.effD 9 rfl (by kernel_rfl) (by kernel_rfl) (by first | exact .inl rfl | exact .inr ⟨_, _, _, rfl, rfl, rfl⟩) ?_); (((refine Knd.store ?_); ((refine Exec.storeW rfl rfl (tysOk.get rfl) (by repeat (first | exact Upd.here | apply Upd.there)) (by first | rfl | assumption) (by first | rfl | assumption) (by first | exact AllOne.bytes _ | exact AllOne.words _ | exact (by repeat (first | exact AllOne.nil | refine AllOne.cons (by first | rfl | assumption) ?_))) ?_)))); (refine ⟨_, fun _ h => h, ?_⟩); (refine TrA.done (by kernel_rfl) ?_))
    repeat (first | (with_reducible refine Tr.next ?_) | (with_reducible refine Tr.ret ?_))
    (refine Tr.done (by first | exact .inl rfl | exact .inr rfl) rfl (by repeat (first | exact RVs.nil | (apply RVs.cons; (exact RV.cellW (by rfl) (tysOk.get (by rfl)) (by rfl) (by repeat (first | exact Has.here | apply Has.there)) (by first | rfl | assumption))))) (by first | exact Mem.le.refl _ | assumption) (by exact ⟨[_], rfl⟩) ⟨rfl, ?_⟩)
    rfl
end Go.Proofs.YtoaepelmhmddmaaDoor
