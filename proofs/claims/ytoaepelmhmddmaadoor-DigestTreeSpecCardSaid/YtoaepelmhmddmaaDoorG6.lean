/-
  The digest: the contracts of the reference's padded and Sum.
  Conditions: none.
-/
import Derived.Test.YtoaepelmhmddmaaDoorG4
import Derived.Test.YtoaepelmhmddmaaDoorG5
namespace Go.Proofs.YtoaepelmhmddmaaDoor
open Go Bf
attribute [local irreducible] Tr Exec Stab HasTy Go.Addr.add IntKind.wrap
theorem zerosL_app (z l : List Value) : zerosL z 0 ++ l = l := rfl
set_option maxHeartbeats 8000000 in
theorem padded_fn (M : Mem) (A : Option Addr) (c : Nat) (bs : List UInt8) (hb : BSl M (.slice A bs.length c) bs) (hl : bs.length ≤ 1000000000) :
    Fn0 Tryd.prog 29 [.slice A bs.length c] M (fun r M' => ∃ B k, r = .slice B (padF bs).length k ∧ BSl M' (.slice B (padF bs).length k) (padF bs)) := by
  have hpk : padK bs.length < 64 := by unfold padK; omega
  have hcap := hb.cap
  refine Fn.intro Tryd.func29 rfl rfl Tryd.ntmps29 rfl fun E F => ?_
  repeat (first | ((with_reducible refine Tr.step rfl ?_); (first | ((with_reducible refine Knd.move ?_); (refine Exec.stab rfl (Stab.move rfl) rfl ?_)) | ((with_reducible refine Knd.assign ?_); (refine Exec.stab rfl (Stab.assign rfl) rfl ?_)) | ((with_reducible refine Knd.buildSlice ?_); (refine Exec.buildSlice (tysOk.get rfl) rfl (tysOk.get rfl) rfl rfl rfl rfl rfl (by repeat (exact BuildP.nil)) rfl (fun b => ?_))))) | (with_reducible refine Tr.next ?_) | (with_reducible refine Tr.seq ?_) | (with_reducible refine Tr.region ?_) | (with_reducible refine Tr.nil ?_))
  refine Tr.box_own 1 0 (by repeat (first | exact Upd.here | apply Upd.there)) rfl (by intro u hu; cases hu) (by simp [maxLen]) ?_
  ((refine Tr.step rfl ?_))
  refine Exec.append (news := byteV bs) rfl rfl (tysOk.get rfl) rfl (tysOk.get rfl) rfl rfl rfl rfl (by repeat (first | exact Del.here | apply Del.there)) (Src.row hcap.2.2.2) (by simp) (byteV_one _) (by omega) (by omega) rfl (fun A3 c3 hc3 => ?_)
  rw [zerosL_app, Nat.zero_add]
  repeat (((with_reducible refine Tr.step rfl ?_); (((with_reducible refine Knd.buildSlice ?_); (refine Exec.buildSlice (tysOk.get rfl) rfl (tysOk.get rfl) rfl rfl rfl rfl rfl (by repeat (first | exact BuildP.nil | ((apply BuildP.one); (rfl); (rfl); (first | rfl | assumption); (repeat (first | exact SetL.z | apply SetL.s))))) rfl (fun b => ?_))))))
  refine Tr.cells (cs' := byteV [128]) (by repeat (first | exact Upd.here | apply Upd.there)) rfl ?_
  ((refine Tr.step rfl ?_))
  refine Exec.append (news := byteV [128]) rfl rfl (tysOk.get rfl) rfl (tysOk.get rfl) rfl rfl rfl rfl (by repeat (first | exact Del.here | apply Del.there)) (Src.box (by repeat (first | exact Has.here | apply Has.there))) (by simp) (byteV_one _) (by omega) (by omega) rfl (fun A4 c4 hc4 => ?_)
  rw [← byteV_append, show bs ++ [128] = pad1 bs 0 from rfl, show bs.length + 1 = (pad1 bs 0).length by rw [pad1_length]]
  repeat (first | ((with_reducible refine Tr.step rfl ?_); (((with_reducible refine Knd.assign ?_); (refine Exec.stab rfl (Stab.assign rfl) rfl ?_)))) | (with_reducible refine Tr.next ?_) | (with_reducible refine Tr.seq ?_) | (with_reducible refine Tr.nil ?_) | (with_reducible refine Tr.block ?_))
  refine Tr.give (r := box _ 5 (byteV [128])) (by repeat (first | exact Del.here | apply Del.there)) ?_
  refine Tr.loop (α := Nat × Option Addr × Nat) (fun y => ⟨35, [(3, .slice y.2.1 (pad1 bs y.1).length y.2.2), (2, .slice none 0 0), (0, .slice A bs.length c)], [], M, ownS 5 1 y.2.1 (pad1 bs y.1).length y.2.2 (byteV (pad1 bs y.1)) :: ([] ++ F)⟩)
    (fun y => y.1 ≤ padK bs.length ∧ y.2.2 ≤ 9223372036854775807) (fun y => padK bs.length - y.1) (0, A4, c4) ⟨Nat.zero_le _, hc4⟩ (holds_sub (by repeat (first | exact SubFr.nil | refine SubFr.cons rfl ?_)) (by repeat (first | exact DropL.refl | apply DropL.skip))) (fun y hy => ?_)
  obtain ⟨j, A5, c5⟩ := y
  obtain ⟨hj, hc5⟩ := hy
  simp only at hj hc5
  dsimp only
  have hpl := pad1_length bs j
  by_cases hlt : j < padK bs.length
  · have hne : ¬ ((pad1 bs j).length : Int) % 64 = 56 := by rw [hpl]; unfold padK at hlt; omega
    repeat (first | ((with_reducible refine Tr.step rfl ?_); (first | ((with_reducible refine Knd.move ?_); (refine Exec.stab rfl (Stab.move rfl) rfl ?_)) | ((with_reducible refine Knd.len ?_); ((refine Exec.stab rfl (Stab.len rfl (tysOk.get rfl) rfl) rfl ?_))) | ((with_reducible refine Knd.binOp ?_); (first | (refine Exec.stab rfl (Stab.int rfl rfl rfl) rfl ?_) | (refine Exec.stab rfl (Stab.remp rfl rfl (by omega) (by omega)) rfl ?_))) | ((with_reducible refine Knd.buildSlice ?_); (refine Exec.buildSlice (tysOk.get rfl) rfl (tysOk.get rfl) rfl rfl rfl rfl rfl (by repeat (first | exact BuildP.nil | ((apply BuildP.one); (rfl); (rfl); (first | rfl | assumption); (repeat (first | exact SetL.z | apply SetL.s))))) rfl (fun b => ?_))))) | (with_reducible refine Tr.next ?_) | (with_reducible refine Tr.seq ?_) | (with_reducible refine Tr.region ?_) | (with_reducible refine Tr.nil ?_) | (with_reducible refine Tr.skip ?_) | (with_reducible refine Tr.block ?_) | (refine Tr.cond_t rfl (by first | (with_reducible assumption) | (with_reducible rfl) | (with_reducible exact (not_not_intro rfl)) | omega) ?_))
    refine Tr.cells (cs' := byteV [0]) (by repeat (first | exact Upd.here | apply Upd.there)) rfl ?_
    ((refine Tr.step rfl ?_))
    refine Exec.append (news := byteV [0]) rfl rfl (tysOk.get rfl) rfl (tysOk.get rfl) rfl rfl rfl rfl (by repeat (first | exact Del.here | apply Del.there)) (Src.box (by repeat (first | exact Has.here | apply Has.there))) (by simp) (byteV_one _) (by omega) (by omega) rfl (fun A6 c6 hc6 => ?_)
    rw [← byteV_append, ← pad1_succ, show (pad1 bs j).length + 1 = (pad1 bs (j + 1)).length by rw [pad1_length, pad1_length]; omega]
    repeat (first | ((with_reducible refine Tr.step rfl ?_); (((with_reducible refine Knd.assign ?_); (refine Exec.stab rfl (Stab.assign rfl) rfl ?_)))) | (with_reducible refine Tr.next ?_) | (with_reducible refine Tr.nil ?_) | (with_reducible refine Tr.in_normal ?_))
    refine Tr.give (r := box _ 5 (byteV [0])) (by repeat (first | exact Del.here | apply Del.there)) ?_
    refine Tr.again (j + 1, A6, c6) ⟨by simp only; omega, hc6⟩ (by simp only; omega) (holds_sub (by repeat (first | exact SubFr.nil | refine SubFr.cons rfl ?_)) (by repeat (first | exact DropL.refl | apply DropL.skip)))
  have e : j = padK bs.length := by omega
  subst e
  have heq : ((pad1 bs (padK bs.length)).length : Int) % 64 = 56 := by rw [hpl]; unfold padK; omega
  have hm : (bs.length : Int) * 8 = ((8 * bs.length : Nat) : Int) := by omega
  repeat (first | ((with_reducible refine Tr.step rfl ?_); (first | ((with_reducible refine Knd.move ?_); (refine Exec.stab rfl (Stab.move rfl) rfl ?_)) | ((with_reducible refine Knd.assign ?_); (refine Exec.stab rfl (Stab.assign rfl) rfl ?_)) | ((with_reducible refine Knd.len ?_); ((refine Exec.stab rfl (Stab.len rfl (tysOk.get rfl) rfl) rfl ?_))) | ((with_reducible refine Knd.binOp ?_); (first | (refine Exec.stab rfl (Stab.mulu64 rfl rfl (by omega)) rfl ?_) | (refine Exec.stab rfl (Stab.int rfl rfl rfl) rfl ?_) | (refine Exec.stab rfl (Stab.remp rfl rfl (by omega) (by omega)) rfl ?_))) | ((with_reducible refine Knd.convert ?_); ((refine Exec.stab rfl (Stab.convu64 rfl (tysOk.get rfl) (tysOk.get rfl) rfl rfl (by omega)) rfl ?_))))) | (with_reducible refine Tr.next ?_) | (with_reducible refine Tr.seq ?_) | (with_reducible refine Tr.region ?_) | (with_reducible refine Tr.nil ?_) | (with_reducible refine Tr.block ?_) | (with_reducible refine Tr.exit ?_) | (with_reducible refine Tr.then_exit ?_) | ((with_reducible refine Tr.in_exit ?_ ?_); (exact rfl)) | (refine Tr.cond_f rfl (by first | (with_reducible assumption) | (with_reducible rfl) | (with_reducible exact (not_not_intro rfl)) | omega) ?_))
  rw [hm]
  have hw : ∃ ws : Nat → List UInt8, ∀ i, ws i = pad1 bs (padK bs.length) ++ be8 (8 * bs.length) i := ⟨_, fun _ => rfl⟩
  obtain ⟨ws, hws⟩ := hw
  have hwl : ∀ i, (ws i).length = (pad1 bs (padK bs.length)).length + i := fun i => by rw [hws, List.length_append, be8_length]
  have hw0 : pad1 bs (padK bs.length) = ws 0 := by rw [hws]; simp [be8]
  have hwp : (pad1 bs (padK bs.length)).length ≤ 1000000100 := by rw [hpl]; omega
  rw [hw0]
  refine Tr.loop (α := Nat × Option Addr × Nat) (fun y => ⟨35, [(5, .int .i64 (7 - (y.1 : Int))), (4, .int .u64 ((8 * bs.length : Nat) : Int)), (3, .slice y.2.1 (ws y.1).length y.2.2), (2, .slice none 0 0)], [], M, ownS 5 1 y.2.1 (ws y.1).length y.2.2 (byteV (ws y.1)) :: ([] ++ F)⟩)
    (fun y => y.1 ≤ 8 ∧ y.2.2 ≤ 9223372036854775807) (fun y => 8 - y.1) (0, A5, c5) ⟨by simp, hc5⟩ (holds_sub (by repeat (first | exact SubFr.nil | refine SubFr.cons rfl ?_)) (by repeat (first | exact DropL.refl | apply DropL.skip))) (fun y hy => ?_)
  clear hj hc5 hlt
  obtain ⟨i, A5, c5⟩ := y
  obtain ⟨hi, hc5⟩ := hy
  simp only at hi hc5
  dsimp only
  by_cases hlt : i < 8
  · have e56 : 8 * (7 - (i : Int)) = ((56 - 8 * i : Nat) : Int) := by omega
    have hwi := hwl i
    repeat (first | ((with_reducible refine Tr.step rfl ?_); (first | ((with_reducible refine Knd.move ?_); (refine Exec.stab rfl (Stab.move rfl) rfl ?_)) | ((with_reducible refine Knd.binOp ?_); (first | (refine Exec.stab rfl (Stab.muli rfl rfl (by omega)) rfl ?_) | (refine Exec.stab rfl (Stab.int rfl rfl rfl) rfl ?_))))) | (with_reducible refine Tr.next ?_) | (with_reducible refine Tr.seq ?_) | (with_reducible refine Tr.region ?_) | (with_reducible refine Tr.nil ?_) | (with_reducible refine Tr.skip ?_) | (with_reducible refine Tr.block ?_) | (refine Tr.cond_t rfl (by first | (with_reducible assumption) | (with_reducible rfl) | (with_reducible exact (not_not_intro rfl)) | omega) ?_))
    rw [e56]
    refine Tr.step rfl ?_
    refine Exec.stab rfl (Stab.shrc (56 - 8 * i) (p := 2 ^ (56 - 8 * i)) rfl rfl (by rw [Nat.ble_eq]; show _ ≤ 64; omega) rfl) rfl ?_
    repeat (((with_reducible refine Tr.step rfl ?_); (first | ((with_reducible refine Knd.convert ?_); ((refine Exec.stab rfl (Stab.conv rfl (tysOk.get rfl) (tysOk.get rfl) rfl rfl) rfl ?_))) | ((with_reducible refine Knd.buildSlice ?_); (refine Exec.buildSlice (tysOk.get rfl) rfl (tysOk.get rfl) rfl rfl rfl rfl rfl (by repeat (first | exact BuildP.nil | ((apply BuildP.one); (rfl); (rfl); (first | rfl | assumption); (repeat (first | exact SetL.z | apply SetL.s))))) rfl (fun b => ?_))))))
    refine Tr.cells (cs' := byteV [UInt8.ofNat (8 * bs.length / 2 ^ (56 - 8 * i))]) (by repeat (first | exact Upd.here | apply Upd.there)) (be_byte _ _) ?_
    ((refine Tr.step rfl ?_))
    refine Exec.append (news := byteV [UInt8.ofNat (8 * bs.length / 2 ^ (56 - 8 * i))]) rfl rfl (tysOk.get rfl) rfl (tysOk.get rfl) rfl rfl rfl rfl (by repeat (first | exact Del.here | apply Del.there)) (Src.box (by repeat (first | exact Has.here | apply Has.there))) (by simp) (byteV_one _) (by omega) (by omega) rfl (fun A6 c6 hc6 => ?_)
    rw [← byteV_append, show ws i ++ [UInt8.ofNat (8 * bs.length / 2 ^ (56 - 8 * i))] = ws (i + 1) by rw [hws, hws, be8_succ, List.append_assoc], show (ws i).length + 1 = (ws (i + 1)).length by rw [hwl, hwl]; omega]
    repeat (first | ((with_reducible refine Tr.step rfl ?_); (first | ((with_reducible refine Knd.move ?_); (refine Exec.stab rfl (Stab.move rfl) rfl ?_)) | ((with_reducible refine Knd.assign ?_); (refine Exec.stab rfl (Stab.assign rfl) rfl ?_)) | ((with_reducible refine Knd.binOp ?_); ((refine Exec.stab rfl (Stab.subi rfl rfl (by omega)) rfl ?_))))) | (with_reducible refine Tr.next ?_) | (with_reducible refine Tr.region ?_) | (with_reducible refine Tr.nil ?_) | (with_reducible refine Tr.in_normal ?_))
    rw [show 7 - (i : Int) - 1 = 7 - ((i + 1 : Nat) : Int) by omega]
    repeat (fail)
    refine Tr.give (r := box _ 5 (byteV [_])) (by repeat (first | exact Del.here | apply Del.there)) ?_
    refine Tr.again (i + 1, A6, c6) ⟨by simp only; omega, hc6⟩ (by simp only; omega) (holds_sub (by repeat (first | exact SubFr.nil | refine SubFr.cons rfl ?_)) (by repeat (first | exact DropL.refl | apply DropL.skip)))
  have e : i = 8 := by omega
  subst e
  have hp : ws 8 = padF bs := hws 8
  rw [hp]
  repeat (first | ((with_reducible refine Tr.step rfl ?_); (first | ((with_reducible refine Knd.move ?_); (refine Exec.stab rfl (Stab.move rfl) rfl ?_)) | ((with_reducible refine Knd.assign ?_); (refine Exec.stab rfl (Stab.assign rfl) rfl ?_)) | ((with_reducible refine Knd.binOp ?_); ((refine Exec.stab rfl (Stab.int rfl rfl rfl) rfl ?_))))) | (with_reducible refine Tr.next ?_) | (with_reducible refine Tr.seq ?_) | (with_reducible refine Tr.region ?_) | (with_reducible refine Tr.nil ?_) | (with_reducible refine Tr.exit ?_) | (with_reducible refine Tr.ret ?_) | (with_reducible refine Tr.then_exit ?_) | ((with_reducible refine Tr.in_exit ?_ ?_); (exact rfl)) | (refine Tr.cond_f rfl (by first | (with_reducible assumption) | (with_reducible rfl) | (with_reducible exact (not_not_intro rfl)) | omega) ?_))
  refine Tr.publish (r := ownS 5 1 _ _ _ _) (by repeat (first | exact Del.here | apply Del.there)) (fun M1 hm1 hok => ?_)
  (refine Tr.done (by first | exact .inl rfl | exact .inr rfl) rfl (by repeat (first | exact RVs.nil | (apply RVs.cons; (exact RV.tmp rfl)))) (by first | exact Mem.le.refl _ | assumption) (by exact ⟨[], rfl⟩) ⟨rfl, ?_⟩)
  exact ⟨A5, c5, rfl, BSl.ofOwn hok rfl hc5⟩
set_option maxHeartbeats 8000000 in
set_option maxRecDepth 20000 in
theorem rsum_fn (M : Mem) (A : Option Addr) (c : Nat) (bs : List UInt8) (hb : BSl M (.slice A bs.length c) bs) (hl : bs.length ≤ 1000000000) :
    Fn0 Tryd.prog 13 [.slice A bs.length c] M (fun r M' => r = .agg (byteV (sumF bs)).toArray) := by
  have hpk : padK bs.length < 64 := by unfold padK; omega
  refine Fn.intro Tryd.func13 rfl rfl Tryd.ntmps13 rfl fun E F => ?_
  repeat (first | ((with_reducible refine Tr.step rfl ?_); (first | ((with_reducible refine Knd.move ?_); (refine Exec.stab rfl (Stab.move rfl) rfl ?_)) | ((with_reducible refine Knd.store ?_); ((refine Exec.storeW rfl rfl (tysOk.get rfl) (by repeat (first | exact Upd.here | apply Upd.there)) rfl rfl (by repeat (first | exact AllOne.nil | refine AllOne.cons (by first | rfl | assumption) ?_)) ?_))) | ((with_reducible refine Knd.alloc ?_); (first | (refine Exec.alloc (tysOk.get rfl) rfl rfl (fun b => ?_)) | (refine Exec.alloc1 (tysOk.get rfl) rfl rfl rfl (fun b => ?_)))) | ((with_reducible refine Knd.build ?_); ((refine Exec.stab rfl (Stab.buildA (tysOk.get rfl) rfl (tysOk.get rfl) rfl rfl (by repeat (first | exact BuildP.nil | ((apply BuildP.one); (rfl); (rfl); (first | rfl | assumption); (repeat (first | exact SetL.z | apply SetL.s)))))) rfl ?_))))) | (with_reducible refine Tr.next ?_) | (with_reducible refine Tr.seq ?_) | (with_reducible refine Tr.region ?_) | (with_reducible refine Tr.nil ?_))
  generalize hbs : b = b3
  rename_i b2
  refine Tr.cells (b := b3) (t := 51) (cs' := wV Hw) (by repeat (first | exact Upd.here | apply Upd.there)) (by kernel_rfl) ?_
  ((refine Tr.step rfl ?_)); refine Exec.call0 rfl (padded_fn M A c bs hb hl) rfl ?_
  rintro _ M1 hm1 ⟨A5, c5, rfl, hbp⟩
  have hcap := hbp.cap
  have hmod := padF_mod bs
  have hpl2 := padF_length bs
  generalize hP : padF bs = P at hbp hcap hmod hpl2 ⊢
  repeat (first | ((with_reducible refine Tr.step rfl ?_); (((with_reducible refine Knd.assign ?_); (refine Exec.stab rfl (Stab.assign rfl) rfl ?_)))) | (with_reducible refine Tr.next ?_) | (with_reducible refine Tr.seq ?_) | (with_reducible refine Tr.region ?_) | (with_reducible refine Tr.nil ?_) | (with_reducible refine Tr.block ?_))
  refine Tr.loop (α := Nat) (fun i => ⟨42, [(5, .int .i64 ((64 * i : Nat) : Int)), (4, .slice A5 P.length c5), (3, .pointer (some ⟨b3, 0, none⟩)), (2, .pointer (some ⟨b2, 0, none⟩))], [], M1, box b3 51 (wV (blks P i)) :: box b2 26 _ :: ([] ++ F)⟩)
    (fun i => i ≤ P.length / 64) (fun i => P.length / 64 - i) 0 (Nat.zero_le _) (holds_sub (by repeat (first | exact SubFr.nil | refine SubFr.cons rfl ?_)) (by repeat (first | exact DropL.refl | apply DropL.skip))) (fun i hi => ?_)
  by_cases hlt : i < P.length / 64
  · have hsub := hbp.sub (l := 64 * i) (k := 64 * i + 64) (m := c5) (by omega) (by omega) (by omega) (Nat.le_refl _)
    rw [show 64 * i + 64 - 64 * i = 64 by omega] at hsub
    have hbl := blks_length P i
    have hbn : blkF (blks P i) ((P.drop (64 * i)).take 64) = blks P (i + 1) := rfl
    have hbf := block_fn M1 (blks P i) hbl _ _ _ hsub (by simp; omega)
    rw [hbn] at hbf
    generalize hS : blks P i = St at hbf hbl hbn ⊢
    generalize hS2 : blks P (i + 1) = St2 at hbf hbn
    have hSl : (wV St).length = 8 := by simpa using hbl
    have hSl2 : (wV St2).length = 8 := by rw [← hS2]; simpa using blks_length P (i + 1)
    repeat (first | ((with_reducible refine Tr.step rfl ?_); (first | ((with_reducible refine Knd.move ?_); (refine Exec.stab rfl (Stab.move rfl) rfl ?_)) | ((with_reducible refine Knd.len ?_); ((refine Exec.stab rfl (Stab.len rfl (tysOk.get rfl) rfl) rfl ?_))) | ((with_reducible refine Knd.binOp ?_); ((refine Exec.stab rfl (Stab.int rfl rfl rfl) rfl ?_))))) | (with_reducible refine Tr.next ?_) | (with_reducible refine Tr.seq ?_) | (with_reducible refine Tr.region ?_) | (with_reducible refine Tr.nil ?_) | (with_reducible refine Tr.skip ?_) | (with_reducible refine Tr.block ?_) | (refine Tr.cond_t rfl (by first | (with_reducible assumption) | (with_reducible rfl) | (with_reducible exact (not_not_intro rfl)) | omega) ?_))
    (((apply Tr.draw); (kernel_rfl)); (refine TrA.take 0 (by kernel_rfl) rfl (by kernel_rfl) (by first | exact fun _ _ _ h => h | exact fun _ _ _ h => nomatch h.1) (by first | exact fun _ h => h | (intro r h; cases h; done) | exact (Sub.mem (by repeat (first | exact Sub.refl | apply Sub.cons)))) rfl (by exact Stab.loadW rfl (tysOk.get rfl) rfl (by repeat (first | exact Has.here | apply Has.there)) (by assumption)) rfl rfl ?_); (refine TrA.take 1 (by kernel_rfl) rfl (by kernel_rfl) (by first | exact fun _ _ _ h => h | exact fun _ _ _ h => nomatch h.1) (by first | exact fun _ h => h | (intro r h; cases h; done) | exact (Sub.mem (by repeat (first | exact Sub.refl | apply Sub.cons)))) rfl (by first | exact Stab.move rfl) rfl rfl ?_); (refine TrA.take 2 (by kernel_rfl) rfl (by kernel_rfl) (by first | exact fun _ _ _ h => h | exact fun _ _ _ h => nomatch h.1) (by first | exact fun _ h => h | (intro r h; cases h; done) | exact (Sub.mem (by repeat (first | exact Sub.refl | apply Sub.cons)))) rfl (by first | exact Stab.move rfl) rfl rfl ?_); (refine TrA.take 3 (by kernel_rfl) rfl (by kernel_rfl) (by first | exact fun _ _ _ h => h | exact fun _ _ _ h => nomatch h.1) (by first | exact fun _ h => h | (intro r h; cases h; done) | exact (Sub.mem (by repeat (first | exact Sub.refl | apply Sub.cons)))) rfl (by first | exact Stab.move rfl) rfl rfl ?_); (refine TrA.take 4 (by kernel_rfl) rfl (by kernel_rfl) (by first | exact fun _ _ _ h => h | exact fun _ _ _ h => nomatch h.1) (by first | exact fun _ h => h | (intro r h; cases h; done) | exact (Sub.mem (by repeat (first | exact Sub.refl | apply Sub.cons)))) rfl (by exact Stab.addi rfl rfl (by omega)) rfl rfl ?_); (refine TrA.take 5 (by kernel_rfl) rfl (by kernel_rfl) (by first | exact fun _ _ _ h => h | exact fun _ _ _ h => nomatch h.1) (by first | exact fun _ h => h | (intro r h; cases h; done) | exact (Sub.mem (by repeat (first | exact Sub.refl | apply Sub.cons)))) rfl (by exact Stab.slice_lh rfl rfl rfl (tysOk.get rfl) rfl (tysOk.get rfl) rfl (by omega) (by omega) (by omega)) rfl rfl ?_))
    rw [show Int.toNat ((64 * i : Nat) : Int) = 64 * i by omega, show Int.toNat (((64 * i : Nat) : Int) + 64) = 64 * i + 64 by omega, show 64 * i + 64 - 64 * i = 64 by omega]
    ((refine TrA.eff 6 rfl (by kernel_rfl) (by first | exact .inl rfl | exact .inr ⟨_, _, _, rfl, rfl, rfl⟩) ?_))
    refine Exec.call0 rfl hbf rfl ?_
    rintro _ _ _ ⟨rfl, rfl⟩
    refine ⟨Mem.le.refl _, (by first | exact fun _ h => h | (intro r h; cases h; done) | exact (Sub.mem (by repeat (first | exact Sub.refl | apply Sub.cons)))), ?_⟩
    ((refine TrA.effD 7 rfl (by kernel_rfl) (by kernel_rfl) (by first | exact .inl rfl | exact .inr ⟨_, _, _, rfl, rfl, rfl⟩) ?_); (((refine Knd.store ?_); ((refine Exec.storeW rfl rfl (tysOk.get rfl) (by repeat (first | exact Upd.here | apply Upd.there)) (by first | rfl | assumption) (by first | rfl | assumption) (by first | exact AllOne.bytes _ | exact AllOne.words _ | exact (by repeat (first | exact AllOne.nil | refine AllOne.cons (by first | rfl | assumption) ?_))) ?_)))); (refine ⟨_, fun _ h => h, ?_⟩); (refine TrA.done (by kernel_rfl) ?_))
    repeat (first | ((with_reducible refine Tr.step rfl ?_); (first | ((with_reducible refine Knd.move ?_); (refine Exec.stab rfl (Stab.move rfl) rfl ?_)) | ((with_reducible refine Knd.assign ?_); (refine Exec.stab rfl (Stab.assign rfl) rfl ?_)) | ((with_reducible refine Knd.binOp ?_); ((refine Exec.stab rfl (Stab.addi rfl rfl (by omega)) rfl ?_))))) | (with_reducible refine Tr.next ?_) | (with_reducible refine Tr.region ?_) | (with_reducible refine Tr.nil ?_) | (with_reducible refine Tr.in_normal ?_))
    rw [show ((64 * i : Nat) : Int) + 64 = ((64 * (i + 1) : Nat) : Int) by omega, ← hS2]
    repeat (fail)
    refine Tr.again (i + 1) (by omega) (by omega) (holds_sub (by repeat (first | exact SubFr.nil | refine SubFr.cons rfl ?_)) (by repeat (first | exact DropL.refl | apply DropL.skip)))
  have e : i = P.length / 64 := by omega
  subst e
  have h64 : 64 * (P.length / 64) = P.length := by omega
  clear hlt hi
  generalize hS : blks P (P.length / 64) = St
  rw [h64]
  have hSl : St.length = 8 := by rw [← hS]; exact blks_length _ _
  repeat (first | ((with_reducible refine Tr.step rfl ?_); (first | ((with_reducible refine Knd.move ?_); (refine Exec.stab rfl (Stab.move rfl) rfl ?_)) | ((with_reducible refine Knd.assign ?_); (refine Exec.stab rfl (Stab.assign rfl) rfl ?_)) | ((with_reducible refine Knd.len ?_); ((refine Exec.stab rfl (Stab.len rfl (tysOk.get rfl) rfl) rfl ?_))) | ((with_reducible refine Knd.binOp ?_); ((refine Exec.stab rfl (Stab.int rfl rfl rfl) rfl ?_))) | ((with_reducible refine Knd.store ?_); ((refine Exec.storeW rfl rfl (tysOk.get rfl) (by repeat (first | exact Upd.here | apply Upd.there)) rfl rfl (by repeat (first | exact AllOne.nil | refine AllOne.cons (by first | rfl | assumption) ?_)) ?_))) | ((with_reducible refine Knd.alloc ?_); (first | (refine Exec.alloc (tysOk.get rfl) rfl rfl (fun b => ?_)) | (refine Exec.alloc1 (tysOk.get rfl) rfl rfl rfl (fun b => ?_)))) | ((with_reducible refine Knd.build ?_); ((refine Exec.stab rfl (Stab.buildA (tysOk.get rfl) rfl (tysOk.get rfl) rfl rfl (by repeat (exact BuildP.nil))) rfl ?_))))) | (with_reducible refine Tr.next ?_) | (with_reducible refine Tr.seq ?_) | (with_reducible refine Tr.region ?_) | (with_reducible refine Tr.nil ?_) | (with_reducible refine Tr.block ?_) | (with_reducible refine Tr.exit ?_) | (with_reducible refine Tr.then_exit ?_) | ((with_reducible refine Tr.in_exit ?_ ?_); (exact rfl)) | (refine Tr.cond_f rfl (by first | (with_reducible assumption) | (with_reducible rfl) | (with_reducible exact (not_not_intro rfl)) | omega) ?_))
  refine Tr.cells (b := b) (t := 26) (cs' := byteV (List.replicate 32 0)) (by repeat (first | exact Upd.here | apply Upd.there)) (by kernel_rfl) ?_
  refine Tr.loop (α := Nat × List UInt8) (fun y => ⟨42, [(7, .int .i64 y.1), (6, .pointer (some ⟨b, 0, none⟩)), (3, .pointer (some ⟨b3, 0, none⟩)), (2, .pointer (some ⟨b2, 0, none⟩))], [], M1, box b 26 (byteV y.2) :: box b3 51 (wV St) :: box b2 26 _ :: ([] ++ F)⟩)
    (fun y => y.1 ≤ 32 ∧ y.2.length = 32 ∧ ∀ q, q < y.1 → y.2.getD q 0 = outB St q) (fun y => 32 - y.1) (0, List.replicate 32 0) ⟨by simp, by simp, fun q hq => absurd hq (by simp)⟩ (holds_sub (by repeat (first | exact SubFr.nil | refine SubFr.cons rfl ?_)) (by repeat (first | exact DropL.refl | apply DropL.skip))) (fun y hy => ?_)
  obtain ⟨i, cur⟩ := y
  obtain ⟨hi, hcl, hq⟩ := hy
  simp only at hi hcl hq
  dsimp only
  have hcl' : (byteV cur).length = 32 := by simpa using hcl
  by_cases hlt : i < 32
  · have gs := wV_getD (l := St) (i := i / 4) (by omega)
    have gs' : nthL (wV St) ((i : Int) / 4).toNat = some (.int .u32 ((St.getD (i / 4) 0).toNat : Int)) := by rw [show ((i : Int) / 4).toNat = i / 4 by omega]; exact gs
    have e24 : 24 - 8 * ((i : Int) % 4) = ((24 - 8 * (i % 4) : Nat) : Int) := by omega
    repeat (first | ((with_reducible refine Tr.step rfl ?_); (first | ((with_reducible refine Knd.move ?_); (refine Exec.stab rfl (Stab.move rfl) rfl ?_)) | ((with_reducible refine Knd.load ?_); ((refine Exec.stab rfl (Stab.load rfl (tysOk.get rfl) rfl (by repeat (first | exact Has.here | apply Has.there)) (by assumption)) rfl ?_))) | ((with_reducible refine Knd.binOp ?_); (first | (refine Exec.stab rfl (Stab.subi rfl rfl (by omega)) rfl ?_) | (refine Exec.stab rfl (Stab.muli rfl rfl (by omega)) rfl ?_) | (refine Exec.stab rfl (Stab.int rfl rfl rfl) rfl ?_) | (refine Exec.stab rfl (Stab.remp rfl rfl (by omega) (by omega)) rfl ?_) | (refine Exec.stab rfl (Stab.quoi rfl rfl (by omega) (by omega) (by omega)) rfl ?_))) | ((with_reducible refine Knd.indexAddr ?_); ((refine Exec.stab rfl (Stab.indexArrB0 rfl rfl (tysOk.get rfl) rfl (tysOk.get rfl) rfl (by omega) (by omega)) rfl ?_))))) | (with_reducible refine Tr.next ?_) | (with_reducible refine Tr.seq ?_) | (with_reducible refine Tr.region ?_) | (with_reducible refine Tr.nil ?_) | (with_reducible refine Tr.skip ?_) | (with_reducible refine Tr.block ?_) | (refine Tr.cond_t rfl (by first | (with_reducible assumption) | (with_reducible rfl) | (with_reducible exact (not_not_intro rfl)) | omega) ?_))
    rw [e24]
    refine Tr.step rfl ?_
    refine Exec.stab rfl (Stab.shrw (24 - 8 * (i % 4)) rfl rfl rfl (by omega)) rfl ?_
    repeat (first | ((with_reducible refine Tr.step rfl ?_); (first | ((with_reducible refine Knd.move ?_); (refine Exec.stab rfl (Stab.move rfl) rfl ?_)) | ((with_reducible refine Knd.assign ?_); (refine Exec.stab rfl (Stab.assign rfl) rfl ?_)) | ((with_reducible refine Knd.binOp ?_); ((refine Exec.stab rfl (Stab.addi rfl rfl (by omega)) rfl ?_))) | ((with_reducible refine Knd.store ?_); ((refine Exec.storeS rfl rfl (tysOk.get rfl) rfl (by first | rfl | assumption) (by repeat (first | exact Upd.here | apply Upd.there)) (by omega) ?_))) | ((with_reducible refine Knd.indexAddr ?_); ((refine Exec.stab rfl (Stab.indexArrB0 rfl rfl (tysOk.get rfl) rfl (tysOk.get rfl) rfl (by omega) (by omega)) rfl ?_))) | ((with_reducible refine Knd.convert ?_); ((refine Exec.stab rfl (Stab.wByte rfl (tysOk.get rfl) (tysOk.get rfl) rfl rfl) rfl ?_))))) | (with_reducible refine Tr.next ?_) | (with_reducible refine Tr.region ?_) | (with_reducible refine Tr.nil ?_) | (with_reducible refine Tr.in_normal ?_))
    rw [show Int.toNat (i : Int) = i from rfl, byteV_set]
    refine Tr.again (i + 1, cur.set i (outB St i)) ⟨by simp only; omega, by simpa using hcl, fun q h => ?_⟩ (by simp only; omega) (holds_sub (by repeat (first | exact SubFr.nil | refine SubFr.cons rfl ?_)) (by repeat (first | exact DropL.refl | apply DropL.skip)))
    simp only at h ⊢
    by_cases e : q = i
    · subst e
      rw [List.getD_eq_getElem?_getD, List.getElem?_set_self (by omega)]
      rfl
    · rw [List.getD_eq_getElem?_getD, List.getElem?_set_ne (by omega), ← List.getD_eq_getElem?_getD]
      exact hq q (by omega)
  have e : i = 32 := by omega
  subst e
  have hout := out_done hcl hq
  repeat (first | ((with_reducible refine Tr.step rfl ?_); (first | ((with_reducible refine Knd.move ?_); (refine Exec.stab rfl (Stab.move rfl) rfl ?_)) | ((with_reducible refine Knd.load ?_); ((refine Exec.stab rfl (Stab.loadW rfl (tysOk.get rfl) rfl (by repeat (first | exact Has.here | apply Has.there)) (by assumption)) rfl ?_))) | ((with_reducible refine Knd.binOp ?_); ((refine Exec.stab rfl (Stab.int rfl rfl rfl) rfl ?_))) | ((with_reducible refine Knd.store ?_); ((refine Exec.storeW rfl rfl (tysOk.get rfl) (by repeat (first | exact Upd.here | apply Upd.there)) (by first | rfl | assumption) (by first | rfl | assumption) (by first | exact AllOne.bytes _ | exact AllOne.words _ | exact (by repeat (first | exact AllOne.nil | refine AllOne.cons (by first | rfl | assumption) ?_))) ?_))))) | (with_reducible refine Tr.next ?_) | (with_reducible refine Tr.seq ?_) | (with_reducible refine Tr.region ?_) | (with_reducible refine Tr.nil ?_) | (with_reducible refine Tr.exit ?_) | (with_reducible refine Tr.ret ?_) | (with_reducible refine Tr.then_exit ?_) | ((with_reducible refine Tr.in_exit ?_ ?_); (exact rfl)) | (refine Tr.cond_f rfl (by first | (with_reducible assumption) | (with_reducible rfl) | (with_reducible exact (not_not_intro rfl)) | omega) ?_))
  (refine Tr.done (by first | exact .inl rfl | exact .inr rfl) rfl (by repeat (first | exact RVs.nil | (apply RVs.cons; (exact RV.cellW (by rfl) (tysOk.get (by rfl)) (by rfl) (by repeat (first | exact Has.here | apply Has.there)) (by first | rfl | assumption))))) (by first | exact Mem.le.refl _ | assumption) (by exact ⟨[_, _, _], rfl⟩) ⟨rfl, ?_⟩)
  show Value.agg (byteV cur).toArray = _
  rw [hout, ← hS, ← hP]
  rfl
end Go.Proofs.YtoaepelmhmddmaaDoor
