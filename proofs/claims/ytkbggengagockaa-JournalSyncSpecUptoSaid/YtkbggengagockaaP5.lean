/-
  The journal: the row of JournalSyncSpec.
  Conditions: none.
-/
import Derived.Test.YtkbggengagockaaBfLend
import Derived.Test.YtkbggengagockaaBfArr
import Derived.Test.YtkbggengagockaaBfStr
import Derived.Test.YtkbggengagockaaBfConvS
import Derived.Test.YtkbggengagockaaBfUnd
import Derived.Test.YtkbggengagockaaBfRowU
import Derived.Test.YtkbggengagockaaRows
import Derived.ProofKit
import Derived.Test.YtkbggengagockaaP5c
/-
  The journal: the reference's Sync.
  Conditions: none.
-/
namespace Go.Proofs.Ytkbggengagockaa
open Go Bf
attribute [local irreducible] Tr Exec Stab HasTy Go.Addr.add IntKind.wrap
set_option maxHeartbeats 16000000 in
theorem rsync_jfn (M : Mem) (v w : Value) (j : Jr) (d : Dsk) (h : RJr M v j) (hd : RDisk M w d) (ho : occs j.rcs ≤ 1000000000) :
    Fn0 Try.prog 22 [v, w] M (fun r M' => R3 M' r (syncJ j d)) := by
  have hJ := h
  have hD := hd
  obtain ⟨A, c, rfl, h1⟩ := h
  obtain ⟨A2, c2, B2, k2, rfl, h2, h3⟩ := hd
  have l1 := h1.len_le
  have hcap := h1.cells
  obtain ⟨cells, -, g1, g2, g3, g4, g5⟩ := hcap
  refine Fn.intro Try.func22 rfl rfl Try.ntmps22 rfl fun E F => ?_
  repeat (first | ((with_reducible refine Tr.step rfl ?_); (first | ((with_reducible refine Knd.assign ?_); (refine Exec.stab rfl (Stab.assign rfl) rfl ?_)) | ((with_reducible refine Knd.load ?_); ((refine Exec.stab rfl (Stab.loadW rfl (tysOk.get rfl) rfl (by repeat (first | exact Has.here | apply Has.there)) rfl) rfl ?_))) | ((with_reducible refine Knd.box ?_); ((refine Exec.box rfl rfl (fun b => ?_)))) | ((with_reducible refine Knd.alloc ?_); ((refine Exec.alloc (tysOk.get rfl) rfl rfl (fun b => ?_)))))) | (with_reducible refine Tr.next ?_) | (with_reducible refine Tr.seq ?_) | (with_reducible refine Tr.region ?_) | (with_reducible refine Tr.nil ?_))
  rename_i b2 b3 b4
  generalize b = b5
  by_cases hk : okJ j
  rotate_left
  · ((refine Tr.step rfl ?_)); refine Exec.call0 rfl (rjcheck_n M _ j hJ ho hk) rfl ?_
    rintro _ _ _ ⟨rfl, rfl⟩
    repeat (first | ((with_reducible refine Tr.step rfl ?_); (first | ((with_reducible refine Knd.move ?_); (refine Exec.stab rfl (Stab.move rfl) rfl ?_)) | ((with_reducible refine Knd.assign ?_); (refine Exec.stab rfl (Stab.assign rfl) rfl ?_)) | ((with_reducible refine Knd.binOp ?_); ((refine Exec.stab rfl (Stab.int rfl rfl rfl) rfl ?_))) | ((with_reducible refine Knd.store ?_); ((refine Exec.storeW rfl rfl (tysOk.get rfl) (by repeat (first | exact Upd.here | apply Upd.there)) rfl rfl (by repeat (first | exact AllOne.nil | refine AllOne.cons (by first | rfl | assumption) ?_)) ?_))) | ((with_reducible refine Knd.build ?_); ((refine Exec.stab rfl (Stab.build tysOk rfl rfl rfl rfl (by repeat (exact BuildP.nil))) rfl ?_))))) | (with_reducible refine Tr.next ?_) | (with_reducible refine Tr.seq ?_) | (with_reducible refine Tr.region ?_) | (with_reducible refine Tr.nil ?_) | (with_reducible refine Tr.ret ?_) | (with_reducible refine Tr.then_ret ?_) | (refine Tr.cond_t rfl (by first | (with_reducible assumption) | omega) ?_))
    (refine Tr.done (by first | exact .inl rfl | exact .inr rfl) rfl (by repeat (first | exact RVs.nil | (apply RVs.cons; (first | exact RV.tmp rfl | exact RV.cellW (by rfl) (tysOk.get (by rfl)) (by rfl) (by repeat (first | exact Has.here | apply Has.there)) (by first | rfl | assumption))))) (by first | exact Mem.le.refl _ | assumption) (by exact ⟨[_, _, _, _], rfl⟩) ⟨rfl, ?_⟩)
    rw [syncJ, if_neg hk]
    exact R3.zero M 1
  ((refine Tr.step rfl ?_)); refine Exec.call0 rfl (rjcheck_y M _ j hJ ho hk) rfl ?_
  rintro _ _ _ ⟨rfl, rfl⟩
  obtain ⟨k1, k2', k3, k4, k5⟩ := id hk
  repeat (first | ((with_reducible refine Tr.step rfl ?_); (first | ((with_reducible refine Knd.move ?_); (refine Exec.stab rfl (Stab.move rfl) rfl ?_)) | ((with_reducible refine Knd.assign ?_); (refine Exec.stab rfl (Stab.assign rfl) rfl ?_)) | ((with_reducible refine Knd.load ?_); ((refine Exec.stab rfl (Stab.loadW rfl (tysOk.get rfl) rfl (by repeat (first | exact Has.here | apply Has.there)) rfl) rfl ?_))) | ((with_reducible refine Knd.binOp ?_); ((refine Exec.stab rfl (Stab.int rfl rfl rfl) rfl ?_))))) | (with_reducible refine Tr.next ?_) | (with_reducible refine Tr.seq ?_) | (with_reducible refine Tr.region ?_) | (with_reducible refine Tr.nil ?_) | (with_reducible refine Tr.skip ?_) | (refine Tr.cond_f rfl (by (with_reducible exact (not_not_intro rfl))) ?_))
  ((refine Tr.step rfl ?_)); refine Exec.call0 rfl (rcheck_fn M _ d hD) rfl ?_
  rintro _ _ _ ⟨rfl, rfl⟩
  by_cases hok : okD d
  rotate_left
  · rw [if_neg hok]
    repeat (first | ((with_reducible refine Tr.step rfl ?_); (first | ((with_reducible refine Knd.move ?_); (refine Exec.stab rfl (Stab.move rfl) rfl ?_)) | ((with_reducible refine Knd.assign ?_); (refine Exec.stab rfl (Stab.assign rfl) rfl ?_)) | ((with_reducible refine Knd.binOp ?_); ((refine Exec.stab rfl (Stab.int rfl rfl rfl) rfl ?_))) | ((with_reducible refine Knd.store ?_); ((refine Exec.storeW rfl rfl (tysOk.get rfl) (by repeat (first | exact Upd.here | apply Upd.there)) rfl rfl (by repeat (first | exact AllOne.nil | refine AllOne.cons (by first | rfl | assumption) ?_)) ?_))) | ((with_reducible refine Knd.build ?_); ((refine Exec.stab rfl (Stab.build tysOk rfl rfl rfl rfl (by repeat (exact BuildP.nil))) rfl ?_))))) | (with_reducible refine Tr.next ?_) | (with_reducible refine Tr.seq ?_) | (with_reducible refine Tr.region ?_) | (with_reducible refine Tr.nil ?_) | (with_reducible refine Tr.ret ?_) | (with_reducible refine Tr.then_ret ?_) | (refine Tr.cond_t rfl (by first | (with_reducible assumption) | omega) ?_))
    (refine Tr.done (by first | exact .inl rfl | exact .inr rfl) rfl (by repeat (first | exact RVs.nil | (apply RVs.cons; (first | exact RV.tmp rfl | exact RV.cellW (by rfl) (tysOk.get (by rfl)) (by rfl) (by repeat (first | exact Has.here | apply Has.there)) (by first | rfl | assumption))))) (by first | exact Mem.le.refl _ | assumption) (by exact ⟨[_, _, _, _], rfl⟩) ⟨rfl, ?_⟩)
    rw [syncJ, if_pos hk, show idleF d j.many = 440 by rw [idleF, if_neg hok], if_neg (by decide)]
    exact R3.zero M 440
  rw [if_pos hok]
  by_cases hst : d.stop = true
  · rw [hst]
    repeat (first | ((with_reducible refine Tr.step rfl ?_); (first | ((with_reducible refine Knd.move ?_); (refine Exec.stab rfl (Stab.move rfl) rfl ?_)) | ((with_reducible refine Knd.assign ?_); (refine Exec.stab rfl (Stab.assign rfl) rfl ?_)) | ((with_reducible refine Knd.load ?_); ((refine Exec.stab rfl (Stab.load rfl (tysOk.get rfl) rfl (by repeat (first | exact Has.here | apply Has.there)) rfl) rfl ?_))) | ((with_reducible refine Knd.fieldAddr ?_); ((refine Exec.stab rfl (Stab.fieldZ rfl (tysOk.get rfl) rfl rfl (tysOk.get rfl) rfl) rfl ?_))) | ((with_reducible refine Knd.binOp ?_); ((refine Exec.stab rfl (Stab.int rfl rfl rfl) rfl ?_))) | ((with_reducible refine Knd.store ?_); ((refine Exec.storeW rfl rfl (tysOk.get rfl) (by repeat (first | exact Upd.here | apply Upd.there)) rfl rfl (by repeat (first | exact AllOne.nil | refine AllOne.cons (by first | rfl | assumption) ?_)) ?_))) | ((with_reducible refine Knd.build ?_); ((refine Exec.stab rfl (Stab.build tysOk rfl rfl rfl rfl (by repeat (exact BuildP.nil))) rfl ?_))))) | (with_reducible refine Tr.next ?_) | (with_reducible refine Tr.seq ?_) | (with_reducible refine Tr.region ?_) | (with_reducible refine Tr.nil ?_) | (with_reducible refine Tr.skip ?_) | (with_reducible refine Tr.ret ?_) | (with_reducible refine Tr.then_ret ?_) | (refine Tr.cond_bt rfl (by (with_reducible rfl)) ?_) | (refine Tr.cond_f rfl (by (with_reducible exact (not_not_intro rfl))) ?_))
    (refine Tr.done (by first | exact .inl rfl | exact .inr rfl) rfl (by repeat (first | exact RVs.nil | (apply RVs.cons; (first | exact RV.tmp rfl | exact RV.cellW (by rfl) (tysOk.get (by rfl)) (by rfl) (by repeat (first | exact Has.here | apply Has.there)) (by first | rfl | assumption))))) (by first | exact Mem.le.refl _ | assumption) (by exact ⟨[_, _, _, _], rfl⟩) ⟨rfl, ?_⟩)
    rw [syncJ, if_pos hk, show idleF d j.many = 440 by rw [idleF, if_pos hok, if_pos hst], if_neg (by decide)]
    exact R3.zero M 440
  have hst' : d.stop = false := Bool.eq_false_iff.2 hst
  rw [hst']
  by_cases hmany : j.many = (d.sec.length : Int)
  rotate_left
  · repeat (first | ((with_reducible refine Tr.step rfl ?_); (first | ((with_reducible refine Knd.move ?_); (refine Exec.stab rfl (Stab.move rfl) rfl ?_)) | ((with_reducible refine Knd.assign ?_); (refine Exec.stab rfl (Stab.assign rfl) rfl ?_)) | ((with_reducible refine Knd.load ?_); ((refine Exec.stab rfl (Stab.load rfl (tysOk.get rfl) rfl (by repeat (first | exact Has.here | apply Has.there)) rfl) rfl ?_))) | ((with_reducible refine Knd.fieldAddr ?_); ((refine Exec.stab rfl (Stab.fieldZ rfl (tysOk.get rfl) rfl rfl (tysOk.get rfl) rfl) rfl ?_))) | ((with_reducible refine Knd.len ?_); ((refine Exec.stab rfl (Stab.len rfl (tysOk.get rfl) rfl) rfl ?_))) | ((with_reducible refine Knd.binOp ?_); ((refine Exec.stab rfl (Stab.int rfl rfl rfl) rfl ?_))) | ((with_reducible refine Knd.pick ?_); ((refine Exec.stab rfl (Stab.pick_td rfl (by (with_reducible assumption)) rfl) rfl ?_))) | ((with_reducible refine Knd.store ?_); ((refine Exec.storeW rfl rfl (tysOk.get rfl) (by repeat (first | exact Upd.here | apply Upd.there)) rfl rfl (by repeat (first | exact AllOne.nil | refine AllOne.cons (by first | rfl | assumption) ?_)) ?_))) | ((with_reducible refine Knd.build ?_); ((refine Exec.stab rfl (Stab.build tysOk rfl rfl rfl rfl (by repeat (exact BuildP.nil))) rfl ?_))))) | (with_reducible refine Tr.next ?_) | (with_reducible refine Tr.seq ?_) | (with_reducible refine Tr.region ?_) | (with_reducible refine Tr.nil ?_) | (refine Tr.guard_n' rfl rfl rfl (by (with_reducible assumption)) rfl rfl ?_) | (with_reducible refine Tr.skip ?_) | (with_reducible refine Tr.ret ?_) | (with_reducible refine Tr.then_ret ?_) | (refine Tr.cond_bt rfl (by (with_reducible rfl)) ?_) | (refine Tr.cond_bf rfl (by (with_reducible rfl)) ?_) | (refine Tr.cond_f rfl (by first | (with_reducible assumption) | (with_reducible exact (not_not_intro rfl))) ?_))
    (refine Tr.done (by first | exact .inl rfl | exact .inr rfl) rfl (by repeat (first | exact RVs.nil | (apply RVs.cons; (first | exact RV.tmp rfl | exact RV.cellW (by rfl) (tysOk.get (by rfl)) (by rfl) (by repeat (first | exact Has.here | apply Has.there)) (by first | rfl | assumption))))) (by first | exact Mem.le.refl _ | assumption) (by exact ⟨[_, _, _, _], rfl⟩) ⟨rfl, ?_⟩)
    rw [syncJ, if_pos hk, show idleF d j.many = 1 by rw [idleF, if_pos hok, if_neg hst, if_pos (.inl ⟨by omega, hmany⟩)], if_neg (by decide)]
    exact R3.zero M 1
  by_cases hpe : 0 < d.pen.length
  · repeat (first | ((with_reducible refine Tr.step rfl ?_); (first | ((with_reducible refine Knd.move ?_); (refine Exec.stab rfl (Stab.move rfl) rfl ?_)) | ((with_reducible refine Knd.assign ?_); (refine Exec.stab rfl (Stab.assign rfl) rfl ?_)) | ((with_reducible refine Knd.load ?_); ((refine Exec.stab rfl (Stab.load rfl (tysOk.get rfl) rfl (by repeat (first | exact Has.here | apply Has.there)) rfl) rfl ?_))) | ((with_reducible refine Knd.fieldAddr ?_); ((refine Exec.stab rfl (Stab.fieldZ rfl (tysOk.get rfl) rfl rfl (tysOk.get rfl) rfl) rfl ?_))) | ((with_reducible refine Knd.len ?_); ((refine Exec.stab rfl (Stab.len rfl (tysOk.get rfl) rfl) rfl ?_))) | ((with_reducible refine Knd.binOp ?_); ((refine Exec.stab rfl (Stab.int rfl rfl rfl) rfl ?_))) | ((with_reducible refine Knd.pick ?_); ((refine Exec.stab rfl (Stab.pick_fd rfl (by omega) rfl) rfl ?_))) | ((with_reducible refine Knd.store ?_); ((refine Exec.storeW rfl rfl (tysOk.get rfl) (by repeat (first | exact Upd.here | apply Upd.there)) rfl rfl (by repeat (first | exact AllOne.nil | refine AllOne.cons (by first | rfl | assumption) ?_)) ?_))) | ((with_reducible refine Knd.build ?_); ((refine Exec.stab rfl (Stab.build tysOk rfl rfl rfl rfl (by repeat (exact BuildP.nil))) rfl ?_))))) | (with_reducible refine Tr.next ?_) | (with_reducible refine Tr.seq ?_) | (with_reducible refine Tr.region ?_) | (with_reducible refine Tr.nil ?_) | ((refine Tr.guard_y' rfl rfl rfl (by first | (with_reducible assumption) | omega) ?_); (first | ((with_reducible refine Knd.load ?_); ((refine Exec.stab rfl (Stab.load rfl (tysOk.get rfl) rfl (by repeat (first | exact Has.here | apply Has.there)) rfl) rfl ?_))) | ((with_reducible refine Knd.fieldAddr ?_); ((refine Exec.stab rfl (Stab.fieldZ rfl (tysOk.get rfl) rfl rfl (tysOk.get rfl) rfl) rfl ?_))) | ((with_reducible refine Knd.len ?_); ((refine Exec.stab rfl (Stab.len rfl (tysOk.get rfl) rfl) rfl ?_))) | ((with_reducible refine Knd.binOp ?_); ((refine Exec.stab rfl (Stab.int rfl rfl rfl) rfl ?_))))) | (with_reducible refine Tr.skip ?_) | (with_reducible refine Tr.ret ?_) | (with_reducible refine Tr.then_ret ?_) | (refine Tr.cond_bf rfl (by (with_reducible rfl)) ?_) | (refine Tr.cond_t rfl (by first | (with_reducible assumption) | omega) ?_) | (refine Tr.cond_f rfl (by first | (with_reducible assumption) | (with_reducible exact (not_not_intro rfl))) ?_))
    (refine Tr.done (by first | exact .inl rfl | exact .inr rfl) rfl (by repeat (first | exact RVs.nil | (apply RVs.cons; (first | exact RV.tmp rfl | exact RV.cellW (by rfl) (tysOk.get (by rfl)) (by rfl) (by repeat (first | exact Has.here | apply Has.there)) (by first | rfl | assumption))))) (by first | exact Mem.le.refl _ | assumption) (by exact ⟨[_, _, _, _], rfl⟩) ⟨rfl, ?_⟩)
    rw [syncJ, if_pos hk, show idleF d j.many = 1 by rw [idleF, if_pos hok, if_neg hst, if_pos (.inr hpe)], if_neg (by decide)]
    exact R3.zero M 1
  have hpen : d.pen = [] := List.eq_nil_of_length_eq_zero (by omega)
  have hi : idleF d j.many = 0 := by rw [idleF, if_pos hok, if_neg hst, if_neg (fun h => h.elim (fun h => h.2 hmany) hpe)]
  obtain ⟨S, hS⟩ : ∃ S : Nat, j.syn = (S : Int) := ⟨j.syn.toNat, by omega⟩
  have hSl : S ≤ j.rcs.length := by omega
  have htl : (j.rcs.take S).length = S := by rw [List.length_take]; omega
  have htl' : S ≤ c := by omega
  have hT : j.syn.toNat = S := by omega
  rw [hS]
  repeat (first | ((with_reducible refine Tr.step rfl ?_); (first | ((with_reducible refine Knd.move ?_); (refine Exec.stab rfl (Stab.move rfl) rfl ?_)) | ((with_reducible refine Knd.assign ?_); (refine Exec.stab rfl (Stab.assign rfl) rfl ?_)) | ((with_reducible refine Knd.load ?_); ((refine Exec.stab rfl (Stab.load rfl (tysOk.get rfl) rfl (by repeat (first | exact Has.here | apply Has.there)) rfl) rfl ?_))) | ((with_reducible refine Knd.fieldAddr ?_); ((refine Exec.stab rfl (Stab.fieldZ rfl (tysOk.get rfl) rfl rfl (tysOk.get rfl) rfl) rfl ?_))) | ((with_reducible refine Knd.len ?_); ((refine Exec.stab rfl (Stab.len rfl (tysOk.get rfl) rfl) rfl ?_))) | ((with_reducible refine Knd.binOp ?_); ((refine Exec.stab rfl (Stab.int rfl rfl rfl) rfl ?_))) | ((with_reducible refine Knd.pick ?_); ((refine Exec.stab rfl (Stab.pick_fd rfl (by omega) rfl) rfl ?_))))) | (with_reducible refine Tr.next ?_) | (with_reducible refine Tr.seq ?_) | (with_reducible refine Tr.region ?_) | (with_reducible refine Tr.nil ?_) | ((refine Tr.guard_y' rfl rfl rfl (by first | (with_reducible assumption) | omega) ?_); (first | ((with_reducible refine Knd.load ?_); ((refine Exec.stab rfl (Stab.load rfl (tysOk.get rfl) rfl (by repeat (first | exact Has.here | apply Has.there)) rfl) rfl ?_))) | ((with_reducible refine Knd.fieldAddr ?_); ((refine Exec.stab rfl (Stab.fieldZ rfl (tysOk.get rfl) rfl rfl (tysOk.get rfl) rfl) rfl ?_))) | ((with_reducible refine Knd.len ?_); ((refine Exec.stab rfl (Stab.len rfl (tysOk.get rfl) rfl) rfl ?_))) | ((with_reducible refine Knd.binOp ?_); ((refine Exec.stab rfl (Stab.int rfl rfl rfl) rfl ?_))))) | (with_reducible refine Tr.skip ?_) | (refine Tr.cond_bf rfl (by (with_reducible rfl)) ?_) | (refine Tr.cond_f rfl (by first | (with_reducible assumption) | (with_reducible exact (not_not_intro rfl)) | omega) ?_))
  ((refine Tr.step rfl ?_)); refine Exec.call0 rfl (rgen_fn M A2 c2 d.sec h2 hok.2.2.2.1) rfl ?_
  rintro _ _ _ ⟨rfl, rfl⟩
  refine Tr.less [(52, _), (5, _), (4, _), (3, _), (2, _)] _ (by repeat (first | exact SubFr.nil | refine SubFr.cons rfl ?_)) (by repeat (first | exact DropL.refl | apply DropL.skip)) ?_
  have hS' : ((S : Int)).toNat = S := Int.toNat_natCast S
  repeat (first | ((with_reducible refine Tr.step rfl ?_); (((with_reducible refine Knd.assign ?_); (refine Exec.stab rfl (Stab.assign rfl) rfl ?_)))) | (with_reducible refine Tr.next ?_) | (with_reducible refine Tr.seq ?_) | (with_reducible refine Tr.nil ?_))
  (((apply Tr.draw); (kernel_rfl)); (refine TrA.take 0 (by kernel_rfl) rfl (by kernel_rfl) (by exact fun _ _ _ h => h) (by exact fun _ h => h) rfl (by exact Stab.fieldZ rfl (tysOk.get rfl) rfl rfl (tysOk.get rfl) rfl) rfl rfl ?_); (refine TrA.take 3 (by kernel_rfl) rfl (by kernel_rfl) (by exact fun _ _ _ h => h) (by exact fun _ h => h) rfl (by exact Stab.fieldZ rfl (tysOk.get rfl) rfl rfl (tysOk.get rfl) rfl) rfl rfl ?_); (refine TrA.take 5 (by kernel_rfl) rfl (by kernel_rfl) (by exact fun _ _ _ h => h) (by exact fun _ h => h) rfl (by exact Stab.fieldZ rfl (tysOk.get rfl) rfl rfl (tysOk.get rfl) rfl) rfl rfl ?_); (refine TrA.take 1 (by kernel_rfl) rfl (by kernel_rfl) (by exact fun _ _ _ h => h) (by exact fun _ h => h) rfl (by exact Stab.load rfl (tysOk.get rfl) rfl (by repeat (first | exact Has.here | apply Has.there)) rfl) rfl rfl ?_); (refine TrA.take 4 (by kernel_rfl) rfl (by kernel_rfl) (by exact fun _ _ _ h => h) (by exact fun _ h => h) rfl (by exact Stab.load rfl (tysOk.get rfl) rfl (by repeat (first | exact Has.here | apply Has.there)) rfl) rfl rfl ?_); (refine TrA.take 6 (by kernel_rfl) rfl (by kernel_rfl) (by exact fun _ _ _ h => h) (by exact fun _ h => h) rfl (by exact Stab.load rfl (tysOk.get rfl) rfl (by repeat (first | exact Has.here | apply Has.there)) rfl) rfl rfl ?_); (refine TrA.take 7 (by kernel_rfl) rfl (by kernel_rfl) (by exact fun _ _ _ h => h) (by exact fun _ h => h) rfl (by exact Stab.slice_h rfl rfl (tysOk.get rfl) rfl (tysOk.get rfl) (by omega) (by omega)) rfl rfl ?_); (refine TrA.eff 2 rfl (by kernel_rfl) (by exact .inl rfl) ?_))
  refine Exec.call0 rfl (rrecs_fn M A2 c2 d.sec h2 hok.2.2.2.1 hok.2.1) rfl ?_
  rintro _ M1 hm1 ⟨R, rc, rfl, hR⟩
  refine ⟨hm1, (by exact fun _ h => h), ?_⟩
  have hpre : SlOf 1 RSec M1 (.slice A S c) (j.rcs.take S) := (h1.mono RSec.mono hm1).pre hSl htl' (Nat.le_refl _)
  have hsame := sameR_fn M1 R A rc c (recs d.sec) (j.rcs.take S) hR (by rw [htl]; exact hpre)
  rw [htl] at hsame
  ((refine TrA.eff 8 rfl (by kernel_rfl) (by exact .inl rfl) ?_))
  refine Exec.call0 rfl hsame rfl ?_
  rintro _ _ _ ⟨rfl, rfl⟩
  refine ⟨Mem.le.refl _, (by exact fun _ h => h), ?_⟩
  by_cases hrec : recs d.sec = j.rcs.take S
  rotate_left
  · rw [decide_eq_false hrec]
    ((refine TrA.take 9 (by kernel_rfl) rfl (by kernel_rfl) (by exact fun _ _ _ h => h) (by exact fun _ h => h) rfl (by exact Stab.not rfl) rfl rfl ?_); (refine TrA.take 10 (by kernel_rfl) rfl (by kernel_rfl) (by exact fun _ _ _ h => h) (by exact fun _ h => h) rfl (by first | exact Stab.move rfl) rfl rfl ?_); ((refine TrA.takeu 11 (by kernel_rfl) rfl (by kernel_rfl) (by exact fun _ _ _ h => h) (by exact fun _ h => h) rfl rfl rfl (by first | rfl | (simp; done) | (simp; omega)) rfl rfl ?_)); ((refine TrA.takeu 12 (by kernel_rfl) rfl (by kernel_rfl) (by exact fun _ _ _ h => h) (by exact fun _ h => h) rfl rfl rfl (by first | rfl | (simp; done) | (simp; omega)) rfl rfl ?_)); (refine TrA.take 13 (by kernel_rfl) rfl (by kernel_rfl) (by exact fun _ _ _ h => h) (by exact fun _ h => h) rfl (by exact Stab.pick_t rfl (by (with_reducible exact Bool.not_false)) rfl) rfl rfl ?_); (refine TrA.done (by kernel_rfl) ?_))
    repeat (first | ((with_reducible refine Tr.step rfl ?_); (first | ((with_reducible refine Knd.assign ?_); (refine Exec.stab rfl (Stab.assign rfl) rfl ?_)) | ((with_reducible refine Knd.store ?_); ((refine Exec.storeW rfl rfl (tysOk.get rfl) (by repeat (first | exact Upd.here | apply Upd.there)) rfl rfl (by repeat (first | exact AllOne.nil | refine AllOne.cons (by first | rfl | assumption) ?_)) ?_))) | ((with_reducible refine Knd.build ?_); ((refine Exec.stab rfl (Stab.build tysOk rfl rfl rfl rfl (by repeat (exact BuildP.nil))) rfl ?_))))) | (with_reducible refine Tr.next ?_) | (with_reducible refine Tr.seq ?_) | (with_reducible refine Tr.region ?_) | (with_reducible refine Tr.nil ?_) | (with_reducible refine Tr.ret ?_) | (with_reducible refine Tr.then_ret ?_) | (refine Tr.cond_bt rfl (by (with_reducible rfl)) ?_))
    (refine Tr.done (by first | exact .inl rfl | exact .inr rfl) rfl (by repeat (first | exact RVs.nil | (apply RVs.cons; (first | exact RV.tmp rfl | exact RV.cellW (by rfl) (tysOk.get (by rfl)) (by rfl) (by repeat (first | exact Has.here | apply Has.there)) (by first | rfl | assumption))))) (by first | exact Mem.le.refl _ | assumption) (by exact ⟨[_, _, _, _], rfl⟩) ⟨rfl, ?_⟩)
    rw [syncJ, if_pos hk, if_pos hi, if_neg (by rw [hT]; exact hrec)]
    exact R3.zero _ _
  rw [decide_eq_true hrec]
  ((refine TrA.take 9 (by kernel_rfl) rfl (by kernel_rfl) (by exact fun _ _ _ h => h) (by exact fun _ h => h) rfl (by exact Stab.not rfl) rfl rfl ?_); (refine TrA.take 10 (by kernel_rfl) rfl (by kernel_rfl) (by exact fun _ _ _ h => h) (by exact fun _ h => h) rfl (by first | exact Stab.move rfl) rfl rfl ?_); ((refine TrA.takeg 11 (by kernel_rfl) rfl (by kernel_rfl) (by exact fun _ _ _ h => h) (by exact fun _ h => h) rfl rfl rfl (by (with_reducible exact Bool.not_true)) (by first | exact Stab.move rfl) rfl rfl ?_)); ((refine TrA.takeg 12 (by kernel_rfl) rfl (by kernel_rfl) (by exact fun _ _ _ h => h) (by exact fun _ h => h) rfl rfl rfl (by (with_reducible exact Bool.not_true)) (by exact Stab.int rfl rfl rfl) rfl rfl ?_)); (refine TrA.take 13 (by kernel_rfl) rfl (by kernel_rfl) (by exact fun _ _ _ h => h) (by exact fun _ h => h) rfl (by exact Stab.pick_f rfl (by (with_reducible exact Bool.not_true)) rfl) rfl rfl ?_); (refine TrA.done (by kernel_rfl) ?_))
  by_cases hg : gmax d.sec + 1 ≤ 4294967295
  rotate_left
  · have hg' : (4294967295 : Int) < ((gmax d.sec + 1 : Nat) : Int) := by omega
    repeat (first | ((with_reducible refine Tr.step rfl ?_); (first | ((with_reducible refine Knd.assign ?_); (refine Exec.stab rfl (Stab.assign rfl) rfl ?_)) | ((with_reducible refine Knd.store ?_); ((refine Exec.storeW rfl rfl (tysOk.get rfl) (by repeat (first | exact Upd.here | apply Upd.there)) rfl rfl (by repeat (first | exact AllOne.nil | refine AllOne.cons (by first | rfl | assumption) ?_)) ?_))) | ((with_reducible refine Knd.build ?_); ((refine Exec.stab rfl (Stab.build tysOk rfl rfl rfl rfl (by repeat (exact BuildP.nil))) rfl ?_))))) | (with_reducible refine Tr.next ?_) | (with_reducible refine Tr.seq ?_) | (with_reducible refine Tr.region ?_) | (with_reducible refine Tr.nil ?_) | (with_reducible refine Tr.ret ?_) | (with_reducible refine Tr.then_ret ?_) | (refine Tr.cond_t rfl (by (with_reducible assumption)) ?_))
    (refine Tr.done (by first | exact .inl rfl | exact .inr rfl) rfl (by repeat (first | exact RVs.nil | (apply RVs.cons; (first | exact RV.tmp rfl | exact RV.cellW (by rfl) (tysOk.get (by rfl)) (by rfl) (by repeat (first | exact Has.here | apply Has.there)) (by first | rfl | assumption))))) (by first | exact Mem.le.refl _ | assumption) (by exact ⟨[_, _, _, _], rfl⟩) ⟨rfl, ?_⟩)
    rw [syncJ, if_pos hk, if_pos hi, if_pos (by rw [hT]; exact hrec), if_neg hg]
    exact R3.zero _ _
  generalize hgg : gmax d.sec + 1 = g at hg
  by_cases hSe : (S : Int) = (j.rcs.length : Int)
  · repeat (first | ((with_reducible refine Tr.step rfl ?_); (first | ((with_reducible refine Knd.load ?_); ((refine Exec.stab rfl (Stab.load rfl (tysOk.get rfl) rfl (by repeat (first | exact Has.here | apply Has.there)) rfl) rfl ?_))) | ((with_reducible refine Knd.fieldAddr ?_); ((refine Exec.stab rfl (Stab.fieldZ rfl (tysOk.get rfl) rfl rfl (tysOk.get rfl) rfl) rfl ?_))) | ((with_reducible refine Knd.len ?_); ((refine Exec.stab rfl (Stab.len rfl (tysOk.get rfl) rfl) rfl ?_))) | ((with_reducible refine Knd.binOp ?_); ((refine Exec.stab rfl (Stab.int rfl rfl rfl) rfl ?_))))) | (with_reducible refine Tr.next ?_) | (with_reducible refine Tr.seq ?_) | (with_reducible refine Tr.region ?_) | (with_reducible refine Tr.nil ?_) | (with_reducible refine Tr.skip ?_) | (refine Tr.cond_t rfl (by (with_reducible assumption)) ?_) | (refine Tr.cond_f rfl (by first | (with_reducible assumption) | omega) ?_))
    (((apply Tr.draw ((box b3 25 [.slice A2 d.sec.length c2, .slice B2 d.pen.length k2, .int .i64 d.left, .bool false] :: box b2 29 [.int .i64 j.many, .int .i64 (S : Int), .slice A j.rcs.length c] :: ([] ++ F)))); (kernel_rfl)); (refine TrA.take 0 (by kernel_rfl) rfl (by kernel_rfl) (by exact fun _ _ _ h => h) (by exact (Sub.mem (by repeat (first | exact Sub.refl | apply Sub.cons)))) rfl (by exact Stab.loadW rfl (tysOk.get rfl) rfl (by repeat (first | exact Has.here | apply Has.there)) rfl) rfl rfl ?_); (refine TrA.take 1 (by kernel_rfl) rfl (by kernel_rfl) (by exact fun _ _ _ h => h) (by exact (Sub.mem (by repeat (first | exact Sub.refl | apply Sub.cons)))) rfl (by exact Stab.loadW rfl (tysOk.get rfl) rfl (by repeat (first | exact Has.here | apply Has.there)) rfl) rfl rfl ?_); (refine TrA.eff 2 rfl (by kernel_rfl) (by exact .inl rfl) ?_); (((refine Knd.store ?_); ((refine Exec.storeW rfl rfl (tysOk.get rfl) (by repeat (first | exact Upd.here | apply Upd.there)) rfl rfl (by repeat (first | exact AllOne.nil | refine AllOne.cons (by first | rfl | assumption) ?_)) ?_)))); (refine ⟨(by first | exact Mem.le.refl _ | assumption), (by exact (Sub.mem (by repeat (first | exact Sub.refl | apply Sub.cons)))), ?_⟩); (refine TrA.eff 3 rfl (by kernel_rfl) (by exact .inl rfl) ?_); (((refine Knd.store ?_); ((refine Exec.storeW rfl rfl (tysOk.get rfl) (by repeat (first | exact Upd.here | apply Upd.there)) rfl rfl (by repeat (first | exact AllOne.nil | refine AllOne.cons (by first | rfl | assumption) ?_)) ?_)))); (refine ⟨(by first | exact Mem.le.refl _ | assumption), (by exact (Sub.mem (by repeat (first | exact Sub.refl | apply Sub.cons)))), ?_⟩); (refine TrA.take 4 (by kernel_rfl) rfl (by kernel_rfl) (by exact fun _ _ _ h => h) (by exact (Sub.mem (by repeat (first | exact Sub.refl | apply Sub.cons)))) rfl (by first | exact Stab.assign rfl) rfl rfl ?_); (refine TrA.done (by kernel_rfl) ?_))
    repeat (first | (with_reducible refine Tr.next ?_) | (with_reducible refine Tr.ret ?_) | (with_reducible refine Tr.then_ret ?_))
    (refine Tr.done (by first | exact .inl rfl | exact .inr rfl) rfl (by repeat (first | exact RVs.nil | (apply RVs.cons; (first | exact RV.tmp rfl | exact RV.cellW (by rfl) (tysOk.get (by rfl)) (by rfl) (by repeat (first | exact Has.here | apply Has.there)) (by first | rfl | assumption))))) (by first | exact Mem.le.refl _ | assumption) (by exact ⟨[_, _, _, _], rfl⟩) ⟨rfl, ?_⟩)
    rw [syncJ, if_pos hk, if_pos hi, if_pos (by rw [hT]; exact hrec), hgg, if_pos hg, if_pos (by rw [hS]; exact hSe)]
    exact ⟨_, _, rfl, ⟨A, c, by rw [hS], h1.mono RSec.mono hm1⟩, ⟨A2, c2, B2, k2, by rw [hst'], h2.mono RSec.mono hm1, h3.mono RWr.mono hm1⟩⟩
  have hocc := used_fn M1 A c (j.rcs.take S) (by rw [htl]; exact hpre) (Nat.le_trans (occs_le _ _) ho)
  rw [htl] at hocc
  repeat (first | ((with_reducible refine Tr.step rfl ?_); (first | ((with_reducible refine Knd.load ?_); ((refine Exec.stab rfl (Stab.load rfl (tysOk.get rfl) rfl (by repeat (first | exact Has.here | apply Has.there)) rfl) rfl ?_))) | ((with_reducible refine Knd.fieldAddr ?_); ((refine Exec.stab rfl (Stab.fieldZ rfl (tysOk.get rfl) rfl rfl (tysOk.get rfl) rfl) rfl ?_))) | ((with_reducible refine Knd.len ?_); ((refine Exec.stab rfl (Stab.len rfl (tysOk.get rfl) rfl) rfl ?_))) | ((with_reducible refine Knd.binOp ?_); ((refine Exec.stab rfl (Stab.int rfl rfl rfl) rfl ?_))) | ((with_reducible refine Knd.slice ?_); ((refine Exec.stab rfl (Stab.slice_h rfl rfl (tysOk.get rfl) rfl (tysOk.get rfl) (by omega) (by omega)) rfl ?_))))) | (with_reducible refine Tr.next ?_) | (with_reducible refine Tr.seq ?_) | (with_reducible refine Tr.region ?_) | (with_reducible refine Tr.nil ?_) | (with_reducible refine Tr.skip ?_) | (refine Tr.cond_f rfl (by first | (with_reducible assumption) | omega) ?_))
  rw [hS']
  ((refine Tr.step rfl ?_)); refine Exec.call0 rfl (hocc) rfl ?_
  rintro _ _ _ ⟨rfl, rfl⟩
  have hall : j.rcs = j.rcs.take S ++ j.rcs.drop S := (List.take_append_drop _ _).symm
  have hsum : occs j.rcs = occs (j.rcs.take S) + occs (j.rcs.drop S) := occs_split _ _
  have hTl : (j.rcs.drop S).length = j.rcs.length - S := List.length_drop
  have hget : ∀ i, (j.rcs.drop S)[i]? = j.rcs[S + i]? := fun i => List.getElem?_drop
  have hD1 : RDisk M1 (.agg #[.slice A2 d.sec.length c2, .slice B2 d.pen.length k2, .int .i64 d.left, .bool false]) d := ⟨A2, c2, B2, k2, by rw [hst'], h2.mono RSec.mono hm1, h3.mono RWr.mono hm1⟩
  generalize hTT : j.rcs.drop S = T at hsum hTl hget
  generalize ha0 : occs (j.rcs.take S) = a0 at hsum
  repeat (first | ((with_reducible refine Tr.step rfl ?_); (first | ((with_reducible refine Knd.assign ?_); (refine Exec.stab rfl (Stab.assign rfl) rfl ?_)) | ((with_reducible refine Knd.load ?_); ((refine Exec.stab rfl (Stab.load rfl (tysOk.get rfl) rfl (by repeat (first | exact Has.here | apply Has.there)) rfl) rfl ?_))) | ((with_reducible refine Knd.fieldAddr ?_); ((refine Exec.stab rfl (Stab.fieldZ rfl (tysOk.get rfl) rfl rfl (tysOk.get rfl) rfl) rfl ?_))))) | (with_reducible refine Tr.next ?_) | (with_reducible refine Tr.seq ?_) | (with_reducible refine Tr.region ?_) | (with_reducible refine Tr.nil ?_) | (with_reducible refine Tr.block ?_))
  refine Tr.loop (α := Nat × Mem × (Option Addr × Nat × Option Addr × Nat)) (fun y => ⟨149, [(11, .int .i64 ((S + y.1 : Nat) : Int)), (10, .int .i64 ((a0 + occs (T.take y.1) : Nat) : Int)), (9, .int .u64 (g : Int)), (5, .pointer (some ⟨b5, 0, none⟩)), (4, .pointer (some ⟨b4, 0, none⟩)), (3, .pointer (some ⟨b3, 0, none⟩)), (2, .pointer (some ⟨b2, 0, none⟩))], [], y.2.1, box b5 25 [.slice none 0 0, .slice none 0 0, .int .i64 0, .bool false] :: box b4 29 [.int .i64 0, .int .i64 0, .slice none 0 0] :: box b3 25 [.slice y.2.2.1 d.sec.length y.2.2.2.1, .slice y.2.2.2.2.1 (d.pen ++ wrsAll g a0 (T.take y.1)).length y.2.2.2.2.2, .int .i64 d.left, .bool false] :: box b2 29 [.int .i64 j.many, .int .i64 (S : Int), .slice A j.rcs.length c] :: ([] ++ F)⟩)
    (fun y => y.1 ≤ T.length ∧ Mem.le M1 y.2.1 ∧ RDisk y.2.1 (.agg #[.slice y.2.2.1 d.sec.length y.2.2.2.1, .slice y.2.2.2.2.1 (d.pen ++ wrsAll g a0 (T.take y.1)).length y.2.2.2.2.2, .int .i64 d.left, .bool false]) (dAfter d (wrsAll g a0 (T.take y.1)))) (fun y => T.length - y.1) (0, M1, A2, c2, B2, k2) ⟨Nat.zero_le _, Mem.le.refl _, ?_⟩ ?_ (fun y hy => ?_)
  · simp only [List.take_zero, wrsAll, List.append_nil, dAfter]
    exact hD1
  · simp only [List.take_zero, wrsAll, List.append_nil, occs, List.map_nil, List.sum_nil, Nat.add_zero]
    exact (holds_sub (by repeat (first | exact SubFr.nil | refine SubFr.cons rfl ?_)) (by repeat (first | exact DropL.refl | apply DropL.skip)))
  obtain ⟨i, M2, A4, c4, B4, k4⟩ := y
  obtain ⟨hi2, hm2, hD2⟩ := hy
  simp only at hi2 hm2 hD2
  dsimp only
  clear hsame hocc hR hpre
  by_cases hlt : i < T.length
  · obtain ⟨x, hx⟩ := get_of_lt hlt
    rw [hget] at hx
    obtain ⟨hA, ch, hat, A5, k5', rfl, hxb⟩ := (h1.mono RSec.mono (hm1.trans hm2)).elem hx
    rw [← hget] at hx
    have hst := occs_take hx
    have hle := occs_le T (i + 1)
    have htk : T.take (i + 1) = T.take i ++ [x] := by rw [List.take_add_one, hx]; rfl
    have hru : runs (dAfter d (wrsAll g a0 (T.take i))) := wrsAll_runs ⟨hok, hst'⟩ (by omega) hpen
    have hpl : (dAfter d (wrsAll g a0 (T.take i))).pen.length = occs (T.take i) := by
      show (d.pen ++ _).length = _
      rw [hpen, List.nil_append, wrsAll_length]
    have hxl := occ_le x.length
    have hop := occ_pos x.length
    repeat (first | ((with_reducible refine Tr.step rfl ?_); (first | ((with_reducible refine Knd.move ?_); (refine Exec.stab rfl (Stab.move rfl) rfl ?_)) | ((with_reducible refine Knd.assign ?_); (refine Exec.stab rfl (Stab.assign rfl) rfl ?_)) | ((with_reducible refine Knd.load ?_); (first | (refine Exec.stab rfl (Stab.load rfl (tysOk.get rfl) rfl (by repeat (first | exact Has.here | apply Has.there)) rfl) rfl ?_) | (refine Exec.stab rfl (Stab.loadM rfl (tysOk.get rfl) rfl (by assumption)) rfl ?_))) | ((with_reducible refine Knd.fieldAddr ?_); ((refine Exec.stab rfl (Stab.fieldZ rfl (tysOk.get rfl) rfl rfl (tysOk.get rfl) rfl) rfl ?_))) | ((with_reducible refine Knd.len ?_); ((refine Exec.stab rfl (Stab.len rfl (tysOk.get rfl) rfl) rfl ?_))) | ((with_reducible refine Knd.binOp ?_); ((refine Exec.stab rfl (Stab.int rfl rfl rfl) rfl ?_))) | ((with_reducible refine Knd.indexAddr ?_); ((refine Exec.stab rfl (Stab.indexAddr rfl rfl (tysOk.get rfl) rfl (tysOk.get rfl) rfl (by omega) (by omega) (by first | rfl | assumption)) rfl ?_))))) | (with_reducible refine Tr.next ?_) | (with_reducible refine Tr.seq ?_) | (with_reducible refine Tr.region ?_) | (with_reducible refine Tr.nil ?_) | (with_reducible refine Tr.skip ?_) | (with_reducible refine Tr.block ?_) | (refine Tr.cond_t rfl (by first | (with_reducible assumption) | omega) ?_))
    ((refine Tr.step rfl ?_)); refine Exec.call0 rfl (sectors_fn M2 x.length (by omega)) rfl ?_
    rintro _ _ _ ⟨rfl, rfl⟩
    have hwro := fun (k : Nat) (hk : k < occ x.length) => wr_one (g := g) (at_ := a0 + occs (T.take i)) (p := x) (i := k) hru (by show _ ≤ d.sec.length; omega) (by rw [hpl]; have := hok.2.1; omega) hk
    have hwl := wrs_length g (a0 + occs (T.take i)) x
    have hNd : a0 + occs (T.take i) + occ x.length ≤ d.sec.length := by omega
    have h4096 := hok.2.1
    generalize hat1 : a0 + occs (T.take i) = at1 at hwro hwl hNd
    generalize hN : occ x.length = N at hwro hwl hst hop hNd
    repeat (first | ((with_reducible refine Tr.step rfl ?_); (((with_reducible refine Knd.assign ?_); (refine Exec.stab rfl (Stab.assign rfl) rfl ?_)))) | (with_reducible refine Tr.next ?_) | (with_reducible refine Tr.seq ?_) | (with_reducible refine Tr.region ?_) | (with_reducible refine Tr.nil ?_) | (with_reducible refine Tr.block ?_))
    refine Tr.loop (α := Nat × Mem × (Option Addr × Nat × Option Addr × Nat)) (fun y => ⟨149, [(14, .int .i64 (y.1 : Int)), (13, .int .i64 (N : Int)), (12, .slice A5 x.length k5'), (11, .int .i64 ((S + i : Nat) : Int)), (10, .int .i64 ((at1 + y.1 : Nat) : Int)), (9, .int .u64 (g : Int)), (5, .pointer (some ⟨b5, 0, none⟩)), (4, .pointer (some ⟨b4, 0, none⟩)), (3, .pointer (some ⟨b3, 0, none⟩)), (2, .pointer (some ⟨b2, 0, none⟩))], [], y.2.1, box b5 25 [.slice none 0 0, .slice none 0 0, .int .i64 0, .bool false] :: box b4 29 [.int .i64 0, .int .i64 0, .slice none 0 0] :: box b3 25 [.slice y.2.2.1 d.sec.length y.2.2.2.1, .slice y.2.2.2.2.1 (d.pen ++ wrsAll g a0 (T.take i) ++ (wrs g at1 x).take y.1).length y.2.2.2.2.2, .int .i64 d.left, .bool false] :: box b2 29 [.int .i64 j.many, .int .i64 (S : Int), .slice A j.rcs.length c] :: ([] ++ F)⟩)
      (fun y => y.1 ≤ N ∧ Mem.le M2 y.2.1 ∧ RDisk y.2.1 (.agg #[.slice y.2.2.1 d.sec.length y.2.2.2.1, .slice y.2.2.2.2.1 (d.pen ++ wrsAll g a0 (T.take i) ++ (wrs g at1 x).take y.1).length y.2.2.2.2.2, .int .i64 d.left, .bool false]) (dAfter (dAfter d (wrsAll g a0 (T.take i))) ((wrs g at1 x).take y.1))) (fun y => N - y.1) (0, M2, A4, c4, B4, k4) ⟨Nat.zero_le _, Mem.le.refl _, ?_⟩ ?_ (fun y hy => ?_)
    · simp only [List.take_zero, List.append_nil]
      rw [show dAfter (dAfter d (wrsAll g a0 (T.take i))) [] = dAfter d (wrsAll g a0 (T.take i)) by simp only [dAfter, List.append_nil]]
      exact hD2
    · simp only [List.take_zero, List.append_nil, Nat.add_zero]
      exact (holds_sub (by repeat (first | exact SubFr.nil | refine SubFr.cons rfl ?_)) (by repeat (first | exact DropL.refl | apply DropL.skip)))
    obtain ⟨k, M3, A6, c6, B6, k6⟩ := y
    obtain ⟨hkN, hm3, hD3⟩ := hy
    simp only at hkN hm3 hD3
    dsimp only
    by_cases hlt2 : k < N
    · have hmul : 112 * k ≤ x.length := occ_mul (by omega)
      have hpc := piece_le x k
      have f1 : ((k : Int) * 112).toNat = 112 * k := by omega
      have f2 : (min (x.length : Int) (((k : Int) + 1) * 112)).toNat = min (112 * k + 112) x.length := by omega
      have f3 : (x.drop (112 * k)).take (min (112 * k + 112) x.length - 112 * k) = piece x k := by
        unfold piece
        by_cases h : 112 * k + 112 ≤ x.length
        · rw [Nat.min_eq_left h, Nat.add_sub_cancel_left]
        · rw [List.take_of_length_le (by simp; omega), List.take_of_length_le (by simp; omega)]
      obtain ⟨hxc, hxc2, hxc3, hxc4⟩ := hxb.cap
      have hsub : BSl M3 _ ((x.drop (112 * k)).take (min (112 * k + 112) x.length - 112 * k)) := (hxb.mono hm3).sub (l := 112 * k) (k := min (112 * k + 112) x.length) (m := k5') (by omega) (by omega) (by omega) (by omega)
      rw [f3] at hsub
      repeat (first | ((with_reducible refine Tr.step rfl ?_); (first | ((with_reducible refine Knd.move ?_); (refine Exec.stab rfl (Stab.move rfl) rfl ?_)) | ((with_reducible refine Knd.assign ?_); (refine Exec.stab rfl (Stab.assign rfl) rfl ?_)) | ((with_reducible refine Knd.len ?_); ((refine Exec.stab rfl (Stab.len rfl (tysOk.get rfl) rfl) rfl ?_))) | ((with_reducible refine Knd.min ?_); (refine Exec.stab rfl (Stab.min2 rfl rfl) rfl ?_)) | ((with_reducible refine Knd.binOp ?_); (first | (refine Exec.stab rfl (Stab.addi rfl rfl (by omega)) rfl ?_) | (refine Exec.stab rfl (Stab.muli rfl rfl (by omega)) rfl ?_) | (refine Exec.stab rfl (Stab.int rfl rfl rfl) rfl ?_))) | ((with_reducible refine Knd.slice ?_); ((refine Exec.stab rfl (Stab.slice_lh rfl rfl rfl (tysOk.get rfl) rfl (tysOk.get rfl) rfl (by omega) (by omega) (by omega)) rfl ?_))))) | (with_reducible refine Tr.next ?_) | (with_reducible refine Tr.seq ?_) | (with_reducible refine Tr.region ?_) | (with_reducible refine Tr.nil ?_) | (with_reducible refine Tr.skip ?_) | (with_reducible refine Tr.block ?_) | (refine Tr.cond_t rfl (by first | (with_reducible assumption) | omega) ?_))
      rw [f1, f2]
      generalize (if k5' = 112 * k then A5 else A5.map (·.add (112 * k * 1))) = A7 at hsub ⊢
      generalize k5' - 112 * k = c7 at hsub ⊢
      have hsl := hsub.len
      rw [hsl] at hsub ⊢
      have hkd : kdF (decide ((k : Int) = 0)) (decide ((k : Int) = (N : Int) - 1)) = flg k N := by
        rw [show decide ((k : Int) = 0) = decide (k = 0) from decide_eq_decide.2 (by omega), show decide ((k : Int) = (N : Int) - 1) = decide (k + 1 = N) from decide_eq_decide.2 (by omega)]
        exact kdF_flg k N
      have hsec := rsector_fn M3 g (at1 + k) (decide ((k : Int) = 0)) (decide ((k : Int) = (N : Int) - 1)) A7 c7 (piece x k) hsub hpc (by omega) (by omega)
      rw [hkd] at hsec
      have hbl : (bF g (at1 + k) (flg k N) (piece x k)).length = 128 := bF_length hpc
      have hone := hwro k hlt2
      generalize hD4 : dAfter (dAfter d (wrsAll g a0 (T.take i))) ((wrs g at1 x).take (k + 1)) = d4 at hone
      generalize bF g (at1 + k) (flg k N) (piece x k) = sx at hsec hbl hone
      (((apply Tr.draw); (kernel_rfl)); (refine TrA.take 0 (by kernel_rfl) rfl (by kernel_rfl) (by exact fun _ _ _ h => h) (by exact fun _ h => h) rfl (by exact Stab.loadW rfl (tysOk.get rfl) rfl (by repeat (first | exact Has.here | apply Has.there)) rfl) rfl rfl ?_); (refine TrA.take 1 (by kernel_rfl) rfl (by kernel_rfl) (by exact fun _ _ _ h => h) (by exact fun _ h => h) rfl (by first | exact Stab.move rfl) rfl rfl ?_); (refine TrA.take 2 (by kernel_rfl) rfl (by kernel_rfl) (by exact fun _ _ _ h => h) (by exact fun _ h => h) rfl (by first | exact Stab.move rfl) rfl rfl ?_); (refine TrA.take 3 (by kernel_rfl) rfl (by kernel_rfl) (by exact fun _ _ _ h => h) (by exact fun _ h => h) rfl (by first | exact Stab.move rfl) rfl rfl ?_); (refine TrA.take 4 (by kernel_rfl) rfl (by kernel_rfl) (by exact fun _ _ _ h => h) (by exact fun _ h => h) rfl (by first | exact Stab.move rfl) rfl rfl ?_); (refine TrA.take 6 (by kernel_rfl) rfl (by kernel_rfl) (by exact fun _ _ _ h => h) (by exact fun _ h => h) rfl (by first | exact Stab.move rfl) rfl rfl ?_); (refine TrA.take 7 (by kernel_rfl) rfl (by kernel_rfl) (by exact fun _ _ _ h => h) (by exact fun _ h => h) rfl (by first | exact Stab.move rfl) rfl rfl ?_); (refine TrA.take 10 (by kernel_rfl) rfl (by kernel_rfl) (by exact fun _ _ _ h => h) (by exact fun _ h => h) rfl (by first | exact Stab.move rfl) rfl rfl ?_); (refine TrA.take 5 (by kernel_rfl) rfl (by kernel_rfl) (by exact fun _ _ _ h => h) (by exact fun _ h => h) rfl (by exact Stab.int rfl rfl rfl) rfl rfl ?_); (refine TrA.take 8 (by kernel_rfl) rfl (by kernel_rfl) (by exact fun _ _ _ h => h) (by exact fun _ h => h) rfl (by exact Stab.subi rfl rfl (by omega)) rfl rfl ?_); (refine TrA.take 9 (by kernel_rfl) rfl (by kernel_rfl) (by exact fun _ _ _ h => h) (by exact fun _ h => h) rfl (by exact Stab.int rfl rfl rfl) rfl rfl ?_); (refine TrA.eff 11 rfl (by kernel_rfl) (by exact .inl rfl) ?_))
      refine Exec.call0 rfl hsec rfl ?_
      rintro _ M4 hm4 ⟨A8, c8, rfl, hb8⟩
      refine ⟨hm4, (by exact fun _ h => h), ?_⟩
      have hw := rwrite_fn M4 _ (dAfter (dAfter d (wrsAll g a0 (T.take i))) ((wrs g at1 x).take k)) ((at1 + k : Nat) : Int) A8 c8 sx (hD3.mono hm4) (by rw [hbl]; exact hb8)
      rw [hone, hbl] at hw
      ((refine TrA.effD 12 rfl (by kernel_rfl) (by kernel_rfl) (by exact .inl rfl) ?_))
      refine Exec.call0 rfl hw rfl ?_
      rintro _ M5 hm5 hP
      subst hD4
      have hstk : (dAfter (dAfter d (wrsAll g a0 (T.take i))) ((wrs g at1 x).take (k + 1))).stop = false := hst'
      have hP' := hP.openJ
      rw [hstk] at hP'
      obtain ⟨A9, c9, B9, k9, rfl, hD5⟩ := hP'
      refine ⟨[], fun r h => absurd h List.not_mem_nil, ?_⟩
      ((refine TrA.take 13 (by kernel_rfl) rfl (by kernel_rfl) (by exact fun _ _ _ h => h) (by exact fun _ h => List.mem_append_left _ h) rfl (by first | exact Stab.move rfl) rfl rfl ?_); (refine TrA.take 14 (by kernel_rfl) rfl (by kernel_rfl) (by exact fun _ _ _ h => h) (by exact fun _ h => List.mem_append_left _ h) rfl (by first | exact Stab.extract rfl rfl) rfl rfl ?_); (refine TrA.take 15 (by kernel_rfl) rfl (by kernel_rfl) (by exact fun _ _ _ h => h) (by exact fun _ h => List.mem_append_left _ h) rfl (by first | exact Stab.extract rfl rfl) rfl rfl ?_); (refine TrA.eff 16 rfl (by kernel_rfl) (by exact .inl rfl) ?_); (((refine Knd.store ?_); ((refine Exec.storeW rfl rfl (tysOk.get rfl) (by repeat (first | exact Upd.here | apply Upd.there)) rfl rfl (by repeat (first | exact AllOne.nil | refine AllOne.cons (by first | rfl | assumption) ?_)) ?_)))); (refine ⟨(by first | exact Mem.le.refl _ | assumption), (by exact fun _ h => List.mem_append_left _ h), ?_⟩); (refine TrA.done (by kernel_rfl) ?_))
      repeat (first | ((with_reducible refine Tr.step rfl ?_); (first | ((with_reducible refine Knd.move ?_); (refine Exec.stab rfl (Stab.move rfl) rfl ?_)) | ((with_reducible refine Knd.assign ?_); (refine Exec.stab rfl (Stab.assign rfl) rfl ?_)) | ((with_reducible refine Knd.binOp ?_); ((refine Exec.stab rfl (Stab.addi rfl rfl (by omega)) rfl ?_))))) | (with_reducible refine Tr.next ?_) | (with_reducible refine Tr.region ?_) | (with_reducible refine Tr.nil ?_) | (with_reducible refine Tr.in_normal ?_))
      rw [show ((at1 + k : Nat) : Int) + 1 = ((at1 + (k + 1) : Nat) : Int) by omega]
      exact Tr.again (k + 1, M5, A9, c9, B9, k9) ⟨by simp only; omega, hm3.trans (hm4.trans hm5), hD5⟩ (by simp only; omega) (holds_sub (by repeat (first | exact SubFr.nil | refine SubFr.cons rfl ?_)) (by repeat (first | exact DropL.refl | apply DropL.skip)))
    have hke : N = k := by omega
    subst hke
    rw [show (wrs g at1 x).take N = wrs g at1 x from List.take_of_length_le (by omega)] at hD3 ⊢
    have e1 : ((S + i : Nat) : Int) + 1 = ((S + (i + 1) : Nat) : Int) := by omega
    have e2 : at1 + N = a0 + occs (T.take (i + 1)) := by omega
    have hnew : dAfter (dAfter d (wrsAll g a0 (T.take i))) (wrs g at1 x) = dAfter d (wrsAll g a0 (T.take (i + 1))) := by
      rw [htk, wrsAll_snoc, hat1]
      simp only [dAfter, List.append_assoc]
    have hpp : d.pen ++ wrsAll g a0 (T.take i) ++ wrs g at1 x = d.pen ++ wrsAll g a0 (T.take (i + 1)) := congrArg Dsk.pen hnew
    rw [hnew, hpp] at hD3
    rw [hpp, e2]
    repeat (first | ((with_reducible refine Tr.step rfl ?_); (first | ((with_reducible refine Knd.move ?_); (refine Exec.stab rfl (Stab.move rfl) rfl ?_)) | ((with_reducible refine Knd.assign ?_); (refine Exec.stab rfl (Stab.assign rfl) rfl ?_)) | ((with_reducible refine Knd.binOp ?_); (first | (refine Exec.stab rfl (Stab.addi rfl rfl (by omega)) rfl ?_) | (refine Exec.stab rfl (Stab.int rfl rfl rfl) rfl ?_))))) | (with_reducible refine Tr.next ?_) | (with_reducible refine Tr.seq ?_) | (with_reducible refine Tr.region ?_) | (with_reducible refine Tr.nil ?_) | (with_reducible refine Tr.exit ?_) | (with_reducible refine Tr.then_exit ?_) | (with_reducible refine Tr.in_normal ?_) | ((with_reducible refine Tr.in_exit ?_ ?_); (exact rfl)) | (refine Tr.cond_f rfl (by first | (with_reducible assumption) | omega) ?_))
    rw [e1]
    refine Tr.again (i + 1, M3, A6, c6, B6, k6) ⟨by simp only; omega, hm2.trans hm3, hD3⟩ (by simp only; omega) (holds_sub (by repeat (first | exact SubFr.nil | refine SubFr.cons rfl ?_)) (by repeat (first | exact DropL.refl | apply DropL.skip)))
  have e : i = T.length := by omega
  subst e
  rw [List.take_length] at hD2 ⊢
  have hsy := rsync_fn M2 _ _ hD2
  generalize hs : syncF (dAfter d (wrsAll g a0 T)) = s at hsy
  repeat (first | ((with_reducible refine Tr.step rfl ?_); (first | ((with_reducible refine Knd.move ?_); (refine Exec.stab rfl (Stab.move rfl) rfl ?_)) | ((with_reducible refine Knd.load ?_); (first | (refine Exec.stab rfl (Stab.load rfl (tysOk.get rfl) rfl (by repeat (first | exact Has.here | apply Has.there)) rfl) rfl ?_) | (refine Exec.stab rfl (Stab.loadW rfl (tysOk.get rfl) rfl (by repeat (first | exact Has.here | apply Has.there)) rfl) rfl ?_))) | ((with_reducible refine Knd.fieldAddr ?_); ((refine Exec.stab rfl (Stab.fieldZ rfl (tysOk.get rfl) rfl rfl (tysOk.get rfl) rfl) rfl ?_))) | ((with_reducible refine Knd.len ?_); ((refine Exec.stab rfl (Stab.len rfl (tysOk.get rfl) rfl) rfl ?_))) | ((with_reducible refine Knd.binOp ?_); ((refine Exec.stab rfl (Stab.int rfl rfl rfl) rfl ?_))))) | (with_reducible refine Tr.next ?_) | (with_reducible refine Tr.seq ?_) | (with_reducible refine Tr.region ?_) | (with_reducible refine Tr.nil ?_) | (with_reducible refine Tr.exit ?_) | (with_reducible refine Tr.then_exit ?_) | ((with_reducible refine Tr.in_exit ?_ ?_); (exact rfl)) | (refine Tr.cond_f rfl (by first | (with_reducible assumption) | omega) ?_))
  ((refine Tr.step rfl ?_)); refine Exec.call0 rfl (hsy) rfl ?_
  rintro _ M3 hm3 ⟨v', rfl, hD3⟩
  obtain ⟨A6, c6, B6, k6, rfl, h61, h62⟩ := id hD3
  have hm13 := hm1.trans (hm2.trans hm3)
  have hfin : ∀ q, syncJ j d = q ↔ (if s.2 = 0 then ((⟨j.many, (j.rcs.length : Int), j.rcs⟩ : Jr), s.1, (0 : Int)) else (zJ, s.1, s.2)) = q := fun q => by
    rw [syncJ, if_pos hk, if_pos hi, if_pos (by rw [hT]; exact hrec), hgg, if_pos hg, if_neg (by rw [hS]; exact hSe), hT, ha0, hTT, hs]
  by_cases hs2 : s.2 = 0
  · rw [hs2]
    repeat (first | ((with_reducible refine Tr.step rfl ?_); (first | ((with_reducible refine Knd.move ?_); (refine Exec.stab rfl (Stab.move rfl) rfl ?_)) | ((with_reducible refine Knd.assign ?_); (refine Exec.stab rfl (Stab.assign rfl) rfl ?_)) | ((with_reducible refine Knd.load ?_); ((refine Exec.stab rfl (Stab.load rfl (tysOk.get rfl) rfl (by repeat (first | exact Has.here | apply Has.there)) rfl) rfl ?_))) | ((with_reducible refine Knd.fieldAddr ?_); ((refine Exec.stab rfl (Stab.fieldZ rfl (tysOk.get rfl) rfl rfl (tysOk.get rfl) rfl) rfl ?_))) | ((with_reducible refine Knd.len ?_); ((refine Exec.stab rfl (Stab.len rfl (tysOk.get rfl) rfl) rfl ?_))) | ((with_reducible refine Knd.binOp ?_); ((refine Exec.stab rfl (Stab.int rfl rfl rfl) rfl ?_))) | ((with_reducible refine Knd.store ?_); (first | (refine Exec.store rfl rfl (tysOk.get rfl) rfl (by first | rfl | assumption) (by repeat (first | exact Upd.here | apply Upd.there)) (by repeat (first | exact SetL.z | apply SetL.s)) ?_) | (refine Exec.storeW rfl rfl (tysOk.get rfl) (by repeat (first | exact Upd.here | apply Upd.there)) rfl rfl (by repeat (first | exact AllOne.nil | refine AllOne.cons (by first | rfl | assumption) ?_)) ?_))) | ((with_reducible refine Knd.alloc ?_); ((refine Exec.alloc (tysOk.get rfl) rfl rfl (fun b => ?_)))) | ((with_reducible refine Knd.extract ?_); (refine Exec.stab rfl (Stab.extract rfl rfl) rfl ?_)))) | (with_reducible refine Tr.next ?_) | (with_reducible refine Tr.seq ?_) | (with_reducible refine Tr.region ?_) | (with_reducible refine Tr.nil ?_) | (with_reducible refine Tr.skip ?_) | (refine Tr.cond_f rfl (by first | (with_reducible assumption) | (with_reducible exact (not_not_intro rfl))) ?_))
    generalize b = b16
    refine Tr.front (x := box b5 25 _) (by repeat (first | exact Del.here | apply Del.there)) ?_
    refine Tr.front (x := box b4 29 _) (by repeat (first | exact Del.here | apply Del.there)) ?_
    (((apply Tr.draw ((box b16 25 _ :: _))); (kernel_rfl)); (refine TrA.take 0 (by kernel_rfl) rfl (by kernel_rfl) (by exact fun _ _ _ h => h) (by exact (Sub.mem (by repeat (first | exact Sub.refl | apply Sub.cons)))) rfl (by exact Stab.loadW rfl (tysOk.get rfl) rfl (by repeat (first | exact Has.here | apply Has.there)) rfl) rfl rfl ?_); (refine TrA.take 1 (by kernel_rfl) rfl (by kernel_rfl) (by exact fun _ _ _ h => h) (by exact (Sub.mem (by repeat (first | exact Sub.refl | apply Sub.cons)))) rfl (by exact Stab.loadW rfl (tysOk.get rfl) rfl (by repeat (first | exact Has.here | apply Has.there)) rfl) rfl rfl ?_); (refine TrA.eff 2 rfl (by kernel_rfl) (by exact .inl rfl) ?_); (((refine Knd.store ?_); ((refine Exec.storeW rfl rfl (tysOk.get rfl) (by repeat (first | exact Upd.here | apply Upd.there)) rfl rfl (by repeat (first | exact AllOne.nil | refine AllOne.cons (by first | rfl | assumption) ?_)) ?_)))); (refine ⟨(by first | exact Mem.le.refl _ | assumption), (by exact (Sub.mem (by repeat (first | exact Sub.refl | apply Sub.cons)))), ?_⟩); (refine TrA.eff 3 rfl (by kernel_rfl) (by exact .inl rfl) ?_); (((refine Knd.store ?_); ((refine Exec.storeW rfl rfl (tysOk.get rfl) (by repeat (first | exact Upd.here | apply Upd.there)) rfl rfl (by repeat (first | exact AllOne.nil | refine AllOne.cons (by first | rfl | assumption) ?_)) ?_)))); (refine ⟨(by first | exact Mem.le.refl _ | assumption), (by exact (Sub.mem (by repeat (first | exact Sub.refl | apply Sub.cons)))), ?_⟩); (refine TrA.take 4 (by kernel_rfl) rfl (by kernel_rfl) (by exact fun _ _ _ h => h) (by exact (Sub.mem (by repeat (first | exact Sub.refl | apply Sub.cons)))) rfl (by first | exact Stab.assign rfl) rfl rfl ?_); (refine TrA.done (by kernel_rfl) ?_))
    repeat (first | (with_reducible refine Tr.next ?_) | (with_reducible refine Tr.ret ?_))
    (refine Tr.done (by first | exact .inl rfl | exact .inr rfl) rfl (by repeat (first | exact RVs.nil | (apply RVs.cons; (first | exact RV.tmp rfl | exact RV.cellW (by rfl) (tysOk.get (by rfl)) (by rfl) (by repeat (first | exact Has.here | apply Has.there)) (by first | rfl | assumption))))) (by first | exact Mem.le.refl _ | assumption) (by exact ⟨[_, _, _, _, _], rfl⟩) ⟨rfl, ?_⟩)
    rw [(hfin _).2 (if_pos hs2)]
    exact ⟨_, _, rfl, ⟨A, c, rfl, h1.mono RSec.mono hm13⟩, hD3⟩
  · repeat (first | ((with_reducible refine Tr.step rfl ?_); (first | ((with_reducible refine Knd.move ?_); (refine Exec.stab rfl (Stab.move rfl) rfl ?_)) | ((with_reducible refine Knd.assign ?_); (refine Exec.stab rfl (Stab.assign rfl) rfl ?_)) | ((with_reducible refine Knd.binOp ?_); ((refine Exec.stab rfl (Stab.int rfl rfl rfl) rfl ?_))) | ((with_reducible refine Knd.store ?_); ((refine Exec.storeW rfl rfl (tysOk.get rfl) (by repeat (first | exact Upd.here | apply Upd.there)) rfl rfl (by repeat (first | exact AllOne.nil | refine AllOne.cons (by first | rfl | assumption) ?_)) ?_))) | ((with_reducible refine Knd.alloc ?_); ((refine Exec.alloc (tysOk.get rfl) rfl rfl (fun b => ?_)))) | ((with_reducible refine Knd.extract ?_); (refine Exec.stab rfl (Stab.extract rfl rfl) rfl ?_)))) | (with_reducible refine Tr.next ?_) | (with_reducible refine Tr.seq ?_) | (with_reducible refine Tr.region ?_) | (with_reducible refine Tr.nil ?_) | (refine Tr.cond_t rfl (by (with_reducible assumption)) ?_))
    generalize b = b16
    refine Tr.front (x := box b5 25 _) (by repeat (first | exact Del.here | apply Del.there)) ?_
    refine Tr.front (x := box b4 29 _) (by repeat (first | exact Del.here | apply Del.there)) ?_
    (((apply Tr.draw ((box b16 25 _ :: _))); (kernel_rfl)); (refine TrA.take 0 (by kernel_rfl) rfl (by kernel_rfl) (by exact fun _ _ _ h => h) (by exact (Sub.mem (by repeat (first | exact Sub.refl | apply Sub.cons)))) rfl (by exact Stab.build tysOk rfl rfl rfl rfl (by repeat (exact BuildP.nil))) rfl rfl ?_); (refine TrA.take 1 (by kernel_rfl) rfl (by kernel_rfl) (by exact fun _ _ _ h => h) (by exact (Sub.mem (by repeat (first | exact Sub.refl | apply Sub.cons)))) rfl (by exact Stab.loadW rfl (tysOk.get rfl) rfl (by repeat (first | exact Has.here | apply Has.there)) rfl) rfl rfl ?_); (refine TrA.take 2 (by kernel_rfl) rfl (by kernel_rfl) (by exact fun _ _ _ h => h) (by exact (Sub.mem (by repeat (first | exact Sub.refl | apply Sub.cons)))) rfl (by first | exact Stab.move rfl) rfl rfl ?_); (refine TrA.eff 3 rfl (by kernel_rfl) (by exact .inl rfl) ?_); (((refine Knd.store ?_); ((refine Exec.storeW rfl rfl (tysOk.get rfl) (by repeat (first | exact Upd.here | apply Upd.there)) rfl rfl (by repeat (first | exact AllOne.nil | refine AllOne.cons (by first | rfl | assumption) ?_)) ?_)))); (refine ⟨(by first | exact Mem.le.refl _ | assumption), (by exact (Sub.mem (by repeat (first | exact Sub.refl | apply Sub.cons)))), ?_⟩); (refine TrA.eff 4 rfl (by kernel_rfl) (by exact .inl rfl) ?_); (((refine Knd.store ?_); ((refine Exec.storeW rfl rfl (tysOk.get rfl) (by repeat (first | exact Upd.here | apply Upd.there)) rfl rfl (by repeat (first | exact AllOne.nil | refine AllOne.cons (by first | rfl | assumption) ?_)) ?_)))); (refine ⟨(by first | exact Mem.le.refl _ | assumption), (by exact (Sub.mem (by repeat (first | exact Sub.refl | apply Sub.cons)))), ?_⟩); (refine TrA.take 5 (by kernel_rfl) rfl (by kernel_rfl) (by exact fun _ _ _ h => h) (by exact (Sub.mem (by repeat (first | exact Sub.refl | apply Sub.cons)))) rfl (by first | exact Stab.assign rfl) rfl rfl ?_); (refine TrA.done (by kernel_rfl) ?_))
    repeat (first | (with_reducible refine Tr.next ?_) | (with_reducible refine Tr.ret ?_) | (with_reducible refine Tr.then_ret ?_))
    (refine Tr.done (by first | exact .inl rfl | exact .inr rfl) rfl (by repeat (first | exact RVs.nil | (apply RVs.cons; (first | exact RV.tmp rfl | exact RV.cellW (by rfl) (tysOk.get (by rfl)) (by rfl) (by repeat (first | exact Has.here | apply Has.there)) (by first | rfl | assumption))))) (by first | exact Mem.le.refl _ | assumption) (by exact ⟨[_, _, _, _, _], rfl⟩) ⟨rfl, ?_⟩)
    rw [(hfin _).2 (if_neg hs2)]
    exact ⟨_, _, rfl, RJr.zero _, hD3⟩
end Go.Proofs.Ytkbggengagockaa
/-
  The journal, plain: what was written is read.
  Conditions: none.
-/
namespace Go.Proofs.Ytkbggengagockaa
open Go Bf
/-! a sector that was built -/
section
variable {g n : Nat} {f : UInt8} {p : List UInt8}
theorem gen_bF (hg : g < 4294967296) : gen (bF g n f p) = g := by
  have : (bF g n f p).take 4 = be4 g := rfl
  rw [gen, this, be_be4 hg]
theorem bF_drop8 : (bF g n f p).drop 8 = bodyF n f p ++ be4 g := rfl
theorem body_bF (hl : p.length ≤ 112) : body (bF g n f p) = bodyF n f p := by
  rw [body, bF_drop8, List.take_left' (bodyF_length hl)]
theorem tail_bF (hl : p.length ≤ 112) : (bF g n f p).drop 124 = be4 g := by
  have : (bF g n f p).drop 124 = ((bF g n f p).drop 8).drop 116 := by rw [List.drop_drop]
  rw [this, bF_drop8, List.drop_left' (bodyF_length hl)]
theorem sum_bF : ((bF g n f p).drop 4).take 4 = be4 (crc (bodyF n f p)).toNat := rfl
theorem num_bF (hn : n < 65536) : num (bF g n f p) = n := by
  have h1 : (bF g n f p).getD 8 0 = UInt8.ofNat (n / 256) := rfl
  have h2 : (bF g n f p).getD 9 0 = UInt8.ofNat n := rfl
  rw [num, h1, h2]
  simp only [UInt8.toNat_ofNat']
  omega
theorem kind_bF : kind (bF g n f p) = f := rfl
theorem many_bF (hl : p.length ≤ 112) : many (bF g n f p) = p.length := by
  have h1 : (bF g n f p).getD 11 0 = UInt8.ofNat p.length := rfl
  rw [many, h1]
  simp only [UInt8.toNat_ofNat']
  omega
theorem bF_drop12 : (bF g n f p).drop 12 = p ++ List.replicate (112 - p.length) 0 ++ be4 g := rfl
theorem dat_bF (hl : p.length ≤ 112) : dat (bF g n f p) = p := by
  rw [dat, many_bF hl, bF_drop12, Nat.add_sub_cancel_left, List.append_assoc, List.take_left' rfl]
theorem rest_bF (hl : p.length ≤ 112) : rest (bF g n f p) = List.replicate (112 - p.length) 0 := by
  rw [rest, many_bF hl, ← List.drop_drop, bF_drop12, List.append_assoc, List.drop_left' rfl, List.take_left' (by rw [List.length_replicate]; omega)]
theorem good_bF (hl : p.length ≤ 112) (hg0 : g ≠ 0) (hg : g < 4294967296) (hn : n < 65536) (hf : f.toNat ≤ 3) (h1 : f.toNat < 2 → p.length = 112) (h2 : f.toNat % 2 = 0 → p.length ≠ 0) : goodS (bF g n f p) n := by
  refine ⟨by rw [gen_bF hg]; exact hg0, by rw [gen_bF hg, tail_bF hl, be_be4 hg], num_bF hn, hf, by rw [many_bF hl]; exact hl, ?_, fun x hx => ?_, fun h => ?_, fun h => ?_⟩
  · rw [body_bF hl, sum_bF, be_be4 (crc _).toNat_lt]
  · rw [rest_bF hl] at hx
    exact List.eq_of_mem_replicate hx
  · rw [many_bF hl, kind_bF] at h
    exact h.2 (h1 h.1)
  · rw [many_bF hl, kind_bF] at h
    exact h2 h.1 h.2
end
/-! the sectors of a record -/
theorem flg_toNat (i n : Nat) : (flg i n).toNat = (if i = 0 then 1 else 0) + (if i + 1 = n then 2 else 0) := by
  unfold flg
  split <;> split <;> rfl
def secsFrom (g at_ : Nat) (p : List UInt8) (i n : Nat) : List (List UInt8) := (List.range' i n).map fun j => bF g (at_ + j) (flg j (occ p.length)) (piece p j)
theorem secsFrom_length (g at_ : Nat) (p : List UInt8) (i n : Nat) : (secsFrom g at_ p i n).length = n := by simp [secsFrom]
theorem begs_bF {g n : Nat} {p : List UInt8} {i m : Nat} : begs (bF g n (flg i m) p) = decide (i = 0) := by
  rw [begs, kind_bF, flg_toNat]
  apply decide_eq_decide.2
  split <;> split <;> omega
theorem ends_bF {g n : Nat} {p : List UInt8} {i m : Nat} : ends (bF g n (flg i m) p) = decide (i + 1 = m) := by
  rw [ends, kind_bF, flg_toNat]
  apply decide_eq_decide.2
  split <;> split <;> omega
theorem read_from {g at_ : Nat} {p : List UInt8} (hg0 : g ≠ 0) (hg : g < 4294967296) (hat : at_ + occ p.length ≤ 65536) (X : List (List UInt8)) :
    ∀ (n i : Nat), i + n = occ p.length → 0 < n → readR g (secsFrom g at_ p i n ++ X) (at_ + i) (decide (i = 0)) = some (p.drop (112 * i), at_ + occ p.length)
  | 0, _, _, h => absurd h (by omega)
  | n + 1, i, hin, _ => by
    have hpl := piece_length p i
    have hple := piece_le p i
    have hocc : occ p.length = max 1 ((p.length + 111) / 112) := rfl
    rw [secsFrom, List.range'_succ, List.map_cons, List.cons_append, readR]
    have hgood : goodS (bF g (at_ + i) (flg i (occ p.length)) (piece p i)) (at_ + i) := by
      refine good_bF hple hg0 hg (by omega) (by rw [flg_toNat]; split <;> split <;> omega) (fun h => ?_) (fun h => ?_)
      · rw [flg_toNat] at h
        have : ¬ i + 1 = occ p.length := fun e => by rw [if_pos e] at h; omega
        omega
      · rw [flg_toNat] at h
        have : ¬ i = 0 := fun e => by rw [if_pos e] at h; split at h <;> omega
        omega
    rw [if_pos ⟨hgood, gen_bF hg, begs_bF⟩, ends_bF, dat_bF hple]
    by_cases hend : i + 1 = occ p.length
    · rw [decide_eq_true hend, if_pos rfl]
      congr 2
      · rw [piece, List.take_of_length_le]
        rw [List.length_drop]
        omega
      · omega
    · rw [decide_eq_false hend, if_neg (by decide)]
      have ih := read_from hg0 hg hat X n (i + 1) (by omega) (by omega)
      rw [show decide (i + 1 = 0) = false from rfl] at ih
      rw [show at_ + i + 1 = at_ + (i + 1) by omega]
      rw [show (List.map (fun j => bF g (at_ + j) (flg j (occ p.length)) (piece p j)) (List.range' (i + 1) n)) = secsFrom g at_ p (i + 1) n from rfl, ih, Option.map_some]
      congr 2
      rw [piece, show 112 * (i + 1) = 112 * i + 112 by omega, ← List.drop_drop, List.take_append_drop]
/-- the sectors of a record -/
def secs (g at_ : Nat) (p : List UInt8) : List (List UInt8) := secsFrom g at_ p 0 (occ p.length)
theorem secs_length (g at_ : Nat) (p : List UInt8) : (secs g at_ p).length = occ p.length := secsFrom_length _ _ _ _ _
theorem read_secs {g at_ : Nat} {p : List UInt8} (hg0 : g ≠ 0) (hg : g < 4294967296) (hat : at_ + occ p.length ≤ 65536) (X : List (List UInt8)) : readR g (secs g at_ p ++ X) at_ true = some (p, at_ + occ p.length) := by
  have := read_from hg0 hg hat X (occ p.length) 0 (by omega) (occ_pos _)
  rw [Nat.mul_zero, List.drop_zero, Nat.add_zero] at this
  exact this
/-! the records, without fuel -/
theorem recsF_fuel : ∀ (f : Nat) (l : List (List UInt8)) (a b : Nat), l.length ≤ f → recsF f l a b = recsF l.length l a b := by
  intro f
  induction f using Nat.strongRecOn with
  | _ f ih =>
    intro l a b h
    match f, l, h with
    | 0, [], _ => rfl
    | f + 1, [], _ => rfl
    | f + 1, s :: t, h =>
      rw [List.length_cons, recsF, recsF]
      split
      · rfl
      · split
        · rfl
        · rename_i r k hr
          have hgt := readR_gt hr
          rw [List.length_cons] at h
          have e : ((s :: t).drop (k - a)).length ≤ t.length := by
            rw [List.length_drop, List.length_cons]; omega
          rw [ih f (by omega) _ _ _ (by omega)]
          by_cases ht : t.length < f + 1
          · rw [← ih t.length ht _ _ _ e]
          · omega
def recsL (l : List (List UInt8)) (a b : Nat) : List (List UInt8) := recsF l.length l a b
theorem recs_eq (l : List (List UInt8)) : recs l = recsL l 0 0 := rfl
theorem recsL_nil (a b : Nat) : recsL [] a b = [] := rfl
theorem recsL_cons (s : List UInt8) (t : List (List UInt8)) (a b : Nat) : recsL (s :: t) a b = if gen s < b then [] else
    match readR (gen s) (s :: t) a true with
    | none => []
    | some (r, k) => r :: recsL ((s :: t).drop (k - a)) k (gen s) := by
  rw [recsL, List.length_cons, recsF]
  by_cases h : gen s < b
  · rw [if_pos h, if_pos h]
  · rw [if_neg h, if_neg h]
    cases hr : readR (gen s) (s :: t) a true with
    | none => rfl
    | some q =>
      obtain ⟨r, k⟩ := q
      have hgt := readR_gt hr
      simp only
      rw [recsF_fuel t.length _ _ _ (by rw [List.length_drop, List.length_cons]; rw [List.length_cons] at hgt; omega)]
      rfl
theorem recsL_low {X : List (List UInt8)} {a g : Nat} (h : ∀ s ∈ X, gen s < g) : recsL X a g = [] := by
  cases X with
  | nil => rfl
  | cons s t => rw [recsL_cons, if_pos (h s List.mem_cons_self)]
theorem secs_cons (g at_ : Nat) (p : List UInt8) : ∃ t, secs g at_ p = bF g at_ (flg 0 (occ p.length)) (piece p 0) :: t := by
  obtain ⟨n, hn⟩ : ∃ n, occ p.length = n + 1 := ⟨occ p.length - 1, by have := occ_pos p.length; omega⟩
  exact ⟨secsFrom g at_ p 1 n, by rw [secs, secsFrom, hn, List.range'_succ, List.map_cons, secsFrom, hn]; rfl⟩
theorem recsL_secs {g at_ least : Nat} {p : List UInt8} (hg0 : g ≠ 0) (hg : g < 4294967296) (hat : at_ + occ p.length ≤ 65536) (hle : least ≤ g) (X : List (List UInt8)) :
    recsL (secs g at_ p ++ X) at_ least = p :: recsL X (at_ + occ p.length) g := by
  have hr := read_secs hg0 hg hat X
  have hl := secs_length g at_ p
  obtain ⟨t, ht⟩ := secs_cons g at_ p
  rw [ht] at hr hl ⊢
  rw [List.cons_append] at hr ⊢
  rw [recsL_cons, gen_bF hg, if_neg (by omega), hr]
  simp only
  congr 2
  rw [Nat.add_sub_cancel_left, ← List.cons_append, List.drop_left' hl]
/-- the sectors of records, one after the other -/
def secsAll (g : Nat) : Nat → List (List UInt8) → List (List UInt8)
  | _, [] => []
  | at_, b :: l => secs g at_ b ++ secsAll g (at_ + occ b.length) l
theorem secsAll_length (g : Nat) : ∀ (l : List (List UInt8)) (at_ : Nat), (secsAll g at_ l).length = occs l
  | [], _ => rfl
  | b :: l, at_ => by rw [secsAll, List.length_append, secs_length, secsAll_length g l]; simp [occs]
theorem occs_cons (b : List UInt8) (l : List (List UInt8)) : occs (b :: l) = occ b.length + occs l := by simp [occs]
theorem recsL_all {g : Nat} (hg0 : g ≠ 0) (hg : g < 4294967296) (X : List (List UInt8)) : ∀ (l : List (List UInt8)) (at_ least : Nat), at_ + occs l ≤ 65536 → least ≤ g →
    recsL (secsAll g at_ l ++ X) at_ least = l ++ recsL X (at_ + occs l) (if l = [] then least else g)
  | [], at_, least, _, _ => by simp [secsAll, occs]
  | b :: l, at_, least, h, hle => by
    rw [occs_cons] at h ⊢
    rw [secsAll, List.append_assoc, recsL_secs hg0 hg (by omega) hle, recsL_all hg0 hg X l _ _ (by omega) (Nat.le_refl _), List.cons_append, Nat.add_assoc, if_neg (List.cons_ne_nil _ _)]
    congr 3
    split <;> rfl
end Go.Proofs.Ytkbggengagockaa
/-
  The journal, plain: what a sync leaves is read.
  Conditions: none.
-/
namespace Go.Proofs.Ytkbggengagockaa
open Go Bf
theorem readR_occ {g : Nat} : ∀ {l : List (List UInt8)} {k : Nat} {first : Bool} {b : List UInt8} {m : Nat}, (∀ s ∈ l, s.length = 128) → readR g l k first = some (b, m) →
    (first = true → m = k + occ b.length) ∧ (first = false → 1 ≤ b.length ∧ m = k + (b.length + 111) / 112)
  | [], _, _, _, _, _, h => by cases h
  | s :: t, k, first, b, m, h128, h => by
    have hs := h128 s List.mem_cons_self
    rw [readR] at h
    split at h
    · rename_i hc
      obtain ⟨hg, -, hb⟩ := hc
      have hm := hg.2.2.2.2.1
      have hdl := dat_length hs hm
      have hbeg : first = false → many s ≠ 0 := fun hf h0 => by
        rw [hf] at hb
        unfold begs at hb
        rw [decide_eq_false_iff_not] at hb
        exact hg.2.2.2.2.2.2.2.2 ⟨by omega, h0⟩
      split at h
      · simp only [Option.some.injEq, Prod.mk.injEq] at h
        obtain ⟨rfl, rfl⟩ := h
        rw [hdl]
        refine ⟨fun _ => ?_, fun hf => ?_⟩
        · unfold occ; omega
        · have := hbeg hf; omega
      · rename_i hne
        have h112 : many s = 112 := by
          have h1 := hg.2.2.2.2.2.2.2.1
          unfold ends at hne
          rw [decide_eq_true_eq] at hne
          by_cases e : many s = 112
          · exact e
          · exact absurd ⟨by omega, e⟩ h1
        cases h2 : readR g t (k + 1) false with
        | none => rw [h2] at h; cases h
        | some q =>
          obtain ⟨b2, m2⟩ := q
          rw [h2] at h
          simp only [Option.map_some, Option.some.injEq, Prod.mk.injEq] at h
          obtain ⟨rfl, rfl⟩ := h
          have ih := (readR_occ (fun x hx => h128 x (List.mem_cons_of_mem _ hx)) h2).2 rfl
          rw [List.length_append, hdl, h112]
          refine ⟨fun _ => ?_, fun _ => ?_⟩
          · unfold occ; omega
          · omega
    · cases h
theorem readR_take {g : Nat} : ∀ {l : List (List UInt8)} {k : Nat} {first : Bool} {b : List UInt8} {m : Nat}, readR g l k first = some (b, m) → ∀ X, readR g (l.take (m - k) ++ X) k first = some (b, m)
  | [], _, _, _, _, h, _ => by cases h
  | s :: t, k, first, b, m, h, X => by
    have hgt := readR_gt h
    obtain ⟨j, hj⟩ : ∃ j, m - k = j + 1 := ⟨m - k - 1, by omega⟩
    rw [hj, List.take_succ_cons, List.cons_append, readR]
    rw [readR] at h
    split at h
    · rename_i hc
      rw [if_pos hc]
      split at h
      · rename_i he
        rw [if_pos he]
        exact h
      · rename_i he
        rw [if_neg he]
        cases h2 : readR g t (k + 1) false with
        | none => rw [h2] at h; cases h
        | some q =>
          obtain ⟨b2, m2⟩ := q
          rw [h2] at h
          simp only [Option.map_some, Option.some.injEq, Prod.mk.injEq] at h
          obtain ⟨rfl, rfl⟩ := h
          have ih := readR_take h2 X
          rw [show m2 - (k + 1) = j by omega] at ih
          rw [ih]
          rfl
    · cases h
theorem recsL_prefix (G : Nat) : ∀ (n : Nat) (L : List (List UInt8)), L.length ≤ n → (∀ s ∈ L, s.length = 128) → (∀ s ∈ L, gen s ≤ G) → ∀ (a least : Nat), least ≤ G →
    occs (recsL L a least) ≤ L.length ∧ ∀ X, ∃ g0, g0 ≤ G ∧ recsL (L.take (occs (recsL L a least)) ++ X) a least = recsL L a least ++ recsL X (a + occs (recsL L a least)) g0 := by
  intro n
  induction n with
  | zero =>
    intro L hL _ _ a least hle
    have : L = [] := List.eq_nil_of_length_eq_zero (by omega)
    subst this
    rw [recsL_nil]
    exact ⟨by simp [occs], fun X => ⟨least, hle, by simp [occs]⟩⟩
  | succ n ih =>
    intro L hL h128 hG a least hle
    have hstop : recsL L a least = [] → occs (recsL L a least) ≤ L.length ∧ ∀ X, ∃ g0, g0 ≤ G ∧ recsL (L.take (occs (recsL L a least)) ++ X) a least = recsL L a least ++ recsL X (a + occs (recsL L a least)) g0 := fun e => by
      rw [e]
      exact ⟨by simp [occs], fun X => ⟨least, hle, by simp [occs]⟩⟩
    cases L with
    | nil => exact hstop rfl
    | cons s t =>
      by_cases hlow : gen s < least
      · exact hstop (by rw [recsL_cons, if_pos hlow])
      · cases hr : readR (gen s) (s :: t) a true with
        | none => exact hstop (by rw [recsL_cons, if_neg hlow, hr])
        | some q =>
          obtain ⟨r, k⟩ := q
          have hgt := readR_gt hr
          have hk := (readR_occ h128 hr).1 rfl
          have hoc := occ_pos r.length
          have e0 : recsL (s :: t) a least = r :: recsL ((s :: t).drop (k - a)) k (gen s) := by rw [recsL_cons, if_neg hlow, hr]
          have hkk : k - a = occ r.length := by omega
          rw [hkk] at e0
          have hdl : ((s :: t).drop (occ r.length)).length = (s :: t).length - occ r.length := List.length_drop
          obtain ⟨i1, i2⟩ := ih ((s :: t).drop (occ r.length)) (by omega) (fun x hx => h128 x (List.mem_of_mem_drop hx)) (fun x hx => hG x (List.mem_of_mem_drop hx)) k (gen s) (hG s List.mem_cons_self)
          generalize hR : recsL ((s :: t).drop (occ r.length)) k (gen s) = R' at e0 i1 i2
          rw [e0, occs_cons]
          refine ⟨by omega, fun X => ?_⟩
          obtain ⟨g0, hg0, hX⟩ := i2 X
          refine ⟨g0, hg0, ?_⟩
          have htake : (s :: t).take (occ r.length + occs R') ++ X = (s :: t).take (occ r.length) ++ (((s :: t).drop (occ r.length)).take (occs R') ++ X) := by
            rw [List.take_add, List.append_assoc]
          rw [htake]
          generalize ((s :: t).drop (occ r.length)).take (occs R') ++ X = Y at hX
          have hrt := readR_take hr Y
          rw [hkk] at hrt
          have htl : ((s :: t).take (occ r.length)).length = occ r.length := by rw [List.length_take]; omega
          obtain ⟨j, hj⟩ : ∃ j, occ r.length = j + 1 := ⟨occ r.length - 1, by omega⟩
          rw [hj, List.take_succ_cons] at hrt htl ⊢
          rw [List.cons_append] at hrt ⊢
          rw [recsL_cons, if_neg hlow, hrt]
          simp only
          rw [hkk, hj, ← List.cons_append, List.drop_left' htl, hX, List.cons_append, show a + (j + 1 + occs R') = k + occs R' by omega]
/-! the writes, performed -/
theorem perf_append (s : List (List UInt8)) (p q : List (Int × List UInt8)) : perf s (p ++ q) = perf (perf s p) q := by simp [perf, List.foldl_append]
theorem take_set_succ {α : Type} (D : List α) (k : Nat) (x : α) (h : k < D.length) : (D.set k x).take (k + 1) = D.take k ++ [x] := by
  rw [List.take_add_one, List.getElem?_set_self h, List.take_set_of_le (Nat.le_refl _)]; rfl
theorem drop_set_lt {α : Type} (D : List α) (k m : Nat) (x : α) (h : k < m) : (D.set k x).drop m = D.drop m := by
  rw [List.drop_set_of_lt h]
theorem perf_from (g at_ : Nat) (p : List UInt8) : ∀ (n i : Nat) (D : List (List UInt8)), at_ + i + n ≤ D.length →
    perf D ((List.range' i n).map (wr1 g at_ p)) = D.take (at_ + i) ++ secsFrom g at_ p i n ++ D.drop (at_ + i + n)
  | 0, i, D, _ => by simp [perf, secsFrom]
  | n + 1, i, D, h => by
    have ih := perf_from g at_ p n (i + 1) (D.set (at_ + i) (bF g (at_ + i) (flg i (occ p.length)) (piece p i))) (by rw [List.length_set]; omega)
    rw [List.range'_succ, List.map_cons]
    have e : perf D (wr1 g at_ p i :: (List.range' (i + 1) n).map (wr1 g at_ p)) = perf (D.set (at_ + i) (bF g (at_ + i) (flg i (occ p.length)) (piece p i))) ((List.range' (i + 1) n).map (wr1 g at_ p)) := by
      simp only [perf, List.foldl_cons, wr1]
      rw [Int.toNat_natCast]
    rw [e, ih, show at_ + (i + 1) = at_ + i + 1 by omega, take_set_succ _ _ _ (by omega), drop_set_lt _ _ _ _ (by omega), secsFrom, secsFrom, List.range'_succ, List.map_cons, show at_ + i + 1 + n = at_ + i + (n + 1) by omega]
    simp only [List.append_assoc, List.cons_append, List.nil_append]
theorem perf_wrs (g at_ : Nat) (p : List UInt8) (D : List (List UInt8)) (h : at_ + occ p.length ≤ D.length) : perf D (wrs g at_ p) = D.take at_ ++ secs g at_ p ++ D.drop (at_ + occ p.length) := by
  have := perf_from g at_ p (occ p.length) 0 D (by omega)
  rw [Nat.add_zero] at this
  rw [wrs, List.range_eq_range', secs]
  exact this
theorem perf_wrsAll (g : Nat) : ∀ (l : List (List UInt8)) (at_ : Nat) (D : List (List UInt8)), at_ + occs l ≤ D.length → perf D (wrsAll g at_ l) = D.take at_ ++ secsAll g at_ l ++ D.drop (at_ + occs l)
  | [], at_, D, _ => by simp [wrsAll, secsAll, occs, perf]
  | b :: l, at_, D, h => by
    rw [occs_cons] at h ⊢
    have hl : (D.take at_ ++ secs g at_ b).length = at_ + occ b.length := by rw [List.length_append, secs_length, List.length_take]; omega
    rw [wrsAll, perf_append, perf_wrs _ _ _ _ (by omega), perf_wrsAll g l _ _ (by rw [List.length_append, hl, List.length_drop]; omega), List.take_left' hl, secsAll]
    rw [show at_ + occ b.length + occs l = (at_ + occ b.length) + occs l from rfl, ← List.drop_drop, List.drop_left' hl, List.drop_drop]
    simp only [List.append_assoc, Nat.add_assoc]
/-! generations -/
theorem gmax_ge : ∀ (l : List (List UInt8)) (n : Nat), n ≤ l.foldl (fun g s => max (max g (gen s)) (be (s.drop 124))) n ∧ ∀ s ∈ l, gen s ≤ l.foldl (fun g s => max (max g (gen s)) (be (s.drop 124))) n
  | [], n => ⟨Nat.le_refl _, fun s h => by cases h⟩
  | x :: l, n => by
    rw [List.foldl_cons]
    have := gmax_ge l (max (max n (gen x)) (be (x.drop 124)))
    refine ⟨by omega, fun s hs => ?_⟩
    rcases List.mem_cons.1 hs with rfl | h
    · omega
    · exact this.2 s h
theorem gen_le_gmax {l : List (List UInt8)} {s : List UInt8} (h : s ∈ l) : gen s ≤ gmax l := (gmax_ge l 0).2 s h
theorem recs_occs {D : List (List UInt8)} (h128 : ∀ s ∈ D, s.length = 128) : occs (recs D) ≤ D.length :=
  (recsL_prefix (gmax D) D.length D (Nat.le_refl _) h128 (fun _ h => gen_le_gmax h) 0 0 (Nat.zero_le _)).1
/-- what is read behind the records of before -/
theorem recs_behind {D : List (List UInt8)} (h128 : ∀ s ∈ D, s.length = 128) (X : List (List UInt8)) : ∃ g0, g0 ≤ gmax D ∧ recs (D.take (occs (recs D)) ++ X) = recs D ++ recsL X (occs (recs D)) g0 := by
  obtain ⟨g0, h1, h2⟩ := (recsL_prefix (gmax D) D.length D (Nat.le_refl _) h128 (fun _ h => gen_le_gmax h) 0 0 (Nat.zero_le _)).2 X
  rw [Nat.zero_add] at h2
  exact ⟨g0, h1, h2⟩
theorem sync_reads {D T : List (List UInt8)} (h128 : ∀ s ∈ D, s.length = 128) (hT : occs (recs D) + occs T ≤ 65536) (hg : gmax D + 1 < 4294967296) :
    recs (D.take (occs (recs D)) ++ secsAll (gmax D + 1) (occs (recs D)) T ++ D.drop (occs (recs D) + occs T)) = recs D ++ T := by
  obtain ⟨g0, h1, h2⟩ := recs_behind h128 (secsAll (gmax D + 1) (occs (recs D)) T ++ D.drop (occs (recs D) + occs T))
  rw [List.append_assoc, h2]
  by_cases e : T = []
  · subst e
    obtain ⟨g1, h3, h4⟩ := recs_behind h128 (D.drop (occs (recs D)))
    have e2 : secsAll (gmax D + 1) (occs (recs D)) [] ++ D.drop (occs (recs D) + occs []) = D.drop (occs (recs D)) := by simp [secsAll, occs]
    rw [e2] at h2 ⊢
    rw [← h2, List.take_append_drop, List.append_nil]
  · rw [recsL_all (by omega) hg _ T _ _ hT (by omega), if_neg e, recsL_low, List.append_nil]
    intro s hs
    have := gen_le_gmax (List.mem_of_mem_drop hs)
    omega
end Go.Proofs.Ytkbggengagockaa
/-
  The disk: the contract of New.
  Conditions: none.
-/
namespace Go.Proofs.Ytkbggengagockaa
open Go Bf
attribute [local irreducible] Tr Exec Stab HasTy Go.Addr.add IntKind.wrap
def zsec : List UInt8 := List.replicate 128 0
def newF (n : Int) : Dsk × Int := if 1 ≤ n ∧ n ≤ 4096 then (⟨List.replicate n.toNat zsec, [], -1, false⟩, 0) else (zD, 1)

/-- the cells of a half made table of sectors -/
def Half (M : Mem) (n i : Nat) (cs : List Value) : Prop := cs.length = n ∧ (∀ u ∈ cs, u.oneCell' = true) ∧ ∀ j, j < i → ∃ A k, cs[j]? = some (.slice A 128 k) ∧ BSl M (.slice A 128 k) zsec
theorem Half.set {M M' : Mem} {n i : Nat} {cs : List Value} {A : Option Addr} {k : Nat} (h : Half M n i cs) (hi : i < n) (hm : Mem.le M M') (hb : BSl M' (.slice A 128 k) zsec) : Half M' n (i + 1) (cs.set i (.slice A 128 k)) := by
  obtain ⟨h1, h2, h3⟩ := h
  refine ⟨by simpa using h1, fun u hu => ?_, fun j hj => ?_⟩
  · rcases List.mem_or_eq_of_mem_set hu with h | rfl
    · exact h2 u h
    · rfl
  · by_cases e : j = i
    · subst e
      exact ⟨A, k, by rw [List.getElem?_set_self (by omega)], hb⟩
    · obtain ⟨A, k, h4, h5⟩ := h3 j (by omega)
      exact ⟨A, k, by rw [List.getElem?_set_ne (by omega)]; exact h4, h5.mono hm⟩
theorem Half.done {M : Mem} {n : Nat} {cs : List Value} {b t : Nat} (h : Half M n n cs) (hb : (box b t cs).ok M) (hn : n ≤ 9223372036854775807) : SlOf 1 RSec M (.slice (some ⟨b, 0, none⟩) n n) (List.replicate n zsec) := by
  obtain ⟨h1, h2, h3⟩ := h
  have hr := Row.of_box (n := n) (sz := 1) hb (by omega) (fun u hu => h2 u (List.mem_of_mem_take hu))
  have e : cs.take (n * 1) = cs := by rw [List.take_of_length_le]; omega
  rw [e] at hr
  have hs : SlOf 1 RSec M (.slice (some ⟨b, 0, none⟩) (List.replicate n zsec).length n) (List.replicate n zsec) := by
    refine ⟨_, _, cs, rfl, by simp, hn, fun h => (by cases h), by simpa using hr, fun i x hx => ?_⟩
    obtain ⟨hi, e⟩ := List.getElem?_eq_some_iff.1 hx
    simp at hi e
    subst e
    obtain ⟨A, k, h4, h5⟩ := h3 i hi
    refine ⟨A, k, ?_, h5⟩
    rw [List.getElem?_eq_some_iff] at h4
    obtain ⟨h6, h7⟩ := h4
    rw [Nat.mul_one, List.take_one, List.head?_drop, List.getElem?_eq_getElem h6, h7]; rfl
  simpa using hs

set_option maxHeartbeats 1000000 in
theorem new_fn (M : Mem) (n : Int) :
    Fn0 Try.prog 25 [.int .i64 n] M (fun r M' => RPair M' r (newF n)) := by
  refine Fn.intro Try.func25 rfl rfl Try.ntmps25 rfl fun E F => ?_
  by_cases hn : 1 ≤ n ∧ n ≤ 4096
  · obtain ⟨hn1, hn2⟩ := hn
    obtain ⟨m, rfl⟩ : ∃ m : Nat, n = (m : Int) := ⟨n.toNat, by omega⟩
    repeat (first | ((with_reducible refine Tr.step rfl ?_); (first | ((with_reducible refine Knd.move ?_); (refine Exec.stab rfl (Stab.move rfl) rfl ?_)) | ((with_reducible refine Knd.assign ?_); (refine Exec.stab rfl (Stab.assign rfl) rfl ?_)) | ((with_reducible refine Knd.load ?_); ((refine Exec.stab rfl (Stab.load rfl (tysOk.get rfl) rfl (by repeat (first | exact Has.here | apply Has.there)) rfl) rfl ?_))) | ((with_reducible refine Knd.fieldAddr ?_); ((refine Exec.stab rfl (Stab.fieldZ rfl (tysOk.get rfl) rfl rfl (tysOk.get rfl) rfl) rfl ?_))) | ((with_reducible refine Knd.len ?_); ((refine Exec.stab rfl (Stab.len rfl (tysOk.get rfl) rfl) rfl ?_))) | ((with_reducible refine Knd.binOp ?_); ((refine Exec.stab rfl (Stab.int rfl rfl rfl) rfl ?_))) | ((with_reducible refine Knd.pick ?_); ((refine Exec.stab rfl (Stab.pick_fd rfl (by omega) rfl) rfl ?_))) | ((with_reducible refine Knd.store ?_); ((refine Exec.store rfl rfl (tysOk.get rfl) rfl (by first | rfl | assumption) (by repeat (first | exact Upd.here | apply Upd.there)) (by repeat (first | exact SetL.z | apply SetL.s)) ?_))) | ((with_reducible refine Knd.alloc ?_); ((refine Exec.alloc (tysOk.get rfl) rfl rfl (fun b => ?_)))) | ((with_reducible refine Knd.makeSlice ?_); (refine Exec.make rfl rfl (tysOk.get rfl) rfl (tysOk.get rfl) rfl rfl rfl (by omega) (by omega) (by first | omega | (simp; done) | (simp; omega)) (by omega) rfl (fun b => ?_))))) | (with_reducible refine Tr.next ?_) | (with_reducible refine Tr.seq ?_) | (with_reducible refine Tr.region ?_) | (with_reducible refine Tr.nil ?_) | ((refine Tr.guard_y' rfl rfl rfl (by omega) ?_); (first | ((with_reducible refine Knd.move ?_); (refine Exec.stab rfl (Stab.move rfl) rfl ?_)) | ((with_reducible refine Knd.binOp ?_); ((refine Exec.stab rfl (Stab.int rfl rfl rfl) rfl ?_))))) | (with_reducible refine Tr.skip ?_) | (with_reducible refine Tr.block ?_) | (refine Tr.cond_f rfl (by omega) ?_))
    refine Tr.loop (α := Nat × Mem × List Value) (fun x => ⟨29, [(18, .int .i64 x.1), (17, .int .i64 m), (16, .slice (some ⟨_, 0, none⟩) m m), (2, .pointer (some ⟨_, 0, none⟩)), (3, .int .i64 0)], [], x.2.1, box _ 35 x.2.2 :: box _ 25 [.slice (some ⟨_, 0, none⟩) m m, .slice none 0 0, .int .i64 0, .bool false] :: _⟩) (fun x => x.1 ≤ m ∧ Mem.le M x.2.1 ∧ Half x.2.1 m x.1 x.2.2) (fun x => m - x.1) (0, M, List.replicate m (.slice none 0 0)) ⟨Nat.zero_le _, Mem.le.refl _, by simp, fun u hu => by rw [List.eq_of_mem_replicate hu]; rfl, fun j hj => absurd hj (Nat.not_lt_zero _)⟩ (holds_sub (by repeat (first | exact SubFr.nil | refine SubFr.cons rfl ?_)) (by repeat (first | exact DropL.refl | apply DropL.skip))) (fun x hi => ?_)
    obtain ⟨i, M1, cs⟩ := x
    obtain ⟨hi, hm1, hh⟩ := hi
    simp only at hi hm1 hh
    dsimp only
    have hl := hh.1
    by_cases hlt : i < m
    · repeat (first | ((with_reducible refine Tr.step rfl ?_); (first | ((with_reducible refine Knd.move ?_); (refine Exec.stab rfl (Stab.move rfl) rfl ?_)) | ((with_reducible refine Knd.assign ?_); (refine Exec.stab rfl (Stab.assign rfl) rfl ?_)) | ((with_reducible refine Knd.binOp ?_); ((refine Exec.stab rfl (Stab.int rfl rfl rfl) rfl ?_))))) | (with_reducible refine Tr.next ?_) | (with_reducible refine Tr.seq ?_) | (with_reducible refine Tr.region ?_) | (with_reducible refine Tr.nil ?_) | (with_reducible refine Tr.skip ?_) | (with_reducible refine Tr.block ?_) | (refine Tr.cond_t rfl (by first | (with_reducible assumption) | omega) ?_))
      (((apply Tr.draw); (kernel_rfl)); ((refine TrA.take 0 (by kernel_rfl) rfl (by kernel_rfl) (by exact fun _ _ _ h => h) (by exact fun _ h => h) rfl (by exact Stab.fieldZ rfl (tysOk.get rfl) rfl rfl (tysOk.get rfl) rfl) rfl rfl ?_)); ((refine TrA.take 1 (by kernel_rfl) rfl (by kernel_rfl) (by exact fun _ _ _ h => h) (by exact fun _ h => h) rfl (by exact Stab.load rfl (tysOk.get rfl) rfl (by repeat (first | exact Has.here | apply Has.there)) rfl) rfl rfl ?_)); ((refine TrA.take 2 (by kernel_rfl) rfl (by kernel_rfl) (by exact fun _ _ _ h => h) (by exact fun _ h => h) rfl (by exact Stab.move rfl) rfl rfl ?_)); (refine TrA.eff 3 rfl (by kernel_rfl) (by exact .inl rfl) ?_); (((refine Knd.makeSlice ?_); (refine Exec.make rfl rfl (tysOk.get rfl) rfl (tysOk.get rfl) rfl rfl rfl (by omega) (by omega) (by first | omega | (simp; done) | (simp; omega)) (by omega) rfl (fun b => ?_)))); (refine ⟨(by first | exact Mem.le.refl _ | assumption), (by exact (Sub.mem (by repeat (first | exact Sub.refl | apply Sub.cons)))), ?_⟩); ((refine TrA.take 4 (by kernel_rfl) rfl (by kernel_rfl) (by exact fun _ _ _ h => h) (by exact (Sub.mem (by repeat (first | exact Sub.refl | apply Sub.cons)))) rfl (by exact Stab.indexB0 rfl rfl (tysOk.get rfl) rfl (tysOk.get rfl) rfl (by omega) (by omega)) rfl rfl ?_)); (refine TrA.effD 5 rfl (by kernel_rfl) (by kernel_rfl) (by exact .inl rfl) ?_); (((refine Knd.store ?_); ((refine Exec.storeS rfl rfl (tysOk.get rfl) rfl (by first | rfl | assumption) (by repeat (first | exact Upd.here | apply Upd.there)) (by omega) ?_)))); (refine ⟨_, fun _ h => h, ?_⟩); (refine TrA.done (by kernel_rfl) ?_))
      repeat (first | ((with_reducible refine Tr.step rfl ?_); (first | ((with_reducible refine Knd.move ?_); (refine Exec.stab rfl (Stab.move rfl) rfl ?_)) | ((with_reducible refine Knd.binOp ?_); ((refine Exec.stab rfl (Stab.addi rfl rfl (by omega)) rfl ?_))))) | (with_reducible refine Tr.next ?_) | (with_reducible refine Tr.region ?_) | (with_reducible refine Tr.nil ?_) | (with_reducible refine Tr.in_normal ?_))
      refine Tr.publish Del.here (fun M2 hm2 hok => ?_)
      have hb : BSl M2 (.slice (some ⟨_, 0, none⟩) 128 128) zsec := BSl.of_box (bs := zsec) (by rw [byteV_replicate] at hok; exact hok) (by simp [zsec])
      refine Tr.again (i + 1, M2, _) ⟨by simp only; omega, hm1.trans hm2, hh.set hlt hm2 hb⟩ (by simp only; omega) (holds_sub (by repeat (first | exact SubFr.nil | refine SubFr.cons rfl ?_)) (by repeat (first | exact DropL.refl | apply DropL.skip)))
    · have e : i = m := by omega
      subst e
      repeat (first | ((with_reducible refine Tr.step rfl ?_); (first | ((with_reducible refine Knd.assign ?_); (refine Exec.stab rfl (Stab.assign rfl) rfl ?_)) | ((with_reducible refine Knd.load ?_); ((refine Exec.stab rfl (Stab.loadW rfl (tysOk.get rfl) rfl (by repeat (first | exact Has.here | apply Has.there)) rfl) rfl ?_))) | ((with_reducible refine Knd.fieldAddr ?_); ((refine Exec.stab rfl (Stab.fieldZ rfl (tysOk.get rfl) rfl rfl (tysOk.get rfl) rfl) rfl ?_))) | ((with_reducible refine Knd.binOp ?_); ((refine Exec.stab rfl (Stab.int rfl rfl rfl) rfl ?_))) | ((with_reducible refine Knd.store ?_); (first | (refine Exec.store rfl rfl (tysOk.get rfl) rfl (by first | rfl | assumption) (by repeat (first | exact Upd.here | apply Upd.there)) (by repeat (first | exact SetL.z | apply SetL.s)) ?_) | (refine Exec.storeW rfl rfl (tysOk.get rfl) (by repeat (first | exact Upd.here | apply Upd.there)) rfl rfl (by repeat (first | exact AllOne.nil | refine AllOne.cons (by first | rfl | assumption) ?_)) ?_))))) | (with_reducible refine Tr.next ?_) | (with_reducible refine Tr.seq ?_) | (with_reducible refine Tr.region ?_) | (with_reducible refine Tr.nil ?_) | (with_reducible refine Tr.exit ?_) | (with_reducible refine Tr.ret ?_) | (with_reducible refine Tr.then_exit ?_) | ((with_reducible refine Tr.in_exit ?_ ?_); (exact rfl)) | (refine Tr.cond_f rfl (by first | (with_reducible assumption) | omega) ?_))
      refine Tr.publish Del.here (fun M2 hm2 hok => ?_)
      have hm := hm1.trans hm2
      (refine Tr.done (by first | exact .inl rfl | exact .inr rfl) rfl (by repeat (first | exact RVs.nil | (apply RVs.cons; (first | exact RV.tmp rfl | exact RV.cellW (by rfl) (tysOk.get (by rfl)) (by rfl) (by repeat (first | exact Has.here | apply Has.there)) (by first | rfl | assumption))))) (by first | exact Mem.le.refl _ | assumption) (by exact ⟨[_], rfl⟩) ⟨rfl, ?_⟩)
      unfold newF
      rw [if_pos (by omega)]
      refine ⟨_, rfl, ?_⟩
      have hs := Half.done ⟨hh.1, hh.2.1, fun j hj => let ⟨A, k, h1, h2⟩ := hh.2.2 j hj; ⟨A, k, h1, h2.mono hm2⟩⟩ hok (by omega)
      have e : (i : Int).toNat = i := by omega
      have : ∀ A, SlOf 1 RSec M2 (.slice A (List.replicate (i : Int).toNat zsec).length i) (List.replicate (i : Int).toNat zsec) → RDisk M2 (.agg #[.slice A i i, .slice none 0 0, .int .i64 (-1), .bool false]) ⟨List.replicate (i : Int).toNat zsec, [], -1, false⟩ := fun A h => ⟨A, i, none, 0, by simp only [e, List.length_replicate]; rfl, h, SlOf.nil _ _ _⟩
      refine this _ ?_
      simp only [e, List.length_replicate]; exact hs
  · repeat' (first | ((with_reducible refine Tr.step rfl ?_); (first | ((with_reducible refine Knd.move ?_); (refine Exec.stab rfl (Stab.move rfl) rfl ?_)) | ((with_reducible refine Knd.assign ?_); (refine Exec.stab rfl (Stab.assign rfl) rfl ?_)) | ((with_reducible refine Knd.binOp ?_); ((refine Exec.stab rfl (Stab.int rfl rfl rfl) rfl ?_))) | ((with_reducible refine Knd.pick ?_); (first | (refine Exec.stab rfl (Stab.pick_td rfl (by (with_reducible assumption)) rfl) rfl ?_) | (refine Exec.stab rfl (Stab.pick_fd rfl (by (with_reducible assumption)) rfl) rfl ?_))) | ((with_reducible refine Knd.store ?_); ((refine Exec.storeW rfl rfl (tysOk.get rfl) (by repeat (first | exact Upd.here | apply Upd.there)) rfl rfl (by repeat (first | exact AllOne.nil | refine AllOne.cons (by first | rfl | assumption) ?_)) ?_))) | ((with_reducible refine Knd.alloc ?_); ((refine Exec.alloc (tysOk.get rfl) rfl rfl (fun b => ?_)))) | ((with_reducible refine Knd.build ?_); ((refine Exec.stab rfl (Stab.build tysOk rfl rfl rfl rfl (by repeat (exact BuildP.nil))) rfl ?_))))) | (with_reducible refine Tr.next ?_) | (with_reducible refine Tr.seq ?_) | (with_reducible refine Tr.region ?_) | (with_reducible refine Tr.nil ?_) | ((refine Tr.guard_y' rfl rfl rfl (by (with_reducible assumption)) ?_); (((with_reducible refine Knd.binOp ?_); ((refine Exec.stab rfl (Stab.int rfl rfl rfl) rfl ?_))))) | (refine Tr.guard_n' rfl rfl rfl (by (with_reducible assumption)) rfl rfl ?_) | (with_reducible refine Tr.ret ?_) | (with_reducible refine Tr.then_ret ?_) | (refine Tr.cond_bt rfl (by (with_reducible rfl)) ?_) | (refine Tr.cond_t rfl (by first | (with_reducible assumption) | omega) ?_) | (((with_reducible refine Knd.move ?_); (refine Exec.stab rfl (Stab.move rfl) rfl ?_))) | ((refine Tr.guardd' rfl rfl rfl rfl rfl (fun hg => ?_) (fun hg => ?_))))
    all_goals
      first
        | (exfalso; omega)
        | ((refine Tr.done (by first | exact .inl rfl | exact .inr rfl) rfl (by repeat (first | exact RVs.nil | (apply RVs.cons; (first | exact RV.tmp rfl | exact RV.cellW (by rfl) (tysOk.get (by rfl)) (by rfl) (by repeat (first | exact Has.here | apply Has.there)) (by first | rfl | assumption))))) (by first | exact Mem.le.refl _ | assumption) (by exact ⟨[_], rfl⟩) ⟨rfl, ?_⟩)
           exact ⟨_, by unfold newF; rw [if_neg hn]; rfl, by unfold newF; rw [if_neg hn]; exact RDisk.zero M⟩)
end Go.Proofs.Ytkbggengagockaa
/-
  The journal, plain: Sync on a disk that does not stop.
  Conditions: none.
-/
namespace Go.Proofs.Ytkbggengagockaa
open Go Bf
/-- the sectors after more records -/
def after (D T : List (List UInt8)) : List (List UInt8) := D.take (occs (recs D)) ++ secsAll (gmax D + 1) (occs (recs D)) T ++ D.drop (occs (recs D) + occs T)
theorem after_nil (D : List (List UInt8)) : after D [] = D := by simp [after, secsAll, occs]
theorem after_length {D T : List (List UInt8)} (h : occs (recs D) + occs T ≤ D.length) : (after D T).length = D.length := by
  simp only [after, List.length_append, List.length_take, List.length_drop, secsAll_length]; omega
theorem secsAll_mem {g : Nat} (hg : g < 4294967296) : ∀ {l : List (List UInt8)} {at_ : Nat} {s : List UInt8}, s ∈ secsAll g at_ l → s.length = 128 ∧ gen s = g ∧ be (s.drop 124) = g
  | [], _, _, h => by cases h
  | b :: l, at_, s, h => by
    rw [secsAll] at h
    rcases List.mem_append.1 h with h | h
    · simp only [secs, secsFrom, List.mem_map] at h
      obtain ⟨j, _, rfl⟩ := h
      have hl := piece_le b j
      exact ⟨bF_length hl, gen_bF hg, by rw [tail_bF hl, be_be4 hg]⟩
    · exact secsAll_mem hg h
theorem after_mem {D T : List (List UInt8)} (hg : gmax D + 1 < 4294967296) {s : List UInt8} (h : s ∈ after D T) : s ∈ D ∨ (s.length = 128 ∧ gen s = gmax D + 1 ∧ be (s.drop 124) = gmax D + 1) := by
  rw [after] at h
  rcases List.mem_append.1 h with h | h
  · rcases List.mem_append.1 h with h | h
    · exact .inl (List.mem_of_mem_take h)
    · exact .inr (secsAll_mem hg h)
  · exact .inl (List.mem_of_mem_drop h)
theorem after_128 {D T : List (List UInt8)} (hg : gmax D + 1 < 4294967296) (h128 : ∀ s ∈ D, s.length = 128) : ∀ s ∈ after D T, s.length = 128 := fun s hs => by
  rcases after_mem hg hs with h | h
  · exact h128 s h
  · exact h.1
theorem gmax_ge2 : ∀ (l : List (List UInt8)) (n : Nat), ∀ s ∈ l, be (s.drop 124) ≤ l.foldl (fun g s => max (max g (gen s)) (be (s.drop 124))) n
  | [], _, s, h => by cases h
  | x :: l, n, s, hs => by
    rw [List.foldl_cons]
    rcases List.mem_cons.1 hs with rfl | h
    · have := (gmax_ge l (max (max n (gen s)) (be (s.drop 124)))).1; omega
    · exact gmax_ge2 l _ s h
theorem tail_le_gmax {l : List (List UInt8)} {s : List UInt8} (h : s ∈ l) : be (s.drop 124) ≤ gmax l := gmax_ge2 l 0 s h
theorem gmax_le {G : Nat} (l : List (List UInt8)) (h : ∀ s ∈ l, gen s ≤ G ∧ be (s.drop 124) ≤ G) : gmax l ≤ G := by
  have key : ∀ (l : List (List UInt8)) (n : Nat), n ≤ G → (∀ s ∈ l, gen s ≤ G ∧ be (s.drop 124) ≤ G) → l.foldl (fun g s => max (max g (gen s)) (be (s.drop 124))) n ≤ G := by
    intro l
    induction l with
    | nil => intro n hn _; exact hn
    | cons s l ih =>
      intro n hn h
      rw [List.foldl_cons]
      have hs := h s List.mem_cons_self
      exact ih _ (by omega) fun x hx => h x (List.mem_cons_of_mem _ hx)
  exact key l 0 (Nat.zero_le _) h
theorem gmax_after {D T : List (List UInt8)} (hg : gmax D + 1 < 4294967296) : gmax (after D T) ≤ gmax D + 1 := gmax_le _ fun s hs => by
  rcases after_mem hg hs with h | h
  · have h1 := gen_le_gmax h; have h2 := tail_le_gmax h; omega
  · omega
theorem recs_after {D T : List (List UInt8)} (h128 : ∀ s ∈ D, s.length = 128) (hT : occs (recs D) + occs T ≤ D.length) (hl : D.length ≤ 4096) (hg : gmax D + 1 < 4294967296) : recs (after D T) = recs D ++ T :=
  sync_reads h128 (by omega) hg
theorem idle_ok {d : Dsk} {n : Int} (h : okD d) (hs : d.stop = false) (hp : d.pen = []) (hn : ¬ (0 ≤ n ∧ n ≠ d.sec.length)) : idleF d n = 0 := by
  rw [idleF, if_pos h, if_neg (by rw [hs]; decide), if_neg (by rw [hp]; simp only [List.length_nil]; omega)]
/-- a disk that is synced -/
def dk (D : List (List UInt8)) : Dsk := ⟨D, [], -1, false⟩
theorem dk_ok {D : List (List UInt8)} (h1 : 1 ≤ D.length) (h2 : D.length ≤ 4096) (h128 : ∀ s ∈ D, s.length = 128) : okD (dk D) :=
  ⟨h1, h2, by simp [dk], h128, fun w hw => (by cases hw), by simp [dk], by simp [dk]⟩
theorem syncJ_run {j : Jr} {D : List (List UInt8)} (hk : okJ j) (h128 : ∀ s ∈ D, s.length = 128) (hm : j.many = (D.length : Int)) (hr : recs D = j.rcs.take j.syn.toNat) (hg : gmax D + 1 ≤ 4294967295) :
    syncJ j (dk D) = (⟨j.many, (j.rcs.length : Int), j.rcs⟩, dk (after D (j.rcs.drop j.syn.toNat)), 0) := by
  obtain ⟨k1, k2, k3, k4, k5⟩ := id hk
  have hok := dk_ok (D := D) (by omega) (by omega) h128
  have hsum := occs_split j.rcs j.syn.toNat
  rw [syncJ, if_pos hk, if_pos (idle_ok hok rfl rfl (fun h => h.2 hm)), if_pos (show recs (dk D).sec = _ from hr), if_pos (show gmax (dk D).sec + 1 ≤ 4294967295 from hg)]
  by_cases e : j.syn = (j.rcs.length : Int)
  · rw [if_pos e]
    have : j.rcs.drop j.syn.toNat = [] := List.drop_eq_nil_of_le (by omega)
    rw [this, after_nil]
    cases j
    simp only at e ⊢
    rw [e]
  · rw [if_neg e]
    have hru : runs (dAfter (dk D) (wrsAll (gmax (dk D).sec + 1) (occs (j.rcs.take j.syn.toNat)) (j.rcs.drop j.syn.toNat))) := wrsAll_runs ⟨hok, rfl⟩ (by show _ ≤ D.length; omega) rfl
    have hs : syncF (dAfter (dk D) (wrsAll (gmax (dk D).sec + 1) (occs (j.rcs.take j.syn.toNat)) (j.rcs.drop j.syn.toNat))) = (dk (after D (j.rcs.drop j.syn.toNat)), 0) := by
      rw [syncF, if_pos hru, if_neg (fun h => absurd h.1 (by simp [dAfter, dk]))]
      have e1 : perf (dAfter (dk D) (wrsAll (gmax (dk D).sec + 1) (occs (j.rcs.take j.syn.toNat)) (j.rcs.drop j.syn.toNat))).sec (dAfter (dk D) (wrsAll (gmax (dk D).sec + 1) (occs (j.rcs.take j.syn.toNat)) (j.rcs.drop j.syn.toNat))).pen = after D (j.rcs.drop j.syn.toNat) := by
        show perf D ([] ++ wrsAll (gmax D + 1) (occs (j.rcs.take j.syn.toNat)) (j.rcs.drop j.syn.toNat)) = _
        rw [List.nil_append, perf_wrsAll _ _ _ _ (by omega), after, hr]
      rw [e1]
      rfl
    simp only [hs, if_true]
theorem openF_dk {D : List (List UInt8)} (h1 : 1 ≤ D.length) (h2 : D.length ≤ 4096) (h128 : ∀ s ∈ D, s.length = 128) : openF (dk D) = (⟨(D.length : Int), ((recs D).length : Int), recs D⟩, 0) := by
  rw [openF, if_pos (idle_ok (dk_ok h1 h2 h128) rfl rfl (by omega))]
  rfl
/-! a new disk -/
theorem gen_zsec : gen zsec = 0 := by decide +kernel
theorem tail_zsec : be (zsec.drop 124) = 0 := by decide +kernel
theorem zsec_len : zsec.length = 128 := by simp [zsec]
theorem recs_new (n : Nat) : recs (List.replicate n zsec) = [] := by
  cases n with
  | zero => rfl
  | succ n =>
    rw [recs_eq, List.replicate_succ, recsL_cons, if_neg (by omega), gen_zsec, readR, if_neg (fun h => h.1.1 gen_zsec)]
theorem gmax_new (n : Nat) : gmax (List.replicate n zsec) = 0 := Nat.le_zero.1 (gmax_le _ fun s hs => by
  rw [List.eq_of_mem_replicate hs, gen_zsec, tail_zsec]
  exact ⟨Nat.le_refl _, Nat.le_refl _⟩)
theorem new_128 (n : Nat) : ∀ s ∈ List.replicate n zsec, s.length = 128 := fun s hs => by rw [List.eq_of_mem_replicate hs, zsec_len]
theorem newF_dk {n : Nat} (h1 : 1 ≤ n) (h2 : n ≤ 4096) : newF (n : Int) = (dk (List.replicate n zsec), 0) := by
  rw [newF, if_pos (by omega), Int.toNat_natCast]
  rfl
end Go.Proofs.Ytkbggengagockaa
/-
  The journal: the chapter's examples hold.
  Conditions: none.
-/
namespace Go.Proofs.Ytkbggengagockaa
open Go Bf
attribute [local irreducible] Tr Exec Stab HasTy Go.Addr.add IntKind.wrap
theorem RJPair.openJ {M : Mem} {r : Value} {j : Jr} {e : Int} (h : RJPair M r (j, e)) : ∃ A c, r = .tuple #[.agg #[.int .i64 j.many, .int .i64 j.syn, .slice A j.rcs.length c], .int .i64 e] ∧ RJr M (.agg #[.int .i64 j.many, .int .i64 j.syn, .slice A j.rcs.length c]) j := by
  obtain ⟨v, rfl, A, c, rfl, h1⟩ := h
  exact ⟨A, c, rfl, A, c, rfl, h1⟩
theorem R3.openJ {M : Mem} {r : Value} {j : Jr} {d : Dsk} {e : Int} (h : R3 M r (j, d, e)) : ∃ A c A2 c2 B2 k2, r = .tuple #[.agg #[.int .i64 j.many, .int .i64 j.syn, .slice A j.rcs.length c], .agg #[.slice A2 d.sec.length c2, .slice B2 d.pen.length k2, .int .i64 d.left, .bool d.stop], .int .i64 e] ∧ RJr M (.agg #[.int .i64 j.many, .int .i64 j.syn, .slice A j.rcs.length c]) j ∧ RDisk M (.agg #[.slice A2 d.sec.length c2, .slice B2 d.pen.length k2, .int .i64 d.left, .bool d.stop]) d := by
  obtain ⟨v, w, rfl, ⟨A, c, rfl, h1⟩, A2, c2, B2, k2, rfl, h2, h3⟩ := h
  exact ⟨A, c, A2, c2, B2, k2, rfl, ⟨A, c, rfl, h1⟩, A2, c2, B2, k2, rfl, h2, h3⟩
def xAB : List UInt8 := [97, 98]
def D1 : List (List UInt8) := after [zsec] [xAB]
theorem z_128 : ∀ s ∈ [zsec], s.length = 128 := new_128 1
theorem recs_z : recs [zsec] = [] := recs_new 1
theorem gmax_z : gmax [zsec] = 0 := gmax_new 1
theorem occ_ab : occs [xAB] = 1 := rfl
theorem D1_length : D1.length = 1 := after_length (by rw [recs_z, occ_ab]; exact Nat.le_refl _)
theorem D1_128 : ∀ s ∈ D1, s.length = 128 := after_128 (by rw [gmax_z]; decide) z_128
theorem recs_D1 : recs D1 = [xAB] := by
  rw [D1, recs_after z_128 (by rw [recs_z, occ_ab]; exact Nat.le_refl _) (by decide) (by rw [gmax_z]; decide), recs_z]; rfl
theorem ex_new1 : newF 1 = (dk [zsec], 0) := newF_dk (n := 1) (by decide) (by decide)
theorem ex_open0 : openF (dk [zsec]) = (⟨1, 0, []⟩, 0) := by
  rw [openF_dk (by decide) (by decide) z_128, recs_z]; rfl
theorem ex_app113 : appF ⟨1, 0, []⟩ (List.replicate 113 0) = (zJ, 2) := by
  rw [appF, if_pos (by decide), if_neg (by rw [List.length_replicate]; decide)]
theorem ex_app2 : appF ⟨1, 0, []⟩ xAB = (⟨1, 0, [xAB]⟩, 0) := by
  rw [appF, if_pos (by decide), if_pos (by decide)]; rfl
theorem ex_ok : okJ ⟨1, 0, [xAB]⟩ := by decide
theorem ex_sync1 : syncJ ⟨1, 0, [xAB]⟩ (dk [zsec]) = (⟨1, 1, [xAB]⟩, dk D1, 0) := by
  rw [syncJ_run ex_ok z_128 rfl (by rw [recs_z]; rfl) (by rw [gmax_z]; decide)]; rfl
theorem ex_open1 : openF (dk D1) = (⟨1, 1, [xAB]⟩, 0) := by
  rw [openF_dk (by rw [D1_length]; decide) (by rw [D1_length]; decide) D1_128, recs_D1, D1_length]; rfl
theorem ex_sync2 : syncJ ⟨1, 0, [xAB]⟩ (dk D1) = (zJ, zD, 450) := by
  have hok := dk_ok (D := D1) (by rw [D1_length]; decide) (by rw [D1_length]; decide) D1_128
  rw [syncJ, if_pos ex_ok, if_pos (idle_ok hok rfl rfl (fun h => h.2 (by show (1 : Int) = (D1.length : Int); rw [D1_length]; rfl))), if_neg (by
    show ¬ recs D1 = [xAB].take (Int.toNat 0)
    rw [recs_D1]
    intro h
    cases h)]
theorem ex_room : roomF ⟨1, 0, []⟩ = 112 := by decide
theorem ex_chk : ¬ okJ zJ := by decide

theorem fx_new1 (M : Mem) : Fn0 Try.prog 25 [.int .i64 1] M (fun r M' => ∃ A c B k, r = .tuple #[.agg #[.slice A 1 c, .slice B 0 k, .int .i64 (-1), .bool false], .int .i64 0] ∧ RDisk M' (.agg #[.slice A 1 c, .slice B 0 k, .int .i64 (-1), .bool false]) (dk [zsec])) :=
  Fn0.mono (new_fn M 1) fun v M' _ h => by
    rw [ex_new1] at h
    exact h.openJ
theorem fx_open0 (M : Mem) (v : Value) (h : RDisk M v (dk [zsec])) : Fn0 Try.prog 12 [v] M (fun r M' => ∃ A c, r = .tuple #[.agg #[.int .i64 1, .int .i64 0, .slice A 0 c], .int .i64 0] ∧ RJr M' (.agg #[.int .i64 1, .int .i64 0, .slice A 0 c]) ⟨1, 0, []⟩) :=
  Fn0.mono (open_fn M v _ h) fun v M' _ h => by
    rw [ex_open0] at h
    exact h.openJ
theorem fx_app113 (M : Mem) (v : Value) (A : Option Addr) (c : Nat) (h : RJr M v ⟨1, 0, []⟩) (hb : BSl M (.slice A 113 c) (List.replicate 113 0)) : Fn0 Try.prog 15 [v, .slice A 113 c] M (fun r M' => ∃ A c, r = .tuple #[.agg #[.int .i64 0, .int .i64 0, .slice A 0 c], .int .i64 2]) :=
  Fn0.mono (append_fn M v _ A c (List.replicate 113 0) h hb (by decide) (by simp) (by decide)) fun v M' _ h => by
    rw [ex_app113] at h
    obtain ⟨A, c, h, -⟩ := h.openJ
    exact ⟨A, c, h⟩
theorem fx_app2 (M : Mem) (v : Value) (A : Option Addr) (c : Nat) (h : RJr M v ⟨1, 0, []⟩) (hb : BSl M (.slice A 2 c) xAB) : Fn0 Try.prog 15 [v, .slice A 2 c] M (fun r M' => ∃ A c, r = .tuple #[.agg #[.int .i64 1, .int .i64 0, .slice A 1 c], .int .i64 0] ∧ RJr M' (.agg #[.int .i64 1, .int .i64 0, .slice A 1 c]) ⟨1, 0, [xAB]⟩) :=
  Fn0.mono (append_fn M v _ A c xAB h hb (by decide) (by decide) (by decide)) fun v M' _ h => by
    rw [ex_app2] at h
    exact h.openJ
theorem fx_sync1 (M : Mem) (v w : Value) (h : RJr M v ⟨1, 0, [xAB]⟩) (hd : RDisk M w (dk [zsec])) : Fn0 Try.prog 21 [v, w] M (fun r M' => ∃ A c A2 c2 B2 k2, r = .tuple #[.agg #[.int .i64 1, .int .i64 1, .slice A 1 c], .agg #[.slice A2 1 c2, .slice B2 0 k2, .int .i64 (-1), .bool false], .int .i64 0] ∧ RDisk M' (.agg #[.slice A2 1 c2, .slice B2 0 k2, .int .i64 (-1), .bool false]) (dk D1)) :=
  Fn0.mono (sync_jfn M v w _ _ h hd (by decide)) fun v M' _ h => by
    rw [ex_sync1] at h
    obtain ⟨A, c, A2, c2, B2, k2, h, -, h2⟩ := h.openJ
    rw [show (dk D1).sec.length = 1 from D1_length] at h h2
    exact ⟨A, c, A2, c2, B2, k2, h, h2⟩
theorem fx_open1 (M : Mem) (v : Value) (h : RDisk M v (dk D1)) : Fn0 Try.prog 12 [v] M (fun r M' => ∃ A c, r = .tuple #[.agg #[.int .i64 1, .int .i64 1, .slice A 1 c], .int .i64 0] ∧ RJr M' (.agg #[.int .i64 1, .int .i64 1, .slice A 1 c]) ⟨1, 1, [xAB]⟩) :=
  Fn0.mono (open_fn M v _ h) fun v M' _ h => by
    rw [ex_open1] at h
    exact h.openJ
theorem fx_sync2 (M : Mem) (v w : Value) (h : RJr M v ⟨1, 0, [xAB]⟩) (hd : RDisk M w (dk D1)) : Fn0 Try.prog 21 [v, w] M (fun r M' => ∃ A c A2 c2 B2 k2, r = .tuple #[.agg #[.int .i64 0, .int .i64 0, .slice A 0 c], .agg #[.slice A2 0 c2, .slice B2 0 k2, .int .i64 0, .bool false], .int .i64 450]) :=
  Fn0.mono (sync_jfn M v w _ _ h hd (by decide)) fun v M' _ h => by
    rw [ex_sync2] at h
    obtain ⟨A, c, A2, c2, B2, k2, h, -, -⟩ := h.openJ
    exact ⟨A, c, A2, c2, B2, k2, h⟩
theorem fx_room (M : Mem) (v : Value) (h : RJr M v ⟨1, 0, []⟩) : Fn0 Try.prog 19 [v] M (fun r M' => r = .int .i64 112 ∧ M = M') := by
  have := room_fn M v _ h (by decide)
  rwa [ex_room] at this
theorem fx_chk (M : Mem) : Fn0 Try.prog 17 [.agg #[.int .i64 0, .int .i64 0, .slice none 0 0]] M (fun r M' => r = .int .i64 1 ∧ M = M') := jcheck_n M _ zJ (RJr.zero M) (by decide) ex_chk

set_option maxHeartbeats 8000000 in
theorem sane_jfn (M : Mem) : Fn0 Try.prog 10 [] M (fun r M' => r = .bool true) := by
  refine Fn.intro Try.func10 rfl rfl Try.ntmps10 rfl fun E F => ?_
  repeat (first | ((with_reducible refine Tr.step rfl ?_); (((with_reducible refine Knd.assign ?_); (refine Exec.stab rfl (Stab.assign rfl) rfl ?_)))) | (with_reducible refine Tr.next ?_) | (with_reducible refine Tr.seq ?_) | (with_reducible refine Tr.region ?_) | (with_reducible refine Tr.nil ?_))
  ((refine Tr.step rfl ?_)); refine Exec.call0 rfl (fx_new1 M) rfl ?_
  rintro _ M1 hm1 ⟨A1, c1, B1, k1, rfl, hd1⟩
  repeat (first | ((with_reducible refine Tr.step rfl ?_); (first | ((with_reducible refine Knd.move ?_); (refine Exec.stab rfl (Stab.move rfl) rfl ?_)) | ((with_reducible refine Knd.assign ?_); (refine Exec.stab rfl (Stab.assign rfl) rfl ?_)) | ((with_reducible refine Knd.load ?_); ((refine Exec.stab rfl (Stab.loadW rfl (tysOk.get rfl) rfl (by repeat (first | exact Has.here | apply Has.there)) rfl) rfl ?_))) | ((with_reducible refine Knd.store ?_); ((refine Exec.storeW rfl rfl (tysOk.get rfl) (by repeat (first | exact Upd.here | apply Upd.there)) rfl rfl (by repeat (first | exact AllOne.nil | refine AllOne.cons (by first | rfl | assumption) ?_)) ?_))) | ((with_reducible refine Knd.alloc ?_); ((refine Exec.alloc (tysOk.get rfl) rfl rfl (fun b => ?_)))) | ((with_reducible refine Knd.extract ?_); (refine Exec.stab rfl (Stab.extract rfl rfl) rfl ?_)))) | (with_reducible refine Tr.next ?_) | (with_reducible refine Tr.seq ?_) | (with_reducible refine Tr.region ?_) | (with_reducible refine Tr.nil ?_))
  ((refine Tr.step rfl ?_)); refine Exec.call0 rfl (fx_open0 M1 _ hd1) rfl ?_
  rintro _ M2 hm2 ⟨A2, c2, rfl, hl⟩
  repeat (first | ((with_reducible refine Tr.step rfl ?_); (first | ((with_reducible refine Knd.move ?_); (refine Exec.stab rfl (Stab.move rfl) rfl ?_)) | ((with_reducible refine Knd.assign ?_); (refine Exec.stab rfl (Stab.assign rfl) rfl ?_)) | ((with_reducible refine Knd.store ?_); ((refine Exec.storeW rfl rfl (tysOk.get rfl) (by repeat (first | exact Upd.here | apply Upd.there)) rfl rfl (by repeat (first | exact AllOne.nil | refine AllOne.cons (by first | rfl | assumption) ?_)) ?_))) | ((with_reducible refine Knd.alloc ?_); ((refine Exec.alloc (tysOk.get rfl) rfl rfl (fun b => ?_)))) | ((with_reducible refine Knd.extract ?_); (refine Exec.stab rfl (Stab.extract rfl rfl) rfl ?_)))) | (with_reducible refine Tr.next ?_) | (with_reducible refine Tr.seq ?_) | (with_reducible refine Tr.nil ?_))
  (((apply Tr.draw); (kernel_rfl)); (refine TrA.take 0 (by kernel_rfl) rfl (by kernel_rfl) (by exact fun _ _ _ h => h) (by exact fun _ h => h) rfl (by exact Stab.loadW rfl (tysOk.get rfl) rfl (by repeat (first | exact Has.here | apply Has.there)) rfl) rfl rfl ?_))
  ((refine TrM.start1 _ (by exact PA.alloc 6 rfl (tysOk.get rfl) rfl rfl) (by kernel_rfl) ?_); (refine TrM.eff 1 rfl (by kernel_rfl) (by exact .inl rfl) (by repeat (first | exact PendOk.nil | refine PendOk.cons rfl (by repeat (first | exact SubFr.nil | refine SubFr.cons rfl ?_)) ?_)) (by exact fun _ h => h) (by repeat (first | apply AppF.cons | exact AppF.nil)) (by repeat (first | apply AppF.cons | exact AppF.app)) (fun Y X => ?_)); (((refine Knd.makeSlice ?_); (refine Exec.make rfl rfl (tysOk.get rfl) rfl (tysOk.get rfl) rfl rfl rfl (by omega) (by omega) (by first | omega | (simp; done) | (simp; omega)) (by omega) rfl (fun b => ?_)))); (refine ⟨_, _, (by repeat (first | apply App.cons | exact App.nil | exact App.app)), (by repeat (first | apply App.cons | exact App.nil | exact App.app)), rfl, (by first | exact Mem.le.refl _ | assumption), (by exact (Sub.mem (by repeat (first | exact Sub.refl | apply Sub.cons)))), ?_⟩))
  refine TrM.publish (x := box _ 5 _) (by repeat (first | exact Del.here | apply Del.there)) (fun M3 hm3 hok => ?_)
  have hb : BSl M3 (.slice (some ⟨_, 0, none⟩) 113 113) (List.replicate 113 0) := BSl.ofBox (bs := List.replicate 113 0) (by rw [byteV_replicate] at hok; exact hok) (by simp)
  ((refine TrM.eff 2 rfl (by kernel_rfl) (by exact .inl rfl) (by repeat (first | exact PendOk.nil | refine PendOk.cons rfl (by repeat (first | exact SubFr.nil | refine SubFr.cons rfl ?_)) ?_)) (by exact fun _ h => h) (by repeat (first | apply AppF.cons | exact AppF.nil)) (by repeat (first | apply AppF.cons | exact AppF.app)) (fun Y X => ?_)))
  refine Exec.call0 rfl (fx_app113 M3 _ _ _ (hl.mono hm3) hb) rfl ?_
  rintro _ M4 hm4 ⟨A4, c4, rfl⟩
  (refine ⟨_, _, (by repeat (first | apply App.cons | exact App.nil | exact App.app)), (by repeat (first | apply App.cons | exact App.nil | exact App.app)), rfl, (by first | exact Mem.le.refl _ | assumption), (by exact fun _ h => h), ?_⟩)
  ((refine TrM.take 3 (by kernel_rfl) rfl (by kernel_rfl) (by exact fun _ _ _ h => h) (by exact fun _ h => h) rfl (by first | exact Stab.move rfl) rfl rfl ?_); (refine TrM.take 4 (by kernel_rfl) rfl (by kernel_rfl) (by exact fun _ _ _ h => h) (by exact fun _ h => h) rfl (by first | exact Stab.extract rfl rfl) rfl rfl ?_); (refine TrM.take 5 (by kernel_rfl) rfl (by kernel_rfl) (by exact fun _ _ _ h => h) (by exact fun _ h => h) rfl (by first | exact Stab.extract rfl rfl) rfl rfl ?_); (refine TrM.settle (by kernel_rfl) (by repeat (first | exact PendOk.nil | refine PendOk.cons rfl (by repeat (first | exact SubFr.nil | refine SubFr.cons rfl ?_)) ?_)) (by exact fun _ h => h) (fun b => ?_)); dsimp only; (refine TrM.fin ?_))
  ((refine TrA.eff 7 rfl (by kernel_rfl) (by exact .inl rfl) ?_); (((refine Knd.store ?_); ((refine Exec.storeW rfl rfl (tysOk.get rfl) (by repeat (first | exact Upd.here | apply Upd.there)) rfl rfl (by repeat (first | exact AllOne.nil | refine AllOne.cons (by first | rfl | assumption) ?_)) ?_)))); (refine ⟨(by first | exact Mem.le.refl _ | assumption), (by exact (Sub.mem (by repeat (first | exact Sub.refl | apply Sub.cons)))), ?_⟩); (refine TrA.take 8 (by kernel_rfl) rfl (by kernel_rfl) (by exact fun _ _ _ h => h) (by exact (Sub.mem (by repeat (first | exact Sub.refl | apply Sub.cons)))) rfl (by first | exact Stab.assign rfl) rfl rfl ?_); (refine TrA.done (by kernel_rfl) ?_))
  repeat (first | ((with_reducible refine Tr.step rfl ?_); (first | ((with_reducible refine Knd.load ?_); ((refine Exec.stab rfl (Stab.loadW rfl (tysOk.get rfl) rfl (by repeat (first | exact Has.here | apply Has.there)) rfl) rfl ?_))) | ((with_reducible refine Knd.buildSlice ?_); ((refine Exec.buildSlice (tysOk.get rfl) rfl (tysOk.get rfl) rfl rfl rfl rfl rfl (by repeat (first | exact BuildP.nil | ((apply BuildP.one); (rfl); (rfl); (first | rfl | assumption); (repeat (first | exact SetL.z | apply SetL.s))))) rfl (fun b => ?_)))))) | (with_reducible refine Tr.next ?_) | (with_reducible refine Tr.seq ?_) | (with_reducible refine Tr.region ?_))
  refine Tr.cells (cs' := byteV xAB) (by repeat (first | exact Upd.here | apply Upd.there)) rfl ?_
  ((refine Tr.step rfl ?_))
  refine Exec.convMark (l := xAB) rfl (tysOk.get rfl) rfl (tysOk.get rfl) rfl (by repeat (first | exact Del.here | apply Del.there)) (by decide) (by decide) rfl (fun M5 hm5 hb5 => ?_)
  have hm25 := hm3.trans (hm4.trans hm5)
  repeat (fail)
  ((refine Tr.step rfl ?_)); refine Exec.call0 rfl (fx_app2 M5 _ _ _ (hl.mono hm25) hb5) rfl ?_
  rintro _ M6 hm6 ⟨A6, c6, rfl, hx⟩
  have hm16 := hm2.trans (hm25.trans hm6)
  repeat (first | ((with_reducible refine Tr.step rfl ?_); (first | ((with_reducible refine Knd.move ?_); (refine Exec.stab rfl (Stab.move rfl) rfl ?_)) | ((with_reducible refine Knd.assign ?_); (refine Exec.stab rfl (Stab.assign rfl) rfl ?_)) | ((with_reducible refine Knd.load ?_); ((refine Exec.stab rfl (Stab.loadW rfl (tysOk.get rfl) rfl (by repeat (first | exact Has.here | apply Has.there)) rfl) rfl ?_))) | ((with_reducible refine Knd.store ?_); ((refine Exec.storeW rfl rfl (tysOk.get rfl) (by repeat (first | exact Upd.here | apply Upd.there)) rfl rfl (by repeat (first | exact AllOne.nil | refine AllOne.cons (by first | rfl | assumption) ?_)) ?_))) | ((with_reducible refine Knd.alloc ?_); ((refine Exec.alloc (tysOk.get rfl) rfl rfl (fun b => ?_)))) | ((with_reducible refine Knd.extract ?_); (refine Exec.stab rfl (Stab.extract rfl rfl) rfl ?_)))) | (with_reducible refine Tr.next ?_) | (with_reducible refine Tr.seq ?_) | (with_reducible refine Tr.region ?_) | (with_reducible refine Tr.nil ?_))
  ((refine Tr.step rfl ?_)); refine Exec.call0 rfl (fx_sync1 M6 _ _ hx (hd1.mono hm16)) rfl ?_
  rintro _ M7 hm7 ⟨A7, c7, A8, c8, B8, k8, rfl, hc⟩
  repeat (first | ((with_reducible refine Tr.step rfl ?_); (first | ((with_reducible refine Knd.move ?_); (refine Exec.stab rfl (Stab.move rfl) rfl ?_)) | ((with_reducible refine Knd.assign ?_); (refine Exec.stab rfl (Stab.assign rfl) rfl ?_)) | ((with_reducible refine Knd.load ?_); ((refine Exec.stab rfl (Stab.loadW rfl (tysOk.get rfl) rfl (by repeat (first | exact Has.here | apply Has.there)) rfl) rfl ?_))) | ((with_reducible refine Knd.store ?_); ((refine Exec.storeW rfl rfl (tysOk.get rfl) (by repeat (first | exact Upd.here | apply Upd.there)) rfl rfl (by repeat (first | exact AllOne.nil | refine AllOne.cons (by first | rfl | assumption) ?_)) ?_))) | ((with_reducible refine Knd.alloc ?_); ((refine Exec.alloc (tysOk.get rfl) rfl rfl (fun b => ?_)))) | ((with_reducible refine Knd.extract ?_); (refine Exec.stab rfl (Stab.extract rfl rfl) rfl ?_)))) | (with_reducible refine Tr.next ?_) | (with_reducible refine Tr.seq ?_) | (with_reducible refine Tr.region ?_) | (with_reducible refine Tr.nil ?_))
  ((refine Tr.step rfl ?_)); refine Exec.call0 rfl (fx_open1 M7 _ hc) rfl ?_
  rintro _ M8 hm8 ⟨A9, c9, rfl, hz⟩
  have hm28 := hm25.trans (hm6.trans (hm7.trans hm8))
  repeat (first | ((with_reducible refine Tr.step rfl ?_); (first | ((with_reducible refine Knd.move ?_); (refine Exec.stab rfl (Stab.move rfl) rfl ?_)) | ((with_reducible refine Knd.assign ?_); (refine Exec.stab rfl (Stab.assign rfl) rfl ?_)) | ((with_reducible refine Knd.load ?_); ((refine Exec.stab rfl (Stab.loadW rfl (tysOk.get rfl) rfl (by repeat (first | exact Has.here | apply Has.there)) rfl) rfl ?_))) | ((with_reducible refine Knd.store ?_); ((refine Exec.storeW rfl rfl (tysOk.get rfl) (by repeat (first | exact Upd.here | apply Upd.there)) rfl rfl (by repeat (first | exact AllOne.nil | refine AllOne.cons (by first | rfl | assumption) ?_)) ?_))) | ((with_reducible refine Knd.alloc ?_); ((refine Exec.alloc (tysOk.get rfl) rfl rfl (fun b => ?_)))) | ((with_reducible refine Knd.extract ?_); (refine Exec.stab rfl (Stab.extract rfl rfl) rfl ?_)))) | (with_reducible refine Tr.next ?_) | (with_reducible refine Tr.seq ?_) | (with_reducible refine Tr.region ?_) | (with_reducible refine Tr.nil ?_))
  ((refine Tr.step rfl ?_)); refine Exec.call0 rfl (fx_sync2 M8 _ _ (hx.mono (hm7.trans hm8)) (hc.mono hm8)) rfl ?_
  rintro _ M9 hm9 ⟨A10, c10, A11, c11, B11, k11, rfl⟩
  have hzz := hz.mono hm9
  obtain ⟨Az, cz, ez, hzs⟩ := hzz
  cases ez
  obtain ⟨hAz, chz, hatz, A12, k12, rfl, hb12⟩ := hzs.elem (i := 0) (x := xAB) rfl
  repeat (first | ((with_reducible refine Tr.step rfl ?_); (first | ((with_reducible refine Knd.move ?_); (refine Exec.stab rfl (Stab.move rfl) rfl ?_)) | ((with_reducible refine Knd.assign ?_); (refine Exec.stab rfl (Stab.assign rfl) rfl ?_)) | ((with_reducible refine Knd.binOp ?_); ((refine Exec.stab rfl (Stab.int rfl rfl rfl) rfl ?_))) | ((with_reducible refine Knd.pick ?_); ((refine Exec.stab rfl (Stab.pick_td rfl (by (with_reducible rfl)) rfl) rfl ?_))) | ((with_reducible refine Knd.store ?_); ((refine Exec.storeW rfl rfl (tysOk.get rfl) (by repeat (first | exact Upd.here | apply Upd.there)) rfl rfl (by repeat (first | exact AllOne.nil | refine AllOne.cons (by first | rfl | assumption) ?_)) ?_))) | ((with_reducible refine Knd.alloc ?_); ((refine Exec.alloc (tysOk.get rfl) rfl rfl (fun b => ?_)))) | ((with_reducible refine Knd.extract ?_); (refine Exec.stab rfl (Stab.extract rfl rfl) rfl ?_)))) | (with_reducible refine Tr.next ?_) | (with_reducible refine Tr.seq ?_) | (with_reducible refine Tr.region ?_) | (with_reducible refine Tr.nil ?_) | ((refine Tr.guard_y rfl rfl rfl (by first | (with_reducible rfl) | omega) ?_); (first | ((with_reducible refine Knd.move ?_); (refine Exec.stab rfl (Stab.move rfl) rfl ?_)) | ((with_reducible refine Knd.load ?_); (first | (refine Exec.stab rfl (Stab.load rfl (tysOk.get rfl) rfl (by repeat (first | exact Has.here | apply Has.there)) rfl) rfl ?_) | (refine Exec.stab rfl (Stab.loadW rfl (tysOk.get rfl) rfl (by repeat (first | exact Has.here | apply Has.there)) rfl) rfl ?_))) | ((with_reducible refine Knd.fieldAddr ?_); ((refine Exec.stab rfl (Stab.fieldZ rfl (tysOk.get rfl) rfl rfl (tysOk.get rfl) rfl) rfl ?_))) | ((with_reducible refine Knd.len ?_); ((refine Exec.stab rfl (Stab.len rfl (tysOk.get rfl) rfl) rfl ?_))) | ((with_reducible refine Knd.binOp ?_); ((refine Exec.stab rfl (Stab.int rfl rfl rfl) rfl ?_))))))
  have hstr : (⟨xAB.toArray⟩ : ByteArray).data.toList = (⟨#[97, 98]⟩ : ByteArray).data.toList := rfl
  ((refine Tr.guard_y rfl rfl rfl (by omega) ?_)); refine Exec.call0 rfl (fx_room M9 _ (hl.mono (hm28.trans hm9))) rfl ?_
  rintro _ _ _ ⟨rfl, rfl⟩
  repeat (first | ((with_reducible refine Tr.step rfl ?_); (first | ((with_reducible refine Knd.move ?_); (refine Exec.stab rfl (Stab.move rfl) rfl ?_)) | ((with_reducible refine Knd.pick ?_); ((refine Exec.stab rfl (Stab.pick_td rfl (by first | (with_reducible assumption) | (with_reducible rfl) | omega) rfl) rfl ?_))))) | ((refine Tr.guard_y rfl rfl rfl (by first | (with_reducible assumption) | (with_reducible rfl) | omega) ?_); (first | ((with_reducible refine Knd.move ?_); (refine Exec.stab rfl (Stab.move rfl) rfl ?_)) | ((with_reducible refine Knd.load ?_); (first | (refine Exec.stab rfl (Stab.load rfl (tysOk.get rfl) rfl (by repeat (first | exact Has.here | apply Has.there)) rfl) rfl ?_) | (refine Exec.stab rfl (Stab.loadM rfl (tysOk.get rfl) rfl (by assumption)) rfl ?_))) | ((with_reducible refine Knd.fieldAddr ?_); ((refine Exec.stab rfl (Stab.fieldZ rfl (tysOk.get rfl) rfl rfl (tysOk.get rfl) rfl) rfl ?_))) | ((with_reducible refine Knd.len ?_); ((refine Exec.stab rfl (Stab.len rfl (tysOk.get rfl) rfl) rfl ?_))) | ((with_reducible refine Knd.binOp ?_); (first | (refine Exec.stab rfl (Stab.int rfl rfl rfl) rfl ?_) | (refine Exec.stab rfl (Stab.streq rfl rfl) rfl ?_))) | ((with_reducible refine Knd.indexAddr ?_); ((refine Exec.stab rfl (Stab.indexAddr rfl rfl (tysOk.get rfl) rfl (tysOk.get rfl) rfl (by omega) (by omega) (by first | rfl | assumption)) rfl ?_))) | ((with_reducible refine Knd.convert ?_); ((refine Exec.stab rfl (Stab.bstrB rfl (tysOk.get rfl) (tysOk.get rfl) rfl rfl (tysOk.get rfl) rfl (by assumption)) rfl ?_))) | ((with_reducible refine Knd.build ?_); ((refine Exec.stab rfl (Stab.build tysOk rfl rfl rfl rfl (by repeat (exact BuildP.nil))) rfl ?_))))))
  ((refine Tr.guard_y rfl rfl rfl (by (with_reducible rfl)) ?_)); refine Exec.call0 rfl (fx_chk M9) rfl ?_
  rintro _ _ _ ⟨rfl, rfl⟩
  repeat (first | ((with_reducible refine Tr.step rfl ?_); (first | ((with_reducible refine Knd.assign ?_); (refine Exec.stab rfl (Stab.assign rfl) rfl ?_)) | ((with_reducible refine Knd.pick ?_); ((refine Exec.stab rfl (Stab.pick_td rfl (by (with_reducible rfl)) rfl) rfl ?_))))) | (with_reducible refine Tr.next ?_) | (with_reducible refine Tr.nil ?_) | ((refine Tr.guard_y rfl rfl rfl (by first | (with_reducible assumption) | (with_reducible rfl)) ?_); (((with_reducible refine Knd.binOp ?_); ((refine Exec.stab rfl (Stab.int rfl rfl rfl) rfl ?_))))) | (with_reducible refine Tr.ret ?_))
  have hmm := hm1.trans (hm16.trans (hm7.trans (hm8.trans hm9)))
  (refine Tr.done (by first | exact .inl rfl | exact .inr rfl) rfl (by repeat (first | exact RVs.nil | (apply RVs.cons; (exact RV.tmp rfl)))) (by first | exact Mem.le.refl _ | assumption) (by exact ⟨[_, _, _, _, _, _, _, _, _], rfl⟩) ⟨rfl, ?_⟩)
  rfl
end Go.Proofs.Ytkbggengagockaa
/-
  The journal: the guard on sizes.
  Conditions: the records are not too many.
-/
namespace Go.Proofs.Ytkbggengagockaa
open Go Bf
attribute [local irreducible] Tr Exec Stab HasTy Go.Addr.add IntKind.wrap
def tot (l : List (List UInt8)) : Nat := (l.map fun b => 1 + b.length).sum
theorem tot_take {l : List (List UInt8)} {i : Nat} {x : List UInt8} (h : l[i]? = some x) : tot (l.take (i + 1)) = tot (l.take i) + (1 + x.length) := by
  rw [List.take_add_one, h]
  simp [tot]
theorem tot_le (l : List (List UInt8)) (i : Nat) : tot (l.take i) ≤ tot l := by
  have : tot l = tot (l.take i) + tot (l.drop i) := by
    conv => lhs; rw [← List.take_append_drop i l]
    simp only [tot, List.map_append, List.sum_append]
  omega
theorem occs_tot : ∀ l : List (List UInt8), occs l ≤ tot l ∧ l.length ≤ tot l
  | [] => ⟨Nat.le_refl _, Nat.le_refl _⟩
  | b :: l => by
    have h := occs_tot l
    have e : tot (b :: l) = 1 + b.length + tot l := by simp [tot]
    rw [occs_cons, List.length_cons, e]
    unfold occ
    omega
def fewP (d : Dsk) (l : List (List UInt8)) : Prop := d.sec.length ≤ 40 ∧ d.pen.length ≤ 40 ∧ tot l ≤ 4000
instance (d : Dsk) (l : List (List UInt8)) : Decidable (fewP d l) := by unfold fewP; infer_instance
set_option maxHeartbeats 1000000 in
theorem few_jfn (M : Mem) (v : Value) (d : Dsk) (A : Option Addr) (c : Nat) (l : List (List UInt8)) (hd : RDisk M v d) (h : SlOf 1 RSec M (.slice A l.length c) l) (hb : tot l ≤ 1048576) :
    Fn0 Try.prog 11 [v, .slice A l.length c] M (fun r M' => r = .bool (decide (fewP d l)) ∧ M = M') := by
  obtain ⟨A2, c2, B2, k2, rfl, h1, h2⟩ := hd
  have hl := h.len_le
  have l1 := h1.len_le
  have l2 := h2.len_le
  refine Fn.intro Try.func11 rfl rfl Try.ntmps11 rfl fun E F => ?_
  repeat (first | ((with_reducible refine Tr.step rfl ?_); (first | ((with_reducible refine Knd.move ?_); (refine Exec.stab rfl (Stab.move rfl) rfl ?_)) | ((with_reducible refine Knd.assign ?_); (refine Exec.stab rfl (Stab.assign rfl) rfl ?_)) | ((with_reducible refine Knd.len ?_); ((refine Exec.stab rfl (Stab.len rfl (tysOk.get rfl) rfl) rfl ?_))) | ((with_reducible refine Knd.box ?_); ((refine Exec.box rfl rfl (fun b => ?_)))))) | (with_reducible refine Tr.next ?_) | (with_reducible refine Tr.seq ?_) | (with_reducible refine Tr.region ?_) | (with_reducible refine Tr.nil ?_) | (with_reducible refine Tr.block ?_))
  refine Tr.loop (α := Nat) (fun i => ⟨34, [(10, .int .i64 i), (9, .int .i64 l.length), (8, .slice A l.length c), (5, .int .i64 ((tot (l.take i) : Nat) : Int)), (2, .pointer (some ⟨_, 0, none⟩)), (4, .bool false)], [], M, _⟩) (fun i => i ≤ l.length) (fun i => l.length - i) 0 (Nat.zero_le _) (holds_sub (by repeat (first | exact SubFr.nil | refine SubFr.cons rfl ?_)) (by repeat (first | exact DropL.refl | apply DropL.skip))) (fun i hi => ?_)
  by_cases hlt : i < l.length
  · obtain ⟨x, hx⟩ := get_of_lt hlt
    obtain ⟨hA, ch, hat, A1, k1, rfl, hxb⟩ := h.elem hx
    have hst := tot_take hx
    have hle := tot_le l (i + 1)
    repeat (first | ((with_reducible refine Tr.step rfl ?_); (first | ((with_reducible refine Knd.move ?_); (refine Exec.stab rfl (Stab.move rfl) rfl ?_)) | ((with_reducible refine Knd.assign ?_); (refine Exec.stab rfl (Stab.assign rfl) rfl ?_)) | ((with_reducible refine Knd.load ?_); ((refine Exec.stab rfl (Stab.loadM rfl (tysOk.get rfl) rfl (by assumption)) rfl ?_))) | ((with_reducible refine Knd.len ?_); ((refine Exec.stab rfl (Stab.len rfl (tysOk.get rfl) rfl) rfl ?_))) | ((with_reducible refine Knd.binOp ?_); (first | (refine Exec.stab rfl (Stab.addi rfl rfl (by omega)) rfl ?_) | (refine Exec.stab rfl (Stab.int rfl rfl rfl) rfl ?_))) | ((with_reducible refine Knd.indexAddr ?_); ((refine Exec.stab rfl (Stab.indexAddr rfl rfl (tysOk.get rfl) rfl (tysOk.get rfl) rfl (by omega) (by omega) (by first | rfl | assumption)) rfl ?_))))) | (with_reducible refine Tr.next ?_) | (with_reducible refine Tr.seq ?_) | (with_reducible refine Tr.region ?_) | (with_reducible refine Tr.nil ?_) | (with_reducible refine Tr.skip ?_) | (with_reducible refine Tr.block ?_) | (with_reducible refine Tr.in_normal ?_) | (refine Tr.cond_t rfl (by first | (with_reducible assumption) | omega) ?_))
    have e : ((tot (l.take i) : Nat) : Int) + (1 + (x.length : Int)) = ((tot (l.take (i + 1)) : Nat) : Int) := by omega
    rw [e]
    refine Tr.again (i + 1) (by omega) (by omega) (holds_sub (by repeat (first | exact SubFr.nil | refine SubFr.cons rfl ?_)) (by repeat (first | exact DropL.refl | apply DropL.skip)))
  · have e : i = l.length := by omega
    subst e
    rw [List.take_length]
    by_cases c1 : (d.sec.length : Int) ≤ 40
    · by_cases c2 : (d.pen.length : Int) ≤ 40
      · by_cases c3 : ((tot l : Nat) : Int) ≤ 4000
        · repeat (first | ((with_reducible refine Tr.step rfl ?_); (first | ((with_reducible refine Knd.move ?_); (refine Exec.stab rfl (Stab.move rfl) rfl ?_)) | ((with_reducible refine Knd.assign ?_); (refine Exec.stab rfl (Stab.assign rfl) rfl ?_)) | ((with_reducible refine Knd.load ?_); ((refine Exec.stab rfl (Stab.load rfl (tysOk.get rfl) rfl (by repeat (first | exact Has.here | apply Has.there)) rfl) rfl ?_))) | ((with_reducible refine Knd.fieldAddr ?_); ((refine Exec.stab rfl (Stab.fieldZ rfl (tysOk.get rfl) rfl rfl (tysOk.get rfl) rfl) rfl ?_))) | ((with_reducible refine Knd.len ?_); ((refine Exec.stab rfl (Stab.len rfl (tysOk.get rfl) rfl) rfl ?_))) | ((with_reducible refine Knd.binOp ?_); ((refine Exec.stab rfl (Stab.int rfl rfl rfl) rfl ?_))) | ((with_reducible refine Knd.pick ?_); ((refine Exec.stab rfl (Stab.pick_td rfl (by (with_reducible assumption)) rfl) rfl ?_))))) | (with_reducible refine Tr.next ?_) | (with_reducible refine Tr.seq ?_) | (with_reducible refine Tr.region ?_) | (with_reducible refine Tr.nil ?_) | ((refine Tr.guard_y rfl rfl rfl (by (with_reducible assumption)) ?_); (first | ((with_reducible refine Knd.move ?_); (refine Exec.stab rfl (Stab.move rfl) rfl ?_)) | ((with_reducible refine Knd.load ?_); ((refine Exec.stab rfl (Stab.load rfl (tysOk.get rfl) rfl (by repeat (first | exact Has.here | apply Has.there)) rfl) rfl ?_))) | ((with_reducible refine Knd.fieldAddr ?_); ((refine Exec.stab rfl (Stab.fieldZ rfl (tysOk.get rfl) rfl rfl (tysOk.get rfl) rfl) rfl ?_))) | ((with_reducible refine Knd.len ?_); ((refine Exec.stab rfl (Stab.len rfl (tysOk.get rfl) rfl) rfl ?_))) | ((with_reducible refine Knd.binOp ?_); ((refine Exec.stab rfl (Stab.int rfl rfl rfl) rfl ?_))))) | (with_reducible refine Tr.exit ?_) | (with_reducible refine Tr.ret ?_) | (with_reducible refine Tr.then_exit ?_) | ((with_reducible refine Tr.in_exit ?_ ?_); (exact rfl)) | (refine Tr.cond_f rfl (by first | (with_reducible assumption) | omega) ?_))
          (refine Tr.done (by first | exact .inl rfl | exact .inr rfl) rfl (by repeat (first | exact RVs.nil | (apply RVs.cons; (exact RV.tmp rfl)))) (by first | exact Mem.le.refl _ | assumption) (by exact ⟨[_], rfl⟩) ⟨rfl, ?_⟩)
          exact ⟨by rw [decide_eq_true (show fewP d l from ⟨by omega, by omega, by omega⟩)]; exact congrArg Value.bool (decide_eq_true c3), rfl⟩
        · repeat (first | ((with_reducible refine Tr.step rfl ?_); (first | ((with_reducible refine Knd.move ?_); (refine Exec.stab rfl (Stab.move rfl) rfl ?_)) | ((with_reducible refine Knd.assign ?_); (refine Exec.stab rfl (Stab.assign rfl) rfl ?_)) | ((with_reducible refine Knd.load ?_); ((refine Exec.stab rfl (Stab.load rfl (tysOk.get rfl) rfl (by repeat (first | exact Has.here | apply Has.there)) rfl) rfl ?_))) | ((with_reducible refine Knd.fieldAddr ?_); ((refine Exec.stab rfl (Stab.fieldZ rfl (tysOk.get rfl) rfl rfl (tysOk.get rfl) rfl) rfl ?_))) | ((with_reducible refine Knd.len ?_); ((refine Exec.stab rfl (Stab.len rfl (tysOk.get rfl) rfl) rfl ?_))) | ((with_reducible refine Knd.binOp ?_); ((refine Exec.stab rfl (Stab.int rfl rfl rfl) rfl ?_))) | ((with_reducible refine Knd.pick ?_); ((refine Exec.stab rfl (Stab.pick_td rfl (by (with_reducible assumption)) rfl) rfl ?_))))) | (with_reducible refine Tr.next ?_) | (with_reducible refine Tr.seq ?_) | (with_reducible refine Tr.region ?_) | (with_reducible refine Tr.nil ?_) | ((refine Tr.guard_y rfl rfl rfl (by (with_reducible assumption)) ?_); (first | ((with_reducible refine Knd.move ?_); (refine Exec.stab rfl (Stab.move rfl) rfl ?_)) | ((with_reducible refine Knd.load ?_); ((refine Exec.stab rfl (Stab.load rfl (tysOk.get rfl) rfl (by repeat (first | exact Has.here | apply Has.there)) rfl) rfl ?_))) | ((with_reducible refine Knd.fieldAddr ?_); ((refine Exec.stab rfl (Stab.fieldZ rfl (tysOk.get rfl) rfl rfl (tysOk.get rfl) rfl) rfl ?_))) | ((with_reducible refine Knd.len ?_); ((refine Exec.stab rfl (Stab.len rfl (tysOk.get rfl) rfl) rfl ?_))) | ((with_reducible refine Knd.binOp ?_); ((refine Exec.stab rfl (Stab.int rfl rfl rfl) rfl ?_))))) | (with_reducible refine Tr.exit ?_) | (with_reducible refine Tr.ret ?_) | (with_reducible refine Tr.then_exit ?_) | ((with_reducible refine Tr.in_exit ?_ ?_); (exact rfl)) | (refine Tr.cond_f rfl (by first | (with_reducible assumption) | omega) ?_))
          (refine Tr.done (by first | exact .inl rfl | exact .inr rfl) rfl (by repeat (first | exact RVs.nil | (apply RVs.cons; (exact RV.tmp rfl)))) (by first | exact Mem.le.refl _ | assumption) (by exact ⟨[_], rfl⟩) ⟨rfl, ?_⟩)
          exact ⟨by rw [decide_eq_false (show ¬ fewP d l from fun h => c3 (by have := h.2.2; omega))]; exact congrArg Value.bool (decide_eq_false c3), rfl⟩
      · repeat (first | ((with_reducible refine Tr.step rfl ?_); (first | ((with_reducible refine Knd.move ?_); (refine Exec.stab rfl (Stab.move rfl) rfl ?_)) | ((with_reducible refine Knd.assign ?_); (refine Exec.stab rfl (Stab.assign rfl) rfl ?_)) | ((with_reducible refine Knd.load ?_); ((refine Exec.stab rfl (Stab.load rfl (tysOk.get rfl) rfl (by repeat (first | exact Has.here | apply Has.there)) rfl) rfl ?_))) | ((with_reducible refine Knd.fieldAddr ?_); ((refine Exec.stab rfl (Stab.fieldZ rfl (tysOk.get rfl) rfl rfl (tysOk.get rfl) rfl) rfl ?_))) | ((with_reducible refine Knd.len ?_); ((refine Exec.stab rfl (Stab.len rfl (tysOk.get rfl) rfl) rfl ?_))) | ((with_reducible refine Knd.binOp ?_); ((refine Exec.stab rfl (Stab.int rfl rfl rfl) rfl ?_))) | ((with_reducible refine Knd.pick ?_); (first | (refine Exec.stab rfl (Stab.pick_td rfl (by (with_reducible assumption)) rfl) rfl ?_) | (refine Exec.stab rfl (Stab.pick_fd rfl (by (with_reducible assumption)) rfl) rfl ?_))))) | (with_reducible refine Tr.next ?_) | (with_reducible refine Tr.seq ?_) | (with_reducible refine Tr.region ?_) | (with_reducible refine Tr.nil ?_) | ((refine Tr.guard_y rfl rfl rfl (by (with_reducible assumption)) ?_); (first | ((with_reducible refine Knd.load ?_); ((refine Exec.stab rfl (Stab.load rfl (tysOk.get rfl) rfl (by repeat (first | exact Has.here | apply Has.there)) rfl) rfl ?_))) | ((with_reducible refine Knd.fieldAddr ?_); ((refine Exec.stab rfl (Stab.fieldZ rfl (tysOk.get rfl) rfl rfl (tysOk.get rfl) rfl) rfl ?_))) | ((with_reducible refine Knd.len ?_); ((refine Exec.stab rfl (Stab.len rfl (tysOk.get rfl) rfl) rfl ?_))) | ((with_reducible refine Knd.binOp ?_); ((refine Exec.stab rfl (Stab.int rfl rfl rfl) rfl ?_))))) | (refine Tr.guard_n rfl rfl rfl (by (with_reducible assumption)) rfl rfl ?_) | (with_reducible refine Tr.exit ?_) | (with_reducible refine Tr.ret ?_) | (with_reducible refine Tr.then_exit ?_) | ((with_reducible refine Tr.in_exit ?_ ?_); (exact rfl)) | (refine Tr.cond_f rfl (by first | (with_reducible assumption) | omega) ?_))
        (refine Tr.done (by first | exact .inl rfl | exact .inr rfl) rfl (by repeat (first | exact RVs.nil | (apply RVs.cons; (exact RV.tmp rfl)))) (by first | exact Mem.le.refl _ | assumption) (by exact ⟨[_], rfl⟩) ⟨rfl, ?_⟩)
        exact ⟨by rw [decide_eq_false (show ¬ fewP d l from fun h => c2 (by have := h.2.1; omega))]; rfl, rfl⟩
    · repeat (first | ((with_reducible refine Tr.step rfl ?_); (first | ((with_reducible refine Knd.move ?_); (refine Exec.stab rfl (Stab.move rfl) rfl ?_)) | ((with_reducible refine Knd.assign ?_); (refine Exec.stab rfl (Stab.assign rfl) rfl ?_)) | ((with_reducible refine Knd.load ?_); ((refine Exec.stab rfl (Stab.load rfl (tysOk.get rfl) rfl (by repeat (first | exact Has.here | apply Has.there)) rfl) rfl ?_))) | ((with_reducible refine Knd.fieldAddr ?_); ((refine Exec.stab rfl (Stab.fieldZ rfl (tysOk.get rfl) rfl rfl (tysOk.get rfl) rfl) rfl ?_))) | ((with_reducible refine Knd.len ?_); ((refine Exec.stab rfl (Stab.len rfl (tysOk.get rfl) rfl) rfl ?_))) | ((with_reducible refine Knd.binOp ?_); ((refine Exec.stab rfl (Stab.int rfl rfl rfl) rfl ?_))) | ((with_reducible refine Knd.pick ?_); (first | (refine Exec.stab rfl (Stab.pick_f rfl (by (with_reducible rfl)) rfl) rfl ?_) | (refine Exec.stab rfl (Stab.pick_fd rfl (by (with_reducible assumption)) rfl) rfl ?_))))) | (with_reducible refine Tr.next ?_) | (with_reducible refine Tr.seq ?_) | (with_reducible refine Tr.region ?_) | (with_reducible refine Tr.nil ?_) | (refine Tr.guard_s1 rfl rfl rfl (by (with_reducible rfl)) rfl rfl ?_) | (refine Tr.guard_n rfl rfl rfl (by (with_reducible assumption)) rfl rfl ?_) | (with_reducible refine Tr.exit ?_) | (with_reducible refine Tr.ret ?_) | (with_reducible refine Tr.then_exit ?_) | ((with_reducible refine Tr.in_exit ?_ ?_); (exact rfl)) | (refine Tr.cond_f rfl (by first | (with_reducible assumption) | omega) ?_))
      (refine Tr.done (by first | exact .inl rfl | exact .inr rfl) rfl (by repeat (first | exact RVs.nil | (apply RVs.cons; (exact RV.tmp rfl)))) (by first | exact Mem.le.refl _ | assumption) (by exact ⟨[_], rfl⟩) ⟨rfl, ?_⟩)
      exact ⟨by rw [decide_eq_false (show ¬ fewP d l from fun h => c1 (by have := h.1; omega))]; rfl, rfl⟩

end Go.Proofs.Ytkbggengagockaa
/-
  The disk: the contract of the reference's Same.
  Conditions: none.
-/
namespace Go.Proofs.Ytkbggengagockaa
open Go Bf
attribute [local irreducible] Tr Exec Stab HasTy Go.Addr.add IntKind.wrap
def sameP (a b : Dsk) : Prop := a.sec = b.sec ∧ a.pen = b.pen ∧ a.left = b.left ∧ a.stop = b.stop
instance (a b : Dsk) : Decidable (sameP a b) := by unfold sameP; infer_instance
theorem take_step {α : Type} {a b : List α} {i : Nat} {x y : α} (hx : a[i]? = some x) (hy : b[i]? = some y) (h : a.take i = b.take i) (e : x = y) : a.take (i + 1) = b.take (i + 1) := by
  rw [List.take_add_one, List.take_add_one, hx, hy, h, e]
theorem take_full {α : Type} {a b : List α} {i : Nat} (ha : a.length ≤ i) (hb : b.length ≤ i) (h : a.take i = b.take i) : a = b := by
  rwa [List.take_of_length_le ha, List.take_of_length_le hb] at h

set_option maxHeartbeats 2000000 in
theorem same_fn (M : Mem) (v w : Value) (a b : Dsk) (ha : RDisk M v a) (hb : RDisk M w b) :
    Fn0 Try.prog 23 [v, w] M (fun r M' => r = .bool (decide (sameP a b)) ∧ M = M') := by
  obtain ⟨sec1, pen1, left1, stop1⟩ := a
  obtain ⟨sec2, pen2, left2, stop2⟩ := b
  obtain ⟨A, c, B, k, rfl, h1, h2⟩ := ha
  obtain ⟨A', c', B', k', rfl, h3, h4⟩ := hb
  dsimp only at h1 h2 h3 h4 ⊢
  have l1 := h1.len_le
  have l2 := h2.len_le
  have l3 := h3.len_le
  have l4 := h4.len_le
  refine Fn.intro Try.func23 rfl rfl Try.ntmps23 rfl fun E F => ?_
  by_cases c1 : sec1.length = sec2.length
  rotate_left
  · have hn : ¬ sameP ⟨sec1, pen1, left1, stop1⟩ ⟨sec2, pen2, left2, stop2⟩ := fun h => c1 (congrArg List.length h.1)
    repeat (first | ((with_reducible refine Tr.step rfl ?_); (first | ((with_reducible refine Knd.move ?_); (refine Exec.stab rfl (Stab.move rfl) rfl ?_)) | ((with_reducible refine Knd.assign ?_); (refine Exec.stab rfl (Stab.assign rfl) rfl ?_)) | ((with_reducible refine Knd.load ?_); ((refine Exec.stab rfl (Stab.load rfl (tysOk.get rfl) rfl (by repeat (first | exact Has.here | apply Has.there)) rfl) rfl ?_))) | ((with_reducible refine Knd.fieldAddr ?_); ((refine Exec.stab rfl (Stab.fieldZ rfl (tysOk.get rfl) rfl rfl (tysOk.get rfl) rfl) rfl ?_))) | ((with_reducible refine Knd.len ?_); ((refine Exec.stab rfl (Stab.len rfl (tysOk.get rfl) rfl) rfl ?_))) | ((with_reducible refine Knd.binOp ?_); ((refine Exec.stab rfl (Stab.int rfl rfl rfl) rfl ?_))) | ((with_reducible refine Knd.pick ?_); (first | (refine Exec.stab rfl (Stab.pick_t rfl (by (with_reducible rfl)) rfl) rfl ?_) | (refine Exec.stab rfl (Stab.pick_td rfl (by omega) rfl) rfl ?_))) | ((with_reducible refine Knd.box ?_); ((refine Exec.box rfl rfl (fun b => ?_)))))) | (with_reducible refine Tr.next ?_) | (with_reducible refine Tr.seq ?_) | (with_reducible refine Tr.region ?_) | (with_reducible refine Tr.nil ?_) | (refine Tr.guard_s0 rfl rfl rfl (by (with_reducible rfl)) rfl rfl ?_) | (refine Tr.guard_n' rfl rfl rfl (by first | (with_reducible assumption) | omega) rfl rfl ?_) | (with_reducible refine Tr.ret ?_) | (with_reducible refine Tr.then_ret ?_) | (refine Tr.cond_bt rfl (by (with_reducible rfl)) ?_))
    (refine Tr.done (by first | exact .inl rfl | exact .inr rfl) rfl (by repeat (first | exact RVs.nil | (apply RVs.cons; (exact RV.tmp rfl)))) (by first | exact Mem.le.refl _ | assumption) (by exact ⟨[_, _], rfl⟩) ⟨rfl, ?_⟩)
    exact ⟨by rw [decide_eq_false hn]; rfl, rfl⟩
  by_cases c2 : pen1.length = pen2.length
  rotate_left
  · have hn : ¬ sameP ⟨sec1, pen1, left1, stop1⟩ ⟨sec2, pen2, left2, stop2⟩ := fun h => c2 (congrArg List.length h.2.1)
    repeat (first | ((with_reducible refine Tr.step rfl ?_); (first | ((with_reducible refine Knd.move ?_); (refine Exec.stab rfl (Stab.move rfl) rfl ?_)) | ((with_reducible refine Knd.assign ?_); (refine Exec.stab rfl (Stab.assign rfl) rfl ?_)) | ((with_reducible refine Knd.load ?_); ((refine Exec.stab rfl (Stab.load rfl (tysOk.get rfl) rfl (by repeat (first | exact Has.here | apply Has.there)) rfl) rfl ?_))) | ((with_reducible refine Knd.fieldAddr ?_); ((refine Exec.stab rfl (Stab.fieldZ rfl (tysOk.get rfl) rfl rfl (tysOk.get rfl) rfl) rfl ?_))) | ((with_reducible refine Knd.len ?_); ((refine Exec.stab rfl (Stab.len rfl (tysOk.get rfl) rfl) rfl ?_))) | ((with_reducible refine Knd.binOp ?_); ((refine Exec.stab rfl (Stab.int rfl rfl rfl) rfl ?_))) | ((with_reducible refine Knd.pick ?_); (first | (refine Exec.stab rfl (Stab.pick_t rfl (by (with_reducible rfl)) rfl) rfl ?_) | (refine Exec.stab rfl (Stab.pick_td rfl (by omega) rfl) rfl ?_) | (refine Exec.stab rfl (Stab.pick_fd rfl (by omega) rfl) rfl ?_))) | ((with_reducible refine Knd.box ?_); ((refine Exec.box rfl rfl (fun b => ?_)))))) | (with_reducible refine Tr.next ?_) | (with_reducible refine Tr.seq ?_) | (with_reducible refine Tr.region ?_) | (with_reducible refine Tr.nil ?_) | (refine Tr.guard_s0 rfl rfl rfl (by (with_reducible rfl)) rfl rfl ?_) | ((refine Tr.guard_y' rfl rfl rfl (by first | (with_reducible assumption) | omega) ?_); (first | ((with_reducible refine Knd.load ?_); ((refine Exec.stab rfl (Stab.load rfl (tysOk.get rfl) rfl (by repeat (first | exact Has.here | apply Has.there)) rfl) rfl ?_))) | ((with_reducible refine Knd.fieldAddr ?_); ((refine Exec.stab rfl (Stab.fieldZ rfl (tysOk.get rfl) rfl rfl (tysOk.get rfl) rfl) rfl ?_))) | ((with_reducible refine Knd.len ?_); ((refine Exec.stab rfl (Stab.len rfl (tysOk.get rfl) rfl) rfl ?_))) | ((with_reducible refine Knd.binOp ?_); ((refine Exec.stab rfl (Stab.int rfl rfl rfl) rfl ?_))))) | (refine Tr.guard_n' rfl rfl rfl (by first | (with_reducible assumption) | omega) rfl rfl ?_) | (with_reducible refine Tr.ret ?_) | (with_reducible refine Tr.then_ret ?_) | (refine Tr.cond_bt rfl (by (with_reducible rfl)) ?_))
    (refine Tr.done (by first | exact .inl rfl | exact .inr rfl) rfl (by repeat (first | exact RVs.nil | (apply RVs.cons; (exact RV.tmp rfl)))) (by first | exact Mem.le.refl _ | assumption) (by exact ⟨[_, _], rfl⟩) ⟨rfl, ?_⟩)
    exact ⟨by rw [decide_eq_false hn]; rfl, rfl⟩
  by_cases c3 : left1 = left2
  rotate_left
  · have hn : ¬ sameP ⟨sec1, pen1, left1, stop1⟩ ⟨sec2, pen2, left2, stop2⟩ := fun h => c3 h.2.2.1
    repeat (first | ((with_reducible refine Tr.step rfl ?_); (first | ((with_reducible refine Knd.move ?_); (refine Exec.stab rfl (Stab.move rfl) rfl ?_)) | ((with_reducible refine Knd.assign ?_); (refine Exec.stab rfl (Stab.assign rfl) rfl ?_)) | ((with_reducible refine Knd.load ?_); ((refine Exec.stab rfl (Stab.load rfl (tysOk.get rfl) rfl (by repeat (first | exact Has.here | apply Has.there)) rfl) rfl ?_))) | ((with_reducible refine Knd.fieldAddr ?_); ((refine Exec.stab rfl (Stab.fieldZ rfl (tysOk.get rfl) rfl rfl (tysOk.get rfl) rfl) rfl ?_))) | ((with_reducible refine Knd.len ?_); ((refine Exec.stab rfl (Stab.len rfl (tysOk.get rfl) rfl) rfl ?_))) | ((with_reducible refine Knd.binOp ?_); ((refine Exec.stab rfl (Stab.int rfl rfl rfl) rfl ?_))) | ((with_reducible refine Knd.pick ?_); (first | (refine Exec.stab rfl (Stab.pick_td rfl (by (with_reducible assumption)) rfl) rfl ?_) | (refine Exec.stab rfl (Stab.pick_fd rfl (by omega) rfl) rfl ?_))) | ((with_reducible refine Knd.box ?_); ((refine Exec.box rfl rfl (fun b => ?_)))))) | (with_reducible refine Tr.next ?_) | (with_reducible refine Tr.seq ?_) | (with_reducible refine Tr.region ?_) | (with_reducible refine Tr.nil ?_) | ((refine Tr.guard_y' rfl rfl rfl (by first | (with_reducible assumption) | omega) ?_); (first | ((with_reducible refine Knd.load ?_); ((refine Exec.stab rfl (Stab.load rfl (tysOk.get rfl) rfl (by repeat (first | exact Has.here | apply Has.there)) rfl) rfl ?_))) | ((with_reducible refine Knd.fieldAddr ?_); ((refine Exec.stab rfl (Stab.fieldZ rfl (tysOk.get rfl) rfl rfl (tysOk.get rfl) rfl) rfl ?_))) | ((with_reducible refine Knd.len ?_); ((refine Exec.stab rfl (Stab.len rfl (tysOk.get rfl) rfl) rfl ?_))) | ((with_reducible refine Knd.binOp ?_); ((refine Exec.stab rfl (Stab.int rfl rfl rfl) rfl ?_))))) | (refine Tr.guard_n' rfl rfl rfl (by (with_reducible assumption)) rfl rfl ?_) | (with_reducible refine Tr.ret ?_) | (with_reducible refine Tr.then_ret ?_) | (refine Tr.cond_bt rfl (by (with_reducible rfl)) ?_))
    (refine Tr.done (by first | exact .inl rfl | exact .inr rfl) rfl (by repeat (first | exact RVs.nil | (apply RVs.cons; (exact RV.tmp rfl)))) (by first | exact Mem.le.refl _ | assumption) (by exact ⟨[_, _], rfl⟩) ⟨rfl, ?_⟩)
    exact ⟨by rw [decide_eq_false hn]; rfl, rfl⟩
  by_cases c4 : stop1 ≠ stop2
  · have hn : ¬ sameP ⟨sec1, pen1, left1, stop1⟩ ⟨sec2, pen2, left2, stop2⟩ := fun h => c4 h.2.2.2
    repeat (first | ((with_reducible refine Tr.step rfl ?_); (first | ((with_reducible refine Knd.move ?_); (refine Exec.stab rfl (Stab.move rfl) rfl ?_)) | ((with_reducible refine Knd.assign ?_); (refine Exec.stab rfl (Stab.assign rfl) rfl ?_)) | ((with_reducible refine Knd.load ?_); ((refine Exec.stab rfl (Stab.load rfl (tysOk.get rfl) rfl (by repeat (first | exact Has.here | apply Has.there)) rfl) rfl ?_))) | ((with_reducible refine Knd.fieldAddr ?_); ((refine Exec.stab rfl (Stab.fieldZ rfl (tysOk.get rfl) rfl rfl (tysOk.get rfl) rfl) rfl ?_))) | ((with_reducible refine Knd.len ?_); ((refine Exec.stab rfl (Stab.len rfl (tysOk.get rfl) rfl) rfl ?_))) | ((with_reducible refine Knd.binOp ?_); ((refine Exec.stab rfl (Stab.int rfl rfl rfl) rfl ?_))) | ((with_reducible refine Knd.pick ?_); ((refine Exec.stab rfl (Stab.pick_fd rfl (by omega) rfl) rfl ?_))) | ((with_reducible refine Knd.box ?_); ((refine Exec.box rfl rfl (fun b => ?_)))))) | (with_reducible refine Tr.next ?_) | (with_reducible refine Tr.seq ?_) | (with_reducible refine Tr.region ?_) | (with_reducible refine Tr.nil ?_) | ((refine Tr.guard_y' rfl rfl rfl (by first | (with_reducible assumption) | omega) ?_); (first | ((with_reducible refine Knd.load ?_); ((refine Exec.stab rfl (Stab.load rfl (tysOk.get rfl) rfl (by repeat (first | exact Has.here | apply Has.there)) rfl) rfl ?_))) | ((with_reducible refine Knd.fieldAddr ?_); ((refine Exec.stab rfl (Stab.fieldZ rfl (tysOk.get rfl) rfl rfl (tysOk.get rfl) rfl) rfl ?_))) | ((with_reducible refine Knd.len ?_); ((refine Exec.stab rfl (Stab.len rfl (tysOk.get rfl) rfl) rfl ?_))) | ((with_reducible refine Knd.binOp ?_); (first | (refine Exec.stab rfl (Stab.int rfl rfl rfl) rfl ?_) | (refine Exec.stab rfl (Stab.boolne rfl rfl (tysOk.get rfl) rfl) rfl ?_))))) | (with_reducible refine Tr.ret ?_) | (with_reducible refine Tr.then_ret ?_) | (refine Tr.cond_t rfl (by (with_reducible assumption)) ?_))
    (refine Tr.done (by first | exact .inl rfl | exact .inr rfl) rfl (by repeat (first | exact RVs.nil | (apply RVs.cons; (exact RV.tmp rfl)))) (by first | exact Mem.le.refl _ | assumption) (by exact ⟨[_, _], rfl⟩) ⟨rfl, ?_⟩)
    exact ⟨by rw [decide_eq_false hn]; rfl, rfl⟩
  repeat (first | ((with_reducible refine Tr.step rfl ?_); (first | ((with_reducible refine Knd.move ?_); (refine Exec.stab rfl (Stab.move rfl) rfl ?_)) | ((with_reducible refine Knd.assign ?_); (refine Exec.stab rfl (Stab.assign rfl) rfl ?_)) | ((with_reducible refine Knd.load ?_); ((refine Exec.stab rfl (Stab.load rfl (tysOk.get rfl) rfl (by repeat (first | exact Has.here | apply Has.there)) rfl) rfl ?_))) | ((with_reducible refine Knd.fieldAddr ?_); ((refine Exec.stab rfl (Stab.fieldZ rfl (tysOk.get rfl) rfl rfl (tysOk.get rfl) rfl) rfl ?_))) | ((with_reducible refine Knd.len ?_); ((refine Exec.stab rfl (Stab.len rfl (tysOk.get rfl) rfl) rfl ?_))) | ((with_reducible refine Knd.binOp ?_); ((refine Exec.stab rfl (Stab.int rfl rfl rfl) rfl ?_))) | ((with_reducible refine Knd.pick ?_); ((refine Exec.stab rfl (Stab.pick_fd rfl (by omega) rfl) rfl ?_))) | ((with_reducible refine Knd.box ?_); ((refine Exec.box rfl rfl (fun b => ?_)))))) | (with_reducible refine Tr.next ?_) | (with_reducible refine Tr.seq ?_) | (with_reducible refine Tr.region ?_) | (with_reducible refine Tr.nil ?_) | ((refine Tr.guard_y' rfl rfl rfl (by first | (with_reducible assumption) | omega) ?_); (first | ((with_reducible refine Knd.load ?_); ((refine Exec.stab rfl (Stab.load rfl (tysOk.get rfl) rfl (by repeat (first | exact Has.here | apply Has.there)) rfl) rfl ?_))) | ((with_reducible refine Knd.fieldAddr ?_); ((refine Exec.stab rfl (Stab.fieldZ rfl (tysOk.get rfl) rfl rfl (tysOk.get rfl) rfl) rfl ?_))) | ((with_reducible refine Knd.len ?_); ((refine Exec.stab rfl (Stab.len rfl (tysOk.get rfl) rfl) rfl ?_))) | ((with_reducible refine Knd.binOp ?_); (first | (refine Exec.stab rfl (Stab.int rfl rfl rfl) rfl ?_) | (refine Exec.stab rfl (Stab.boolne rfl rfl (tysOk.get rfl) rfl) rfl ?_))))) | (with_reducible refine Tr.skip ?_) | (with_reducible refine Tr.block ?_) | (refine Tr.cond_f rfl (by (with_reducible assumption)) ?_))
  refine Tr.loop (α := Nat) (fun i => ⟨94, [(5, .int .i64 i), (4, .bool false), (3, .pointer (some ⟨_, 0, none⟩)), (2, .pointer (some ⟨_, 0, none⟩))], [], M, _⟩) (fun i => i ≤ sec1.length ∧ sec1.take i = sec2.take i) (fun i => sec1.length - i) 0 ⟨Nat.zero_le _, rfl⟩ (holds_sub (by repeat (first | exact SubFr.nil | refine SubFr.cons rfl ?_)) (by repeat (first | exact DropL.refl | apply DropL.skip))) (fun i hi => ?_)
  obtain ⟨hi, heq⟩ := hi
  by_cases hlt : i < sec1.length
  · obtain ⟨x, hx⟩ := get_of_lt hlt
    obtain ⟨y, hy⟩ := get_of_lt (show i < sec2.length by omega)
    obtain ⟨hA1, ch1, hat1, A1, k1, rfl, hb1⟩ := h1.elem hx
    obtain ⟨hA2, ch2, hat2, A2, k2, rfl, hb2⟩ := h3.elem hy
    by_cases hxy : x ≠ y
    · have hn : ¬ sameP ⟨sec1, pen1, left1, stop1⟩ ⟨sec2, pen2, left2, stop2⟩ := fun h => hxy (by
        have h0 : sec1 = sec2 := h.1
        subst h0; rw [hx] at hy; cases hy; rfl)
      repeat (first | ((with_reducible refine Tr.step rfl ?_); (first | ((with_reducible refine Knd.move ?_); (refine Exec.stab rfl (Stab.move rfl) rfl ?_)) | ((with_reducible refine Knd.load ?_); ((refine Exec.stab rfl (Stab.load rfl (tysOk.get rfl) rfl (by repeat (first | exact Has.here | apply Has.there)) rfl) rfl ?_))) | ((with_reducible refine Knd.fieldAddr ?_); ((refine Exec.stab rfl (Stab.fieldZ rfl (tysOk.get rfl) rfl rfl (tysOk.get rfl) rfl) rfl ?_))) | ((with_reducible refine Knd.len ?_); ((refine Exec.stab rfl (Stab.len rfl (tysOk.get rfl) rfl) rfl ?_))) | ((with_reducible refine Knd.binOp ?_); ((refine Exec.stab rfl (Stab.int rfl rfl rfl) rfl ?_))))) | (with_reducible refine Tr.next ?_) | (with_reducible refine Tr.seq ?_) | (with_reducible refine Tr.region ?_) | (with_reducible refine Tr.nil ?_) | (with_reducible refine Tr.skip ?_) | (with_reducible refine Tr.block ?_) | (refine Tr.cond_t rfl (by first | (with_reducible assumption) | omega) ?_))
      (((apply Tr.draw); (kernel_rfl)); (refine TrA.take 0 (by kernel_rfl) rfl (by kernel_rfl) (by exact fun _ _ _ h => h) (by exact fun _ h => h) rfl (by exact Stab.fieldZ rfl (tysOk.get rfl) rfl rfl (tysOk.get rfl) rfl) rfl rfl ?_); (refine TrA.take 1 (by kernel_rfl) rfl (by kernel_rfl) (by exact fun _ _ _ h => h) (by exact fun _ h => h) rfl (by exact Stab.load rfl (tysOk.get rfl) rfl (by repeat (first | exact Has.here | apply Has.there)) rfl) rfl rfl ?_); (refine TrA.take 2 (by kernel_rfl) rfl (by kernel_rfl) (by exact fun _ _ _ h => h) (by exact fun _ h => h) rfl (by first | exact Stab.move rfl) rfl rfl ?_); (refine TrA.take 3 (by kernel_rfl) rfl (by kernel_rfl) (by exact fun _ _ _ h => h) (by exact fun _ h => h) rfl (by exact Stab.indexAddr rfl rfl (tysOk.get rfl) rfl (tysOk.get rfl) rfl (by omega) (by omega) (by first | rfl | assumption)) rfl rfl ?_); (refine TrA.take 4 (by kernel_rfl) rfl (by kernel_rfl) (by exact fun _ _ _ h => h) (by exact fun _ h => h) rfl (by exact Stab.loadM rfl (tysOk.get rfl) rfl (by assumption)) rfl rfl ?_); (refine TrA.take 5 (by kernel_rfl) rfl (by kernel_rfl) (by exact fun _ _ _ h => h) (by exact fun _ h => h) rfl (by exact Stab.bstrB rfl (tysOk.get rfl) (tysOk.get rfl) rfl rfl (tysOk.get rfl) rfl (by assumption)) rfl rfl ?_); (refine TrA.take 6 (by kernel_rfl) rfl (by kernel_rfl) (by exact fun _ _ _ h => h) (by exact fun _ h => h) rfl (by exact Stab.fieldZ rfl (tysOk.get rfl) rfl rfl (tysOk.get rfl) rfl) rfl rfl ?_); (refine TrA.take 7 (by kernel_rfl) rfl (by kernel_rfl) (by exact fun _ _ _ h => h) (by exact fun _ h => h) rfl (by exact Stab.load rfl (tysOk.get rfl) rfl (by repeat (first | exact Has.here | apply Has.there)) rfl) rfl rfl ?_); (refine TrA.take 8 (by kernel_rfl) rfl (by kernel_rfl) (by exact fun _ _ _ h => h) (by exact fun _ h => h) rfl (by first | exact Stab.move rfl) rfl rfl ?_); (refine TrA.take 9 (by kernel_rfl) rfl (by kernel_rfl) (by exact fun _ _ _ h => h) (by exact fun _ h => h) rfl (by exact Stab.indexAddr rfl rfl (tysOk.get rfl) rfl (tysOk.get rfl) rfl (by omega) (by omega) (by first | rfl | assumption)) rfl rfl ?_); (refine TrA.take 10 (by kernel_rfl) rfl (by kernel_rfl) (by exact fun _ _ _ h => h) (by exact fun _ h => h) rfl (by exact Stab.loadM rfl (tysOk.get rfl) rfl (by assumption)) rfl rfl ?_); (refine TrA.take 11 (by kernel_rfl) rfl (by kernel_rfl) (by exact fun _ _ _ h => h) (by exact fun _ h => h) rfl (by exact Stab.bstrB rfl (tysOk.get rfl) (tysOk.get rfl) rfl rfl (tysOk.get rfl) rfl (by assumption)) rfl rfl ?_); (refine TrA.take 12 (by kernel_rfl) rfl (by kernel_rfl) (by exact fun _ _ _ h => h) (by exact fun _ h => h) rfl (by exact Stab.strne rfl rfl) rfl rfl ?_); (refine TrA.done (by kernel_rfl) ?_))
      repeat (first | ((with_reducible refine Tr.step rfl ?_); (((with_reducible refine Knd.assign ?_); (refine Exec.stab rfl (Stab.assign rfl) rfl ?_)))) | (with_reducible refine Tr.next ?_) | (with_reducible refine Tr.seq ?_) | (with_reducible refine Tr.region ?_) | (with_reducible refine Tr.nil ?_) | (with_reducible refine Tr.ret ?_) | (with_reducible refine Tr.then_ret ?_) | (with_reducible refine Tr.in_ret ?_) | (refine Tr.cond_t rfl (by (with_reducible assumption)) ?_))
      (refine Tr.done (by first | exact .inl rfl | exact .inr rfl) rfl (by repeat (first | exact RVs.nil | (apply RVs.cons; (exact RV.tmp rfl)))) (by first | exact Mem.le.refl _ | assumption) (by exact ⟨[_, _], rfl⟩) ⟨rfl, ?_⟩)
      exact ⟨by rw [decide_eq_false hn]; rfl, rfl⟩
    · repeat (first | ((with_reducible refine Tr.step rfl ?_); (first | ((with_reducible refine Knd.move ?_); (refine Exec.stab rfl (Stab.move rfl) rfl ?_)) | ((with_reducible refine Knd.load ?_); ((refine Exec.stab rfl (Stab.load rfl (tysOk.get rfl) rfl (by repeat (first | exact Has.here | apply Has.there)) rfl) rfl ?_))) | ((with_reducible refine Knd.fieldAddr ?_); ((refine Exec.stab rfl (Stab.fieldZ rfl (tysOk.get rfl) rfl rfl (tysOk.get rfl) rfl) rfl ?_))) | ((with_reducible refine Knd.len ?_); ((refine Exec.stab rfl (Stab.len rfl (tysOk.get rfl) rfl) rfl ?_))) | ((with_reducible refine Knd.binOp ?_); ((refine Exec.stab rfl (Stab.int rfl rfl rfl) rfl ?_))))) | (with_reducible refine Tr.next ?_) | (with_reducible refine Tr.seq ?_) | (with_reducible refine Tr.region ?_) | (with_reducible refine Tr.nil ?_) | (with_reducible refine Tr.skip ?_) | (with_reducible refine Tr.block ?_) | (refine Tr.cond_t rfl (by first | (with_reducible assumption) | omega) ?_))
      (((apply Tr.draw); (kernel_rfl)); (refine TrA.take 0 (by kernel_rfl) rfl (by kernel_rfl) (by exact fun _ _ _ h => h) (by exact fun _ h => h) rfl (by exact Stab.fieldZ rfl (tysOk.get rfl) rfl rfl (tysOk.get rfl) rfl) rfl rfl ?_); (refine TrA.take 1 (by kernel_rfl) rfl (by kernel_rfl) (by exact fun _ _ _ h => h) (by exact fun _ h => h) rfl (by exact Stab.load rfl (tysOk.get rfl) rfl (by repeat (first | exact Has.here | apply Has.there)) rfl) rfl rfl ?_); (refine TrA.take 2 (by kernel_rfl) rfl (by kernel_rfl) (by exact fun _ _ _ h => h) (by exact fun _ h => h) rfl (by first | exact Stab.move rfl) rfl rfl ?_); (refine TrA.take 3 (by kernel_rfl) rfl (by kernel_rfl) (by exact fun _ _ _ h => h) (by exact fun _ h => h) rfl (by exact Stab.indexAddr rfl rfl (tysOk.get rfl) rfl (tysOk.get rfl) rfl (by omega) (by omega) (by first | rfl | assumption)) rfl rfl ?_); (refine TrA.take 4 (by kernel_rfl) rfl (by kernel_rfl) (by exact fun _ _ _ h => h) (by exact fun _ h => h) rfl (by exact Stab.loadM rfl (tysOk.get rfl) rfl (by assumption)) rfl rfl ?_); (refine TrA.take 5 (by kernel_rfl) rfl (by kernel_rfl) (by exact fun _ _ _ h => h) (by exact fun _ h => h) rfl (by exact Stab.bstrB rfl (tysOk.get rfl) (tysOk.get rfl) rfl rfl (tysOk.get rfl) rfl (by assumption)) rfl rfl ?_); (refine TrA.take 6 (by kernel_rfl) rfl (by kernel_rfl) (by exact fun _ _ _ h => h) (by exact fun _ h => h) rfl (by exact Stab.fieldZ rfl (tysOk.get rfl) rfl rfl (tysOk.get rfl) rfl) rfl rfl ?_); (refine TrA.take 7 (by kernel_rfl) rfl (by kernel_rfl) (by exact fun _ _ _ h => h) (by exact fun _ h => h) rfl (by exact Stab.load rfl (tysOk.get rfl) rfl (by repeat (first | exact Has.here | apply Has.there)) rfl) rfl rfl ?_); (refine TrA.take 8 (by kernel_rfl) rfl (by kernel_rfl) (by exact fun _ _ _ h => h) (by exact fun _ h => h) rfl (by first | exact Stab.move rfl) rfl rfl ?_); (refine TrA.take 9 (by kernel_rfl) rfl (by kernel_rfl) (by exact fun _ _ _ h => h) (by exact fun _ h => h) rfl (by exact Stab.indexAddr rfl rfl (tysOk.get rfl) rfl (tysOk.get rfl) rfl (by omega) (by omega) (by first | rfl | assumption)) rfl rfl ?_); (refine TrA.take 10 (by kernel_rfl) rfl (by kernel_rfl) (by exact fun _ _ _ h => h) (by exact fun _ h => h) rfl (by exact Stab.loadM rfl (tysOk.get rfl) rfl (by assumption)) rfl rfl ?_); (refine TrA.take 11 (by kernel_rfl) rfl (by kernel_rfl) (by exact fun _ _ _ h => h) (by exact fun _ h => h) rfl (by exact Stab.bstrB rfl (tysOk.get rfl) (tysOk.get rfl) rfl rfl (tysOk.get rfl) rfl (by assumption)) rfl rfl ?_); (refine TrA.take 12 (by kernel_rfl) rfl (by kernel_rfl) (by exact fun _ _ _ h => h) (by exact fun _ h => h) rfl (by exact Stab.strne rfl rfl) rfl rfl ?_); (refine TrA.done (by kernel_rfl) ?_))
      repeat (first | ((with_reducible refine Tr.step rfl ?_); (first | ((with_reducible refine Knd.move ?_); (refine Exec.stab rfl (Stab.move rfl) rfl ?_)) | ((with_reducible refine Knd.assign ?_); (refine Exec.stab rfl (Stab.assign rfl) rfl ?_)) | ((with_reducible refine Knd.binOp ?_); ((refine Exec.stab rfl (Stab.addi rfl rfl (by omega)) rfl ?_))))) | (with_reducible refine Tr.next ?_) | (with_reducible refine Tr.region ?_) | (with_reducible refine Tr.nil ?_) | (with_reducible refine Tr.skip ?_) | (with_reducible refine Tr.in_normal ?_) | (refine Tr.cond_f rfl (by (with_reducible assumption)) ?_))
      refine Tr.again (i + 1) ⟨by omega, take_step hx hy heq (by simpa using hxy)⟩ (by omega) (holds_sub (by repeat (first | exact SubFr.nil | refine SubFr.cons rfl ?_)) (by repeat (first | exact DropL.refl | apply DropL.skip)))
  · have es : sec1 = sec2 := take_full (by omega) (by omega) heq
    repeat (first | ((with_reducible refine Tr.step rfl ?_); (first | ((with_reducible refine Knd.move ?_); (refine Exec.stab rfl (Stab.move rfl) rfl ?_)) | ((with_reducible refine Knd.assign ?_); (refine Exec.stab rfl (Stab.assign rfl) rfl ?_)) | ((with_reducible refine Knd.load ?_); ((refine Exec.stab rfl (Stab.load rfl (tysOk.get rfl) rfl (by repeat (first | exact Has.here | apply Has.there)) rfl) rfl ?_))) | ((with_reducible refine Knd.fieldAddr ?_); ((refine Exec.stab rfl (Stab.fieldZ rfl (tysOk.get rfl) rfl rfl (tysOk.get rfl) rfl) rfl ?_))) | ((with_reducible refine Knd.len ?_); ((refine Exec.stab rfl (Stab.len rfl (tysOk.get rfl) rfl) rfl ?_))) | ((with_reducible refine Knd.binOp ?_); ((refine Exec.stab rfl (Stab.int rfl rfl rfl) rfl ?_))))) | (with_reducible refine Tr.next ?_) | (with_reducible refine Tr.seq ?_) | (with_reducible refine Tr.region ?_) | (with_reducible refine Tr.nil ?_) | (with_reducible refine Tr.block ?_) | (with_reducible refine Tr.exit ?_) | (with_reducible refine Tr.then_exit ?_) | ((with_reducible refine Tr.in_exit ?_ ?_); (exact rfl)) | (refine Tr.cond_f rfl (by first | (with_reducible assumption) | omega) ?_))
    refine Tr.loop (α := Nat) (fun i => ⟨94, [(6, .int .i64 i), (4, .bool false), (3, .pointer (some ⟨_, 0, none⟩)), (2, .pointer (some ⟨_, 0, none⟩))], [], M, _⟩) (fun i => i ≤ pen1.length ∧ pen1.take i = pen2.take i) (fun i => pen1.length - i) 0 ⟨Nat.zero_le _, rfl⟩ (holds_sub (by repeat (first | exact SubFr.nil | refine SubFr.cons rfl ?_)) (by repeat (first | exact DropL.refl | apply DropL.skip))) (fun i hi => ?_)
    obtain ⟨hi2, heq2⟩ := hi
    by_cases hlt2 : i < pen1.length
    · obtain ⟨x, hx⟩ := get_of_lt hlt2
      obtain ⟨y, hy⟩ := get_of_lt (show i < pen2.length by omega)
      obtain ⟨hA1, ch1, hat1, A1, k1, rfl, hb1⟩ := h2.elem hx
      obtain ⟨hA2, ch2, hat2, A2, k2, rfl, hb2⟩ := h4.elem hy
      have hat1z := hat1.drop 0
      have hat2z := hat2.drop 0
      have hat1t := hat1.tail
      have hat2t := hat2.tail
      have hne : x ≠ y → ¬ sameP ⟨sec1, pen1, left1, stop1⟩ ⟨sec2, pen2, left2, stop2⟩ := fun hxy h => hxy (by
        have h0 : pen1 = pen2 := h.2.1
        subst h0; rw [hx] at hy; cases hy; rfl)
      by_cases ha : x.1 = y.1
      · by_cases hxy : x.2 ≠ y.2
        · have hn := hne (fun h => hxy (by rw [h]))
          repeat (first | ((with_reducible refine Tr.step rfl ?_); (first | ((with_reducible refine Knd.move ?_); (refine Exec.stab rfl (Stab.move rfl) rfl ?_)) | ((with_reducible refine Knd.load ?_); ((refine Exec.stab rfl (Stab.load rfl (tysOk.get rfl) rfl (by repeat (first | exact Has.here | apply Has.there)) rfl) rfl ?_))) | ((with_reducible refine Knd.fieldAddr ?_); ((refine Exec.stab rfl (Stab.fieldZ rfl (tysOk.get rfl) rfl rfl (tysOk.get rfl) rfl) rfl ?_))) | ((with_reducible refine Knd.len ?_); ((refine Exec.stab rfl (Stab.len rfl (tysOk.get rfl) rfl) rfl ?_))) | ((with_reducible refine Knd.binOp ?_); ((refine Exec.stab rfl (Stab.int rfl rfl rfl) rfl ?_))))) | (with_reducible refine Tr.next ?_) | (with_reducible refine Tr.seq ?_) | (with_reducible refine Tr.region ?_) | (with_reducible refine Tr.nil ?_) | (with_reducible refine Tr.skip ?_) | (with_reducible refine Tr.block ?_) | (refine Tr.cond_t rfl (by first | (with_reducible assumption) | omega) ?_))
          (((apply Tr.draw); (kernel_rfl)); (refine TrA.take 0 (by kernel_rfl) rfl (by kernel_rfl) (by exact fun _ _ _ h => h) (by exact fun _ h => h) rfl (by exact Stab.fieldZ rfl (tysOk.get rfl) rfl rfl (tysOk.get rfl) rfl) rfl rfl ?_); (refine TrA.take 1 (by kernel_rfl) rfl (by kernel_rfl) (by exact fun _ _ _ h => h) (by exact fun _ h => h) rfl (by exact Stab.load rfl (tysOk.get rfl) rfl (by repeat (first | exact Has.here | apply Has.there)) rfl) rfl rfl ?_); (refine TrA.take 2 (by kernel_rfl) rfl (by kernel_rfl) (by exact fun _ _ _ h => h) (by exact fun _ h => h) rfl (by first | exact Stab.move rfl) rfl rfl ?_); (refine TrA.take 3 (by kernel_rfl) rfl (by kernel_rfl) (by exact fun _ _ _ h => h) (by exact fun _ h => h) rfl (by exact Stab.indexAddr rfl rfl (tysOk.get rfl) rfl (tysOk.get rfl) rfl (by omega) (by omega) (by first | rfl | assumption)) rfl rfl ?_); (refine TrA.take 4 (by kernel_rfl) rfl (by kernel_rfl) (by exact fun _ _ _ h => h) (by exact fun _ h => h) rfl (by exact Stab.fieldD rfl (tysOk.get rfl) rfl rfl (tysOk.get rfl) rfl) rfl rfl ?_); (refine TrA.take 5 (by kernel_rfl) rfl (by kernel_rfl) (by exact fun _ _ _ h => h) (by exact fun _ h => h) rfl (by exact Stab.loadM rfl (tysOk.get rfl) rfl (by assumption)) rfl rfl ?_); (refine TrA.take 6 (by kernel_rfl) rfl (by kernel_rfl) (by exact fun _ _ _ h => h) (by exact fun _ h => h) rfl (by exact Stab.fieldZ rfl (tysOk.get rfl) rfl rfl (tysOk.get rfl) rfl) rfl rfl ?_); (refine TrA.take 7 (by kernel_rfl) rfl (by kernel_rfl) (by exact fun _ _ _ h => h) (by exact fun _ h => h) rfl (by exact Stab.load rfl (tysOk.get rfl) rfl (by repeat (first | exact Has.here | apply Has.there)) rfl) rfl rfl ?_); (refine TrA.take 8 (by kernel_rfl) rfl (by kernel_rfl) (by exact fun _ _ _ h => h) (by exact fun _ h => h) rfl (by first | exact Stab.move rfl) rfl rfl ?_); (refine TrA.take 9 (by kernel_rfl) rfl (by kernel_rfl) (by exact fun _ _ _ h => h) (by exact fun _ h => h) rfl (by exact Stab.indexAddr rfl rfl (tysOk.get rfl) rfl (tysOk.get rfl) rfl (by omega) (by omega) (by first | rfl | assumption)) rfl rfl ?_); (refine TrA.take 10 (by kernel_rfl) rfl (by kernel_rfl) (by exact fun _ _ _ h => h) (by exact fun _ h => h) rfl (by exact Stab.fieldD rfl (tysOk.get rfl) rfl rfl (tysOk.get rfl) rfl) rfl rfl ?_); (refine TrA.take 11 (by kernel_rfl) rfl (by kernel_rfl) (by exact fun _ _ _ h => h) (by exact fun _ h => h) rfl (by exact Stab.loadM rfl (tysOk.get rfl) rfl (by assumption)) rfl rfl ?_); (refine TrA.take 12 (by kernel_rfl) rfl (by kernel_rfl) (by exact fun _ _ _ h => h) (by exact fun _ h => h) rfl (by exact Stab.int rfl rfl rfl) rfl rfl ?_); (refine TrA.take 13 (by kernel_rfl) rfl (by kernel_rfl) (by exact fun _ _ _ h => h) (by exact fun _ h => h) rfl (by first | exact Stab.move rfl) rfl rfl ?_); ((refine TrA.takeg 14 (by kernel_rfl) rfl (by kernel_rfl) (by exact fun _ _ _ h => h) (by exact fun _ h => h) rfl rfl rfl (decide_eq_false (by omega)) (by exact Stab.fieldZ rfl (tysOk.get rfl) rfl rfl (tysOk.get rfl) rfl) rfl rfl ?_)); ((refine TrA.takeg 15 (by kernel_rfl) rfl (by kernel_rfl) (by exact fun _ _ _ h => h) (by exact fun _ h => h) rfl rfl rfl (decide_eq_false (by omega)) (by exact Stab.load rfl (tysOk.get rfl) rfl (by repeat (first | exact Has.here | apply Has.there)) rfl) rfl rfl ?_)); ((refine TrA.takeg 16 (by kernel_rfl) rfl (by kernel_rfl) (by exact fun _ _ _ h => h) (by exact fun _ h => h) rfl rfl rfl (decide_eq_false (by omega)) (by first | exact Stab.move rfl) rfl rfl ?_)); ((refine TrA.takeg 17 (by kernel_rfl) rfl (by kernel_rfl) (by exact fun _ _ _ h => h) (by exact fun _ h => h) rfl rfl rfl (decide_eq_false (by omega)) (by exact Stab.indexAddr rfl rfl (tysOk.get rfl) rfl (tysOk.get rfl) rfl (by omega) (by omega) (by first | rfl | assumption)) rfl rfl ?_)); ((refine TrA.takeg 18 (by kernel_rfl) rfl (by kernel_rfl) (by exact fun _ _ _ h => h) (by exact fun _ h => h) rfl rfl rfl (decide_eq_false (by omega)) (by exact Stab.fieldD rfl (tysOk.get rfl) rfl rfl (tysOk.get rfl) rfl) rfl rfl ?_)); ((refine TrA.takeg 19 (by kernel_rfl) rfl (by kernel_rfl) (by exact fun _ _ _ h => h) (by exact fun _ h => h) rfl rfl rfl (decide_eq_false (by omega)) (by exact Stab.loadM rfl (tysOk.get rfl) rfl (by assumption)) rfl rfl ?_)); ((refine TrA.takeg 20 (by kernel_rfl) rfl (by kernel_rfl) (by exact fun _ _ _ h => h) (by exact fun _ h => h) rfl rfl rfl (decide_eq_false (by omega)) (by exact Stab.bstrB rfl (tysOk.get rfl) (tysOk.get rfl) rfl rfl (tysOk.get rfl) rfl (by assumption)) rfl rfl ?_)); ((refine TrA.takeg 21 (by kernel_rfl) rfl (by kernel_rfl) (by exact fun _ _ _ h => h) (by exact fun _ h => h) rfl rfl rfl (decide_eq_false (by omega)) (by exact Stab.fieldZ rfl (tysOk.get rfl) rfl rfl (tysOk.get rfl) rfl) rfl rfl ?_)); ((refine TrA.takeg 22 (by kernel_rfl) rfl (by kernel_rfl) (by exact fun _ _ _ h => h) (by exact fun _ h => h) rfl rfl rfl (decide_eq_false (by omega)) (by exact Stab.load rfl (tysOk.get rfl) rfl (by repeat (first | exact Has.here | apply Has.there)) rfl) rfl rfl ?_)); ((refine TrA.takeg 23 (by kernel_rfl) rfl (by kernel_rfl) (by exact fun _ _ _ h => h) (by exact fun _ h => h) rfl rfl rfl (decide_eq_false (by omega)) (by first | exact Stab.move rfl) rfl rfl ?_)); ((refine TrA.takeg 24 (by kernel_rfl) rfl (by kernel_rfl) (by exact fun _ _ _ h => h) (by exact fun _ h => h) rfl rfl rfl (decide_eq_false (by omega)) (by exact Stab.indexAddr rfl rfl (tysOk.get rfl) rfl (tysOk.get rfl) rfl (by omega) (by omega) (by first | rfl | assumption)) rfl rfl ?_)); ((refine TrA.takeg 25 (by kernel_rfl) rfl (by kernel_rfl) (by exact fun _ _ _ h => h) (by exact fun _ h => h) rfl rfl rfl (decide_eq_false (by omega)) (by exact Stab.fieldD rfl (tysOk.get rfl) rfl rfl (tysOk.get rfl) rfl) rfl rfl ?_)); ((refine TrA.takeg 26 (by kernel_rfl) rfl (by kernel_rfl) (by exact fun _ _ _ h => h) (by exact fun _ h => h) rfl rfl rfl (decide_eq_false (by omega)) (by exact Stab.loadM rfl (tysOk.get rfl) rfl (by assumption)) rfl rfl ?_)); ((refine TrA.takeg 27 (by kernel_rfl) rfl (by kernel_rfl) (by exact fun _ _ _ h => h) (by exact fun _ h => h) rfl rfl rfl (decide_eq_false (by omega)) (by exact Stab.bstrB rfl (tysOk.get rfl) (tysOk.get rfl) rfl rfl (tysOk.get rfl) rfl (by assumption)) rfl rfl ?_)); ((refine TrA.takeg 28 (by kernel_rfl) rfl (by kernel_rfl) (by exact fun _ _ _ h => h) (by exact fun _ h => h) rfl rfl rfl (decide_eq_false (by omega)) (by exact Stab.strne rfl rfl) rfl rfl ?_)); (refine TrA.take 29 (by kernel_rfl) rfl (by kernel_rfl) (by exact fun _ _ _ h => h) (by exact fun _ h => h) rfl (by exact Stab.pick_fd rfl (by omega) rfl) rfl rfl ?_); (refine TrA.done (by kernel_rfl) ?_))
          repeat (first | ((with_reducible refine Tr.step rfl ?_); (((with_reducible refine Knd.assign ?_); (refine Exec.stab rfl (Stab.assign rfl) rfl ?_)))) | (with_reducible refine Tr.next ?_) | (with_reducible refine Tr.seq ?_) | (with_reducible refine Tr.region ?_) | (with_reducible refine Tr.nil ?_) | (with_reducible refine Tr.ret ?_) | (with_reducible refine Tr.then_ret ?_) | (with_reducible refine Tr.in_ret ?_) | (refine Tr.cond_t rfl (by (with_reducible assumption)) ?_))
          (refine Tr.done (by first | exact .inl rfl | exact .inr rfl) rfl (by repeat (first | exact RVs.nil | (apply RVs.cons; (exact RV.tmp rfl)))) (by first | exact Mem.le.refl _ | assumption) (by exact ⟨[_, _], rfl⟩) ⟨rfl, ?_⟩)
          exact ⟨by rw [decide_eq_false hn]; rfl, rfl⟩
        · repeat (first | ((with_reducible refine Tr.step rfl ?_); (first | ((with_reducible refine Knd.move ?_); (refine Exec.stab rfl (Stab.move rfl) rfl ?_)) | ((with_reducible refine Knd.load ?_); ((refine Exec.stab rfl (Stab.load rfl (tysOk.get rfl) rfl (by repeat (first | exact Has.here | apply Has.there)) rfl) rfl ?_))) | ((with_reducible refine Knd.fieldAddr ?_); ((refine Exec.stab rfl (Stab.fieldZ rfl (tysOk.get rfl) rfl rfl (tysOk.get rfl) rfl) rfl ?_))) | ((with_reducible refine Knd.len ?_); ((refine Exec.stab rfl (Stab.len rfl (tysOk.get rfl) rfl) rfl ?_))) | ((with_reducible refine Knd.binOp ?_); ((refine Exec.stab rfl (Stab.int rfl rfl rfl) rfl ?_))))) | (with_reducible refine Tr.next ?_) | (with_reducible refine Tr.seq ?_) | (with_reducible refine Tr.region ?_) | (with_reducible refine Tr.nil ?_) | (with_reducible refine Tr.skip ?_) | (with_reducible refine Tr.block ?_) | (refine Tr.cond_t rfl (by first | (with_reducible assumption) | omega) ?_))
          (((apply Tr.draw); (kernel_rfl)); (refine TrA.take 0 (by kernel_rfl) rfl (by kernel_rfl) (by exact fun _ _ _ h => h) (by exact fun _ h => h) rfl (by exact Stab.fieldZ rfl (tysOk.get rfl) rfl rfl (tysOk.get rfl) rfl) rfl rfl ?_); (refine TrA.take 1 (by kernel_rfl) rfl (by kernel_rfl) (by exact fun _ _ _ h => h) (by exact fun _ h => h) rfl (by exact Stab.load rfl (tysOk.get rfl) rfl (by repeat (first | exact Has.here | apply Has.there)) rfl) rfl rfl ?_); (refine TrA.take 2 (by kernel_rfl) rfl (by kernel_rfl) (by exact fun _ _ _ h => h) (by exact fun _ h => h) rfl (by first | exact Stab.move rfl) rfl rfl ?_); (refine TrA.take 3 (by kernel_rfl) rfl (by kernel_rfl) (by exact fun _ _ _ h => h) (by exact fun _ h => h) rfl (by exact Stab.indexAddr rfl rfl (tysOk.get rfl) rfl (tysOk.get rfl) rfl (by omega) (by omega) (by first | rfl | assumption)) rfl rfl ?_); (refine TrA.take 4 (by kernel_rfl) rfl (by kernel_rfl) (by exact fun _ _ _ h => h) (by exact fun _ h => h) rfl (by exact Stab.fieldD rfl (tysOk.get rfl) rfl rfl (tysOk.get rfl) rfl) rfl rfl ?_); (refine TrA.take 5 (by kernel_rfl) rfl (by kernel_rfl) (by exact fun _ _ _ h => h) (by exact fun _ h => h) rfl (by exact Stab.loadM rfl (tysOk.get rfl) rfl (by assumption)) rfl rfl ?_); (refine TrA.take 6 (by kernel_rfl) rfl (by kernel_rfl) (by exact fun _ _ _ h => h) (by exact fun _ h => h) rfl (by exact Stab.fieldZ rfl (tysOk.get rfl) rfl rfl (tysOk.get rfl) rfl) rfl rfl ?_); (refine TrA.take 7 (by kernel_rfl) rfl (by kernel_rfl) (by exact fun _ _ _ h => h) (by exact fun _ h => h) rfl (by exact Stab.load rfl (tysOk.get rfl) rfl (by repeat (first | exact Has.here | apply Has.there)) rfl) rfl rfl ?_); (refine TrA.take 8 (by kernel_rfl) rfl (by kernel_rfl) (by exact fun _ _ _ h => h) (by exact fun _ h => h) rfl (by first | exact Stab.move rfl) rfl rfl ?_); (refine TrA.take 9 (by kernel_rfl) rfl (by kernel_rfl) (by exact fun _ _ _ h => h) (by exact fun _ h => h) rfl (by exact Stab.indexAddr rfl rfl (tysOk.get rfl) rfl (tysOk.get rfl) rfl (by omega) (by omega) (by first | rfl | assumption)) rfl rfl ?_); (refine TrA.take 10 (by kernel_rfl) rfl (by kernel_rfl) (by exact fun _ _ _ h => h) (by exact fun _ h => h) rfl (by exact Stab.fieldD rfl (tysOk.get rfl) rfl rfl (tysOk.get rfl) rfl) rfl rfl ?_); (refine TrA.take 11 (by kernel_rfl) rfl (by kernel_rfl) (by exact fun _ _ _ h => h) (by exact fun _ h => h) rfl (by exact Stab.loadM rfl (tysOk.get rfl) rfl (by assumption)) rfl rfl ?_); (refine TrA.take 12 (by kernel_rfl) rfl (by kernel_rfl) (by exact fun _ _ _ h => h) (by exact fun _ h => h) rfl (by exact Stab.int rfl rfl rfl) rfl rfl ?_); (refine TrA.take 13 (by kernel_rfl) rfl (by kernel_rfl) (by exact fun _ _ _ h => h) (by exact fun _ h => h) rfl (by first | exact Stab.move rfl) rfl rfl ?_); ((refine TrA.takeg 14 (by kernel_rfl) rfl (by kernel_rfl) (by exact fun _ _ _ h => h) (by exact fun _ h => h) rfl rfl rfl (decide_eq_false (by omega)) (by exact Stab.fieldZ rfl (tysOk.get rfl) rfl rfl (tysOk.get rfl) rfl) rfl rfl ?_)); ((refine TrA.takeg 15 (by kernel_rfl) rfl (by kernel_rfl) (by exact fun _ _ _ h => h) (by exact fun _ h => h) rfl rfl rfl (decide_eq_false (by omega)) (by exact Stab.load rfl (tysOk.get rfl) rfl (by repeat (first | exact Has.here | apply Has.there)) rfl) rfl rfl ?_)); ((refine TrA.takeg 16 (by kernel_rfl) rfl (by kernel_rfl) (by exact fun _ _ _ h => h) (by exact fun _ h => h) rfl rfl rfl (decide_eq_false (by omega)) (by first | exact Stab.move rfl) rfl rfl ?_)); ((refine TrA.takeg 17 (by kernel_rfl) rfl (by kernel_rfl) (by exact fun _ _ _ h => h) (by exact fun _ h => h) rfl rfl rfl (decide_eq_false (by omega)) (by exact Stab.indexAddr rfl rfl (tysOk.get rfl) rfl (tysOk.get rfl) rfl (by omega) (by omega) (by first | rfl | assumption)) rfl rfl ?_)); ((refine TrA.takeg 18 (by kernel_rfl) rfl (by kernel_rfl) (by exact fun _ _ _ h => h) (by exact fun _ h => h) rfl rfl rfl (decide_eq_false (by omega)) (by exact Stab.fieldD rfl (tysOk.get rfl) rfl rfl (tysOk.get rfl) rfl) rfl rfl ?_)); ((refine TrA.takeg 19 (by kernel_rfl) rfl (by kernel_rfl) (by exact fun _ _ _ h => h) (by exact fun _ h => h) rfl rfl rfl (decide_eq_false (by omega)) (by exact Stab.loadM rfl (tysOk.get rfl) rfl (by assumption)) rfl rfl ?_)); ((refine TrA.takeg 20 (by kernel_rfl) rfl (by kernel_rfl) (by exact fun _ _ _ h => h) (by exact fun _ h => h) rfl rfl rfl (decide_eq_false (by omega)) (by exact Stab.bstrB rfl (tysOk.get rfl) (tysOk.get rfl) rfl rfl (tysOk.get rfl) rfl (by assumption)) rfl rfl ?_)); ((refine TrA.takeg 21 (by kernel_rfl) rfl (by kernel_rfl) (by exact fun _ _ _ h => h) (by exact fun _ h => h) rfl rfl rfl (decide_eq_false (by omega)) (by exact Stab.fieldZ rfl (tysOk.get rfl) rfl rfl (tysOk.get rfl) rfl) rfl rfl ?_)); ((refine TrA.takeg 22 (by kernel_rfl) rfl (by kernel_rfl) (by exact fun _ _ _ h => h) (by exact fun _ h => h) rfl rfl rfl (decide_eq_false (by omega)) (by exact Stab.load rfl (tysOk.get rfl) rfl (by repeat (first | exact Has.here | apply Has.there)) rfl) rfl rfl ?_)); ((refine TrA.takeg 23 (by kernel_rfl) rfl (by kernel_rfl) (by exact fun _ _ _ h => h) (by exact fun _ h => h) rfl rfl rfl (decide_eq_false (by omega)) (by first | exact Stab.move rfl) rfl rfl ?_)); ((refine TrA.takeg 24 (by kernel_rfl) rfl (by kernel_rfl) (by exact fun _ _ _ h => h) (by exact fun _ h => h) rfl rfl rfl (decide_eq_false (by omega)) (by exact Stab.indexAddr rfl rfl (tysOk.get rfl) rfl (tysOk.get rfl) rfl (by omega) (by omega) (by first | rfl | assumption)) rfl rfl ?_)); ((refine TrA.takeg 25 (by kernel_rfl) rfl (by kernel_rfl) (by exact fun _ _ _ h => h) (by exact fun _ h => h) rfl rfl rfl (decide_eq_false (by omega)) (by exact Stab.fieldD rfl (tysOk.get rfl) rfl rfl (tysOk.get rfl) rfl) rfl rfl ?_)); ((refine TrA.takeg 26 (by kernel_rfl) rfl (by kernel_rfl) (by exact fun _ _ _ h => h) (by exact fun _ h => h) rfl rfl rfl (decide_eq_false (by omega)) (by exact Stab.loadM rfl (tysOk.get rfl) rfl (by assumption)) rfl rfl ?_)); ((refine TrA.takeg 27 (by kernel_rfl) rfl (by kernel_rfl) (by exact fun _ _ _ h => h) (by exact fun _ h => h) rfl rfl rfl (decide_eq_false (by omega)) (by exact Stab.bstrB rfl (tysOk.get rfl) (tysOk.get rfl) rfl rfl (tysOk.get rfl) rfl (by assumption)) rfl rfl ?_)); ((refine TrA.takeg 28 (by kernel_rfl) rfl (by kernel_rfl) (by exact fun _ _ _ h => h) (by exact fun _ h => h) rfl rfl rfl (decide_eq_false (by omega)) (by exact Stab.strne rfl rfl) rfl rfl ?_)); (refine TrA.take 29 (by kernel_rfl) rfl (by kernel_rfl) (by exact fun _ _ _ h => h) (by exact fun _ h => h) rfl (by exact Stab.pick_fd rfl (by omega) rfl) rfl rfl ?_); (refine TrA.done (by kernel_rfl) ?_))
          repeat (first | ((with_reducible refine Tr.step rfl ?_); (first | ((with_reducible refine Knd.move ?_); (refine Exec.stab rfl (Stab.move rfl) rfl ?_)) | ((with_reducible refine Knd.assign ?_); (refine Exec.stab rfl (Stab.assign rfl) rfl ?_)) | ((with_reducible refine Knd.binOp ?_); ((refine Exec.stab rfl (Stab.addi rfl rfl (by omega)) rfl ?_))))) | (with_reducible refine Tr.next ?_) | (with_reducible refine Tr.region ?_) | (with_reducible refine Tr.nil ?_) | (with_reducible refine Tr.skip ?_) | (with_reducible refine Tr.in_normal ?_) | (refine Tr.cond_f rfl (by (with_reducible assumption)) ?_))
          refine Tr.again (i + 1) ⟨by omega, take_step hx hy heq2 (Prod.ext ha (by simpa using hxy))⟩ (by omega) (holds_sub (by repeat (first | exact SubFr.nil | refine SubFr.cons rfl ?_)) (by repeat (first | exact DropL.refl | apply DropL.skip)))
      · have hn := hne (fun h => ha (by rw [h]))
        repeat (first | ((with_reducible refine Tr.step rfl ?_); (first | ((with_reducible refine Knd.move ?_); (refine Exec.stab rfl (Stab.move rfl) rfl ?_)) | ((with_reducible refine Knd.load ?_); ((refine Exec.stab rfl (Stab.load rfl (tysOk.get rfl) rfl (by repeat (first | exact Has.here | apply Has.there)) rfl) rfl ?_))) | ((with_reducible refine Knd.fieldAddr ?_); ((refine Exec.stab rfl (Stab.fieldZ rfl (tysOk.get rfl) rfl rfl (tysOk.get rfl) rfl) rfl ?_))) | ((with_reducible refine Knd.len ?_); ((refine Exec.stab rfl (Stab.len rfl (tysOk.get rfl) rfl) rfl ?_))) | ((with_reducible refine Knd.binOp ?_); ((refine Exec.stab rfl (Stab.int rfl rfl rfl) rfl ?_))))) | (with_reducible refine Tr.next ?_) | (with_reducible refine Tr.seq ?_) | (with_reducible refine Tr.region ?_) | (with_reducible refine Tr.nil ?_) | (with_reducible refine Tr.skip ?_) | (with_reducible refine Tr.block ?_) | (refine Tr.cond_t rfl (by first | (with_reducible assumption) | omega) ?_))
        (((apply Tr.draw); (kernel_rfl)); (refine TrA.take 0 (by kernel_rfl) rfl (by kernel_rfl) (by exact fun _ _ _ h => h) (by exact fun _ h => h) rfl (by exact Stab.fieldZ rfl (tysOk.get rfl) rfl rfl (tysOk.get rfl) rfl) rfl rfl ?_); (refine TrA.take 1 (by kernel_rfl) rfl (by kernel_rfl) (by exact fun _ _ _ h => h) (by exact fun _ h => h) rfl (by exact Stab.load rfl (tysOk.get rfl) rfl (by repeat (first | exact Has.here | apply Has.there)) rfl) rfl rfl ?_); (refine TrA.take 2 (by kernel_rfl) rfl (by kernel_rfl) (by exact fun _ _ _ h => h) (by exact fun _ h => h) rfl (by first | exact Stab.move rfl) rfl rfl ?_); (refine TrA.take 3 (by kernel_rfl) rfl (by kernel_rfl) (by exact fun _ _ _ h => h) (by exact fun _ h => h) rfl (by exact Stab.indexAddr rfl rfl (tysOk.get rfl) rfl (tysOk.get rfl) rfl (by omega) (by omega) (by first | rfl | assumption)) rfl rfl ?_); (refine TrA.take 4 (by kernel_rfl) rfl (by kernel_rfl) (by exact fun _ _ _ h => h) (by exact fun _ h => h) rfl (by exact Stab.fieldD rfl (tysOk.get rfl) rfl rfl (tysOk.get rfl) rfl) rfl rfl ?_); (refine TrA.take 5 (by kernel_rfl) rfl (by kernel_rfl) (by exact fun _ _ _ h => h) (by exact fun _ h => h) rfl (by exact Stab.loadM rfl (tysOk.get rfl) rfl (by assumption)) rfl rfl ?_); (refine TrA.take 6 (by kernel_rfl) rfl (by kernel_rfl) (by exact fun _ _ _ h => h) (by exact fun _ h => h) rfl (by exact Stab.fieldZ rfl (tysOk.get rfl) rfl rfl (tysOk.get rfl) rfl) rfl rfl ?_); (refine TrA.take 7 (by kernel_rfl) rfl (by kernel_rfl) (by exact fun _ _ _ h => h) (by exact fun _ h => h) rfl (by exact Stab.load rfl (tysOk.get rfl) rfl (by repeat (first | exact Has.here | apply Has.there)) rfl) rfl rfl ?_); (refine TrA.take 8 (by kernel_rfl) rfl (by kernel_rfl) (by exact fun _ _ _ h => h) (by exact fun _ h => h) rfl (by first | exact Stab.move rfl) rfl rfl ?_); (refine TrA.take 9 (by kernel_rfl) rfl (by kernel_rfl) (by exact fun _ _ _ h => h) (by exact fun _ h => h) rfl (by exact Stab.indexAddr rfl rfl (tysOk.get rfl) rfl (tysOk.get rfl) rfl (by omega) (by omega) (by first | rfl | assumption)) rfl rfl ?_); (refine TrA.take 10 (by kernel_rfl) rfl (by kernel_rfl) (by exact fun _ _ _ h => h) (by exact fun _ h => h) rfl (by exact Stab.fieldD rfl (tysOk.get rfl) rfl rfl (tysOk.get rfl) rfl) rfl rfl ?_); (refine TrA.take 11 (by kernel_rfl) rfl (by kernel_rfl) (by exact fun _ _ _ h => h) (by exact fun _ h => h) rfl (by exact Stab.loadM rfl (tysOk.get rfl) rfl (by assumption)) rfl rfl ?_); (refine TrA.take 12 (by kernel_rfl) rfl (by kernel_rfl) (by exact fun _ _ _ h => h) (by exact fun _ h => h) rfl (by exact Stab.int rfl rfl rfl) rfl rfl ?_); (refine TrA.take 13 (by kernel_rfl) rfl (by kernel_rfl) (by exact fun _ _ _ h => h) (by exact fun _ h => h) rfl (by first | exact Stab.move rfl) rfl rfl ?_); ((refine TrA.takeu 14 (by kernel_rfl) rfl (by kernel_rfl) (by exact fun _ _ _ h => h) (by exact fun _ h => h) rfl rfl rfl (by first | rfl | (simp; done) | (simp; omega)) rfl rfl ?_)); ((refine TrA.takeu 15 (by kernel_rfl) rfl (by kernel_rfl) (by exact fun _ _ _ h => h) (by exact fun _ h => h) rfl rfl rfl (by first | rfl | (simp; done) | (simp; omega)) rfl rfl ?_)); ((refine TrA.takeu 16 (by kernel_rfl) rfl (by kernel_rfl) (by exact fun _ _ _ h => h) (by exact fun _ h => h) rfl rfl rfl (by first | rfl | (simp; done) | (simp; omega)) rfl rfl ?_)); ((refine TrA.takeu 17 (by kernel_rfl) rfl (by kernel_rfl) (by exact fun _ _ _ h => h) (by exact fun _ h => h) rfl rfl rfl (by first | rfl | (simp; done) | (simp; omega)) rfl rfl ?_)); ((refine TrA.takeu 18 (by kernel_rfl) rfl (by kernel_rfl) (by exact fun _ _ _ h => h) (by exact fun _ h => h) rfl rfl rfl (by first | rfl | (simp; done) | (simp; omega)) rfl rfl ?_)); ((refine TrA.takeu 19 (by kernel_rfl) rfl (by kernel_rfl) (by exact fun _ _ _ h => h) (by exact fun _ h => h) rfl rfl rfl (by first | rfl | (simp; done) | (simp; omega)) rfl rfl ?_)); ((refine TrA.takeu 20 (by kernel_rfl) rfl (by kernel_rfl) (by exact fun _ _ _ h => h) (by exact fun _ h => h) rfl rfl rfl (by first | rfl | (simp; done) | (simp; omega)) rfl rfl ?_)); ((refine TrA.takeu 21 (by kernel_rfl) rfl (by kernel_rfl) (by exact fun _ _ _ h => h) (by exact fun _ h => h) rfl rfl rfl (by first | rfl | (simp; done) | (simp; omega)) rfl rfl ?_)); ((refine TrA.takeu 22 (by kernel_rfl) rfl (by kernel_rfl) (by exact fun _ _ _ h => h) (by exact fun _ h => h) rfl rfl rfl (by first | rfl | (simp; done) | (simp; omega)) rfl rfl ?_)); ((refine TrA.takeu 23 (by kernel_rfl) rfl (by kernel_rfl) (by exact fun _ _ _ h => h) (by exact fun _ h => h) rfl rfl rfl (by first | rfl | (simp; done) | (simp; omega)) rfl rfl ?_)); ((refine TrA.takeu 24 (by kernel_rfl) rfl (by kernel_rfl) (by exact fun _ _ _ h => h) (by exact fun _ h => h) rfl rfl rfl (by first | rfl | (simp; done) | (simp; omega)) rfl rfl ?_)); ((refine TrA.takeu 25 (by kernel_rfl) rfl (by kernel_rfl) (by exact fun _ _ _ h => h) (by exact fun _ h => h) rfl rfl rfl (by first | rfl | (simp; done) | (simp; omega)) rfl rfl ?_)); ((refine TrA.takeu 26 (by kernel_rfl) rfl (by kernel_rfl) (by exact fun _ _ _ h => h) (by exact fun _ h => h) rfl rfl rfl (by first | rfl | (simp; done) | (simp; omega)) rfl rfl ?_)); ((refine TrA.takeu 27 (by kernel_rfl) rfl (by kernel_rfl) (by exact fun _ _ _ h => h) (by exact fun _ h => h) rfl rfl rfl (by first | rfl | (simp; done) | (simp; omega)) rfl rfl ?_)); ((refine TrA.takeu 28 (by kernel_rfl) rfl (by kernel_rfl) (by exact fun _ _ _ h => h) (by exact fun _ h => h) rfl rfl rfl (by first | rfl | (simp; done) | (simp; omega)) rfl rfl ?_)); (refine TrA.take 29 (by kernel_rfl) rfl (by kernel_rfl) (by exact fun _ _ _ h => h) (by exact fun _ h => h) rfl (by exact Stab.pick_td rfl (by (with_reducible assumption)) rfl) rfl rfl ?_); (refine TrA.done (by kernel_rfl) ?_))
        repeat (first | ((with_reducible refine Tr.step rfl ?_); (((with_reducible refine Knd.assign ?_); (refine Exec.stab rfl (Stab.assign rfl) rfl ?_)))) | (with_reducible refine Tr.next ?_) | (with_reducible refine Tr.seq ?_) | (with_reducible refine Tr.region ?_) | (with_reducible refine Tr.nil ?_) | (with_reducible refine Tr.ret ?_) | (with_reducible refine Tr.then_ret ?_) | (with_reducible refine Tr.in_ret ?_) | (refine Tr.cond_bt rfl (by (with_reducible rfl)) ?_))
        (refine Tr.done (by first | exact .inl rfl | exact .inr rfl) rfl (by repeat (first | exact RVs.nil | (apply RVs.cons; (exact RV.tmp rfl)))) (by first | exact Mem.le.refl _ | assumption) (by exact ⟨[_, _], rfl⟩) ⟨rfl, ?_⟩)
        exact ⟨by rw [decide_eq_false hn]; rfl, rfl⟩
    · have ep : pen1 = pen2 := take_full (by omega) (by omega) heq2
      have hy : sameP ⟨sec1, pen1, left1, stop1⟩ ⟨sec2, pen2, left2, stop2⟩ := ⟨es, ep, c3, by simpa using c4⟩
      repeat (first | ((with_reducible refine Tr.step rfl ?_); (first | ((with_reducible refine Knd.move ?_); (refine Exec.stab rfl (Stab.move rfl) rfl ?_)) | ((with_reducible refine Knd.assign ?_); (refine Exec.stab rfl (Stab.assign rfl) rfl ?_)) | ((with_reducible refine Knd.load ?_); ((refine Exec.stab rfl (Stab.load rfl (tysOk.get rfl) rfl (by repeat (first | exact Has.here | apply Has.there)) rfl) rfl ?_))) | ((with_reducible refine Knd.fieldAddr ?_); ((refine Exec.stab rfl (Stab.fieldZ rfl (tysOk.get rfl) rfl rfl (tysOk.get rfl) rfl) rfl ?_))) | ((with_reducible refine Knd.len ?_); ((refine Exec.stab rfl (Stab.len rfl (tysOk.get rfl) rfl) rfl ?_))) | ((with_reducible refine Knd.binOp ?_); ((refine Exec.stab rfl (Stab.int rfl rfl rfl) rfl ?_))))) | (with_reducible refine Tr.next ?_) | (with_reducible refine Tr.seq ?_) | (with_reducible refine Tr.region ?_) | (with_reducible refine Tr.nil ?_) | (with_reducible refine Tr.exit ?_) | (with_reducible refine Tr.ret ?_) | (with_reducible refine Tr.then_exit ?_) | ((with_reducible refine Tr.in_exit ?_ ?_); (exact rfl)) | (refine Tr.cond_f rfl (by first | (with_reducible assumption) | omega) ?_))
      (refine Tr.done (by first | exact .inl rfl | exact .inr rfl) rfl (by repeat (first | exact RVs.nil | (apply RVs.cons; (exact RV.tmp rfl)))) (by first | exact Mem.le.refl _ | assumption) (by exact ⟨[_, _], rfl⟩) ⟨rfl, ?_⟩)
      exact ⟨by rw [decide_eq_true hy]; rfl, rfl⟩
end Go.Proofs.Ytkbggengagockaa
/-
  The journal: the law JournalSyncSpec walked.
  Conditions: the records are not too many.
-/
namespace Go.Proofs.Ytkbggengagockaa
open Go Bf
attribute [local irreducible] Tr Exec Stab HasTy Go.Addr.add IntKind.wrap
theorem sameD_y (M : Mem) (v w : Value) (a : Dsk) (ha : RDisk M v a) (hb : RDisk M w a) : Fn0 Try.prog 23 [v, w] M (fun r M' => r = .bool true ∧ M = M') := by
  have := same_fn M v w a a ha hb
  rwa [decide_eq_true (show sameP a a from ⟨rfl, rfl, rfl, rfl⟩)] at this
set_option maxHeartbeats 8000000 in
theorem syncspec_fn (M : Mem) (v w : Value) (j : Jr) (d : Dsk) (h : RJr M v j) (hd : RDisk M w d) (ht : tot j.rcs ≤ 1048576) :
    Fn0 Try.prog 5 [v, w] M (fun r _ => r = .bool true) := by
  have hJ := h
  have hD := hd
  obtain ⟨A, c, rfl, h1⟩ := h
  obtain ⟨A2, c2, B2, k2, rfl, h2, h3⟩ := hd
  have ho := occs_tot j.rcs
  refine Fn.intro Try.func5 rfl rfl Try.ntmps5 rfl fun E F => ?_
  repeat (first | ((with_reducible refine Tr.step rfl ?_); (first | ((with_reducible refine Knd.assign ?_); (refine Exec.stab rfl (Stab.assign rfl) rfl ?_)) | ((with_reducible refine Knd.box ?_); ((refine Exec.box rfl rfl (fun b => ?_)))))) | (with_reducible refine Tr.next ?_) | (with_reducible refine Tr.seq ?_) | (with_reducible refine Tr.region ?_) | (with_reducible refine Tr.nil ?_))
  ((refine Tr.step rfl ?_)); refine Exec.call0 rfl (sane_jfn M) rfl ?_
  rintro _ M1 hm1 rfl
  repeat (first | ((with_reducible refine Tr.step rfl ?_); (first | ((with_reducible refine Knd.load ?_); (first | (refine Exec.stab rfl (Stab.load rfl (tysOk.get rfl) rfl (by repeat (first | exact Has.here | apply Has.there)) rfl) rfl ?_) | (refine Exec.stab rfl (Stab.loadW rfl (tysOk.get rfl) rfl (by repeat (first | exact Has.here | apply Has.there)) rfl) rfl ?_))) | ((with_reducible refine Knd.fieldAddr ?_); ((refine Exec.stab rfl (Stab.fieldZ rfl (tysOk.get rfl) rfl rfl (tysOk.get rfl) rfl) rfl ?_))) | ((with_reducible refine Knd.unOp ?_); ((refine Exec.stab rfl (Stab.not rfl) rfl ?_))))) | (with_reducible refine Tr.next ?_) | (with_reducible refine Tr.seq ?_) | (with_reducible refine Tr.region ?_) | (with_reducible refine Tr.nil ?_) | (with_reducible refine Tr.skip ?_) | (refine Tr.cond_bf rfl (by first | (with_reducible rfl) | (with_reducible exact Bool.not_true)) ?_))
  ((refine Tr.step rfl ?_)); refine Exec.call0 rfl (few_jfn M1 _ d A c j.rcs (hD.mono hm1) (h1.mono RSec.mono hm1) ht) rfl ?_
  rintro _ _ _ ⟨rfl, rfl⟩
  by_cases hf : fewP d j.rcs
  rotate_left
  · rw [decide_eq_false hf]
    repeat (first | ((with_reducible refine Tr.step rfl ?_); (first | ((with_reducible refine Knd.assign ?_); (refine Exec.stab rfl (Stab.assign rfl) rfl ?_)) | ((with_reducible refine Knd.unOp ?_); ((refine Exec.stab rfl (Stab.not rfl) rfl ?_))))) | (with_reducible refine Tr.next ?_) | (with_reducible refine Tr.seq ?_) | (with_reducible refine Tr.region ?_) | (with_reducible refine Tr.nil ?_) | (with_reducible refine Tr.ret ?_) | (with_reducible refine Tr.then_ret ?_) | (refine Tr.cond_bt rfl (by first | (with_reducible rfl) | (with_reducible exact Bool.not_false)) ?_))
    (refine Tr.done (by first | exact .inl rfl | exact .inr rfl) rfl (by repeat (first | exact RVs.nil | (apply RVs.cons; (exact RV.tmp rfl)))) (by first | exact Mem.le.refl _ | assumption) (by exact ⟨[_, _], rfl⟩) ⟨rfl, ?_⟩)
    rfl
  rw [decide_eq_true hf]
  repeat (first | ((with_reducible refine Tr.step rfl ?_); (first | ((with_reducible refine Knd.load ?_); ((refine Exec.stab rfl (Stab.loadW rfl (tysOk.get rfl) rfl (by repeat (first | exact Has.here | apply Has.there)) rfl) rfl ?_))) | ((with_reducible refine Knd.unOp ?_); ((refine Exec.stab rfl (Stab.not rfl) rfl ?_))))) | (with_reducible refine Tr.next ?_) | (with_reducible refine Tr.seq ?_) | (with_reducible refine Tr.region ?_) | (with_reducible refine Tr.nil ?_) | (with_reducible refine Tr.skip ?_) | (refine Tr.cond_bf rfl (by first | (with_reducible rfl) | (with_reducible exact Bool.not_true)) ?_))
  ((refine Tr.step rfl ?_)); refine Exec.call0 rfl (sync_jfn M1 _ _ j d (hJ.mono hm1) (hD.mono hm1) (by omega)) rfl ?_
  rintro _ M2 hm2 hP
  have hra := rsync_jfn M2 _ _ j d (hJ.mono (hm1.trans hm2)) (hD.mono (hm1.trans hm2)) (by omega)
  generalize syncJ j d = p at hP hra
  obtain ⟨x, y, e⟩ := p
  obtain ⟨A3, c3, A4, c4, B4, k4, rfl, hx, hy⟩ := hP.openJ
  repeat (first | ((with_reducible refine Tr.step rfl ?_); (first | ((with_reducible refine Knd.move ?_); (refine Exec.stab rfl (Stab.move rfl) rfl ?_)) | ((with_reducible refine Knd.assign ?_); (refine Exec.stab rfl (Stab.assign rfl) rfl ?_)) | ((with_reducible refine Knd.load ?_); ((refine Exec.stab rfl (Stab.loadW rfl (tysOk.get rfl) rfl (by repeat (first | exact Has.here | apply Has.there)) rfl) rfl ?_))) | ((with_reducible refine Knd.store ?_); ((refine Exec.storeW rfl rfl (tysOk.get rfl) (by repeat (first | exact Upd.here | apply Upd.there)) rfl rfl (by repeat (first | exact AllOne.nil | refine AllOne.cons (by first | rfl | assumption) ?_)) ?_))) | ((with_reducible refine Knd.alloc ?_); ((refine Exec.alloc (tysOk.get rfl) rfl rfl (fun b => ?_)))) | ((with_reducible refine Knd.extract ?_); (refine Exec.stab rfl (Stab.extract rfl rfl) rfl ?_)))) | (with_reducible refine Tr.next ?_) | (with_reducible refine Tr.seq ?_) | (with_reducible refine Tr.region ?_) | (with_reducible refine Tr.nil ?_))
  ((refine Tr.step rfl ?_)); refine Exec.call0 rfl (hra) rfl ?_
  rintro _ M3 hm3 hP2
  obtain ⟨A5, c5, A6, c6, B6, k6, rfl, hx2, hy2⟩ := hP2.openJ
  have hm13 := hm1.trans (hm2.trans hm3)
  have q1 := sameJ_y M3 _ _ x (hx.mono hm3) hx2
  have q2 := sameD_y M3 _ _ y (hy.mono hm3) hy2
  repeat (first | ((with_reducible refine Tr.step rfl ?_); (first | ((with_reducible refine Knd.move ?_); (refine Exec.stab rfl (Stab.move rfl) rfl ?_)) | ((with_reducible refine Knd.assign ?_); (refine Exec.stab rfl (Stab.assign rfl) rfl ?_)) | ((with_reducible refine Knd.load ?_); ((refine Exec.stab rfl (Stab.loadW rfl (tysOk.get rfl) rfl (by repeat (first | exact Has.here | apply Has.there)) rfl) rfl ?_))) | ((with_reducible refine Knd.store ?_); ((refine Exec.storeW rfl rfl (tysOk.get rfl) (by repeat (first | exact Upd.here | apply Upd.there)) rfl rfl (by repeat (first | exact AllOne.nil | refine AllOne.cons (by first | rfl | assumption) ?_)) ?_))) | ((with_reducible refine Knd.alloc ?_); ((refine Exec.alloc (tysOk.get rfl) rfl rfl (fun b => ?_)))) | ((with_reducible refine Knd.extract ?_); (refine Exec.stab rfl (Stab.extract rfl rfl) rfl ?_)))) | (with_reducible refine Tr.next ?_) | (with_reducible refine Tr.seq ?_) | (with_reducible refine Tr.region ?_) | (with_reducible refine Tr.nil ?_))
  ((refine Tr.step rfl ?_)); refine Exec.call0 rfl (q1) rfl ?_
  rintro _ _ _ ⟨rfl, rfl⟩
  repeat (first | ((with_reducible refine Tr.step rfl ?_); (((with_reducible refine Knd.move ?_); (refine Exec.stab rfl (Stab.move rfl) rfl ?_)))) | ((refine Tr.guard_l rfl rfl rfl (by (with_reducible rfl)) ?_); (((with_reducible refine Knd.load ?_); ((refine Exec.stab rfl (Stab.loadW rfl (tysOk.get rfl) rfl (by repeat (first | exact Has.here | apply Has.there)) rfl) rfl ?_))))))
  ((refine Tr.guard_l rfl rfl rfl (by (with_reducible rfl)) ?_)); refine Exec.call0 rfl (q2) rfl ?_
  rintro _ _ _ ⟨rfl, rfl⟩
  repeat (first | ((with_reducible refine Tr.step rfl ?_); (first | ((with_reducible refine Knd.move ?_); (refine Exec.stab rfl (Stab.move rfl) rfl ?_)) | ((with_reducible refine Knd.assign ?_); (refine Exec.stab rfl (Stab.assign rfl) rfl ?_)) | ((with_reducible refine Knd.pick ?_); ((refine Exec.stab rfl (Stab.pick_t rfl (by (with_reducible rfl)) rfl) rfl ?_))))) | (with_reducible refine Tr.next ?_) | (with_reducible refine Tr.nil ?_) | ((refine Tr.guard_l rfl rfl rfl (by (with_reducible rfl)) ?_); (first | ((with_reducible refine Knd.move ?_); (refine Exec.stab rfl (Stab.move rfl) rfl ?_)) | ((with_reducible refine Knd.binOp ?_); ((refine Exec.stab rfl (Stab.int rfl rfl rfl) rfl ?_))))) | (with_reducible refine Tr.ret ?_))
  (refine Tr.done (by first | exact .inl rfl | exact .inr rfl) rfl (by repeat (first | exact RVs.nil | (apply RVs.cons; (exact RV.tmp rfl)))) (by first | exact Mem.le.refl _ | assumption) (by exact ⟨[_, _, _, _, _, _], rfl⟩) ⟨rfl, ?_⟩)
  exact congrArg Value.bool (decide_eq_true rfl)
end Go.Proofs.Ytkbggengagockaa
/-
  The journal: how the arguments of the laws read, where what they read is bounded.
  Conditions: none.
-/
namespace Go.Proofs.Ytkbggengagockaa
open Go Bf
open Go.ChangeShapes Go.WideShapes Go.ChangeAt Go.RowKit
section
variable {H : Type}
theorem bulk_one (d : DataW H) : 1 ≤ Rows.uptoBulk d := by
  cases d with
  | lit l => cases l <;> simp [Rows.uptoBulk]
  | nil => simp [Rows.uptoBulk]
  | ptr d => simp [Rows.uptoBulk]
  | slice elems spare => simp [Rows.uptoBulk]
  | agg parts => simp [Rows.uptoBulk]
  | iface t d => simp [Rows.uptoBulk]
  | map entries => simp [Rows.uptoBulk]
  | held h => simp [Rows.uptoBulk]
theorem bulk_part {d : DataW H} : ∀ {l : List (DataW H)}, d ∈ l → Rows.uptoBulk d ≤ Rows.uptoBulkAll l
  | x :: r, h => by
    simp only [Rows.uptoBulkAll]
    rcases List.mem_cons.1 h with e | e
    · subst e; omega
    · have := bulk_part e; omega
theorem bulk_len : ∀ (l : List (DataW H)), l.length ≤ Rows.uptoBulkAll l
  | [] => Nat.zero_le _
  | x :: r => by
    have h1 := bulk_one x
    have h2 := bulk_len r
    simp only [Rows.uptoBulkAll, List.length_cons]; omega
theorem bulk_sum {α : Type} (m : α → Nat) : ∀ (xs : List α) (es : List (DataW H)), es.length = xs.length → (∀ (i : Nat) z d, xs[i]? = some z → es[i]? = some d → m z ≤ Rows.uptoBulk d) → (xs.map m).sum ≤ Rows.uptoBulkAll es
  | [], _, _, _ => Nat.zero_le _
  | x :: xs, [], h, _ => by cases h
  | x :: xs, e :: es, h, hm => by
    have h0 := hm 0 x e rfl rfl
    have ih := bulk_sum m xs es (by simpa using h) fun i z d hz hd => hm (i + 1) z d (by simpa using hz) (by simpa using hd)
    simp only [List.map_cons, List.sum_cons, Rows.uptoBulkAll]
    omega
theorem small_le {ds : List (DataW H)} (h : Rows.uptoSmall H ds = true) {j : Nat} {d : DataW H} (hd : ds[j]? = some d) : Rows.uptoBulk d ≤ 1048576 := by
  have h1 : Rows.uptoBulkAll ds ≤ 1048576 := of_decide_eq_true h
  have h2 := bulk_part (List.mem_of_getElem? hd)
  omega
end
theorem ownT' : ownKnob Try.prog.godebug = none := by kernel_rfl
theorem laidT' : laidOutB Try.prog = true := by kernel_rfl
theorem u3 : Try.prog.underlying 3 = some (.int .i64) := (tysOk.get (t := 3) rfl).1
theorem u5 : Try.prog.underlying 5 = some (.int .u8) := (tysOk.get (t := 5) rfl).1
theorem u22 : Try.prog.underlying 22 = some (.slice 35) := (tysOk.get (t := 22) rfl).1
theorem u35 : Try.prog.underlying 35 = some (.slice 5) := (tysOk.get (t := 35) rfl).1
theorem c3 : Try.prog.cellsOf 3 = 1 := by kernel_rfl
theorem c5 : Try.prog.cellsOf 5 = 1 := by kernel_rfl
theorem c22 : Try.prog.cellsOf 22 = 1 := by kernel_rfl
theorem c29 : Try.prog.cellsOf 29 = 3 := by kernel_rfl
theorem c35 : Try.prog.cellsOf 35 = 1 := by kernel_rfl
theorem len1 {l : List Value} (h : l.length = 1) : ∃ a, l = [a] := by
  match l, h with
  | [a], _ => exact ⟨a, rfl⟩
theorem len2 {l : List Value} (h : l.length = 2) : ∃ a b, l = [a, b] := by
  match l, h with
  | [a, b], _ => exact ⟨a, b, rfl⟩
theorem len3 {l : List Value} (h : l.length = 3) : ∃ a b c, l = [a, b, c] := by
  match l, h with
  | [a, b, c], _ => exact ⟨a, b, c, rfl⟩
theorem len4 {l : List Value} (h : l.length = 4) : ∃ a b c d, l = [a, b, c, d] := by
  match l, h with
  | [a, b, c, d], _ => exact ⟨a, b, c, d, rfl⟩
section
variable {H : Type} {enc : TypeId × Value → H} {W : World} {base : Nat} {v : Value} {w : World} {sp : Nat → Bool} {held : Bool}
theorem open_recs {fuel : Nat} {v : Value} {x : DataW H × List MemPlace} (h : DataW.trod enc Try.prog w 0 sp held fuel 22 [v] = some x) : ∃ (l : List (List UInt8)) (A : Option Addr) (c : Nat), v = .slice A l.length c ∧ SlOf 1 RSec (Bf.hp w) (.slice A l.length c) l ∧ tot l ≤ Rows.uptoBulk x.1 := by
  obtain ⟨l, A, c, rfl, hs, he⟩ := read_slOfD (R := RSec) (fun b => 1 + b.length) Rows.uptoBulk u22 c35 (by omega) (fun f cs y _ hl hy => by
    obtain ⟨u, rfl⟩ := len1 hl
    obtain ⟨bs, A, c, rfl, hb, hbs⟩ := read_bytesD u35 u5 c5 hy
    refine ⟨by intro u hu; simp at hu; subst hu; rfl, bs, ⟨A, c, rfl, hb⟩, ?_⟩
    rcases hbs with rfl | ⟨es, spare, e1, e2⟩
    · exact bulk_one _
    · rw [e1, Rows.uptoBulk]
      have := bulk_len es
      omega) h
  refine ⟨l, A, c, rfl, hs, ?_⟩
  rcases he with rfl | ⟨es, spare, e1, e2, e3⟩
  · exact Nat.zero_le _
  · rw [e1, Rows.uptoBulk]
    have := bulk_sum (fun b : List UInt8 => 1 + b.length) l es e2 e3
    show (l.map fun b => 1 + b.length).sum ≤ _
    omega
theorem open_jr {cs : List Value} {fuel : Nat} {x : DataW H × List MemPlace} (h : DataW.trod enc Try.prog w 0 sp held fuel 29 cs = some x) : ∃ j : Jr, RJr (Bf.hp w) (.agg cs.toArray) j ∧ tot j.rcs ≤ Rows.uptoBulk x.1 := by
  obtain ⟨hl, f, parts, -, hx, hf⟩ := read_structD Try.underlying29 h
  rw [c29] at hl
  obtain ⟨a, b, c, rfl⟩ := len3 hl
  obtain ⟨y0, -, h0⟩ : ∃ y, parts[0]? = some y.1 ∧ DataW.trod enc Try.prog w 0 sp held f 3 (([a, b, c].drop 0).take (Try.prog.cellsOf 3)) = some y := hf 0 _ rfl
  rw [c3] at h0
  obtain ⟨y1, -, h1⟩ : ∃ y, parts[1]? = some y.1 ∧ DataW.trod enc Try.prog w 0 sp held f 3 (([a, b, c].drop 1).take (Try.prog.cellsOf 3)) = some y := hf 1 _ rfl
  rw [c3] at h1
  obtain ⟨y2, p2, h2⟩ : ∃ y, parts[2]? = some y.1 ∧ DataW.trod enc Try.prog w 0 sp held f 22 (([a, b, c].drop 2).take (Try.prog.cellsOf 22)) = some y := hf 2 _ rfl
  rw [c22] at h2
  obtain ⟨n, e0, -⟩ := read_int u3 h0
  obtain ⟨m, e1, -⟩ := read_int u3 h1
  cases e0
  cases e1
  obtain ⟨l, A, k, rfl, hs, ht⟩ := open_recs h2
  refine ⟨⟨n, m, l⟩, ⟨A, k, rfl, hs⟩, ?_⟩
  have := bulk_part (List.mem_of_getElem? p2)
  rw [hx, Rows.uptoBulk]
  show tot l ≤ _
  omega
theorem arg_jr {d : DataW H} (h : ArgD enc Try.prog W base 29 v d) : ∃ j : Jr, RJr (Bf.hp W) v j ∧ tot j.rcs ≤ Rows.uptoBulk d := by
  obtain ⟨k0, f0, p, g0⟩ := h
  unfold Value.okWide at k0
  rw [Try.underlying29] at k0
  obtain ⟨cs, rfl, -, -⟩ := k0
  obtain ⟨j, hj, ht⟩ := open_jr g0
  exact ⟨j, by simpa [Value.cells] using hj, ht⟩
theorem arg_bytes {d : DataW H} (h : ArgD enc Try.prog W base 35 v d) : ∃ (bs : List UInt8) (A : Option Addr) (c : Nat), v = .slice A bs.length c ∧ BSl (Bf.hp W) (.slice A bs.length c) bs := by
  obtain ⟨k0, f0, p, g0⟩ := h
  obtain ⟨A, len, cap, rfl⟩ := okWide_slice u35 k0
  obtain ⟨bs, A', c', e, hb, -⟩ := read_bytesD u35 u5 c5 (by simpa [Value.cells] using g0)
  exact ⟨bs, A', c', e, hb⟩
end
end Go.Proofs.Ytkbggengagockaa
/-
  The journal: how a disk as an argument reads.
  Conditions: none.
-/
namespace Go.Proofs.Ytkbggengagockaa
open Go Bf
open Go.ChangeShapes Go.WideShapes Go.ChangeAt Go.RowKit
theorem u4 : Try.prog.underlying 4 = some .bool := (tysOk.get (t := 4) rfl).1
theorem u23 : Try.prog.underlying 23 = some (.slice 78) := (tysOk.get (t := 23) rfl).1
theorem c4 : Try.prog.cellsOf 4 = 1 := by kernel_rfl
theorem c23 : Try.prog.cellsOf 23 = 1 := by kernel_rfl
theorem c25 : Try.prog.cellsOf 25 = 4 := by kernel_rfl
theorem c78 : Try.prog.cellsOf 78 = 2 := by kernel_rfl
section
variable {H : Type} {enc : TypeId × Value → H} {W : World} {base : Nat} {v : Value} {w : World} {sp : Nat → Bool} {held : Bool}
theorem open_disk {cs : List Value} {fuel : Nat} {x : DataW H × List MemPlace} (h : DataW.trod enc Try.prog w 0 sp held fuel 25 cs = some x) : ∃ d : Dsk, RDisk (Bf.hp w) (.agg cs.toArray) d := by
  obtain ⟨hl, f, hf⟩ := read_struct Try.underlying25 h
  rw [c25] at hl
  obtain ⟨a, b, c, e, rfl⟩ := len4 hl
  obtain ⟨y0, h0⟩ : ∃ y, DataW.trod enc Try.prog w 0 sp held f 22 (([a, b, c, e].drop 0).take (Try.prog.cellsOf 22)) = some y := hf 0 _ rfl
  rw [c22] at h0
  obtain ⟨y1, h1⟩ : ∃ y, DataW.trod enc Try.prog w 0 sp held f 23 (([a, b, c, e].drop 1).take (Try.prog.cellsOf 23)) = some y := hf 1 _ rfl
  rw [c23] at h1
  obtain ⟨y2, h2⟩ : ∃ y, DataW.trod enc Try.prog w 0 sp held f 3 (([a, b, c, e].drop 2).take (Try.prog.cellsOf 3)) = some y := hf 2 _ rfl
  rw [c3] at h2
  obtain ⟨y3, h3⟩ : ∃ y, DataW.trod enc Try.prog w 0 sp held f 4 (([a, b, c, e].drop 3).take (Try.prog.cellsOf 4)) = some y := hf 3 _ rfl
  rw [c4] at h3
  obtain ⟨n, e2, -⟩ := read_int u3 h2
  obtain ⟨q, e3⟩ := read_bool u4 h3
  cases e2
  cases e3
  obtain ⟨sec, A, ca, rfl, hs⟩ := read_slOf (R := RSec) u22 c35 (by omega) (fun f cs y hl hy => by
    obtain ⟨u, rfl⟩ := len1 hl
    obtain ⟨bs, A, c, rfl, hb⟩ := read_bytes u35 u5 c5 hy
    exact ⟨by intro u hu; simp at hu; subst hu; rfl, bs, A, c, rfl, hb⟩) h0
  obtain ⟨pen, B, cb, rfl, hp⟩ := read_slOf (R := RWr) u23 c78 (by omega) (fun f cs y hl hy => by
    obtain ⟨u, v, rfl⟩ := len2 hl
    obtain ⟨_, g, hg⟩ := read_struct Try.underlying78 hy
    obtain ⟨z0, k0⟩ : ∃ y, DataW.trod enc Try.prog w 0 sp held g 3 (([u, v].drop 0).take (Try.prog.cellsOf 3)) = some y := hg 0 _ rfl
    rw [c3] at k0
    obtain ⟨z1, k1⟩ : ∃ y, DataW.trod enc Try.prog w 0 sp held g 35 (([u, v].drop 1).take (Try.prog.cellsOf 35)) = some y := hg 1 _ rfl
    rw [c35] at k1
    obtain ⟨m, e5, -⟩ := read_int u3 k0
    cases e5
    obtain ⟨bs, A, c, rfl, hb⟩ := read_bytes u35 u5 c5 k1
    exact ⟨by intro u hu; simp at hu; rcases hu with rfl | rfl <;> rfl, (m, bs), A, c, rfl, hb⟩) h1
  exact ⟨⟨sec, pen, n, q⟩, A, ca, B, cb, rfl, hs, hp⟩
theorem arg_disk (h : Arg enc Try.prog W base 25 v) : ∃ d, RDisk (Bf.hp W) v d := by
  obtain ⟨k0, f0, x, g0⟩ := h
  unfold Value.okWide at k0
  rw [Try.underlying25] at k0
  obtain ⟨cs, rfl, -, -⟩ := k0
  obtain ⟨dk, hdk⟩ := open_disk g0
  exact ⟨dk, by simpa [Value.cells] using hdk⟩
end
end Go.Proofs.Ytkbggengagockaa
/-
  The journal: how a disk as an argument reads, where what is read is bounded.
  Conditions: none.
-/
namespace Go.Proofs.Ytkbggengagockaa
open Go Bf
open Go.ChangeShapes Go.WideShapes Go.ChangeAt Go.RowKit
section
variable {H : Type} {enc : TypeId × Value → H} {W : World} {base : Nat} {v : Value}
theorem argd_disk {d : DataW H} (h : ArgD enc Try.prog W base 25 v d) : ∃ d, RDisk (Bf.hp W) v d := by
  obtain ⟨k0, f0, p, g0⟩ := h
  unfold Value.okWide at k0
  rw [Try.underlying25] at k0
  obtain ⟨cs, rfl, -, -⟩ := k0
  obtain ⟨dk, hdk⟩ := open_disk g0
  exact ⟨dk, by simpa [Value.cells] using hdk⟩
end
end Go.Proofs.Ytkbggengagockaa
/-
  The journal: the row of JournalSyncSpec.
  Conditions: what is read is of bulk at most 1048576 (the second form).
-/
namespace Go.Proofs.Ytkbggengagockaa
open Go Bf
open Go.ChangeShapes Go.WideShapes Go.ChangeAt Go.RowKit
set_option maxRecDepth 100000 in
theorem syncspec_lifted (os : Os) (started : os.Started) (H : Type) (enc : TypeId × Value → H) (F : Stop.Interp) :
    ReturnsInHanded {} Try.checked os 5 .any ((Rows.OpenSpec.upto Rows.journalSyncSpecSpec).pre6 enc Try.prog Try.f5 Rows.journalSyncSpecUptoRow.domain false) (((Rows.OpenSpec.upto Rows.journalSyncSpecSpec).at F).post enc Try.prog Try.f5 false true false false) :=
  lift_cond (C := Try.checked) (s := Rows.journalSyncSpecSpec) (so := Rows.OpenSpec.upto Rows.journalSyncSpecSpec) (kc := Rows.uptoSmall) (ts := [29, 25]) (tb := 4) started rfl rfl rfl ownT' (by kernel_rfl) Try.func5
    (OpenSpec.witness (enc := enc) (C := Try.checked) (s := Rows.OpenSpec.upto Rows.journalSyncSpecSpec) (k := Rows.uptoSmall) rfl false ⟨#[], #[.agg #[.int .i64 0, .int .i64 0, .slice none 0 0], .agg #[.slice none 0 0, .slice none 0 0, .int .i64 0, .bool false]], []⟩ 8 (by kernel_rfl) (by kernel_rfl) (by kernel_rfl)
      (x := ([.agg [.lit (.int .i64 0), .lit (.int .i64 0), .nil], .agg [.nil, .nil, .lit (.int .i64 0), .lit (.bool false)]], [], [])) (by kernel_rfl) rfl (by kernel_rfl))
    (by rw [Try.params5]) laidT' (by kernel_rfl) rfl (fun ds h => match ds, h with | [_, _], _ => rfl) rfl Try.underlying4
    (fun W base vs ds hl hk ha => by
      obtain ⟨v0, v1, rfl⟩ := len2 hl
      obtain ⟨aD, a1, a2⟩ := ha 0 29 v0 rfl rfl
      obtain ⟨a, hja, ta⟩ := arg_jr a2
      have ba := small_le hk a1
      obtain ⟨d1, e1, g1⟩ := ha 1 25 v1 rfl rfl
      obtain ⟨d, hd⟩ := argd_disk g1
      exact syncspec_fn _ _ _ a d hja hd (by omega))
theorem journalSyncSpec_holds : Rows.JournalSyncSpecUptoSaid :=
  OpenClaim.holds_of_cond 5 Try.f5 rfl rfl rfl rfl rfl rfl rfl ⟨rfl, rfl, rfl, rfl, rfl⟩ rfl rfl rfl rfl rfl (by kernel_rfl) Try.func5 (by kernel_rfl)
    (of_decide_eq_true (by kernel_rfl)) (by unfold Func.isWrapper; first | (rw [if_pos (by decide +kernel)]; kernel_rfl) | (rw [if_neg (by decide +kernel)]; exact ⟨rfl, rfl⟩))
    (fun os started H enc _ F => syncspec_lifted os started H enc F)
end Go.Proofs.Ytkbggengagockaa
