/-
  Texts of the proof, one after the other.
  Conditions: none.
-/
import Derived.Test.YtmikfjcdgkopkaaGreatQBfRow
import Derived.Test.YtmikfjcdgkopkaaGreatRows
import Derived.ProofKit
import Derived.Test.YtmikfjcdgkopkaaGreatQBfDelN
import Derived.Test.YtmikfjcdgkopkaaGreatQXs
import Derived.Test.YtmikfjcdgkopkaaGreatQc
/-
 The reference's promises: Check.
 Conditions: none.
-/
namespace Go.Proofs.YtmikfjcdgkopkaaGreat
open Go Bf
attribute [local irreducible] Tr Exec Stab HasTy Go.Addr.add IntKind.wrap
set_option maxHeartbeats 8000000 in
set_option maxRecDepth 20000 in
theorem rcheck31_fn (M : Mem) (ws : List Value) (w : Wd) (hw : RWd M ws w) (v : Value) (k : Bp) (hk : RBp M v k) (hfew : k.sups.length ≤ 1000000 ∧ k.reqs.length ≤ 6) :
  Fn0 Tryz.prog 18 [.agg ws.toArray, v] M (fun v _ => v = .int .i64 (chkE w k)) := by
 have h11 := hw.len
 obtain ⟨As, cs, Ar, cr, Af, cf, Ad, cd, rfl, h1, h2, h3, h4⟩ := hk
 refine Fn.intro Tryz.func18 rfl rfl Tryz.ntmps18 rfl fun E F => ?_
 (repeat (first | ((with_reducible refine Tr.step rfl ?_); (first | (refine xaQ ?_) | ((with_reducible refine Knd.load ?_); (first | (refine xlQ ?_) | (refine xwQ ?_) | (refine Exec.stab rfl (Stab.loadW rfl (tysOk.get rfl) rfl (by repeat (first | exact Has.here | apply Has.there)) (by assumption)) rfl ?_))) | (refine xfQ ?_) | ((with_reducible refine Knd.box ?_); (refine Exec.box rfl rfl (fun b => ?_))))) | (with_reducible first | apply Tr.next | apply Tr.seq | apply Tr.region | apply Tr.nil)))
 rename_i b2
 generalize b = b3
 ((refine Tr.step rfl ?_)); refine Exec.call0 rfl (rwith_fn M ws w hw k As cs h1 (.slice Ar k.reqs.length cr) (.slice Af k.fits.length cf) (.slice Ad k.rds.length cd) rfl rfl rfl Ar cr k.reqs h2) rfl ?_
 rintro _ M1 hm1 (⟨hnk, rfl⟩ | ⟨hok, x, rfl, hx⟩)
 ·(repeat (first | ((with_reducible refine Tr.step rfl ?_); (first | (refine xmQ ?_) | (refine xaQ ?_) | (refine xlQ ?_) | (refine xfQ ?_) | (refine xWQ ?_) | ((with_reducible refine Knd.alloc ?_); (refine Exec.alloc (tysOk.get rfl) rfl rfl (fun b => ?_))) | ((with_reducible refine Knd.extract ?_); (refine Exec.stab rfl (Stab.extract rfl rfl) rfl ?_)))) | (with_reducible first | apply Tr.next | apply Tr.seq | apply Tr.region | apply Tr.nil)))
  ((refine Tr.step rfl ?_)); refine Exec.call0 rfl (rnumbers_fn M1 As Ar cs cr k.sups k.reqs (h1.mono RSpC.mono hm1) (h2.mono RRqC.mono hm1)) rfl ?_
  rintro _ _ _ ⟨⟨q, rfl, hq⟩, rfl⟩
  have hn : ¬ okB w k := fun h => hnk h.2.1
  cases q with
  | false =>
   (refine rQ ?_)
   (refine dnQ (hL := by exact ⟨[_, _, _], rfl⟩) ⟨rfl, ?_⟩)
   rw [chkE, if_neg hn]; rfl
  | true =>
   (refine rQ ?_)
   (refine dnQ (hL := by exact ⟨[_, _, _], rfl⟩) ⟨rfl, ?_⟩)
   rw [chkE, if_neg hn]; rfl
 obtain ⟨As', cs', Ar', cr', Af', cf', Ad', cd', rfl, g1, g2, g3, g4⟩ := hx
 dsimp only [mkF] at g1 g2 g3 g4 ⊢
 (repeat (first | ((with_reducible refine Tr.step rfl ?_); (first | (refine xmQ ?_) | (refine xaQ ?_) | (refine xlQ ?_) | (refine xfQ ?_) | (refine xWQ ?_) | ((with_reducible refine Knd.alloc ?_); (refine Exec.alloc (tysOk.get rfl) rfl rfl (fun b => ?_))) | ((with_reducible refine Knd.extract ?_); (refine Exec.stab rfl (Stab.extract rfl rfl) rfl ?_)))) | (with_reducible first | apply Tr.next | apply Tr.seq | apply Tr.region | apply Tr.nil)))
 ((refine Tr.step rfl ?_)); refine Exec.call0 rfl (rnumbers_fn M1 As Ar cs cr k.sups k.reqs (h1.mono RSpC.mono hm1) (h2.mono RRqC.mono hm1)) rfl ?_
 rintro _ _ _ ⟨⟨q, rfl, hq⟩, rfl⟩
 cases q with
 | false =>
  have hn : ¬ okB w k := fun h => by have := hq.2 ⟨h.1.2, h.1.1⟩; cases this
  (refine rQ ?_)
  (refine dnQ (hL := by exact ⟨[_, _, _], rfl⟩) ⟨rfl, ?_⟩)
  rw [chkE, if_neg hn]; rfl
 | true =>
 have hnum := hq.1 rfl
 (refine rQ ?_)
 ((refine Tr.guard_y' rfl rfl rfl (by (with_reducible exact (not_not_intro rfl))) ?_)); refine Exec.call0 rfl (sameTab_fn M1 (fitsT w k.known k.sups k.reqs) k.fits Af' Af cf' cf g3 (h3.mono RRowB.mono hm1)) rfl ?_
 rintro _ _ _ ⟨rfl, rfl⟩
 by_cases e1 : fitsT w k.known k.sups k.reqs = k.fits
 rotate_left
 ·rw [decide_eq_false e1]
  have hn : ¬ okB w k := fun h => e1 h.2.2.1.1
  (refine rQ ?_)
  (refine dnQ (hL := by exact ⟨[_, _, _], rfl⟩) ⟨rfl, ?_⟩)
  rw [chkE, if_neg hn]; rfl
 rw [decide_eq_true e1]
 (refine rQ ?_)
 ((refine Tr.guard_l rfl rfl rfl (by (with_reducible exact Bool.not_true)) ?_)); refine Exec.call0 rfl (sameReads_fn M1 (readsF w k.sups k.reqs) k.rds Ad' Ad cd' cd g4 (h4.mono RRd.mono hm1)) rfl ?_
 rintro _ _ _ ⟨rfl, rfl⟩
 by_cases e2 : readsF w k.sups k.reqs = k.rds
 rotate_left
 ·rw [decide_eq_false e2]
  have hn : ¬ okB w k := fun h => e2 h.2.2.1.2
  (refine rQ ?_)
  (refine dnQ (hL := by exact ⟨[_, _, _], rfl⟩) ⟨rfl, ?_⟩)
  rw [chkE, if_neg hn]; rfl
 rw [decide_eq_true e2]
 have hvld := okT_vld (w := w) (known := k.known) hok
 rw [e1] at hvld
 have hokB : Feas (pbB k) ↔ okB w k := ⟨fun h => ⟨⟨hnum.2, hnum.1⟩, hok, ⟨e1, e2⟩, h⟩, fun h => h.2.2.2⟩
 have rs : I64s (amS k.sups) := fun x hx => by have := hvld.rs x hx; omega
 have rn : I64s (amR k.reqs) := fun x hx => by have := hvld.rn x hx; omega
 have hnl : (amR k.reqs).length = k.reqs.length := by simp [amR]
 obtain ⟨a, ha⟩ : ∃ a, Vld k.fits (amS k.sups) (amR k.reqs) → Feas (pbOf k.fits (amS k.sups) (amR k.reqs)) → LexMax (pbOf k.fits (amS k.sups) (amR k.reqs)) a := by
  by_cases hf : Feas (pbOf k.fits (amS k.sups) (amR k.reqs))
  ·obtain ⟨a, ha⟩ := lexmax_ex hf
   exact ⟨a, fun _ _ => ha⟩
  ·exact ⟨fun _ _ => 0, fun _ h => absurd h hf⟩
 (refine rQ ?_)
 (((apply Tr.draw); (kernel_rfl)); (refine tkQ 0 (hB := by exact fun _ h => h) (s := by exact sfQ) ?_); (refine tkQ 2 (s := by exact sfQ) ?_); (refine tkQ 5 (s := by exact sfQ) ?_); (refine tkQ 1 (s := by exact slQ) ?_); (refine tkQ 3 (s := by exact slQ) ?_); (refine tkQ 6 (s := by exact slQ) ?_); (refine TrA.eff 4 rfl (by kernel_rfl) (by exact .inl rfl) ?_))
 refine Exec.call0 rfl (ramS_fn M1 As cs k.sups (h1.mono RSpC.mono hm1) hfew.1) rfl ?_
 rintro _ M2 hm2 ⟨A1, c1, rfl, hI1⟩
 refine ⟨hm2, (by exact fun _ h => h), ?_⟩
 have hm02 := hm1.trans hm2
 ((refine TrA.eff 7 rfl (by kernel_rfl) (by exact .inl rfl) ?_))
 refine Exec.call0 rfl (ramR_fn M2 Ar cr k.reqs (h2.mono RRqC.mono hm02) (by omega)) rfl ?_
 rintro _ M3 hm3 ⟨A2, c2, rfl, hI2⟩
 refine ⟨hm3, (by exact fun _ h => h), ?_⟩
 have hm03 := hm02.trans hm3
 ((refine TrA.eff 8 rfl (by kernel_rfl) (by exact .inl rfl) ?_))
 refine Exec.call0 rfl (rflow_fn M3 Af A1 A2 cf c1 c2 k.fits (amS k.sups) (amR k.reqs) (h3.mono RRowB.mono hm03) (hI1.mono RI.mono hm3) hI2 (.inl (by omega)) a ha) rfl ?_
 rintro _ M4 hm4 (⟨hbad, -⟩ | ⟨-, hnf, B, kk, rfl, -⟩ | ⟨-, hfe, A, c, rfl, -⟩)
 ·rw [vld_iff.2 hvld] at hbad
  cases hbad
 ·refine ⟨hm4, (by exact fun _ h => h), ?_⟩
  have hm04 := hm03.trans hm4
  ((refine tkQ 9 (s := by exact Stab.move rfl) ?_); (refine tkQ 10 (s := by exact Stab.extract rfl rfl) ?_); (refine tkQ 11 (s := by exact Stab.extract rfl rfl) ?_); (refine tkQ 12 (s := by exact Stab.extract rfl rfl) ?_); (refine tkQ 13 (s := by exact Stab.extract rfl rfl) ?_); (refine tkQ 14 (s := by exact Stab.assign rfl) ?_); (refine tkQ 15 (s := by exact Stab.assign rfl) ?_); (refine tkQ 16 (s := by exact Stab.assign rfl) ?_); (refine tkQ 17 (s := by exact Stab.assign rfl) ?_); (refine TrA.done (by kernel_rfl) ?_))
  (refine rQ ?_)
  (refine dnQ (hL := by exact ⟨[_, _, _], rfl⟩) ⟨rfl, ?_⟩)
  rw [chkE, if_neg (fun h => hnf (hokB.2 h))]; rfl
 ·refine ⟨hm4, (by exact fun _ h => h), ?_⟩
  have hm04 := hm03.trans hm4
  ((refine tkQ 9 (s := by exact Stab.move rfl) ?_); (refine tkQ 10 (s := by exact Stab.extract rfl rfl) ?_); (refine tkQ 11 (s := by exact Stab.extract rfl rfl) ?_); (refine tkQ 12 (s := by exact Stab.extract rfl rfl) ?_); (refine tkQ 13 (s := by exact Stab.extract rfl rfl) ?_); (refine tkQ 14 (s := by exact Stab.assign rfl) ?_); (refine tkQ 15 (s := by exact Stab.assign rfl) ?_); (refine tkQ 16 (s := by exact Stab.assign rfl) ?_); (refine tkQ 17 (s := by exact Stab.assign rfl) ?_); (refine TrA.done (by kernel_rfl) ?_))
  (refine rQ ?_)
  (refine dnQ (hL := by exact ⟨[_, _, _], rfl⟩) ⟨rfl, ?_⟩)
  rw [chkE, if_pos (hokB.1 hfe)]; rfl
end Go.Proofs.YtmikfjcdgkopkaaGreat

/-
 The reference's promises: ask.
 Conditions: none.
-/
namespace Go.Proofs.YtmikfjcdgkopkaaGreat
open Go Bf
attribute [local irreducible] Tr Exec Stab HasTy Go.Addr.add IntKind.wrap
theorem nums_app {l : List Rq} {r : Rq} (h : (l.map (·.no)).Nodup) : (((l ++ [r]).map (·.no)).Nodup ↔ r.no ∉ l.map (·.no)) := by
 rw [List.map_append, List.nodup_append]
 constructor
 ·intro h2 hm
  exact h2.2.2 _ hm r.no (by simp) rfl
 ·intro h2
  refine ⟨h, by simp, fun x hx y hy => ?_⟩
  simp at hy
  subst hy
  exact fun e => h2 (e ▸ hx)
theorem okRq_of {s : List Sp} {l : List Rq} {r : Rq} (hs : okT s l) (h : ¬ okT s (l ++ [r])) (hl : l.length + 1 ≤ 64) : ¬ okRq r := fun hr => h ((okT_app hs).2 ⟨hr, hl⟩)
set_option maxHeartbeats 16000000 in
set_option maxRecDepth 20000 in
theorem rask_fn (M : Mem) (ws : List Value) (w : Wd) (hw : RWd M ws w) (v : Value) (k : Bp) (hk : RBp M v k) (hok : okB w k) (hfew : k.sups.length ≤ 5 ∧ k.reqs.length ≤ 5) (r : Rq) :
  Fn0 Tryz.prog 41 [.agg ws.toArray, v, .agg #[.int .i64 r.no, .int .i64 r.item, .int .i64 r.cust, .int .i64 r.due, .int .i64 r.shelf, .int .i64 r.amount]] M (fun v M' => AskV w k r v M') := by
 have h11 := hw.len
 obtain ⟨As, cs, Ar, cr, Af, cf, Ad, cd, rfl, h1, h2, h3, h4⟩ := hk
 have hrow := SlOf.row (R := RRqC) h2 (fun _ _ h => h) rqC_len
 refine Fn.intro Tryz.func41 rfl rfl Tryz.ntmps41 rfl fun E F => ?_
 (repeat (first | ((with_reducible refine Tr.step rfl ?_); (first | (refine xaQ ?_) | ((with_reducible refine Knd.box ?_); (refine Exec.box rfl rfl (fun b => ?_))) | ((with_reducible refine Knd.alloc ?_); (refine Exec.alloc (tysOk.get rfl) rfl rfl (fun b => ?_))))) | (with_reducible first | apply Tr.next | apply Tr.seq | apply Tr.region | apply Tr.nil)))
 rename_i b3 b4 b5 b6
 generalize b = b7
 (((apply Tr.draw); (kernel_rfl)); (refine tkQ 1 (hB := by exact fun _ h => h) (s := by exact sfQ) ?_); (refine tkQ 4 (s := by exact swQ) ?_); (refine tkQ 2 (s := by exact slQ) ?_))
 ((refine TrM.start2 _ (PA.build 0 [] rfl (by exact .inl rfl) (tysOk.get rfl) rfl (tysOk.get rfl) rfl rfl rfl rfl rfl (by repeat (exact BuildP.nil)) rfl) (PA.build1 5 [(25, .agg #[.int .i64 r.no, .int .i64 r.item, .int .i64 r.cust, .int .i64 r.due, .int .i64 r.shelf, .int .i64 r.amount])] rfl (by exact .inl rfl) rfl (tysOk.get rfl) rfl (tysOk.get rfl) rfl rfl rfl rfl rfl (by first | rfl | assumption) rfl) (by kernel_rfl) (by kernel_rfl) (by kernel_rfl) ?_); (refine TrM.settle (by kernel_rfl) (by repeat (first | exact PendOk.nil | refine PendOk.cons rfl (by repeat (first | exact SubFr.nil | refine SubFr.cons rfl ?_)) ?_)) (by exact fun _ h => h) (fun b => ?_)); dsimp only)
 refine TrM.box_own 6 0 (by repeat (first | exact Upd.here | apply Upd.there)) rfl (by intro u hu; cases hu) (by simp [maxLen]) ?_
 ((refine TrM.eff 3 rfl (by kernel_rfl) (by exact .inl rfl) (by repeat (first | exact PendOk.nil | refine PendOk.cons rfl (by repeat (first | exact SubFr.nil | refine SubFr.cons rfl ?_)) ?_)) (by exact (Sub.mem (by repeat (first | exact Sub.refl | apply Sub.cons)))) (by repeat (first | apply AppF.cons | exact AppF.nil)) (by repeat (first | apply AppF.cons | exact AppF.app)) (fun Y X => ?_)))
 refine Exec.append (news := k.reqs.flatMap rqC) rfl rfl (tysOk.get rfl) rfl (tysOk.get rfl) rfl rfl rfl rfl (by repeat (first | exact Del.here | apply Del.there)) (Src.row hrow) (by rw [flatMap_len rqC_len]) (flatMap_one rqC_one _) (by omega) (by omega) rfl (fun A6 c6 hc6 => ?_)
 (refine ⟨_, _, (by repeat (first | apply App.cons | exact App.nil | exact App.app)), (by repeat (first | apply App.cons | exact App.nil | exact App.app)), rfl, (by first | exact Mem.le.refl _ | assumption), (by exact (Sub.mem (by repeat (first | exact Sub.refl | apply Sub.cons)))), ?_⟩)
 rw [zeros0_app, Nat.zero_add]
 ((refine TrM.settle (by kernel_rfl) (by repeat (first | exact PendOk.nil | refine PendOk.cons rfl (by repeat (first | exact SubFr.nil | refine SubFr.cons rfl ?_)) ?_)) (by exact (Sub.mem (by repeat (first | exact Sub.refl | apply Sub.cons)))) (fun b => ?_)); dsimp only)
 ((refine TrM.eff 6 rfl (by kernel_rfl) (by exact .inl rfl) (by repeat (exact PendOk.nil)) (by exact (Sub.mem (by repeat (first | exact Sub.refl | apply Sub.cons)))) (by repeat (first | apply AppF.cons | exact AppF.nil)) (by repeat (first | apply AppF.cons | exact AppF.app)) (fun Y X => ?_)))
 refine Exec.append (news := rqC r) rfl rfl (tysOk.get rfl) rfl (tysOk.get rfl) rfl rfl rfl rfl (by repeat (first | exact Del.here | apply Del.there)) (Src.box (by repeat (first | exact Has.here | apply Has.there))) rfl (rqC_one _) (by omega) (by omega) rfl (fun A8 c8 hc8 => ?_)
 (refine ⟨_, _, (by repeat (first | apply App.cons | exact App.nil | exact App.app)), (by repeat (first | apply App.cons | exact App.nil | exact App.app)), rfl, (by first | exact Mem.le.refl _ | assumption), (by exact (Sub.mem (by repeat (first | exact Sub.refl | apply Sub.cons)))), ?_⟩)
 rw [show k.reqs.flatMap rqC ++ rqC r = (k.reqs ++ [r]).flatMap rqC by rw [List.flatMap_append]; simp, show k.reqs.length + 1 = (k.reqs ++ [r]).length by simp]
 refine TrM.publish (x := ownS 46 6 _ _ _ _) (by repeat (first | exact Del.here | apply Del.there)) (fun M1 hm1 hok1 => ?_)
 have hR1 : SlOf 6 RRqC M1 (.slice A8 (k.reqs ++ [r]).length c8) (k.reqs ++ [r]) := SlOf.ofOwn hok1 rfl hc8 (rqC_elems _ _)
 ((refine TrM.fin ?_))
 ((refine tkQ 7 (s := by exact Stab.assign rfl) ?_); (refine TrA.done (by kernel_rfl) ?_))
 have hal : (k.reqs ++ [r]).length = k.reqs.length + 1 := by simp
 generalize hall : k.reqs ++ [r] = all at hR1 hal ⊢
 (refine rQ ?_)
 ((refine Tr.step rfl ?_)); refine Exec.call0 rfl (rnumbers_fn M1 none A8 0 c8 [] all (SlOf.nil _ _ _) hR1) rfl ?_
 rintro _ _ _ ⟨⟨q, rfl, hq⟩, rfl⟩
 have hq2 : q = true ↔ r.no ∉ k.reqs.map (·.no) := by
  rw [hq, ← hall, nums_app hok.1.1]
  exact ⟨fun h => h.2, fun h => ⟨List.nodup_nil, h⟩⟩
 cases q with
 | false =>
  have hno : r.no ∈ k.reqs.map (·.no) := Classical.byContradiction fun h => (by have := hq2.2 h; cases this)
  have hask : askE w k r = 310 := by rw [askE, if_neg (fun h => h hok), if_pos hno]
  (repeat (first | ((with_reducible refine Tr.step rfl ?_); (first | (refine xaQ ?_) | ((with_reducible refine Knd.unOp ?_); (refine Exec.stab rfl (Stab.not rfl) rfl ?_)) | (refine xWQ ?_) | ((with_reducible refine Knd.build ?_); (refine Exec.stab rfl (Stab.build tysOk rfl rfl rfl rfl (by repeat (exact BuildP.nil))) rfl ?_)))) | (with_reducible first | apply Tr.next | apply Tr.seq | apply Tr.region | apply Tr.nil | apply Tr.ret | apply Tr.then_ret) | (refine Tr.cond_bt rfl (by first | (with_reducible rfl) | (with_reducible exact Bool.not_false)) ?_)))
  (refine Tr.done (by first | exact .inl rfl | exact .inr rfl) rfl (by repeat (first | exact RVs.nil | (apply RVs.cons; (first | exact RV.tmp rfl | exact RV.cellW (by rfl) (tysOk.get (by rfl)) (by rfl) (by repeat (first | exact Has.here | apply Has.there)) (by first | rfl | assumption))))) (by first | exact Mem.le.refl _ | assumption) (by exact ⟨[_, _, _, _, _, _], rfl⟩) ⟨rfl, ?_⟩)
  exact .inr ⟨by rw [hask]; decide, by rw [hask]; rfl⟩
 | true =>
 have hno := hq2.1 rfl
 (repeat (first | ((with_reducible refine Tr.step rfl ?_); (first | (refine xmQ ?_) | ((with_reducible refine Knd.load ?_); (first | (refine xwQ ?_) | (refine Exec.stab rfl (Stab.loadW rfl (tysOk.get rfl) rfl (by repeat (first | exact Has.here | apply Has.there)) (by assumption)) rfl ?_))) | ((with_reducible refine Knd.unOp ?_); (refine Exec.stab rfl (Stab.not rfl) rfl ?_)))) | (with_reducible first | apply Tr.next | apply Tr.seq | apply Tr.region | apply Tr.nil | apply Tr.skip) | (refine Tr.cond_bf rfl (by first | (with_reducible rfl) | (with_reducible exact Bool.not_true)) ?_)))
 ((refine Tr.step rfl ?_)); refine Exec.call0 rfl (rwith_fn M1 ws w (hw.mono hm1) k As cs (h1.mono RSpC.mono hm1) (.slice Ar k.reqs.length cr) (.slice Af k.fits.length cf) (.slice Ad k.rds.length cd) rfl rfl rfl A8 c8 all hR1) rfl ?_
 rintro _ M2 hm2 (⟨hnk, rfl⟩ | ⟨hokT, x, rfl, hx⟩)
 ·have hask : askE w k r = 290 := by
   rw [askE, if_neg (fun h => h hok), if_neg hno, if_pos]
   refine .inl (okRq_of hok.2.1 (by rw [hall]; exact hnk) (by omega))
  have hm02 := hm1.trans hm2
  (repeat (first | ((with_reducible refine Tr.step rfl ?_); (first | (refine xmQ ?_) | (refine xaQ ?_) | (refine xiQ ?_) | (refine xWQ ?_) | ((with_reducible refine Knd.alloc ?_); (refine Exec.alloc (tysOk.get rfl) rfl rfl (fun b => ?_))) | ((with_reducible refine Knd.extract ?_); (refine Exec.stab rfl (Stab.extract rfl rfl) rfl ?_)) | ((with_reducible refine Knd.build ?_); (refine Exec.stab rfl (Stab.build tysOk rfl rfl rfl rfl (by repeat (exact BuildP.nil))) rfl ?_)))) | (with_reducible first | apply Tr.next | apply Tr.seq | apply Tr.region | apply Tr.nil | apply Tr.ret | apply Tr.then_ret) | (refine Tr.cond_t rfl (by first | (with_reducible assumption) | omega) ?_)))
  (refine Tr.done (by first | exact .inl rfl | exact .inr rfl) rfl (by repeat (first | exact RVs.nil | (apply RVs.cons; (first | exact RV.tmp rfl | exact RV.cellW (by rfl) (tysOk.get (by rfl)) (by rfl) (by repeat (first | exact Has.here | apply Has.there)) (by first | rfl | assumption))))) (by first | exact Mem.le.refl _ | assumption) (by exact ⟨[_, _, _, _, _, _, _], rfl⟩) ⟨rfl, ?_⟩)
  exact .inr ⟨by rw [hask]; decide, by rw [hask]; rfl⟩
 have hbase : okRq r := hokT.2.2 r (by rw [← hall]; simp)
 have hask : askE w k r = 0 := by rw [askE, if_neg (fun h => h hok), if_neg hno, if_neg (fun h => h.elim (fun h => h hbase) (fun h => by omega))]
 obtain ⟨As', cs', Ar', cr', Af', cf', Ad', cd', rfl, g1, g2, g3, g4⟩ := hx
 dsimp only [mkF] at g1 g2 g3 g4 ⊢
 have hm02 := hm1.trans hm2
 (repeat (first | ((with_reducible refine Tr.step rfl ?_); (first | (refine xmQ ?_) | (refine xaQ ?_) | ((with_reducible refine Knd.load ?_); (first | (refine xlQ ?_) | (refine xwQ ?_) | (refine Exec.stab rfl (Stab.loadW rfl (tysOk.get rfl) rfl (by repeat (first | exact Has.here | apply Has.there)) (by assumption)) rfl ?_))) | (refine xfQ ?_) | (refine xiQ ?_) | (refine xWQ ?_) | ((with_reducible refine Knd.alloc ?_); (refine Exec.alloc (tysOk.get rfl) rfl rfl (fun b => ?_))) | ((with_reducible refine Knd.extract ?_); (refine Exec.stab rfl (Stab.extract rfl rfl) rfl ?_)) | ((with_reducible refine Knd.buildSlice ?_); (refine Exec.buildSlice (tysOk.get rfl) rfl (tysOk.get rfl) rfl rfl rfl rfl rfl (by repeat (first | exact BuildP.nil | ((apply BuildP.many); (rfl); (rfl); (rfl); (rfl); (repeat (first | exact PutL.nil | ((apply PutL.cons); (repeat (first | exact SetL.z | apply SetL.s)))))))) rfl (fun b => ?_))))) | (with_reducible first | apply Tr.next | apply Tr.seq | apply Tr.region | apply Tr.nil | apply Tr.skip) | (refine Tr.cond_f rfl (by first | (with_reducible assumption) | (with_reducible exact (not_not_intro rfl))) ?_)))
 refine pbQ (r := box b 46 _) (fun M3 hm3 hokb => ?_)
 have hokb : (box b 46 (rqC r)).ok M3 := hokb
 have hone : SlOf 6 RRqC M3 (.slice (some ⟨b, 0, none⟩) 1 1) [r] := SlOf.ofBoxC (n := 1) (c := 1) (xs := [r]) hokb rfl rfl (Nat.le_refl _) (by decide) (rqC_one r) (rqC_elems M3 [r])
 have hm03 := hm02.trans hm3
 ((refine Tr.step rfl ?_)); refine Exec.call0 rfl (rtable_fn M3 ws w (hw.mono hm03) As (some ⟨b, 0, none⟩) cs 1 k.sups [r] k.known (h1.mono RSpC.mono hm03) hone) rfl ?_
 rintro _ M4 hm4 (⟨hnk, -⟩ | ⟨-, C, cC, D, cD, rfl, -, hD⟩)
 ·exact absurd ⟨⟨hok.2.1.1.1, by simp⟩, hok.2.1.2.1, fun y hy => by simp at hy; subst hy; exact hbase⟩ hnk
 have hm04 := hm03.trans hm4
 have hm24 := hm3.trans hm4
 have hvld := okT_vld (w := w) (known := k.known) hokT
 have rs : I64s (amS k.sups) := fun x hx => by have := hvld.rs x hx; omega
 have rn : I64s (amR all) := fun x hx => by have := hvld.rn x hx; omega
 have hnl : (amR all).length = k.reqs.length + 1 := by simp [amR, hal]
 obtain ⟨a, ha⟩ : ∃ a, Vld (fitsT w k.known k.sups all) (amS k.sups) (amR all) → Feas (pbOf (fitsT w k.known k.sups all) (amS k.sups) (amR all)) → LexMax (pbOf (fitsT w k.known k.sups all) (amS k.sups) (amR all)) a := by
  by_cases hf : Feas (pbOf (fitsT w k.known k.sups all) (amS k.sups) (amR all))
  ·obtain ⟨a, ha⟩ := lexmax_ex hf
   exact ⟨a, fun _ _ => ha⟩
  ·exact ⟨fun _ _ => 0, fun _ h => absurd h hf⟩
 (repeat (first | ((with_reducible refine Tr.step rfl ?_); (first | (refine xmQ ?_) | (refine xaQ ?_) | (refine xWQ ?_) | ((with_reducible refine Knd.alloc ?_); (refine Exec.alloc (tysOk.get rfl) rfl rfl (fun b => ?_))) | ((with_reducible refine Knd.extract ?_); (refine Exec.stab rfl (Stab.extract rfl rfl) rfl ?_)) | ((with_reducible refine Knd.build ?_); (refine Exec.stab rfl (Stab.build tysOk rfl rfl rfl rfl (by repeat (first | exact BuildP.nil | ((apply BuildP.one); (rfl); (rfl); (first | rfl | assumption); (repeat (first | exact SetL.z | apply SetL.s)))))) rfl ?_)))) | (with_reducible first | apply Tr.next | apply Tr.seq | apply Tr.region | apply Tr.nil)))
 generalize b = bz
 rename_i b10 b15
 (((apply Tr.draw); (kernel_rfl)); (refine tkQ 0 (hB := by exact fun _ h => h) (s := by exact sfQ) ?_); (refine tkQ 2 (s := by exact sfQ) ?_); (refine tkQ 5 (s := by exact Stab.move rfl) ?_); (refine tkQ 1 (s := by exact slQ) ?_); (refine tkQ 3 (s := by exact slQ) ?_); (refine TrA.eff 4 rfl (by kernel_rfl) (by exact .inl rfl) ?_))
 refine Exec.call0 rfl (ramS_fn M4 As' cs' k.sups (g1.mono RSpC.mono hm24) (by omega)) rfl ?_
 rintro _ M5 hm5 ⟨A1, c1, rfl, hI1⟩
 refine ⟨hm5, (by exact fun _ h => h), ?_⟩
 ((refine TrA.eff 6 rfl (by kernel_rfl) (by exact .inl rfl) ?_))
 refine Exec.call0 rfl (ramR_fn M5 A8 c8 all (hR1.mono RRqC.mono (hm2.trans (hm24.trans hm5))) (by omega)) rfl ?_
 rintro _ M6 hm6 ⟨A2, c2, rfl, hI2⟩
 refine ⟨hm6, (by exact fun _ h => h), ?_⟩
 have hm26 := hm24.trans (hm5.trans hm6)
 ((refine TrA.eff 7 rfl (by kernel_rfl) (by exact .inl rfl) ?_))
 refine Exec.call0 rfl (rflow_fn M6 Af' A1 A2 cf' c1 c2 (fitsT w k.known k.sups all) (amS k.sups) (amR all) (g3.mono RRowB.mono hm26) (hI1.mono RI.mono hm6) hI2 (.inl (by omega)) a ha) rfl ?_
 rintro _ M7 hm7 hfl
 have hm47 := hm5.trans (hm6.trans hm7)
 have hm27 := hm26.trans hm7
 have hm07 := hm02.trans hm27
 obtain ⟨hbad, -⟩ | ⟨-, hnf, B, kk, rfl, hI⟩ | ⟨-, hfe, A9, c9, rfl, hI⟩ := hfl
 ·rw [vld_iff.2 hvld] at hbad
  cases hbad
 rotate_left
 ·refine ⟨hm7, (by exact fun _ h => h), ?_⟩
  ((refine tkQ 8 (s := by exact Stab.move rfl) ?_); (refine tkQ 9 (s := by exact Stab.extract rfl rfl) ?_); (refine tkQ 10 (s := by exact Stab.extract rfl rfl) ?_); (refine tkQ 11 (s := by exact Stab.extract rfl rfl) ?_); (refine tkQ 12 (s := by exact Stab.extract rfl rfl) ?_); (refine tkQ 13 (s := by exact Stab.assign rfl) ?_); (refine tkQ 14 (s := by exact Stab.assign rfl) ?_); (refine tkQ 15 (s := by exact Stab.assign rfl) ?_); (refine tkQ 16 (s := by exact Stab.assign rfl) ?_); (refine TrA.done (by kernel_rfl) ?_))
  (refine rQ ?_)
  refine ftQ (r := box b7 54 _) ?_
  refine ftQ (r := box b6 44 _) ?_
  (((apply Tr.draw ((box b7 54 _ :: _))); (kernel_rfl)); (refine tkQ 0 (hB := by exact (Sub.mem (by repeat (first | exact Sub.refl | apply Sub.cons)))) (s := by exact swQ) ?_); (refine tkQ 1 (s := by exact swQ) ?_); (refine TrA.eff 2 rfl (by kernel_rfl) (by exact .inl rfl) ?_); (((refine Knd.store ?_); ((refine xWQ ?_)))); (refine ⟨(by first | exact Mem.le.refl _ | assumption), (by exact (Sub.mem (by repeat (first | exact Sub.refl | apply Sub.cons)))), ?_⟩); (refine TrA.effD 3 rfl (by kernel_rfl) (by kernel_rfl) (by exact .inl rfl) ?_); (((refine Knd.store ?_); ((refine xWQ ?_)))); (refine ⟨_, fun _ h => h, ?_⟩); (refine tkQ 4 (s := by exact Stab.assign rfl) ?_); (refine TrA.done (by kernel_rfl) ?_))
  (repeat (first | (with_reducible first | apply Tr.next | apply Tr.ret | apply Tr.then_ret)))
  (refine Tr.done (by first | exact .inl rfl | exact .inr rfl) rfl (by repeat (first | exact RVs.nil | (apply RVs.cons; (first | exact RV.tmp rfl | exact RV.cellW (by rfl) (tysOk.get (by rfl)) (by rfl) (by repeat (first | exact Has.here | apply Has.there)) (by first | rfl | assumption))))) (by first | exact Mem.le.refl _ | assumption) (by exact ⟨[_, _, _, _, _, _, _, _], rfl⟩) ⟨rfl, ?_⟩)
  subst hall
  exact .inl ⟨hask, hok, _, _, rfl, D, cD, hD.mono RRd.mono hm47, .inl ⟨hfe, ⟨As', cs', Ar', cr', Af', cf', Ad', cd', rfl, g1.mono RSpC.mono hm27, g2.mono RRqC.mono hm27, g3.mono RRowB.mono hm27, g4.mono RRd.mono hm27⟩, a, A9, c9, ha hvld hfe, by rw [allocOf_length], by rw [allocOf_length]; exact hI⟩⟩
 refine ⟨hm7, (by exact fun _ h => h), ?_⟩
 ((refine tkQ 8 (s := by exact Stab.move rfl) ?_); (refine tkQ 9 (s := by exact Stab.extract rfl rfl) ?_); (refine tkQ 10 (s := by exact Stab.extract rfl rfl) ?_); (refine tkQ 11 (s := by exact Stab.extract rfl rfl) ?_); (refine tkQ 12 (s := by exact Stab.extract rfl rfl) ?_); (refine tkQ 13 (s := by exact Stab.assign rfl) ?_); (refine tkQ 14 (s := by exact Stab.assign rfl) ?_); (refine tkQ 15 (s := by exact Stab.assign rfl) ?_); (refine tkQ 16 (s := by exact Stab.assign rfl) ?_); (refine TrA.done (by kernel_rfl) ?_))
 (refine rQ ?_)
 refine gvQ (r := box _ 44 _) ?_
 refine gvQ (r := box _ 46 _) ?_
 refine gvQ (r := box b5 46 _) ?_
 refine gvQ (r := box b3 38 _) ?_
 refine Tr.own_nil 3 1 ?_
 have hcu : cutB w k r = memF (cutFin (fitsT w k.known k.sups all) (amS k.sups) (amR all)) (amR all).length := by rw [cutB, hall]
 rw [← hcu] at hI ⊢
 have hcl : (cutB w k r).length ≤ 64 := by rw [hcu]; exact Nat.le_trans (memF_len _ _) (by omega)
 have hcm : ∀ x ∈ cutB w k r, ∃ n : Nat, n < all.length ∧ x = (n : Int) := fun x hx => by
  rw [hcu] at hx
  simp only [memF, List.mem_map, List.mem_filter, List.mem_range] at hx
  obtain ⟨n, ⟨hn, -⟩, rfl⟩ := hx
  exact ⟨n, by simpa [amR] using hn, rfl⟩
 refine Tr.loop (α := Nat × Option Addr × Nat) (fun y => ⟨99, [(20, .int .i64 (y.1 : Int)), (18, .slice B (cutB w k r).length kk), (9, .slice A8 all.length c8), (15, .pointer (some ⟨bz, 0, none⟩)), (7, .pointer (some ⟨b7, 0, none⟩)), (6, .pointer (some ⟨b6, 0, none⟩)), (4, .pointer (some ⟨b4, 0, none⟩))], [], M7,
   ownS 3 1 y.2.1 y.1 y.2.2 (intV ((confF w k r).take y.1)) :: box bz 54 [.bool false, .slice none 0 0, .slice y.2.1 y.1 y.2.2, .slice D (readsF w k.sups [r]).length cD] :: box b7 54 [.bool false, .slice none 0 0, .slice none 0 0, .slice none 0 0] :: box b6 44 [.int .i64 0, .slice none 0 0, .slice none 0 0, .slice none 0 0, .slice none 0 0] :: box b4 44 [.int .i64 k.known, .slice As k.sups.length cs, .slice Ar k.reqs.length cr, .slice Af k.fits.length cf, .slice Ad k.rds.length cd] :: ([] ++ F)⟩)
  (fun y => y.1 ≤ (cutB w k r).length ∧ y.2.2 ≤ 9223372036854775807) (fun y => (cutB w k r).length - y.1) (0, none, 0) ⟨Nat.zero_le _, by simp⟩ hsQ (fun y hy => ?_)
 obtain ⟨i, C2, cc⟩ := y
 obtain ⟨hi, hcc⟩ := hy
 simp only at hi hcc
 dsimp only
 by_cases hlt : i < (cutB w k r).length
 ·obtain ⟨x, hx⟩ := get_of_lt hlt
  obtain ⟨hA, hat⟩ := hI.at hx
  obtain ⟨n, hn, rfl⟩ := hcm x (List.mem_of_getElem? hx)
  obtain ⟨y, hy⟩ := get_of_lt hn
  obtain ⟨hA2, ch2, hat2, rfl⟩ := (hR1.mono RRqC.mono (hm2.trans hm27)).elem hy
  have hat3 : At M7 (((A8.getD default).add (n * 6)).add 0) [.int .i64 y.no, .int .i64 y.item, .int .i64 y.cust, .int .i64 y.due, .int .i64 y.shelf, .int .i64 y.amount] := hat2.drop 0
  have hcf : (confF w k r).take (i + 1) = (confF w k r).take i ++ [y.no] := by
   unfold confF
   have e2 : ((k.reqs ++ [r]).map (·.no)).getD ((n : Int)).toNat 0 = y.no := by
    rw [List.getD_eq_getElem?_getD, Int.toNat_natCast, List.getElem?_map, hall, hy]; rfl
   rw [← List.map_take, ← List.map_take, nums_take _ hx, e2]
  (refine rQ ?_)
  (((apply Tr.draw ((box bz 54 _ :: _))); (kernel_rfl)); (refine tkQ 0 (hB := by exact (Sub.mem (by repeat (first | exact Sub.refl | apply Sub.cons)))) (s := by exact sfQ) ?_); (refine tkQ 2 (s := by exact Stab.move rfl) ?_); (refine tkQ 3 (s := by exact Stab.move rfl) ?_); (refine tkQ 4 (s := by exact Stab.move rfl) ?_); (refine tkQ 1 (s := by exact slQ) ?_); (refine tkQ 5 (s := by exact sxQ) ?_); (refine tkQ 6 (s := by exact sMQ) ?_); (refine tkQ 7 (s := by exact sxQ) ?_); (refine tkQ 8 (s := by exact Stab.fieldD rfl (tysOk.get rfl) rfl rfl (tysOk.get rfl) rfl) ?_); (refine tkQ 9 (s := by exact sMQ) ?_); (refine TrA.eff 10 rfl (by kernel_rfl) (by exact .inl rfl) ?_); (((refine Knd.buildSlice ?_); ((refine Exec.buildSlice (tysOk.get rfl) rfl (tysOk.get rfl) rfl rfl rfl rfl rfl (by repeat (first | exact BuildP.nil | ((apply BuildP.one); (rfl); (rfl); (first | rfl | assumption); (repeat (first | exact SetL.z | apply SetL.s))))) rfl (fun b => ?_))))); (refine ⟨(by first | exact Mem.le.refl _ | assumption), (by exact (Sub.mem (by repeat (first | exact Sub.refl | apply Sub.cons)))), ?_⟩); (refine TrA.eff 11 rfl (by kernel_rfl) (by exact .inl rfl) ?_))
  refine Exec.append (news := [.int .i64 y.no]) rfl rfl (tysOk.get rfl) rfl (tysOk.get rfl) rfl rfl rfl rfl (by repeat (first | exact Del.here | apply Del.there)) (Src.box (by repeat (first | exact Has.here | apply Has.there))) rfl (by intro u hu; simp at hu; subst hu; rfl) (by omega) (by omega) rfl (fun C3 cc2 hcc2 => ?_)
  refine ⟨(by first | exact Mem.le.refl _ | assumption), (by exact (Sub.mem (by repeat (first | exact Sub.refl | apply Sub.cons)))), ?_⟩
  ((refine tkQ 12 (s := by exact sfQ) ?_); (refine TrA.effD 13 rfl (by kernel_rfl) (by kernel_rfl) (by exact .inl rfl) ?_); (((refine Knd.store ?_); ((refine xSQ ?_)))); (refine ⟨_, fun _ h => h, ?_⟩); (refine TrA.done (by kernel_rfl) ?_))
  refine gvQ (r := box _ 3 _) ?_
  rw [show intV ((confF w k r).take i) ++ [Value.int .i64 y.no] = intV ((confF w k r).take (i + 1)) by rw [hcf, intV_append]; rfl]
  (refine rQ ?_)
  exact Tr.again (i + 1, C3, cc2) ⟨by simp only; omega, hcc2⟩ (by simp only; omega) hsQ
 have ei : i = (cutB w k r).length := by omega
 subst ei
 have hcfl : (confF w k r).length = (cutB w k r).length := by simp [confF]
 rw [← hcfl, List.take_length]
 refine pbQ (r := ownS 3 1 C2 _ _ _) (fun M8 hm8 hok8 => ?_)
 have hC : Ints M8 (.slice C2 (confF w k r).length cc) (confF w k r) := Ints.ofOwn hok8 rfl hcc
 have hm08 := hm07.trans hm8
 have hm48 := hm47.trans hm8
 (refine rQ ?_)
 refine ftQ (r := box b7 54 _) ?_
 refine ftQ (r := box b6 44 _) ?_
 (((apply Tr.draw ((box b7 54 _ :: _))); (kernel_rfl)); (refine tkQ 0 (hB := by exact (Sub.mem (by repeat (first | exact Sub.refl | apply Sub.cons)))) (s := by exact swQ) ?_); (refine tkQ 1 (s := by exact swQ) ?_); (refine TrA.eff 2 rfl (by kernel_rfl) (by exact .inl rfl) ?_); (((refine Knd.store ?_); ((refine xWQ ?_)))); (refine ⟨(by first | exact Mem.le.refl _ | assumption), (by exact (Sub.mem (by repeat (first | exact Sub.refl | apply Sub.cons)))), ?_⟩); (refine TrA.effD 3 rfl (by kernel_rfl) (by kernel_rfl) (by exact .inl rfl) ?_); (((refine Knd.store ?_); ((refine xWQ ?_)))); (refine ⟨_, fun _ h => h, ?_⟩); (refine tkQ 4 (s := by exact Stab.assign rfl) ?_); (refine TrA.done (by kernel_rfl) ?_))
 (repeat (first | (with_reducible first | apply Tr.next | apply Tr.ret)))
 (refine Tr.done (by first | exact .inl rfl | exact .inr rfl) rfl (by repeat (first | exact RVs.nil | (apply RVs.cons; (first | exact RV.tmp rfl | exact RV.cellW (by rfl) (tysOk.get (by rfl)) (by rfl) (by repeat (first | exact Has.here | apply Has.there)) (by first | rfl | assumption))))) (by first | exact Mem.le.refl _ | assumption) (by exact ⟨[_, _, _, _], rfl⟩) ⟨rfl, ?_⟩)
 subst hall
 exact .inl ⟨hask, hok, _, _, rfl, D, cD, hD.mono RRd.mono hm48, .inr ⟨hnf, ⟨As, cs, Ar, cr, Af, cf, Ad, cd, rfl, h1.mono RSpC.mono hm08, h2.mono RRqC.mono hm08, h3.mono RRowB.mono hm08, h4.mono RRd.mono hm08⟩, C2, cc, rfl, hC⟩⟩
set_option maxHeartbeats 8000000 in
theorem raskA_fn (M : Mem) (ws : List Value) (w : Wd) (hw : RWd M ws w) (v : Value) (k : Bp) (hk : RBp M v k) (hfew : k.sups.length ≤ 5 ∧ k.reqs.length ≤ 5) (r : Rq) :
  Fn0 Tryz.prog 15 [.agg ws.toArray, v, .agg #[.int .i64 r.no, .int .i64 r.item, .int .i64 r.cust, .int .i64 r.due, .int .i64 r.shelf, .int .i64 r.amount]] M (fun v M' => AskV w k r v M') := by
 have h11 := hw.len
 have hk0 := hk
 obtain ⟨As, cs, Ar, cr, Af, cf, Ad, cd, rfl, h1, h2, h3, h4⟩ := hk
 refine Fn.intro Tryz.func15 rfl rfl Tryz.ntmps15 rfl fun E F => ?_
 (repeat (first | ((with_reducible refine Tr.step rfl ?_); (first | (refine xaQ ?_) | ((with_reducible refine Knd.load ?_); (first | (refine xwQ ?_) | (refine Exec.stab rfl (Stab.loadW rfl (tysOk.get rfl) rfl (by repeat (first | exact Has.here | apply Has.there)) (by assumption)) rfl ?_))) | ((with_reducible refine Knd.box ?_); (refine Exec.box rfl rfl (fun b => ?_))) | ((with_reducible refine Knd.alloc ?_); (refine Exec.alloc (tysOk.get rfl) rfl rfl (fun b => ?_))))) | (with_reducible first | apply Tr.next | apply Tr.seq | apply Tr.region | apply Tr.nil)))
 ((refine Tr.step rfl ?_)); refine Exec.call0 rfl (rcheck31_fn M ws w hw _ k hk0 ⟨by omega, by omega⟩) rfl ?_
 rintro _ M1 hm1 rfl
 by_cases hok : okB w k
 rotate_left
 ·have e1 : chkE w k = 310 := by rw [chkE, if_neg hok]
  have hask : askE w k r = 310 := by rw [askE, if_pos hok]
  rw [e1]
  (repeat (first | ((with_reducible refine Tr.step rfl ?_); (first | (refine xmQ ?_) | (refine xaQ ?_) | (refine xiQ ?_) | (refine xWQ ?_) | ((with_reducible refine Knd.build ?_); (refine Exec.stab rfl (Stab.build tysOk rfl rfl rfl rfl (by repeat (exact BuildP.nil))) rfl ?_)))) | (with_reducible first | apply Tr.next | apply Tr.seq | apply Tr.region | apply Tr.nil | apply Tr.ret | apply Tr.then_ret) | (refine Tr.cond_t rfl (by first | (with_reducible assumption) | omega) ?_)))
  (refine Tr.done (by first | exact .inl rfl | exact .inr rfl) rfl (by repeat (first | exact RVs.nil | (apply RVs.cons; (first | exact RV.tmp rfl | exact RV.cellW (by rfl) (tysOk.get (by rfl)) (by rfl) (by repeat (first | exact Has.here | apply Has.there)) (by first | rfl | assumption))))) (by first | exact Mem.le.refl _ | assumption) (by exact ⟨[_, _, _, _, _], rfl⟩) ⟨rfl, ?_⟩)
  exact .inr ⟨by rw [hask]; decide, by rw [hask]; rfl⟩
 have e1 : chkE w k = 0 := by rw [chkE, if_pos hok]
 rw [e1]
 (repeat (first | ((with_reducible refine Tr.step rfl ?_); (first | (refine xmQ ?_) | (refine xaQ ?_) | ((with_reducible refine Knd.load ?_); (first | (refine xwQ ?_) | (refine Exec.stab rfl (Stab.loadW rfl (tysOk.get rfl) rfl (by repeat (first | exact Has.here | apply Has.there)) (by assumption)) rfl ?_))) | (refine xiQ ?_))) | (with_reducible first | apply Tr.next | apply Tr.seq | apply Tr.region | apply Tr.nil | apply Tr.skip) | (refine Tr.cond_f rfl (by (with_reducible exact (not_not_intro rfl))) ?_)))
 ((refine Tr.step rfl ?_)); refine Exec.call0 rfl (rask_fn M1 ws w (hw.mono hm1) _ k (hk0.mono hm1) hok hfew r) rfl ?_
 rintro _ M2 hm2 (⟨h0, hv, x, a, rfl, hR⟩ | ⟨hne, rfl⟩)
 ·obtain ⟨y1, y2, y3, y4, y5, z1, z2, z3, z4, rfl, rfl, ⟨o1, o2, o3, o4, o5⟩, o6, o7, o8, o9⟩ := hR.lit
  have hm02 := hm1.trans hm2
  (refine rQ ?_)
  (refine Tr.done (by first | exact .inl rfl | exact .inr rfl) rfl (by repeat (first | exact RVs.nil | (apply RVs.cons; (first | exact RV.tmp rfl | exact RV.cellW (by rfl) (tysOk.get (by rfl)) (by rfl) (by repeat (first | exact Has.here | apply Has.there)) (by first | rfl | assumption))))) (by first | exact Mem.le.refl _ | assumption) (by exact ⟨[_, _, _, _, _], rfl⟩) ⟨rfl, ?_⟩)
  exact .inl ⟨h0, hv, _, _, rfl, hR⟩
 ·have hm02 := hm1.trans hm2
  (refine rQ ?_)
  (refine Tr.done (by first | exact .inl rfl | exact .inr rfl) rfl (by repeat (first | exact RVs.nil | (apply RVs.cons; (first | exact RV.tmp rfl | exact RV.cellW (by rfl) (tysOk.get (by rfl)) (by rfl) (by repeat (first | exact Has.here | apply Has.there)) (by first | rfl | assumption))))) (by first | exact Mem.le.refl _ | assumption) (by exact ⟨[_, _, _, _, _], rfl⟩) ⟨rfl, ?_⟩)
  exact .inr ⟨hne, rfl⟩
end Go.Proofs.YtmikfjcdgkopkaaGreat

/-
 Promises, plain: what New and Drop answer, as one answer.
 Conditions: none.
-/
namespace Go.Proofs.YtmikfjcdgkopkaaGreat
open Go Bf
noncomputable def newE (s : List Sp) : Int := open Classical in if ¬ okT s [] then 290 else if ¬ (s.map (·.no)).Nodup then 310 else 0
noncomputable def newK (w : Wd) (s : List Sp) (known : Int) : Bp := open Classical in if newE s ≠ 0 then zP else mkF w (bkN known s) []
def NewW (w : Wd) (s : List Sp) (known : Int) (v : Value) (M : Mem) : Prop := ∃ x, v = .tuple #[x, .int .i64 (newE s)] ∧ RBp M x (newK w s known)
theorem NewV.one {w : Wd} {s : List Sp} {known : Int} {v : Value} {M : Mem} (h : NewV w s known v M) : NewW w s known v M := by
 rcases h with ⟨h1, rfl⟩ | ⟨h1, h2, rfl⟩ | ⟨h1, h2, x, rfl, hx⟩
 ·have e : newE s = 290 := by rw [newE, if_pos h1]
  exact ⟨_, by rw [e], by rw [newK, if_pos (by rw [e]; decide)]; exact RBp.zero M⟩
 ·have e : newE s = 310 := by rw [newE, if_neg (not_not_intro h1), if_pos h2]
  exact ⟨_, by rw [e], by rw [newK, if_pos (by rw [e]; decide)]; exact RBp.zero M⟩
 ·have e : newE s = 0 := by rw [newE, if_neg (not_not_intro h1), if_neg (not_not_intro h2)]
  exact ⟨x, by rw [e], by rw [newK, if_neg (not_not_intro e)]; exact hx⟩
noncomputable def dropE (w : Wd) (k : Bp) (no : Int) : Int := open Classical in if okB w k ∧ no ∈ k.reqs.map (·.no) then 0 else 310
noncomputable def dropK (w : Wd) (k : Bp) (no : Int) : Bp := open Classical in if okB w k ∧ no ∈ k.reqs.map (·.no) then dropB w k no else zP
def DropW (w : Wd) (k : Bp) (no : Int) (v : Value) (M : Mem) : Prop := ∃ x, v = .tuple #[x, .int .i64 (dropE w k no)] ∧ RBp M x (dropK w k no)
theorem DropV.one {w : Wd} {k : Bp} {no : Int} {v : Value} {M : Mem} (h : DropV w k no v M) : DropW w k no v M := by
 rcases h with ⟨h1, x, rfl, hx⟩ | ⟨h1, rfl⟩
 ·exact ⟨x, by rw [dropE, if_pos h1], by rw [dropK, if_pos h1]; exact hx⟩
 ·exact ⟨_, by rw [dropE, if_neg h1], by rw [dropK, if_neg h1]; exact RBp.zero M⟩
theorem EarP.unique {w : Wd} {k : Bp} {r : Rq} {d d' : Int} {o o' : Bool} (h : EarP w k r d o) (h' : EarP w k r d' o') : d = d' ∧ o = o' := by
 have key : ∀ {d d' : Int} {o : Bool}, EarP w k r d true → EarP w k r d' o → o = true ∧ d' ≤ d := fun {d d' o} h1 h2 => by
  rcases h1 with ⟨-, ⟨a1, a2⟩, a3, -⟩ | ⟨e, -⟩
  ·cases o with
   | false => exact absurd a3 (ear_before h2 a1 a2 (fun e => by cases e))
   | true =>
    refine ⟨rfl, Int.not_lt.1 fun hlt => ?_⟩
    exact absurd a3 (ear_before h2 a1 a2 fun _ => hlt)
  ·cases e
 cases o with
 | true =>
  obtain ⟨rfl, h1⟩ := key h h'
  obtain ⟨-, h2⟩ := key h' h
  exact ⟨by omega, rfl⟩
 | false =>
  cases o' with
  | true => exact absurd (key h' h).1 (by decide)
  | false =>
   rcases h with ⟨e, -⟩ | ⟨-, rfl, -⟩
   ·cases e
   rcases h' with ⟨e, -⟩ | ⟨-, rfl, -⟩
   ·cases e
   exact ⟨rfl, rfl⟩
theorem EarV.unique {w : Wd} {k : Bp} {r : Rq} {u v : Value} (h : EarV w k r u) (h' : EarV w k r v) : u = v := by
 rcases h with ⟨h0, d, o, rfl, hE⟩ | ⟨h0, rfl⟩ <;> rcases h' with ⟨g0, d', o', rfl, gE⟩ | ⟨g0, rfl⟩
 ·obtain ⟨rfl, rfl⟩ := hE.unique gE
  rfl
 ·exact absurd h0 g0
 ·exact absurd g0 h0
 ·rfl
theorem EarV.lit {w : Wd} {k : Bp} {r : Rq} {u : Value} (h : EarV w k r u) : ∃ d o, u = .tuple #[.int .i64 d, .bool o, .int .i64 (askE w k r)] := by
 rcases h with ⟨h0, d, o, rfl, -⟩ | ⟨-, rfl⟩
 ·exact ⟨d, o, by rw [h0]⟩
 ·exact ⟨_, _, rfl⟩
end Go.Proofs.YtmikfjcdgkopkaaGreat

/-
 Promises: the law PromisesAskSpec.
 Conditions: none.
-/
namespace Go.Proofs.YtmikfjcdgkopkaaGreat
open Go Bf
attribute [local irreducible] Tr Exec Stab HasTy Go.Addr.add IntKind.wrap
set_option maxHeartbeats 16000000 in
set_option maxRecDepth 20000 in
theorem askspec_fn (M : Mem) (ws : List Value) (w : Wd) (hw : RWd M ws w) (As0 : Option Addr) (cs0 : Nat) (s : List Sp) (hs : SlOf 6 RSpC M (.slice As0 s.length cs0) s) (known : Int) (v : Value) (k : Bp) (hk : RBp M v k) (r : Rq) :
  Fn0 Tryz.prog 3 [.agg ws.toArray, .slice As0 s.length cs0, .int .i64 known, v, .agg #[.int .i64 r.no, .int .i64 r.item, .int .i64 r.cust, .int .i64 r.due, .int .i64 r.shelf, .int .i64 r.amount]] M (fun v _ => v = .bool true) := by
 have h11 := hw.len
 obtain ⟨As, cs, Ar, cr, Af, cf, Ad, cd, rfl, h1, h2, h3, h4⟩ := id hk
 have hfc : k.fits.length ≤ 9223372036854775807 := h3.len_le
 refine Fn.intro Tryz.func3 rfl rfl Tryz.ntmps3 rfl fun E F => ?_
 (repeat (first | ((with_reducible refine Tr.step rfl ?_); (first | (refine xaQ ?_) | ((with_reducible refine Knd.box ?_); (refine Exec.box rfl rfl (fun b => ?_))))) | (with_reducible first | apply Tr.next | apply Tr.seq | apply Tr.region | apply Tr.nil)))
 rename_i b5 b8
 generalize b = b9
 ((refine Tr.step rfl ?_)); refine Exec.call0 rfl (sane31_fn M) rfl ?_
 rintro _ M1 hm1 rfl
 (repeat (first | ((with_reducible refine Tr.step rfl ?_); (first | ((with_reducible refine Knd.load ?_); (first | (refine xwQ ?_) | (refine Exec.stab rfl (Stab.loadW rfl (tysOk.get rfl) rfl (by repeat (first | exact Has.here | apply Has.there)) (by assumption)) rfl ?_))) | ((with_reducible refine Knd.unOp ?_); (refine Exec.stab rfl (Stab.not rfl) rfl ?_)))) | (with_reducible first | apply Tr.next | apply Tr.seq | apply Tr.region | apply Tr.nil | apply Tr.skip) | (refine Tr.cond_bf rfl (by first | (with_reducible rfl) | (with_reducible exact Bool.not_true)) ?_)))
 ((refine Tr.step rfl ?_)); refine Exec.call0 rfl (few31_fn M1 ws w (hw.mono hm1) _ k (hk.mono hm1)) rfl ?_
 rintro _ _ hm ⟨⟨q, rfl, hq⟩, rfl⟩
 cases q
 ·(refine rQ ?_)
  (refine dnQ (hL := by exact ⟨[_, _, _], rfl⟩) ⟨rfl, ?_⟩)
  rfl
 have hfew := hq rfl
 clear hq
 have hfr : k.sups.length ≤ 5 ∧ k.reqs.length ≤ 5 := ⟨hfew.sl, hfew.rl⟩
 (repeat (first | ((with_reducible refine Tr.step rfl ?_); (first | (refine xmQ ?_) | ((with_reducible refine Knd.unOp ?_); (refine Exec.stab rfl (Stab.not rfl) rfl ?_)))) | ((refine Tr.guard_l rfl rfl rfl (by (with_reducible exact Bool.not_true)) ?_); (first | (refine xmQ ?_) | ((with_reducible refine Knd.load ?_); (refine Exec.stab rfl (Stab.loadW rfl (tysOk.get rfl) rfl (by repeat (first | exact Has.here | apply Has.there)) (by assumption)) rfl ?_)) | ((with_reducible refine Knd.build ?_); (refine Exec.stab rfl (Stab.build tysOk rfl rfl rfl rfl (by repeat (first | exact BuildP.nil | ((apply BuildP.one); (rfl); (rfl); (first | rfl | assumption); (repeat (first | exact SetL.z | apply SetL.s)))))) rfl ?_))))))
 ((refine Tr.guard_l rfl rfl rfl (by (with_reducible exact Bool.not_true)) ?_)); refine Exec.call0 rfl (few31_fn M1 ws w (hw.mono hm1) _ ⟨0, s, [], [], []⟩ ⟨As0, cs0, none, 0, none, 0, none, 0, rfl, hs.mono RSpC.mono hm1, SlOf.nil _ _ _, SlOf.nil _ _ _, SlOf.nil _ _ _⟩) rfl ?_
 rintro _ _ _ ⟨⟨q, rfl, hq⟩, rfl⟩
 cases q
 ·(refine rQ ?_)
  (refine dnQ (hL := by exact ⟨[_, _, _], rfl⟩) ⟨rfl, ?_⟩)
  rfl
 clear hq
 (repeat (first | ((with_reducible refine Tr.step rfl ?_); (first | (refine xmQ ?_) | ((with_reducible refine Knd.load ?_); (refine Exec.stab rfl (Stab.loadW rfl (tysOk.get rfl) rfl (by repeat (first | exact Has.here | apply Has.there)) (by assumption)) rfl ?_)) | ((with_reducible refine Knd.pick ?_); (refine Exec.stab rfl (Stab.pick_f rfl (by (with_reducible exact Bool.not_true)) rfl) rfl ?_)))) | (with_reducible first | apply Tr.next | apply Tr.seq | apply Tr.region | apply Tr.nil) | ((refine Tr.guard_l rfl rfl rfl (by first | (with_reducible rfl) | (with_reducible exact Bool.not_true)) ?_); (with_reducible refine Knd.unOp ?_); (refine Exec.stab rfl (Stab.not rfl) rfl ?_)) | (with_reducible refine Tr.skip ?_) | (refine Tr.cond_bf rfl (by first | (with_reducible rfl) | (with_reducible exact Bool.not_true)) ?_)))
 ((refine Tr.step rfl ?_)); refine Exec.call0 rfl (new_fn M1 ws w (hw.mono hm1) As0 cs0 s (hs.mono RSpC.mono hm1) known) rfl ?_
 rintro _ M2 hm2 hn1
 obtain ⟨x1, rfl, hx1⟩ := hn1.one
 have hm02 := hm1.trans hm2
 obtain ⟨y1, y2, y3, y4, y5, y6, y7, y8, rfl⟩ := hx1.lit
 (repeat (first | ((with_reducible refine Tr.step rfl ?_); (first | (refine xmQ ?_) | (refine xaQ ?_) | ((with_reducible refine Knd.load ?_); (refine Exec.stab rfl (Stab.loadW rfl (tysOk.get rfl) rfl (by repeat (first | exact Has.here | apply Has.there)) (by assumption)) rfl ?_)) | (refine xWQ ?_) | ((with_reducible refine Knd.alloc ?_); (refine Exec.alloc (tysOk.get rfl) rfl rfl (fun b => ?_))) | ((with_reducible refine Knd.extract ?_); (refine Exec.stab rfl (Stab.extract rfl rfl) rfl ?_)))) | (with_reducible first | apply Tr.next | apply Tr.seq | apply Tr.region | apply Tr.nil)))
 ((refine Tr.step rfl ?_)); refine Exec.call0 rfl (rnew_fn M2 ws w (hw.mono hm02) As0 cs0 s (hs.mono RSpC.mono hm02) known) rfl ?_
 rintro _ M3 hm3 hn2
 obtain ⟨x2, rfl, hx2⟩ := hn2.one
 have hm03 := hm02.trans hm3
 obtain ⟨z1, z2, z3, z4, z5, z6, z7, z8, rfl⟩ := hx2.lit
 (repeat (first | ((with_reducible refine Tr.step rfl ?_); (first | (refine xmQ ?_) | (refine xaQ ?_) | ((with_reducible refine Knd.load ?_); (first | (refine xwQ ?_) | (refine Exec.stab rfl (Stab.loadW rfl (tysOk.get rfl) rfl (by repeat (first | exact Has.here | apply Has.there)) (by assumption)) rfl ?_))) | (refine xWQ ?_) | ((with_reducible refine Knd.alloc ?_); (refine Exec.alloc (tysOk.get rfl) rfl rfl (fun b => ?_))) | ((with_reducible refine Knd.extract ?_); (refine Exec.stab rfl (Stab.extract rfl rfl) rfl ?_)))) | (with_reducible first | apply Tr.next | apply Tr.seq | apply Tr.region | apply Tr.nil)))
 ((refine Tr.step rfl ?_)); refine Exec.call0 rfl (askA_fn M3 ws w (hw.mono hm03) _ k (hk.mono hm03) hfc r) rfl ?_
 rintro _ M4 hm4 ha1
 obtain ⟨x3, a3, o3, rfl, hx3, ho3, hp3⟩ := ha1.one
 have hm04 := hm03.trans hm4
 obtain ⟨u1, u2, u3, u4, u5, u6, u7, u8, rfl⟩ := hx3.lit
 obtain ⟨A3, ca3, B3, cb3, D3, cd3, rfl, p1, p2, p3⟩ := id ho3
 (repeat (first | ((with_reducible refine Tr.step rfl ?_); (first | (refine xmQ ?_) | (refine xaQ ?_) | ((with_reducible refine Knd.load ?_); (first | (refine xwQ ?_) | (refine Exec.stab rfl (Stab.loadW rfl (tysOk.get rfl) rfl (by repeat (first | exact Has.here | apply Has.there)) (by assumption)) rfl ?_))) | (refine xWQ ?_) | ((with_reducible refine Knd.alloc ?_); (refine Exec.alloc (tysOk.get rfl) rfl rfl (fun b => ?_))) | ((with_reducible refine Knd.extract ?_); (refine Exec.stab rfl (Stab.extract rfl rfl) rfl ?_)))) | (with_reducible first | apply Tr.next | apply Tr.seq | apply Tr.region | apply Tr.nil)))
 ((refine Tr.step rfl ?_)); refine Exec.call0 rfl (raskA_fn M4 ws w (hw.mono hm04) _ k (hk.mono hm04) hfr r) rfl ?_
 rintro _ M5 hm5 ha2
 obtain ⟨x4, a4, o4, rfl, hx4, ho4, hp4⟩ := ha2.one
 have hm05 := hm04.trans hm5
 obtain ⟨v1, v2, v3, v4, v5, v6, v7, v8, rfl⟩ := hx4.lit
 obtain ⟨A4, ca4, B4, cb4, D4, cd4, rfl, r1, r2, r3⟩ := id ho4
 (repeat (first | ((with_reducible refine Tr.step rfl ?_); (first | (refine xmQ ?_) | (refine xaQ ?_) | (refine xWQ ?_) | ((with_reducible refine Knd.alloc ?_); (refine Exec.alloc (tysOk.get rfl) rfl rfl (fun b => ?_))) | ((with_reducible refine Knd.extract ?_); (refine Exec.stab rfl (Stab.extract rfl rfl) rfl ?_)))) | (with_reducible first | apply Tr.next | apply Tr.seq | apply Tr.nil)))
 (((apply Tr.draw); (kernel_rfl)); (refine tkQ 0 (hB := by exact fun _ h => h) (s := by exact swQ) ?_); (refine tkQ 1 (s := by exact swQ) ?_); (refine TrA.eff 2 rfl (by kernel_rfl) (by exact .inl rfl) ?_))
 refine Exec.call0 rfl (sameB_fn M5 _ _ (newK w s known) (newK w s known) (hx1.mono (hm3.trans (hm4.trans hm5))) (hx2.mono (hm4.trans hm5))) rfl ?_
 rintro _ _ hm ⟨⟨q, rfl, hq⟩, rfl⟩
 obtain rfl := hq.2 rfl
 refine ⟨hm, (by exact fun _ h => h), ?_⟩
 clear hq hm
 ((refine tkQ 3 (s := by exact Stab.move rfl) ?_); ((refine tgQ 4 (s := by exact Stab.move rfl) ?_)); ((refine tgQ 5 (s := by exact Stab.move rfl) ?_)); ((refine tgQ 6 (s := by exact siQ) ?_)))
 rw [decide_eq_true (rfl : newE s = newE s)]
 ((refine tkQ 7 (s := by exact Stab.pick_t rfl (by (with_reducible rfl)) rfl) ?_); (refine tkQ 8 (s := by exact Stab.move rfl) ?_); ((refine tgQ 9 (s := by exact Stab.loadW rfl (tysOk.get rfl) rfl (by repeat (first | exact Has.here | apply Has.there)) (by assumption)) ?_)); ((refine tgQ 10 (s := by exact swQ) ?_)); ((refine tgQ 12 (s := by exact Stab.loadW rfl (tysOk.get rfl) rfl (by repeat (first | exact Has.here | apply Has.there)) (by assumption)) ?_)); ((refine tgQ 13 (s := by exact swQ) ?_)); (refine TrA.eff 11 rfl (by kernel_rfl) (by exact .inr ⟨_, _, _, rfl, rfl, rfl⟩) ?_))
 refine Exec.call0 rfl (check_fn' M5 ws w (hw.mono hm05) _ k (hk.mono hm05) hfc) rfl ?_
 rintro _ M6 hm6 rfl
 refine ⟨hm6, (by exact fun _ h => h), ?_⟩
 have hm06 := hm05.trans hm6
 ((refine TrA.eff 14 rfl (by kernel_rfl) (by exact .inr ⟨_, _, _, rfl, rfl, rfl⟩) ?_))
 refine Exec.call0 rfl (rcheck31_fn M6 ws w (hw.mono hm06) _ k (hk.mono hm06) ⟨by omega, by omega⟩) rfl ?_
 rintro _ M7 hm7 rfl
 refine ⟨hm7, (by exact fun _ h => h), ?_⟩
 have hm07 := hm06.trans hm7
 have hm57 := hm6.trans hm7
 (((refine tgQ 15 (s := by exact siQ) ?_)))
 rw [decide_eq_true (rfl : chkE w k = chkE w k)]
 ((refine tkQ 16 (s := by exact Stab.pick_t rfl (by (with_reducible rfl)) rfl) ?_); (refine tkQ 17 (s := by exact Stab.move rfl) ?_); ((refine tgQ 18 (s := by exact swQ) ?_)); ((refine tgQ 19 (s := by exact swQ) ?_)); (refine TrA.eff 20 rfl (by kernel_rfl) (by exact .inr ⟨_, _, _, rfl, rfl, rfl⟩) ?_))
 refine Exec.call0 rfl (sameB_fn M7 _ _ (bookP w k r) (bookP w k r) (hx3.mono (hm5.trans hm57)) (hx4.mono hm57)) rfl ?_
 rintro _ _ hm ⟨⟨q, rfl, hq⟩, rfl⟩
 obtain rfl := hq.2 rfl
 refine ⟨hm, (by exact fun _ h => h), ?_⟩
 clear hq hm
 ((refine tkQ 21 (s := by exact Stab.pick_t rfl (by (with_reducible rfl)) rfl) ?_); (refine tkQ 22 (s := by exact Stab.move rfl) ?_); ((refine tgQ 23 (s := by exact swQ) ?_)); ((refine tgQ 24 (s := by exact swQ) ?_)); (refine TrA.eff 25 rfl (by kernel_rfl) (by exact .inr ⟨_, _, _, rfl, rfl, rfl⟩) ?_))
 refine Exec.call0 rfl (sameAn_fn M7 _ _ o3 o4 (ho3.mono (hm5.trans hm57)) (ho4.mono hm57)) rfl ?_
 rintro _ _ hm ⟨⟨q, rfl, hq⟩, rfl⟩
 obtain rfl := hq.2 (hp3.unique hp4)
 refine ⟨hm, (by exact fun _ h => h), ?_⟩
 ((refine tkQ 26 (s := by exact Stab.pick_t rfl (by (with_reducible rfl)) rfl) ?_); (refine tkQ 27 (s := by exact Stab.move rfl) ?_); ((refine tgQ 28 (s := by exact Stab.move rfl) ?_)); ((refine tgQ 29 (s := by exact Stab.move rfl) ?_)); ((refine tgQ 30 (s := by exact siQ) ?_)))
 rw [decide_eq_true (rfl : askE w k r = askE w k r)]
 ((refine tkQ 31 (s := by exact Stab.pick_t rfl (by (with_reducible rfl)) rfl) ?_); (refine tkQ 32 (s := by exact Stab.assign rfl) ?_); (refine TrA.done (by kernel_rfl) ?_))
 (repeat (first | (with_reducible first | apply Tr.next | apply Tr.ret)))
 (refine dnQ (hL := by exact ⟨[_, _, _, _, _, _, _, _, _], rfl⟩) ⟨rfl, ?_⟩)
 rfl
end Go.Proofs.YtmikfjcdgkopkaaGreat

/-
 Worlds, books, requests: how the arguments of the laws read.
 Conditions: none.
-/
namespace Go.Proofs.YtmikfjcdgkopkaaGreat
open Go Bf
open Go.ChangeShapes Go.WideShapes Go.ChangeAt Go.RowKit
set_option maxRecDepth 100000
section
variable {H : Type} {enc : TypeId × Value → H} {W : World} {base : Nat} {v : Value} {w : World} {sp : Nat → Bool} {held : Bool}
theorem uINT : Tryz.prog.underlying 3 = some (.int .i64) := (tysOk.get (t := 3) rfl).1
theorem uB : Tryz.prog.underlying 4 = some (.bool) := (tysOk.get (t := 4) rfl).1
theorem uSTR : Tryz.prog.underlying 9 = some (.string) := (tysOk.get (t := 9) rfl).1
theorem uSW : Tryz.prog.underlying 29 = some (.slice 197) := (tysOk.get (t := 29) rfl).1
theorem uFA : Tryz.prog.underlying 36 = some (.slice 147) := (tysOk.get (t := 36) rfl).1
theorem uSPS : Tryz.prog.underlying 39 = some (.slice 82) := (tysOk.get (t := 39) rfl).1
theorem uRQS : Tryz.prog.underlying 40 = some (.slice 46) := (tysOk.get (t := 40) rfl).1
theorem uFT : Tryz.prog.underlying 41 = some (.slice 78) := (tysOk.get (t := 41) rfl).1
theorem uRDS : Tryz.prog.underlying 42 = some (.slice 88) := (tysOk.get (t := 42) rfl).1
theorem uROW : Tryz.prog.underlying 78 = some (.slice 4) := (tysOk.get (t := 78) rfl).1
theorem uLV : Tryz.prog.underlying 32 = some (.slice 3) := (tysOk.get (t := 32) rfl).1
theorem uS0 : ∃ e, Tryz.prog.underlying 22 = some (.slice e) := ⟨_, (tysOk.get (t := 22) rfl).1⟩
theorem uS1 : ∃ e, Tryz.prog.underlying 23 = some (.slice e) := ⟨_, (tysOk.get (t := 23) rfl).1⟩
theorem uS2 : ∃ e, Tryz.prog.underlying 24 = some (.slice e) := ⟨_, (tysOk.get (t := 24) rfl).1⟩
theorem uS3 : ∃ e, Tryz.prog.underlying 25 = some (.slice e) := ⟨_, (tysOk.get (t := 25) rfl).1⟩
theorem uS4 : ∃ e, Tryz.prog.underlying 26 = some (.slice e) := ⟨_, (tysOk.get (t := 26) rfl).1⟩
theorem uS5 : ∃ e, Tryz.prog.underlying 27 = some (.slice e) := ⟨_, (tysOk.get (t := 27) rfl).1⟩
theorem uS6 : ∃ e, Tryz.prog.underlying 28 = some (.slice e) := ⟨_, (tysOk.get (t := 28) rfl).1⟩
theorem uCD : ∃ e, Tryz.prog.underlying 33 = some (.slice e) := ⟨_, (tysOk.get (t := 33) rfl).1⟩
theorem cINT : Tryz.prog.cellsOf 3 = 1 := by kernel_rfl
theorem cB : Tryz.prog.cellsOf 4 = 1 := by kernel_rfl
theorem cSTR : Tryz.prog.cellsOf 9 = 1 := by kernel_rfl
theorem cSW : Tryz.prog.cellsOf 29 = 1 := by kernel_rfl
theorem cFA : Tryz.prog.cellsOf 36 = 1 := by kernel_rfl
theorem cSPS : Tryz.prog.cellsOf 39 = 1 := by kernel_rfl
theorem cRQS : Tryz.prog.cellsOf 40 = 1 := by kernel_rfl
theorem cFT : Tryz.prog.cellsOf 41 = 1 := by kernel_rfl
theorem cRDS : Tryz.prog.cellsOf 42 = 1 := by kernel_rfl
theorem cROW : Tryz.prog.cellsOf 78 = 1 := by kernel_rfl
theorem cLV : Tryz.prog.cellsOf 32 = 1 := by kernel_rfl
theorem cCD : Tryz.prog.cellsOf 33 = 1 := by kernel_rfl
theorem cS0 : Tryz.prog.cellsOf 22 = 1 := by kernel_rfl
theorem cS1 : Tryz.prog.cellsOf 23 = 1 := by kernel_rfl
theorem cS2 : Tryz.prog.cellsOf 24 = 1 := by kernel_rfl
theorem cS3 : Tryz.prog.cellsOf 25 = 1 := by kernel_rfl
theorem cS4 : Tryz.prog.cellsOf 26 = 1 := by kernel_rfl
theorem cS5 : Tryz.prog.cellsOf 27 = 1 := by kernel_rfl
theorem cS6 : Tryz.prog.cellsOf 28 = 1 := by kernel_rfl
theorem cW : Tryz.prog.cellsOf 38 = 11 := by kernel_rfl
theorem cTB : Tryz.prog.cellsOf 35 = 10 := by kernel_rfl
theorem cSRC : Tryz.prog.cellsOf 31 = 8 := by kernel_rfl
theorem cBK : Tryz.prog.cellsOf 44 = 5 := by kernel_rfl
theorem cRQ : Tryz.prog.cellsOf 46 = 6 := by kernel_rfl
theorem cSP : Tryz.prog.cellsOf 82 = 6 := by kernel_rfl
theorem cRD : Tryz.prog.cellsOf 88 = 5 := by kernel_rfl
theorem cFC : Tryz.prog.cellsOf 147 = 8 := by kernel_rfl
theorem cKEY : Tryz.prog.cellsOf 86 = 3 := by kernel_rfl
theorem cSPAN : Tryz.prog.cellsOf 145 = 2 := by kernel_rfl
theorem cSWE : Tryz.prog.cellsOf 197 = 4 := by kernel_rfl
theorem int_bounds {n : Int} (hw : (Lit.int .i64 n).wf = true) : -9223372036854775808 ≤ n ∧ n ≤ 9223372036854775807 := by
 have hmin : IntKind.i64.min = -9223372036854775808 := by decide
 have hmax : IntKind.i64.max = 9223372036854775807 := by decide
 simpa [Lit.wf, hmin, hmax] using hw
theorem one_slice {t e : TypeId} {fuel : Nat} {v : Value} {x : DataW H × List MemPlace} (hu : Tryz.prog.underlying t = some (.slice e)) (h : DataW.trod enc Tryz.prog w 0 sp held fuel t [v] = some x) : v.oneCell' = true := by
 rcases read_slice hu h with rfl | ⟨a, len, cap, f, rfl, -⟩ <;> rfl
theorem lenL3 {l : List Value} (h : l.length = 3) : ∃ a0 a1 a2, l = [a0, a1, a2] := by
 match l, h with
 | [a0, a1, a2], _ => exact ⟨a0, a1, a2, rfl⟩
theorem lenL4 {l : List Value} (h : l.length = 4) : ∃ a0 a1 a2 a3, l = [a0, a1, a2, a3] := by
 match l, h with
 | [a0, a1, a2, a3], _ => exact ⟨a0, a1, a2, a3, rfl⟩
theorem lenL5 {l : List Value} (h : l.length = 5) : ∃ a0 a1 a2 a3 a4, l = [a0, a1, a2, a3, a4] := by
 match l, h with
 | [a0, a1, a2, a3, a4], _ => exact ⟨a0, a1, a2, a3, a4, rfl⟩
theorem lenL6 {l : List Value} (h : l.length = 6) : ∃ a0 a1 a2 a3 a4 a5, l = [a0, a1, a2, a3, a4, a5] := by
 match l, h with
 | [a0, a1, a2, a3, a4, a5], _ => exact ⟨a0, a1, a2, a3, a4, a5, rfl⟩
theorem lenL8 {l : List Value} (h : l.length = 8) : ∃ a0 a1 a2 a3 a4 a5 a6 a7, l = [a0, a1, a2, a3, a4, a5, a6, a7] := by
 match l, h with
 | [a0, a1, a2, a3, a4, a5, a6, a7], _ => exact ⟨a0, a1, a2, a3, a4, a5, a6, a7, rfl⟩
theorem lenL11 {l : List Value} (h : l.length = 11) : ∃ a0 a1 a2 a3 a4 a5 a6 a7 a8 a9 a10, l = [a0, a1, a2, a3, a4, a5, a6, a7, a8, a9, a10] := by
 match l, h with
 | [a0, a1, a2, a3, a4, a5, a6, a7, a8, a9, a10], _ => exact ⟨a0, a1, a2, a3, a4, a5, a6, a7, a8, a9, a10, rfl⟩
theorem open_key {cs : List Value} {fuel : Nat} {x : DataW H × List MemPlace} (h : DataW.trod enc Tryz.prog w 0 sp held fuel 86 cs = some x) : ∃ z0 z1 z2 : Int, cs = [.int .i64 z0, .int .i64 z1, .int .i64 z2] ∧ -9223372036854775808 ≤ z2 ∧ z2 ≤ 9223372036854775807 := by
 obtain ⟨hl, g, hg⟩ := read_struct Tryz.underlying86 h
 rw [cKEY] at hl
 obtain ⟨a0, a1, a2, rfl⟩ := lenL3 hl
 obtain ⟨y0, h0⟩ : ∃ y, DataW.trod enc Tryz.prog w 0 sp held g 3 (([a0, a1, a2].drop 0).take (Tryz.prog.cellsOf 3)) = some y := hg 0 _ rfl
 rw [cINT] at h0
 obtain ⟨y1, h1⟩ : ∃ y, DataW.trod enc Tryz.prog w 0 sp held g 3 (([a0, a1, a2].drop 1).take (Tryz.prog.cellsOf 3)) = some y := hg 1 _ rfl
 rw [cINT] at h1
 obtain ⟨y2, h2⟩ : ∃ y, DataW.trod enc Tryz.prog w 0 sp held g 3 (([a0, a1, a2].drop 2).take (Tryz.prog.cellsOf 3)) = some y := hg 2 _ rfl
 rw [cINT] at h2
 obtain ⟨n0, e0, b0⟩ := read_int uINT h0
 obtain ⟨n1, e1, b1⟩ := read_int uINT h1
 obtain ⟨n2, e2, b2⟩ := read_int uINT h2
 cases e0
 cases e1
 cases e2
 exact ⟨_, _, _, rfl, int_bounds b2⟩
theorem open_rq {cs : List Value} {fuel : Nat} {x : DataW H × List MemPlace} (h : DataW.trod enc Tryz.prog w 0 sp held fuel 46 cs = some x) : ∃ z0 z1 z2 z3 z4 z5 : Int, cs = [.int .i64 z0, .int .i64 z1, .int .i64 z2, .int .i64 z3, .int .i64 z4, .int .i64 z5] ∧ -9223372036854775808 ≤ z5 ∧ z5 ≤ 9223372036854775807 := by
 obtain ⟨hl, g, hg⟩ := read_struct Tryz.underlying46 h
 rw [cRQ] at hl
 obtain ⟨a0, a1, a2, a3, a4, a5, rfl⟩ := lenL6 hl
 obtain ⟨y0, h0⟩ : ∃ y, DataW.trod enc Tryz.prog w 0 sp held g 3 (([a0, a1, a2, a3, a4, a5].drop 0).take (Tryz.prog.cellsOf 3)) = some y := hg 0 _ rfl
 rw [cINT] at h0
 obtain ⟨y1, h1⟩ : ∃ y, DataW.trod enc Tryz.prog w 0 sp held g 3 (([a0, a1, a2, a3, a4, a5].drop 1).take (Tryz.prog.cellsOf 3)) = some y := hg 1 _ rfl
 rw [cINT] at h1
 obtain ⟨y2, h2⟩ : ∃ y, DataW.trod enc Tryz.prog w 0 sp held g 3 (([a0, a1, a2, a3, a4, a5].drop 2).take (Tryz.prog.cellsOf 3)) = some y := hg 2 _ rfl
 rw [cINT] at h2
 obtain ⟨y3, h3⟩ : ∃ y, DataW.trod enc Tryz.prog w 0 sp held g 3 (([a0, a1, a2, a3, a4, a5].drop 3).take (Tryz.prog.cellsOf 3)) = some y := hg 3 _ rfl
 rw [cINT] at h3
 obtain ⟨y4, h4⟩ : ∃ y, DataW.trod enc Tryz.prog w 0 sp held g 3 (([a0, a1, a2, a3, a4, a5].drop 4).take (Tryz.prog.cellsOf 3)) = some y := hg 4 _ rfl
 rw [cINT] at h4
 obtain ⟨y5, h5⟩ : ∃ y, DataW.trod enc Tryz.prog w 0 sp held g 3 (([a0, a1, a2, a3, a4, a5].drop 5).take (Tryz.prog.cellsOf 3)) = some y := hg 5 _ rfl
 rw [cINT] at h5
 obtain ⟨n0, e0, b0⟩ := read_int uINT h0
 obtain ⟨n1, e1, b1⟩ := read_int uINT h1
 obtain ⟨n2, e2, b2⟩ := read_int uINT h2
 obtain ⟨n3, e3, b3⟩ := read_int uINT h3
 obtain ⟨n4, e4, b4⟩ := read_int uINT h4
 obtain ⟨n5, e5, b5⟩ := read_int uINT h5
 cases e0
 cases e1
 cases e2
 cases e3
 cases e4
 cases e5
 exact ⟨_, _, _, _, _, _, rfl, int_bounds b5⟩
theorem open_sp {cs : List Value} {fuel : Nat} {x : DataW H × List MemPlace} (h : DataW.trod enc Tryz.prog w 0 sp held fuel 82 cs = some x) : ∃ z0 z1 z2 z3 z4 z5 : Int, cs = [.int .i64 z0, .int .i64 z1, .int .i64 z2, .int .i64 z3, .int .i64 z4, .int .i64 z5] ∧ -9223372036854775808 ≤ z5 ∧ z5 ≤ 9223372036854775807 := by
 obtain ⟨hl, g, hg⟩ := read_struct Tryz.underlying82 h
 rw [cSP] at hl
 obtain ⟨a0, a1, a2, a3, a4, a5, rfl⟩ := lenL6 hl
 obtain ⟨y0, h0⟩ : ∃ y, DataW.trod enc Tryz.prog w 0 sp held g 3 (([a0, a1, a2, a3, a4, a5].drop 0).take (Tryz.prog.cellsOf 3)) = some y := hg 0 _ rfl
 rw [cINT] at h0
 obtain ⟨y1, h1⟩ : ∃ y, DataW.trod enc Tryz.prog w 0 sp held g 3 (([a0, a1, a2, a3, a4, a5].drop 1).take (Tryz.prog.cellsOf 3)) = some y := hg 1 _ rfl
 rw [cINT] at h1
 obtain ⟨y2, h2⟩ : ∃ y, DataW.trod enc Tryz.prog w 0 sp held g 3 (([a0, a1, a2, a3, a4, a5].drop 2).take (Tryz.prog.cellsOf 3)) = some y := hg 2 _ rfl
 rw [cINT] at h2
 obtain ⟨y3, h3⟩ : ∃ y, DataW.trod enc Tryz.prog w 0 sp held g 3 (([a0, a1, a2, a3, a4, a5].drop 3).take (Tryz.prog.cellsOf 3)) = some y := hg 3 _ rfl
 rw [cINT] at h3
 obtain ⟨y4, h4⟩ : ∃ y, DataW.trod enc Tryz.prog w 0 sp held g 3 (([a0, a1, a2, a3, a4, a5].drop 4).take (Tryz.prog.cellsOf 3)) = some y := hg 4 _ rfl
 rw [cINT] at h4
 obtain ⟨y5, h5⟩ : ∃ y, DataW.trod enc Tryz.prog w 0 sp held g 3 (([a0, a1, a2, a3, a4, a5].drop 5).take (Tryz.prog.cellsOf 3)) = some y := hg 5 _ rfl
 rw [cINT] at h5
 obtain ⟨n0, e0, b0⟩ := read_int uINT h0
 obtain ⟨n1, e1, b1⟩ := read_int uINT h1
 obtain ⟨n2, e2, b2⟩ := read_int uINT h2
 obtain ⟨n3, e3, b3⟩ := read_int uINT h3
 obtain ⟨n4, e4, b4⟩ := read_int uINT h4
 obtain ⟨n5, e5, b5⟩ := read_int uINT h5
 cases e0
 cases e1
 cases e2
 cases e3
 cases e4
 cases e5
 exact ⟨_, _, _, _, _, _, rfl, int_bounds b5⟩
theorem open_rd {cs : List Value} {fuel : Nat} {x : DataW H × List MemPlace} (h : DataW.trod enc Tryz.prog w 0 sp held fuel 88 cs = some x) : ∃ z0 z1 z2 z3 z4 : Int, cs = [.int .i64 z0, .int .i64 z1, .int .i64 z2, .int .i64 z3, .int .i64 z4] ∧ -9223372036854775808 ≤ z4 ∧ z4 ≤ 9223372036854775807 := by
 obtain ⟨hl, g, hg⟩ := read_struct Tryz.underlying88 h
 rw [cRD] at hl
 obtain ⟨a0, a1, a2, a3, a4, rfl⟩ := lenL5 hl
 obtain ⟨y0, h0⟩ : ∃ y, DataW.trod enc Tryz.prog w 0 sp held g 86 (([a0, a1, a2, a3, a4].drop 0).take (Tryz.prog.cellsOf 86)) = some y := hg 0 _ rfl
 rw [cKEY] at h0
 obtain ⟨y1, h1⟩ : ∃ y, DataW.trod enc Tryz.prog w 0 sp held g 3 (([a0, a1, a2, a3, a4].drop 3).take (Tryz.prog.cellsOf 3)) = some y := hg 1 _ rfl
 rw [cINT] at h1
 obtain ⟨y2, h2⟩ : ∃ y, DataW.trod enc Tryz.prog w 0 sp held g 3 (([a0, a1, a2, a3, a4].drop 4).take (Tryz.prog.cellsOf 3)) = some y := hg 2 _ rfl
 rw [cINT] at h2
 obtain ⟨n0, n1, n2, e0, b0⟩ := open_key h0
 obtain ⟨n3, e1, b1⟩ := read_int uINT h1
 obtain ⟨n4, e2, b2⟩ := read_int uINT h2
 cases e0
 cases e1
 cases e2
 exact ⟨_, _, _, _, _, rfl, int_bounds b2⟩
theorem open_fcb {cs : List Value} {fuel : Nat} {x : DataW H × List MemPlace} (h : DataW.trod enc Tryz.prog w 0 sp held fuel 147 cs = some x) : ∃ z0 z1 z2 z3 z4 z5 z6 z7 : Int, cs = [.int .i64 z0, .int .i64 z1, .int .i64 z2, .int .i64 z3, .int .i64 z4, .int .i64 z5, .int .i64 z6, .int .i64 z7] ∧ (-9223372036854775808 ≤ z4 ∧ z4 ≤ 9223372036854775807) ∧ (-9223372036854775808 ≤ z5 ∧ z5 ≤ 9223372036854775807) := by
 obtain ⟨hl, g, hg⟩ := read_struct Tryz.underlying147 h
 rw [cFC] at hl
 obtain ⟨a0, a1, a2, a3, a4, a5, a6, a7, rfl⟩ := lenL8 hl
 obtain ⟨y0, h0⟩ : ∃ y, DataW.trod enc Tryz.prog w 0 sp held g 86 (([a0, a1, a2, a3, a4, a5, a6, a7].drop 0).take (Tryz.prog.cellsOf 86)) = some y := hg 0 _ rfl
 rw [cKEY] at h0
 obtain ⟨y1, h1⟩ : ∃ y, DataW.trod enc Tryz.prog w 0 sp held g 3 (([a0, a1, a2, a3, a4, a5, a6, a7].drop 3).take (Tryz.prog.cellsOf 3)) = some y := hg 1 _ rfl
 rw [cINT] at h1
 obtain ⟨y2, h2⟩ : ∃ y, DataW.trod enc Tryz.prog w 0 sp held g 145 (([a0, a1, a2, a3, a4, a5, a6, a7].drop 4).take (Tryz.prog.cellsOf 145)) = some y := hg 2 _ rfl
 rw [cSPAN] at h2
 obtain ⟨y3, h3⟩ : ∃ y, DataW.trod enc Tryz.prog w 0 sp held g 3 (([a0, a1, a2, a3, a4, a5, a6, a7].drop 6).take (Tryz.prog.cellsOf 3)) = some y := hg 3 _ rfl
 rw [cINT] at h3
 obtain ⟨y4, h4⟩ : ∃ y, DataW.trod enc Tryz.prog w 0 sp held g 3 (([a0, a1, a2, a3, a4, a5, a6, a7].drop 7).take (Tryz.prog.cellsOf 3)) = some y := hg 4 _ rfl
 rw [cINT] at h4
 obtain ⟨n0, n1, n2, e0, -⟩ := open_key h0
 obtain ⟨n3, e1, -⟩ := read_int uINT h1
 obtain ⟨hl2, g2, hg2⟩ := read_struct Tryz.underlying145 h2
 obtain ⟨y5, k0⟩ : ∃ y, DataW.trod enc Tryz.prog w 0 sp held g2 3 (([a4, a5].drop 0).take (Tryz.prog.cellsOf 3)) = some y := hg2 0 _ rfl
 rw [cINT] at k0
 obtain ⟨y6, k1⟩ : ∃ y, DataW.trod enc Tryz.prog w 0 sp held g2 3 (([a4, a5].drop 1).take (Tryz.prog.cellsOf 3)) = some y := hg2 1 _ rfl
 rw [cINT] at k1
 obtain ⟨n4, e4, b4⟩ := read_int uINT k0
 obtain ⟨n5, e5, b5⟩ := read_int uINT k1
 obtain ⟨n6, e6, -⟩ := read_int uINT h3
 obtain ⟨n7, e7, -⟩ := read_int uINT h4
 cases e0
 cases e1
 cases e4
 cases e5
 cases e6
 cases e7
 exact ⟨_, _, _, _, _, _, _, _, rfl, int_bounds b4, int_bounds b5⟩
theorem slOf_split {α : Type} {sz : Nat} {R R' : Mem → List Value → α → Prop} {Q : α → Prop} {M : Mem} {v : Value} {xs : List α} (h : SlOf sz R M v xs) (hR : ∀ c x, R M c x → R' M c x ∧ Q x) : SlOf sz R' M v xs ∧ ∀ x ∈ xs, Q x := by
 obtain ⟨A, k, cells, h1, h2, h3, h4, hr, he⟩ := h
 refine ⟨⟨A, k, cells, h1, h2, h3, h4, hr, fun i x hx => (hR _ _ (he i x hx)).1⟩, fun x hx => ?_⟩
 obtain ⟨i, hi, rfl⟩ := List.getElem_of_mem hx
 exact (hR _ _ (he i _ (List.getElem?_eq_getElem hi))).2
def FDay (f : Fc) : Prop := (-9223372036854775808 ≤ f.lo ∧ f.lo ≤ 9223372036854775807) ∧ (-9223372036854775808 ≤ f.hi ∧ f.hi ≤ 9223372036854775807)
theorem open_sw {cs : List Value} {fuel : Nat} {x : DataW H × List MemPlace} (h : DataW.trod enc Tryz.prog w 0 sp held fuel 197 cs = some x) : ∃ (s1 s2 : ByteArray) (a b : Int), cs = [.string s1, .string s2, .int .i64 a, .int .i64 b] := by
 obtain ⟨hl, g, hg⟩ := read_struct Tryz.underlying197 h
 rw [cSWE] at hl
 obtain ⟨a0, a1, a2, a3, rfl⟩ := lenL4 hl
 obtain ⟨y0, h0⟩ : ∃ y, DataW.trod enc Tryz.prog w 0 sp held g 9 (([a0, a1, a2, a3].drop 0).take (Tryz.prog.cellsOf 9)) = some y := hg 0 _ rfl
 rw [cSTR] at h0
 obtain ⟨y1, h1⟩ : ∃ y, DataW.trod enc Tryz.prog w 0 sp held g 9 (([a0, a1, a2, a3].drop 1).take (Tryz.prog.cellsOf 9)) = some y := hg 1 _ rfl
 rw [cSTR] at h1
 obtain ⟨y2, h2⟩ : ∃ y, DataW.trod enc Tryz.prog w 0 sp held g 3 (([a0, a1, a2, a3].drop 2).take (Tryz.prog.cellsOf 3)) = some y := hg 2 _ rfl
 rw [cINT] at h2
 obtain ⟨y3, h3⟩ : ∃ y, DataW.trod enc Tryz.prog w 0 sp held g 3 (([a0, a1, a2, a3].drop 3).take (Tryz.prog.cellsOf 3)) = some y := hg 3 _ rfl
 rw [cINT] at h3
 obtain ⟨s1, e0, -⟩ := read_string uSTR h0
 obtain ⟨s2, e1, -⟩ := read_string uSTR h1
 obtain ⟨n2, e2, -⟩ := read_int uINT h2
 obtain ⟨n3, e3, -⟩ := read_int uINT h3
 cases e0; cases e1; cases e2; cases e3
 exact ⟨_, _, _, _, rfl⟩
theorem open_world {cs : List Value} {fuel : Nat} {x : DataW H × List MemPlace} (h : DataW.trod enc Tryz.prog w 0 sp held fuel 38 cs = some x) : ∃ d : Wd, RWd (Bf.hp w) cs d ∧ ∀ f ∈ d.facts, FDay f := by
 obtain ⟨hl, g, hg⟩ := read_struct Tryz.underlying38 h
 rw [cW] at hl
 obtain ⟨a0, a1, a2, a3, a4, a5, a6, a7, a8, a9, a10, rfl⟩ := lenL11 hl
 obtain ⟨y0, h0⟩ : ∃ y, DataW.trod enc Tryz.prog w 0 sp held g 35 (([a0, a1, a2, a3, a4, a5, a6, a7, a8, a9, a10].drop 0).take (Tryz.prog.cellsOf 35)) = some y := hg 0 _ rfl
 rw [cTB] at h0
 obtain ⟨y1, h1⟩ : ∃ y, DataW.trod enc Tryz.prog w 0 sp held g 36 (([a0, a1, a2, a3, a4, a5, a6, a7, a8, a9, a10].drop 10).take (Tryz.prog.cellsOf 36)) = some y := hg 1 _ rfl
 rw [cFA] at h1
 have h0 : DataW.trod enc Tryz.prog w 0 sp held g 35 [a0, a1, a2, a3, a4, a5, a6, a7, a8, a9] = some y0 := h0
 obtain ⟨-, g2, hg2⟩ := read_struct Tryz.underlying35 h0
 obtain ⟨z0, k0⟩ : ∃ y, DataW.trod enc Tryz.prog w 0 sp held g2 31 (([a0, a1, a2, a3, a4, a5, a6, a7, a8, a9].drop 0).take (Tryz.prog.cellsOf 31)) = some y := hg2 0 _ rfl
 rw [cSRC] at k0
 obtain ⟨z1, k1⟩ : ∃ y, DataW.trod enc Tryz.prog w 0 sp held g2 32 (([a0, a1, a2, a3, a4, a5, a6, a7, a8, a9].drop 8).take (Tryz.prog.cellsOf 32)) = some y := hg2 1 _ rfl
 rw [cLV] at k1
 obtain ⟨z2, k2⟩ : ∃ y, DataW.trod enc Tryz.prog w 0 sp held g2 33 (([a0, a1, a2, a3, a4, a5, a6, a7, a8, a9].drop 9).take (Tryz.prog.cellsOf 33)) = some y := hg2 2 _ rfl
 rw [cCD] at k2
 have k0 : DataW.trod enc Tryz.prog w 0 sp held g2 31 [a0, a1, a2, a3, a4, a5, a6, a7] = some z0 := k0
 obtain ⟨-, g3, hg3⟩ := read_struct Tryz.underlying31 k0
 obtain ⟨x0, m0⟩ : ∃ y, DataW.trod enc Tryz.prog w 0 sp held g3 22 (([a0, a1, a2, a3, a4, a5, a6, a7].drop 0).take (Tryz.prog.cellsOf 22)) = some y := hg3 0 _ rfl
 rw [cS0] at m0
 obtain ⟨x1, m1⟩ : ∃ y, DataW.trod enc Tryz.prog w 0 sp held g3 23 (([a0, a1, a2, a3, a4, a5, a6, a7].drop 1).take (Tryz.prog.cellsOf 23)) = some y := hg3 1 _ rfl
 rw [cS1] at m1
 obtain ⟨x2, m2⟩ : ∃ y, DataW.trod enc Tryz.prog w 0 sp held g3 24 (([a0, a1, a2, a3, a4, a5, a6, a7].drop 2).take (Tryz.prog.cellsOf 24)) = some y := hg3 2 _ rfl
 rw [cS2] at m2
 obtain ⟨x3, m3⟩ : ∃ y, DataW.trod enc Tryz.prog w 0 sp held g3 25 (([a0, a1, a2, a3, a4, a5, a6, a7].drop 3).take (Tryz.prog.cellsOf 25)) = some y := hg3 3 _ rfl
 rw [cS3] at m3
 obtain ⟨x4, m4⟩ : ∃ y, DataW.trod enc Tryz.prog w 0 sp held g3 26 (([a0, a1, a2, a3, a4, a5, a6, a7].drop 4).take (Tryz.prog.cellsOf 26)) = some y := hg3 4 _ rfl
 rw [cS4] at m4
 obtain ⟨x5, m5⟩ : ∃ y, DataW.trod enc Tryz.prog w 0 sp held g3 27 (([a0, a1, a2, a3, a4, a5, a6, a7].drop 5).take (Tryz.prog.cellsOf 27)) = some y := hg3 5 _ rfl
 rw [cS5] at m5
 obtain ⟨x6, m6⟩ : ∃ y, DataW.trod enc Tryz.prog w 0 sp held g3 28 (([a0, a1, a2, a3, a4, a5, a6, a7].drop 6).take (Tryz.prog.cellsOf 28)) = some y := hg3 6 _ rfl
 rw [cS6] at m6
 obtain ⟨x7, m7⟩ : ∃ y, DataW.trod enc Tryz.prog w 0 sp held g3 29 (([a0, a1, a2, a3, a4, a5, a6, a7].drop 7).take (Tryz.prog.cellsOf 29)) = some y := hg3 7 _ rfl
 rw [cSW] at m7
 obtain ⟨e0, he0⟩ := uS0
 have o0 := one_slice he0 m0
 obtain ⟨e1, he1⟩ := uS1
 have o1 := one_slice he1 m1
 obtain ⟨e2, he2⟩ := uS2
 have o2 := one_slice he2 m2
 obtain ⟨e3, he3⟩ := uS3
 have o3 := one_slice he3 m3
 obtain ⟨e4, he4⟩ := uS4
 have o4 := one_slice he4 m4
 obtain ⟨e5, he5⟩ := uS5
 have o5 := one_slice he5 m5
 obtain ⟨e6, he6⟩ := uS6
 have o6 := one_slice he6 m6
 have o8 := one_slice uLV k1
 obtain ⟨e9, he9⟩ := uCD
 have o9 := one_slice he9 k2
 obtain ⟨swaps, A, c, rfl, hs⟩ := read_slOf (R := RSw) uSW cSWE (by omega) (fun f cs y hl hy => by
  obtain ⟨s1, s2, p, q, rfl⟩ := open_sw hy
  exact ⟨by intro u hu; simp at hu; rcases hu with rfl | rfl | rfl | rfl <;> rfl, (p, q), s1, s2, rfl⟩) m7
 obtain ⟨facts, B, d, rfl, hf0⟩ := read_slOf (R := fun M c x => RFc M c x ∧ FDay x) uFA cFC (by omega) (fun f cs y hl hy => by
  obtain ⟨z0, z1, z2, z3, z4, z5, z6, z7, rfl, hb1, hb2⟩ := open_fcb hy
  exact ⟨by intro u hu; simp at hu; rcases hu with rfl | rfl | rfl | rfl | rfl | rfl | rfl | rfl <;> rfl, ⟨(z0, z1, z2), z3, z4, z5, z6, z7⟩, rfl, hb1, hb2⟩) h1
 obtain ⟨hf, hfb⟩ := slOf_split (R' := RFc) (Q := FDay) hf0 fun c x hx => hx
 refine ⟨⟨swaps, facts⟩, ⟨rfl, ?_, ⟨A, c, rfl, hs⟩, ⟨B, d, rfl, hf⟩⟩, hfb⟩
 repeat (first | exact AllOne.nil | refine AllOne.cons (by first | assumption | rfl) ?_)
theorem open_book {cs : List Value} {fuel : Nat} {x : DataW H × List MemPlace} (h : DataW.trod enc Tryz.prog w 0 sp held fuel 44 cs = some x) : ∃ k : Bp, RBp (Bf.hp w) (.agg cs.toArray) k := by
 obtain ⟨hl, g, hg⟩ := read_struct Tryz.underlying44 h
 rw [cBK] at hl
 obtain ⟨a0, a1, a2, a3, a4, rfl⟩ := lenL5 hl
 obtain ⟨y0, h0⟩ : ∃ y, DataW.trod enc Tryz.prog w 0 sp held g 3 (([a0, a1, a2, a3, a4].drop 0).take (Tryz.prog.cellsOf 3)) = some y := hg 0 _ rfl
 rw [cINT] at h0
 obtain ⟨y1, h1⟩ : ∃ y, DataW.trod enc Tryz.prog w 0 sp held g 39 (([a0, a1, a2, a3, a4].drop 1).take (Tryz.prog.cellsOf 39)) = some y := hg 1 _ rfl
 rw [cSPS] at h1
 obtain ⟨y2, h2⟩ : ∃ y, DataW.trod enc Tryz.prog w 0 sp held g 40 (([a0, a1, a2, a3, a4].drop 2).take (Tryz.prog.cellsOf 40)) = some y := hg 2 _ rfl
 rw [cRQS] at h2
 obtain ⟨y3, h3⟩ : ∃ y, DataW.trod enc Tryz.prog w 0 sp held g 41 (([a0, a1, a2, a3, a4].drop 3).take (Tryz.prog.cellsOf 41)) = some y := hg 3 _ rfl
 rw [cFT] at h3
 obtain ⟨y4, h4⟩ : ∃ y, DataW.trod enc Tryz.prog w 0 sp held g 42 (([a0, a1, a2, a3, a4].drop 4).take (Tryz.prog.cellsOf 42)) = some y := hg 4 _ rfl
 rw [cRDS] at h4
 obtain ⟨n0, e0, -⟩ := read_int uINT h0
 cases e0
 obtain ⟨sups, As, ca, rfl, hs⟩ := read_slOf (R := RSpC) uSPS cSP (by omega) (fun f cs y hl hy => by
  obtain ⟨z0, z1, z2, z3, z4, z5, rfl, -⟩ := open_sp hy
  exact ⟨by intro u hu; simp at hu; rcases hu with rfl | rfl | rfl | rfl | rfl | rfl <;> rfl, ⟨z0, z1, z2, z3, z4, z5⟩, rfl⟩) h1
 obtain ⟨reqs, Ar, cr, rfl, hr⟩ := read_slOf (R := RRqC) uRQS cRQ (by omega) (fun f cs y hl hy => by
  obtain ⟨z0, z1, z2, z3, z4, z5, rfl, -⟩ := open_rq hy
  exact ⟨by intro u hu; simp at hu; rcases hu with rfl | rfl | rfl | rfl | rfl | rfl <;> rfl, ⟨z0, z1, z2, z3, z4, z5⟩, rfl⟩) h2
 obtain ⟨fits, Af, cf, rfl, hf⟩ := read_slOf (R := RRowB) uFT cROW (by omega) (fun f cs y hl hy => by
  obtain ⟨a, rfl⟩ := List.length_eq_one_iff.1 hl
  obtain ⟨l, A, c, rfl, hs⟩ := read_slOf (R := RBo) uROW cB (by omega) (fun f cs y hl hy => by
   obtain ⟨b, rfl⟩ := read_bool uB hy
   exact ⟨by intro u hu; simp at hu; subst hu; rfl, b, rfl⟩) hy
  exact ⟨by intro u hu; simp at hu; subst hu; rfl, l, A, c, rfl, hs⟩) h3
 obtain ⟨rds, Ad, cd, rfl, hd⟩ := read_slOf (R := RRd) uRDS cRD (by omega) (fun f cs y hl hy => by
  obtain ⟨z0, z1, z2, z3, z4, rfl, -⟩ := open_rd hy
  exact ⟨by intro u hu; simp at hu; rcases hu with rfl | rfl | rfl | rfl | rfl <;> rfl, ((z0, z1, z2), z3, z4), rfl⟩) h4
 exact ⟨⟨n0, sups, reqs, fits, rds⟩, As, ca, Ar, cr, Af, cf, Ad, cd, rfl, hs, hr, hf, hd⟩
theorem arg_world (h : Arg enc Tryz.prog W base 38 v) : ∃ ws d, v = .agg ws.toArray ∧ RWd (Bf.hp W) ws d ∧ ∀ f ∈ d.facts, FDay f := by
 obtain ⟨k0, f0, x, g0⟩ := h
 unfold Value.okWide at k0
 rw [Tryz.underlying38] at k0
 obtain ⟨cs, rfl, -, -⟩ := k0
 obtain ⟨d, hd⟩ := open_world (cs := cs.toList) (by simpa [Value.cells] using g0)
 exact ⟨cs.toList, d, by simp, hd⟩
theorem arg_book (h : Arg enc Tryz.prog W base 44 v) : ∃ k, RBp (Bf.hp W) v k := by
 obtain ⟨k0, f0, x, g0⟩ := h
 unfold Value.okWide at k0
 rw [Tryz.underlying44] at k0
 obtain ⟨cs, rfl, -, -⟩ := k0
 obtain ⟨dk, hdk⟩ := open_book g0
 exact ⟨dk, by simpa [Value.cells] using hdk⟩
theorem arg_req (h : Arg enc Tryz.prog W base 46 v) : ∃ r : Rq, v = .agg #[.int .i64 r.no, .int .i64 r.item, .int .i64 r.cust, .int .i64 r.due, .int .i64 r.shelf, .int .i64 r.amount] ∧ -9223372036854775808 ≤ r.amount ∧ r.amount ≤ 9223372036854775807 := by
 obtain ⟨k0, f0, x, g0⟩ := h
 unfold Value.okWide at k0
 rw [Tryz.underlying46] at k0
 obtain ⟨cs, rfl, -, -⟩ := k0
 obtain ⟨z0, z1, z2, z3, z4, z5, e, hb⟩ := open_rq (cs := cs.toList) (by simpa [Value.cells] using g0)
 refine ⟨⟨z0, z1, z2, z3, z4, z5⟩, ?_, hb⟩
 have : cs = cs.toList.toArray := by simp
 rw [this, e]
theorem arg_sups (h : Arg enc Tryz.prog W base 39 v) : ∃ (l : List Sp) (A : Option Addr) (c : Nat), v = .slice A l.length c ∧ SlOf 6 RSpC (Bf.hp W) (.slice A l.length c) l := by
 obtain ⟨k0, f0, x, g0⟩ := h
 obtain ⟨A, len, cap, rfl⟩ := okWide_slice uSPS k0
 exact read_slOf (R := RSpC) uSPS cSP (by omega) (fun f cs y hl hy => by
  obtain ⟨z0, z1, z2, z3, z4, z5, rfl, -⟩ := open_sp hy
  exact ⟨by intro u hu; simp at hu; rcases hu with rfl | rfl | rfl | rfl | rfl | rfl <;> rfl, ⟨z0, z1, z2, z3, z4, z5⟩, rfl⟩) (by simpa [Value.cells] using g0)
theorem uUI : Tryz.prog.underlying 65 = some (.int .u64) := (tysOk.get (t := 65) rfl).1
theorem arg_uint (h : Arg enc Tryz.prog W base 65 v) : ∃ a : Int, v = .int .u64 a ∧ 0 ≤ a := by
 obtain ⟨k0, f0, x, g0⟩ := h
 obtain ⟨n, rfl⟩ := okWide_int uUI k0
 obtain ⟨m, e, hw⟩ := read_int uUI g0
 simp [Value.cells] at e
 subst e
 refine ⟨n, rfl, ?_⟩
 have hmin : IntKind.u64.min = 0 := by decide
 simp [Lit.wf, hmin] at hw
 exact hw.1
theorem arg_int (h : Arg enc Tryz.prog W base 3 v) : ∃ a : Int, v = .int .i64 a ∧ -9223372036854775808 ≤ a ∧ a ≤ 9223372036854775807 := by
 obtain ⟨k0, f0, x, g0⟩ := h
 obtain ⟨n, rfl⟩ := okWide_int uINT k0
 obtain ⟨m, e, hw⟩ := read_int uINT g0
 simp [Value.cells] at e
 subst e
 exact ⟨n, rfl, int_bounds hw⟩
end
theorem len4 {l : List Value} (h : l.length = 4) : ∃ a b c d, l = [a, b, c, d] := lenL4 h
theorem len5 {l : List Value} (h : l.length = 5) : ∃ a b c d e, l = [a, b, c, d, e] := lenL5 h
theorem ownT' : ownKnob Tryz.checked.prog.godebug = none := by kernel_rfl
theorem laidT' : laidOutB Tryz.checked.prog = true := by kernel_rfl
end Go.Proofs.YtmikfjcdgkopkaaGreat

/-
 Promises: the row of PromisesAskSpec.
 Conditions: none.
-/
namespace Go.Proofs.YtmikfjcdgkopkaaGreat
open Go Bf
open Go.ChangeShapes Go.WideShapes Go.ChangeAt Go.RowKit
set_option maxRecDepth 100000 in
theorem askspec_lifted (os : Os) (started : os.Started) (H : Type) (enc : TypeId × Value → H) :
  ReturnsInHanded {} Tryz.checked os 3 .any (Rows.promisesAskSpecSpec.pre6 enc Tryz.prog Tryz.f3 Rows.promisesAskSpecRow.domain false) (Rows.promisesAskSpecSpec.post enc Tryz.prog Tryz.f3 false true false false) :=
 lift_true (C := Tryz.checked) (ts := [38, 39, 3, 44, 46]) (tb := 4) started ownT' (by kernel_rfl) Tryz.func3
  (ChangeSpec.witness6 (enc := enc) (C := Tryz.checked) false ⟨#[], #[.agg #[.slice none 0 0, .slice none 0 0, .slice none 0 0, .slice none 0 0, .slice none 0 0, .slice none 0 0, .slice none 0 0, .slice none 0 0, .slice none 0 0, .slice none 0 0, .slice none 0 0], .slice none 0 0, .int .i64 0, .agg #[.int .i64 0, .slice none 0 0, .slice none 0 0, .slice none 0 0, .slice none 0 0], .agg #[.int .i64 0, .int .i64 0, .int .i64 0, .int .i64 0, .int .i64 0, .int .i64 0]], []⟩ 8 (by kernel_rfl) (by kernel_rfl) (by kernel_rfl) (by kernel_rfl))
  (by rw [Tryz.params3]) laidT' (by kernel_rfl) rfl (fun ds h => match ds, h with | [_, _, _, _, _], _ => rfl) rfl Tryz.underlying4
  (fun W base vs hl ha => by
   obtain ⟨v0, v1, v2, v3, v4, rfl⟩ := len5 hl
   obtain ⟨ws, w, rfl, hw, hfd⟩ := arg_world (ha 0 38 v0 rfl rfl)
   obtain ⟨s, A, c, rfl, hs⟩ := arg_sups (ha 1 39 v1 rfl rfl)
   obtain ⟨y, rfl, hy⟩ := arg_int (ha 2 3 v2 rfl rfl)
   obtain ⟨k, hk⟩ := arg_book (ha 3 44 v3 rfl rfl)
   obtain ⟨r, rfl, hr⟩ := arg_req (ha 4 46 v4 rfl rfl)
   exact askspec_fn _ ws w hw A c s hs y v3 k hk r)
theorem promisesAskSpec_holds : Rows.PromisesAskSpecSaid :=
 OpenClaim.holds_of_wide 3 Tryz.f3 rfl rfl rfl rfl rfl rfl rfl ⟨rfl, rfl, rfl, rfl, rfl⟩ rfl rfl rfl rfl rfl (by kernel_rfl) Tryz.func3 (by kernel_rfl)
  (of_decide_eq_true (by kernel_rfl)) (by unfold Func.isWrapper; first | (rw [if_pos (by decide +kernel)]; kernel_rfl) | (rw [if_neg (by decide +kernel)]; exact ⟨rfl, rfl⟩))
  (fun os started H enc _ => askspec_lifted os started H enc)
end Go.Proofs.YtmikfjcdgkopkaaGreat

