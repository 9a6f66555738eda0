/-
  Texts of the proof, one after the other.
  Conditions: none.
-/
import Derived.Test.YtmikfjcdgkopkaaGreatQBfDelN
import Derived.Test.YtmikfjcdgkopkaaGreatQXs
import Derived.Test.YtmikfjcdgkopkaaGreatQe
/-
 Promises: the law PromisesAgain.
 Conditions: none.
-/
namespace Go.Proofs.YtmikfjcdgkopkaaGreat
open Go Bf
attribute [local irreducible] Tr Exec Stab HasTy Go.Addr.add IntKind.wrap
set_option maxHeartbeats 16000000 in
set_option maxRecDepth 20000 in
theorem againlaw_fn (M : Mem) (ws : List Value) (w : Wd) (hw : RWd M ws w) (v : Value) (k : Bp) (hk : RBp M v k) (r : Rq) (at_ : Int) (ha0 : 0 ≤ at_) :
  Fn0 Tryz.prog 5 [.agg ws.toArray, v, .agg #[.int .i64 r.no, .int .i64 r.item, .int .i64 r.cust, .int .i64 r.due, .int .i64 r.shelf, .int .i64 r.amount], .int .u64 at_] M (fun v _ => v = .bool true) := by
 have h11 := hw.len
 obtain ⟨As, cs, Ar, cr, Af, cf, Ad, cd, rfl, h1, h2, h3, h4⟩ := id hk
 have hfc : k.fits.length ≤ 9223372036854775807 := h3.len_le
 have hl2 := h2.len_le
 refine Fn.intro Tryz.func5 rfl rfl Tryz.ntmps5 rfl fun E F => ?_
 (repeat (first | ((with_reducible refine Tr.step rfl ?_); (first | (refine xaQ ?_) | ((with_reducible refine Knd.box ?_); (refine Exec.box rfl rfl (fun b => ?_))))) | (with_reducible first | apply Tr.next | apply Tr.seq | apply Tr.region | apply Tr.nil)))
 rename_i b4 b5
 generalize b = b6
 ((refine Tr.step rfl ?_)); refine Exec.call0 rfl (sane31_fn M) rfl ?_
 rintro _ M1 hm1 rfl
 (repeat (first | ((with_reducible refine Tr.step rfl ?_); (first | ((with_reducible refine Knd.load ?_); (first | (refine xwQ ?_) | (refine Exec.stab rfl (Stab.loadW rfl (tysOk.get rfl) rfl (by repeat (first | exact Has.here | apply Has.there)) (by assumption)) rfl ?_))) | ((with_reducible refine Knd.unOp ?_); (refine Exec.stab rfl (Stab.not rfl) rfl ?_)))) | (with_reducible first | apply Tr.next | apply Tr.seq | apply Tr.region | apply Tr.nil | apply Tr.skip) | (refine Tr.cond_bf rfl (by first | (with_reducible rfl) | (with_reducible exact Bool.not_true)) ?_)))
 ((refine Tr.step rfl ?_)); refine Exec.call0 rfl (few31_fn M1 ws w (hw.mono hm1) _ k (hk.mono hm1)) rfl ?_
 rintro _ _ hm ⟨⟨q, rfl, hq⟩, rfl⟩
 cases q
 ·(refine rQ ?_)
  (refine dnQ (hL := by exact ⟨[_, _, _], rfl⟩) ⟨rfl, ?_⟩)
  rfl
 have hfew := hq rfl
 clear hq
 (repeat (first | ((with_reducible refine Tr.step rfl ?_); (first | (refine xmQ ?_) | ((with_reducible refine Knd.unOp ?_); (refine Exec.stab rfl (Stab.not rfl) rfl ?_)))) | ((refine Tr.guard_l rfl rfl rfl (by (with_reducible exact Bool.not_true)) ?_); (with_reducible refine Knd.load ?_); (first | (refine xwQ ?_) | (refine Exec.stab rfl (Stab.loadW rfl (tysOk.get rfl) rfl (by repeat (first | exact Has.here | apply Has.there)) (by assumption)) rfl ?_)))))
 ((refine Tr.guard_l rfl rfl rfl (by (with_reducible exact Bool.not_true)) ?_)); refine Exec.call0 rfl (check_fn' M1 ws w (hw.mono hm1) _ k (hk.mono hm1) hfc) rfl ?_
 rintro _ M2 hm2 rfl
 have hm02 := hm1.trans hm2
 by_cases hok : okB w k
 rotate_left
 ·have e1 : chkE w k = 310 := by rw [chkE, if_neg hok]
  rw [e1]
  (refine rQ ?_)
  (refine dnQ (hL := by exact ⟨[_, _, _], rfl⟩) ⟨rfl, ?_⟩)
  rfl
 have e1 : chkE w k = 0 := by rw [chkE, if_pos hok]
 rw [e1]
 by_cases hz : k.reqs.length = 0
 ·(refine rQ ?_)
  (refine dnQ (hL := by exact ⟨[_, _, _], rfl⟩) ⟨rfl, ?_⟩)
  rfl
 have hn0 := Int.emod_nonneg at_ (b := (k.reqs.length : Int)) (by omega)
 have hn1 := Int.emod_lt_of_pos at_ (b := (k.reqs.length : Int)) (by omega)
 have hrl := hfew.rl
 (repeat (first | ((with_reducible refine Tr.step rfl ?_); (first | (refine xmQ ?_) | (refine xaQ ?_) | (refine xlQ ?_) | (refine xfQ ?_) | (refine xnQ ?_) | ((with_reducible refine Knd.binOp ?_); (refine Exec.stab rfl (Stab.remp rfl rfl (by omega) (by omega)) rfl ?_)) | ((with_reducible refine Knd.pick ?_); (first | (refine Exec.stab rfl (Stab.pick_f rfl (by (with_reducible exact Bool.not_true)) rfl) rfl ?_) | (refine Exec.stab rfl (Stab.pick_fd rfl (by (with_reducible exact (not_not_intro rfl))) rfl) rfl ?_))) | ((with_reducible refine Knd.convert ?_); (first | (refine Exec.stab rfl (Stab.convu64 rfl (tysOk.get rfl) (tysOk.get rfl) rfl rfl (by omega)) rfl ?_) | (refine Exec.stab rfl (Stab.convi rfl (tysOk.get rfl) (tysOk.get rfl) rfl rfl (by omega)) rfl ?_))))) | (with_reducible first | apply Tr.next | apply Tr.seq | apply Tr.region | apply Tr.nil) | ((refine Tr.guard_l rfl rfl rfl (by first | (with_reducible rfl) | (with_reducible exact Bool.not_true)) ?_); (with_reducible refine Knd.binOp ?_); (refine xiQ ?_)) | ((refine Tr.guard_y' rfl rfl rfl (by first | (with_reducible assumption) | (with_reducible exact (not_not_intro rfl))) ?_); (first | (refine xlQ ?_) | (refine xfQ ?_) | (refine xnQ ?_) | (refine xiQ ?_))) | (with_reducible refine Tr.skip ?_) | (refine Tr.cond_f rfl (by first | (with_reducible assumption) | omega) ?_)))
 generalize at_ % (k.reqs.length : Int) = z at hn0 hn1 ⊢
 obtain ⟨i, rfl⟩ : ∃ i : Nat, z = (i : Int) := ⟨z.toNat, by omega⟩
 have hi : i < k.reqs.length := by omega
 obtain ⟨x, hx⟩ := get_of_lt hi
 obtain ⟨hA, ch, hat, rfl⟩ := (h2.mono RRqC.mono hm02).elem hx
 simp only [rqC] at hat
 have hat2 : At M2 (((Ar.getD default).add (i * 6)).add 0) [.int .i64 x.no, .int .i64 x.item, .int .i64 x.cust, .int .i64 x.due, .int .i64 x.shelf, .int .i64 x.amount] := hat.drop 0
 have hin : x.no ∈ k.reqs.map (·.no) := List.mem_map_of_mem (List.mem_of_getElem? hx)
 obtain ⟨g1, g2⟩ := again_ok hok hx
 have hll := less_len hok.1.1 hx
 have l1 : (dropB w k x.no).reqs.length = k.reqs.length - 1 := hll
 have l2 : (more w (dropB w k x.no) x).reqs.length = k.reqs.length := by
  show (lessR k.reqs x.no ++ [x]).length = _
  rw [List.length_append, hll, List.length_singleton]
  omega
 (((apply Tr.draw); (kernel_rfl)); (refine tkQ 0 (hB := by exact fun _ h => h) (s := by exact Stab.loadW rfl (tysOk.get rfl) rfl (by repeat (first | exact Has.here | apply Has.there)) (by assumption)) ?_); (refine tkQ 1 (s := by exact swQ) ?_); (refine tkQ 2 (s := by exact sfQ) ?_); (refine tkQ 4 (s := by exact Stab.move rfl) ?_); (refine tkQ 3 (s := by exact slQ) ?_); (refine tkQ 5 (s := by exact sxQ) ?_); (refine tkQ 6 (s := by exact Stab.fieldD rfl (tysOk.get rfl) rfl rfl (tysOk.get rfl) rfl) ?_); (refine tkQ 7 (s := by exact sMQ) ?_))
 ((refine TrM.start1 _ (by exact PA.alloc 12 rfl (tysOk.get rfl) rfl rfl) (by kernel_rfl) ?_); (refine TrM.eff 8 rfl (by kernel_rfl) (by exact .inl rfl) (by repeat (first | exact PendOk.nil | refine PendOk.cons rfl (by repeat (first | exact SubFr.nil | refine SubFr.cons rfl ?_)) ?_)) (by exact fun _ h => h) (by repeat (first | apply AppF.cons | exact AppF.nil)) (by repeat (first | apply AppF.cons | exact AppF.app)) (fun Y X => ?_)))
 refine Exec.call0 rfl (drop_fn M2 ws w (hw.mono hm02) _ k (hk.mono hm02) hfc x.no) rfl ?_
 rintro _ M3 hm3 (⟨-, y, rfl, hy⟩ | ⟨hbad, -⟩)
 rotate_left
 ·exact absurd ⟨hok, hin⟩ hbad
 have hm3 : Mem.le M2 M3 := hm3
 have hm03 := hm02.trans hm3
 obtain ⟨y1, y2, y3, y4, y5, y6, y7, y8, rfl⟩ := hy.lit
 (refine ⟨_, _, (by repeat (first | apply App.cons | exact App.nil | exact App.app)), (by repeat (first | apply App.cons | exact App.nil | exact App.app)), rfl, (by first | exact Mem.le.refl _ | assumption), (by exact fun _ h => h), ?_⟩)
 ((refine TrM.take 9 (by kernel_rfl) rfl (by kernel_rfl) (by exact fun _ _ _ h => h) (by exact fun _ h => h) rfl (by first | exact Stab.move rfl) rfl rfl ?_); (refine TrM.take 10 (by kernel_rfl) rfl (by kernel_rfl) (by exact fun _ _ _ h => h) (by exact fun _ h => h) rfl (by first | exact Stab.extract rfl rfl) rfl rfl ?_); (refine TrM.take 11 (by kernel_rfl) rfl (by kernel_rfl) (by exact fun _ _ _ h => h) (by exact fun _ h => h) rfl (by first | exact Stab.extract rfl rfl) rfl rfl ?_); (refine TrM.settle (by kernel_rfl) (by repeat (first | exact PendOk.nil | refine PendOk.cons rfl (by repeat (first | exact SubFr.nil | refine SubFr.cons rfl ?_)) ?_)) (by exact fun _ h => h) (fun b => ?_)); dsimp only; (refine TrM.fin ?_))
 ((refine TrA.eff 13 rfl (by kernel_rfl) (by exact .inl rfl) ?_); (((refine Knd.store ?_); ((refine xWQ ?_)))); (refine ⟨(by first | exact Mem.le.refl _ | assumption), (by exact (Sub.mem (by repeat (first | exact Sub.refl | apply Sub.cons)))), ?_⟩); (refine tkQ 14 (s := by exact Stab.assign rfl) ?_); (refine TrA.done (by kernel_rfl) ?_))
 obtain ⟨hA3, ch3, hat3, e3⟩ := (h2.mono RRqC.mono hm03).elem hx
 obtain rfl : ch3 = rqC x := e3
 simp only [rqC] at hat3
 have hfc2 : (dropB w k x.no).fits.length ≤ 9223372036854775807 := by
  have : (dropB w k x.no).fits.length = k.sups.length := by simp [dropB, mkF, fitsT]
  have := hfew.sl
  omega
 (repeat (first | (with_reducible first | apply Tr.next | apply Tr.seq)))
 (((apply Tr.draw); (kernel_rfl)); (refine tkQ 0 (hB := by exact fun _ h => h) (s := by exact Stab.loadW rfl (tysOk.get rfl) rfl (by repeat (first | exact Has.here | apply Has.there)) (by assumption)) ?_); (refine tkQ 1 (s := by exact swQ) ?_); (refine tkQ 2 (s := by exact sfQ) ?_); (refine tkQ 4 (s := by exact Stab.move rfl) ?_); (refine tkQ 3 (s := by exact slQ) ?_); (refine tkQ 5 (s := by exact sxQ) ?_); (refine tkQ 6 (s := by exact Stab.loadMA rfl (tysOk.get rfl) rfl (by assumption) (by first | rfl | assumption)) ?_))
 ((refine TrM.start2 _ (by exact PA.alloc 12 rfl (tysOk.get rfl) rfl rfl) (by exact PA.alloc 13 rfl (tysOk.get rfl) rfl rfl) (by kernel_rfl) (by kernel_rfl) (by kernel_rfl) ?_); (refine TrM.eff 7 rfl (by kernel_rfl) (by exact .inl rfl) (by repeat (first | exact PendOk.nil | refine PendOk.cons rfl (by repeat (first | exact SubFr.nil | refine SubFr.cons rfl ?_)) ?_)) (by exact fun _ h => h) (by repeat (first | apply AppF.cons | exact AppF.nil)) (by repeat (first | apply AppF.cons | exact AppF.app)) (fun Y X => ?_)))
 refine Exec.call0 rfl (askA_fn M3 ws w (hw.mono hm03) _ (dropB w k x.no) hy hfc2 x) rfl ?_
 rintro _ M4 hm4 (⟨-, -, y4', a4, rfl, D4, cD4, -, ⟨-, hy4, al, A4, c4, -, rfl, -⟩ | ⟨hF, -⟩⟩ | ⟨hne, -⟩)
 rotate_left
 ·exact absurd g2 hF
 ·exact absurd g1 hne
 have hm4 : Mem.le M3 M4 := hm4
 have hm04 := hm03.trans hm4
 obtain ⟨z1, z2, z3, z4, z5, z6, z7, z8, rfl⟩ := hy4.lit
 (refine ⟨_, _, (by repeat (first | apply App.cons | exact App.nil | exact App.app)), (by repeat (first | apply App.cons | exact App.nil | exact App.app)), rfl, (by first | exact Mem.le.refl _ | assumption), (by exact fun _ h => h), ?_⟩)
 ((refine TrM.take 8 (by kernel_rfl) rfl (by kernel_rfl) (by exact fun _ _ _ h => h) (by exact fun _ h => h) rfl (by first | exact Stab.move rfl) rfl rfl ?_); (refine TrM.take 9 (by kernel_rfl) rfl (by kernel_rfl) (by exact fun _ _ _ h => h) (by exact fun _ h => h) rfl (by first | exact Stab.extract rfl rfl) rfl rfl ?_); (refine TrM.take 10 (by kernel_rfl) rfl (by kernel_rfl) (by exact fun _ _ _ h => h) (by exact fun _ h => h) rfl (by first | exact Stab.extract rfl rfl) rfl rfl ?_); (refine TrM.take 11 (by kernel_rfl) rfl (by kernel_rfl) (by exact fun _ _ _ h => h) (by exact fun _ h => h) rfl (by first | exact Stab.extract rfl rfl) rfl rfl ?_); (refine TrM.settle (by kernel_rfl) (by repeat (first | exact PendOk.nil | refine PendOk.cons rfl (by repeat (first | exact SubFr.nil | refine SubFr.cons rfl ?_)) ?_)) (by exact fun _ h => h) (fun b => ?_)); dsimp only; (refine TrM.settle (by kernel_rfl) (by repeat (first | exact PendOk.nil | refine PendOk.cons rfl (by repeat (first | exact SubFr.nil | refine SubFr.cons rfl ?_)) ?_)) (by exact (Sub.mem (by repeat (first | exact Sub.refl | apply Sub.cons)))) (fun b => ?_)); dsimp only; (refine TrM.fin ?_))
 ((refine TrA.eff 14 rfl (by kernel_rfl) (by exact .inl rfl) ?_); (((refine Knd.store ?_); ((refine xWQ ?_)))); (refine ⟨(by first | exact Mem.le.refl _ | assumption), (by exact (Sub.mem (by repeat (first | exact Sub.refl | apply Sub.cons)))), ?_⟩); (refine TrA.eff 15 rfl (by kernel_rfl) (by exact .inl rfl) ?_); (((refine Knd.store ?_); ((refine xWQ ?_)))); (refine ⟨(by first | exact Mem.le.refl _ | assumption), (by exact (Sub.mem (by repeat (first | exact Sub.refl | apply Sub.cons)))), ?_⟩); (refine tkQ 16 (s := by exact Stab.assign rfl) ?_); (refine TrA.done (by kernel_rfl) ?_))
 (repeat (first | ((with_reducible refine Tr.step rfl ?_); (first | (refine xmQ ?_) | ((with_reducible refine Knd.load ?_); (first | (refine xwQ ?_) | (refine Exec.stab rfl (Stab.loadW rfl (tysOk.get rfl) rfl (by repeat (first | exact Has.here | apply Has.there)) (by assumption)) rfl ?_))) | (refine xiQ ?_) | ((with_reducible refine Knd.pick ?_); (first | (refine Exec.stab rfl (Stab.pick_f rfl (by (with_reducible exact Bool.not_true)) rfl) rfl ?_) | (refine Exec.stab rfl (Stab.pick_fd rfl (by first | (with_reducible exact (not_not_intro rfl)) | omega) rfl) rfl ?_))))) | (with_reducible first | apply Tr.next | apply Tr.seq | apply Tr.region | apply Tr.nil) | ((refine Tr.guard_l rfl rfl rfl (by first | (with_reducible rfl) | (with_reducible exact Bool.not_true)) ?_); (first | (refine xlQ ?_) | (refine xfQ ?_) | (refine xnQ ?_) | (refine xiQ ?_))) | ((refine Tr.guard_y' rfl rfl rfl (by first | (with_reducible assumption) | (with_reducible exact (not_not_intro rfl)) | omega) ?_); (first | (refine xmQ ?_) | (refine xlQ ?_) | (refine xfQ ?_) | (refine xnQ ?_) | ((with_reducible refine Knd.binOp ?_); (first | (refine Exec.stab rfl (Stab.subi rfl rfl (by omega)) rfl ?_) | (refine xiQ ?_))) | ((with_reducible refine Knd.unOp ?_); (refine Exec.stab rfl (Stab.not rfl) rfl ?_)))) | (with_reducible refine Tr.skip ?_) | (refine Tr.cond_f rfl (by first | (with_reducible assumption) | omega) ?_)))
 ((refine Tr.step rfl ?_)); refine Exec.call0 rfl (askA_fn M4 ws w (hw.mono hm04) _ k (hk.mono hm04) hfc r) rfl ?_
 rintro _ M5 hm5 ha2
 obtain ⟨x5, a5, o5, rfl, hx5, ho5, hp5⟩ := ha2.one
 have hm05 := hm04.trans hm5
 obtain ⟨v1, v2, v3, v4, v5, v6, v7, v8, rfl⟩ := hx5.lit
 obtain ⟨A5, ca5, B5, cb5, D5, cd5, rfl, r1, r2, r3⟩ := id ho5
 by_cases e0 : askE w k r = 0
 rotate_left
 ·(repeat (first | ((with_reducible refine Tr.step rfl ?_); (first | (refine xmQ ?_) | (refine xaQ ?_) | (refine xiQ ?_) | ((with_reducible refine Knd.pick ?_); (refine Exec.stab rfl (Stab.pick_td rfl (by (with_reducible assumption)) rfl) rfl ?_)) | (refine xWQ ?_) | ((with_reducible refine Knd.alloc ?_); (refine Exec.alloc (tysOk.get rfl) rfl rfl (fun b => ?_))) | ((with_reducible refine Knd.extract ?_); (refine Exec.stab rfl (Stab.extract rfl rfl) rfl ?_)))) | (with_reducible first | apply Tr.next | apply Tr.seq | apply Tr.region | apply Tr.nil) | (refine Tr.guard_n' rfl rfl rfl (by (with_reducible assumption)) rfl rfl ?_) | (with_reducible first | apply Tr.ret | apply Tr.then_ret) | (refine Tr.cond_bt rfl (by (with_reducible rfl)) ?_)))
  (refine dnQ (hL := by exact ⟨[_, _, _, _, _, _, _, _], rfl⟩) ⟨rfl, ?_⟩)
  rfl
 cases ho : o5.ok with
 | false =>
  rw [e0]
  (repeat (first | ((with_reducible refine Tr.step rfl ?_); (first | (refine xmQ ?_) | (refine xaQ ?_) | (refine xiQ ?_) | ((with_reducible refine Knd.pick ?_); (refine Exec.stab rfl (Stab.pick_fd rfl (by (with_reducible exact (not_not_intro rfl))) rfl) rfl ?_)) | (refine xWQ ?_) | ((with_reducible refine Knd.alloc ?_); (refine Exec.alloc (tysOk.get rfl) rfl rfl (fun b => ?_))) | ((with_reducible refine Knd.extract ?_); (refine Exec.stab rfl (Stab.extract rfl rfl) rfl ?_)))) | (with_reducible first | apply Tr.next | apply Tr.seq | apply Tr.region | apply Tr.nil) | ((refine Tr.guard_y' rfl rfl rfl (by first | (with_reducible assumption) | (with_reducible exact (not_not_intro rfl))) ?_); (first | (refine xlQ ?_) | (refine xfQ ?_) | ((with_reducible refine Knd.unOp ?_); (refine Exec.stab rfl (Stab.not rfl) rfl ?_)))) | (with_reducible first | apply Tr.ret | apply Tr.then_ret) | (refine Tr.cond_bt rfl (by first | (with_reducible rfl) | (with_reducible exact Bool.not_false)) ?_)))
  (refine dnQ (hL := by exact ⟨[_, _, _, _, _, _, _, _], rfl⟩) ⟨rfl, ?_⟩)
  rfl
 | true =>
 obtain ⟨q1, q2⟩ := then_ok (no := x.no) e0 ((hp5.ok_iff e0).1 ho)
 rw [e0]
 (repeat (first | ((with_reducible refine Tr.step rfl ?_); (first | (refine xmQ ?_) | (refine xaQ ?_) | ((with_reducible refine Knd.load ?_); (first | (refine xwQ ?_) | (refine Exec.stab rfl (Stab.loadW rfl (tysOk.get rfl) rfl (by repeat (first | exact Has.here | apply Has.there)) (by assumption)) rfl ?_))) | (refine xiQ ?_) | ((with_reducible refine Knd.pick ?_); (refine Exec.stab rfl (Stab.pick_fd rfl (by (with_reducible exact (not_not_intro rfl))) rfl) rfl ?_)) | (refine xWQ ?_) | ((with_reducible refine Knd.alloc ?_); (refine Exec.alloc (tysOk.get rfl) rfl rfl (fun b => ?_))) | ((with_reducible refine Knd.extract ?_); (refine Exec.stab rfl (Stab.extract rfl rfl) rfl ?_)))) | (with_reducible first | apply Tr.next | apply Tr.seq | apply Tr.region | apply Tr.nil) | ((refine Tr.guard_y' rfl rfl rfl (by first | (with_reducible assumption) | (with_reducible exact (not_not_intro rfl))) ?_); (first | (refine xlQ ?_) | (refine xfQ ?_) | ((with_reducible refine Knd.unOp ?_); (refine Exec.stab rfl (Stab.not rfl) rfl ?_)))) | (with_reducible refine Tr.skip ?_) | (refine Tr.cond_bf rfl (by first | (with_reducible rfl) | (with_reducible exact Bool.not_true)) ?_)))
 ((refine Tr.step rfl ?_)); refine Exec.call0 rfl (askA_fn M5 ws w (hw.mono hm05) _ (dropB w k x.no) (hy.mono (hm4.trans hm5)) hfc2 r) rfl ?_
 rintro _ M6 hm6 (⟨-, -, y6', a6, rfl, D6, cD6, -, ⟨-, hy6, al6, A6, c6, -, rfl, -⟩ | ⟨hF, -⟩⟩ | ⟨hne, -⟩)
 rotate_left
 ·exact absurd q2 hF
 ·exact absurd q1 hne
 have hm06 := hm05.trans hm6
 obtain ⟨p1, p2, p3, p4, p5, p6, p7, p8, rfl⟩ := hy6.lit
 (repeat (first | ((with_reducible refine Tr.step rfl ?_); (first | (refine xmQ ?_) | (refine xaQ ?_) | (refine xiQ ?_) | ((with_reducible refine Knd.pick ?_); (refine Exec.stab rfl (Stab.pick_td rfl (by (with_reducible rfl)) rfl) rfl ?_)) | (refine xWQ ?_) | ((with_reducible refine Knd.alloc ?_); (refine Exec.alloc (tysOk.get rfl) rfl rfl (fun b => ?_))) | ((with_reducible refine Knd.extract ?_); (refine Exec.stab rfl (Stab.extract rfl rfl) rfl ?_)))) | (with_reducible first | apply Tr.next | apply Tr.seq | apply Tr.region | apply Tr.nil) | ((refine Tr.guard_y rfl rfl rfl (by first | (with_reducible assumption) | (with_reducible rfl)) ?_); (first | (refine xlQ ?_) | (refine xfQ ?_))) | (with_reducible refine Tr.ret ?_)))
 (refine dnQ (hL := by exact ⟨[_, _, _, _, _, _, _, _, _, _], rfl⟩) ⟨rfl, ?_⟩)
 rfl
end Go.Proofs.YtmikfjcdgkopkaaGreat

/-
 Promises: the row of PromisesAgain.
 Conditions: none.
-/
namespace Go.Proofs.YtmikfjcdgkopkaaGreat
open Go Bf
open Go.ChangeShapes Go.WideShapes Go.ChangeAt Go.RowKit
set_option maxRecDepth 100000 in
theorem againlaw_lifted (os : Os) (started : os.Started) (H : Type) (enc : TypeId × Value → H) :
  ReturnsInHanded {} Tryz.checked os 5 .any (Rows.promisesAgainSpec.pre6 enc Tryz.prog Tryz.f5 Rows.promisesAgainRow.domain false) (Rows.promisesAgainSpec.post enc Tryz.prog Tryz.f5 false true false false) :=
 lift_true (C := Tryz.checked) (ts := [38, 44, 46, 65]) (tb := 4) started ownT' (by kernel_rfl) Tryz.func5
  (ChangeSpec.witness6 (enc := enc) (C := Tryz.checked) false ⟨#[], #[.agg #[.slice none 0 0, .slice none 0 0, .slice none 0 0, .slice none 0 0, .slice none 0 0, .slice none 0 0, .slice none 0 0, .slice none 0 0, .slice none 0 0, .slice none 0 0, .slice none 0 0], .agg #[.int .i64 0, .slice none 0 0, .slice none 0 0, .slice none 0 0, .slice none 0 0], .agg #[.int .i64 0, .int .i64 0, .int .i64 0, .int .i64 0, .int .i64 0, .int .i64 0], .int .u64 0], []⟩ 8 (by kernel_rfl) (by kernel_rfl) (by kernel_rfl) (by kernel_rfl))
  (by rw [Tryz.params5]) laidT' (by kernel_rfl) rfl (fun ds h => match ds, h with | [_, _, _, _], _ => rfl) rfl Tryz.underlying4
  (fun W base vs hl ha => by
   obtain ⟨v0, v1, v2, v3, rfl⟩ := len4 hl
   obtain ⟨ws, w, rfl, hw, hfd⟩ := arg_world (ha 0 38 v0 rfl rfl)
   obtain ⟨k, hk⟩ := arg_book (ha 1 44 v1 rfl rfl)
   obtain ⟨r, rfl, hr⟩ := arg_req (ha 2 46 v2 rfl rfl)
   obtain ⟨y, rfl, hy⟩ := arg_uint (ha 3 65 v3 rfl rfl)
   exact againlaw_fn _ ws w hw v1 k hk r y hy)
theorem promisesAgain_holds : Rows.PromisesAgainSaid :=
 OpenClaim.holds_of_wide 5 Tryz.f5 rfl rfl rfl rfl rfl rfl rfl ⟨rfl, rfl, rfl, rfl, rfl⟩ rfl rfl rfl rfl rfl (by kernel_rfl) Tryz.func5 (by kernel_rfl)
  (of_decide_eq_true (by kernel_rfl)) (by unfold Func.isWrapper; first | (rw [if_pos (by decide +kernel)]; kernel_rfl) | (rw [if_neg (by decide +kernel)]; exact ⟨rfl, rfl⟩))
  (fun os started H enc _ => againlaw_lifted os started H enc)
end Go.Proofs.YtmikfjcdgkopkaaGreat

