/-
  Promises: the row of PromisesEarliest.
  Conditions: none.
-/
import Derived.Test.YtmikfjcdgkopkaaGreatQBfDelN
import Derived.Test.YtmikfjcdgkopkaaGreatQXs
import Derived.Test.YtmikfjcdgkopkaaGreatQf
/-
 Promises: the law PromisesEarliest.
 Conditions: none.
-/
namespace Go.Proofs.YtmikfjcdgkopkaaGreat
open Go Bf
attribute [local irreducible] Tr Exec Stab HasTy Go.Addr.add IntKind.wrap
set_option maxHeartbeats 16000000 in
set_option maxRecDepth 20000 in
theorem earlaw_fn (M : Mem) (ws : List Value) (w : Wd) (hw : RWd M ws w) (hfd : ∀ f ∈ w.facts, (-9223372036854775808 ≤ f.lo ∧ f.lo ≤ 9223372036854775807) ∧ (-9223372036854775808 ≤ f.hi ∧ f.hi ≤ 9223372036854775807)) (v : Value) (k : Bp) (hk : RBp M v k) (r : Rq) (day : Int) :
  Fn0 Tryz.prog 6 [.agg ws.toArray, v, .agg #[.int .i64 r.no, .int .i64 r.item, .int .i64 r.cust, .int .i64 r.due, .int .i64 r.shelf, .int .i64 r.amount], .int .i64 day] M (fun v _ => v = .bool true) := by
 have h11 := hw.len
 obtain ⟨As, cs, Ar, cr, Af, cf, Ad, cd, rfl, h1, h2, h3, h4⟩ := id hk
 have hfc : k.fits.length ≤ 9223372036854775807 := h3.len_le
 refine Fn.intro Tryz.func6 rfl rfl Tryz.ntmps6 rfl fun E F => ?_
 (repeat (first | ((with_reducible refine Tr.step rfl ?_); (first | (refine xaQ ?_) | ((with_reducible refine Knd.box ?_); (refine Exec.box rfl rfl (fun b => ?_))))) | (with_reducible first | apply Tr.next | apply Tr.seq | apply Tr.region | apply Tr.nil)))
 rename_i b4 b5
 generalize b = b6
 ((refine Tr.step rfl ?_)); refine Exec.call0 rfl (sane31_fn M) rfl ?_
 rintro _ M1 hm1 rfl
 (repeat (first | ((with_reducible refine Tr.step rfl ?_); (first | ((with_reducible refine Knd.load ?_); (first | (refine xwQ ?_) | (refine Exec.stab rfl (Stab.loadW rfl (tysOk.get rfl) rfl (by repeat (first | exact Has.here | apply Has.there)) (by assumption)) rfl ?_))) | ((with_reducible refine Knd.unOp ?_); (refine Exec.stab rfl (Stab.not rfl) rfl ?_)))) | (with_reducible first | apply Tr.next | apply Tr.seq | apply Tr.region | apply Tr.nil | apply Tr.skip) | (refine Tr.cond_bf rfl (by first | (with_reducible rfl) | (with_reducible exact Bool.not_true)) ?_)))
 ((refine Tr.step rfl ?_)); refine Exec.call0 rfl (few31_fn M1 ws w (hw.mono hm1) _ k (hk.mono hm1)) rfl ?_
 rintro _ _ hm ⟨⟨q, rfl, hq⟩, rfl⟩
 cases q
 ·(refine rQ ?_)
  (refine dnQ (hL := by exact ⟨[_, _, _], rfl⟩) ⟨rfl, ?_⟩)
  rfl
 have hfew := hq rfl
 clear hq
 have hfb : FBnd w := ⟨by have := hfew.fa; omega, hfd⟩
 (repeat (first | ((with_reducible refine Tr.step rfl ?_); (first | ((with_reducible refine Knd.load ?_); (first | (refine xwQ ?_) | (refine Exec.stab rfl (Stab.loadW rfl (tysOk.get rfl) rfl (by repeat (first | exact Has.here | apply Has.there)) (by assumption)) rfl ?_))) | ((with_reducible refine Knd.unOp ?_); (refine Exec.stab rfl (Stab.not rfl) rfl ?_)))) | (with_reducible first | apply Tr.next | apply Tr.seq | apply Tr.region | apply Tr.nil | apply Tr.skip) | (refine Tr.cond_bf rfl (by first | (with_reducible rfl) | (with_reducible exact Bool.not_true)) ?_)))
 ((refine Tr.step rfl ?_)); refine Exec.call0 rfl (earliest_fn M1 ws w (hw.mono hm1) hfb _ k (hk.mono hm1) hfc r) rfl ?_
 rintro _ M2 hm2 (⟨h0, first, ok, rfl, hE⟩ | ⟨hne, rfl⟩)
 all_goals have hm02 := hm1.trans hm2
 rotate_left
 ·(refine rQ ?_)
  (refine dnQ (hL := by exact ⟨[_, _, _], rfl⟩) ⟨rfl, ?_⟩)
  rfl
 (repeat (first | ((with_reducible refine Tr.step rfl ?_); (first | (refine xmQ ?_) | (refine xaQ ?_) | ((with_reducible refine Knd.load ?_); (first | (refine xwQ ?_) | (refine Exec.stab rfl (Stab.loadW rfl (tysOk.get rfl) rfl (by repeat (first | exact Has.here | apply Has.there)) (by assumption)) rfl ?_))) | (refine xfQ ?_) | (refine xiQ ?_) | ((with_reducible refine Knd.store ?_); (first | (refine xSQ ?_) | (refine xWQ ?_))) | ((with_reducible refine Knd.alloc ?_); (refine Exec.alloc (tysOk.get rfl) rfl rfl (fun b => ?_))) | ((with_reducible refine Knd.extract ?_); (refine Exec.stab rfl (Stab.extract rfl rfl) rfl ?_)))) | (with_reducible first | apply Tr.next | apply Tr.seq | apply Tr.region | apply Tr.nil | apply Tr.skip) | (refine Tr.cond_f rfl (by (with_reducible exact (not_not_intro rfl))) ?_)))
 generalize b = b12
 ((refine Tr.step rfl ?_)); refine Exec.call0 rfl (askA_fn M2 ws w (hw.mono hm02) _ k (hk.mono hm02) hfc (onDay r first)) rfl ?_
 rintro _ M3 hm3 ha1
 obtain ⟨x3, a3, o3, rfl, hx3, ho3, hp3⟩ := ha1.one
 have hm03 := hm02.trans hm3
 obtain ⟨u1, u2, u3, u4, u5, u6, u7, u8, rfl⟩ := hx3.lit
 obtain ⟨A3, ca3, B3, cb3, D3, cd3, rfl, p1, p2, p3⟩ := id ho3
 have last : ∀ (M4 : Mem) (d : Int), r.due ≤ d → d < 1024 → (ok = true → d < first) → ∀ o4 : An, AnsP w k (onDay r d) o4 → askE w k (onDay r d) = 0 ∧ o4.ok = false := fun M4 d h5 h6 h7 o4 hp4 => by
  have e0 := onDay_ask (d := d) h0 h5 h6
  refine ⟨e0, ?_⟩
  cases ho : o4.ok with
  | false => rfl
  | true => exact absurd ((hp4.ok_iff e0).1 ho) (ear_before hE h5 h6 h7)
 cases ok with
 | true =>
  obtain ⟨-, ⟨f1, f2⟩, f3, -⟩ | ⟨e, -⟩ := id hE
  rotate_left
  ·cases e
  have e0 := onDay_ask (d := first) h0 f1 f2
  have e1 := (hp3.ok_iff e0).2 f3
  rw [e0, e1]
  by_cases g1 : day < r.due
  ·(repeat (first | ((with_reducible refine Tr.step rfl ?_); (first | (refine xmQ ?_) | (refine xaQ ?_) | (refine xlQ ?_) | (refine xfQ ?_) | (refine xiQ ?_) | ((with_reducible refine Knd.pick ?_); (first | (refine Exec.stab rfl (Stab.pick_t rfl (by (with_reducible rfl)) rfl) rfl ?_) | (refine Exec.stab rfl (Stab.pick_td rfl (by (with_reducible assumption)) rfl) rfl ?_) | (refine Exec.stab rfl (Stab.pick_fd rfl (by omega) rfl) rfl ?_))) | (refine xWQ ?_) | ((with_reducible refine Knd.alloc ?_); (refine Exec.alloc (tysOk.get rfl) rfl rfl (fun b => ?_))) | ((with_reducible refine Knd.extract ?_); (refine Exec.stab rfl (Stab.extract rfl rfl) rfl ?_)))) | (with_reducible first | apply Tr.next | apply Tr.seq | apply Tr.region | apply Tr.nil) | ((refine Tr.guard_l rfl rfl rfl (by first | (with_reducible rfl) | (with_reducible exact Bool.not_true)) ?_); (first | (refine xmQ ?_) | (refine xlQ ?_) | (refine xfQ ?_) | (refine xiQ ?_) | ((with_reducible refine Knd.pick ?_); (first | (refine Exec.stab rfl (Stab.pick_f rfl (by (with_reducible exact Bool.not_true)) rfl) rfl ?_) | (refine Exec.stab rfl (Stab.pick_fd rfl (by (with_reducible exact (not_not_intro rfl))) rfl) rfl ?_))))) | (refine Tr.guard_s0 rfl rfl rfl (by (with_reducible rfl)) rfl rfl ?_) | (refine Tr.guard_s1 rfl rfl rfl (by first | (with_reducible rfl) | (with_reducible exact Bool.not_true)) rfl rfl ?_) | ((refine Tr.guard_y' rfl rfl rfl (by first | (with_reducible exact (not_not_intro rfl)) | omega) ?_); (first | (refine xmQ ?_) | (refine xlQ ?_) | (refine xfQ ?_) | ((with_reducible refine Knd.pick ?_); (refine Exec.stab rfl (Stab.pick_f rfl (by (with_reducible exact Bool.not_true)) rfl) rfl ?_)) | ((with_reducible refine Knd.unOp ?_); (refine Exec.stab rfl (Stab.not rfl) rfl ?_)))) | (refine Tr.guard_n' rfl rfl rfl (by (with_reducible assumption)) rfl rfl ?_) | (refine Tr.guard_u rfl rfl rfl rfl rfl ?_) | (with_reducible first | apply Tr.skip | apply Tr.ret | apply Tr.then_ret) | (refine Tr.cond_bt rfl (by (with_reducible rfl)) ?_) | (refine Tr.cond_bf rfl (by (with_reducible rfl)) ?_)))
   (refine dnQ (hL := by exact ⟨[_, _, _, _, _, _], rfl⟩) ⟨rfl, ?_⟩)
   rfl
  by_cases g2 : day ≥ 1024
  ·(repeat (first | ((with_reducible refine Tr.step rfl ?_); (first | (refine xmQ ?_) | (refine xaQ ?_) | (refine xlQ ?_) | (refine xfQ ?_) | (refine xiQ ?_) | ((with_reducible refine Knd.pick ?_); (first | (refine Exec.stab rfl (Stab.pick_t rfl (by (with_reducible rfl)) rfl) rfl ?_) | (refine Exec.stab rfl (Stab.pick_td rfl (by (with_reducible assumption)) rfl) rfl ?_) | (refine Exec.stab rfl (Stab.pick_fd rfl (by first | (with_reducible assumption) | omega) rfl) rfl ?_))) | (refine xWQ ?_) | ((with_reducible refine Knd.alloc ?_); (refine Exec.alloc (tysOk.get rfl) rfl rfl (fun b => ?_))) | ((with_reducible refine Knd.extract ?_); (refine Exec.stab rfl (Stab.extract rfl rfl) rfl ?_)))) | (with_reducible first | apply Tr.next | apply Tr.seq | apply Tr.region | apply Tr.nil) | ((refine Tr.guard_l rfl rfl rfl (by first | (with_reducible rfl) | (with_reducible exact Bool.not_true)) ?_); (first | (refine xmQ ?_) | (refine xlQ ?_) | (refine xfQ ?_) | (refine xiQ ?_) | ((with_reducible refine Knd.pick ?_); (first | (refine Exec.stab rfl (Stab.pick_f rfl (by (with_reducible exact Bool.not_true)) rfl) rfl ?_) | (refine Exec.stab rfl (Stab.pick_fd rfl (by (with_reducible exact (not_not_intro rfl))) rfl) rfl ?_))))) | (refine Tr.guard_s1 rfl rfl rfl (by first | (with_reducible rfl) | (with_reducible exact Bool.not_true)) rfl rfl ?_) | ((refine Tr.guard_y' rfl rfl rfl (by first | (with_reducible assumption) | (with_reducible exact (not_not_intro rfl)) | omega) ?_); (first | (refine xmQ ?_) | (refine xlQ ?_) | (refine xfQ ?_) | (refine xiQ ?_) | ((with_reducible refine Knd.pick ?_); (refine Exec.stab rfl (Stab.pick_f rfl (by (with_reducible exact Bool.not_true)) rfl) rfl ?_)) | ((with_reducible refine Knd.unOp ?_); (refine Exec.stab rfl (Stab.not rfl) rfl ?_)))) | (refine Tr.guard_n' rfl rfl rfl (by (with_reducible assumption)) rfl rfl ?_) | (refine Tr.guard_u rfl rfl rfl rfl rfl ?_) | (with_reducible first | apply Tr.skip | apply Tr.ret | apply Tr.then_ret) | (refine Tr.cond_bt rfl (by (with_reducible rfl)) ?_) | (refine Tr.cond_bf rfl (by (with_reducible rfl)) ?_)))
   (refine dnQ (hL := by exact ⟨[_, _, _, _, _, _], rfl⟩) ⟨rfl, ?_⟩)
   rfl
  by_cases g3 : day ≥ first
  ·(repeat (first | ((with_reducible refine Tr.step rfl ?_); (first | (refine xmQ ?_) | (refine xaQ ?_) | (refine xlQ ?_) | (refine xfQ ?_) | (refine xiQ ?_) | ((with_reducible refine Knd.pick ?_); (first | (refine Exec.stab rfl (Stab.pick_t rfl (by (with_reducible rfl)) rfl) rfl ?_) | (refine Exec.stab rfl (Stab.pick_fd rfl (by first | (with_reducible assumption) | omega) rfl) rfl ?_))) | (refine xWQ ?_) | ((with_reducible refine Knd.alloc ?_); (refine Exec.alloc (tysOk.get rfl) rfl rfl (fun b => ?_))) | ((with_reducible refine Knd.extract ?_); (refine Exec.stab rfl (Stab.extract rfl rfl) rfl ?_)))) | (with_reducible first | apply Tr.next | apply Tr.seq | apply Tr.region | apply Tr.nil) | ((refine Tr.guard_l rfl rfl rfl (by first | (with_reducible rfl) | (with_reducible exact Bool.not_true)) ?_); (first | (refine xmQ ?_) | (refine xlQ ?_) | (refine xfQ ?_) | (refine xiQ ?_) | ((with_reducible refine Knd.pick ?_); (first | (refine Exec.stab rfl (Stab.pick_f rfl (by (with_reducible exact Bool.not_true)) rfl) rfl ?_) | (refine Exec.stab rfl (Stab.pick_fd rfl (by (with_reducible exact (not_not_intro rfl))) rfl) rfl ?_))))) | (refine Tr.guard_s1 rfl rfl rfl (by first | (with_reducible rfl) | (with_reducible exact Bool.not_true)) rfl rfl ?_) | ((refine Tr.guard_y' rfl rfl rfl (by first | (with_reducible assumption) | (with_reducible exact (not_not_intro rfl)) | omega) ?_); (first | (refine xmQ ?_) | (refine xlQ ?_) | (refine xfQ ?_) | (refine xiQ ?_) | ((with_reducible refine Knd.pick ?_); (first | (refine Exec.stab rfl (Stab.pick_t rfl (by (with_reducible rfl)) rfl) rfl ?_) | (refine Exec.stab rfl (Stab.pick_f rfl (by (with_reducible exact Bool.not_true)) rfl) rfl ?_))) | ((with_reducible refine Knd.unOp ?_); (refine Exec.stab rfl (Stab.not rfl) rfl ?_)))) | (with_reducible first | apply Tr.skip | apply Tr.ret | apply Tr.then_ret) | (refine Tr.cond_bf rfl (by (with_reducible rfl)) ?_) | (refine Tr.cond_t rfl (by (with_reducible assumption)) ?_)))
   (refine dnQ (hL := by exact ⟨[_, _, _, _, _, _], rfl⟩) ⟨rfl, ?_⟩)
   rfl
  (repeat (first | ((with_reducible refine Tr.step rfl ?_); (first | (refine xmQ ?_) | (refine xaQ ?_) | ((with_reducible refine Knd.load ?_); (first | (refine xlQ ?_) | (refine xwQ ?_) | (refine Exec.stab rfl (Stab.loadW rfl (tysOk.get rfl) rfl (by repeat (first | exact Has.here | apply Has.there)) (by assumption)) rfl ?_))) | (refine xfQ ?_) | (refine xiQ ?_) | ((with_reducible refine Knd.pick ?_); (first | (refine Exec.stab rfl (Stab.pick_t rfl (by (with_reducible rfl)) rfl) rfl ?_) | (refine Exec.stab rfl (Stab.pick_fd rfl (by first | (with_reducible assumption) | omega) rfl) rfl ?_))) | ((with_reducible refine Knd.store ?_); (first | (refine xSQ ?_) | (refine xWQ ?_))) | ((with_reducible refine Knd.alloc ?_); (refine Exec.alloc (tysOk.get rfl) rfl rfl (fun b => ?_))) | ((with_reducible refine Knd.extract ?_); (refine Exec.stab rfl (Stab.extract rfl rfl) rfl ?_)))) | (with_reducible first | apply Tr.next | apply Tr.seq | apply Tr.region | apply Tr.nil) | ((refine Tr.guard_l rfl rfl rfl (by first | (with_reducible rfl) | (with_reducible exact Bool.not_true)) ?_); (first | (refine xmQ ?_) | (refine xlQ ?_) | (refine xfQ ?_) | (refine xiQ ?_) | ((with_reducible refine Knd.pick ?_); (first | (refine Exec.stab rfl (Stab.pick_f rfl (by (with_reducible exact Bool.not_true)) rfl) rfl ?_) | (refine Exec.stab rfl (Stab.pick_fd rfl (by (with_reducible exact (not_not_intro rfl))) rfl) rfl ?_))))) | (refine Tr.guard_s1 rfl rfl rfl (by first | (with_reducible rfl) | (with_reducible exact Bool.not_true)) rfl rfl ?_) | ((refine Tr.guard_y' rfl rfl rfl (by first | (with_reducible assumption) | (with_reducible exact (not_not_intro rfl)) | omega) ?_); (first | (refine xmQ ?_) | (refine xlQ ?_) | (refine xfQ ?_) | (refine xiQ ?_) | ((with_reducible refine Knd.pick ?_); (first | (refine Exec.stab rfl (Stab.pick_t rfl (by (with_reducible rfl)) rfl) rfl ?_) | (refine Exec.stab rfl (Stab.pick_f rfl (by (with_reducible exact Bool.not_true)) rfl) rfl ?_))) | ((with_reducible refine Knd.unOp ?_); (refine Exec.stab rfl (Stab.not rfl) rfl ?_)))) | (with_reducible refine Tr.skip ?_) | (refine Tr.cond_bf rfl (by (with_reducible rfl)) ?_) | (refine Tr.cond_f rfl (by (with_reducible assumption)) ?_)))
  ((refine Tr.step rfl ?_)); refine Exec.call0 rfl (askA_fn M3 ws w (hw.mono hm03) _ k (hk.mono hm03) hfc (onDay r day)) rfl ?_
  rintro _ M4 hm4 ha2
  obtain ⟨x4, a4, o4, rfl, hx4, ho4, hp4⟩ := ha2.one
  have hm04 := hm03.trans hm4
  obtain ⟨v1, v2, v3, v4, v5, v6, v7, v8, rfl⟩ := hx4.lit
  obtain ⟨A4, ca4, B4, cb4, D4, cd4, rfl, r1, r2, r3⟩ := id ho4
  obtain ⟨e3, e4⟩ := last M4 day (by omega) (by omega) (fun _ => by omega) o4 hp4
  rw [e3, e4]
  (refine rQ ?_)
  (refine dnQ (hL := by exact ⟨[_, _, _, _, _, _], rfl⟩) ⟨rfl, ?_⟩)
  rfl
 | false =>
  obtain ⟨e, -⟩ | ⟨-, rfl, -⟩ := id hE
  ·cases e
  by_cases g1 : day < r.due
  ·(repeat (first | ((with_reducible refine Tr.step rfl ?_); (first | (refine xmQ ?_) | (refine xaQ ?_) | (refine xlQ ?_) | (refine xfQ ?_) | (refine xiQ ?_) | ((with_reducible refine Knd.pick ?_); (first | (refine Exec.stab rfl (Stab.pick_t rfl (by (with_reducible rfl)) rfl) rfl ?_) | (refine Exec.stab rfl (Stab.pick_f rfl (by (with_reducible rfl)) rfl) rfl ?_) | (refine Exec.stab rfl (Stab.pick_td rfl (by (with_reducible assumption)) rfl) rfl ?_))) | (refine xWQ ?_) | ((with_reducible refine Knd.alloc ?_); (refine Exec.alloc (tysOk.get rfl) rfl rfl (fun b => ?_))) | ((with_reducible refine Knd.extract ?_); (refine Exec.stab rfl (Stab.extract rfl rfl) rfl ?_)))) | (with_reducible first | apply Tr.next | apply Tr.seq | apply Tr.region | apply Tr.nil) | ((refine Tr.guard_l rfl rfl rfl (by first | (with_reducible rfl) | (with_reducible exact Bool.not_false)) ?_); (first | (refine xmQ ?_) | (refine xiQ ?_) | ((with_reducible refine Knd.pick ?_); (refine Exec.stab rfl (Stab.pick_t rfl (by (with_reducible exact Bool.not_false)) rfl) rfl ?_)) | ((with_reducible refine Knd.unOp ?_); (refine Exec.stab rfl (Stab.not rfl) rfl ?_)))) | (refine Tr.guard_s0 rfl rfl rfl (by (with_reducible rfl)) rfl rfl ?_) | (refine Tr.guard_s1 rfl rfl rfl (by (with_reducible rfl)) rfl rfl ?_) | (refine Tr.guard_n' rfl rfl rfl (by (with_reducible assumption)) rfl rfl ?_) | (refine Tr.guard_u rfl rfl rfl rfl rfl ?_) | (with_reducible first | apply Tr.skip | apply Tr.ret | apply Tr.then_ret) | (refine Tr.cond_bt rfl (by (with_reducible rfl)) ?_) | (refine Tr.cond_f rfl (by (with_reducible exact (not_not_intro rfl))) ?_)))
   (refine dnQ (hL := by exact ⟨[_, _, _, _, _, _], rfl⟩) ⟨rfl, ?_⟩)
   rfl
  by_cases g2 : day ≥ 1024
  ·(repeat (first | ((with_reducible refine Tr.step rfl ?_); (first | (refine xmQ ?_) | (refine xaQ ?_) | (refine xlQ ?_) | (refine xfQ ?_) | (refine xiQ ?_) | ((with_reducible refine Knd.pick ?_); (first | (refine Exec.stab rfl (Stab.pick_f rfl (by (with_reducible rfl)) rfl) rfl ?_) | (refine Exec.stab rfl (Stab.pick_td rfl (by (with_reducible assumption)) rfl) rfl ?_) | (refine Exec.stab rfl (Stab.pick_fd rfl (by (with_reducible assumption)) rfl) rfl ?_))) | (refine xWQ ?_) | ((with_reducible refine Knd.alloc ?_); (refine Exec.alloc (tysOk.get rfl) rfl rfl (fun b => ?_))) | ((with_reducible refine Knd.extract ?_); (refine Exec.stab rfl (Stab.extract rfl rfl) rfl ?_)))) | (with_reducible first | apply Tr.next | apply Tr.seq | apply Tr.region | apply Tr.nil) | ((refine Tr.guard_l rfl rfl rfl (by first | (with_reducible rfl) | (with_reducible exact Bool.not_false)) ?_); (first | (refine xmQ ?_) | (refine xiQ ?_) | ((with_reducible refine Knd.pick ?_); (refine Exec.stab rfl (Stab.pick_t rfl (by (with_reducible exact Bool.not_false)) rfl) rfl ?_)) | ((with_reducible refine Knd.unOp ?_); (refine Exec.stab rfl (Stab.not rfl) rfl ?_)))) | (refine Tr.guard_s1 rfl rfl rfl (by (with_reducible rfl)) rfl rfl ?_) | ((refine Tr.guard_y' rfl rfl rfl (by (with_reducible assumption)) ?_); (first | (refine xmQ ?_) | (refine xiQ ?_))) | (refine Tr.guard_n' rfl rfl rfl (by (with_reducible assumption)) rfl rfl ?_) | (refine Tr.guard_u rfl rfl rfl rfl rfl ?_) | (with_reducible first | apply Tr.skip | apply Tr.ret | apply Tr.then_ret) | (refine Tr.cond_bt rfl (by (with_reducible rfl)) ?_) | (refine Tr.cond_f rfl (by first | (with_reducible assumption) | (with_reducible exact (not_not_intro rfl))) ?_)))
   (refine dnQ (hL := by exact ⟨[_, _, _, _, _, _], rfl⟩) ⟨rfl, ?_⟩)
   rfl
  (repeat (first | ((with_reducible refine Tr.step rfl ?_); (first | (refine xmQ ?_) | (refine xaQ ?_) | ((with_reducible refine Knd.load ?_); (first | (refine xlQ ?_) | (refine xwQ ?_) | (refine Exec.stab rfl (Stab.loadW rfl (tysOk.get rfl) rfl (by repeat (first | exact Has.here | apply Has.there)) (by assumption)) rfl ?_))) | (refine xfQ ?_) | (refine xiQ ?_) | ((with_reducible refine Knd.pick ?_); (first | (refine Exec.stab rfl (Stab.pick_f rfl (by (with_reducible rfl)) rfl) rfl ?_) | (refine Exec.stab rfl (Stab.pick_fd rfl (by (with_reducible assumption)) rfl) rfl ?_))) | ((with_reducible refine Knd.store ?_); (first | (refine xSQ ?_) | (refine xWQ ?_))) | ((with_reducible refine Knd.alloc ?_); (refine Exec.alloc (tysOk.get rfl) rfl rfl (fun b => ?_))) | ((with_reducible refine Knd.extract ?_); (refine Exec.stab rfl (Stab.extract rfl rfl) rfl ?_)))) | (with_reducible first | apply Tr.next | apply Tr.seq | apply Tr.region | apply Tr.nil) | ((refine Tr.guard_l rfl rfl rfl (by first | (with_reducible rfl) | (with_reducible exact Bool.not_false)) ?_); (first | (refine xmQ ?_) | (refine xiQ ?_) | ((with_reducible refine Knd.pick ?_); (refine Exec.stab rfl (Stab.pick_t rfl (by (with_reducible exact Bool.not_false)) rfl) rfl ?_)) | ((with_reducible refine Knd.unOp ?_); (refine Exec.stab rfl (Stab.not rfl) rfl ?_)))) | (refine Tr.guard_s1 rfl rfl rfl (by (with_reducible rfl)) rfl rfl ?_) | ((refine Tr.guard_y' rfl rfl rfl (by (with_reducible assumption)) ?_); (first | (refine xmQ ?_) | (refine xiQ ?_) | ((with_reducible refine Knd.pick ?_); (refine Exec.stab rfl (Stab.pick_f rfl (by (with_reducible rfl)) rfl) rfl ?_)))) | (refine Tr.guard_u rfl rfl rfl rfl rfl ?_) | (with_reducible refine Tr.skip ?_) | (refine Tr.cond_bf rfl (by (with_reducible rfl)) ?_) | (refine Tr.cond_f rfl (by first | (with_reducible assumption) | (with_reducible exact (not_not_intro rfl))) ?_)))
  ((refine Tr.step rfl ?_)); refine Exec.call0 rfl (askA_fn M3 ws w (hw.mono hm03) _ k (hk.mono hm03) hfc (onDay r day)) rfl ?_
  rintro _ M4 hm4 ha2
  obtain ⟨x4, a4, o4, rfl, hx4, ho4, hp4⟩ := ha2.one
  have hm04 := hm03.trans hm4
  obtain ⟨v1, v2, v3, v4, v5, v6, v7, v8, rfl⟩ := hx4.lit
  obtain ⟨A4, ca4, B4, cb4, D4, cd4, rfl, r1, r2, r3⟩ := id ho4
  obtain ⟨e3, e4⟩ := last M4 day (by omega) (by omega) (fun h => by cases h) o4 hp4
  rw [e3, e4]
  (refine rQ ?_)
  (refine dnQ (hL := by exact ⟨[_, _, _, _, _, _], rfl⟩) ⟨rfl, ?_⟩)
  rfl
end Go.Proofs.YtmikfjcdgkopkaaGreat

/-
 Promises: the row of PromisesEarliest.
 Conditions: none.
-/
namespace Go.Proofs.YtmikfjcdgkopkaaGreat
open Go Bf
open Go.ChangeShapes Go.WideShapes Go.ChangeAt Go.RowKit
set_option maxRecDepth 100000 in
theorem earlaw_lifted (os : Os) (started : os.Started) (H : Type) (enc : TypeId × Value → H) :
  ReturnsInHanded {} Tryz.checked os 6 .any (Rows.promisesEarliestSpec.pre6 enc Tryz.prog Tryz.f6 Rows.promisesEarliestRow.domain false) (Rows.promisesEarliestSpec.post enc Tryz.prog Tryz.f6 false true false false) :=
 lift_true (C := Tryz.checked) (ts := [38, 44, 46, 3]) (tb := 4) started ownT' (by kernel_rfl) Tryz.func6
  (ChangeSpec.witness6 (enc := enc) (C := Tryz.checked) false ⟨#[], #[.agg #[.slice none 0 0, .slice none 0 0, .slice none 0 0, .slice none 0 0, .slice none 0 0, .slice none 0 0, .slice none 0 0, .slice none 0 0, .slice none 0 0, .slice none 0 0, .slice none 0 0], .agg #[.int .i64 0, .slice none 0 0, .slice none 0 0, .slice none 0 0, .slice none 0 0], .agg #[.int .i64 0, .int .i64 0, .int .i64 0, .int .i64 0, .int .i64 0, .int .i64 0], .int .i64 0], []⟩ 8 (by kernel_rfl) (by kernel_rfl) (by kernel_rfl) (by kernel_rfl))
  (by rw [Tryz.params6]) laidT' (by kernel_rfl) rfl (fun ds h => match ds, h with | [_, _, _, _], _ => rfl) rfl Tryz.underlying4
  (fun W base vs hl ha => by
   obtain ⟨v0, v1, v2, v3, rfl⟩ := len4 hl
   obtain ⟨ws, w, rfl, hw, hfd⟩ := arg_world (ha 0 38 v0 rfl rfl)
   obtain ⟨k, hk⟩ := arg_book (ha 1 44 v1 rfl rfl)
   obtain ⟨r, rfl, hr⟩ := arg_req (ha 2 46 v2 rfl rfl)
   obtain ⟨y, rfl, hy⟩ := arg_int (ha 3 3 v3 rfl rfl)
   exact earlaw_fn _ ws w hw hfd v1 k hk r y)
theorem promisesEarliest_holds : Rows.PromisesEarliestSaid :=
 OpenClaim.holds_of_wide 6 Tryz.f6 rfl rfl rfl rfl rfl rfl rfl ⟨rfl, rfl, rfl, rfl, rfl⟩ rfl rfl rfl rfl rfl (by kernel_rfl) Tryz.func6 (by kernel_rfl)
  (of_decide_eq_true (by kernel_rfl)) (by unfold Func.isWrapper; first | (rw [if_pos (by decide +kernel)]; kernel_rfl) | (rw [if_neg (by decide +kernel)]; exact ⟨rfl, rfl⟩))
  (fun os started H enc _ => earlaw_lifted os started H enc)
end Go.Proofs.YtmikfjcdgkopkaaGreat

