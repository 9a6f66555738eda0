/-
  Texts of the proof, one after the other.
  Conditions: none.
-/
import Derived.Test.YtmikfjcdgkopkaaGreatQBfDelN
import Derived.Test.YtmikfjcdgkopkaaGreatQXs
import Derived.Test.YtmikfjcdgkopkaaGreatQd
/-
 The reference's promises: matters, Earliest.
 Conditions: none.
-/
namespace Go.Proofs.YtmikfjcdgkopkaaGreat
open Go Bf
attribute [local irreducible] Tr Exec Stab HasTy Go.Addr.add IntKind.wrap
set_option maxHeartbeats 8000000 in
set_option maxRecDepth 20000 in
theorem rmatters_fn (M : Mem) (ws : List Value) (w : Wd) (hw : RWd M ws w) (v : Value) (k : Bp) (hk : RBp M v k) (r : Rq) (d : Int) :
  Fn0 Tryz.prog 56 [.agg ws.toArray, v, .agg #[.int .i64 r.no, .int .i64 r.item, .int .i64 r.cust, .int .i64 r.due, .int .i64 r.shelf, .int .i64 r.amount], .int .i64 d] M (fun v _ => ∃ q : Bool, v = .bool q ∧ (q = true ↔ matters w k r d)) := by
 obtain ⟨As, cs, Ar, cr, Af, cf, Ad, cd, rfl, h1, h2, h3, h4⟩ := hk
 obtain ⟨h11, hone, -, B, kb, h10, hfa⟩ := hw
 have hl1 := h1.len_le
 have hl2 := hfa.len_le
 refine Fn.intro Tryz.func56 rfl rfl Tryz.ntmps56 rfl fun E F => ?_
 (repeat (first | ((with_reducible refine Tr.step rfl ?_); (first | (refine xaQ ?_) | ((with_reducible refine Knd.box ?_); (refine Exec.box rfl rfl (fun b => ?_))))) | (with_reducible first | apply Tr.next | apply Tr.seq | apply Tr.region | apply Tr.nil | apply Tr.block)))
 rename_i b4 b5
 generalize b = b6
 refine Tr.loop (α := Nat) (fun i => ⟨69, [(9, .int .i64 (i : Int)), (3, .int .i64 d), (4, .pointer (some ⟨b4, 0, none⟩)), (5, .pointer (some ⟨b5, 0, none⟩)), (6, .pointer (some ⟨b6, 0, none⟩))], [], M, box b6 46 [.int .i64 r.no, .int .i64 r.item, .int .i64 r.cust, .int .i64 r.due, .int .i64 r.shelf, .int .i64 r.amount] :: box b5 44 [.int .i64 k.known, .slice As k.sups.length cs, .slice Ar k.reqs.length cr, .slice Af k.fits.length cf, .slice Ad k.rds.length cd] :: box b4 38 ws :: ([] ++ F)⟩)
  (fun i => i ≤ k.sups.length ∧ ∀ s ∈ k.sups.take i, s.ready ≠ d) (fun i => k.sups.length - i) 0 ⟨Nat.zero_le _, by simp⟩ hsQ (fun i hi => ?_)
 obtain ⟨hi, hno⟩ := hi
 by_cases hlt : i < k.sups.length
 ·obtain ⟨s, hs⟩ := get_of_lt hlt
  obtain ⟨hA, ch, hat, rfl⟩ := h1.elem hs
  have hat2 : At M (((As.getD default).add (i * 6)).add 3) [.int .i64 s.ready, .int .i64 s.expiry, .int .i64 s.amount] := hat.drop 3
  by_cases he : s.ready = d
  ·(refine rQ ?_)
   (refine dnQ (hL := by exact ⟨[_, _, _], rfl⟩) ⟨rfl, ?_⟩)
   exact ⟨true, rfl, fun _ => .inr (.inl ⟨s, List.mem_of_getElem? hs, he⟩), fun _ => rfl⟩
  ·(refine rQ ?_)
   refine Tr.again (i + 1) ⟨by omega, ?_⟩ (by omega) hsQ
   rw [List.take_add_one, hs, Option.toList_some]
   intro z hz
   rcases List.mem_append.1 hz with hz | hz
   ·exact hno z hz
   ·simp at hz; subst hz; exact he
 have ei : i = k.sups.length := by omega
 subst ei
 rw [List.take_length] at hno
 have hn1 := hno
 clear hno hi hlt
 (refine rQ ?_)
 refine Tr.loop (α := Nat) (fun i => ⟨69, [(10, .int .i64 (i : Int)), (3, .int .i64 d), (4, .pointer (some ⟨b4, 0, none⟩)), (5, .pointer (some ⟨b5, 0, none⟩)), (6, .pointer (some ⟨b6, 0, none⟩))], [], M, box b6 46 [.int .i64 r.no, .int .i64 r.item, .int .i64 r.cust, .int .i64 r.due, .int .i64 r.shelf, .int .i64 r.amount] :: box b5 44 [.int .i64 k.known, .slice As k.sups.length cs, .slice Ar k.reqs.length cr, .slice Af k.fits.length cf, .slice Ad k.rds.length cd] :: box b4 38 ws :: ([] ++ F)⟩)
  (fun i => i ≤ w.facts.length ∧ ∀ f ∈ w.facts.take i, ¬ ((f.key.1 = 7 ∧ f.key.2.1 = r.cust) ∧ (f.lo = d ∨ f.hi = d))) (fun i => w.facts.length - i) 0 ⟨Nat.zero_le _, by simp⟩ hsQ (fun i hi => ?_)
 obtain ⟨hi, hno⟩ := hi
 by_cases hlt : i < w.facts.length
 ·obtain ⟨f, hf⟩ := get_of_lt hlt
  obtain ⟨hA, ch, hat, rfl⟩ := hfa.elem hf
  simp only [fcC] at hat
  have hstep : ¬ ((f.key.1 = 7 ∧ f.key.2.1 = r.cust) ∧ (f.lo = d ∨ f.hi = d)) → ∀ g ∈ w.facts.take (i + 1), ¬ ((g.key.1 = 7 ∧ g.key.2.1 = r.cust) ∧ (g.lo = d ∨ g.hi = d)) := fun h => by
   rw [List.take_add_one, hf, Option.toList_some]
   intro z hz
   rcases List.mem_append.1 hz with hz | hz
   ·exact hno z hz
   ·simp at hz; subst hz; exact h
  have hyes : ((f.key.1 = 7 ∧ f.key.2.1 = r.cust) ∧ (f.lo = d ∨ f.hi = d)) → matters w k r d := fun h => .inr (.inr ⟨f, List.mem_of_getElem? hf, h⟩)
  by_cases e1 : f.key.1 = 7
  rotate_left
  ·(repeat (first | ((with_reducible refine Tr.step rfl ?_); (first | (refine xmQ ?_) | (refine xaQ ?_) | ((with_reducible refine Knd.load ?_); (first | (refine xlQ ?_) | (refine Exec.stab rfl (Stab.load rfl (tysOk.get rfl) rfl (by repeat (first | exact Has.here | apply Has.there)) (by assumption)) rfl ?_) | (refine Exec.stab rfl (Stab.loadMA rfl (tysOk.get rfl) rfl (by assumption) (by first | rfl | assumption)) rfl ?_))) | (refine xfQ ?_) | (refine xnQ ?_) | ((with_reducible refine Knd.binOp ?_); (first | (refine xdQ ?_) | (refine xiQ ?_))) | ((with_reducible refine Knd.pick ?_); (first | (refine Exec.stab rfl (Stab.pick_f rfl (by (with_reducible rfl)) rfl) rfl ?_) | (refine Exec.stab rfl (Stab.pick_fd rfl (by (with_reducible assumption)) rfl) rfl ?_))) | (refine xWQ ?_) | ((with_reducible refine Knd.alloc ?_); (refine Exec.alloc (tysOk.get rfl) rfl rfl (fun b => ?_))) | (refine xxQ ?_))) | (with_reducible first | apply Tr.next | apply Tr.seq | apply Tr.region | apply Tr.nil) | (refine Tr.guard_s1 rfl rfl rfl (by (with_reducible rfl)) rfl rfl ?_) | (refine Tr.guard_n rfl rfl rfl (by (with_reducible assumption)) rfl rfl ?_) | (refine Tr.guard_u rfl rfl rfl rfl rfl ?_) | (with_reducible first | apply Tr.skip | apply Tr.block | apply Tr.in_normal) | (refine Tr.cond_bf rfl (by (with_reducible rfl)) ?_) | (refine Tr.cond_t rfl (by first | (with_reducible assumption) | omega) ?_)))
   exact Tr.again (i + 1) ⟨by omega, hstep fun h => e1 h.1.1⟩ (by omega) hsQ
  by_cases e2 : f.key.2.1 = r.cust
  rotate_left
  ·(repeat (first | ((with_reducible refine Tr.step rfl ?_); (first | (refine xmQ ?_) | (refine xaQ ?_) | ((with_reducible refine Knd.load ?_); (first | (refine xlQ ?_) | (refine Exec.stab rfl (Stab.load rfl (tysOk.get rfl) rfl (by repeat (first | exact Has.here | apply Has.there)) (by assumption)) rfl ?_) | (refine Exec.stab rfl (Stab.loadMA rfl (tysOk.get rfl) rfl (by assumption) (by first | rfl | assumption)) rfl ?_))) | (refine xfQ ?_) | (refine xnQ ?_) | ((with_reducible refine Knd.binOp ?_); (first | (refine xdQ ?_) | (refine xiQ ?_))) | ((with_reducible refine Knd.pick ?_); (first | (refine Exec.stab rfl (Stab.pick_td rfl (by (with_reducible assumption)) rfl) rfl ?_) | (refine Exec.stab rfl (Stab.pick_fd rfl (by (with_reducible assumption)) rfl) rfl ?_))) | (refine xWQ ?_) | ((with_reducible refine Knd.alloc ?_); (refine Exec.alloc (tysOk.get rfl) rfl rfl (fun b => ?_))) | (refine xxQ ?_))) | (with_reducible first | apply Tr.next | apply Tr.seq | apply Tr.region | apply Tr.nil) | ((refine Tr.guard_y rfl rfl rfl (by (with_reducible assumption)) ?_); (first | (refine xlQ ?_) | (refine xfQ ?_) | (refine xiQ ?_))) | (refine Tr.guard_n rfl rfl rfl (by (with_reducible assumption)) rfl rfl ?_) | (refine Tr.guard_u rfl rfl rfl rfl rfl ?_) | (with_reducible first | apply Tr.skip | apply Tr.block | apply Tr.in_normal) | (refine Tr.cond_bf rfl (by (with_reducible rfl)) ?_) | (refine Tr.cond_t rfl (by first | (with_reducible assumption) | omega) ?_)))
   exact Tr.again (i + 1) ⟨by omega, hstep fun h => e2 h.1.2⟩ (by omega) hsQ
  by_cases e3 : f.lo = d
  ·(repeat (first | ((with_reducible refine Tr.step rfl ?_); (first | (refine xmQ ?_) | (refine xaQ ?_) | ((with_reducible refine Knd.load ?_); (first | (refine xlQ ?_) | (refine Exec.stab rfl (Stab.load rfl (tysOk.get rfl) rfl (by repeat (first | exact Has.here | apply Has.there)) (by assumption)) rfl ?_) | (refine Exec.stab rfl (Stab.loadMA rfl (tysOk.get rfl) rfl (by assumption) (by first | rfl | assumption)) rfl ?_))) | (refine xfQ ?_) | (refine xnQ ?_) | (refine xiQ ?_) | ((with_reducible refine Knd.pick ?_); (refine Exec.stab rfl (Stab.pick_td rfl (by (with_reducible assumption)) rfl) rfl ?_)) | (refine xWQ ?_) | ((with_reducible refine Knd.alloc ?_); (refine Exec.alloc (tysOk.get rfl) rfl rfl (fun b => ?_))) | (refine xxQ ?_))) | (with_reducible first | apply Tr.next | apply Tr.seq | apply Tr.region | apply Tr.nil) | ((refine Tr.guard_y rfl rfl rfl (by (with_reducible assumption)) ?_); (first | (refine xmQ ?_) | (refine xlQ ?_) | ((with_reducible refine Knd.fieldAddr ?_); (first | (refine xfQ ?_) | (refine Exec.stab rfl (Stab.fieldN rfl (tysOk.get rfl) rfl rfl (tysOk.get rfl) rfl) rfl ?_))) | (refine xiQ ?_) | ((with_reducible refine Knd.pick ?_); (refine Exec.stab rfl (Stab.pick_td rfl (by (with_reducible assumption)) rfl) rfl ?_)))) | (refine Tr.guard_n' rfl rfl rfl (by (with_reducible assumption)) rfl rfl ?_) | (with_reducible first | apply Tr.skip | apply Tr.block | apply Tr.ret | apply Tr.then_ret | apply Tr.in_ret) | (refine Tr.cond_bt rfl (by (with_reducible rfl)) ?_) | (refine Tr.cond_t rfl (by first | (with_reducible assumption) | omega) ?_)))
   (refine dnQ (hL := by exact ⟨[_, _, _, _], rfl⟩) ⟨rfl, ?_⟩)
   exact ⟨true, rfl, fun _ => hyes ⟨⟨e1, e2⟩, .inl e3⟩, fun _ => rfl⟩
  by_cases e4 : f.hi = d
  ·(repeat (first | ((with_reducible refine Tr.step rfl ?_); (first | (refine xmQ ?_) | (refine xaQ ?_) | ((with_reducible refine Knd.load ?_); (first | (refine xlQ ?_) | (refine Exec.stab rfl (Stab.load rfl (tysOk.get rfl) rfl (by repeat (first | exact Has.here | apply Has.there)) (by assumption)) rfl ?_) | (refine Exec.stab rfl (Stab.loadMA rfl (tysOk.get rfl) rfl (by assumption) (by first | rfl | assumption)) rfl ?_))) | (refine xfQ ?_) | (refine xnQ ?_) | (refine xiQ ?_) | ((with_reducible refine Knd.pick ?_); (refine Exec.stab rfl (Stab.pick_td rfl (by (with_reducible assumption)) rfl) rfl ?_)) | (refine xWQ ?_) | ((with_reducible refine Knd.alloc ?_); (refine Exec.alloc (tysOk.get rfl) rfl rfl (fun b => ?_))) | (refine xxQ ?_))) | (with_reducible first | apply Tr.next | apply Tr.seq | apply Tr.region | apply Tr.nil) | ((refine Tr.guard_y rfl rfl rfl (by (with_reducible assumption)) ?_); (first | (refine xmQ ?_) | (refine xlQ ?_) | ((with_reducible refine Knd.fieldAddr ?_); (first | (refine xfQ ?_) | (refine Exec.stab rfl (Stab.fieldN rfl (tysOk.get rfl) rfl rfl (tysOk.get rfl) rfl) rfl ?_))) | (refine xiQ ?_) | ((with_reducible refine Knd.pick ?_); (refine Exec.stab rfl (Stab.pick_fd rfl (by (with_reducible assumption)) rfl) rfl ?_)))) | ((refine Tr.guard_y' rfl rfl rfl (by (with_reducible assumption)) ?_); (first | (refine xmQ ?_) | (refine xlQ ?_) | ((with_reducible refine Knd.fieldAddr ?_); (first | (refine xfQ ?_) | (refine Exec.stab rfl (Stab.fieldN rfl (tysOk.get rfl) rfl rfl (tysOk.get rfl) rfl) rfl ?_))) | (refine xiQ ?_))) | (with_reducible first | apply Tr.skip | apply Tr.block | apply Tr.ret | apply Tr.then_ret | apply Tr.in_ret) | (refine Tr.cond_t rfl (by first | (with_reducible assumption) | omega) ?_)))
   (refine dnQ (hL := by exact ⟨[_, _, _, _], rfl⟩) ⟨rfl, ?_⟩)
   exact ⟨true, rfl, fun _ => hyes ⟨⟨e1, e2⟩, .inr e4⟩, fun _ => rfl⟩
  ·(repeat (first | ((with_reducible refine Tr.step rfl ?_); (first | (refine xmQ ?_) | (refine xaQ ?_) | ((with_reducible refine Knd.load ?_); (first | (refine xlQ ?_) | (refine Exec.stab rfl (Stab.load rfl (tysOk.get rfl) rfl (by repeat (first | exact Has.here | apply Has.there)) (by assumption)) rfl ?_) | (refine Exec.stab rfl (Stab.loadMA rfl (tysOk.get rfl) rfl (by assumption) (by first | rfl | assumption)) rfl ?_))) | (refine xfQ ?_) | (refine xnQ ?_) | ((with_reducible refine Knd.binOp ?_); (first | (refine xdQ ?_) | (refine xiQ ?_))) | ((with_reducible refine Knd.pick ?_); (refine Exec.stab rfl (Stab.pick_td rfl (by (with_reducible assumption)) rfl) rfl ?_)) | (refine xWQ ?_) | ((with_reducible refine Knd.alloc ?_); (refine Exec.alloc (tysOk.get rfl) rfl rfl (fun b => ?_))) | (refine xxQ ?_))) | (with_reducible first | apply Tr.next | apply Tr.seq | apply Tr.region | apply Tr.nil) | ((refine Tr.guard_y rfl rfl rfl (by (with_reducible assumption)) ?_); (first | (refine xmQ ?_) | (refine xlQ ?_) | ((with_reducible refine Knd.fieldAddr ?_); (first | (refine xfQ ?_) | (refine Exec.stab rfl (Stab.fieldN rfl (tysOk.get rfl) rfl rfl (tysOk.get rfl) rfl) rfl ?_))) | (refine xiQ ?_) | ((with_reducible refine Knd.pick ?_); (refine Exec.stab rfl (Stab.pick_fd rfl (by (with_reducible assumption)) rfl) rfl ?_)))) | ((refine Tr.guard_y' rfl rfl rfl (by (with_reducible assumption)) ?_); (first | (refine xmQ ?_) | (refine xlQ ?_) | ((with_reducible refine Knd.fieldAddr ?_); (first | (refine xfQ ?_) | (refine Exec.stab rfl (Stab.fieldN rfl (tysOk.get rfl) rfl rfl (tysOk.get rfl) rfl) rfl ?_))) | (refine xiQ ?_))) | (with_reducible first | apply Tr.skip | apply Tr.block | apply Tr.in_normal) | (refine Tr.cond_t rfl (by first | (with_reducible assumption) | omega) ?_) | (refine Tr.cond_f rfl (by (with_reducible assumption)) ?_)))
   exact Tr.again (i + 1) ⟨by omega, hstep fun h => h.2.elim e3 e4⟩ (by omega) hsQ
 have ei : i = w.facts.length := by omega
 subst ei
 rw [List.take_length] at hno
 have hm : matters w k r d ↔ d = r.due := ⟨fun h => h.elim id fun h => h.elim (fun ⟨s, hs, e⟩ => absurd e (hn1 s hs)) (fun ⟨f, hf, h⟩ => absurd h (hno f hf)), .inl⟩
 by_cases hd : d = r.due
 ·(repeat (first | ((with_reducible refine Tr.step rfl ?_); (first | (refine xmQ ?_) | (refine xaQ ?_) | ((with_reducible refine Knd.load ?_); (first | (refine xlQ ?_) | (refine Exec.stab rfl (Stab.load rfl (tysOk.get rfl) rfl (by repeat (first | exact Has.here | apply Has.there)) (by assumption)) rfl ?_))) | (refine xfQ ?_) | (refine xnQ ?_) | (refine xiQ ?_))) | (with_reducible first | apply Tr.next | apply Tr.seq | apply Tr.region | apply Tr.nil | apply Tr.exit | apply Tr.ret | apply Tr.then_exit) | ((with_reducible refine Tr.in_exit ?_ ?_); (exact rfl)) | (refine Tr.cond_f rfl (by first | (with_reducible assumption) | omega) ?_)))
  (refine dnQ (hL := by exact ⟨[_, _, _], rfl⟩) ⟨rfl, ?_⟩)
  exact ⟨true, by rw [decide_eq_true hd]; rfl, fun _ => hm.2 hd, fun _ => rfl⟩
 ·(repeat (first | ((with_reducible refine Tr.step rfl ?_); (first | (refine xmQ ?_) | (refine xaQ ?_) | ((with_reducible refine Knd.load ?_); (first | (refine xlQ ?_) | (refine Exec.stab rfl (Stab.load rfl (tysOk.get rfl) rfl (by repeat (first | exact Has.here | apply Has.there)) (by assumption)) rfl ?_))) | (refine xfQ ?_) | (refine xnQ ?_) | (refine xiQ ?_))) | (with_reducible first | apply Tr.next | apply Tr.seq | apply Tr.region | apply Tr.nil | apply Tr.exit | apply Tr.ret | apply Tr.then_exit) | ((with_reducible refine Tr.in_exit ?_ ?_); (exact rfl)) | (refine Tr.cond_f rfl (by first | (with_reducible assumption) | omega) ?_)))
  (refine dnQ (hL := by exact ⟨[_, _, _], rfl⟩) ⟨rfl, ?_⟩)
  exact ⟨false, by rw [decide_eq_false hd]; rfl, fun h => (by cases h), fun h => absurd (hm.1 h) hd⟩
set_option maxHeartbeats 8000000 in
set_option maxRecDepth 20000 in
theorem rearliest_fn (M : Mem) (ws : List Value) (w : Wd) (hw : RWd M ws w) (v : Value) (k : Bp) (hk : RBp M v k) (hfew : k.sups.length ≤ 5 ∧ k.reqs.length ≤ 5) (r : Rq) :
  Fn0 Tryz.prog 21 [.agg ws.toArray, v, .agg #[.int .i64 r.no, .int .i64 r.item, .int .i64 r.cust, .int .i64 r.due, .int .i64 r.shelf, .int .i64 r.amount]] M (fun v _ => EarV w k r v) := by
 have h11 := hw.len
 have hk0 := hk
 obtain ⟨As, cs, Ar, cr, Af, cf, Ad, cd, rfl, h1, h2, h3, h4⟩ := hk
 refine Fn.intro Tryz.func21 rfl rfl Tryz.ntmps21 rfl fun E F => ?_
 (repeat (first | ((with_reducible refine Tr.step rfl ?_); (first | (refine xaQ ?_) | ((with_reducible refine Knd.load ?_); (first | (refine xwQ ?_) | (refine Exec.stab rfl (Stab.loadW rfl (tysOk.get rfl) rfl (by repeat (first | exact Has.here | apply Has.there)) (by assumption)) rfl ?_))) | ((with_reducible refine Knd.box ?_); (refine Exec.box rfl rfl (fun b => ?_))))) | (with_reducible first | apply Tr.next | apply Tr.seq | apply Tr.region | apply Tr.nil)))
 rename_i b3 b4
 generalize b = b5
 ((refine Tr.step rfl ?_)); refine Exec.call0 rfl (raskA_fn M ws w hw _ k hk0 hfew r) rfl ?_
 rintro _ M1 hm1 (⟨h0, hv, x, a, rfl, hR⟩ | ⟨hne, rfl⟩)
 rotate_left
 ·(repeat (first | ((with_reducible refine Tr.step rfl ?_); (first | (refine xmQ ?_) | (refine xaQ ?_) | (refine xiQ ?_) | (refine xWQ ?_) | ((with_reducible refine Knd.alloc ?_); (refine Exec.alloc (tysOk.get rfl) rfl rfl (fun b => ?_))) | ((with_reducible refine Knd.extract ?_); (refine Exec.stab rfl (Stab.extract rfl rfl) rfl ?_)))) | (with_reducible first | apply Tr.next | apply Tr.seq | apply Tr.region | apply Tr.nil | apply Tr.ret | apply Tr.then_ret) | (refine Tr.cond_t rfl (by (with_reducible assumption)) ?_)))
  (refine dnQ (hL := by exact ⟨[_, _, _, _, _], rfl⟩) ⟨rfl, ?_⟩)
  exact .inr ⟨hne, rfl⟩
 obtain ⟨y1, y2, y3, y4, y5, z1, z2, z3, z4, rfl, rfl, ⟨o1, o2, o3, o4, o5⟩, o6, o7, o8, o9⟩ := hR.lit
 have hrq := ((okT_app hv.2.1).1 (askE_zero h0).2.2).1.2.2.2.1
 (repeat (first | ((with_reducible refine Tr.step rfl ?_); (first | (refine xmQ ?_) | (refine xaQ ?_) | (refine xlQ ?_) | (refine xfQ ?_) | (refine xiQ ?_) | (refine xWQ ?_) | ((with_reducible refine Knd.alloc ?_); (refine Exec.alloc (tysOk.get rfl) rfl rfl (fun b => ?_))) | ((with_reducible refine Knd.extract ?_); (refine Exec.stab rfl (Stab.extract rfl rfl) rfl ?_)))) | (with_reducible first | apply Tr.next | apply Tr.seq | apply Tr.region | apply Tr.nil | apply Tr.skip | apply Tr.block) | (refine Tr.cond_f rfl (by (with_reducible exact (not_not_intro rfl))) ?_)))
 refine Tr.loop (α := Nat × Mem) (fun y => ⟨54, [(12, .int .i64 (r.due + (y.1 : Int))), (3, .pointer (some ⟨b3, 0, none⟩)), (4, .pointer (some ⟨b4, 0, none⟩)), (5, .pointer (some ⟨b5, 0, none⟩))], [], y.2, box b5 46 [.int .i64 r.no, .int .i64 r.item, .int .i64 r.cust, .int .i64 r.due, .int .i64 r.shelf, .int .i64 r.amount] :: box b4 44 [.int .i64 k.known, .slice As k.sups.length cs, .slice Ar k.reqs.length cr, .slice Af k.fits.length cf, .slice Ad k.rds.length cd] :: box b3 38 ws :: ([] ++ F)⟩)
  (fun y => r.due + (y.1 : Int) ≤ 1024 ∧ Mem.le M1 y.2 ∧ ∀ d, matters w k r d → r.due ≤ d → d < r.due + (y.1 : Int) → ¬ canF w k r d) (fun y => (1024 - (r.due + (y.1 : Int))).toNat) (0, M1) ⟨by simp only; omega, Mem.le.refl _, fun d _ h2 h3 => by simp only at h3; omega⟩ (by rw [show r.due + ((0 : Nat) : Int) = r.due by omega]; exact hsQ) (fun y hy => ?_)
 obtain ⟨n, M2⟩ := y
 obtain ⟨hd, hm2, hno⟩ := hy
 simp only at hd hm2 hno
 dsimp only
 have hm02 := hm1.trans hm2
 generalize hdd : r.due + (n : Int) = d at hd hno ⊢
 by_cases hlt : d < 1024
 rotate_left
 ·(refine rQ ?_)
  (refine dnQ (hL := by exact ⟨[_, _, _], rfl⟩) ⟨rfl, ?_⟩)
  exact .inl ⟨h0, 0, false, rfl, .inr ⟨rfl, rfl, fun d' h1 h2 h3 => hno d' h1 h2 (by omega)⟩⟩
 have hnext : d + 1 = r.due + ((n + 1 : Nat) : Int) := by omega
 (repeat (first | ((with_reducible refine Tr.step rfl ?_); (first | (refine xmQ ?_) | ((with_reducible refine Knd.load ?_); (first | (refine xwQ ?_) | (refine Exec.stab rfl (Stab.loadW rfl (tysOk.get rfl) rfl (by repeat (first | exact Has.here | apply Has.there)) (by assumption)) rfl ?_))) | (refine xiQ ?_))) | (with_reducible first | apply Tr.next | apply Tr.seq | apply Tr.region | apply Tr.nil | apply Tr.skip | apply Tr.block) | (refine Tr.cond_t rfl (by (with_reducible assumption)) ?_)))
 ((refine Tr.step rfl ?_)); refine Exec.call0 rfl (rmatters_fn M2 ws w (hw.mono hm02) _ k (hk0.mono hm02) r d) rfl ?_
 rintro _ M3 hm3 ⟨q, rfl, hq⟩
 have hm03 := hm02.trans hm3
 have hstep : (matters w k r d → ¬ canF w k r d) → ∀ d', matters w k r d' → r.due ≤ d' → d' < r.due + ((n + 1 : Nat) : Int) → ¬ canF w k r d' := fun h d' h1 h2 h3 => by
  by_cases e : d' = d
  ·subst e; exact h h1
  ·exact hno d' h1 h2 (by omega)
 cases q with
 | false =>
  (refine rQ ?_)
  rw [hnext]
  exact Tr.again (n + 1, M3) ⟨by simp only; omega, hm2.trans hm3, hstep fun h => (by have := hq.2 h; cases this)⟩ (by simp only; omega) hsQ
 | true =>
 have hask := onDay_ask (d := d) h0 (by omega) hlt
 (repeat (first | ((with_reducible refine Tr.step rfl ?_); (first | (refine xmQ ?_) | ((with_reducible refine Knd.load ?_); (first | (refine xwQ ?_) | (refine Exec.stab rfl (Stab.loadW rfl (tysOk.get rfl) rfl (by repeat (first | exact Has.here | apply Has.there)) (by assumption)) rfl ?_))) | (refine xfQ ?_) | ((with_reducible refine Knd.unOp ?_); (refine Exec.stab rfl (Stab.not rfl) rfl ?_)) | ((with_reducible refine Knd.store ?_); (first | (refine xSQ ?_) | (refine xWQ ?_))) | ((with_reducible refine Knd.alloc ?_); (refine Exec.alloc (tysOk.get rfl) rfl rfl (fun b => ?_))))) | (with_reducible first | apply Tr.next | apply Tr.seq | apply Tr.region | apply Tr.nil | apply Tr.skip) | (refine Tr.cond_bf rfl (by first | (with_reducible rfl) | (with_reducible exact Bool.not_true)) ?_)))
 ((refine Tr.step rfl ?_)); refine Exec.call0 rfl (rask_fn M3 ws w (hw.mono hm03) _ k (hk0.mono hm03) hv hfew (onDay r d)) rfl ?_
 rintro _ M4 hm4 (⟨-, -, x, a, rfl, hR⟩ | ⟨hne, -⟩)
 rotate_left
 ·exact absurd hask hne
 have hm04 := hm03.trans hm4
 obtain ⟨D, cD, -, ⟨hF, hx, al, A, c, -, rfl, -⟩ | ⟨hF, hx, B, c, rfl, -⟩⟩ := hR
 ·obtain ⟨As', cs', Ar', cr', Af', cf', Ad', cd', rfl⟩ := hx.lit
  (repeat (first | ((with_reducible refine Tr.step rfl ?_); (first | (refine xmQ ?_) | (refine xaQ ?_) | (refine xlQ ?_) | (refine xfQ ?_) | (refine xWQ ?_) | ((with_reducible refine Knd.alloc ?_); (refine Exec.alloc (tysOk.get rfl) rfl rfl (fun b => ?_))) | ((with_reducible refine Knd.extract ?_); (refine Exec.stab rfl (Stab.extract rfl rfl) rfl ?_)))) | (with_reducible first | apply Tr.next | apply Tr.seq | apply Tr.region | apply Tr.nil | apply Tr.ret | apply Tr.then_ret | apply Tr.in_ret) | (refine Tr.cond_bt rfl (by (with_reducible rfl)) ?_)))
  (refine dnQ (hL := by exact ⟨[_, _, _, _, _, _], rfl⟩) ⟨rfl, ?_⟩)
  exact .inl ⟨h0, d, true, rfl, .inl ⟨rfl, ⟨by omega, hlt⟩, hF, hno⟩⟩
 ·obtain ⟨As', cs', Ar', cr', Af', cf', Ad', cd', rfl⟩ := hx.lit
  (repeat (first | ((with_reducible refine Tr.step rfl ?_); (first | (refine xmQ ?_) | (refine xaQ ?_) | (refine xlQ ?_) | (refine xfQ ?_) | (refine xdQ ?_) | (refine xWQ ?_) | ((with_reducible refine Knd.alloc ?_); (refine Exec.alloc (tysOk.get rfl) rfl rfl (fun b => ?_))) | ((with_reducible refine Knd.extract ?_); (refine Exec.stab rfl (Stab.extract rfl rfl) rfl ?_)))) | (with_reducible first | apply Tr.next | apply Tr.seq | apply Tr.region | apply Tr.nil | apply Tr.skip | apply Tr.in_normal) | (refine Tr.cond_bf rfl (by (with_reducible rfl)) ?_)))
  rw [hnext]
  exact Tr.again (n + 1, M4) ⟨by simp only; omega, hm2.trans (hm3.trans hm4), hstep fun _ => hF⟩ (by simp only; omega) hsQ
end Go.Proofs.YtmikfjcdgkopkaaGreat

/-
 The reference's promises: Drop.
 Conditions: none.
-/
namespace Go.Proofs.YtmikfjcdgkopkaaGreat
open Go Bf
attribute [local irreducible] Tr Exec Stab HasTy Go.Addr.add IntKind.wrap
theorem lessR_take {l : List Rq} {i : Nat} {y : Rq} {no : Int} (hy : l[i]? = some y) : lessR (l.take (i + 1)) no = if y.no = no then lessR (l.take i) no else lessR (l.take i) no ++ [y] := by
 unfold lessR
 rw [List.take_add_one, hy, Option.toList_some, List.filter_append]
 split
 ·rename_i h; rw [List.filter_cons_of_neg (by simp [h])]; simp
 ·rename_i h; rw [List.filter_cons_of_pos (by simp [h])]; simp
theorem lessR_all {l : List Rq} {no : Int} : (lessR l no).length = l.length ↔ no ∉ l.map (·.no) := by
 constructor
 ·intro h hm
  obtain ⟨y, hy, e⟩ := List.mem_map.1 hm
  have := (List.filter_sublist (p := fun y : Rq => !decide (y.no = no)) (l := l)).eq_of_length h
  rw [← this] at hy
  have := (List.mem_filter.1 hy).2
  simp [e] at this
 ·intro h
  rw [lessR, List.filter_eq_self.2]
  intro y hy
  simp only [Bool.not_eq_true', decide_eq_false_iff_not]
  exact fun e => h (e ▸ List.mem_map_of_mem hy)
set_option maxHeartbeats 8000000 in
set_option maxRecDepth 20000 in
theorem rdrop_fn (M : Mem) (ws : List Value) (w : Wd) (hw : RWd M ws w) (v : Value) (k : Bp) (hk : RBp M v k) (hfew : k.sups.length ≤ 5 ∧ k.reqs.length ≤ 5) (no : Int) :
  Fn0 Tryz.prog 23 [.agg ws.toArray, v, .int .i64 no] M (fun v M' => DropV w k no v M') := by
 have h11 := hw.len
 have hk0 := hk
 obtain ⟨As, cs, Ar, cr, Af, cf, Ad, cd, rfl, h1, h2, h3, h4⟩ := hk
 have hl2 := h2.len_le
 refine Fn.intro Tryz.func23 rfl rfl Tryz.ntmps23 rfl fun E F => ?_
 (repeat (first | ((with_reducible refine Tr.step rfl ?_); (first | (refine xaQ ?_) | ((with_reducible refine Knd.load ?_); (first | (refine xwQ ?_) | (refine Exec.stab rfl (Stab.loadW rfl (tysOk.get rfl) rfl (by repeat (first | exact Has.here | apply Has.there)) (by assumption)) rfl ?_))) | ((with_reducible refine Knd.box ?_); (refine Exec.box rfl rfl (fun b => ?_))) | ((with_reducible refine Knd.alloc ?_); (refine Exec.alloc (tysOk.get rfl) rfl rfl (fun b => ?_))))) | (with_reducible first | apply Tr.next | apply Tr.seq | apply Tr.region | apply Tr.nil)))
 rename_i b3 b4
 generalize b = b6
 ((refine Tr.step rfl ?_)); refine Exec.call0 rfl (rcheck31_fn M ws w hw _ k hk0 ⟨by omega, by omega⟩) rfl ?_
 rintro _ M1 hm1 rfl
 by_cases hok : okB w k
 rotate_left
 ·have e1 : chkE w k = 310 := by rw [chkE, if_neg hok]
  rw [e1]
  (repeat (first | ((with_reducible refine Tr.step rfl ?_); (first | (refine xmQ ?_) | (refine xaQ ?_) | (refine xiQ ?_) | (refine xWQ ?_) | ((with_reducible refine Knd.build ?_); (refine Exec.stab rfl (Stab.build tysOk rfl rfl rfl rfl (by repeat (exact BuildP.nil))) rfl ?_)))) | (with_reducible first | apply Tr.next | apply Tr.seq | apply Tr.region | apply Tr.nil | apply Tr.ret | apply Tr.then_ret) | (refine Tr.cond_t rfl (by first | (with_reducible assumption) | omega) ?_)))
  (refine Tr.done (by first | exact .inl rfl | exact .inr rfl) rfl (by repeat (first | exact RVs.nil | (apply RVs.cons; (first | exact RV.tmp rfl | exact RV.cellW (by rfl) (tysOk.get (by rfl)) (by rfl) (by repeat (first | exact Has.here | apply Has.there)) (by first | rfl | assumption))))) (by first | exact Mem.le.refl _ | assumption) (by exact ⟨[_, _, _], rfl⟩) ⟨rfl, ?_⟩)
  exact .inr ⟨fun h => hok h.1, rfl⟩
 have e1 : chkE w k = 0 := by rw [chkE, if_pos hok]
 rw [e1]
 (repeat (first | ((with_reducible refine Tr.step rfl ?_); (first | (refine xmQ ?_) | (refine xaQ ?_) | (refine xiQ ?_) | ((with_reducible refine Knd.buildSlice ?_); (refine Exec.buildSlice (tysOk.get rfl) rfl (tysOk.get rfl) rfl rfl rfl rfl rfl (by repeat (exact BuildP.nil)) rfl (fun b => ?_))))) | (with_reducible first | apply Tr.next | apply Tr.seq | apply Tr.region | apply Tr.nil | apply Tr.skip | apply Tr.block) | (refine Tr.cond_f rfl (by (with_reducible exact (not_not_intro rfl))) ?_)))
 refine Tr.box_own 6 0 (by repeat (first | exact Upd.here | apply Upd.there)) rfl (by intro u hu; cases hu) (by simp [maxLen]) ?_
 refine Tr.loop (α := Nat × Option Addr × Nat) (fun y => ⟨55, [(10, .int .i64 (y.1 : Int)), (9, .slice y.2.1 (lessR (k.reqs.take y.1) no).length y.2.2), (2, .int .i64 no), (3, .pointer (some ⟨b3, 0, none⟩)), (4, .pointer (some ⟨b4, 0, none⟩)), (6, .pointer (some ⟨b6, 0, none⟩))], [], M1, ownS 46 6 y.2.1 (lessR (k.reqs.take y.1) no).length y.2.2 ((lessR (k.reqs.take y.1) no).flatMap rqC) :: box b6 44 [.int .i64 0, .slice none 0 0, .slice none 0 0, .slice none 0 0, .slice none 0 0] :: box b4 44 [.int .i64 k.known, .slice As k.sups.length cs, .slice Ar k.reqs.length cr, .slice Af k.fits.length cf, .slice Ad k.rds.length cd] :: box b3 38 ws :: ([] ++ F)⟩)
  (fun y => y.1 ≤ k.reqs.length ∧ y.2.2 ≤ 9223372036854775807) (fun y => k.reqs.length - y.1) (0, _, 0) ⟨Nat.zero_le _, by simp⟩ hsQ (fun y hy => ?_)
 obtain ⟨i, A, c⟩ := y
 obtain ⟨hi, hc⟩ := hy
 simp only at hi hc
 dsimp only
 by_cases hlt : i < k.reqs.length
 ·obtain ⟨y, hy⟩ := get_of_lt hlt
  obtain ⟨hA, ch, hat, rfl⟩ := (h2.mono RRqC.mono hm1).elem hy
  simp only [rqC] at hat
  have hat2 : At M1 (((Ar.getD default).add (i * 6)).add 0) [.int .i64 y.no, .int .i64 y.item, .int .i64 y.cust, .int .i64 y.due, .int .i64 y.shelf, .int .i64 y.amount] := hat.drop 0
  have hlt2 := lessR_take (no := no) hy
  have hll := (less_sub (k.reqs.take i) no).length_le
  rw [List.length_take] at hll
  by_cases he : y.no ≠ no
  ·rw [if_neg he] at hlt2
   generalize hl0 : lessR (k.reqs.take i) no = l0 at hlt2 hll ⊢
   (repeat (first | ((with_reducible refine Tr.step rfl ?_); (first | (refine xmQ ?_) | ((with_reducible refine Knd.load ?_); (first | (refine xlQ ?_) | (refine xMQ ?_) | (refine Exec.stab rfl (Stab.loadMA rfl (tysOk.get rfl) rfl (by assumption) (by first | rfl | assumption)) rfl ?_))) | ((with_reducible refine Knd.fieldAddr ?_); (first | (refine xfQ ?_) | (refine Exec.stab rfl (Stab.fieldD rfl (tysOk.get rfl) rfl rfl (tysOk.get rfl) rfl) rfl ?_))) | (refine xnQ ?_) | (refine xiQ ?_) | (refine xxQ ?_) | ((with_reducible refine Knd.buildSlice ?_); (refine Exec.buildSlice (tysOk.get rfl) rfl (tysOk.get rfl) rfl rfl rfl rfl rfl (by repeat (first | exact BuildP.nil | ((apply BuildP.many); (rfl); (rfl); (rfl); (rfl); (repeat (first | exact PutL.nil | ((apply PutL.cons); (repeat (first | exact SetL.z | apply SetL.s)))))))) rfl (fun b => ?_))))) | (with_reducible first | apply Tr.next | apply Tr.seq | apply Tr.region | apply Tr.nil | apply Tr.skip | apply Tr.block) | (refine Tr.cond_t rfl (by first | (with_reducible assumption) | omega) ?_)))
   ((refine Tr.step rfl ?_))
   refine Exec.append (news := rqC y) rfl rfl (tysOk.get rfl) rfl (tysOk.get rfl) rfl rfl rfl rfl (by repeat (first | exact Del.here | apply Del.there)) (Src.box (by repeat (first | exact Has.here | apply Has.there))) rfl (rqC_one _) (by omega) (by omega) rfl (fun A3 c3 hc3 => ?_)
   refine gvQ (r := box _ 46 _) ?_
   rw [show l0.flatMap rqC ++ rqC y = (l0 ++ [y]).flatMap rqC by rw [List.flatMap_append]; simp, show l0.length + 1 = (l0 ++ [y]).length by simp]
   (refine rQ ?_)
   refine Tr.again (i + 1, A3, c3) ⟨by simp only; omega, hc3⟩ (by simp only; omega) (by simp only [hlt2]; exact hsQ)
  ·rw [if_pos (Classical.not_not.1 he)] at hlt2
   (refine rQ ?_)
   refine Tr.again (i + 1, A, c) ⟨by simp only; omega, hc⟩ (by simp only; omega) (by simp only [hlt2]; exact hsQ)
 have ei : i = k.reqs.length := by omega
 subst ei
 rw [List.take_length]
 by_cases he : (lessR k.reqs no).length = k.reqs.length
 ·have hno := lessR_all.1 he
  (repeat (first | ((with_reducible refine Tr.step rfl ?_); (first | (refine xmQ ?_) | (refine xaQ ?_) | (refine xlQ ?_) | (refine xfQ ?_) | (refine xnQ ?_) | (refine xiQ ?_) | (refine xWQ ?_) | ((with_reducible refine Knd.build ?_); (refine Exec.stab rfl (Stab.build tysOk rfl rfl rfl rfl (by repeat (exact BuildP.nil))) rfl ?_)))) | (with_reducible first | apply Tr.next | apply Tr.seq | apply Tr.region | apply Tr.nil | apply Tr.exit | apply Tr.ret | apply Tr.then_exit | apply Tr.then_ret) | ((with_reducible refine Tr.in_exit ?_ ?_); (exact rfl)) | (refine Tr.cond_t rfl (by first | (with_reducible assumption) | omega) ?_) | (refine Tr.cond_f rfl (by first | (with_reducible assumption) | omega) ?_)))
  (refine Tr.done (by first | exact .inl rfl | exact .inr rfl) rfl (by repeat (first | exact RVs.nil | (apply RVs.cons; (first | exact RV.tmp rfl | exact RV.cellW (by rfl) (tysOk.get (by rfl)) (by rfl) (by repeat (first | exact Has.here | apply Has.there)) (by first | rfl | assumption))))) (by first | exact Mem.le.refl _ | assumption) (by exact ⟨[_, _, _, _], rfl⟩) ⟨rfl, ?_⟩)
  exact .inr ⟨fun h => hno h.2, rfl⟩
 have hin : no ∈ k.reqs.map (·.no) := Classical.byContradiction fun h => he (lessR_all.2 h)
 have hokT := less_okT hok no
 generalize hl0 : lessR k.reqs no = l0 at he hokT ⊢
 refine pbQ (r := ownS 46 6 _ _ _ _) (fun M2 hm2 hok2 => ?_)
 have hR2 : SlOf 6 RRqC M2 (.slice A l0.length c) l0 := SlOf.ofOwn hok2 rfl hc (rqC_elems _ _)
 have hm02 := hm1.trans hm2
 (repeat (first | ((with_reducible refine Tr.step rfl ?_); (first | (refine xmQ ?_) | ((with_reducible refine Knd.load ?_); (first | (refine xlQ ?_) | (refine xwQ ?_) | (refine Exec.stab rfl (Stab.loadW rfl (tysOk.get rfl) rfl (by repeat (first | exact Has.here | apply Has.there)) (by assumption)) rfl ?_))) | (refine xfQ ?_) | (refine xnQ ?_) | (refine xiQ ?_))) | (with_reducible first | apply Tr.next | apply Tr.seq | apply Tr.region | apply Tr.nil | apply Tr.skip | apply Tr.exit | apply Tr.then_exit) | ((with_reducible refine Tr.in_exit ?_ ?_); (exact rfl)) | (refine Tr.cond_f rfl (by first | (with_reducible assumption) | omega) ?_)))
 ((refine Tr.step rfl ?_)); refine Exec.call0 rfl (rwith_fn M2 ws w (hw.mono hm02) k As cs (h1.mono RSpC.mono hm02) (.slice Ar k.reqs.length cr) (.slice Af k.fits.length cf) (.slice Ad k.rds.length cd) rfl rfl rfl A c l0 hR2) rfl ?_
 rintro _ M3 hm3 (⟨hnk, -⟩ | ⟨-, x, rfl, hx⟩)
 ·exact absurd hokT hnk
 obtain ⟨As', cs', Ar', cr', Af', cf', Ad', cd', rfl⟩ := hx.lit
 have hm03 := hm02.trans hm3
 (refine rQ ?_)
 (refine Tr.done (by first | exact .inl rfl | exact .inr rfl) rfl (by repeat (first | exact RVs.nil | (apply RVs.cons; (first | exact RV.tmp rfl | exact RV.cellW (by rfl) (tysOk.get (by rfl)) (by rfl) (by repeat (first | exact Has.here | apply Has.there)) (by first | rfl | assumption))))) (by first | exact Mem.le.refl _ | assumption) (by exact ⟨[_, _, _], rfl⟩) ⟨rfl, ?_⟩)
 refine .inl ⟨⟨hok, hin⟩, _, rfl, ?_⟩
 unfold dropB
 rw [hl0]
 exact hx
end Go.Proofs.YtmikfjcdgkopkaaGreat

/-
 Promises: the law PromisesEarliestSpec.
 Conditions: none.
-/
namespace Go.Proofs.YtmikfjcdgkopkaaGreat
open Go Bf
attribute [local irreducible] Tr Exec Stab HasTy Go.Addr.add IntKind.wrap
set_option maxHeartbeats 16000000 in
set_option maxRecDepth 20000 in
theorem earspec_fn (M : Mem) (ws : List Value) (w : Wd) (hw : RWd M ws w) (hfd : ∀ f ∈ w.facts, (-9223372036854775808 ≤ f.lo ∧ f.lo ≤ 9223372036854775807) ∧ (-9223372036854775808 ≤ f.hi ∧ f.hi ≤ 9223372036854775807)) (v : Value) (k : Bp) (hk : RBp M v k) (r : Rq) (no : Int) :
  Fn0 Tryz.prog 4 [.agg ws.toArray, v, .agg #[.int .i64 r.no, .int .i64 r.item, .int .i64 r.cust, .int .i64 r.due, .int .i64 r.shelf, .int .i64 r.amount], .int .i64 no] M (fun v _ => v = .bool true) := by
 have h11 := hw.len
 obtain ⟨As, cs, Ar, cr, Af, cf, Ad, cd, rfl, h1, h2, h3, h4⟩ := id hk
 have hfc : k.fits.length ≤ 9223372036854775807 := h3.len_le
 refine Fn.intro Tryz.func4 rfl rfl Tryz.ntmps4 rfl fun E F => ?_
 (repeat (first | ((with_reducible refine Tr.step rfl ?_); (first | (refine xaQ ?_) | ((with_reducible refine Knd.box ?_); (refine Exec.box rfl rfl (fun b => ?_))))) | (with_reducible first | apply Tr.next | apply Tr.seq | apply Tr.region | apply Tr.nil)))
 rename_i b4 b5
 generalize b = b6
 ((refine Tr.step rfl ?_)); refine Exec.call0 rfl (sane31_fn M) rfl ?_
 rintro _ M1 hm1 rfl
 (repeat (first | ((with_reducible refine Tr.step rfl ?_); (first | ((with_reducible refine Knd.load ?_); (first | (refine xwQ ?_) | (refine Exec.stab rfl (Stab.loadW rfl (tysOk.get rfl) rfl (by repeat (first | exact Has.here | apply Has.there)) (by assumption)) rfl ?_))) | ((with_reducible refine Knd.unOp ?_); (refine Exec.stab rfl (Stab.not rfl) rfl ?_)))) | (with_reducible first | apply Tr.next | apply Tr.seq | apply Tr.region | apply Tr.nil | apply Tr.skip) | (refine Tr.cond_bf rfl (by first | (with_reducible rfl) | (with_reducible exact Bool.not_true)) ?_)))
 ((refine Tr.step rfl ?_)); refine Exec.call0 rfl (few31_fn M1 ws w (hw.mono hm1) _ k (hk.mono hm1)) rfl ?_
 rintro _ _ hm ⟨⟨q, rfl, hq⟩, rfl⟩
 cases q
 ·(refine rQ ?_)
  (refine dnQ (hL := by exact ⟨[_, _, _], rfl⟩) ⟨rfl, ?_⟩)
  rfl
 have hfew := hq rfl
 clear hq
 have hfr : k.sups.length ≤ 5 ∧ k.reqs.length ≤ 5 := ⟨hfew.sl, hfew.rl⟩
 have hfb : FBnd w := ⟨by have := hfew.fa; omega, hfd⟩
 (repeat (first | ((with_reducible refine Tr.step rfl ?_); (first | ((with_reducible refine Knd.load ?_); (first | (refine xwQ ?_) | (refine Exec.stab rfl (Stab.loadW rfl (tysOk.get rfl) rfl (by repeat (first | exact Has.here | apply Has.there)) (by assumption)) rfl ?_))) | ((with_reducible refine Knd.unOp ?_); (refine Exec.stab rfl (Stab.not rfl) rfl ?_)))) | (with_reducible first | apply Tr.next | apply Tr.seq | apply Tr.region | apply Tr.nil | apply Tr.skip) | (refine Tr.cond_bf rfl (by first | (with_reducible rfl) | (with_reducible exact Bool.not_true)) ?_)))
 ((refine Tr.step rfl ?_)); refine Exec.call0 rfl (earliest_fn M1 ws w (hw.mono hm1) hfb _ k (hk.mono hm1) hfc r) rfl ?_
 rintro _ M2 hm2 he1
 have hm02 := hm1.trans hm2
 obtain ⟨d, o, rfl⟩ := he1.lit
 (repeat (first | ((with_reducible refine Tr.step rfl ?_); (first | (refine xmQ ?_) | (refine xaQ ?_) | ((with_reducible refine Knd.load ?_); (first | (refine xwQ ?_) | (refine Exec.stab rfl (Stab.loadW rfl (tysOk.get rfl) rfl (by repeat (first | exact Has.here | apply Has.there)) (by assumption)) rfl ?_))) | ((with_reducible refine Knd.extract ?_); (refine Exec.stab rfl (Stab.extract rfl rfl) rfl ?_)))) | (with_reducible first | apply Tr.next | apply Tr.seq | apply Tr.region | apply Tr.nil)))
 ((refine Tr.step rfl ?_)); refine Exec.call0 rfl (rearliest_fn M2 ws w (hw.mono hm02) _ k (hk.mono hm02) hfr r) rfl ?_
 rintro _ M3 hm3 he2
 have hm03 := hm02.trans hm3
 obtain rfl := he1.unique he2
 (repeat (first | ((with_reducible refine Tr.step rfl ?_); (first | (refine xmQ ?_) | (refine xaQ ?_) | ((with_reducible refine Knd.load ?_); (first | (refine xwQ ?_) | (refine Exec.stab rfl (Stab.loadW rfl (tysOk.get rfl) rfl (by repeat (first | exact Has.here | apply Has.there)) (by assumption)) rfl ?_))) | ((with_reducible refine Knd.extract ?_); (refine Exec.stab rfl (Stab.extract rfl rfl) rfl ?_)))) | (with_reducible first | apply Tr.next | apply Tr.seq | apply Tr.region | apply Tr.nil)))
 ((refine Tr.step rfl ?_)); refine Exec.call0 rfl (drop_fn M3 ws w (hw.mono hm03) _ k (hk.mono hm03) hfc no) rfl ?_
 rintro _ M4 hm4 hd1
 obtain ⟨x1, rfl, hx1⟩ := hd1.one
 have hm04 := hm03.trans hm4
 obtain ⟨y1, y2, y3, y4, y5, y6, y7, y8, rfl⟩ := hx1.lit
 (repeat (first | ((with_reducible refine Tr.step rfl ?_); (first | (refine xmQ ?_) | (refine xaQ ?_) | ((with_reducible refine Knd.load ?_); (first | (refine xwQ ?_) | (refine Exec.stab rfl (Stab.loadW rfl (tysOk.get rfl) rfl (by repeat (first | exact Has.here | apply Has.there)) (by assumption)) rfl ?_))) | (refine xWQ ?_) | ((with_reducible refine Knd.alloc ?_); (refine Exec.alloc (tysOk.get rfl) rfl rfl (fun b => ?_))) | ((with_reducible refine Knd.extract ?_); (refine Exec.stab rfl (Stab.extract rfl rfl) rfl ?_)))) | (with_reducible first | apply Tr.next | apply Tr.seq | apply Tr.region | apply Tr.nil)))
 ((refine Tr.step rfl ?_)); refine Exec.call0 rfl (rdrop_fn M4 ws w (hw.mono hm04) _ k (hk.mono hm04) hfr no) rfl ?_
 rintro _ M5 hm5 hd2
 obtain ⟨x2, rfl, hx2⟩ := hd2.one
 have hm05 := hm04.trans hm5
 obtain ⟨z1, z2, z3, z4, z5, z6, z7, z8, rfl⟩ := hx2.lit
 (repeat (first | ((with_reducible refine Tr.step rfl ?_); (first | (refine xmQ ?_) | (refine xaQ ?_) | (refine xiQ ?_) | ((with_reducible refine Knd.pick ?_); (refine Exec.stab rfl (Stab.pick_td rfl (by (with_reducible rfl)) rfl) rfl ?_)) | (refine xWQ ?_) | ((with_reducible refine Knd.alloc ?_); (refine Exec.alloc (tysOk.get rfl) rfl rfl (fun b => ?_))) | ((with_reducible refine Knd.extract ?_); (refine Exec.stab rfl (Stab.extract rfl rfl) rfl ?_)))) | (with_reducible first | apply Tr.next | apply Tr.seq | apply Tr.region | apply Tr.nil) | ((refine Tr.guard_y rfl rfl rfl (by (with_reducible rfl)) ?_); (first | (refine xmQ ?_) | (refine xwQ ?_) | ((with_reducible refine Knd.binOp ?_); (first | (refine xiQ ?_) | (refine Exec.stab rfl (Stab.booleq rfl rfl (tysOk.get rfl) rfl) rfl ?_)))))))
 ((refine Tr.guard_y rfl rfl rfl (by (with_reducible rfl)) ?_)); refine Exec.call0 rfl (sameB_fn M5 _ _ (dropK w k no) (dropK w k no) (hx1.mono hm5) hx2) rfl ?_
 rintro _ _ hm ⟨⟨q, rfl, hq⟩, rfl⟩
 obtain rfl := hq.2 rfl
 (refine rQ ?_)
 (refine dnQ (hL := by exact ⟨[_, _, _, _, _], rfl⟩) ⟨rfl, ?_⟩)
 show Value.bool (decide (dropE w k no = dropE w k no)) = _
 rw [decide_eq_true rfl]
end Go.Proofs.YtmikfjcdgkopkaaGreat

/-
 Promises: the row of PromisesEarliestSpec.
 Conditions: none.
-/
namespace Go.Proofs.YtmikfjcdgkopkaaGreat
open Go Bf
open Go.ChangeShapes Go.WideShapes Go.ChangeAt Go.RowKit
set_option maxRecDepth 100000 in
theorem earspec_lifted (os : Os) (started : os.Started) (H : Type) (enc : TypeId × Value → H) :
  ReturnsInHanded {} Tryz.checked os 4 .any (Rows.promisesEarliestSpecSpec.pre6 enc Tryz.prog Tryz.f4 Rows.promisesEarliestSpecRow.domain false) (Rows.promisesEarliestSpecSpec.post enc Tryz.prog Tryz.f4 false true false false) :=
 lift_true (C := Tryz.checked) (ts := [38, 44, 46, 3]) (tb := 4) started ownT' (by kernel_rfl) Tryz.func4
  (ChangeSpec.witness6 (enc := enc) (C := Tryz.checked) false ⟨#[], #[.agg #[.slice none 0 0, .slice none 0 0, .slice none 0 0, .slice none 0 0, .slice none 0 0, .slice none 0 0, .slice none 0 0, .slice none 0 0, .slice none 0 0, .slice none 0 0, .slice none 0 0], .agg #[.int .i64 0, .slice none 0 0, .slice none 0 0, .slice none 0 0, .slice none 0 0], .agg #[.int .i64 0, .int .i64 0, .int .i64 0, .int .i64 0, .int .i64 0, .int .i64 0], .int .i64 0], []⟩ 8 (by kernel_rfl) (by kernel_rfl) (by kernel_rfl) (by kernel_rfl))
  (by rw [Tryz.params4]) laidT' (by kernel_rfl) rfl (fun ds h => match ds, h with | [_, _, _, _], _ => rfl) rfl Tryz.underlying4
  (fun W base vs hl ha => by
   obtain ⟨v0, v1, v2, v3, rfl⟩ := len4 hl
   obtain ⟨ws, w, rfl, hw, hfd⟩ := arg_world (ha 0 38 v0 rfl rfl)
   obtain ⟨k, hk⟩ := arg_book (ha 1 44 v1 rfl rfl)
   obtain ⟨r, rfl, hr⟩ := arg_req (ha 2 46 v2 rfl rfl)
   obtain ⟨y, rfl, hy⟩ := arg_int (ha 3 3 v3 rfl rfl)
   exact earspec_fn _ ws w hw hfd v1 k hk r y)
theorem promisesEarliestSpec_holds : Rows.PromisesEarliestSpecSaid :=
 OpenClaim.holds_of_wide 4 Tryz.f4 rfl rfl rfl rfl rfl rfl rfl ⟨rfl, rfl, rfl, rfl, rfl⟩ rfl rfl rfl rfl rfl (by kernel_rfl) Tryz.func4 (by kernel_rfl)
  (of_decide_eq_true (by kernel_rfl)) (by unfold Func.isWrapper; first | (rw [if_pos (by decide +kernel)]; kernel_rfl) | (rw [if_neg (by decide +kernel)]; exact ⟨rfl, rfl⟩))
  (fun os started H enc _ => earspec_lifted os started H enc)
end Go.Proofs.YtmikfjcdgkopkaaGreat

