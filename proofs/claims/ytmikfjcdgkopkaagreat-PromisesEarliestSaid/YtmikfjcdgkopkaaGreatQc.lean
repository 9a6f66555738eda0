/-
  Texts of the proof, one after the other.
  Conditions: none.
-/
import Derived.Test.YtmikfjcdgkopkaaGreatQBfPanM
import Derived.Test.YtmikfjcdgkopkaaGreatQBfLend
import Derived.Test.YtmikfjcdgkopkaaGreatQBfTake
import Derived.Test.YtmikfjcdgkopkaaGreatQBfDelN
import Derived.Test.YtmikfjcdgkopkaaGreatQXs
import Derived.Test.YtmikfjcdgkopkaaGreatQb
/-
 Refusals: excluding and without.
 Conditions: none.
-/
namespace Go.Proofs.YtmikfjcdgkopkaaGreat
open Go Bf
attribute [local irreducible] Tr Exec Stab HasTy Go.Addr.add IntKind.wrap
def kyI (y : Ky) : List Int := [y.1, y.2.1, y.2.2]
theorem kyI_inj {a b : Ky} (h : ints (kyI a) = ints (kyI b)) : a = b := by
 have := ints_inj h
 obtain ⟨a1, a2, a3⟩ := a
 obtain ⟨b1, b2, b3⟩ := b
 simp only [kyI, List.cons.injEq, and_true] at this
 obtain ⟨rfl, rfl, rfl⟩ := this
 rfl
def MapKy (es : List MapEntry) (l : List Ky) : Prop := KeysIn (IntsN 3) es ∧ ∀ y : Ky, valV (ints (kyI y)) es = if y ∈ l then some (.bool true) else none
theorem MapKy.nil : MapKy [] [] := ⟨KeysIn.nil, fun y => by simp [valV, lookV]⟩
theorem MapKy.add {es : List MapEntry} {l : List Ky} (h : MapKy es l) (y : Ky) (cl : Nat) : MapKy (updV (ints (kyI y)) (.bool true) es cl).1 (l ++ [y]) := by
 classical
 refine ⟨updV_keys h.1 ⟨kyI y, rfl, rfl⟩, fun z => ?_⟩
 rw [updV_val, h.2 z]
 by_cases e : z = y
 ·subst e; simp
 ·have : ¬ ints (kyI z) = ints (kyI y) := fun h => e (kyI_inj h)
  simp [this, e]
theorem allOne_head {v : Value} {l : List Value} (h : AllOne (v :: l)) : v.oneCell' = true ∧ AllOne l := by
 cases h with
 | cons h t => exact ⟨h, t⟩
theorem RWd.lit {M : Mem} {ws : List Value} {w : Wd} (h : RWd M ws w) : ∃ u0 u1 u2 u3 u4 u5 u6 u8 u9 A7 c7 A10 c10, ws = [u0, u1, u2, u3, u4, u5, u6, .slice A7 w.swaps.length c7, u8, u9, .slice A10 w.facts.length c10] ∧ (u0.oneCell' = true ∧ u1.oneCell' = true ∧ u2.oneCell' = true ∧ u3.oneCell' = true ∧ u4.oneCell' = true ∧ u5.oneCell' = true ∧ u6.oneCell' = true ∧ u8.oneCell' = true ∧ u9.oneCell' = true) ∧
  SlOf 4 RSw M (.slice A7 w.swaps.length c7) w.swaps ∧ SlOf 8 RFc M (.slice A10 w.facts.length c10) w.facts := by
 obtain ⟨h11, hone, ⟨A7, c7, h7, hsw⟩, A10, c10, h10, hfa⟩ := h
 match ws, h11 with
 | [u0, u1, u2, u3, u4, u5, u6, u7, u8, u9, u10], _ =>
  simp only [nthL, Option.some.injEq] at h7 h10
  subst h7 h10
  obtain ⟨o0, hone⟩ := allOne_head hone
  obtain ⟨o1, hone⟩ := allOne_head hone
  obtain ⟨o2, hone⟩ := allOne_head hone
  obtain ⟨o3, hone⟩ := allOne_head hone
  obtain ⟨o4, hone⟩ := allOne_head hone
  obtain ⟨o5, hone⟩ := allOne_head hone
  obtain ⟨o6, hone⟩ := allOne_head hone
  obtain ⟨-, hone⟩ := allOne_head hone
  obtain ⟨o8, hone⟩ := allOne_head hone
  obtain ⟨o9, hone⟩ := allOne_head hone
  exact ⟨u0, u1, u2, u3, u4, u5, u6, u8, u9, A7, c7, A10, c10, rfl, ⟨o0, o1, o2, o3, o4, o5, o6, o8, o9⟩, hsw, hfa⟩
end Go.Proofs.YtmikfjcdgkopkaaGreat

/-
 Refusals: Facts, the walk.
 Conditions: none.
-/
namespace Go.Proofs.YtmikfjcdgkopkaaGreat
open Go Bf
attribute [local irreducible] Tr Exec Stab HasTy Go.Addr.add IntKind.wrap
theorem askE_zero {w : Wd} {k : Bp} {r : Rq} (h : askE w k r = 0) : okB w k ∧ r.no ∉ k.reqs.map (·.no) ∧ okT k.sups (k.reqs ++ [r]) := by
 unfold askE at h
 split at h
 ·cases h
 ·rename_i h1
  have h1 := Classical.not_not.1 h1
  split at h
  ·cases h
  ·rename_i h2
   split at h
   ·cases h
   ·rename_i h3
    rw [not_or] at h3
    exact ⟨h1, h2, (okT_app h1.2.1).2 ⟨Classical.not_not.1 h3.1, by omega⟩⟩
end Go.Proofs.YtmikfjcdgkopkaaGreat

/-
 Promises: Earliest, the work.
 Conditions: none.
-/
namespace Go.Proofs.YtmikfjcdgkopkaaGreat
open Go Bf
attribute [local irreducible] Tr Exec Stab HasTy Go.Addr.add IntKind.wrap
def EarP (w : Wd) (k : Bp) (r : Rq) (day : Int) (ok : Bool) : Prop :=
 (ok = true ∧ (r.due ≤ day ∧ day < 1024) ∧ canF w k r day ∧ ∀ d, matters w k r d → r.due ≤ d → d < day → ¬ canF w k r d) ∨ (ok = false ∧ day = 0 ∧ ∀ d, matters w k r d → r.due ≤ d → d < 1024 → ¬ canF w k r d)
def FBnd (w : Wd) : Prop := w.facts.length ≤ 1000 ∧ ∀ f ∈ w.facts, (-9223372036854775808 ≤ f.lo ∧ f.lo ≤ 9223372036854775807) ∧ (-9223372036854775808 ≤ f.hi ∧ f.hi ≤ 9223372036854775807)
theorem matters_bnd {w : Wd} {k : Bp} {r : Rq} (hf : FBnd w) (h : okT k.sups (k.reqs ++ [r])) : ∀ d, matters w k r d → -9223372036854775808 ≤ d ∧ d ≤ 9223372036854775807 := by
 rintro d (rfl | ⟨s, hs, rfl⟩ | ⟨f, hf1, -, rfl | rfl⟩)
 ·have := (h.2.2 r (by simp)).2.2.2.1; omega
 ·have := (h.2.1 s hs).2.2.2.1; omega
 ·exact (hf.2 f hf1).1
 ·exact (hf.2 f hf1).2
set_option maxHeartbeats 8000000 in
set_option maxRecDepth 20000 in
theorem earliest1c_fn (M : Mem) (ws : List Value) (w : Wd) (hw : RWd M ws w) (hfb : FBnd w) (k : Bp) (As Ar Af Ad : Option Addr) (cs cr cf cd : Nat) (h1 : SlOf 6 RSpC M (.slice As k.sups.length cs) k.sups) (h2 : SlOf 6 RRqC M (.slice Ar k.reqs.length cr) k.reqs) (h3 : Fits2 M (.slice Af k.fits.length cf) k.fits) (h4 : SlOf 5 RRd M (.slice Ad k.rds.length cd) k.rds) (hfc : cf ≤ 9223372036854775807) (r : Rq) (b3 b4 b5 b6 b7 : Nat) :
  FnP Tryz.prog 51 [.pointer (some ⟨b3, 0, none⟩), .pointer (some ⟨b4, 0, none⟩), .pointer (some ⟨b5, 0, none⟩), .pointer (some ⟨b6, 0, none⟩), .pointer (some ⟨b7, 0, none⟩)] M [box b3 38 ws, box b4 44 [.int .i64 k.known, .slice As k.sups.length cs, .slice Ar k.reqs.length cr, .slice Af k.fits.length cf, .slice Ad k.rds.length cd], box b5 46 [.int .i64 r.no, .int .i64 r.item, .int .i64 r.cust, .int .i64 r.due, .int .i64 r.shelf, .int .i64 r.amount], box b6 3 [.int .i64 0], box b7 4 [.bool false]]
   (fun _ _ A' => askE w k r = 0 ∧ ∃ day ok, A' = [box b6 3 [.int .i64 day], box b7 4 [.bool ok]] ∧ EarP w k r day ok) (fun ch _ A' => ∃ e, ch = prCh e ∧ A' = [box b6 3 [.int .i64 0], box b7 4 [.bool false]] ∧ askE w k r = e ∧ e ≠ 0) := by
 have h11 := hw.len
 refine FnP.introM Tryz.func51 rfl rfl Tryz.ntmps51 rfl fun E F => ?_
 (repeat (first | ((with_reducible refine Tr.step rfl ?_); (with_reducible refine Knd.load ?_); (first | (refine xwQ ?_) | (refine Exec.stab rfl (Stab.loadW rfl (tysOk.get rfl) rfl (by repeat (first | exact Has.here | apply Has.there)) (by assumption)) rfl ?_))) | (with_reducible first | apply Tr.seq | apply Tr.region)))
 ((refine Tr.step rfl ?_))
 refine Exec.callP rfl (check_fn M ws w hw k As Ar Af Ad cs cr cf cd h1 h2 h3 h4 hfc) (List.Perm.refl _) rfl (fun v M' A' hm hR => ?_) (fun ch M' A' hm hR => ?_)
 rotate_left
 ·obtain ⟨rfl, rfl, hn⟩ := hR
  (repeat ((with_reducible refine Tr.then_panic ?_)))
  exact Tr.donePM (A' := [box b6 3 [.int .i64 0], box b7 4 [.bool false]]) hm (by repeat (first | exact DropL.refl | apply DropL.skip)) ⟨310, rfl, rfl, by rw [askE, if_pos hn], by decide⟩
 obtain ⟨rfl, hv⟩ := hR
 (repeat (first | ((with_reducible refine Tr.step rfl ?_); (with_reducible refine Knd.load ?_); (first | (refine xwQ ?_) | (refine Exec.stab rfl (Stab.loadW rfl (tysOk.get rfl) rfl (by repeat (first | exact Has.here | apply Has.there)) (by assumption)) rfl ?_))) | (with_reducible first | apply Tr.next | apply Tr.seq | apply Tr.region | apply Tr.nil)))
 ((refine Tr.step rfl ?_))
 refine Exec.callP rfl (ask_fn M' ws w (hw.mono hm) k As Ar Af Ad cs cr cf cd (h1.mono RSpC.mono hm) (h2.mono RRqC.mono hm) (h3.mono RRowB.mono hm) (h4.mono RRd.mono hm) hv r) (List.Perm.refl _) rfl (fun v M2 A' hm2 hR => ?_) (fun ch M2 A' hm2 hR => ?_)
 rotate_left
 ·obtain ⟨e, rfl, rfl, he, hne⟩ := hR
  (repeat ((with_reducible refine Tr.then_panic ?_)))
  exact Tr.donePM (A' := [box b6 3 [.int .i64 0], box b7 4 [.bool false]]) (hm.trans hm2) (by repeat (first | exact DropL.refl | apply DropL.skip)) ⟨e, rfl, rfl, he, hne⟩
 obtain ⟨rfl, hask, x, a, rfl, -⟩ := hR
 have hokT := (askE_zero hask).2.2
 have hm02 := hm.trans hm2
 have hw2 := hw.mono hm02
 have g1 := h1.mono RSpC.mono hm02
 have g2 := h2.mono RRqC.mono hm02
 have g3 := h3.mono RRowB.mono hm02
 have g4 := h4.mono RRd.mono hm02
 (repeat (first | ((with_reducible refine Tr.step rfl ?_); (with_reducible refine Knd.load ?_); (first | (refine xwQ ?_) | (refine Exec.stab rfl (Stab.loadW rfl (tysOk.get rfl) rfl (by repeat (first | exact Has.here | apply Has.there)) (by assumption)) rfl ?_))) | (with_reducible first | apply Tr.next | apply Tr.seq | apply Tr.region | apply Tr.nil)))
 ((refine Tr.step rfl ?_))
 refine Exec.call (A := []) rfl (maker_fn M2 ws k As Ar Af Ad cs cr cf cd) (List.Perm.refl _) rfl ?_
 rintro _ _ _ _ ⟨b8, b9, rfl, rfl, rfl⟩
 (repeat (first | ((with_reducible refine Tr.step rfl ?_); (first | ((with_reducible refine Knd.load ?_); (first | (refine xwQ ?_) | (refine Exec.stab rfl (Stab.loadW rfl (tysOk.get rfl) rfl (by repeat (first | exact Has.here | apply Has.there)) (by assumption)) rfl ?_))) | (refine xSQ ?_) | ((with_reducible refine Knd.alloc ?_); (refine Exec.alloc1 (tysOk.get rfl) rfl rfl rfl (fun b => ?_))))) | (with_reducible first | apply Tr.next | apply Tr.seq | apply Tr.region | apply Tr.nil)))
 ((refine Tr.step rfl ?_))
 refine Exec.call (A := []) rfl (days_fn M2 ws w hw2 k As Ar Af Ad cs cr cf cd g1 g2 g3 g4 r) (List.Perm.refl _) rfl ?_
 rintro _ _ _ _ ⟨rfl, c5, c7, mb, es, cl, rfl, rfl, hday⟩
 (repeat (first | (with_reducible first | apply Tr.next | apply Tr.nil | apply Tr.block)))
 generalize b = bm
 simp only [List.cons_append, List.nil_append]
 refine Tr.rangeFunc' (A := [box c7 137 [.map (some mb)], mapR mb es cl, box c5 46 [.int .i64 r.no, .int .i64 r.item, .int .i64 r.cust, .int .i64 r.due, .int .i64 r.shelf, .int .i64 r.amount], box bm 91 [.func (.func 75) #[] #[.pointer (some ⟨b8, 0, none⟩), .pointer (some ⟨b9, 0, none⟩)]], box b9 44 [.int .i64 k.known, .slice As k.sups.length cs, .slice Ar k.reqs.length cr, .slice Af k.fits.length cf, .slice Ad k.rds.length cd], box b8 38 ws, box b3 38 ws, box b4 44 [.int .i64 k.known, .slice As k.sups.length cs, .slice Ar k.reqs.length cr, .slice Af k.fits.length cf, .slice Ad k.rds.length cd], box b5 46 [.int .i64 r.no, .int .i64 r.item, .int .i64 r.cust, .int .i64 r.due, .int .i64 r.shelf, .int .i64 r.amount], box b6 3 [.int .i64 0], box b7 4 [.bool false]])
  (Rf := fun o _ A'' => ∃ day ok, A'' = [box bm 91 [.func (.func 75) #[] #[.pointer (some ⟨b8, 0, none⟩), .pointer (some ⟨b9, 0, none⟩)]], box b9 44 [.int .i64 k.known, .slice As k.sups.length cs, .slice Ar k.reqs.length cr, .slice Af k.fits.length cf, .slice Ad k.rds.length cd], box b8 38 ws, box b3 38 ws, box b4 44 [.int .i64 k.known, .slice As k.sups.length cs, .slice Ar k.reqs.length cr, .slice Af k.fits.length cf, .slice Ad k.rds.length cd], box b5 46 [.int .i64 r.no, .int .i64 r.item, .int .i64 r.cust, .int .i64 r.due, .int .i64 r.shelf, .int .i64 r.amount], box b6 3 [.int .i64 day], box b7 4 [.bool ok]] ∧ EarP w k r day ok ∧ o = if ok = true then some .ret else none) rfl (List.Perm.refl _) (fun lab dd lp p1 p2 p3 p4 p5 hfit => ?_) (fun dd M' A'' hm => ⟨?_, ?_⟩)
 ·refine Bf.Fn.mono (days1_fn M2 lab c5 c7 mb cl _ r es (matters w k r) hday (by have := hfb.1; have := hv.2.1.1.1; omega) (matters_bnd hfb hokT)
   [loopR lab lp, defR dd, box bm 91 [.func (.func 75) #[] #[.pointer (some ⟨b8, 0, none⟩), .pointer (some ⟨b9, 0, none⟩)]], box b9 44 [.int .i64 k.known, .slice As k.sups.length cs, .slice Ar k.reqs.length cr, .slice Af k.fits.length cf, .slice Ad k.rds.length cd], box b8 38 ws, box b3 38 ws, box b4 44 [.int .i64 k.known, .slice As k.sups.length cs, .slice Ar k.reqs.length cr, .slice Af k.fits.length cf, .slice Ad k.rds.length cd], box b5 46 [.int .i64 r.no, .int .i64 r.item, .int .i64 r.cust, .int .i64 r.due, .int .i64 r.shelf, .int .i64 r.amount], box b6 3 [.int .i64 0], box b7 4 [.bool false]] _ (List.perm_append_comm_assoc [_, _, _] [_, _] _) (fun d => ¬ canF w k r d)
   (fun d _ A'' => canF w k r d ∧ A'' = [loopR lab { lp with state := .done, pending := some .ret }, defR dd, box bm 91 [.func (.func 75) #[] #[.pointer (some ⟨b8, 0, none⟩), .pointer (some ⟨b9, 0, none⟩)]], box b9 44 [.int .i64 k.known, .slice As k.sups.length cs, .slice Ar k.reqs.length cr, .slice Af k.fits.length cf, .slice Ad k.rds.length cd], box b8 38 ws, box b3 38 ws, box b4 44 [.int .i64 k.known, .slice As k.sups.length cs, .slice Ar k.reqs.length cr, .slice Af k.fits.length cf, .slice Ad k.rds.length cd], box b5 46 [.int .i64 r.no, .int .i64 r.item, .int .i64 r.cust, .int .i64 r.due, .int .i64 r.shelf, .int .i64 r.amount], box b6 3 [.int .i64 d], box b7 4 [.bool true]]) ?_) (fun v M' A' hm hR => ?_)
  ·intro M1 d hm1 hmat hd1 hd2
   have hm01 := hm02.trans hm1
   have hw1 := hw.mono hm01
   refine Yl.intro (ps := [24]) p3 rfl (by simp) hfit (by repeat (first | exact Has.here | apply Has.there)) (fun E F => ?_)
   rw [p4, p5]
   (refine rQ ?_)
   refine Tr.begin (by repeat (first | exact Upd.here | apply Upd.there)) p1 ?_
   (repeat (first | ((with_reducible refine Tr.step rfl ?_); (first | (refine xmQ ?_) | ((with_reducible refine Knd.load ?_); (first | (refine xlQ ?_) | (refine xwQ ?_))) | (refine xfQ ?_) | ((with_reducible refine Knd.store ?_); (first | (refine xSQ ?_) | (refine xWQ ?_))) | ((with_reducible refine Knd.alloc ?_); (refine Exec.alloc (tysOk.get rfl) rfl rfl (fun b => ?_))) | ((with_reducible refine Knd.buildSlice ?_); (refine Exec.buildSlice (tysOk.get rfl) rfl (tysOk.get rfl) rfl rfl rfl rfl rfl (by repeat (first | exact BuildP.nil | ((apply BuildP.many); (rfl); (rfl); (rfl); (rfl); (repeat (first | exact PutL.nil | ((apply PutL.cons); (repeat (first | exact SetL.z | apply SetL.s)))))))) rfl (fun b => ?_))))) | (with_reducible first | apply Tr.next | apply Tr.seq | apply Tr.region | apply Tr.nil | apply Tr.block)))
   rename_i bt
   generalize b = bs
   refine pbQ (r := box bs 46 _) (fun M3 hm3 hokb => ?_)
   have hokb : (box bs 46 (rqC (onDay r d))).ok M3 := hokb
   have hone : SlOf 6 RRqC M3 (.slice (some ⟨bs, 0, none⟩) 1 1) [onDay r d] := SlOf.ofBoxC (n := 1) (c := 1) (xs := [onDay r d]) hokb rfl rfl (Nat.le_refl _) (by decide) (rqC_one _) (rqC_elems M3 [onDay r d])
   have hm03 := hm01.trans hm3
   have hr0 := hokT.2.2 r (by simp)
   have hrd : okRq (onDay r d) := ⟨hr0.1, hr0.2.1, hr0.2.2.1, ⟨by have := hr0.2.2.2.1.1; show 0 ≤ d; omega, by show d ≤ 1023; omega⟩, hr0.2.2.2.2⟩
   have hlen := hokT.1.2
   have hokD : okT k.sups (k.reqs ++ [onDay r d]) := (okT_app hv.2.1).2 ⟨hrd, by simpa using hlen⟩
   ((refine Tr.step rfl ?_))
   refine Exec.callv (first := []) (cap := [.pointer (some ⟨b8, 0, none⟩), .pointer (some ⟨b9, 0, none⟩)]) (A := [box b9 44 [.int .i64 k.known, .slice As k.sups.length cs, .slice Ar k.reqs.length cr, .slice Af k.fits.length cf, .slice Ad k.rds.length cd], box b8 38 ws]) rfl rfl (maker1_fn M3 ws w (hw.mono hm03) k As Ar Af Ad cs cr cf cd (h1.mono RSpC.mono hm03) (h2.mono RRqC.mono hm03) (h3.mono RRowB.mono hm03) (h4.mono RRd.mono hm03) b8 b9 (some ⟨bs, 0, none⟩) 1 [onDay r d] hone) (take2 (by repeat (first | exact Del.here | apply Del.there)) (by repeat (first | exact Del.here | apply Del.there))) rfl ?_
   rintro v M4 _ hm4 ⟨rfl, hmk⟩
   have hm04 := hm03.trans hm4
   rcases hmk with ⟨hnk, rfl⟩ | ⟨-, z, rfl, A1, c1, A2, c2, A3, c3, D, cD, rfl, q1, q2, q3, q4⟩
   ·exact absurd ⟨⟨hokT.1.1, by simp⟩, hokT.2.1, fun y hy => by simp at hy; subst hy; exact hrd⟩ hnk
   dsimp only [mkF] at q1 q2 q3 q4 ⊢
   have e3 : (fitsT w k.known k.sups [onDay r d]).length = k.sups.length := by simp [fitsT]
   rw [e3] at q3 ⊢
   (repeat (first | ((with_reducible refine Tr.step rfl ?_); (first | (refine xmQ ?_) | (refine xaQ ?_) | (refine xWQ ?_) | ((with_reducible refine Knd.alloc ?_); (refine Exec.alloc (tysOk.get rfl) rfl rfl (fun b => ?_))) | ((with_reducible refine Knd.extract ?_); (refine Exec.stab rfl (Stab.extract rfl rfl) rfl ?_)))) | (with_reducible first | apply Tr.next | apply Tr.seq | apply Tr.region | apply Tr.nil)))
   ((refine Tr.step rfl ?_)); refine Exec.call0 rfl (must_y M4) rfl ?_
   rintro _ _ _ rfl
   (refine rQ ?_)
   ((refine Tr.step rfl ?_)); refine Exec.call0 rfl (with_fn M4 w k As Ar Af Ad cs cr cf cd (h1.mono RSpC.mono hm04) (h2.mono RRqC.mono hm04) (h3.mono RRowB.mono hm04) (h4.mono RRd.mono hm04) hv (onDay r d) A1 A2 A3 D c1 c2 c3 cD _ q2 q3) rfl ?_
   rintro _ M5 hm5 ⟨A5, c5', A6, c6, A7, c7', A8, c8, rfl, t1, t2, t3, t4⟩
   dsimp only at t1 t2 t3 t4 ⊢
   have hm05 := hm04.trans hm5
   have hm15 := hm3.trans (hm4.trans hm5)
   have hvld : Vld (fitsT w k.known k.sups (k.reqs ++ [onDay r d])) (amS k.sups) (amR (k.reqs ++ [onDay r d])) := okT_vld hokD
   (skip)
   ((refine Tr.step rfl ?_)); refine Exec.call0 rfl (bpossible_fn M5 ⟨k.known, k.sups, k.reqs ++ [onDay r d], fitsT w k.known k.sups (k.reqs ++ [onDay r d]), []⟩ A5 A6 A7 A8 c5' c6 c7' c8 t1 t2 t3 t4 hvld) rfl ?_
   rintro _ _ _ ⟨⟨q, rfl, hq⟩, rfl⟩
   have hq : q = true ↔ canF w k r d := hq
   have e : ({ lp with state := .ready, pending := none } : Loop) = lp := by cases lp; simp_all
   cases q
   ·have hno : ¬ canF w k r d := fun h => by have := hq.2 h; cases this
    (refine rQ ?_)
    refine gvQ (r := box bt _ _) ?_
    refine gvQ (r := box _ 44 [_, .slice A1 _ _, _, _, _]) ?_
    refine ftQ (r := box b7 4 _) ?_
    refine ftQ (r := box b6 3 _) ?_
    refine ftQ (r := box b5 _ _) ?_
    refine ftQ (r := box b4 _ _) ?_
    refine ftQ (r := box b3 _ _) ?_
    refine ftQ (r := box b8 _ _) ?_
    refine ftQ (r := box b9 _ _) ?_
    refine ftQ (r := box bm _ _) ?_
    refine ftQ (r := defR dd) ?_
    refine ftQ (r := loopR lab _) ?_
    refine Tr.round_normal (A' := [loopR lab { lp with state := .ready, pending := none }, defR dd, box bm 91 [.func (.func 75) #[] #[.pointer (some ⟨b8, 0, none⟩), .pointer (some ⟨b9, 0, none⟩)]], box b9 44 [.int .i64 k.known, .slice As k.sups.length cs, .slice Ar k.reqs.length cr, .slice Af k.fits.length cf, .slice Ad k.rds.length cd], box b8 38 ws, box b3 38 ws, box b4 44 [.int .i64 k.known, .slice As k.sups.length cs, .slice Ar k.reqs.length cr, .slice Af k.fits.length cf, .slice Ad k.rds.length cd], box b5 46 [.int .i64 r.no, .int .i64 r.item, .int .i64 r.cust, .int .i64 r.due, .int .i64 r.shelf, .int .i64 r.amount], box b6 3 [.int .i64 0], box b7 4 [.bool false]]) (by repeat (first | exact Upd.here | apply Upd.there)) DropL.refl hm15 (.inl ⟨rfl, hno, ?_⟩)
    rw [e]
   ·have hcan := hq.1 rfl
    (refine rQ ?_)
    refine gvQ (r := box bt _ _) ?_
    refine gvQ (r := box _ 44 [_, .slice A1 _ _, _, _, _]) ?_
    refine ftQ (r := box b7 4 _) ?_
    refine ftQ (r := box b6 3 _) ?_
    refine ftQ (r := box b5 _ _) ?_
    refine ftQ (r := box b4 _ _) ?_
    refine ftQ (r := box b3 _ _) ?_
    refine ftQ (r := box b8 _ _) ?_
    refine ftQ (r := box b9 _ _) ?_
    refine ftQ (r := box bm _ _) ?_
    refine ftQ (r := defR dd) ?_
    refine ftQ (r := loopR lab _) ?_
    refine Tr.round_ret (A' := [loopR lab { lp with state := .done, pending := some .ret }, defR dd, box bm 91 [.func (.func 75) #[] #[.pointer (some ⟨b8, 0, none⟩), .pointer (some ⟨b9, 0, none⟩)]], box b9 44 [.int .i64 k.known, .slice As k.sups.length cs, .slice Ar k.reqs.length cr, .slice Af k.fits.length cf, .slice Ad k.rds.length cd], box b8 38 ws, box b3 38 ws, box b4 44 [.int .i64 k.known, .slice As k.sups.length cs, .slice Ar k.reqs.length cr, .slice Af k.fits.length cf, .slice Ad k.rds.length cd], box b5 46 [.int .i64 r.no, .int .i64 r.item, .int .i64 r.cust, .int .i64 r.due, .int .i64 r.shelf, .int .i64 r.amount], box b6 3 [.int .i64 d], box b7 4 [.bool true]]) (by repeat (first | exact Upd.here | apply Upd.there)) DropL.refl hm15 (.inr ⟨rfl, hcan, by rw [p4, p5]⟩)
  ·rcases hR with ⟨rfl, hall⟩ | ⟨d, hmat, ⟨hd1, hd2⟩, hbef, hcan, rfl⟩
   ·exact ⟨lp, _, rfl, by rw [p1]; decide, 0, false, rfl, .inr ⟨rfl, rfl, hall⟩, p2⟩
   ·exact ⟨_, _, rfl, (by intro h; cases h), d, true, rfl, .inl ⟨rfl, ⟨hd1, hd2⟩, hcan, hbef⟩, rfl⟩
 ·rintro ⟨day, ok, rfl, hE, ho⟩
  cases ok
  ·simp only [List.cons_append, List.nil_append]
   (repeat ((with_reducible refine Tr.in_normal ?_)))
   refine Tr.doneMB (A' := [box b6 3 [.int .i64 day], box b7 4 [.bool false]]) [dd] [_, _, _, _, _, _] rfl (by first | exact .inl rfl | exact .inr rfl) rfl (List.Perm.refl _) (by repeat (exact RVs.nil)) (hm02.trans hm) rfl ⟨hask, day, false, rfl, hE⟩
  ·cases ho
 ·rintro c ⟨day, ok, rfl, hE, ho⟩
  cases ok
  ·cases ho
  ·cases ho
   simp only [List.cons_append, List.nil_append]
   (repeat (first | (with_reducible first | apply Tr.ret | apply Tr.in_ret)))
   refine Tr.doneMB (A' := [box b6 3 [.int .i64 day], box b7 4 [.bool true]]) [dd] [_, _, _, _, _, _] rfl (by first | exact .inl rfl | exact .inr rfl) rfl (List.Perm.refl _) (by repeat (exact RVs.nil)) (hm02.trans hm) rfl ⟨hask, day, true, rfl, hE⟩
end Go.Proofs.YtmikfjcdgkopkaaGreat

/-
 Promises: Earliest.
 Conditions: none.
-/
namespace Go.Proofs.YtmikfjcdgkopkaaGreat
open Go Bf
attribute [local irreducible] Tr Exec Stab HasTy Go.Addr.add IntKind.wrap
def EarV (w : Wd) (k : Bp) (r : Rq) (v : Value) : Prop :=
 (askE w k r = 0 ∧ ∃ day ok, v = .tuple #[.int .i64 day, .bool ok, .int .i64 0] ∧ EarP w k r day ok) ∨ (askE w k r ≠ 0 ∧ v = .tuple #[.int .i64 0, .bool false, .int .i64 (askE w k r)])
set_option maxHeartbeats 8000000 in
theorem earliest_fn (M : Mem) (ws : List Value) (w : Wd) (hw : RWd M ws w) (hfb : FBnd w) (v : Value) (k : Bp) (hk : RBp M v k) (_ : k.fits.length ≤ 9223372036854775807) (r : Rq) :
  Fn0 Tryz.prog 20 [.agg ws.toArray, v, .agg #[.int .i64 r.no, .int .i64 r.item, .int .i64 r.cust, .int .i64 r.due, .int .i64 r.shelf, .int .i64 r.amount]] M (fun v _ => EarV w k r v) := by
 have h11 := hw.len
 obtain ⟨As, cs, Ar, cr, Af, cf, Ad, cd, rfl, h1, h2, h3, h4⟩ := hk
 have hfc2 := fits_cap h3
 refine Fn.intro Tryz.func20 rfl rfl Tryz.ntmps20 rfl fun E F => ?_
 (repeat (first | ((with_reducible refine Tr.step rfl ?_); (first | (refine xaQ ?_) | ((with_reducible refine Knd.makeFunc ?_); (refine Exec.stab rfl (Stab.makeFunc rfl rfl) rfl ?_)) | ((with_reducible refine Knd.box ?_); (refine Exec.box rfl rfl (fun b => ?_))) | ((with_reducible refine Knd.alloc ?_); (refine Exec.alloc1 (tysOk.get rfl) rfl rfl rfl (fun b => ?_))))) | (with_reducible first | apply Tr.next | apply Tr.seq | apply Tr.region | apply Tr.nil)))
 rename_i b3 b4 b5 b6
 generalize b = b7
 ((refine Tr.step rfl ?_))
 refine Exec.call (A := [box b3 38 ws, box b4 44 [.int .i64 k.known, .slice As k.sups.length cs, .slice Ar k.reqs.length cr, .slice Af k.fits.length cf, .slice Ad k.rds.length cd], box b5 46 [.int .i64 r.no, .int .i64 r.item, .int .i64 r.cust, .int .i64 r.due, .int .i64 r.shelf, .int .i64 r.amount], box b6 3 [.int .i64 0], box b7 4 [.bool false]]) rfl (pattempt_fn M 51 [.pointer (some ⟨b3, 0, none⟩), .pointer (some ⟨b4, 0, none⟩), .pointer (some ⟨b5, 0, none⟩), .pointer (some ⟨b6, 0, none⟩), .pointer (some ⟨b7, 0, none⟩)] _ _ (fun e _ A' => A' = [box b6 3 [.int .i64 0], box b7 4 [.bool false]] ∧ askE w k r = e ∧ e ≠ 0) (earliest1c_fn M ws w hw hfb k As Ar Af Ad cs cr cf cd h1 h2 h3 h4 hfc2.2 r b3 b4 b5 b6 b7)) (take5 (by repeat (first | exact Del.here | apply Del.there)) (by repeat (first | exact Del.here | apply Del.there)) (by repeat (first | exact Del.here | apply Del.there)) (by repeat (first | exact Del.here | apply Del.there)) (by repeat (first | exact Del.here | apply Del.there))) rfl ?_
 rintro _ M1 A' hm (⟨rfl, -, hask, day, ok, rfl, hE⟩ | ⟨e, rfl, rfl, he, hne⟩)
 ·simp only [List.cons_append, List.nil_append]
  (refine rQ ?_)
  (((apply Tr.draw); (kernel_rfl)); (refine tkQ 0 (hB := by exact fun _ h => h) (s := by exact slQ) ?_); (refine tkQ 1 (s := by exact slQ) ?_); (refine tkQ 2 (s := by exact Stab.move rfl) ?_); (refine TrA.eff 3 rfl (by kernel_rfl) (by exact .inl rfl) ?_); (((refine Knd.store ?_); ((refine xSQ ?_)))); (refine ⟨(by first | exact Mem.le.refl _ | assumption), (by exact fun _ h => h), ?_⟩); (refine TrA.eff 4 rfl (by kernel_rfl) (by exact .inl rfl) ?_); (((refine Knd.store ?_); ((refine xSQ ?_)))); (refine ⟨(by first | exact Mem.le.refl _ | assumption), (by exact fun _ h => h), ?_⟩); (refine tkQ 5 (s := by exact Stab.assign rfl) ?_); (refine TrA.done (by kernel_rfl) ?_))
  (repeat (first | (with_reducible first | apply Tr.next | apply Tr.ret)))
  (refine Tr.done (by first | exact .inl rfl | exact .inr rfl) rfl (by repeat (first | exact RVs.nil | (apply RVs.cons; (first | exact RV.tmp rfl | exact RV.cell (by rfl) (tysOk.get (by rfl)) (by rfl) (by repeat (first | exact Has.here | apply Has.there)))))) (by first | exact Mem.le.refl _ | assumption) (by exact ⟨[_, _], rfl⟩) ⟨rfl, ?_⟩)
  exact .inl ⟨hask, day, ok, rfl, hE⟩
 ·simp only [List.cons_append, List.nil_append]
  (refine rQ ?_)
  (((apply Tr.draw); (kernel_rfl)); (refine tkQ 0 (hB := by exact fun _ h => h) (s := by exact slQ) ?_); (refine tkQ 1 (s := by exact slQ) ?_); (refine tkQ 2 (s := by exact Stab.move rfl) ?_); (refine TrA.eff 3 rfl (by kernel_rfl) (by exact .inl rfl) ?_); (((refine Knd.store ?_); ((refine xSQ ?_)))); (refine ⟨(by first | exact Mem.le.refl _ | assumption), (by exact fun _ h => h), ?_⟩); (refine TrA.eff 4 rfl (by kernel_rfl) (by exact .inl rfl) ?_); (((refine Knd.store ?_); ((refine xSQ ?_)))); (refine ⟨(by first | exact Mem.le.refl _ | assumption), (by exact fun _ h => h), ?_⟩); (refine tkQ 5 (s := by exact Stab.assign rfl) ?_); (refine TrA.done (by kernel_rfl) ?_))
  (repeat (first | (with_reducible first | apply Tr.next | apply Tr.ret)))
  (refine Tr.done (by first | exact .inl rfl | exact .inr rfl) rfl (by repeat (first | exact RVs.nil | (apply RVs.cons; (first | exact RV.tmp rfl | exact RV.cell (by rfl) (tysOk.get (by rfl)) (by rfl) (by repeat (first | exact Has.here | apply Has.there)))))) (by first | exact Mem.le.refl _ | assumption) (by exact ⟨[_, _], rfl⟩) ⟨rfl, ?_⟩)
  exact .inr ⟨he ▸ hne, by rw [he]; rfl⟩
end Go.Proofs.YtmikfjcdgkopkaaGreat

/-
 Promises: comparisons.
 Conditions: none.
-/
namespace Go.Proofs.YtmikfjcdgkopkaaGreat
open Go Bf
attribute [local irreducible] Tr Exec Stab HasTy Go.Addr.add IntKind.wrap
deriving instance DecidableEq for Sp
deriving instance DecidableEq for Rq
theorem sameReads_fn (M : Mem) (p q : List Rd) (A B : Option Addr) (c k : Nat) (hp : SlOf 5 RRd M (.slice A p.length c) p) (hq : SlOf 5 RRd M (.slice B q.length k) q) : Fn0 Tryz.prog 44 [.slice A p.length c, .slice B q.length k] M (fun r M' => r = .bool (decide (p = q)) ∧ M = M') := by
 have l1 := hp.len_le
 have l2 := hq.len_le
 refine Fn.intro Tryz.func44 rfl rfl Tryz.ntmps44 rfl fun E F => ?_
 by_cases hl : p.length = q.length
 rotate_left
 ·(refine rQ ?_)
  (refine dnQ (hL := by exact ⟨[], rfl⟩) ⟨rfl, ?_⟩)
  exact ⟨by rw [decide_eq_false (fun h => hl (congrArg _ h))]; rfl, rfl⟩
 (refine rQ ?_)
 refine Tr.loop (α := Nat) (fun i => ⟨26, [(5, .int .i64 (i : Int)), (0, .slice A p.length c), (1, .slice B q.length k)], [], M, [] ++ F⟩) (fun i => i ≤ p.length ∧ p.take i = q.take i) (fun i => p.length - i) 0 ⟨by simp, by simp⟩ hsQ (fun i hi => ?_)
 obtain ⟨hi, heq⟩ := hi
 by_cases hlt : i < p.length
 ·obtain ⟨x, hx⟩ := get_of_lt hlt
  obtain ⟨y, hy⟩ := get_of_lt (xs := q) (i := i) (by omega)
  obtain ⟨hA, ch1, hat, rfl⟩ := hp.elem hx
  obtain ⟨hB, ch2, hbt, rfl⟩ := hq.elem hy
  simp only [rdC] at hat hbt
  have hxy : [x.1.1, x.1.2.1, x.1.2.2, x.2.1, x.2.2] = [y.1.1, y.1.2.1, y.1.2.2, y.2.1, y.2.2] → x = y := by
   intro h
   obtain ⟨⟨a1, a2, a3⟩, a4, a5⟩ := x; obtain ⟨⟨c1, c2, c3⟩, c4, c5⟩ := y
   simp_all
  by_cases hk : [x.1.1, x.1.2.1, x.1.2.2, x.2.1, x.2.2] ≠ [y.1.1, y.1.2.1, y.1.2.2, y.2.1, y.2.2]
  ·(refine rQ ?_)
   (((apply Tr.draw); (kernel_rfl)); (refine tkQ 0 (hB := by exact fun _ h => h) (s := by exact Stab.move rfl) ?_); (refine tkQ 1 (s := by exact Stab.move rfl) ?_); (refine tkQ 4 (s := by exact Stab.move rfl) ?_); (refine tkQ 5 (s := by exact Stab.move rfl) ?_); (refine tkQ 2 (s := by exact sxQ) ?_); (refine tkQ 6 (s := by exact sxQ) ?_); (refine tkQ 3 (s := by exact Stab.loadMA rfl (tysOk.get rfl) rfl (by assumption) (by first | rfl | assumption)) ?_); (refine tkQ 7 (s := by exact Stab.loadMA rfl (tysOk.get rfl) rfl (by assumption) (by first | rfl | assumption)) ?_); (refine tkQ 8 (s := by exact Stab.stneL rfl rfl (by repeat (first | exact IntsL.nil | apply IntsL.cons)) (by repeat (first | exact IntsL.nil | apply IntsL.cons)) (tysOk.get rfl) rfl (by kernel_rfl) (by kernel_rfl) rfl rfl) ?_); (refine TrA.done (by kernel_rfl) ?_))
   (refine rQ ?_)
   (refine dnQ (hL := by exact ⟨[], rfl⟩) ⟨rfl, ?_⟩)
   exact ⟨by rw [decide_eq_false (fun h => by rw [h, hy] at hx; cases hx; exact hk rfl)]; rfl, rfl⟩
  ·(refine rQ ?_)
   (((apply Tr.draw); (kernel_rfl)); (refine tkQ 0 (hB := by exact fun _ h => h) (s := by exact Stab.move rfl) ?_); (refine tkQ 1 (s := by exact Stab.move rfl) ?_); (refine tkQ 4 (s := by exact Stab.move rfl) ?_); (refine tkQ 5 (s := by exact Stab.move rfl) ?_); (refine tkQ 2 (s := by exact sxQ) ?_); (refine tkQ 6 (s := by exact sxQ) ?_); (refine tkQ 3 (s := by exact Stab.loadMA rfl (tysOk.get rfl) rfl (by assumption) (by first | rfl | assumption)) ?_); (refine tkQ 7 (s := by exact Stab.loadMA rfl (tysOk.get rfl) rfl (by assumption) (by first | rfl | assumption)) ?_); (refine tkQ 8 (s := by exact Stab.stneL rfl rfl (by repeat (first | exact IntsL.nil | apply IntsL.cons)) (by repeat (first | exact IntsL.nil | apply IntsL.cons)) (tysOk.get rfl) rfl (by kernel_rfl) (by kernel_rfl) rfl rfl) ?_); (refine TrA.done (by kernel_rfl) ?_))
   (refine rQ ?_)
   refine Tr.again (i + 1) ⟨by omega, by rw [List.take_add_one, List.take_add_one, hx, hy, heq, hxy (Classical.not_not.1 hk)]⟩ (by omega) hsQ
 ·have e : i = p.length := by omega
  subst e
  rw [List.take_length, hl, List.take_length] at heq
  (refine rQ ?_)
  (refine dnQ (hL := by exact ⟨[], rfl⟩) ⟨rfl, ?_⟩)
  exact ⟨by rw [decide_eq_true heq]; rfl, rfl⟩
theorem sameSups_fn (M : Mem) (p q : List Sp) (A B : Option Addr) (c k : Nat) (hp : SlOf 6 RSpC M (.slice A p.length c) p) (hq : SlOf 6 RSpC M (.slice B q.length k) q) : Fn0 Tryz.prog 42 [.slice A p.length c, .slice B q.length k] M (fun r M' => r = .bool (decide (p = q)) ∧ M = M') := by
 have l1 := hp.len_le
 have l2 := hq.len_le
 refine Fn.intro Tryz.func42 rfl rfl Tryz.ntmps42 rfl fun E F => ?_
 by_cases hl : p.length = q.length
 rotate_left
 ·(refine rQ ?_)
  (refine dnQ (hL := by exact ⟨[], rfl⟩) ⟨rfl, ?_⟩)
  exact ⟨by rw [decide_eq_false (fun h => hl (congrArg _ h))]; rfl, rfl⟩
 (refine rQ ?_)
 refine Tr.loop (α := Nat) (fun i => ⟨26, [(5, .int .i64 (i : Int)), (0, .slice A p.length c), (1, .slice B q.length k)], [], M, [] ++ F⟩) (fun i => i ≤ p.length ∧ p.take i = q.take i) (fun i => p.length - i) 0 ⟨by simp, by simp⟩ hsQ (fun i hi => ?_)
 obtain ⟨hi, heq⟩ := hi
 by_cases hlt : i < p.length
 ·obtain ⟨x, hx⟩ := get_of_lt hlt
  obtain ⟨y, hy⟩ := get_of_lt (xs := q) (i := i) (by omega)
  obtain ⟨hA, ch1, hat, rfl⟩ := hp.elem hx
  obtain ⟨hB, ch2, hbt, rfl⟩ := hq.elem hy
  simp only [spC] at hat hbt
  have hxy : [x.no, x.item, x.plant, x.ready, x.expiry, x.amount] = [y.no, y.item, y.plant, y.ready, y.expiry, y.amount] → x = y := by
   intro h
   cases x; cases y
   simp_all
  by_cases hk : [x.no, x.item, x.plant, x.ready, x.expiry, x.amount] ≠ [y.no, y.item, y.plant, y.ready, y.expiry, y.amount]
  ·(refine rQ ?_)
   (((apply Tr.draw); (kernel_rfl)); (refine tkQ 0 (hB := by exact fun _ h => h) (s := by exact Stab.move rfl) ?_); (refine tkQ 1 (s := by exact Stab.move rfl) ?_); (refine tkQ 4 (s := by exact Stab.move rfl) ?_); (refine tkQ 5 (s := by exact Stab.move rfl) ?_); (refine tkQ 2 (s := by exact sxQ) ?_); (refine tkQ 6 (s := by exact sxQ) ?_); (refine tkQ 3 (s := by exact Stab.loadMA rfl (tysOk.get rfl) rfl (by assumption) (by first | rfl | assumption)) ?_); (refine tkQ 7 (s := by exact Stab.loadMA rfl (tysOk.get rfl) rfl (by assumption) (by first | rfl | assumption)) ?_); (refine tkQ 8 (s := by exact Stab.stneL rfl rfl (by repeat (first | exact IntsL.nil | apply IntsL.cons)) (by repeat (first | exact IntsL.nil | apply IntsL.cons)) (tysOk.get rfl) rfl (by kernel_rfl) (by kernel_rfl) rfl rfl) ?_); (refine TrA.done (by kernel_rfl) ?_))
   (refine rQ ?_)
   (refine dnQ (hL := by exact ⟨[], rfl⟩) ⟨rfl, ?_⟩)
   exact ⟨by rw [decide_eq_false (fun h => by rw [h, hy] at hx; cases hx; exact hk rfl)]; rfl, rfl⟩
  ·(refine rQ ?_)
   (((apply Tr.draw); (kernel_rfl)); (refine tkQ 0 (hB := by exact fun _ h => h) (s := by exact Stab.move rfl) ?_); (refine tkQ 1 (s := by exact Stab.move rfl) ?_); (refine tkQ 4 (s := by exact Stab.move rfl) ?_); (refine tkQ 5 (s := by exact Stab.move rfl) ?_); (refine tkQ 2 (s := by exact sxQ) ?_); (refine tkQ 6 (s := by exact sxQ) ?_); (refine tkQ 3 (s := by exact Stab.loadMA rfl (tysOk.get rfl) rfl (by assumption) (by first | rfl | assumption)) ?_); (refine tkQ 7 (s := by exact Stab.loadMA rfl (tysOk.get rfl) rfl (by assumption) (by first | rfl | assumption)) ?_); (refine tkQ 8 (s := by exact Stab.stneL rfl rfl (by repeat (first | exact IntsL.nil | apply IntsL.cons)) (by repeat (first | exact IntsL.nil | apply IntsL.cons)) (tysOk.get rfl) rfl (by kernel_rfl) (by kernel_rfl) rfl rfl) ?_); (refine TrA.done (by kernel_rfl) ?_))
   (refine rQ ?_)
   refine Tr.again (i + 1) ⟨by omega, by rw [List.take_add_one, List.take_add_one, hx, hy, heq, hxy (Classical.not_not.1 hk)]⟩ (by omega) hsQ
 ·have e : i = p.length := by omega
  subst e
  rw [List.take_length, hl, List.take_length] at heq
  (refine rQ ?_)
  (refine dnQ (hL := by exact ⟨[], rfl⟩) ⟨rfl, ?_⟩)
  exact ⟨by rw [decide_eq_true heq]; rfl, rfl⟩
end Go.Proofs.YtmikfjcdgkopkaaGreat

/-
 Promises: comparisons of tables.
 Conditions: none.
-/
namespace Go.Proofs.YtmikfjcdgkopkaaGreat
open Go Bf
attribute [local irreducible] Tr Exec Stab HasTy Go.Addr.add IntKind.wrap
theorem sameRow_fn (M : Mem) (p q : List Bool) (A B : Option Addr) (c k : Nat) (hp : SlOf 1 RBo M (.slice A p.length c) p) (hq : SlOf 1 RBo M (.slice B q.length k) q) : Fn0 Tryz.prog 85 [.slice A p.length c, .slice B q.length k] M (fun r M' => r = .bool (decide (p = q)) ∧ M = M') := by
 have l1 := hp.len_le
 have l2 := hq.len_le
 refine Fn.intro Tryz.func85 rfl rfl Tryz.ntmps85 rfl fun E F => ?_
 by_cases hl : p.length = q.length
 rotate_left
 ·(refine rQ ?_)
  (refine dnQ (hL := by exact ⟨[], rfl⟩) ⟨rfl, ?_⟩)
  exact ⟨by rw [decide_eq_false (fun h => hl (congrArg _ h))]; rfl, rfl⟩
 (refine rQ ?_)
 refine Tr.loop (α := Nat) (fun i => ⟨26, [(5, .int .i64 (i : Int)), (0, .slice A p.length c), (1, .slice B q.length k)], [], M, [] ++ F⟩) (fun i => i ≤ p.length ∧ p.take i = q.take i) (fun i => p.length - i) 0 ⟨by simp, by simp⟩ hsQ (fun i hi => ?_)
 obtain ⟨hi, heq⟩ := hi
 by_cases hlt : i < p.length
 ·obtain ⟨x, hx⟩ := get_of_lt hlt
  obtain ⟨y, hy⟩ := get_of_lt (xs := q) (i := i) (by omega)
  obtain ⟨hA, ch1, hat, rfl⟩ := hp.elem hx
  obtain ⟨hB, ch2, hbt, rfl⟩ := hq.elem hy
  by_cases hk : x = y
  ·subst hk
   (refine rQ ?_)
   (((apply Tr.draw); (kernel_rfl)); (refine tkQ 0 (hB := by exact fun _ h => h) (s := by exact Stab.move rfl) ?_); (refine tkQ 1 (s := by exact Stab.move rfl) ?_); (refine tkQ 4 (s := by exact Stab.move rfl) ?_); (refine tkQ 5 (s := by exact Stab.move rfl) ?_); (refine tkQ 2 (s := by exact sxQ) ?_); (refine tkQ 6 (s := by exact sxQ) ?_); (refine tkQ 3 (s := by exact sMQ) ?_); (refine tkQ 7 (s := by exact sMQ) ?_); (refine tkQ 8 (s := by exact Stab.boolne rfl rfl (tysOk.get rfl) rfl) ?_); (refine TrA.done (by kernel_rfl) ?_))
   (refine rQ ?_)
   refine Tr.again (i + 1) ⟨by omega, by rw [List.take_add_one, List.take_add_one, hx, hy, heq]⟩ (by omega) hsQ
  ·(refine rQ ?_)
   (((apply Tr.draw); (kernel_rfl)); (refine tkQ 0 (hB := by exact fun _ h => h) (s := by exact Stab.move rfl) ?_); (refine tkQ 1 (s := by exact Stab.move rfl) ?_); (refine tkQ 4 (s := by exact Stab.move rfl) ?_); (refine tkQ 5 (s := by exact Stab.move rfl) ?_); (refine tkQ 2 (s := by exact sxQ) ?_); (refine tkQ 6 (s := by exact sxQ) ?_); (refine tkQ 3 (s := by exact sMQ) ?_); (refine tkQ 7 (s := by exact sMQ) ?_); (refine tkQ 8 (s := by exact Stab.boolne rfl rfl (tysOk.get rfl) rfl) ?_); (refine TrA.done (by kernel_rfl) ?_))
   (refine rQ ?_)
   (refine dnQ (hL := by exact ⟨[], rfl⟩) ⟨rfl, ?_⟩)
   exact ⟨by rw [decide_eq_false (fun h => by rw [h, hy] at hx; cases hx; exact hk rfl)]; rfl, rfl⟩
 ·have e : i = p.length := by omega
  subst e
  rw [List.take_length, hl, List.take_length] at heq
  (refine rQ ?_)
  (refine dnQ (hL := by exact ⟨[], rfl⟩) ⟨rfl, ?_⟩)
  exact ⟨by rw [decide_eq_true heq]; rfl, rfl⟩
theorem sameTab_fn (M : Mem) (p q : List (List Bool)) (A B : Option Addr) (c k : Nat) (hp : SlOf 1 RRowB M (.slice A p.length c) p) (hq : SlOf 1 RRowB M (.slice B q.length k) q) : Fn0 Tryz.prog 43 [.slice A p.length c, .slice B q.length k] M (fun r M' => r = .bool (decide (p = q)) ∧ M = M') := by
 have l1 := hp.len_le
 have l2 := hq.len_le
 refine Fn.intro Tryz.func43 rfl rfl Tryz.ntmps43 rfl fun E F => ?_
 by_cases hl : p.length = q.length
 rotate_left
 ·(refine rQ ?_)
  (refine dnQ (hL := by exact ⟨[], rfl⟩) ⟨rfl, ?_⟩)
  exact ⟨by rw [decide_eq_false (fun h => hl (congrArg _ h))]; rfl, rfl⟩
 (refine rQ ?_)
 refine Tr.loop (α := Nat) (fun i => ⟨27, [(5, .int .i64 (i : Int)), (0, .slice A p.length c), (1, .slice B q.length k)], [], M, [] ++ F⟩) (fun i => i ≤ p.length ∧ p.take i = q.take i) (fun i => p.length - i) 0 ⟨by simp, by simp⟩ hsQ (fun i hi => ?_)
 obtain ⟨hi, heq⟩ := hi
 by_cases hlt : i < p.length
 ·obtain ⟨x, hx⟩ := get_of_lt hlt
  obtain ⟨y, hy⟩ := get_of_lt (xs := q) (i := i) (by omega)
  obtain ⟨hA, ch1, hat, rA, ra, rfl, hxr⟩ := hp.elem hx
  obtain ⟨hB, ch2, hbt, rB, rb, rfl, hyr⟩ := hq.elem hy
  (refine rQ ?_)
  (((apply Tr.draw); (kernel_rfl)); (refine tkQ 0 (hB := by exact fun _ h => h) (s := by exact Stab.move rfl) ?_); (refine tkQ 1 (s := by exact Stab.move rfl) ?_); (refine tkQ 4 (s := by exact Stab.move rfl) ?_); (refine tkQ 5 (s := by exact Stab.move rfl) ?_); (refine tkQ 2 (s := by exact sxQ) ?_); (refine tkQ 6 (s := by exact sxQ) ?_); (refine tkQ 3 (s := by exact sMQ) ?_); (refine tkQ 7 (s := by exact sMQ) ?_); (refine TrA.eff 8 rfl (by kernel_rfl) (by exact .inl rfl) ?_))
  refine Exec.call0 rfl (sameRow_fn M x y rA rB ra rb hxr hyr) rfl ?_
  rintro _ _ hm9 ⟨rfl, rfl⟩
  refine ⟨hm9, (by exact fun _ h => h), ?_⟩
  by_cases hk : x = y
  ·subst hk
   rw [decide_eq_true rfl]
   ((refine tkQ 9 (s := by exact Stab.not rfl) ?_); (refine TrA.done (by kernel_rfl) ?_))
   (refine rQ ?_)
   refine Tr.again (i + 1) ⟨by omega, by rw [List.take_add_one, List.take_add_one, hx, hy, heq]⟩ (by omega) hsQ
  ·rw [decide_eq_false hk]
   ((refine tkQ 9 (s := by exact Stab.not rfl) ?_); (refine TrA.done (by kernel_rfl) ?_))
   (refine rQ ?_)
   (refine dnQ (hL := by exact ⟨[], rfl⟩) ⟨rfl, ?_⟩)
   exact ⟨by rw [decide_eq_false (fun h => by rw [h, hy] at hx; cases hx; exact hk rfl)]; rfl, rfl⟩
 ·have e : i = p.length := by omega
  subst e
  rw [List.take_length, hl, List.take_length] at heq
  (refine rQ ?_)
  (refine dnQ (hL := by exact ⟨[], rfl⟩) ⟨rfl, ?_⟩)
  exact ⟨by rw [decide_eq_true heq]; rfl, rfl⟩
end Go.Proofs.YtmikfjcdgkopkaaGreat

/-
 Promises: are two books equal?
 Conditions: none.
-/
namespace Go.Proofs.YtmikfjcdgkopkaaGreat
open Go Bf
attribute [local irreducible] Tr Exec Stab HasTy Go.Addr.add IntKind.wrap
set_option maxHeartbeats 8000000 in
theorem sameB_fn (M : Mem) (u v : Value) (k l : Bp) (hk : RBp M u k) (hl : RBp M v l) : Fn0 Tryz.prog 16 [u, v] M (fun r M' => (∃ q : Bool, r = .bool q ∧ (q = true ↔ k = l)) ∧ M = M') := by
 obtain ⟨As, cs, Ar, cr, Af, cf, Ad, cd, rfl, h1, h2, h3, h4⟩ := hk
 obtain ⟨As', cs', Ar', cr', Af', cf', Ad', cd', rfl, g1, g2, g3, g4⟩ := hl
 have l2 := h2.len_le
 have l2' := g2.len_le
 refine Fn.intro Tryz.func16 rfl rfl Tryz.ntmps16 rfl fun E F => ?_
 by_cases e1 : k.known = l.known
 rotate_left
 ·(repeat (first | ((with_reducible refine Tr.step rfl ?_); (first | (refine xmQ ?_) | (refine xaQ ?_) | (refine xlQ ?_) | (refine xfQ ?_) | (refine xiQ ?_) | ((with_reducible refine Knd.pick ?_); (first | (refine Exec.stab rfl (Stab.pick_t rfl (by (with_reducible rfl)) rfl) rfl ?_) | (refine Exec.stab rfl (Stab.pick_td rfl (by (with_reducible assumption)) rfl) rfl ?_))) | ((with_reducible refine Knd.box ?_); (refine Exec.box rfl rfl (fun b => ?_))))) | (with_reducible first | apply Tr.next | apply Tr.seq | apply Tr.region | apply Tr.nil) | (refine Tr.guard_s0 rfl rfl rfl (by (with_reducible rfl)) rfl rfl ?_) | (refine Tr.guard_n' rfl rfl rfl (by (with_reducible assumption)) rfl rfl ?_) | (with_reducible first | apply Tr.ret | apply Tr.then_ret) | (refine Tr.cond_bt rfl (by (with_reducible rfl)) ?_)))
  (refine dnQ (hL := by exact ⟨[_, _], rfl⟩) ⟨rfl, ?_⟩)
  exact ⟨⟨_, rfl, fun h => (by cases h), fun h => absurd (congrArg Bp.known h) e1⟩, rfl⟩
 (repeat (first | ((with_reducible refine Tr.step rfl ?_); (first | (refine xmQ ?_) | (refine xaQ ?_) | (refine xlQ ?_) | (refine xfQ ?_) | (refine xiQ ?_) | ((with_reducible refine Knd.box ?_); (refine Exec.box rfl rfl (fun b => ?_))))) | (with_reducible first | apply Tr.next | apply Tr.seq | apply Tr.region | apply Tr.nil) | ((refine Tr.guard_y' rfl rfl rfl (by omega) ?_); (first | (refine xlQ ?_) | (refine xfQ ?_)))))
 rename_i b2
 generalize b = b3
 ((refine Tr.guard_y' rfl rfl rfl (by omega) ?_)); refine Exec.call0 rfl (sameSups_fn M k.sups l.sups As As' cs cs' h1 g1) rfl ?_
 rintro _ _ _ ⟨rfl, rfl⟩
 by_cases e2 : k.sups = l.sups
 rotate_left
 ·rw [decide_eq_false e2]
  (refine rQ ?_)
  (refine dnQ (hL := by exact ⟨[_, _], rfl⟩) ⟨rfl, ?_⟩)
  exact ⟨⟨_, rfl, fun h => (by cases h), fun h => absurd (congrArg Bp.sups h) e2⟩, rfl⟩
 rw [decide_eq_true e2]
 by_cases e3 : k.reqs.length = l.reqs.length
 rotate_left
 ·(refine rQ ?_)
  (refine dnQ (hL := by exact ⟨[_, _], rfl⟩) ⟨rfl, ?_⟩)
  exact ⟨⟨_, rfl, fun h => (by cases h), fun h => absurd (congrArg (fun x : Bp => x.reqs.length) h) e3⟩, rfl⟩
 (refine rQ ?_)
 ((refine Tr.guard_y' rfl rfl rfl (by omega) ?_)); refine Exec.call0 rfl (sameTab_fn M k.fits l.fits Af Af' cf cf' h3 g3) rfl ?_
 rintro _ _ _ ⟨rfl, rfl⟩
 by_cases e4 : k.fits = l.fits
 rotate_left
 ·rw [decide_eq_false e4]
  (refine rQ ?_)
  (refine dnQ (hL := by exact ⟨[_, _], rfl⟩) ⟨rfl, ?_⟩)
  exact ⟨⟨_, rfl, fun h => (by cases h), fun h => absurd (congrArg Bp.fits h) e4⟩, rfl⟩
 rw [decide_eq_true e4]
 (refine rQ ?_)
 ((refine Tr.guard_l rfl rfl rfl (by (with_reducible exact Bool.not_true)) ?_)); refine Exec.call0 rfl (sameReads_fn M k.rds l.rds Ad Ad' cd cd' h4 g4) rfl ?_
 rintro _ _ _ ⟨rfl, rfl⟩
 by_cases e5 : k.rds = l.rds
 rotate_left
 ·rw [decide_eq_false e5]
  (refine rQ ?_)
  (refine dnQ (hL := by exact ⟨[_, _], rfl⟩) ⟨rfl, ?_⟩)
  exact ⟨⟨_, rfl, fun h => (by cases h), fun h => absurd (congrArg Bp.rds h) e5⟩, rfl⟩
 rw [decide_eq_true e5]
 (refine rQ ?_)
 refine Tr.loop (α := Nat) (fun i => ⟨62, [(5, .int .i64 (i : Int)), (2, .pointer (some ⟨b2, 0, none⟩)), (3, .pointer (some ⟨b3, 0, none⟩))], [], M, box b3 44 [.int .i64 l.known, .slice As' l.sups.length cs', .slice Ar' l.reqs.length cr', .slice Af' l.fits.length cf', .slice Ad' l.rds.length cd'] :: box b2 44 [.int .i64 k.known, .slice As k.sups.length cs, .slice Ar k.reqs.length cr, .slice Af k.fits.length cf, .slice Ad k.rds.length cd] :: ([] ++ F)⟩) (fun i => i ≤ k.reqs.length ∧ k.reqs.take i = l.reqs.take i) (fun i => k.reqs.length - i) 0 ⟨by simp, by simp⟩ hsQ (fun i hi => ?_)
 obtain ⟨hi, heq⟩ := hi
 by_cases hlt : i < k.reqs.length
 ·obtain ⟨x, hx⟩ := get_of_lt hlt
  obtain ⟨y, hy⟩ := get_of_lt (xs := l.reqs) (i := i) (by omega)
  obtain ⟨hA, ch1, hat, rfl⟩ := h2.elem hx
  obtain ⟨hB, ch2, hbt, rfl⟩ := g2.elem hy
  simp only [rqC] at hat hbt
  have hxy : [x.no, x.item, x.cust, x.due, x.shelf, x.amount] = [y.no, y.item, y.cust, y.due, y.shelf, y.amount] → x = y := by
   intro h
   cases x; cases y
   simp_all
  by_cases hk : [x.no, x.item, x.cust, x.due, x.shelf, x.amount] ≠ [y.no, y.item, y.cust, y.due, y.shelf, y.amount]
  ·(refine rQ ?_)
   (((apply Tr.draw); (kernel_rfl)); (refine tkQ 0 (hB := by exact fun _ h => h) (s := by exact sfQ) ?_); (refine tkQ 2 (s := by exact Stab.move rfl) ?_); (refine tkQ 5 (s := by exact sfQ) ?_); (refine tkQ 7 (s := by exact Stab.move rfl) ?_); (refine tkQ 1 (s := by exact slQ) ?_); (refine tkQ 6 (s := by exact slQ) ?_); (refine tkQ 3 (s := by exact sxQ) ?_); (refine tkQ 8 (s := by exact sxQ) ?_); (refine tkQ 4 (s := by exact Stab.loadMA rfl (tysOk.get rfl) rfl (by assumption) (by first | rfl | assumption)) ?_); (refine tkQ 9 (s := by exact Stab.loadMA rfl (tysOk.get rfl) rfl (by assumption) (by first | rfl | assumption)) ?_); (refine tkQ 10 (s := by exact Stab.stneL rfl rfl (by repeat (first | exact IntsL.nil | apply IntsL.cons)) (by repeat (first | exact IntsL.nil | apply IntsL.cons)) (tysOk.get rfl) rfl (by kernel_rfl) (by kernel_rfl) rfl rfl) ?_); (refine TrA.done (by kernel_rfl) ?_))
   (refine rQ ?_)
   (refine dnQ (hL := by exact ⟨[_, _], rfl⟩) ⟨rfl, ?_⟩)
   exact ⟨⟨_, rfl, fun h => (by cases h), fun h => by subst h; rw [hy] at hx; cases hx; exact absurd rfl hk⟩, rfl⟩
  ·(refine rQ ?_)
   (((apply Tr.draw); (kernel_rfl)); (refine tkQ 0 (hB := by exact fun _ h => h) (s := by exact sfQ) ?_); (refine tkQ 2 (s := by exact Stab.move rfl) ?_); (refine tkQ 5 (s := by exact sfQ) ?_); (refine tkQ 7 (s := by exact Stab.move rfl) ?_); (refine tkQ 1 (s := by exact slQ) ?_); (refine tkQ 6 (s := by exact slQ) ?_); (refine tkQ 3 (s := by exact sxQ) ?_); (refine tkQ 8 (s := by exact sxQ) ?_); (refine tkQ 4 (s := by exact Stab.loadMA rfl (tysOk.get rfl) rfl (by assumption) (by first | rfl | assumption)) ?_); (refine tkQ 9 (s := by exact Stab.loadMA rfl (tysOk.get rfl) rfl (by assumption) (by first | rfl | assumption)) ?_); (refine tkQ 10 (s := by exact Stab.stneL rfl rfl (by repeat (first | exact IntsL.nil | apply IntsL.cons)) (by repeat (first | exact IntsL.nil | apply IntsL.cons)) (tysOk.get rfl) rfl (by kernel_rfl) (by kernel_rfl) rfl rfl) ?_); (refine TrA.done (by kernel_rfl) ?_))
   (refine rQ ?_)
   refine Tr.again (i + 1) ⟨by omega, by rw [List.take_add_one, List.take_add_one, hx, hy, heq, hxy (Classical.not_not.1 hk)]⟩ (by omega) hsQ
 ·have e : i = k.reqs.length := by omega
  subst e
  rw [List.take_length, e3, List.take_length] at heq
  (refine rQ ?_)
  (refine dnQ (hL := by exact ⟨[_, _], rfl⟩) ⟨rfl, ?_⟩)
  exact ⟨⟨_, rfl, fun _ => by cases k; cases l; simp_all, fun _ => rfl⟩, rfl⟩
end Go.Proofs.YtmikfjcdgkopkaaGreat

/-
 Refusals: books that are small, lists that are equal.
 Conditions: none.
-/
namespace Go.Proofs.YtmikfjcdgkopkaaGreat
open Go Bf
attribute [local irreducible] Tr Exec Stab HasTy Go.Addr.add IntKind.wrap
structure FewB (w : Wd) (k : Bp) : Prop where
 fa : w.facts.length ≤ 30
 sw : w.swaps.length ≤ 12
 sl : k.sups.length ≤ 5
 rl : k.reqs.length ≤ 5
 fl : k.fits.length ≤ 12
 rows : ∀ x ∈ k.fits, x.length ≤ 12
 rd : k.rds.length ≤ 60
theorem few04_fn (M : Mem) (A : Option Addr) (n c : Nat) : Fn0 Tryz.prog 74 [.slice A n c] M (fun r M' => (∃ b : Bool, r = .bool b ∧ (b = true → n ≤ 30)) ∧ M = M') := by
 refine Fn.intro Tryz.func74 rfl rfl Tryz.ntmps74 rfl fun E F => ?_
 by_cases h : n ≤ 30
 ·(refine rQ ?_)
  (refine dnQ (hL := by exact ⟨[], rfl⟩) ⟨rfl, ?_⟩)
  exact ⟨⟨true, by rw [decide_eq_true (by omega)]; rfl, fun _ => h⟩, rfl⟩
 ·(refine rQ ?_)
  (refine dnQ (hL := by exact ⟨[], rfl⟩) ⟨rfl, ?_⟩)
  exact ⟨⟨false, by rw [decide_eq_false (by omega)]; rfl, fun h => (by cases h)⟩, rfl⟩
set_option maxHeartbeats 2000000 in
theorem few29_fn (M : Mem) (ws : List Value) (w : Wd) (hw : RWd M ws w) (A B : Option Addr) (n c m k : Nat) : Fn0 Tryz.prog 31 [.agg ws.toArray, .slice A n c, .slice B m k] M (fun r M' => (∃ b : Bool, r = .bool b ∧ (b = true → w.facts.length ≤ 30 ∧ w.swaps.length ≤ 12)) ∧ M = M') := by
 obtain ⟨h11, hone, ⟨A7, c7, h7, -⟩, A10, c10, h10, -⟩ := hw
 refine Fn.intro Tryz.func31 rfl rfl Tryz.ntmps31 rfl fun E F => ?_
 (repeat (first | ((with_reducible refine Tr.step rfl ?_); (first | (refine xaQ ?_) | ((with_reducible refine Knd.load ?_); (refine Exec.stab rfl (Stab.load rfl (tysOk.get rfl) rfl (by repeat (first | exact Has.here | apply Has.there)) (by assumption)) rfl ?_)) | (refine xfQ ?_) | ((with_reducible refine Knd.box ?_); (refine Exec.box rfl rfl (fun b => ?_))))) | (with_reducible first | apply Tr.next | apply Tr.seq | apply Tr.region | apply Tr.nil)))
 ((refine Tr.step rfl ?_)); refine Exec.call0 rfl (few04_fn M A10 w.facts.length c10) rfl ?_
 rintro _ _ _ ⟨⟨b, rfl, hb⟩, rfl⟩
 cases b with
 | false =>
  (refine rQ ?_)
  (refine dnQ (hL := by exact ⟨[_], rfl⟩) ⟨rfl, ?_⟩)
  exact ⟨⟨false, rfl, fun h => (by cases h)⟩, rfl⟩
 | true =>
 by_cases h1 : w.swaps.length ≤ 12
 rotate_left
 ·(repeat (first | ((with_reducible refine Tr.step rfl ?_); (first | (refine xmQ ?_) | (refine xaQ ?_) | ((with_reducible refine Knd.pick ?_); (first | (refine Exec.stab rfl (Stab.pick_t rfl (by (with_reducible rfl)) rfl) rfl ?_) | (refine Exec.stab rfl (Stab.pick_f rfl (by (with_reducible rfl)) rfl) rfl ?_) | (refine Exec.stab rfl (Stab.pick_fd rfl (by omega) rfl) rfl ?_))))) | (with_reducible first | apply Tr.next | apply Tr.nil) | ((refine Tr.guard_l rfl rfl rfl (by (with_reducible rfl)) ?_); (first | ((with_reducible refine Knd.load ?_); (refine Exec.stab rfl (Stab.load rfl (tysOk.get rfl) rfl (by repeat (first | exact Has.here | apply Has.there)) (by assumption)) rfl ?_)) | (refine xfQ ?_) | (refine xnQ ?_) | (refine xiQ ?_))) | (refine Tr.guard_s1 rfl rfl rfl (by (with_reducible rfl)) rfl rfl ?_) | (refine Tr.guard_n rfl rfl rfl (by first | (with_reducible assumption) | omega) rfl rfl ?_) | (with_reducible refine Tr.ret ?_)))
  (refine dnQ (hL := by exact ⟨[_], rfl⟩) ⟨rfl, ?_⟩)
  exact ⟨⟨false, rfl, fun h => (by cases h)⟩, rfl⟩
 by_cases h2 : n ≤ 8
 rotate_left
 ·(repeat (first | ((with_reducible refine Tr.step rfl ?_); (first | (refine xmQ ?_) | (refine xaQ ?_) | ((with_reducible refine Knd.pick ?_); (first | (refine Exec.stab rfl (Stab.pick_t rfl (by (with_reducible rfl)) rfl) rfl ?_) | (refine Exec.stab rfl (Stab.pick_td rfl (by omega) rfl) rfl ?_) | (refine Exec.stab rfl (Stab.pick_fd rfl (by omega) rfl) rfl ?_))))) | (with_reducible first | apply Tr.next | apply Tr.nil) | ((refine Tr.guard_l rfl rfl rfl (by (with_reducible rfl)) ?_); (first | ((with_reducible refine Knd.load ?_); (refine Exec.stab rfl (Stab.load rfl (tysOk.get rfl) rfl (by repeat (first | exact Has.here | apply Has.there)) (by assumption)) rfl ?_)) | (refine xfQ ?_) | (refine xnQ ?_) | (refine xiQ ?_))) | ((refine Tr.guard_y rfl rfl rfl (by first | (with_reducible assumption) | omega) ?_); (first | (refine xmQ ?_) | (refine xnQ ?_) | (refine xiQ ?_))) | (refine Tr.guard_n rfl rfl rfl (by first | (with_reducible assumption) | omega) rfl rfl ?_) | (with_reducible refine Tr.ret ?_)))
  (refine dnQ (hL := by exact ⟨[_], rfl⟩) ⟨rfl, ?_⟩)
  exact ⟨⟨false, rfl, fun h => (by cases h)⟩, rfl⟩
 (repeat (first | ((with_reducible refine Tr.step rfl ?_); (first | (refine xmQ ?_) | (refine xaQ ?_) | ((with_reducible refine Knd.pick ?_); (first | (refine Exec.stab rfl (Stab.pick_t rfl (by (with_reducible rfl)) rfl) rfl ?_) | (refine Exec.stab rfl (Stab.pick_td rfl (by omega) rfl) rfl ?_))))) | (with_reducible first | apply Tr.next | apply Tr.nil) | ((refine Tr.guard_l rfl rfl rfl (by (with_reducible rfl)) ?_); (first | ((with_reducible refine Knd.load ?_); (refine Exec.stab rfl (Stab.load rfl (tysOk.get rfl) rfl (by repeat (first | exact Has.here | apply Has.there)) (by assumption)) rfl ?_)) | (refine xfQ ?_) | (refine xnQ ?_) | (refine xiQ ?_))) | ((refine Tr.guard_y rfl rfl rfl (by first | (with_reducible assumption) | omega) ?_); (first | (refine xmQ ?_) | (refine xnQ ?_) | (refine xiQ ?_))) | (with_reducible refine Tr.ret ?_)))
 (refine dnQ (hL := by exact ⟨[_], rfl⟩) ⟨rfl, ?_⟩)
 exact ⟨⟨_, rfl, fun _ => ⟨hb rfl, h1⟩⟩, rfl⟩
set_option maxHeartbeats 2000000 in
theorem fewTab_fn (M : Mem) (A : Option Addr) (c : Nat) (l : List (List Bool)) (hl : Fits2 M (.slice A l.length c) l) : Fn0 Tryz.prog 32 [.slice A l.length c] M (fun r M' => (∃ b : Bool, r = .bool b ∧ (b = true → l.length ≤ 12 ∧ ∀ x ∈ l, x.length ≤ 12)) ∧ M = M') := by
 have hll := hl.len_le
 refine Fn.intro Tryz.func32 rfl rfl Tryz.ntmps32 rfl fun E F => ?_
 (refine rQ ?_)
 refine Tr.loop (α := Nat) (fun i => ⟨19, [(3, .int .i64 (i : Int)), (0, .slice A l.length c)], [], M, [] ++ F⟩) (fun i => i ≤ l.length ∧ ∀ x ∈ l.take i, x.length ≤ 12) (fun i => l.length - i) 0 ⟨by simp, by simp⟩ hsQ (fun i hi => ?_)
 obtain ⟨hi, hall⟩ := hi
 by_cases hlt : i < l.length
 ·obtain ⟨x, hx⟩ := get_of_lt hlt
  obtain ⟨hA, ch, hat, B, k, rfl, hB⟩ := hl.elem hx
  by_cases h : x.length ≤ 12
  ·(refine rQ ?_)
   refine Tr.again (i + 1) ⟨hlt, fun y hy => ?_⟩ (by omega) hsQ
   rw [List.take_add_one, hx, List.mem_append] at hy
   rcases hy with hy | hy
   ·exact hall y hy
   ·simp at hy; subst hy; exact h
  ·(refine rQ ?_)
   (refine dnQ (hL := by exact ⟨[], rfl⟩) ⟨rfl, ?_⟩)
   exact ⟨⟨false, rfl, fun h => (by cases h)⟩, rfl⟩
 ·have e : i = l.length := by omega
  subst e
  rw [List.take_length] at hall
  by_cases h : l.length ≤ 12
  ·(refine rQ ?_)
   (refine dnQ (hL := by exact ⟨[], rfl⟩) ⟨rfl, ?_⟩)
   exact ⟨⟨true, by rw [decide_eq_true (by omega)]; rfl, fun _ => ⟨h, hall⟩⟩, rfl⟩
  ·(refine rQ ?_)
   (refine dnQ (hL := by exact ⟨[], rfl⟩) ⟨rfl, ?_⟩)
   exact ⟨⟨false, by rw [decide_eq_false (by omega)]; rfl, fun h => (by cases h)⟩, rfl⟩
set_option maxHeartbeats 4000000 in
theorem few31_fn (M : Mem) (ws : List Value) (w : Wd) (hw : RWd M ws w) (v : Value) (k : Bp) (hk : RBp M v k) : Fn0 Tryz.prog 11 [.agg ws.toArray, v] M (fun r M' => (∃ b : Bool, r = .bool b ∧ (b = true → FewB w k)) ∧ M = M') := by
 have h11 := hw.len
 obtain ⟨As, cs, Ar, cr, Af, cf, Ad, cd, rfl, h1, h2, h3, h4⟩ := hk
 refine Fn.intro Tryz.func11 rfl rfl Tryz.ntmps11 rfl fun E F => ?_
 (repeat (first | ((with_reducible refine Tr.step rfl ?_); (first | (refine xaQ ?_) | ((with_reducible refine Knd.load ?_); (first | (refine xlQ ?_) | (refine Exec.stab rfl (Stab.loadW rfl (tysOk.get rfl) rfl (by repeat (first | exact Has.here | apply Has.there)) (by assumption)) rfl ?_))) | (refine xfQ ?_) | ((with_reducible refine Knd.box ?_); (refine Exec.box rfl rfl (fun b => ?_))))) | (with_reducible first | apply Tr.next | apply Tr.seq | apply Tr.region | apply Tr.nil)))
 ((refine Tr.step rfl ?_)); refine Exec.call0 rfl (few29_fn M ws w hw As Ar k.sups.length cs k.reqs.length cr) rfl ?_
 rintro _ _ _ ⟨⟨b, rfl, hb⟩, rfl⟩
 cases b with
 | false =>
  (refine rQ ?_)
  (refine dnQ (hL := by exact ⟨[_, _], rfl⟩) ⟨rfl, ?_⟩)
  exact ⟨⟨false, rfl, fun h => (by cases h)⟩, rfl⟩
 | true =>
 by_cases e1 : k.sups.length ≤ 5
 rotate_left
 ·(refine rQ ?_)
  (refine dnQ (hL := by exact ⟨[_, _], rfl⟩) ⟨rfl, ?_⟩)
  exact ⟨⟨false, rfl, fun h => (by cases h)⟩, rfl⟩
 by_cases e2 : k.reqs.length ≤ 5
 rotate_left
 ·(refine rQ ?_)
  (refine dnQ (hL := by exact ⟨[_, _], rfl⟩) ⟨rfl, ?_⟩)
  exact ⟨⟨false, rfl, fun h => (by cases h)⟩, rfl⟩
 (refine rQ ?_)
 ((refine Tr.guard_y rfl rfl rfl (by omega) ?_)); refine Exec.call0 rfl (fewTab_fn M Af cf k.fits h3) rfl ?_
 rintro _ _ _ ⟨⟨b, rfl, hb2⟩, rfl⟩
 cases b with
 | false =>
  (refine rQ ?_)
  (refine dnQ (hL := by exact ⟨[_, _], rfl⟩) ⟨rfl, ?_⟩)
  exact ⟨⟨false, rfl, fun h => (by cases h)⟩, rfl⟩
 | true =>
 by_cases e3 : k.rds.length ≤ 60
 ·(refine rQ ?_)
  (refine dnQ (hL := by exact ⟨[_, _], rfl⟩) ⟨rfl, ?_⟩)
  exact ⟨⟨true, by rw [decide_eq_true (by omega)]; rfl, fun _ => ⟨(hb rfl).1, (hb rfl).2, e1, e2, (hb2 rfl).1, (hb2 rfl).2, e3⟩⟩, rfl⟩
 ·(refine rQ ?_)
  (refine dnQ (hL := by exact ⟨[_, _], rfl⟩) ⟨rfl, ?_⟩)
  exact ⟨⟨false, by rw [decide_eq_false (by omega)]; rfl, fun h => (by cases h)⟩, rfl⟩
set_option maxHeartbeats 2000000 in
theorem rSameI_fn (M : Mem) (p q : List Int) (A B : Option Addr) (c k : Nat) (hp : SlOf 1 RI M (.slice A p.length c) p) (hq : SlOf 1 RI M (.slice B q.length k) q) : Fn0 Tryz.prog 50 [.slice A p.length c, .slice B q.length k] M (fun r M' => r = .bool (decide (p = q)) ∧ M = M') := by
 have l1 := hp.len_le
 have l2 := hq.len_le
 refine Fn.intro Tryz.func50 rfl rfl Tryz.ntmps50 rfl fun E F => ?_
 by_cases hl : p.length = q.length
 rotate_left
 ·(refine rQ ?_)
  (refine dnQ (hL := by exact ⟨[], rfl⟩) ⟨rfl, ?_⟩)
  exact ⟨by rw [decide_eq_false (fun h => hl (congrArg _ h))]; rfl, rfl⟩
 (refine rQ ?_)
 refine Tr.loop (α := Nat) (fun i => ⟨26, [(5, .int .i64 (i : Int)), (0, .slice A p.length c), (1, .slice B q.length k)], [], M, [] ++ F⟩) (fun i => i ≤ p.length ∧ p.take i = q.take i) (fun i => p.length - i) 0 ⟨by simp, by simp⟩ hsQ (fun i hi => ?_)
 obtain ⟨hi, heq⟩ := hi
 by_cases hlt : i < p.length
 ·obtain ⟨x, hx⟩ := get_of_lt hlt
  obtain ⟨y, hy⟩ := get_of_lt (xs := q) (i := i) (by omega)
  obtain ⟨hA, ch1, hat, rfl⟩ := hp.elem hx
  obtain ⟨hB, ch2, hbt, rfl⟩ := hq.elem hy
  skip
  by_cases hk : ¬ x = y
  ·(refine rQ ?_)
   (((apply Tr.draw); (kernel_rfl)); (refine tkQ 0 (hB := by exact fun _ h => h) (s := by exact Stab.move rfl) ?_); (refine tkQ 1 (s := by exact Stab.move rfl) ?_); (refine tkQ 4 (s := by exact Stab.move rfl) ?_); (refine tkQ 5 (s := by exact Stab.move rfl) ?_); (refine tkQ 2 (s := by exact sxQ) ?_); (refine tkQ 6 (s := by exact sxQ) ?_); (refine tkQ 3 (s := by exact sMQ) ?_); (refine tkQ 7 (s := by exact sMQ) ?_); (refine tkQ 8 (s := by exact siQ) ?_); (refine TrA.done (by kernel_rfl) ?_))
   (refine rQ ?_)
   (refine dnQ (hL := by exact ⟨[], rfl⟩) ⟨rfl, ?_⟩)
   exact ⟨by rw [decide_eq_false (fun h => by rw [h, hy] at hx; cases hx; exact hk rfl)]; rfl, rfl⟩
  ·(refine rQ ?_)
   (((apply Tr.draw); (kernel_rfl)); (refine tkQ 0 (hB := by exact fun _ h => h) (s := by exact Stab.move rfl) ?_); (refine tkQ 1 (s := by exact Stab.move rfl) ?_); (refine tkQ 4 (s := by exact Stab.move rfl) ?_); (refine tkQ 5 (s := by exact Stab.move rfl) ?_); (refine tkQ 2 (s := by exact sxQ) ?_); (refine tkQ 6 (s := by exact sxQ) ?_); (refine tkQ 3 (s := by exact sMQ) ?_); (refine tkQ 7 (s := by exact sMQ) ?_); (refine tkQ 8 (s := by exact siQ) ?_); (refine TrA.done (by kernel_rfl) ?_))
   (refine rQ ?_)
   refine Tr.again (i + 1) ⟨by omega, by rw [List.take_add_one, List.take_add_one, hx, hy, heq, Classical.not_not.1 hk]⟩ (by omega) hsQ
 ·have e : i = p.length := by omega
  subst e
  rw [List.take_length, hl, List.take_length] at heq
  (refine rQ ?_)
  (refine dnQ (hL := by exact ⟨[], rfl⟩) ⟨rfl, ?_⟩)
  exact ⟨by rw [decide_eq_true heq]; rfl, rfl⟩
end Go.Proofs.YtmikfjcdgkopkaaGreat

/-
 Promises: comparisons of allocations.
 Conditions: none.
-/
namespace Go.Proofs.YtmikfjcdgkopkaaGreat
open Go Bf
attribute [local irreducible] Tr Exec Stab HasTy Go.Addr.add IntKind.wrap
theorem sameI2_fn (M : Mem) (p q : List (List Int)) (A B : Option Addr) (c k : Nat) (hp : SlOf 1 RRowI M (.slice A p.length c) p) (hq : SlOf 1 RRowI M (.slice B q.length k) q) : Fn0 Tryz.prog 49 [.slice A p.length c, .slice B q.length k] M (fun r M' => r = .bool (decide (p = q)) ∧ M = M') := by
 have l1 := hp.len_le
 have l2 := hq.len_le
 refine Fn.intro Tryz.func49 rfl rfl Tryz.ntmps49 rfl fun E F => ?_
 by_cases hl : p.length = q.length
 rotate_left
 ·(refine rQ ?_)
  (refine dnQ (hL := by exact ⟨[], rfl⟩) ⟨rfl, ?_⟩)
  exact ⟨by rw [decide_eq_false (fun h => hl (congrArg _ h))]; rfl, rfl⟩
 (refine rQ ?_)
 refine Tr.loop (α := Nat) (fun i => ⟨27, [(5, .int .i64 (i : Int)), (0, .slice A p.length c), (1, .slice B q.length k)], [], M, [] ++ F⟩) (fun i => i ≤ p.length ∧ p.take i = q.take i) (fun i => p.length - i) 0 ⟨by simp, by simp⟩ hsQ (fun i hi => ?_)
 obtain ⟨hi, heq⟩ := hi
 by_cases hlt : i < p.length
 ·obtain ⟨x, hx⟩ := get_of_lt hlt
  obtain ⟨y, hy⟩ := get_of_lt (xs := q) (i := i) (by omega)
  obtain ⟨hA, ch1, hat, rA, ra, rfl, hxr⟩ := hp.elem hx
  obtain ⟨hB, ch2, hbt, rB, rb, rfl, hyr⟩ := hq.elem hy
  (refine rQ ?_)
  (((apply Tr.draw); (kernel_rfl)); (refine tkQ 0 (hB := by exact fun _ h => h) (s := by exact Stab.move rfl) ?_); (refine tkQ 1 (s := by exact Stab.move rfl) ?_); (refine tkQ 4 (s := by exact Stab.move rfl) ?_); (refine tkQ 5 (s := by exact Stab.move rfl) ?_); (refine tkQ 2 (s := by exact sxQ) ?_); (refine tkQ 6 (s := by exact sxQ) ?_); (refine tkQ 3 (s := by exact sMQ) ?_); (refine tkQ 7 (s := by exact sMQ) ?_); (refine TrA.eff 8 rfl (by kernel_rfl) (by exact .inl rfl) ?_))
  refine Exec.call0 rfl (rSameI_fn M x y rA rB ra rb hxr hyr) rfl ?_
  rintro _ _ hm9 ⟨rfl, rfl⟩
  refine ⟨hm9, (by exact fun _ h => h), ?_⟩
  by_cases hk : x = y
  ·subst hk
   rw [decide_eq_true rfl]
   ((refine tkQ 9 (s := by exact Stab.not rfl) ?_); (refine TrA.done (by kernel_rfl) ?_))
   (refine rQ ?_)
   refine Tr.again (i + 1) ⟨by omega, by rw [List.take_add_one, List.take_add_one, hx, hy, heq]⟩ (by omega) hsQ
  ·rw [decide_eq_false hk]
   ((refine tkQ 9 (s := by exact Stab.not rfl) ?_); (refine TrA.done (by kernel_rfl) ?_))
   (refine rQ ?_)
   (refine dnQ (hL := by exact ⟨[], rfl⟩) ⟨rfl, ?_⟩)
   exact ⟨by rw [decide_eq_false (fun h => by rw [h, hy] at hx; cases hx; exact hk rfl)]; rfl, rfl⟩
 ·have e : i = p.length := by omega
  subst e
  rw [List.take_length, hl, List.take_length] at heq
  (refine rQ ?_)
  (refine dnQ (hL := by exact ⟨[], rfl⟩) ⟨rfl, ?_⟩)
  exact ⟨by rw [decide_eq_true heq]; rfl, rfl⟩
end Go.Proofs.YtmikfjcdgkopkaaGreat

/-
 Promises: are two answers equal?
 Conditions: none.
-/
namespace Go.Proofs.YtmikfjcdgkopkaaGreat
open Go Bf
attribute [local irreducible] Tr Exec Stab HasTy Go.Addr.add IntKind.wrap
structure An where
 ok : Bool
 am : List (List Int)
 cf : List Int
 rd : List Rd
def RAn (M : Mem) (v : Value) (a : An) : Prop := ∃ A ca B cb D cd, v = .agg #[.bool a.ok, .slice A a.am.length ca, .slice B a.cf.length cb, .slice D a.rd.length cd] ∧ Ints2 M (.slice A a.am.length ca) a.am ∧ Ints M (.slice B a.cf.length cb) a.cf ∧ SlOf 5 RRd M (.slice D a.rd.length cd) a.rd
set_option maxHeartbeats 8000000 in
theorem sameAn_fn (M : Mem) (u v : Value) (k l : An) (hk : RAn M u k) (hl : RAn M v l) : Fn0 Tryz.prog 19 [u, v] M (fun r M' => (∃ q : Bool, r = .bool q ∧ (q = true ↔ k = l)) ∧ M = M') := by
 obtain ⟨A, ca, B, cb, D, cd, rfl, h1, h2, h3⟩ := hk
 obtain ⟨A', ca', B', cb', D', cd', rfl, g1, g2, g3⟩ := hl
 refine Fn.intro Tryz.func19 rfl rfl Tryz.ntmps19 rfl fun E F => ?_
 by_cases e1 : k.ok = l.ok
 rotate_left
 ·(repeat (first | ((with_reducible refine Tr.step rfl ?_); (first | (refine xmQ ?_) | (refine xaQ ?_) | (refine xlQ ?_) | (refine xfQ ?_) | ((with_reducible refine Knd.binOp ?_); (refine Exec.stab rfl (Stab.booleq rfl rfl (tysOk.get rfl) rfl) rfl ?_)) | ((with_reducible refine Knd.pick ?_); (first | (refine Exec.stab rfl (Stab.pick_f rfl (by (with_reducible rfl)) rfl) rfl ?_) | (refine Exec.stab rfl (Stab.pick_fd rfl (by (with_reducible assumption)) rfl) rfl ?_))) | ((with_reducible refine Knd.box ?_); (refine Exec.box rfl rfl (fun b => ?_))))) | (with_reducible first | apply Tr.next | apply Tr.seq | apply Tr.region | apply Tr.nil) | (refine Tr.guard_s1 rfl rfl rfl (by (with_reducible rfl)) rfl rfl ?_) | (refine Tr.guard_n rfl rfl rfl (by (with_reducible assumption)) rfl rfl ?_) | (with_reducible refine Tr.ret ?_)))
  (refine dnQ (hL := by exact ⟨[_, _], rfl⟩) ⟨rfl, ?_⟩)
  exact ⟨⟨_, rfl, fun h => (by cases h), fun h => absurd (congrArg An.ok h) e1⟩, rfl⟩
 (repeat (first | ((with_reducible refine Tr.step rfl ?_); (first | (refine xmQ ?_) | (refine xaQ ?_) | (refine xlQ ?_) | (refine xfQ ?_) | ((with_reducible refine Knd.binOp ?_); (refine Exec.stab rfl (Stab.booleq rfl rfl (tysOk.get rfl) rfl) rfl ?_)) | ((with_reducible refine Knd.box ?_); (refine Exec.box rfl rfl (fun b => ?_))))) | (with_reducible first | apply Tr.next | apply Tr.seq | apply Tr.region | apply Tr.nil) | ((refine Tr.guard_y rfl rfl rfl (by (with_reducible assumption)) ?_); (first | (refine xlQ ?_) | (refine xfQ ?_)))))
 ((refine Tr.guard_y rfl rfl rfl (by (with_reducible assumption)) ?_)); refine Exec.call0 rfl (sameI2_fn M k.am l.am A A' ca ca' h1 g1) rfl ?_
 rintro _ _ _ ⟨rfl, rfl⟩
 by_cases e2 : k.am = l.am
 rotate_left
 ·rw [decide_eq_false e2]
  (refine rQ ?_)
  (refine dnQ (hL := by exact ⟨[_, _], rfl⟩) ⟨rfl, ?_⟩)
  exact ⟨⟨_, rfl, fun h => (by cases h), fun h => absurd (congrArg An.am h) e2⟩, rfl⟩
 rw [decide_eq_true e2]
 (refine rQ ?_)
 ((refine Tr.guard_l rfl rfl rfl (by (with_reducible rfl)) ?_)); refine Exec.call0 rfl (rSameI_fn M k.cf l.cf B B' cb cb' h2 g2) rfl ?_
 rintro _ _ _ ⟨rfl, rfl⟩
 by_cases e3 : k.cf = l.cf
 rotate_left
 ·rw [decide_eq_false e3]
  (refine rQ ?_)
  (refine dnQ (hL := by exact ⟨[_, _], rfl⟩) ⟨rfl, ?_⟩)
  exact ⟨⟨_, rfl, fun h => (by cases h), fun h => absurd (congrArg An.cf h) e3⟩, rfl⟩
 rw [decide_eq_true e3]
 (refine rQ ?_)
 ((refine Tr.guard_l rfl rfl rfl (by (with_reducible rfl)) ?_)); refine Exec.call0 rfl (sameReads_fn M k.rd l.rd D D' cd cd' h3 g3) rfl ?_
 rintro _ _ _ ⟨rfl, rfl⟩
 (refine rQ ?_)
 (refine dnQ (hL := by exact ⟨[_, _], rfl⟩) ⟨rfl, ?_⟩)
 refine ⟨⟨_, rfl, ?_⟩, rfl⟩
 cases k; cases l
 simp_all
end Go.Proofs.YtmikfjcdgkopkaaGreat

/-
 Promises, plain: the laws Again and Earliest.
 Conditions: none.
-/
namespace Go.Proofs.YtmikfjcdgkopkaaGreat
open Go Bf
theorem askE_ok {w : Wd} {k : Bp} {r : Rq} (h : okB w k) (h1 : r.no ∉ k.reqs.map (·.no)) (h2 : okRq r) (h3 : k.reqs.length + 1 ≤ 64) : askE w k r = 0 := by
 rw [askE, if_neg (fun hn => hn h), if_neg h1, if_neg (fun h => h.elim (fun h => h h2) (fun h => by omega))]
theorem less_len {l : List Rq} {i : Nat} {x : Rq} (hn : (l.map (·.no)).Nodup) (hx : l[i]? = some x) : (lessR l x.no).length = l.length - 1 := by
 rw [← erase_less hn hx, List.length_eraseIdx_of_lt (List.getElem?_eq_some_iff.1 hx).1]
theorem cons_erase {α : Type} : ∀ {l : List α} {i : Nat} (hi : i < l.length), (l[i] :: l.eraseIdx i).Perm l
 | [], _, hi => by simp at hi
 | x :: l, 0, _ => List.Perm.refl _
 | x :: l, i + 1, hi => (List.Perm.swap x _ _).trans ((cons_erase (l := l) (i := i) (by simpa using hi)).cons x)
theorem less_app {l : List Rq} {i : Nat} {x : Rq} (hn : (l.map (·.no)).Nodup) (hx : l[i]? = some x) : SubInj (lessR l x.no ++ [x]) l := by
 rw [← erase_less hn hx]
 obtain ⟨hi, rfl⟩ := List.getElem?_eq_some_iff.1 hx
 exact SubInj.perm ((List.perm_append_singleton _ _).trans (cons_erase hi))
theorem less_no (l : List Rq) (no : Int) : no ∉ (lessR l no).map (·.no) := by
 intro h
 obtain ⟨y, hy, e⟩ := List.mem_map.1 h
 have := (List.mem_filter.1 hy).2
 simp only [Bool.not_eq_true', decide_eq_false_iff_not] at this
 exact this e
theorem again_ok {w : Wd} {k : Bp} {i : Nat} {x : Rq} (h : okB w k) (hx : k.reqs[i]? = some x) : askE w (dropB w k x.no) x = 0 ∧ Feas (pbW w (dropB w k x.no).known (dropB w k x.no).sups ((dropB w k x.no).reqs ++ [x])) := by
 have hl := less_len h.1.1 hx
 have h64 := h.2.1.1.2
 have hi := (List.getElem?_eq_some_iff.1 hx).1
 refine ⟨askE_ok (dropB_ok h _) (less_no _ _) (h.2.1.2.2 x (List.mem_of_getElem? hx)) ?_, ?_⟩
 ·show (lessR k.reqs x.no).length + 1 ≤ 64
  omega
 ·refine feasW_sub (less_app h.1.1 hx) ?_
  show Feas (pbW w k.known k.sups k.reqs)
  rw [← h.pb]
  exact h.2.2.2
theorem then_ok {w : Wd} {k : Bp} {r : Rq} {no : Int} (hr : askE w k r = 0) (hf : Feas (pbW w k.known k.sups (k.reqs ++ [r]))) : askE w (dropB w k no) r = 0 ∧ Feas (pbW w (dropB w k no).known (dropB w k no).sups ((dropB w k no).reqs ++ [r])) := by
 obtain ⟨hok, hno, ht⟩ := askE_zero hr
 have hq := (okT_app hok.2.1).1 ht
 refine ⟨askE_ok (dropB_ok hok _) (fun h => hno (((less_sub _ _).map _).subset h)) hq.1 ?_, ?_⟩
 ·show (lessR k.reqs no).length + 1 ≤ 64
  have := (less_sub k.reqs no).length_le
  omega
 ·exact feasW_sub (SubInj.sub ((less_sub _ _).append_right [r])) hf
theorem onDay_ask {w : Wd} {k : Bp} {r : Rq} {d : Int} (h : askE w k r = 0) (h0 : r.due ≤ d) (h1 : d < 1024) : askE w k (onDay r d) = 0 := by
 obtain ⟨hok, hno, ht⟩ := askE_zero h
 obtain ⟨⟨a1, a2, a3, a4, a5, a6⟩, hl⟩ := (okT_app hok.2.1).1 ht
 refine askE_ok hok hno ⟨a1, a2, a3, ?_, a5, a6⟩ hl
 simp only [onDay]
 omega
theorem ear_before {w : Wd} {k : Bp} {r : Rq} {first d : Int} {ok : Bool} (hE : EarP w k r first ok) (hd : r.due ≤ d) (h1 : d < 1024) (hn : ok = true → d < first) : ¬ canF w k r d := by
 refine no_day (d - r.due).toNat (by omega) fun d' h2 h3 hm => ?_
 rcases hE with ⟨rfl, -, -, hE⟩ | ⟨rfl, -, hE⟩
 ·exact hE d' hm h2 (by have := hn rfl; omega)
 ·exact hE d' hm h2 (by omega)
end Go.Proofs.YtmikfjcdgkopkaaGreat

/-
 Promises, plain: what Ask answers, as one answer; books at another time.
 Conditions: none.
-/
namespace Go.Proofs.YtmikfjcdgkopkaaGreat
open Go Bf
def zA : An := ⟨false, [], [], []⟩
noncomputable def bookP (w : Wd) (k : Bp) (r : Rq) : Bp := open Classical in if askE w k r ≠ 0 then zP else if Feas (pbW w k.known k.sups (k.reqs ++ [r])) then more w k r else k
def AnsP (w : Wd) (k : Bp) (r : Rq) (a : An) : Prop :=
 (askE w k r ≠ 0 ∧ a = zA) ∨ (askE w k r = 0 ∧ Feas (pbW w k.known k.sups (k.reqs ++ [r])) ∧ ∃ al, LexMax (pbW w k.known k.sups (k.reqs ++ [r])) al ∧ a = ⟨true, allocOf al (amR (k.reqs ++ [r])).length (amS k.sups).length, [], readsF w k.sups [r]⟩) ∨ (askE w k r = 0 ∧ ¬ Feas (pbW w k.known k.sups (k.reqs ++ [r])) ∧ a = ⟨false, [], confF w k r, readsF w k.sups [r]⟩)
theorem AnsP.unique {w : Wd} {k : Bp} {r : Rq} {a a' : An} (h : AnsP w k r a) (h' : AnsP w k r a') : a = a' := by
 rcases h with ⟨h1, rfl⟩ | ⟨h1, h2, al, h3, rfl⟩ | ⟨h1, h2, rfl⟩ <;> rcases h' with ⟨g1, rfl⟩ | ⟨g1, g2, bl, g3, rfl⟩ | ⟨g1, g2, rfl⟩
 ·rfl
 ·exact absurd g1 h1
 ·exact absurd g1 h1
 ·exact absurd h1 g1
 ·have : allocOf al (amR (k.reqs ++ [r])).length (amS k.sups).length = allocOf bl (amR (k.reqs ++ [r])).length (amS k.sups).length := allocOf_congr fun i hi j hj => h3.unique g3 i hi j hj
  rw [this]
 ·exact absurd h2 g2
 ·exact absurd h1 g1
 ·exact absurd g2 h2
 ·rfl
theorem AnsP.ok_iff {w : Wd} {k : Bp} {r : Rq} {a : An} (h : AnsP w k r a) (h0 : askE w k r = 0) : a.ok = true ↔ Feas (pbW w k.known k.sups (k.reqs ++ [r])) := by
 rcases h with ⟨h1, rfl⟩ | ⟨h1, h2, al, h3, rfl⟩ | ⟨h1, h2, rfl⟩
 ·exact absurd h0 h1
 ·exact ⟨fun _ => h2, fun _ => rfl⟩
 ·exact ⟨fun h => (by cases h), fun h => absurd h h2⟩
def AskW (w : Wd) (k : Bp) (r : Rq) (v : Value) (M : Mem) : Prop := ∃ x a y, v = .tuple #[x, a, .int .i64 (askE w k r)] ∧ RBp M x (bookP w k r) ∧ RAn M a y ∧ AnsP w k r y
theorem RAn.zero (M : Mem) : RAn M (.agg #[.bool false, .slice none 0 0, .slice none 0 0, .slice none 0 0]) zA := ⟨none, 0, none, 0, none, 0, rfl, SlOf.nil _ _ _, SlOf.nil _ _ _, SlOf.nil _ _ _⟩
theorem RAn.mono {M M' : Mem} {v : Value} {k : An} (h : RAn M v k) (hm : Mem.le M M') : RAn M' v k := by
 obtain ⟨A, ca, B, cb, D, cd, rfl, h1, h2, h3⟩ := h
 exact ⟨A, ca, B, cb, D, cd, rfl, h1.mono RRowI.mono hm, h2.mono RI.mono hm, h3.mono RRd.mono hm⟩
theorem AskV.one {w : Wd} {k : Bp} {r : Rq} {v : Value} {M : Mem} (h : AskV w k r v M) : AskW w k r v M := by
 rcases h with ⟨h0, -, x, a, rfl, D, cd, hD, ⟨hF, hx, al, A, c, hl, rfl, hA⟩ | ⟨hF, hx, B, c, rfl, hB⟩⟩ | ⟨hne, rfl⟩
 ·refine ⟨x, _, ⟨true, allocOf al (amR (k.reqs ++ [r])).length (amS k.sups).length, [], readsF w k.sups [r]⟩, by rw [h0]; rfl, ?_, ⟨A, c, none, 0, D, cd, rfl, hA, SlOf.nil _ _ _, hD⟩, .inr (.inl ⟨h0, hF, al, hl, rfl⟩)⟩
  unfold bookP
  rw [if_neg (fun h => h h0), if_pos hF]
  exact hx
 ·refine ⟨x, _, ⟨false, [], confF w k r, readsF w k.sups [r]⟩, by rw [h0]; rfl, ?_, ⟨none, 0, B, c, D, cd, rfl, SlOf.nil _ _ _, hB, hD⟩, .inr (.inr ⟨h0, hF, rfl⟩)⟩
  unfold bookP
  rw [if_neg (fun h => h h0), if_neg hF]
  exact hx
 ·refine ⟨_, _, zA, rfl, ?_, RAn.zero M, .inl ⟨hne, rfl⟩⟩
  unfold bookP
  rw [if_pos hne]
  exact RBp.zero M
def atTime (k : Bp) (t : Int) : Bp := { k with known := t }
theorem atTime_ok {w : Wd} {k : Bp} {t : Int} (h : okB w k) (ha : alikeF w k.rds k.known t) : okB w (atTime k t) := by
 obtain ⟨h1, h2, ⟨h3, h4⟩, h5⟩ := h
 have e : fitsT w t k.sups k.reqs = k.fits := by rw [← h3]; exact (fitsT_alike (by rw [h4]; exact ha)).symm
 exact ⟨h1, h2, ⟨e, h4⟩, h5⟩
theorem atTime_ask {w : Wd} {k : Bp} {r : Rq} {t : Int} (h : okB w k) (ha : alikeF w k.rds k.known t) : askE w (atTime k t) r = askE w k r := by
 unfold askE
 rw [if_neg (not_not_intro h), if_neg (not_not_intro (atTime_ok h ha))]
 rfl
theorem fits_time {w : Wd} {k : Bp} {r : Rq} {t : Int} (h : okB w k) (ha : alikeF w k.rds k.known t) (hr : alikeF w (readsF w k.sups [r]) k.known t) : fitsT w t k.sups (k.reqs ++ [r]) = fitsT w k.known k.sups (k.reqs ++ [r]) := by
 refine (fitsT_alike fun y hy => ?_).symm
 obtain ⟨x, hx, z, hz, hc, rfl⟩ := mem_readsF.1 hy
 rcases List.mem_append.1 hz with hz | hz
 ·refine ha _ ?_
  rw [← h.2.2.1.2]
  exact mem_readsF.2 ⟨x, hx, z, hz, hc, rfl⟩
 ·exact hr _ (mem_readsF.2 ⟨x, hx, z, hz, hc, rfl⟩)
theorem AnsP.time {w : Wd} {k : Bp} {r : Rq} {t : Int} {a a' : An} (h : okB w k) (ha : alikeF w k.rds k.known t) (hr : alikeF w (readsF w k.sups [r]) k.known t) (h1 : AnsP w k r a) (h2 : AnsP w (atTime k t) r a') : a = a' := by
 refine h1.unique ?_
 have e := fits_time (r := r) h ha hr
 have e1 : pbW w (atTime k t).known (atTime k t).sups ((atTime k t).reqs ++ [r]) = pbW w k.known k.sups (k.reqs ++ [r]) := by
  show pbOf (fitsT w t k.sups (k.reqs ++ [r])) _ _ = pbOf _ _ _
  rw [e]; rfl
 have e2 : confF w (atTime k t) r = confF w k r := by
  have h3 : cutB w (atTime k t) r = cutB w k r := by
   show memF (cutFin (fitsT w t k.sups (k.reqs ++ [r])) (amS k.sups) (amR (k.reqs ++ [r]))) _ = _
   rw [e]; rfl
  unfold confF
  rw [h3]; rfl
 unfold AnsP at h2 ⊢
 rw [atTime_ask h ha, e1, e2] at h2
 exact h2
end Go.Proofs.YtmikfjcdgkopkaaGreat

/-
 Matching, plain: the chapter's examples.
 Conditions: none.
-/
namespace Go.Proofs.YtmikfjcdgkopkaaGreat
open Go Bf
theorem possD (fits : List (List Bool)) (sup need : List Int) (set : Nat) : Poss fits sup need set ↔ ∀ s, s ≤ set → (1 ≤ s → s &&& set = s → lackB fits sup need s ≤ 0) := ⟨fun h s h1 h2 h3 => h s h2 h1 h3, fun h s h1 h2 h3 => h s h2 h1 h3⟩
theorem x2_no : ¬ Feas (pbOf [] [] [1]) := by
 rw [feas_poss (vld_iff.1 (by decide)), possD]
 decide
theorem x2_cut : memF (cutFin [] [] [1]) 1 = [0] := by
 have h := memF_bits (fits := []) (sup := []) (need := [1]) (vld_iff.1 (by decide))
 have e : cutOfP [] [] [1] = 1 := by
  unfold cutOfP
  show cutS _ 1 1 = 1
  rw [cutS, if_pos ((possD _ _ _ _).2 (by decide)), cutS]
 rw [e] at h
 exact h
theorem x3_no : ¬ Feas (pbOf [[true, true]] [3] [2, 2]) := by
 rw [feas_poss (vld_iff.1 (by decide)), possD]
 decide
theorem x3_cut : memF (cutFin [[true, true]] [3] [2, 2]) 2 = [0, 1] := by
 have h := memF_bits (fits := [[true, true]]) (sup := [3]) (need := [2, 2]) (vld_iff.1 (by decide))
 have e : cutOfP [[true, true]] [3] [2, 2] = 3 := by
  unfold cutOfP
  show cutS _ 2 3 = 3
  rw [cutS, if_pos ((possD _ _ _ _).2 (by decide)), cutS, if_pos ((possD _ _ _ _).2 (by decide)), cutS]
 rw [e] at h
 exact h
end Go.Proofs.YtmikfjcdgkopkaaGreat

/-
 Promises, plain: the sample of the statements, computed.
 Conditions: none.
-/
namespace Go.Proofs.YtmikfjcdgkopkaaGreat
open Go Bf
def w0 : Wd := ⟨[], []⟩
def k0 : Bp := ⟨1, [], [], [], []⟩
def sA : List Sp := [⟨1, 0, 0, 0, 1024, 1⟩, ⟨1, 0, 0, 2, 1024, 3⟩]
def q40 : Rq := ⟨4, 0, 0, 5, 0, 0⟩
def q41 : Rq := ⟨4, 0, 0, 5, 0, 1⟩
def s7 : List Sp := [⟨1, 0, 0, 7, 1024, 3⟩]
def k7 : Bp := ⟨1, s7, [], [[]], []⟩
def q8 : Rq := ⟨8, 0, 0, 9, 0, 2⟩
def k8 : Bp := ⟨1, s7, [q8], [[true]], [((7, 0, 0), 9, 10)]⟩
def q2 : Rq := ⟨2, 0, 0, 9, 0, 2⟩
def q80 : Rq := ⟨8, 0, 0, 9, 0, 0⟩
def e1 : Rq := ⟨2, 0, 0, 3, 0, 1⟩
def e2 : Rq := ⟨2, 0, 0, 3, 0, 2⟩
theorem k0_mk : mkF w0 (bkN 1 []) [] = k0 := rfl
theorem k7_mk : mkF w0 (bkN 1 s7) [] = k7 := rfl
theorem k8_mk : more w0 k7 q8 = k8 := by
 show mkF w0 k7 [q8] = k8
 unfold mkF k8
 congr 1
theorem k7_drop : dropB w0 k8 8 = k7 := rfl
theorem sA_no : ¬ (sA.map (·.no)).Nodup := by decide
theorem okT_sA : okT sA [] := by decide
theorem okB_k0 : okB w0 k0 := okB_new (known := 1) (s := []) (by decide) (by decide)
theorem okB_k7 : okB w0 k7 := okB_new (known := 1) (s := s7) (by decide) (by decide)
theorem ask_40 : askE w0 k0 q40 = 0 := askE_ok okB_k0 (by decide) (by decide) (by decide)
theorem ask_41 : askE w0 k0 q41 = 0 := askE_ok okB_k0 (by decide) (by decide) (by decide)
theorem fe_40 : Feas (pbW w0 k0.known k0.sups (k0.reqs ++ [q40])) := by
 show Feas (pbOf [] [] [0])
 rw [feas_poss (vld_iff.1 (by decide)), possD]
 decide
theorem fe_41 : ¬ Feas (pbW w0 k0.known k0.sups (k0.reqs ++ [q41])) := x2_no
theorem cf_41 : confF w0 k0 q41 = [4] := by
 have h : cutB w0 k0 q41 = [0] := x2_cut
 unfold confF
 rw [h]
 rfl
theorem ask_8 : askE w0 k7 q8 = 0 := askE_ok okB_k7 (by decide) (by decide) (by decide)
theorem ft_8 : fitsT w0 k7.known k7.sups (k7.reqs ++ [q8]) = [[true]] := by decide
theorem fe_8 : Feas (pbW w0 k7.known k7.sups (k7.reqs ++ [q8])) := by
 unfold pbW
 rw [ft_8]
 show Feas (pbOf [[true]] [3] [2])
 rw [feas_poss (vld_iff.1 (by decide)), possD]
 decide
theorem al_8 {a : Nat → Nat → Int} (h : LexMax (pbW w0 k7.known k7.sups (k7.reqs ++ [q8])) a) : allocOf a (amR (k7.reqs ++ [q8])).length (amS k7.sups).length = [[2]] := by
 unfold pbW at h
 rw [ft_8] at h
 have h3 : (0 : Int) + sumN 1 (fun k => a k 0) = 2 := h.1.col 0 (by decide)
 simp only [sumN] at h3
 have e : a 0 0 = 2 := by omega
 show allocOf a 1 1 = [[2]]
 simp [allocOf, rowOf, List.range_succ, e]
theorem rd_8 : readsF w0 k7.sups [q8] = [((7, 0, 0), 9, 10)] := by decide
theorem okB_k8 : okB w0 k8 := by
 rw [← k8_mk]
 exact okB_more okB_k7 (by decide) (by decide) (by decide) fe_8
theorem ask_2 : askE w0 k8 q2 = 0 := askE_ok okB_k8 (by decide) (by decide) (by decide)
theorem ask_80 : askE w0 k8 q80 = 310 := by
 rw [askE, if_neg (fun h => h okB_k8), if_pos (by decide)]
theorem ft_2 : fitsT w0 k8.known k8.sups (k8.reqs ++ [q2]) = [[true, true]] := by decide
theorem fe_2 : ¬ Feas (pbW w0 k8.known k8.sups (k8.reqs ++ [q2])) := by
 unfold pbW
 rw [ft_2]
 exact x3_no
theorem cf_2 : confF w0 k8 q2 = [8, 2] := by
 have h : cutB w0 k8 q2 = [0, 1] := by
  unfold cutB
  rw [ft_2]
  exact x3_cut
 unfold confF
 rw [h]
 rfl
theorem ask_e1 : askE w0 k8 e1 = 0 := askE_ok okB_k8 (by decide) (by decide) (by decide)
theorem ask_e2 : askE w0 k8 e2 = 0 := askE_ok okB_k8 (by decide) (by decide) (by decide)
theorem fbnd0 : FBnd w0 := ⟨by decide, by simp [w0]⟩
theorem ft_e (r : Rq) (h : r.item = 0) (d : Int) (h1 : r.shelf = 0) : fitsT w0 k8.known k8.sups (k8.reqs ++ [onDay r d]) = [[true, decide (7 ≤ d) && decide (d ≤ 1024)]] := by
 have e : fitF w0 1 ⟨1, 0, 0, 7, 1024, 3⟩ (onDay r d) = (decide (7 ≤ d) && decide (d ≤ 1024)) := by
  unfold fitF couldF refusedF onDay
  simp only [h, h1, Int.add_zero]
  have : usedF w0 0 0 = true := by decide
  have h2 : ∀ (k : Ky) (x : Int), atF w0.facts k x 1 = none := fun _ _ => rfl
  rw [this, h2]
  simp
 show [[fitF w0 1 ⟨1, 0, 0, 7, 1024, 3⟩ q8, fitF w0 1 ⟨1, 0, 0, 7, 1024, 3⟩ (onDay r d)]] = _
 rw [e]
 rfl
theorem x7_no : ¬ Feas (pbOf [[true, false]] [3] [2, 1]) := by
 rw [feas_poss (vld_iff.1 (by decide)), possD]
 decide
theorem x8_no : ¬ Feas (pbOf [[true, false]] [3] [2, 2]) := by
 rw [feas_poss (vld_iff.1 (by decide)), possD]
 decide
theorem x9_yes : Feas (pbOf [[true, true]] [3] [2, 1]) := by
 rw [feas_poss (vld_iff.1 (by decide)), possD]
 decide
theorem can_e1 (d : Int) (hd : d < 1024) : canF w0 k8 e1 d ↔ 7 ≤ d := by
 unfold canF pbW
 rw [ft_e e1 rfl d rfl]
 show Feas (pbOf _ [3] [2, 1]) ↔ _
 by_cases h : 7 ≤ d
 ·rw [decide_eq_true h, decide_eq_true (show d ≤ 1024 by omega)]
  exact ⟨fun _ => h, fun _ => x9_yes⟩
 ·rw [decide_eq_false h, Bool.false_and]
  exact ⟨fun h2 => absurd h2 x7_no, fun h2 => absurd h2 h⟩
theorem can_e2 (d : Int) : ¬ canF w0 k8 e2 d := by
 unfold canF pbW
 rw [ft_e e2 rfl d rfl]
 show ¬ Feas (pbOf _ [3] [2, 2])
 cases (decide (7 ≤ d) && decide (d ≤ 1024)) with
 | false => exact x8_no
 | true => exact x3_no
theorem mat_7 (r : Rq) : matters w0 k8 r 7 := .inr (.inl ⟨⟨1, 0, 0, 7, 1024, 3⟩, by simp [k8, s7], rfl⟩)
theorem ear_e1 {day : Int} {ok : Bool} (h : EarP w0 k8 e1 day ok) : day = 7 ∧ ok = true := by
 rcases h with ⟨rfl, ⟨-, h1⟩, h2, h3⟩ | ⟨rfl, rfl, h3⟩
 ·have h4 := (can_e1 day h1).1 h2
  by_cases e : day = 7
  ·exact ⟨e, rfl⟩
  ·exact absurd ((can_e1 7 (by decide)).2 (by decide)) (h3 7 (mat_7 _) (by decide) (by omega))
 ·exact absurd ((can_e1 7 (by decide)).2 (by decide)) (h3 7 (mat_7 _) (by decide) (by decide))
theorem ear_e2 {day : Int} {ok : Bool} (h : EarP w0 k8 e2 day ok) : day = 0 ∧ ok = false := by
 rcases h with ⟨rfl, -, h2, -⟩ | ⟨rfl, rfl, -⟩
 ·exact absurd h2 (can_e2 day)
 ·exact ⟨rfl, rfl⟩
theorem chk_k8 : chkE w0 k8 = 0 := by rw [chkE, if_pos okB_k8]
def kBad : Bp := ⟨0, [], [⟨1, 0, 0, 1, 0, 1⟩], [], []⟩
theorem chk_bad : chkE w0 kBad = 310 := by
 rw [chkE, if_neg]
 intro h
 have h1 := h.2.2.2
 have : ¬ Feas (pbOf [] [] [1]) := x2_no
 exact this h1
end Go.Proofs.YtmikfjcdgkopkaaGreat

/-
 Promises: the sample of the statements, walked.
 Conditions: none.
-/
namespace Go.Proofs.YtmikfjcdgkopkaaGreat
open Go Bf
attribute [local irreducible] Tr Exec Stab HasTy Go.Addr.add IntKind.wrap
theorem lsupply_fn (M : Mem) (n d a : Int) : Fn0 Tryz.prog 29 [.int .i64 n, .int .i64 d, .int .i64 a] M (fun v M' => v = .agg #[.int .i64 n, .int .i64 0, .int .i64 0, .int .i64 d, .int .i64 1024, .int .i64 a] ∧ M = M') := by
 refine Fn.intro Tryz.func29 rfl rfl Tryz.ntmps29 rfl fun E F => ?_
 (repeat (first | ((with_reducible refine Tr.step rfl ?_); (first | (refine xmQ ?_) | (refine xWQ ?_) | ((with_reducible refine Knd.alloc ?_); (refine Exec.alloc (tysOk.get rfl) rfl rfl (fun b => ?_))) | ((with_reducible refine Knd.build ?_); (refine Exec.stab rfl (Stab.build tysOk rfl rfl rfl rfl (by repeat (first | exact BuildP.nil | ((apply BuildP.one); (rfl); (rfl); (first | rfl | assumption); (repeat (first | exact SetL.z | apply SetL.s)))))) rfl ?_)))) | (with_reducible first | apply Tr.next | apply Tr.seq | apply Tr.region | apply Tr.nil | apply Tr.ret)))
 (refine Tr.done (by first | exact .inl rfl | exact .inr rfl) rfl (by repeat (first | exact RVs.nil | (apply RVs.cons; (exact RV.cellW (by rfl) (tysOk.get (by rfl)) (by rfl) (by repeat (first | exact Has.here | apply Has.there)) (by first | rfl | assumption))))) (by first | exact Mem.le.refl _ | assumption) (by exact ⟨[_], rfl⟩) ⟨rfl, ?_⟩)
 exact ⟨rfl, rfl⟩
theorem lrequest_fn (M : Mem) (n d a : Int) : Fn0 Tryz.prog 30 [.int .i64 n, .int .i64 d, .int .i64 a] M (fun v M' => v = .agg #[.int .i64 n, .int .i64 0, .int .i64 0, .int .i64 d, .int .i64 0, .int .i64 a] ∧ M = M') := by
 refine Fn.intro Tryz.func30 rfl rfl Tryz.ntmps30 rfl fun E F => ?_
 (repeat (first | ((with_reducible refine Tr.step rfl ?_); (first | (refine xmQ ?_) | (refine xWQ ?_) | ((with_reducible refine Knd.alloc ?_); (refine Exec.alloc (tysOk.get rfl) rfl rfl (fun b => ?_))) | ((with_reducible refine Knd.build ?_); (refine Exec.stab rfl (Stab.build tysOk rfl rfl rfl rfl (by repeat (first | exact BuildP.nil | ((apply BuildP.one); (rfl); (rfl); (first | rfl | assumption); (repeat (first | exact SetL.z | apply SetL.s)))))) rfl ?_)))) | (with_reducible first | apply Tr.next | apply Tr.seq | apply Tr.region | apply Tr.nil | apply Tr.ret)))
 (refine Tr.done (by first | exact .inl rfl | exact .inr rfl) rfl (by repeat (first | exact RVs.nil | (apply RVs.cons; (exact RV.cellW (by rfl) (tysOk.get (by rfl)) (by rfl) (by repeat (first | exact Has.here | apply Has.there)) (by first | rfl | assumption))))) (by first | exact Mem.le.refl _ | assumption) (by exact ⟨[_], rfl⟩) ⟨rfl, ?_⟩)
 exact ⟨rfl, rfl⟩
def ws0 : List Value := [.slice none 0 0, .slice none 0 0, .slice none 0 0, .slice none 0 0, .slice none 0 0, .slice none 0 0, .slice none 0 0, .slice none 0 0, .slice none 0 0, .slice none 0 0, .slice none 0 0]
theorem rwd_w0 (M : Mem) : RWd M ws0 w0 :=
 ⟨rfl, by unfold ws0; repeat (first | exact AllOne.nil | refine AllOne.cons (by rfl) ?_), ⟨none, 0, rfl, SlOf.nil _ _ _⟩, none, 0, rfl, SlOf.nil _ _ _⟩
set_option maxHeartbeats 64000000 in
set_option maxRecDepth 20000 in
theorem sane31_fn (M : Mem) : Fn0 Tryz.prog 10 [] M (fun v _ => v = .bool true) := by
 refine Fn.intro Tryz.func10 rfl rfl Tryz.ntmps10 rfl fun E F => ?_
 (repeat (first | ((with_reducible refine Tr.step rfl ?_); (first | (refine xaQ ?_) | (refine xWQ ?_) | ((with_reducible refine Knd.alloc ?_); (refine Exec.alloc (tysOk.get rfl) rfl rfl (fun b => ?_))) | ((with_reducible refine Knd.build ?_); (refine Exec.stab rfl (Stab.build tysOk rfl rfl rfl rfl (by repeat (exact BuildP.nil))) rfl ?_)))) | (with_reducible first | apply Tr.next | apply Tr.seq | apply Tr.region | apply Tr.nil)))
 generalize b = b1
 (((apply Tr.draw); (kernel_rfl)); (refine tkQ 0 (hB := by exact fun _ h => h) (s := by exact swQ) ?_))
 ((refine TrM.start1 _ (by exact PA.alloc 8 rfl (tysOk.get rfl) rfl rfl) (by kernel_rfl) ?_); (refine TrM.eff 1 rfl (by kernel_rfl) (by exact .inl rfl) (by repeat (first | exact PendOk.nil | refine PendOk.cons rfl (by repeat (first | exact SubFr.nil | refine SubFr.cons rfl ?_)) ?_)) (by exact fun _ h => h) (by repeat (first | apply AppF.cons | exact AppF.nil)) (by repeat (first | apply AppF.cons | exact AppF.app)) (fun Y X => ?_)))
 refine Exec.call0 rfl (lsupply_fn M 1 0 1) rfl ?_
 rintro _ _ _ ⟨rfl, rfl⟩
 (refine ⟨_, _, (by repeat (first | apply App.cons | exact App.nil | exact App.app)), (by repeat (first | apply App.cons | exact App.nil | exact App.app)), rfl, (by first | exact Mem.le.refl _ | assumption), (by exact fun _ h => h), ?_⟩)
 ((refine TrM.eff 2 rfl (by kernel_rfl) (by exact .inl rfl) (by repeat (first | exact PendOk.nil | refine PendOk.cons rfl (by repeat (first | exact SubFr.nil | refine SubFr.cons rfl ?_)) ?_)) (by exact fun _ h => h) (by repeat (first | apply AppF.cons | exact AppF.nil)) (by repeat (first | apply AppF.cons | exact AppF.app)) (fun Y X => ?_)))
 refine Exec.call0 rfl (lsupply_fn M 1 2 3) rfl ?_
 rintro _ _ _ ⟨rfl, rfl⟩
 (refine ⟨_, _, (by repeat (first | apply App.cons | exact App.nil | exact App.app)), (by repeat (first | apply App.cons | exact App.nil | exact App.app)), rfl, (by first | exact Mem.le.refl _ | assumption), (by exact fun _ h => h), ?_⟩)
 ((refine TrM.eff 3 rfl (by kernel_rfl) (by exact .inl rfl) (by repeat (first | exact PendOk.nil | refine PendOk.cons rfl (by repeat (first | exact SubFr.nil | refine SubFr.cons rfl ?_)) ?_)) (by exact fun _ h => h) (by repeat (first | apply AppF.cons | exact AppF.nil)) (by repeat (first | apply AppF.cons | exact AppF.app)) (fun Y X => ?_)); (((refine Knd.buildSlice ?_); ((refine Exec.buildSlice (tysOk.get rfl) rfl (tysOk.get rfl) rfl rfl rfl rfl rfl (by repeat (first | exact BuildP.nil | ((apply BuildP.many); (rfl); (rfl); (rfl); (rfl); (repeat (first | exact PutL.nil | ((apply PutL.cons); (repeat (first | exact SetL.z | apply SetL.s)))))))) rfl (fun b => ?_))))); (refine ⟨_, _, (by repeat (first | apply App.cons | exact App.nil | exact App.app)), (by repeat (first | apply App.cons | exact App.nil | exact App.app)), rfl, (by first | exact Mem.le.refl _ | assumption), (by exact (Sub.mem (by repeat (first | exact Sub.refl | apply Sub.cons)))), ?_⟩))
 refine TrM.publish (x := box _ 82 _) (by repeat (first | exact Del.here | apply Del.there)) (fun M1 hM1 hok1 => ?_)
 have hsA : SlOf 6 RSpC M1 (.slice (some ⟨_, 0, none⟩) 2 2) sA := SlOf.ofBoxC (sz := 6) (n := 2) (c := 2) (xs := sA) hok1 rfl rfl (Nat.le_refl _) (by decide) (flatMap_one spC_one sA) (spC_elems M1 sA)
 ((refine TrM.eff 4 rfl (by kernel_rfl) (by exact .inl rfl) (by repeat (first | exact PendOk.nil | refine PendOk.cons rfl (by repeat (first | exact SubFr.nil | refine SubFr.cons rfl ?_)) ?_)) (by exact fun _ h => h) (by repeat (first | apply AppF.cons | exact AppF.nil)) (by repeat (first | apply AppF.cons | exact AppF.app)) (fun Y X => ?_)))
 refine Exec.call0 rfl (new_fn M1 _ w0 (rwd_w0 M1) _ 2 sA hsA 1) rfl ?_
 rintro _ M2 hM2 (⟨hbad, -⟩ | ⟨-, -, rfl⟩ | ⟨-, hbad, -⟩)
 ·exact absurd okT_sA hbad
 rotate_left
 ·exact absurd hbad sA_no
 (refine ⟨_, _, (by repeat (first | apply App.cons | exact App.nil | exact App.app)), (by repeat (first | apply App.cons | exact App.nil | exact App.app)), rfl, (by first | exact Mem.le.refl _ | assumption), (by exact fun _ h => h), ?_⟩)
 ((refine TrM.take 5 (by kernel_rfl) rfl (by kernel_rfl) (by exact fun _ _ _ h => h) (by exact fun _ h => h) rfl (by first | exact Stab.move rfl) rfl rfl ?_); (refine TrM.take 6 (by kernel_rfl) rfl (by kernel_rfl) (by exact fun _ _ _ h => h) (by exact fun _ h => h) rfl (by first | exact Stab.extract rfl rfl) rfl rfl ?_); (refine TrM.take 7 (by kernel_rfl) rfl (by kernel_rfl) (by exact fun _ _ _ h => h) (by exact fun _ h => h) rfl (by first | exact Stab.extract rfl rfl) rfl rfl ?_); (refine TrM.settle (by kernel_rfl) (by repeat (first | exact PendOk.nil | refine PendOk.cons rfl (by repeat (first | exact SubFr.nil | refine SubFr.cons rfl ?_)) ?_)) (by exact fun _ h => h) (fun b => ?_)); dsimp only; (refine TrM.fin ?_))
 ((refine TrA.eff 9 rfl (by kernel_rfl) (by exact .inl rfl) ?_); (((refine Knd.store ?_); ((refine xWQ ?_)))); (refine ⟨(by first | exact Mem.le.refl _ | assumption), (by exact (Sub.mem (by repeat (first | exact Sub.refl | apply Sub.cons)))), ?_⟩); (refine tkQ 10 (s := by exact Stab.assign rfl) ?_); (refine TrA.done (by kernel_rfl) ?_))
 have hM02 : Mem.le M M2 := Mem.le.trans hM1 hM2
 clear hM1 hM2 hok1 hsA
 (refine rQ ?_)
 ((refine Tr.step rfl ?_)); refine Exec.call0 rfl (new_fn M2 _ w0 (rwd_w0 M2) none 0 [] (SlOf.nil _ _ _) 1) rfl ?_
 rintro _ M3 hM3 (⟨hbad, -⟩ | ⟨-, hbad, -⟩ | ⟨-, -, x, rfl, hx⟩)
 ·exact absurd (by decide) hbad
 ·exact absurd (by decide) hbad
 rw [k0_mk] at hx
 obtain ⟨z1, z2, z3, z4, z5, z6, z7, z8, rfl⟩ := hx.lit
 (repeat (first | ((with_reducible refine Tr.step rfl ?_); (first | (refine xmQ ?_) | (refine xaQ ?_) | (refine xWQ ?_) | ((with_reducible refine Knd.alloc ?_); (refine Exec.alloc (tysOk.get rfl) rfl rfl (fun b => ?_))) | ((with_reducible refine Knd.extract ?_); (refine Exec.stab rfl (Stab.extract rfl rfl) rfl ?_)))) | (with_reducible first | apply Tr.next | apply Tr.seq | apply Tr.nil)))
 (((apply Tr.draw); (kernel_rfl)); (refine tkQ 0 (hB := by exact fun _ h => h) (s := by exact swQ) ?_); (refine tkQ 1 (s := by exact swQ) ?_))
 ((refine TrM.start2 _ (by exact PA.alloc 8 rfl (tysOk.get rfl) rfl rfl) (by exact PA.alloc 9 rfl (tysOk.get rfl) rfl rfl) (by kernel_rfl) (by kernel_rfl) (by kernel_rfl) ?_); (refine TrM.eff 2 rfl (by kernel_rfl) (by exact .inl rfl) (by repeat (first | exact PendOk.nil | refine PendOk.cons rfl (by repeat (first | exact SubFr.nil | refine SubFr.cons rfl ?_)) ?_)) (by exact fun _ h => h) (by repeat (first | apply AppF.cons | exact AppF.nil)) (by repeat (first | apply AppF.cons | exact AppF.app)) (fun Y X => ?_)))
 refine Exec.call0 rfl (lrequest_fn M3 4 5 0) rfl ?_
 rintro _ _ _ ⟨rfl, rfl⟩
 (refine ⟨_, _, (by repeat (first | apply App.cons | exact App.nil | exact App.app)), (by repeat (first | apply App.cons | exact App.nil | exact App.app)), rfl, (by first | exact Mem.le.refl _ | assumption), (by exact fun _ h => h), ?_⟩)
 ((refine TrM.eff 3 rfl (by kernel_rfl) (by exact .inl rfl) (by repeat (first | exact PendOk.nil | refine PendOk.cons rfl (by repeat (first | exact SubFr.nil | refine SubFr.cons rfl ?_)) ?_)) (by exact fun _ h => h) (by repeat (first | apply AppF.cons | exact AppF.nil)) (by repeat (first | apply AppF.cons | exact AppF.app)) (fun Y X => ?_)))
 refine Exec.call0 rfl (askA_fn M3 _ w0 (rwd_w0 M3) _ k0 hx (by decide) q40) rfl ?_
 rintro _ M4 hM4 (⟨-, -, x, a, rfl, D4, cD4, hD4, ⟨hF, hx4, al, A4, c4, hlex, rfl, hal4⟩ | ⟨hF, -⟩⟩ | ⟨hne, -⟩)
 rotate_left
 ·exact absurd fe_40 hF
 ·exact absurd ask_40 hne
 obtain ⟨y1, y2, y3, y4, y5, y6, y7, y8, rfl⟩ := hx4.lit
 (refine ⟨_, _, (by repeat (first | apply App.cons | exact App.nil | exact App.app)), (by repeat (first | apply App.cons | exact App.nil | exact App.app)), rfl, (by first | exact Mem.le.refl _ | assumption), (by exact fun _ h => h), ?_⟩)
 ((refine TrM.take 4 (by kernel_rfl) rfl (by kernel_rfl) (by exact fun _ _ _ h => h) (by exact fun _ h => h) rfl (by first | exact Stab.move rfl) rfl rfl ?_); (refine TrM.take 5 (by kernel_rfl) rfl (by kernel_rfl) (by exact fun _ _ _ h => h) (by exact fun _ h => h) rfl (by first | exact Stab.extract rfl rfl) rfl rfl ?_); (refine TrM.take 6 (by kernel_rfl) rfl (by kernel_rfl) (by exact fun _ _ _ h => h) (by exact fun _ h => h) rfl (by first | exact Stab.extract rfl rfl) rfl rfl ?_); (refine TrM.take 7 (by kernel_rfl) rfl (by kernel_rfl) (by exact fun _ _ _ h => h) (by exact fun _ h => h) rfl (by first | exact Stab.extract rfl rfl) rfl rfl ?_); (refine TrM.settle (by kernel_rfl) (by repeat (first | exact PendOk.nil | refine PendOk.cons rfl (by repeat (first | exact SubFr.nil | refine SubFr.cons rfl ?_)) ?_)) (by exact fun _ h => h) (fun b => ?_)); dsimp only; (refine TrM.settle (by kernel_rfl) (by repeat (first | exact PendOk.nil | refine PendOk.cons rfl (by repeat (first | exact SubFr.nil | refine SubFr.cons rfl ?_)) ?_)) (by exact (Sub.mem (by repeat (first | exact Sub.refl | apply Sub.cons)))) (fun b => ?_)); dsimp only; (refine TrM.fin ?_))
 ((refine TrA.eff 10 rfl (by kernel_rfl) (by exact .inl rfl) ?_); (((refine Knd.store ?_); ((refine xWQ ?_)))); (refine ⟨(by first | exact Mem.le.refl _ | assumption), (by exact (Sub.mem (by repeat (first | exact Sub.refl | apply Sub.cons)))), ?_⟩); (refine TrA.eff 11 rfl (by kernel_rfl) (by exact .inl rfl) ?_); (((refine Knd.store ?_); ((refine xWQ ?_)))); (refine ⟨(by first | exact Mem.le.refl _ | assumption), (by exact (Sub.mem (by repeat (first | exact Sub.refl | apply Sub.cons)))), ?_⟩); (refine tkQ 12 (s := by exact Stab.assign rfl) ?_); (refine TrA.done (by kernel_rfl) ?_))
 clear hx4 hal4 hD4 hlex
 have hx5 := hx.mono hM4
 (repeat (first | (with_reducible first | apply Tr.next | apply Tr.seq)))
 (((apply Tr.draw); (kernel_rfl)); (refine tkQ 0 (hB := by exact fun _ h => h) (s := by exact swQ) ?_); (refine tkQ 1 (s := by exact swQ) ?_))
 ((refine TrM.start2 _ (by exact PA.alloc 8 rfl (tysOk.get rfl) rfl rfl) (by exact PA.alloc 9 rfl (tysOk.get rfl) rfl rfl) (by kernel_rfl) (by kernel_rfl) (by kernel_rfl) ?_); (refine TrM.eff 2 rfl (by kernel_rfl) (by exact .inl rfl) (by repeat (first | exact PendOk.nil | refine PendOk.cons rfl (by repeat (first | exact SubFr.nil | refine SubFr.cons rfl ?_)) ?_)) (by exact fun _ h => h) (by repeat (first | apply AppF.cons | exact AppF.nil)) (by repeat (first | apply AppF.cons | exact AppF.app)) (fun Y X => ?_)))
 refine Exec.call0 rfl (lrequest_fn M4 4 5 1) rfl ?_
 rintro _ _ _ ⟨rfl, rfl⟩
 (refine ⟨_, _, (by repeat (first | apply App.cons | exact App.nil | exact App.app)), (by repeat (first | apply App.cons | exact App.nil | exact App.app)), rfl, (by first | exact Mem.le.refl _ | assumption), (by exact fun _ h => h), ?_⟩)
 ((refine TrM.eff 3 rfl (by kernel_rfl) (by exact .inl rfl) (by repeat (first | exact PendOk.nil | refine PendOk.cons rfl (by repeat (first | exact SubFr.nil | refine SubFr.cons rfl ?_)) ?_)) (by exact fun _ h => h) (by repeat (first | apply AppF.cons | exact AppF.nil)) (by repeat (first | apply AppF.cons | exact AppF.app)) (fun Y X => ?_)))
 refine Exec.call0 rfl (askA_fn M4 _ w0 (rwd_w0 M4) _ k0 hx5 (by decide) q41) rfl ?_
 rintro _ M5 hM5 (⟨-, -, x, a, rfl, D6, cD6, hD6, ⟨hF, -⟩ | ⟨hF, hx6, B6, c6, rfl, hB6⟩⟩ | ⟨hne, -⟩)
 ·exact absurd hF fe_41
 rotate_left
 ·exact absurd ask_41 hne
 obtain ⟨t1, t2, t3, t4, t5, t6, t7, t8, rfl⟩ := hx6.lit
 rw [cf_41] at hB6 ⊢
 rw [show ([4] : List Int).length = 1 from rfl] at hB6 ⊢
 (refine ⟨_, _, (by repeat (first | apply App.cons | exact App.nil | exact App.app)), (by repeat (first | apply App.cons | exact App.nil | exact App.app)), rfl, (by first | exact Mem.le.refl _ | assumption), (by exact fun _ h => h), ?_⟩)
 ((refine TrM.take 4 (by kernel_rfl) rfl (by kernel_rfl) (by exact fun _ _ _ h => h) (by exact fun _ h => h) rfl (by first | exact Stab.move rfl) rfl rfl ?_); (refine TrM.take 5 (by kernel_rfl) rfl (by kernel_rfl) (by exact fun _ _ _ h => h) (by exact fun _ h => h) rfl (by first | exact Stab.extract rfl rfl) rfl rfl ?_); (refine TrM.take 6 (by kernel_rfl) rfl (by kernel_rfl) (by exact fun _ _ _ h => h) (by exact fun _ h => h) rfl (by first | exact Stab.extract rfl rfl) rfl rfl ?_); (refine TrM.take 7 (by kernel_rfl) rfl (by kernel_rfl) (by exact fun _ _ _ h => h) (by exact fun _ h => h) rfl (by first | exact Stab.extract rfl rfl) rfl rfl ?_); (refine TrM.settle (by kernel_rfl) (by repeat (first | exact PendOk.nil | refine PendOk.cons rfl (by repeat (first | exact SubFr.nil | refine SubFr.cons rfl ?_)) ?_)) (by exact fun _ h => h) (fun b => ?_)); dsimp only; (refine TrM.settle (by kernel_rfl) (by repeat (first | exact PendOk.nil | refine PendOk.cons rfl (by repeat (first | exact SubFr.nil | refine SubFr.cons rfl ?_)) ?_)) (by exact (Sub.mem (by repeat (first | exact Sub.refl | apply Sub.cons)))) (fun b => ?_)); dsimp only; (refine TrM.fin ?_))
 ((refine TrA.eff 10 rfl (by kernel_rfl) (by exact .inl rfl) ?_); (((refine Knd.store ?_); ((refine xWQ ?_)))); (refine ⟨(by first | exact Mem.le.refl _ | assumption), (by exact (Sub.mem (by repeat (first | exact Sub.refl | apply Sub.cons)))), ?_⟩); (refine TrA.eff 11 rfl (by kernel_rfl) (by exact .inl rfl) ?_); (((refine Knd.store ?_); ((refine xWQ ?_)))); (refine ⟨(by first | exact Mem.le.refl _ | assumption), (by exact (Sub.mem (by repeat (first | exact Sub.refl | apply Sub.cons)))), ?_⟩); (refine tkQ 12 (s := by exact Stab.assign rfl) ?_); (refine TrA.done (by kernel_rfl) ?_))
 clear hD6 hx5
 have hx7 := (hx.mono hM4).mono hM5
 (refine rQ ?_)
 ((refine Tr.step rfl ?_)); refine Exec.call0 rfl (drop_fn M5 _ w0 (rwd_w0 M5) _ k0 hx7 (by decide) 3) rfl ?_
 rintro _ M6 hM6 (⟨⟨-, hbad⟩, -⟩ | ⟨-, rfl⟩)
 ·exact absurd hbad (by decide)
 (repeat (first | ((with_reducible refine Tr.step rfl ?_); (first | (refine xmQ ?_) | (refine xaQ ?_) | (refine xWQ ?_) | ((with_reducible refine Knd.alloc ?_); (refine Exec.alloc (tysOk.get rfl) rfl rfl (fun b => ?_))) | ((with_reducible refine Knd.extract ?_); (refine Exec.stab rfl (Stab.extract rfl rfl) rfl ?_)))) | (with_reducible first | apply Tr.next | apply Tr.seq | apply Tr.nil)))
 (((apply Tr.draw); (kernel_rfl)); (refine tkQ 0 (hB := by exact fun _ h => h) (s := by exact swQ) ?_))
 ((refine TrM.start1 _ (by exact PA.alloc 7 rfl (tysOk.get rfl) rfl rfl) (by kernel_rfl) ?_); (refine TrM.eff 1 rfl (by kernel_rfl) (by exact .inl rfl) (by repeat (first | exact PendOk.nil | refine PendOk.cons rfl (by repeat (first | exact SubFr.nil | refine SubFr.cons rfl ?_)) ?_)) (by exact fun _ h => h) (by repeat (first | apply AppF.cons | exact AppF.nil)) (by repeat (first | apply AppF.cons | exact AppF.app)) (fun Y X => ?_)))
 refine Exec.call0 rfl (lsupply_fn M6 1 7 3) rfl ?_
 rintro _ _ _ ⟨rfl, rfl⟩
 (refine ⟨_, _, (by repeat (first | apply App.cons | exact App.nil | exact App.app)), (by repeat (first | apply App.cons | exact App.nil | exact App.app)), rfl, (by first | exact Mem.le.refl _ | assumption), (by exact fun _ h => h), ?_⟩)
 ((refine TrM.eff 2 rfl (by kernel_rfl) (by exact .inl rfl) (by repeat (first | exact PendOk.nil | refine PendOk.cons rfl (by repeat (first | exact SubFr.nil | refine SubFr.cons rfl ?_)) ?_)) (by exact fun _ h => h) (by repeat (first | apply AppF.cons | exact AppF.nil)) (by repeat (first | apply AppF.cons | exact AppF.app)) (fun Y X => ?_)); (((refine Knd.buildSlice ?_); ((refine Exec.buildSlice (tysOk.get rfl) rfl (tysOk.get rfl) rfl rfl rfl rfl rfl (by repeat (first | exact BuildP.nil | ((apply BuildP.many); (rfl); (rfl); (rfl); (rfl); (repeat (first | exact PutL.nil | ((apply PutL.cons); (repeat (first | exact SetL.z | apply SetL.s)))))))) rfl (fun b => ?_))))); (refine ⟨_, _, (by repeat (first | apply App.cons | exact App.nil | exact App.app)), (by repeat (first | apply App.cons | exact App.nil | exact App.app)), rfl, (by first | exact Mem.le.refl _ | assumption), (by exact (Sub.mem (by repeat (first | exact Sub.refl | apply Sub.cons)))), ?_⟩))
 refine TrM.publish (x := box _ 82 _) (by repeat (first | exact Del.here | apply Del.there)) (fun M7 hM7 hok7 => ?_)
 have hs7 : SlOf 6 RSpC M7 (.slice (some ⟨_, 0, none⟩) 1 1) s7 := SlOf.ofBoxC (sz := 6) (n := 1) (c := 1) (xs := s7) hok7 rfl rfl (Nat.le_refl _) (by decide) (flatMap_one spC_one s7) (spC_elems M7 s7)
 ((refine TrM.eff 3 rfl (by kernel_rfl) (by exact .inl rfl) (by repeat (first | exact PendOk.nil | refine PendOk.cons rfl (by repeat (first | exact SubFr.nil | refine SubFr.cons rfl ?_)) ?_)) (by exact fun _ h => h) (by repeat (first | apply AppF.cons | exact AppF.nil)) (by repeat (first | apply AppF.cons | exact AppF.app)) (fun Y X => ?_)))
 refine Exec.call0 rfl (new_fn M7 _ w0 (rwd_w0 M7) _ 1 s7 hs7 1) rfl ?_
 rintro _ M8 hM8 (⟨hbad, -⟩ | ⟨-, hbad, -⟩ | ⟨-, -, x, rfl, hx8⟩)
 ·exact absurd (by decide) hbad
 ·exact absurd (by decide) hbad
 rw [k7_mk] at hx8
 obtain ⟨u1, u2, u3, u4, u5, u6, u7, u8, rfl⟩ := hx8.lit
 (refine ⟨_, _, (by repeat (first | apply App.cons | exact App.nil | exact App.app)), (by repeat (first | apply App.cons | exact App.nil | exact App.app)), rfl, (by first | exact Mem.le.refl _ | assumption), (by exact fun _ h => h), ?_⟩)
 ((refine TrM.take 4 (by kernel_rfl) rfl (by kernel_rfl) (by exact fun _ _ _ h => h) (by exact fun _ h => h) rfl (by first | exact Stab.move rfl) rfl rfl ?_); (refine TrM.take 5 (by kernel_rfl) rfl (by kernel_rfl) (by exact fun _ _ _ h => h) (by exact fun _ h => h) rfl (by first | exact Stab.extract rfl rfl) rfl rfl ?_); (refine TrM.take 6 (by kernel_rfl) rfl (by kernel_rfl) (by exact fun _ _ _ h => h) (by exact fun _ h => h) rfl (by first | exact Stab.extract rfl rfl) rfl rfl ?_); (refine TrM.settle (by kernel_rfl) (by repeat (first | exact PendOk.nil | refine PendOk.cons rfl (by repeat (first | exact SubFr.nil | refine SubFr.cons rfl ?_)) ?_)) (by exact fun _ h => h) (fun b => ?_)); dsimp only; (refine TrM.fin ?_))
 ((refine TrA.eff 8 rfl (by kernel_rfl) (by exact .inl rfl) ?_); (((refine Knd.store ?_); ((refine xWQ ?_)))); (refine ⟨(by first | exact Mem.le.refl _ | assumption), (by exact (Sub.mem (by repeat (first | exact Sub.refl | apply Sub.cons)))), ?_⟩); (refine tkQ 9 (s := by exact Stab.assign rfl) ?_); (refine TrA.done (by kernel_rfl) ?_))
 have hM58 : Mem.le M5 M8 := hM6.trans (Mem.le.trans hM7 hM8)
 clear hok7 hs7
 (repeat (first | (with_reducible first | apply Tr.next | apply Tr.seq)))
 refine gvQ (r := box _ 44 [.int .i64 0, .slice none 0 0, .slice none 0 0, .slice none 0 0, .slice none 0 0]) ?_
 refine gvQ (r := box _ 44 [.int .i64 0, .slice none 0 0, .slice none 0 0, .slice none 0 0, .slice none 0 0]) ?_
 refine gvQ (r := box _ 44 [.int .i64 (more w0 k0 q40).known, .slice y1 (more w0 k0 q40).sups.length y2, .slice y3 (more w0 k0 q40).reqs.length y4, .slice y5 (more w0 k0 q40).fits.length y6, .slice y7 (more w0 k0 q40).rds.length y8]) ?_
 refine Tr.cut (α := Mem × (Nat × Nat × Nat × Nat) × (Nat × Nat) × List Value × (Option Addr × Nat × Option Addr × Nat) × (Option Addr × Nat × Option Addr × Nat)) (fun y => ⟨294, [(1, .pointer (some ⟨b1, 0, none⟩)), (3, .int .i64 310), (5, .int .i64 0), (8, .int .i64 0), (11, .int .i64 0), (13, .int .i64 310), (15, .int .i64 0), (17, .int .i64 0), (4, .pointer (some ⟨y.2.1.1, 0, none⟩)), (7, .pointer (some ⟨y.2.1.2.1, 0, none⟩)), (9, .pointer (some ⟨y.2.1.2.2.1, 0, none⟩)), (10, .pointer (some ⟨y.2.1.2.2.2, 0, none⟩)), (14, .pointer (some ⟨y.2.2.1.1, 0, none⟩)), (16, .pointer (some ⟨y.2.2.1.2, 0, none⟩))], [], y.1, box y.2.2.1.2 54 [.bool true, .slice y.2.2.2.2.1.1 1 y.2.2.2.2.1.2.1, .slice none 0 0, .slice y.2.2.2.2.1.2.2.1 1 y.2.2.2.2.1.2.2.2] :: box y.2.2.1.1 44 y.2.2.2.1 :: box y.2.1.2.2.2 54 [.bool false, .slice none 0 0, .slice B6 1 c6, .slice D6 (readsF w0 k0.sups [q41]).length cD6] :: box y.2.1.2.2.1 44 [.int .i64 k0.known, .slice t1 k0.sups.length t2, .slice t3 k0.reqs.length t4, .slice t5 k0.fits.length t6, .slice t7 k0.rds.length t8] :: box y.2.1.2.1 54 [.bool true, .slice y.2.2.2.2.2.1 0 y.2.2.2.2.2.2.1, .slice none 0 0, .slice y.2.2.2.2.2.2.2.1 0 y.2.2.2.2.2.2.2.2] :: box y.2.1.1 44 [.int .i64 k0.known, .slice z1 k0.sups.length z2, .slice z3 k0.reqs.length z4, .slice z5 k0.fits.length z6, .slice z7 k0.rds.length z8] :: box b1 38 [.slice none 0 0, .slice none 0 0, .slice none 0 0, .slice none 0 0, .slice none 0 0, .slice none 0 0, .slice none 0 0, .slice none 0 0, .slice none 0 0, .slice none 0 0, .slice none 0 0] :: ([] ++ F)⟩)
  (fun y => Mem.le M8 y.1 ∧ RBp y.1 (.agg y.2.2.2.1.toArray) k8 ∧ Ints2 y.1 (.slice y.2.2.2.2.1.1 1 y.2.2.2.2.1.2.1) [[2]] ∧ SlOf 5 RRd y.1 (.slice y.2.2.2.2.1.2.2.1 1 y.2.2.2.2.1.2.2.2) [((7, 0, 0), 9, 10)]) ?_ (fun y hy => ?_)
 ·(((apply Tr.draw ((box _ 54 _ :: _))); (kernel_rfl)); (refine tkQ 0 (hB := by exact (Sub.mem (by repeat (first | exact Sub.refl | apply Sub.cons)))) (s := by exact swQ) ?_))
  ((refine TrM.start1 _ (by exact PA.alloc 8 rfl (tysOk.get rfl) rfl rfl) (by kernel_rfl) ?_); (refine TrM.eff2 1 2 rfl rfl (by kernel_rfl) (by exact .inl rfl) (by exact .inl rfl) (by repeat (first | exact PendOk.nil | refine PendOk.cons rfl (by repeat (first | exact SubFr.nil | refine SubFr.cons rfl ?_)) ?_)) (by exact (Sub.mem (by repeat (first | exact Sub.refl | apply Sub.cons)))) (by repeat (first | apply AppF.cons | exact AppF.nil)) (by repeat (first | apply AppF.cons | exact AppF.app)) (fun Y X => ?_) (fun Y X => ?_)))
  ·((((refine Knd.load ?_); ((refine xwQ ?_)))); (refine ⟨_, _, (by repeat (first | apply App.cons | exact App.nil | exact App.app)), (by repeat (first | apply App.cons | exact App.nil | exact App.app)), rfl, (by first | exact Mem.le.refl _ | assumption), (by exact (Sub.mem (by repeat (first | exact Sub.refl | apply Sub.cons)))), ?_⟩); (refine TrM.eff 2 rfl (by kernel_rfl) (by exact .inl rfl) (by repeat (first | exact PendOk.nil | refine PendOk.cons rfl (by repeat (first | exact SubFr.nil | refine SubFr.cons rfl ?_)) ?_)) (by exact (Sub.mem (by repeat (first | exact Sub.refl | apply Sub.cons)))) (by repeat (first | apply AppF.cons | exact AppF.nil)) (by repeat (first | apply AppF.cons | exact AppF.app)) (fun Y X => ?_)))
   refine Exec.call0 rfl (lrequest_fn M8 8 9 2) rfl ?_
   rintro _ _ _ ⟨rfl, rfl⟩
   (refine ⟨_, _, (by repeat (first | apply App.cons | exact App.nil | exact App.app)), (by repeat (first | apply App.cons | exact App.nil | exact App.app)), rfl, (by first | exact Mem.le.refl _ | assumption), (by exact (Sub.mem (by repeat (first | exact Sub.refl | apply Sub.cons)))), ?_⟩)
   ((refine TrM.eff 3 rfl (by kernel_rfl) (by exact .inl rfl) (by repeat (first | exact PendOk.nil | refine PendOk.cons rfl (by repeat (first | exact SubFr.nil | refine SubFr.cons rfl ?_)) ?_)) (by exact (Sub.mem (by repeat (first | exact Sub.refl | apply Sub.cons)))) (by repeat (first | apply AppF.cons | exact AppF.nil)) (by repeat (first | apply AppF.cons | exact AppF.app)) (fun Y X => ?_)))
   refine Exec.call0 rfl (askA_fn M8 _ w0 (rwd_w0 M8) _ k7 hx8 (by decide) q8) rfl ?_
   rintro _ M9 hM9 (⟨-, -, x, a, rfl, D9, cD9, hD9, ⟨hF, hx9, al, A9, c9, hlex, rfl, hal9⟩ | ⟨hF, -⟩⟩ | ⟨hne, -⟩)
   rotate_left
   ·exact absurd fe_8 hF
   ·exact absurd ask_8 hne
   rw [k8_mk] at hx9
   rw [al_8 hlex] at hal9 ⊢
   rw [rd_8] at hD9 ⊢
   obtain ⟨v1, v2, v3, v4, v5, v6, v7, v8, rfl⟩ := hx9.lit
   (refine ⟨_, _, (by repeat (first | apply App.cons | exact App.nil | exact App.app)), (by repeat (first | apply App.cons | exact App.nil | exact App.app)), rfl, (by first | exact Mem.le.refl _ | assumption), (by exact (Sub.mem (by repeat (first | exact Sub.refl | apply Sub.cons)))), ?_⟩)
   ((refine TrM.take 4 (by kernel_rfl) rfl (by kernel_rfl) (by exact fun _ _ _ h => nomatch h.1) (by exact (Sub.mem (by repeat (first | exact Sub.refl | apply Sub.cons)))) rfl (by first | exact Stab.move rfl) rfl rfl ?_); (refine TrM.take 5 (by kernel_rfl) rfl (by kernel_rfl) (by exact fun _ _ _ h => nomatch h.1) (by exact (Sub.mem (by repeat (first | exact Sub.refl | apply Sub.cons)))) rfl (by first | exact Stab.extract rfl rfl) rfl rfl ?_); (refine TrM.take 6 (by kernel_rfl) rfl (by kernel_rfl) (by exact fun _ _ _ h => nomatch h.1) (by exact (Sub.mem (by repeat (first | exact Sub.refl | apply Sub.cons)))) rfl (by first | exact Stab.extract rfl rfl) rfl rfl ?_); (refine TrM.take 7 (by kernel_rfl) rfl (by kernel_rfl) (by exact fun _ _ _ h => nomatch h.1) (by exact (Sub.mem (by repeat (first | exact Sub.refl | apply Sub.cons)))) rfl (by first | exact Stab.extract rfl rfl) rfl rfl ?_); (refine TrM.settle (by kernel_rfl) (by repeat (first | exact PendOk.nil | refine PendOk.cons rfl (by repeat (first | exact SubFr.nil | refine SubFr.cons rfl ?_)) ?_)) (by exact (Sub.mem (by repeat (first | exact Sub.refl | apply Sub.cons)))) (fun b => ?_)); dsimp only; (refine TrM.fin ?_))
   ((refine TrA.eff 9 rfl (by kernel_rfl) (by exact .inl rfl) ?_); (((refine Knd.store ?_); ((refine xWQ ?_)))); (refine ⟨(by first | exact Mem.le.refl _ | assumption), (by exact (Sub.mem (by repeat (first | exact Sub.refl | apply Sub.cons)))), ?_⟩); (refine TrA.eff 10 rfl (by kernel_rfl) (by exact .inl rfl) ?_); (((refine Knd.store ?_); ((refine xWQ ?_)))); (refine ⟨(by first | exact Mem.le.refl _ | assumption), (by exact (Sub.mem (by repeat (first | exact Sub.refl | apply Sub.cons)))), ?_⟩); (refine tkQ 11 (s := by exact Stab.assign rfl) ?_); (refine TrA.done (by kernel_rfl) ?_))
   exact Tr.land (M9, (_, _, _, _), (_, _), _, (A9, c9, D9, cD9), (_, _, _, _)) ⟨hM9, hx9, hal9, hD9⟩ hsQ
  ·refine Exec.call0 rfl (lrequest_fn M8 8 9 2) rfl ?_
   rintro _ _ _ ⟨rfl, rfl⟩
   (refine ⟨_, _, (by repeat (first | apply App.cons | exact App.nil | exact App.app)), (by repeat (first | apply App.cons | exact App.nil | exact App.app)), rfl, (by first | exact Mem.le.refl _ | assumption), (by exact (Sub.mem (by repeat (first | exact Sub.refl | apply Sub.cons)))), ?_⟩)
   ((refine TrM.eff 1 rfl (by kernel_rfl) (by exact .inl rfl) (by repeat (first | exact PendOk.nil | refine PendOk.cons rfl (by repeat (first | exact SubFr.nil | refine SubFr.cons rfl ?_)) ?_)) (by exact (Sub.mem (by repeat (first | exact Sub.refl | apply Sub.cons)))) (by repeat (first | apply AppF.cons | exact AppF.nil)) (by repeat (first | apply AppF.cons | exact AppF.app)) (fun Y X => ?_)); (((refine Knd.load ?_); ((refine xwQ ?_)))); (refine ⟨_, _, (by repeat (first | apply App.cons | exact App.nil | exact App.app)), (by repeat (first | apply App.cons | exact App.nil | exact App.app)), rfl, (by first | exact Mem.le.refl _ | assumption), (by exact (Sub.mem (by repeat (first | exact Sub.refl | apply Sub.cons)))), ?_⟩))
   ((refine TrM.eff 3 rfl (by kernel_rfl) (by exact .inl rfl) (by repeat (first | exact PendOk.nil | refine PendOk.cons rfl (by repeat (first | exact SubFr.nil | refine SubFr.cons rfl ?_)) ?_)) (by exact (Sub.mem (by repeat (first | exact Sub.refl | apply Sub.cons)))) (by repeat (first | apply AppF.cons | exact AppF.nil)) (by repeat (first | apply AppF.cons | exact AppF.app)) (fun Y X => ?_)))
   refine Exec.call0 rfl (askA_fn M8 _ w0 (rwd_w0 M8) _ k7 hx8 (by decide) q8) rfl ?_
   rintro _ M9 hM9 (⟨-, -, x, a, rfl, D9, cD9, hD9, ⟨hF, hx9, al, A9, c9, hlex, rfl, hal9⟩ | ⟨hF, -⟩⟩ | ⟨hne, -⟩)
   rotate_left
   ·exact absurd fe_8 hF
   ·exact absurd ask_8 hne
   rw [k8_mk] at hx9
   rw [al_8 hlex] at hal9 ⊢
   rw [rd_8] at hD9 ⊢
   obtain ⟨v1, v2, v3, v4, v5, v6, v7, v8, rfl⟩ := hx9.lit
   (refine ⟨_, _, (by repeat (first | apply App.cons | exact App.nil | exact App.app)), (by repeat (first | apply App.cons | exact App.nil | exact App.app)), rfl, (by first | exact Mem.le.refl _ | assumption), (by exact (Sub.mem (by repeat (first | exact Sub.refl | apply Sub.cons)))), ?_⟩)
   ((refine TrM.take 4 (by kernel_rfl) rfl (by kernel_rfl) (by exact fun _ _ _ h => nomatch h.1) (by exact (Sub.mem (by repeat (first | exact Sub.refl | apply Sub.cons)))) rfl (by first | exact Stab.move rfl) rfl rfl ?_); (refine TrM.take 5 (by kernel_rfl) rfl (by kernel_rfl) (by exact fun _ _ _ h => nomatch h.1) (by exact (Sub.mem (by repeat (first | exact Sub.refl | apply Sub.cons)))) rfl (by first | exact Stab.extract rfl rfl) rfl rfl ?_); (refine TrM.take 6 (by kernel_rfl) rfl (by kernel_rfl) (by exact fun _ _ _ h => nomatch h.1) (by exact (Sub.mem (by repeat (first | exact Sub.refl | apply Sub.cons)))) rfl (by first | exact Stab.extract rfl rfl) rfl rfl ?_); (refine TrM.take 7 (by kernel_rfl) rfl (by kernel_rfl) (by exact fun _ _ _ h => nomatch h.1) (by exact (Sub.mem (by repeat (first | exact Sub.refl | apply Sub.cons)))) rfl (by first | exact Stab.extract rfl rfl) rfl rfl ?_); (refine TrM.settle (by kernel_rfl) (by repeat (first | exact PendOk.nil | refine PendOk.cons rfl (by repeat (first | exact SubFr.nil | refine SubFr.cons rfl ?_)) ?_)) (by exact (Sub.mem (by repeat (first | exact Sub.refl | apply Sub.cons)))) (fun b => ?_)); dsimp only; (refine TrM.fin ?_))
   ((refine TrA.eff 9 rfl (by kernel_rfl) (by exact .inl rfl) ?_); (((refine Knd.store ?_); ((refine xWQ ?_)))); (refine ⟨(by first | exact Mem.le.refl _ | assumption), (by exact (Sub.mem (by repeat (first | exact Sub.refl | apply Sub.cons)))), ?_⟩); (refine TrA.eff 10 rfl (by kernel_rfl) (by exact .inl rfl) ?_); (((refine Knd.store ?_); ((refine xWQ ?_)))); (refine ⟨(by first | exact Mem.le.refl _ | assumption), (by exact (Sub.mem (by repeat (first | exact Sub.refl | apply Sub.cons)))), ?_⟩); (refine tkQ 11 (s := by exact Stab.assign rfl) ?_); (refine TrA.done (by kernel_rfl) ?_))
   exact Tr.land (M9, (_, _, _, _), (_, _), _, (A9, c9, D9, cD9), (_, _, _, _)) ⟨hM9, hx9, hal9, hD9⟩ hsQ
 obtain ⟨M9, ⟨p4, p7, p9, p10⟩, ⟨p14, p16⟩, xb, ⟨A9, c9, D9, cD9⟩, A4, c4, D4, cD4⟩ := y
 obtain ⟨hM9, hx9, hal9, hD9⟩ := hy
 dsimp only at hM9 hx9 hal9 hD9 ⊢
 obtain ⟨v1, v2, v3, v4, v5, v6, v7, v8, ev⟩ := hx9.lit
 injection ev with ev
 have ev := congrArg Array.toList ev
 simp only at ev
 subst ev
 (repeat (first | (with_reducible first | apply Tr.next | apply Tr.seq)))
 (((apply Tr.draw); (kernel_rfl)); (refine tkQ 0 (hB := by exact fun _ h => h) (s := by exact swQ) ?_); (refine tkQ 1 (s := by exact swQ) ?_))
 ((refine TrM.start2 _ (by exact PA.alloc 8 rfl (tysOk.get rfl) rfl rfl) (by exact PA.alloc 9 rfl (tysOk.get rfl) rfl rfl) (by kernel_rfl) (by kernel_rfl) (by kernel_rfl) ?_); (refine TrM.eff 2 rfl (by kernel_rfl) (by exact .inl rfl) (by repeat (first | exact PendOk.nil | refine PendOk.cons rfl (by repeat (first | exact SubFr.nil | refine SubFr.cons rfl ?_)) ?_)) (by exact fun _ h => h) (by repeat (first | apply AppF.cons | exact AppF.nil)) (by repeat (first | apply AppF.cons | exact AppF.app)) (fun Y X => ?_)))
 refine Exec.call0 rfl (lrequest_fn M9 2 9 2) rfl ?_
 rintro _ _ _ ⟨rfl, rfl⟩
 (refine ⟨_, _, (by repeat (first | apply App.cons | exact App.nil | exact App.app)), (by repeat (first | apply App.cons | exact App.nil | exact App.app)), rfl, (by first | exact Mem.le.refl _ | assumption), (by exact fun _ h => h), ?_⟩)
 ((refine TrM.eff 3 rfl (by kernel_rfl) (by exact .inl rfl) (by repeat (first | exact PendOk.nil | refine PendOk.cons rfl (by repeat (first | exact SubFr.nil | refine SubFr.cons rfl ?_)) ?_)) (by exact fun _ h => h) (by repeat (first | apply AppF.cons | exact AppF.nil)) (by repeat (first | apply AppF.cons | exact AppF.app)) (fun Y X => ?_)))
 refine Exec.call0 rfl (askA_fn M9 _ w0 (rwd_w0 M9) _ k8 hx9 (by decide) q2) rfl ?_
 rintro _ M10 hM10 (⟨-, -, x, a, rfl, D10, cD10, hD10, ⟨hF, -⟩ | ⟨hF, hx10, B10, c10, rfl, hB10⟩⟩ | ⟨hne, -⟩)
 ·exact absurd hF fe_2
 rotate_left
 ·exact absurd ask_2 hne
 obtain ⟨p1, p2, p3, p4, p5, p6, p7, p8, rfl⟩ := hx10.lit
 rw [cf_2] at hB10 ⊢
 rw [show ([8, 2] : List Int).length = 2 from rfl] at hB10 ⊢
 (refine ⟨_, _, (by repeat (first | apply App.cons | exact App.nil | exact App.app)), (by repeat (first | apply App.cons | exact App.nil | exact App.app)), rfl, (by first | exact Mem.le.refl _ | assumption), (by exact fun _ h => h), ?_⟩)
 ((refine TrM.take 4 (by kernel_rfl) rfl (by kernel_rfl) (by exact fun _ _ _ h => h) (by exact fun _ h => h) rfl (by first | exact Stab.move rfl) rfl rfl ?_); (refine TrM.take 5 (by kernel_rfl) rfl (by kernel_rfl) (by exact fun _ _ _ h => h) (by exact fun _ h => h) rfl (by first | exact Stab.extract rfl rfl) rfl rfl ?_); (refine TrM.take 6 (by kernel_rfl) rfl (by kernel_rfl) (by exact fun _ _ _ h => h) (by exact fun _ h => h) rfl (by first | exact Stab.extract rfl rfl) rfl rfl ?_); (refine TrM.take 7 (by kernel_rfl) rfl (by kernel_rfl) (by exact fun _ _ _ h => h) (by exact fun _ h => h) rfl (by first | exact Stab.extract rfl rfl) rfl rfl ?_); (refine TrM.settle (by kernel_rfl) (by repeat (first | exact PendOk.nil | refine PendOk.cons rfl (by repeat (first | exact SubFr.nil | refine SubFr.cons rfl ?_)) ?_)) (by exact fun _ h => h) (fun b => ?_)); dsimp only; (refine TrM.settle (by kernel_rfl) (by repeat (first | exact PendOk.nil | refine PendOk.cons rfl (by repeat (first | exact SubFr.nil | refine SubFr.cons rfl ?_)) ?_)) (by exact (Sub.mem (by repeat (first | exact Sub.refl | apply Sub.cons)))) (fun b => ?_)); dsimp only; (refine TrM.fin ?_))
 ((refine TrA.eff 10 rfl (by kernel_rfl) (by exact .inl rfl) ?_); (((refine Knd.store ?_); ((refine xWQ ?_)))); (refine ⟨(by first | exact Mem.le.refl _ | assumption), (by exact (Sub.mem (by repeat (first | exact Sub.refl | apply Sub.cons)))), ?_⟩); (refine TrA.eff 11 rfl (by kernel_rfl) (by exact .inl rfl) ?_); (((refine Knd.store ?_); ((refine xWQ ?_)))); (refine ⟨(by first | exact Mem.le.refl _ | assumption), (by exact (Sub.mem (by repeat (first | exact Sub.refl | apply Sub.cons)))), ?_⟩); (refine tkQ 12 (s := by exact Stab.assign rfl) ?_); (refine TrA.done (by kernel_rfl) ?_))
 clear hD10 hx10
 have hx11 := hx9.mono hM10
 (repeat (first | (with_reducible first | apply Tr.next | apply Tr.seq)))
 (((apply Tr.draw); (kernel_rfl)); (refine tkQ 0 (hB := by exact fun _ h => h) (s := by exact swQ) ?_); (refine tkQ 1 (s := by exact swQ) ?_))
 ((refine TrM.start2 _ (by exact PA.alloc 8 rfl (tysOk.get rfl) rfl rfl) (by exact PA.alloc 9 rfl (tysOk.get rfl) rfl rfl) (by kernel_rfl) (by kernel_rfl) (by kernel_rfl) ?_); (refine TrM.eff 2 rfl (by kernel_rfl) (by exact .inl rfl) (by repeat (first | exact PendOk.nil | refine PendOk.cons rfl (by repeat (first | exact SubFr.nil | refine SubFr.cons rfl ?_)) ?_)) (by exact fun _ h => h) (by repeat (first | apply AppF.cons | exact AppF.nil)) (by repeat (first | apply AppF.cons | exact AppF.app)) (fun Y X => ?_)))
 refine Exec.call0 rfl (lrequest_fn M10 8 9 0) rfl ?_
 rintro _ _ _ ⟨rfl, rfl⟩
 (refine ⟨_, _, (by repeat (first | apply App.cons | exact App.nil | exact App.app)), (by repeat (first | apply App.cons | exact App.nil | exact App.app)), rfl, (by first | exact Mem.le.refl _ | assumption), (by exact fun _ h => h), ?_⟩)
 ((refine TrM.eff 3 rfl (by kernel_rfl) (by exact .inl rfl) (by repeat (first | exact PendOk.nil | refine PendOk.cons rfl (by repeat (first | exact SubFr.nil | refine SubFr.cons rfl ?_)) ?_)) (by exact fun _ h => h) (by repeat (first | apply AppF.cons | exact AppF.nil)) (by repeat (first | apply AppF.cons | exact AppF.app)) (fun Y X => ?_)))
 refine Exec.call0 rfl (askA_fn M10 _ w0 (rwd_w0 M10) _ k8 hx11 (by decide) q80) rfl ?_
 rintro _ M11 hM11 (⟨h0, -⟩ | ⟨-, rfl⟩)
 ·exact absurd h0 (by rw [ask_80]; decide)
 rw [ask_80]
 (refine ⟨_, _, (by repeat (first | apply App.cons | exact App.nil | exact App.app)), (by repeat (first | apply App.cons | exact App.nil | exact App.app)), rfl, (by first | exact Mem.le.refl _ | assumption), (by exact fun _ h => h), ?_⟩)
 ((refine TrM.take 4 (by kernel_rfl) rfl (by kernel_rfl) (by exact fun _ _ _ h => h) (by exact fun _ h => h) rfl (by first | exact Stab.move rfl) rfl rfl ?_); (refine TrM.take 5 (by kernel_rfl) rfl (by kernel_rfl) (by exact fun _ _ _ h => h) (by exact fun _ h => h) rfl (by first | exact Stab.extract rfl rfl) rfl rfl ?_); (refine TrM.take 6 (by kernel_rfl) rfl (by kernel_rfl) (by exact fun _ _ _ h => h) (by exact fun _ h => h) rfl (by first | exact Stab.extract rfl rfl) rfl rfl ?_); (refine TrM.take 7 (by kernel_rfl) rfl (by kernel_rfl) (by exact fun _ _ _ h => h) (by exact fun _ h => h) rfl (by first | exact Stab.extract rfl rfl) rfl rfl ?_); (refine TrM.settle (by kernel_rfl) (by repeat (first | exact PendOk.nil | refine PendOk.cons rfl (by repeat (first | exact SubFr.nil | refine SubFr.cons rfl ?_)) ?_)) (by exact fun _ h => h) (fun b => ?_)); dsimp only; (refine TrM.settle (by kernel_rfl) (by repeat (first | exact PendOk.nil | refine PendOk.cons rfl (by repeat (first | exact SubFr.nil | refine SubFr.cons rfl ?_)) ?_)) (by exact (Sub.mem (by repeat (first | exact Sub.refl | apply Sub.cons)))) (fun b => ?_)); dsimp only; (refine TrM.fin ?_))
 ((refine TrA.eff 10 rfl (by kernel_rfl) (by exact .inl rfl) ?_); (((refine Knd.store ?_); ((refine xWQ ?_)))); (refine ⟨(by first | exact Mem.le.refl _ | assumption), (by exact (Sub.mem (by repeat (first | exact Sub.refl | apply Sub.cons)))), ?_⟩); (refine TrA.eff 11 rfl (by kernel_rfl) (by exact .inl rfl) ?_); (((refine Knd.store ?_); ((refine xWQ ?_)))); (refine ⟨(by first | exact Mem.le.refl _ | assumption), (by exact (Sub.mem (by repeat (first | exact Sub.refl | apply Sub.cons)))), ?_⟩); (refine tkQ 12 (s := by exact Stab.assign rfl) ?_); (refine TrA.done (by kernel_rfl) ?_))
 have hx12 := hx11.mono hM11
 (repeat (first | (with_reducible first | apply Tr.next | apply Tr.seq)))
 (((apply Tr.draw); (kernel_rfl)); (refine tkQ 0 (hB := by exact fun _ h => h) (s := by exact swQ) ?_); (refine tkQ 1 (s := by exact swQ) ?_); (refine TrA.eff 2 rfl (by kernel_rfl) (by exact .inl rfl) ?_))
 refine Exec.call0 rfl (lrequest_fn M11 2 3 1) rfl ?_
 rintro _ _ hm ⟨rfl, rfl⟩
 refine ⟨hm, (by exact fun _ h => h), ?_⟩
 ((refine TrA.eff 3 rfl (by kernel_rfl) (by exact .inl rfl) ?_))
 refine Exec.call0 rfl (earliest_fn M11 _ w0 (rwd_w0 M11) fbnd0 _ k8 hx12 (by decide) e1) rfl ?_
 rintro _ M12 hM12 (⟨-, day, ok, rfl, hE⟩ | ⟨hne, -⟩)
 rotate_left
 ·exact absurd ask_e1 hne
 obtain ⟨rfl, rfl⟩ := ear_e1 hE
 refine ⟨hM12, (by exact fun _ h => h), ?_⟩
 ((refine tkQ 4 (s := by exact Stab.move rfl) ?_); (refine tkQ 5 (s := by exact Stab.extract rfl rfl) ?_); (refine tkQ 6 (s := by exact Stab.extract rfl rfl) ?_); (refine tkQ 7 (s := by exact Stab.extract rfl rfl) ?_); (refine tkQ 8 (s := by exact Stab.assign rfl) ?_); (refine tkQ 9 (s := by exact Stab.assign rfl) ?_); (refine tkQ 10 (s := by exact Stab.assign rfl) ?_); (refine TrA.done (by kernel_rfl) ?_))
 clear hm hE
 have hx13 := hx12.mono hM12
 (repeat (first | (with_reducible first | apply Tr.next | apply Tr.seq)))
 (((apply Tr.draw); (kernel_rfl)); (refine tkQ 0 (hB := by exact fun _ h => h) (s := by exact swQ) ?_); (refine tkQ 1 (s := by exact swQ) ?_); (refine TrA.eff 2 rfl (by kernel_rfl) (by exact .inl rfl) ?_))
 refine Exec.call0 rfl (lrequest_fn M12 2 3 2) rfl ?_
 rintro _ _ hm ⟨rfl, rfl⟩
 refine ⟨hm, (by exact fun _ h => h), ?_⟩
 ((refine TrA.eff 3 rfl (by kernel_rfl) (by exact .inl rfl) ?_))
 refine Exec.call0 rfl (earliest_fn M12 _ w0 (rwd_w0 M12) fbnd0 _ k8 hx13 (by decide) e2) rfl ?_
 rintro _ M13 hM13 (⟨-, day, ok, rfl, hE⟩ | ⟨hne, -⟩)
 rotate_left
 ·exact absurd ask_e2 hne
 obtain ⟨rfl, rfl⟩ := ear_e2 hE
 refine ⟨hM13, (by exact fun _ h => h), ?_⟩
 ((refine tkQ 4 (s := by exact Stab.move rfl) ?_); (refine tkQ 5 (s := by exact Stab.extract rfl rfl) ?_); (refine tkQ 6 (s := by exact Stab.extract rfl rfl) ?_); (refine tkQ 7 (s := by exact Stab.extract rfl rfl) ?_); (refine tkQ 8 (s := by exact Stab.assign rfl) ?_); (refine tkQ 9 (s := by exact Stab.assign rfl) ?_); (refine tkQ 10 (s := by exact Stab.assign rfl) ?_); (refine TrA.done (by kernel_rfl) ?_))
 clear hm hE
 have hx14 := hx13.mono hM13
 (refine rQ ?_)
 ((refine Tr.step rfl ?_)); refine Exec.call0 rfl (drop_fn M13 _ w0 (rwd_w0 M13) _ k8 hx14 (by decide) 8) rfl ?_
 rintro _ M14 hM14 (⟨-, x, rfl, hx15⟩ | ⟨hbad, -⟩)
 rotate_left
 ·exact absurd ⟨okB_k8, by decide⟩ hbad
 rw [k7_drop] at hx15
 obtain ⟨o1, o2, o3, o4, o5, o6, o7, o8, rfl⟩ := hx15.lit
 have hx16 := hx14.mono hM14
 have l8 : k8.reqs.length = 1 := rfl
 have l7 : k7.reqs.length = 0 := rfl
 (repeat (first | ((with_reducible refine Tr.step rfl ?_); (first | (refine xmQ ?_) | (refine xaQ ?_) | (refine xWQ ?_) | ((with_reducible refine Knd.alloc ?_); (refine Exec.alloc (tysOk.get rfl) rfl rfl (fun b => ?_))) | ((with_reducible refine Knd.extract ?_); (refine Exec.stab rfl (Stab.extract rfl rfl) rfl ?_)))) | (with_reducible first | apply Tr.next | apply Tr.seq | apply Tr.nil)))
 (((apply Tr.draw); (kernel_rfl)); (refine tkQ 0 (hB := by exact fun _ h => h) (s := by exact Stab.move rfl) ?_); (refine tkQ 1 (s := by exact siQ) ?_); (refine tkQ 2 (s := by exact Stab.move rfl) ?_); ((refine tgQ 3 (q := (decide_eq_false (by (with_reducible exact (not_not_intro rfl))))) (s := by exact Stab.move rfl) ?_)); ((refine tgQ 4 (q := (decide_eq_false (by (with_reducible exact (not_not_intro rfl))))) (s := by exact siQ) ?_)); (refine tkQ 5 (s := by exact Stab.pick_fd rfl (by (with_reducible exact (not_not_intro rfl))) rfl) ?_); (refine tkQ 6 (s := by exact Stab.move rfl) ?_); ((refine tgQ 7 (q := (decide_eq_false (by (with_reducible exact (not_not_intro rfl))))) (s := by exact Stab.move rfl) ?_)); ((refine tgQ 8 (q := (decide_eq_false (by (with_reducible exact (not_not_intro rfl))))) (s := by exact siQ) ?_)); (refine tkQ 9 (s := by exact Stab.pick_fd rfl (by (with_reducible exact (not_not_intro rfl))) rfl) ?_); (refine tkQ 10 (s := by exact Stab.move rfl) ?_); ((refine tgQ 11 (q := (decide_eq_false (by (with_reducible exact (not_not_intro rfl))))) (s := by exact Stab.move rfl) ?_)); ((refine tgQ 12 (q := (decide_eq_false (by (with_reducible exact (not_not_intro rfl))))) (s := by exact siQ) ?_)); (refine tkQ 13 (s := by exact Stab.pick_fd rfl (by (with_reducible exact (not_not_intro rfl))) rfl) ?_); (refine tkQ 14 (s := by exact Stab.move rfl) ?_); ((refine tgQ 15 (q := (decide_eq_false (by (with_reducible exact (not_not_intro rfl))))) (s := by exact Stab.move rfl) ?_)); ((refine tgQ 16 (q := (decide_eq_false (by (with_reducible exact (not_not_intro rfl))))) (s := by exact siQ) ?_)); (refine tkQ 17 (s := by exact Stab.pick_fd rfl (by (with_reducible exact (not_not_intro rfl))) rfl) ?_); (refine tkQ 18 (s := by exact Stab.move rfl) ?_); ((refine tgQ 19 (q := (decide_eq_false (by (with_reducible exact (not_not_intro rfl))))) (s := by exact Stab.move rfl) ?_)); ((refine tgQ 20 (q := (decide_eq_false (by (with_reducible exact (not_not_intro rfl))))) (s := by exact siQ) ?_)); (refine tkQ 21 (s := by exact Stab.pick_fd rfl (by (with_reducible exact (not_not_intro rfl))) rfl) ?_); (refine tkQ 22 (s := by exact Stab.move rfl) ?_); ((refine tgQ 23 (q := (decide_eq_false (by (with_reducible exact (not_not_intro rfl))))) (s := by exact Stab.move rfl) ?_)); ((refine tgQ 24 (q := (decide_eq_false (by (with_reducible exact (not_not_intro rfl))))) (s := by exact siQ) ?_)); (refine tkQ 25 (s := by exact Stab.pick_fd rfl (by (with_reducible exact (not_not_intro rfl))) rfl) ?_); (refine tkQ 26 (s := by exact Stab.move rfl) ?_); ((refine tgQ 27 (q := (decide_eq_false (by (with_reducible exact (not_not_intro rfl))))) (s := by exact Stab.move rfl) ?_)); ((refine tgQ 28 (q := (decide_eq_false (by (with_reducible exact (not_not_intro rfl))))) (s := by exact siQ) ?_)); (refine tkQ 29 (s := by exact Stab.pick_fd rfl (by (with_reducible exact (not_not_intro rfl))) rfl) ?_); (refine tkQ 30 (s := by exact Stab.move rfl) ?_); ((refine tgQ 31 (q := (decide_eq_false (by (with_reducible exact (not_not_intro rfl))))) (s := by exact Stab.move rfl) ?_)); ((refine tgQ 32 (q := (decide_eq_false (by (with_reducible exact (not_not_intro rfl))))) (s := by exact siQ) ?_)); (refine tkQ 33 (s := by exact Stab.pick_fd rfl (by (with_reducible exact (not_not_intro rfl))) rfl) ?_); (refine tkQ 34 (s := by exact Stab.move rfl) ?_); ((refine tgQ 35 (q := (decide_eq_false (by (with_reducible exact (not_not_intro rfl))))) (s := by exact Stab.move rfl) ?_)); ((refine tgQ 36 (q := (decide_eq_false (by (with_reducible exact (not_not_intro rfl))))) (s := by exact siQ) ?_)); (refine tkQ 37 (s := by exact Stab.pick_fd rfl (by (with_reducible exact (not_not_intro rfl))) rfl) ?_); (refine tkQ 38 (s := by exact Stab.move rfl) ?_); ((refine tgQ 39 (q := (decide_eq_false (by (with_reducible exact (not_not_intro rfl))))) (s := by exact Stab.move rfl) ?_)); ((refine tgQ 40 (q := (decide_eq_false (by (with_reducible exact (not_not_intro rfl))))) (s := by exact siQ) ?_)); (refine tkQ 41 (s := by exact Stab.pick_fd rfl (by (with_reducible exact (not_not_intro rfl))) rfl) ?_); (refine tkQ 42 (s := by exact Stab.move rfl) ?_); ((refine tgQ 43 (q := (decide_eq_false (by (with_reducible exact (not_not_intro rfl))))) (s := by exact Stab.move rfl) ?_)); ((refine tgQ 44 (q := (decide_eq_false (by (with_reducible exact (not_not_intro rfl))))) (s := by exact siQ) ?_)); (refine tkQ 45 (s := by exact Stab.pick_fd rfl (by (with_reducible exact (not_not_intro rfl))) rfl) ?_); (refine tkQ 46 (s := by exact Stab.move rfl) ?_); ((refine tgQ 47 (q := (decide_eq_false (by (with_reducible exact (not_not_intro rfl))))) (s := by exact swQ) ?_)); ((refine tgQ 48 (q := (decide_eq_false (by (with_reducible exact (not_not_intro rfl))))) (s := by exact swQ) ?_)); (refine TrA.eff 49 rfl (by kernel_rfl) (by exact .inr ⟨_, _, _, rfl, rfl, rfl⟩) ?_))
 refine Exec.call0 rfl (check_fn' M14 _ w0 (rwd_w0 M14) _ k8 hx16 (by decide)) rfl ?_
 rintro _ M15 hM15 rfl
 rw [chk_k8]
 refine ⟨hM15, (by exact fun _ h => h), ?_⟩
 (((refine tgQ 50 (q := (decide_eq_false (by (with_reducible exact (not_not_intro rfl))))) (s := by exact siQ) ?_)); (refine tkQ 51 (s := by exact Stab.pick_fd rfl (by (with_reducible exact (not_not_intro rfl))) rfl) ?_); (refine tkQ 52 (s := by exact Stab.move rfl) ?_); ((refine tgQ 53 (q := (decide_eq_false (by (with_reducible exact (not_not_intro rfl))))) (s := by exact swQ) ?_)); (refine TrA.eff 54 rfl (by kernel_rfl) (by exact .inr ⟨_, _, _, rfl, rfl, rfl⟩) ?_))
 refine Exec.call0 rfl (lrequest_fn M15 1 1 1) rfl ?_
 rintro _ _ hm ⟨rfl, rfl⟩
 refine ⟨hm, (by exact fun _ h => h), ?_⟩
 ((refine TrA.eff 55 rfl (by kernel_rfl) (by exact .inr ⟨_, _, _, rfl, rfl, rfl⟩) ?_); (((refine Knd.buildSlice ?_); ((refine Exec.buildSlice (tysOk.get rfl) rfl (tysOk.get rfl) rfl rfl rfl rfl rfl (by repeat (first | exact BuildP.nil | ((apply BuildP.many); (rfl); (rfl); (rfl); (rfl); (repeat (first | exact PutL.nil | ((apply PutL.cons); (repeat (first | exact SetL.z | apply SetL.s)))))))) rfl (fun b => ?_))))); (refine ⟨(by first | exact Mem.le.refl _ | assumption), (by exact (Sub.mem (by repeat (first | exact Sub.refl | apply Sub.cons)))), ?_⟩))
 refine TrA.publish (x := box _ 46 _) (by repeat (first | exact Del.here | apply Del.there)) (fun M16 hM16 hok16 => ?_)
 have hkb : RBp M16 (.agg #[.int .i64 0, .slice none 0 0, .slice (some ⟨_, 0, none⟩) 1 1, .slice none 0 0, .slice none 0 0]) kBad := ⟨none, 0, some ⟨_, 0, none⟩, 1, none, 0, none, 0, rfl, SlOf.nil _ _ _, SlOf.ofBoxC (sz := 6) (n := 1) (c := 1) (xs := kBad.reqs) hok16 rfl rfl (Nat.le_refl _) (by decide) (flatMap_one rqC_one kBad.reqs) (rqC_elems M16 kBad.reqs), SlOf.nil _ _ _, SlOf.nil _ _ _⟩
 (((refine tgQ 56 (q := (decide_eq_false (by (with_reducible exact (not_not_intro rfl))))) (s := by exact Stab.build tysOk rfl rfl rfl rfl (by repeat (first | exact BuildP.nil | ((apply BuildP.one); (rfl); (rfl); (first | rfl | assumption); (repeat (first | exact SetL.z | apply SetL.s)))))) ?_)); (refine TrA.eff 57 rfl (by kernel_rfl) (by exact .inr ⟨_, _, _, rfl, rfl, rfl⟩) ?_))
 refine Exec.call0 rfl (check_fn' M16 _ w0 (rwd_w0 M16) _ kBad hkb (by decide)) rfl ?_
 rintro _ M17 hM17 rfl
 rw [chk_bad]
 refine ⟨hM17, (by exact fun _ h => h), ?_⟩
 (((refine tgQ 58 (q := (decide_eq_false (by (with_reducible exact (not_not_intro rfl))))) (s := by exact siQ) ?_)); (refine tkQ 59 (s := by exact Stab.pick_fd rfl (by (with_reducible exact (not_not_intro rfl))) rfl) ?_); (refine TrA.done (by kernel_rfl) ?_))
 have hm17 : Mem.le M14 M17 := Mem.le.trans hM15 (Mem.le.trans hM16 hM17)
 have hm9 : Mem.le M9 M17 := Mem.le.trans hM10 (Mem.le.trans hM11 (Mem.le.trans hM12 (Mem.le.trans hM13 (Mem.le.trans hM14 hm17))))
 have hm10 : Mem.le M10 M17 := Mem.le.trans hM11 (Mem.le.trans hM12 (Mem.le.trans hM13 (Mem.le.trans hM14 hm17)))
 have hm5 : Mem.le M5 M17 := Mem.le.trans hM58 (Mem.le.trans hM9 hm9)
 have hm3 : Mem.le M3 M17 := Mem.le.trans hM4 (Mem.le.trans hM5 hm5)
 have hm0 : Mem.le M M17 := Mem.le.trans hM02 (Mem.le.trans hM3 hm3)
 obtain ⟨iA, _, hatA, rB, rk, rfl, hrow⟩ := (hal9.mono RRowI.mono hm9).elem (i := 0) rfl
 rw [show ([2] : List Int).length = 1 from rfl] at hatA hrow
 obtain ⟨iR, hatR⟩ := Ints.at hrow (i := 0) rfl
 obtain ⟨iD, _, hatD, rfl⟩ := (hD9.mono RRd.mono hm9).elem (i := 0) rfl
 simp only [rdC] at hatD
 obtain ⟨iB, hatB⟩ := Ints.at (hB6.mono RI.mono hm5) (i := 0) rfl
 obtain ⟨iC, hatC⟩ := Ints.at (hB10.mono RI.mono hm10) (i := 0) rfl
 obtain ⟨iE, hatE⟩ := Ints.at (hB10.mono RI.mono hm10) (i := 1) rfl
 (refine rQ ?_)
 ((refine Tr.guard_y rfl rfl rfl (by (with_reducible rfl)) ?_)); refine Exec.call0 rfl (sameB_fn M17 _ _ k0 k0 (hx6.mono hm5) (hx.mono hm3)) rfl ?_
 rintro _ _ _ ⟨⟨q, rfl, hq⟩, rfl⟩
 obtain rfl := hq.2 rfl
 (repeat (first | ((with_reducible refine Tr.step rfl ?_); (first | (refine xmQ ?_) | (refine xaQ ?_) | ((with_reducible refine Knd.pick ?_); (first | (refine Exec.stab rfl (Stab.pick_t rfl (by first | (with_reducible rfl) | (with_reducible exact Bool.not_false)) rfl) rfl ?_) | (refine Exec.stab rfl (Stab.pick_td rfl (by first | (with_reducible rfl) | omega) rfl) rfl ?_))))) | (with_reducible first | apply Tr.next | apply Tr.app | apply Tr.app0 | apply Tr.nil) | ((refine Tr.guard_l rfl rfl rfl (by first | (with_reducible rfl) | (with_reducible exact Bool.not_false)) ?_); (first | (refine xmQ ?_) | ((with_reducible refine Knd.load ?_); (first | (refine xlQ ?_) | (refine xMQ ?_))) | (refine xfQ ?_) | (refine xiQ ?_) | (refine xxQ ?_))) | ((refine Tr.guard_y rfl rfl rfl (by first | (with_reducible assumption) | (with_reducible rfl) | omega) ?_); (first | (refine xmQ ?_) | ((with_reducible refine Knd.load ?_); (first | (refine xlQ ?_) | (refine xMQ ?_) | (refine Exec.stab rfl (Stab.loadMA rfl (tysOk.get rfl) rfl (by assumption) (by first | rfl | assumption)) rfl ?_))) | (refine xfQ ?_) | (refine xnQ ?_) | ((with_reducible refine Knd.binOp ?_); (first | (refine Exec.stab rfl (Stab.steqL rfl rfl (by repeat (first | exact IntsL.nil | apply IntsL.cons)) (by repeat (first | exact IntsL.nil | apply IntsL.cons)) (tysOk.get rfl) rfl (by kernel_rfl) (by kernel_rfl) rfl rfl) rfl ?_) | (refine xiQ ?_))) | ((with_reducible refine Knd.unOp ?_); (refine Exec.stab rfl (Stab.not rfl) rfl ?_)) | (refine xxQ ?_) | ((with_reducible refine Knd.build ?_); (refine Exec.stab rfl (Stab.build tysOk rfl rfl rfl rfl (by repeat (first | exact BuildP.nil | ((apply BuildP.one); (rfl); (rfl); (first | rfl | assumption); (repeat (first | exact SetL.z | apply SetL.s))) | ((apply BuildP.many); (rfl); (rfl); (rfl); (rfl); (repeat (first | exact PutL.nil | ((apply PutL.cons); (repeat (first | exact SetL.z | apply SetL.s))))))))) rfl ?_)))) | (with_reducible refine Tr.ret ?_)))
 (refine dnQ (hL := by exact ⟨[_, _, _, _, _, _, _, _, _, _, _, _], rfl⟩) ⟨rfl, ?_⟩)
 rfl
end Go.Proofs.YtmikfjcdgkopkaaGreat

/-
 The reference's classes: is a supply, is a request valid?
 Conditions: none.
-/
namespace Go.Proofs.YtmikfjcdgkopkaaGreat
open Go Bf
attribute [local irreducible] Tr Exec Stab HasTy Go.Addr.add IntKind.wrap
theorem rin_fn (M : Mem) (n lo hi : Int) : Fn0 Tryz.prog 140 [.int .i64 n, .int .i64 lo, .int .i64 hi] M (fun r M' => r = .bool (decide (lo ≤ n ∧ n ≤ hi)) ∧ M = M') := by
 refine Fn.intro Tryz.func140 rfl rfl Tryz.ntmps140 rfl fun E F => ?_
 by_cases h1 : n ≥ lo
 ·(refine rQ ?_)
  (refine dnQ (hL := by exact ⟨[], rfl⟩) ⟨rfl, ?_⟩)
  refine ⟨?_, rfl⟩
  rw [show decide (lo ≤ n ∧ n ≤ hi) = decide (n ≤ hi) from decide_eq_decide.2 ⟨fun h => h.2, fun h => ⟨h1, h⟩⟩]
  rfl
 ·(refine rQ ?_)
  (refine dnQ (hL := by exact ⟨[], rfl⟩) ⟨rfl, ?_⟩)
  refine ⟨?_, rfl⟩
  rw [show decide (lo ≤ n ∧ n ≤ hi) = false from decide_eq_false (fun h => h1 h.1)]
  rfl
set_option maxHeartbeats 4000000 in
theorem rSupply_fn (M : Mem) (s : Sp) : Fn0 Tryz.prog 114 [.agg #[.int .i64 s.no, .int .i64 s.item, .int .i64 s.plant, .int .i64 s.ready, .int .i64 s.expiry, .int .i64 s.amount]] M (fun x M' => x = .bool (decide (okSp s)) ∧ M = M') := by
 refine Fn.intro Tryz.func114 rfl rfl Tryz.ntmps114 rfl fun E F => ?_
 (repeat (first | ((with_reducible refine Tr.step rfl ?_); (first | (refine xaQ ?_) | (refine xlQ ?_) | (refine xfQ ?_) | ((with_reducible refine Knd.box ?_); (refine Exec.box rfl rfl (fun b => ?_))))) | (with_reducible first | apply Tr.next | apply Tr.seq | apply Tr.region | apply Tr.nil)))
 ((refine Tr.step rfl ?_)); refine Exec.call0 rfl (rin_fn M s.no 0 1023) rfl ?_
 rintro _ _ _ ⟨rfl, rfl⟩
 by_cases h0 : 0 ≤ s.no ∧ s.no ≤ 1023
 rotate_left
 ·rw [show decide (0 ≤ s.no ∧ s.no ≤ 1023) = false from decide_eq_false h0]
  (refine rQ ?_)
  (refine dnQ (hL := by exact ⟨[_], rfl⟩) ⟨rfl, ?_⟩)
  exact ⟨by rw [decide_eq_false (fun h => h0 h.1)]; rfl, rfl⟩
 rw [show decide (0 ≤ s.no ∧ s.no ≤ 1023) = true from decide_eq_true h0]
 (refine rQ ?_)
 ((refine Tr.guard_l rfl rfl rfl (by (with_reducible rfl)) ?_)); refine Exec.call0 rfl (rin_fn M s.item 0 31) rfl ?_
 rintro _ _ _ ⟨rfl, rfl⟩
 by_cases h1 : 0 ≤ s.item ∧ s.item ≤ 31
 rotate_left
 ·rw [show decide (0 ≤ s.item ∧ s.item ≤ 31) = false from decide_eq_false h1]
  (refine rQ ?_)
  (refine dnQ (hL := by exact ⟨[_], rfl⟩) ⟨rfl, ?_⟩)
  exact ⟨by rw [decide_eq_false (fun h => h1 h.2.1)]; rfl, rfl⟩
 rw [show decide (0 ≤ s.item ∧ s.item ≤ 31) = true from decide_eq_true h1]
 (refine rQ ?_)
 ((refine Tr.guard_l rfl rfl rfl (by (with_reducible rfl)) ?_)); refine Exec.call0 rfl (rin_fn M s.plant 0 7) rfl ?_
 rintro _ _ _ ⟨rfl, rfl⟩
 by_cases h2 : 0 ≤ s.plant ∧ s.plant ≤ 7
 rotate_left
 ·rw [show decide (0 ≤ s.plant ∧ s.plant ≤ 7) = false from decide_eq_false h2]
  (refine rQ ?_)
  (refine dnQ (hL := by exact ⟨[_], rfl⟩) ⟨rfl, ?_⟩)
  exact ⟨by rw [decide_eq_false (fun h => h2 h.2.2.1)]; rfl, rfl⟩
 rw [show decide (0 ≤ s.plant ∧ s.plant ≤ 7) = true from decide_eq_true h2]
 (refine rQ ?_)
 ((refine Tr.guard_l rfl rfl rfl (by (with_reducible rfl)) ?_)); refine Exec.call0 rfl (rin_fn M s.ready 0 1024) rfl ?_
 rintro _ _ _ ⟨rfl, rfl⟩
 by_cases h3 : 0 ≤ s.ready ∧ s.ready ≤ 1024
 rotate_left
 ·rw [show decide (0 ≤ s.ready ∧ s.ready ≤ 1024) = false from decide_eq_false h3]
  (refine rQ ?_)
  (refine dnQ (hL := by exact ⟨[_], rfl⟩) ⟨rfl, ?_⟩)
  exact ⟨by rw [decide_eq_false (fun h => h3 h.2.2.2.1)]; rfl, rfl⟩
 rw [show decide (0 ≤ s.ready ∧ s.ready ≤ 1024) = true from decide_eq_true h3]
 (refine rQ ?_)
 ((refine Tr.guard_l rfl rfl rfl (by (with_reducible rfl)) ?_)); refine Exec.call0 rfl (rin_fn M s.expiry 0 1024) rfl ?_
 rintro _ _ _ ⟨rfl, rfl⟩
 by_cases h4 : 0 ≤ s.expiry ∧ s.expiry ≤ 1024
 rotate_left
 ·rw [show decide (0 ≤ s.expiry ∧ s.expiry ≤ 1024) = false from decide_eq_false h4]
  (refine rQ ?_)
  (refine dnQ (hL := by exact ⟨[_], rfl⟩) ⟨rfl, ?_⟩)
  exact ⟨by rw [decide_eq_false (fun h => h4 h.2.2.2.2.1)]; rfl, rfl⟩
 rw [show decide (0 ≤ s.expiry ∧ s.expiry ≤ 1024) = true from decide_eq_true h4]
 (refine rQ ?_)
 ((refine Tr.guard_l rfl rfl rfl (by (with_reducible rfl)) ?_)); refine Exec.call0 rfl (rin_fn M s.amount 0 1048576) rfl ?_
 rintro _ _ _ ⟨rfl, rfl⟩
 (refine rQ ?_)
 (refine dnQ (hL := by exact ⟨[_], rfl⟩) ⟨rfl, ?_⟩)
 refine ⟨?_, rfl⟩
 rw [show decide (okSp s) = decide (0 ≤ s.amount ∧ s.amount ≤ 1048576) from decide_eq_decide.2 ⟨fun h => h.2.2.2.2.2, fun h => ⟨h0, h1, h2, h3, h4, h⟩⟩]
 rfl
set_option maxHeartbeats 4000000 in
theorem rRequest_fn (M : Mem) (r : Rq) : Fn0 Tryz.prog 115 [.agg #[.int .i64 r.no, .int .i64 r.item, .int .i64 r.cust, .int .i64 r.due, .int .i64 r.shelf, .int .i64 r.amount]] M (fun x M' => x = .bool (decide (okRq r)) ∧ M = M') := by
 refine Fn.intro Tryz.func115 rfl rfl Tryz.ntmps115 rfl fun E F => ?_
 (repeat (first | ((with_reducible refine Tr.step rfl ?_); (first | (refine xaQ ?_) | (refine xlQ ?_) | (refine xfQ ?_) | ((with_reducible refine Knd.box ?_); (refine Exec.box rfl rfl (fun b => ?_))))) | (with_reducible first | apply Tr.next | apply Tr.seq | apply Tr.region | apply Tr.nil)))
 ((refine Tr.step rfl ?_)); refine Exec.call0 rfl (rin_fn M r.no 0 1023) rfl ?_
 rintro _ _ _ ⟨rfl, rfl⟩
 by_cases h0 : 0 ≤ r.no ∧ r.no ≤ 1023
 rotate_left
 ·rw [show decide (0 ≤ r.no ∧ r.no ≤ 1023) = false from decide_eq_false h0]
  (refine rQ ?_)
  (refine dnQ (hL := by exact ⟨[_], rfl⟩) ⟨rfl, ?_⟩)
  exact ⟨by rw [decide_eq_false (fun h => h0 h.1)]; rfl, rfl⟩
 rw [show decide (0 ≤ r.no ∧ r.no ≤ 1023) = true from decide_eq_true h0]
 (refine rQ ?_)
 ((refine Tr.guard_l rfl rfl rfl (by (with_reducible rfl)) ?_)); refine Exec.call0 rfl (rin_fn M r.item 0 31) rfl ?_
 rintro _ _ _ ⟨rfl, rfl⟩
 by_cases h1 : 0 ≤ r.item ∧ r.item ≤ 31
 rotate_left
 ·rw [show decide (0 ≤ r.item ∧ r.item ≤ 31) = false from decide_eq_false h1]
  (refine rQ ?_)
  (refine dnQ (hL := by exact ⟨[_], rfl⟩) ⟨rfl, ?_⟩)
  exact ⟨by rw [decide_eq_false (fun h => h1 h.2.1)]; rfl, rfl⟩
 rw [show decide (0 ≤ r.item ∧ r.item ≤ 31) = true from decide_eq_true h1]
 (refine rQ ?_)
 ((refine Tr.guard_l rfl rfl rfl (by (with_reducible rfl)) ?_)); refine Exec.call0 rfl (rin_fn M r.cust 0 4095) rfl ?_
 rintro _ _ _ ⟨rfl, rfl⟩
 by_cases h2 : 0 ≤ r.cust ∧ r.cust ≤ 4095
 rotate_left
 ·rw [show decide (0 ≤ r.cust ∧ r.cust ≤ 4095) = false from decide_eq_false h2]
  (refine rQ ?_)
  (refine dnQ (hL := by exact ⟨[_], rfl⟩) ⟨rfl, ?_⟩)
  exact ⟨by rw [decide_eq_false (fun h => h2 h.2.2.1)]; rfl, rfl⟩
 rw [show decide (0 ≤ r.cust ∧ r.cust ≤ 4095) = true from decide_eq_true h2]
 (refine rQ ?_)
 ((refine Tr.guard_l rfl rfl rfl (by (with_reducible rfl)) ?_)); refine Exec.call0 rfl (rin_fn M r.due 0 1023) rfl ?_
 rintro _ _ _ ⟨rfl, rfl⟩
 by_cases h3 : 0 ≤ r.due ∧ r.due ≤ 1023
 rotate_left
 ·rw [show decide (0 ≤ r.due ∧ r.due ≤ 1023) = false from decide_eq_false h3]
  (refine rQ ?_)
  (refine dnQ (hL := by exact ⟨[_], rfl⟩) ⟨rfl, ?_⟩)
  exact ⟨by rw [decide_eq_false (fun h => h3 h.2.2.2.1)]; rfl, rfl⟩
 rw [show decide (0 ≤ r.due ∧ r.due ≤ 1023) = true from decide_eq_true h3]
 (refine rQ ?_)
 ((refine Tr.guard_l rfl rfl rfl (by (with_reducible rfl)) ?_)); refine Exec.call0 rfl (rin_fn M r.shelf 0 1024) rfl ?_
 rintro _ _ _ ⟨rfl, rfl⟩
 by_cases h4 : 0 ≤ r.shelf ∧ r.shelf ≤ 1024
 rotate_left
 ·rw [show decide (0 ≤ r.shelf ∧ r.shelf ≤ 1024) = false from decide_eq_false h4]
  (refine rQ ?_)
  (refine dnQ (hL := by exact ⟨[_], rfl⟩) ⟨rfl, ?_⟩)
  exact ⟨by rw [decide_eq_false (fun h => h4 h.2.2.2.2.1)]; rfl, rfl⟩
 rw [show decide (0 ≤ r.shelf ∧ r.shelf ≤ 1024) = true from decide_eq_true h4]
 (refine rQ ?_)
 ((refine Tr.guard_l rfl rfl rfl (by (with_reducible rfl)) ?_)); refine Exec.call0 rfl (rin_fn M r.amount 0 1048576) rfl ?_
 rintro _ _ _ ⟨rfl, rfl⟩
 (refine rQ ?_)
 (refine dnQ (hL := by exact ⟨[_], rfl⟩) ⟨rfl, ?_⟩)
 refine ⟨?_, rfl⟩
 rw [show decide (okRq r) = decide (0 ≤ r.amount ∧ r.amount ≤ 1048576) from decide_eq_decide.2 ⟨fun h => h.2.2.2.2.2, fun h => ⟨h0, h1, h2, h3, h4, h⟩⟩]
 rfl
end Go.Proofs.YtmikfjcdgkopkaaGreat

/-
 The reference's facts: Before and At.
 Conditions: none.
-/
namespace Go.Proofs.YtmikfjcdgkopkaaGreat
open Go Bf
attribute [local irreducible] Tr Exec Stab HasTy Go.Addr.add IntKind.wrap
set_option maxHeartbeats 4000000 in
theorem rbefore_fn (M : Mem) (f g : Fc) : Fn0 Tryz.prog 147 [.agg #[.int .i64 f.key.1, .int .i64 f.key.2.1, .int .i64 f.key.2.2, .int .i64 f.val, .int .i64 f.lo, .int .i64 f.hi, .int .i64 f.known, .int .i64 f.no], .agg #[.int .i64 g.key.1, .int .i64 g.key.2.1, .int .i64 g.key.2.2, .int .i64 g.val, .int .i64 g.lo, .int .i64 g.hi, .int .i64 g.known, .int .i64 g.no]] M (fun r M' => r = .bool (before f g) ∧ M = M') := by
 refine Fn.intro Tryz.func147 rfl rfl Tryz.ntmps147 rfl fun E F => ?_
 by_cases h1 : f.known < g.known
 ·(repeat (first | ((with_reducible refine Tr.step rfl ?_); (first | (refine xmQ ?_) | (refine xaQ ?_) | (refine xlQ ?_) | (refine xfQ ?_) | (refine xiQ ?_) | ((with_reducible refine Knd.pick ?_); (refine Exec.stab rfl (Stab.pick_td rfl (by (with_reducible assumption)) rfl) rfl ?_)) | ((with_reducible refine Knd.box ?_); (refine Exec.box rfl rfl (fun b => ?_))))) | (with_reducible first | apply Tr.next | apply Tr.seq | apply Tr.region | apply Tr.nil) | (refine Tr.guard_n' rfl rfl rfl (by (with_reducible assumption)) rfl rfl ?_) | (refine Tr.guard_u rfl rfl rfl rfl rfl ?_) | (with_reducible refine Tr.ret ?_)))
  (refine dnQ (hL := by exact ⟨[_, _], rfl⟩) ⟨rfl, ?_⟩)
  exact ⟨by rw [before, decide_eq_true h1]; rfl, rfl⟩
 by_cases h2 : f.known = g.known
 ·(repeat (first | ((with_reducible refine Tr.step rfl ?_); (first | (refine xmQ ?_) | (refine xaQ ?_) | (refine xlQ ?_) | (refine xfQ ?_) | (refine xiQ ?_) | ((with_reducible refine Knd.pick ?_); (refine Exec.stab rfl (Stab.pick_fd rfl (by (with_reducible assumption)) rfl) rfl ?_)) | ((with_reducible refine Knd.box ?_); (refine Exec.box rfl rfl (fun b => ?_))))) | (with_reducible first | apply Tr.next | apply Tr.seq | apply Tr.region | apply Tr.nil) | ((refine Tr.guard_y rfl rfl rfl (by (with_reducible assumption)) ?_); (first | (refine xlQ ?_) | (refine xfQ ?_) | (refine xiQ ?_))) | ((refine Tr.guard_y' rfl rfl rfl (by (with_reducible assumption)) ?_); (first | (refine xmQ ?_) | (refine xlQ ?_) | (refine xfQ ?_) | (refine xiQ ?_) | ((with_reducible refine Knd.pick ?_); (refine Exec.stab rfl (Stab.pick_td rfl (by (with_reducible assumption)) rfl) rfl ?_)))) | (with_reducible refine Tr.ret ?_)))
  (refine dnQ (hL := by exact ⟨[_, _], rfl⟩) ⟨rfl, ?_⟩)
  exact ⟨by rw [before, decide_eq_false h1, decide_eq_true h2, Bool.false_or, Bool.true_and]; rfl, rfl⟩
 ·(repeat (first | ((with_reducible refine Tr.step rfl ?_); (first | (refine xmQ ?_) | (refine xaQ ?_) | (refine xlQ ?_) | (refine xfQ ?_) | (refine xiQ ?_) | ((with_reducible refine Knd.pick ?_); (refine Exec.stab rfl (Stab.pick_fd rfl (by (with_reducible assumption)) rfl) rfl ?_)) | ((with_reducible refine Knd.box ?_); (refine Exec.box rfl rfl (fun b => ?_))))) | (with_reducible first | apply Tr.next | apply Tr.seq | apply Tr.region | apply Tr.nil) | ((refine Tr.guard_y' rfl rfl rfl (by (with_reducible assumption)) ?_); (first | (refine xmQ ?_) | (refine xlQ ?_) | (refine xfQ ?_) | (refine xiQ ?_) | ((with_reducible refine Knd.pick ?_); (refine Exec.stab rfl (Stab.pick_fd rfl (by (with_reducible assumption)) rfl) rfl ?_)))) | (refine Tr.guard_n rfl rfl rfl (by (with_reducible assumption)) rfl rfl ?_) | (with_reducible refine Tr.ret ?_)))
  (refine dnQ (hL := by exact ⟨[_, _], rfl⟩) ⟨rfl, ?_⟩)
  exact ⟨by rw [before, decide_eq_false h1, decide_eq_false h2]; rfl, rfl⟩
def bestV (o : Option Nat) : Int := match o with
 | none => -1
 | some j => (j : Int)
set_option maxHeartbeats 8000000 in
theorem rat_fn0 (M : Mem) (A : Option Addr) (c : Nat) (l : List Fc) (k : Ky) (day known : Int) (h : SlOf 8 RFc M (.slice A l.length c) l) :
  Fn0 Tryz.prog 142 [.slice A l.length c, .agg #[.int .i64 k.1, .int .i64 k.2.1, .int .i64 k.2.2], .int .i64 day, .int .i64 known] M (fun r _ => r = .tuple #[.int .i64 ((atF l k day known).getD 0), .bool (atF l k day known).isSome]) := by
 have hll := h.len_le
 refine Fn.intro Tryz.func142 rfl rfl Tryz.ntmps142 rfl fun E F => ?_
 (repeat (first | ((with_reducible refine Tr.step rfl ?_); (first | (refine xaQ ?_) | ((with_reducible refine Knd.box ?_); (refine Exec.box rfl rfl (fun b => ?_))))) | (with_reducible first | apply Tr.next | apply Tr.seq | apply Tr.region | apply Tr.nil | apply Tr.block)))
 generalize b = b5
 refine Tr.loop (α := Nat × Option Nat) (fun y => ⟨76, [(11, .int .i64 (y.1 : Int)), (10, .int .i64 (bestV y.2)), (0, .slice A l.length c), (2, .int .i64 day), (3, .int .i64 known), (5, .pointer (some ⟨b5, 0, none⟩))], [], M, box b5 86 [.int .i64 k.1, .int .i64 k.2.1, .int .i64 k.2.2] :: ([] ++ F)⟩)
  (fun y => y.1 ≤ l.length ∧ (l.take y.1).foldl (pick k day known) none = y.2.bind (fun j => l[j]?) ∧ ∀ j, y.2 = some j → j < l.length) (fun y => l.length - y.1) (0, none) ⟨Nat.zero_le _, rfl, fun j h => by cases h⟩ hsQ (fun y hy => ?_)
 obtain ⟨i, o⟩ := y
 obtain ⟨hi, hpick, ho⟩ := hy
 simp only at hi hpick ho
 dsimp only
 by_cases hlt : i < l.length
 rotate_left
 ·have e : i = l.length := by omega
  subst e
  rw [List.take_length] at hpick
  have hat : atF l k day known = valOf (o.bind fun j => l[j]?) := by rw [← hpick]; rfl
  cases o with
  | none =>
   have hb : bestV none < 0 := by decide
   rw [hat]
   (repeat (first | ((with_reducible refine Tr.step rfl ?_); (first | (refine xmQ ?_) | (refine xaQ ?_) | (refine xnQ ?_) | (refine xiQ ?_) | ((with_reducible refine Knd.pick ?_); (refine Exec.stab rfl (Stab.pick_td rfl (by (with_reducible assumption)) rfl) rfl ?_)))) | (with_reducible first | apply Tr.next | apply Tr.seq | apply Tr.region | apply Tr.nil) | (refine Tr.guard_n' rfl rfl rfl (by (with_reducible assumption)) rfl rfl ?_) | (with_reducible first | apply Tr.exit | apply Tr.ret | apply Tr.then_exit | apply Tr.then_ret) | ((with_reducible refine Tr.in_exit ?_ ?_); (exact rfl)) | (refine Tr.cond_bt rfl (by (with_reducible rfl)) ?_) | (refine Tr.cond_f rfl (by first | (with_reducible assumption) | omega) ?_)))
   (refine dnQ (hL := by exact ⟨[_], rfl⟩) ⟨rfl, ?_⟩)
   rfl
  | some j =>
   have hj := ho j rfl
   obtain ⟨g, hg⟩ := get_of_lt hj
   obtain ⟨hA, ch, hat2, rfl⟩ := h.elem hg
   simp only [fcC] at hat2
   have hat3 : At M (((A.getD default).add (j * 8)).add 3) [.int .i64 g.val, .int .i64 g.lo, .int .i64 g.hi, .int .i64 g.known, .int .i64 g.no] := hat2.drop 3
   have hat : atF l k day known = if g.val < 0 then none else some g.val := by rw [hat]; simp only [Option.bind_some, hg]; rfl
   rw [hat]
   simp only [bestV]
   by_cases h4 : g.val < 0
   ·rw [if_pos h4]
    (repeat (first | ((with_reducible refine Tr.step rfl ?_); (first | (refine xmQ ?_) | (refine xaQ ?_) | (refine xnQ ?_) | (refine xiQ ?_) | ((with_reducible refine Knd.pick ?_); (refine Exec.stab rfl (Stab.pick_fd rfl (by omega) rfl) rfl ?_)))) | (with_reducible first | apply Tr.next | apply Tr.seq | apply Tr.region | apply Tr.nil) | ((refine Tr.guard_y' rfl rfl rfl (by first | (with_reducible assumption) | omega) ?_); (first | (refine xmQ ?_) | (refine xMQ ?_) | ((with_reducible refine Knd.fieldAddr ?_); (refine Exec.stab rfl (Stab.fieldD rfl (tysOk.get rfl) rfl rfl (tysOk.get rfl) rfl) rfl ?_)) | (refine xiQ ?_) | (refine xxQ ?_))) | (with_reducible first | apply Tr.exit | apply Tr.ret | apply Tr.then_exit | apply Tr.then_ret) | ((with_reducible refine Tr.in_exit ?_ ?_); (exact rfl)) | (refine Tr.cond_t rfl (by (with_reducible assumption)) ?_) | (refine Tr.cond_f rfl (by first | (with_reducible assumption) | omega) ?_)))
    (refine dnQ (hL := by exact ⟨[_], rfl⟩) ⟨rfl, ?_⟩)
    rfl
   ·rw [if_neg h4]
    (repeat (first | ((with_reducible refine Tr.step rfl ?_); (first | (refine xmQ ?_) | (refine xaQ ?_) | (refine xMQ ?_) | ((with_reducible refine Knd.fieldAddr ?_); (refine Exec.stab rfl (Stab.fieldD rfl (tysOk.get rfl) rfl rfl (tysOk.get rfl) rfl) rfl ?_)) | (refine xnQ ?_) | (refine xiQ ?_) | ((with_reducible refine Knd.pick ?_); (refine Exec.stab rfl (Stab.pick_fd rfl (by omega) rfl) rfl ?_)) | (refine xxQ ?_))) | (with_reducible first | apply Tr.next | apply Tr.seq | apply Tr.region | apply Tr.nil) | ((refine Tr.guard_y' rfl rfl rfl (by first | (with_reducible assumption) | omega) ?_); (first | (refine xmQ ?_) | (refine xMQ ?_) | ((with_reducible refine Knd.fieldAddr ?_); (refine Exec.stab rfl (Stab.fieldD rfl (tysOk.get rfl) rfl rfl (tysOk.get rfl) rfl) rfl ?_)) | (refine xiQ ?_) | (refine xxQ ?_))) | (with_reducible first | apply Tr.skip | apply Tr.exit | apply Tr.ret | apply Tr.then_exit) | ((with_reducible refine Tr.in_exit ?_ ?_); (exact rfl)) | (refine Tr.cond_f rfl (by first | (with_reducible assumption) | omega) ?_)))
    (refine dnQ (hL := by exact ⟨[_], rfl⟩) ⟨rfl, ?_⟩)
    rfl
 obtain ⟨f, hf⟩ := get_of_lt hlt
 obtain ⟨hA, ch, hat, rfl⟩ := h.elem hf
 simp only [fcC] at hat
 have hfold := fold_take (pick k day known) none hf
 rw [hpick] at hfold
 have hsk : about k day known f = false → pick k day known (o.bind fun j => l[j]?) f = o.bind fun j => l[j]? := fun e => by
  unfold pick
  rw [e, Bool.false_and, if_neg (by decide)]
 by_cases hk : [f.key.1, f.key.2.1, f.key.2.2] = [k.1, k.2.1, k.2.2]
 rotate_left
 ·(repeat (first | ((with_reducible refine Tr.step rfl ?_); (first | (refine xmQ ?_) | ((with_reducible refine Knd.load ?_); (refine Exec.stab rfl (Stab.loadMA rfl (tysOk.get rfl) rfl (by assumption) (by first | rfl | assumption)) rfl ?_)) | (refine xnQ ?_) | (refine xiQ ?_) | (refine xWQ ?_) | ((with_reducible refine Knd.alloc ?_); (refine Exec.alloc (tysOk.get rfl) rfl rfl (fun b => ?_))) | (refine xxQ ?_))) | (with_reducible first | apply Tr.next | apply Tr.seq | apply Tr.region | apply Tr.nil | apply Tr.skip | apply Tr.block) | (refine Tr.cond_t rfl (by first | (with_reducible assumption) | omega) ?_)))
  (((apply Tr.draw); (kernel_rfl)); (refine tkQ 0 (hB := by exact fun _ h => h) (s := by exact sfQ) ?_); (refine tkQ 2 (s := by exact swQ) ?_); (refine tkQ 1 (s := by exact Stab.loadP rfl (tysOk.get rfl) rfl (by repeat (first | exact Has.here | apply Has.there)) (by repeat (first | exact TakeL.z | apply TakeL.s))) ?_); (refine tkQ 3 (s := by exact Stab.steqL rfl rfl (by repeat (first | exact IntsL.nil | apply IntsL.cons)) (by repeat (first | exact IntsL.nil | apply IntsL.cons)) (tysOk.get rfl) rfl (by kernel_rfl) (by kernel_rfl) rfl rfl) ?_); (refine tkQ 4 (s := by exact Stab.move rfl) ?_))
  rw [decide_eq_false hk]
  (((refine tuQ 5 ?_)); ((refine tuQ 8 ?_)); ((refine tuQ 6 ?_)); ((refine tuQ 7 ?_)); ((refine tuQ 9 ?_)); (refine tkQ 10 (s := by exact Stab.pick_f rfl (by (with_reducible rfl)) rfl) ?_); (refine tkQ 11 (s := by exact Stab.move rfl) ?_); ((refine tuQ 12 ?_)); ((refine tuQ 13 ?_)); ((refine tuQ 14 ?_)); ((refine tuQ 15 ?_)); ((refine tuQ 16 ?_)); (refine tkQ 17 (s := by exact Stab.pick_f rfl (by (with_reducible rfl)) rfl) ?_); (refine tkQ 18 (s := by exact Stab.move rfl) ?_); ((refine tuQ 19 ?_)); ((refine tuQ 21 ?_)); ((refine tuQ 20 ?_)); ((refine tuQ 22 ?_)); (refine tkQ 23 (s := by exact Stab.pick_f rfl (by (with_reducible rfl)) rfl) ?_); (refine tkQ 24 (s := by exact Stab.move rfl) ?_); ((refine tuQ 25 ?_)); ((refine tuQ 26 ?_)); ((refine tuQ 27 ?_)); ((refine TrA.takew 28 (by kernel_rfl) rfl (by kernel_rfl) (by exact fun _ _ _ h => h) (by exact fun _ h => h) rfl rfl rfl rfl rfl ?_)); ((refine TrA.takew 29 (by kernel_rfl) rfl (by kernel_rfl) (by exact fun _ _ _ h => h) (by exact fun _ h => h) rfl rfl rfl rfl rfl ?_)); ((refine TrA.takew 30 (by kernel_rfl) rfl (by kernel_rfl) (by exact fun _ _ _ h => h) (by exact fun _ h => h) rfl rfl rfl rfl rfl ?_)); ((refine TrA.takew 31 (by kernel_rfl) rfl (by kernel_rfl) (by exact fun _ _ _ h => h) (by exact fun _ h => h) rfl rfl rfl rfl rfl ?_)); ((refine TrA.takew 32 (by kernel_rfl) rfl (by kernel_rfl) (by exact fun _ _ _ h => h) (by exact fun _ h => h) rfl rfl rfl rfl rfl ?_)); ((refine TrA.takew 33 (by kernel_rfl) rfl (by kernel_rfl) (by exact fun _ _ _ h => h) (by exact fun _ h => h) rfl rfl rfl rfl rfl ?_)); ((refine TrA.takew 34 (by kernel_rfl) rfl (by kernel_rfl) (by exact fun _ _ _ h => h) (by exact fun _ h => h) rfl rfl rfl rfl rfl ?_)); ((refine tuQ 35 ?_)); (refine tkQ 36 (s := by exact Stab.pick_f rfl (by (with_reducible rfl)) rfl) ?_); (refine TrA.done (by kernel_rfl) ?_))
  (repeat (first | ((with_reducible refine Tr.step rfl ?_); (first | (refine xmQ ?_) | (refine xaQ ?_) | (refine xdQ ?_))) | (with_reducible first | apply Tr.next | apply Tr.region | apply Tr.nil | apply Tr.skip | apply Tr.in_normal) | (refine Tr.cond_bf rfl (by (with_reducible rfl)) ?_)))
  refine gvQ (r := box _ 147 _) ?_
  exact Tr.again (i + 1, o) ⟨by simp only; omega, by rw [hfold, hsk (about_miss fun h => hk h.1)], ho⟩ (by simp only; omega) hsQ
 by_cases h1 : f.lo ≤ day
 rotate_left
 ·(repeat (first | ((with_reducible refine Tr.step rfl ?_); (first | (refine xmQ ?_) | ((with_reducible refine Knd.load ?_); (refine Exec.stab rfl (Stab.loadMA rfl (tysOk.get rfl) rfl (by assumption) (by first | rfl | assumption)) rfl ?_)) | (refine xnQ ?_) | (refine xiQ ?_) | (refine xWQ ?_) | ((with_reducible refine Knd.alloc ?_); (refine Exec.alloc (tysOk.get rfl) rfl rfl (fun b => ?_))) | (refine xxQ ?_))) | (with_reducible first | apply Tr.next | apply Tr.seq | apply Tr.region | apply Tr.nil | apply Tr.skip | apply Tr.block) | (refine Tr.cond_t rfl (by first | (with_reducible assumption) | omega) ?_)))
  (((apply Tr.draw); (kernel_rfl)); (refine tkQ 0 (hB := by exact fun _ h => h) (s := by exact sfQ) ?_); (refine tkQ 2 (s := by exact swQ) ?_); (refine tkQ 1 (s := by exact Stab.loadP rfl (tysOk.get rfl) rfl (by repeat (first | exact Has.here | apply Has.there)) (by repeat (first | exact TakeL.z | apply TakeL.s))) ?_); (refine tkQ 3 (s := by exact Stab.steqL rfl rfl (by repeat (first | exact IntsL.nil | apply IntsL.cons)) (by repeat (first | exact IntsL.nil | apply IntsL.cons)) (tysOk.get rfl) rfl (by kernel_rfl) (by kernel_rfl) rfl rfl) ?_); (refine tkQ 4 (s := by exact Stab.move rfl) ?_); ((refine tgQ 5 (q := (decide_eq_true (by (with_reducible assumption)))) (s := by exact sfQ) ?_)); ((refine tgQ 8 (q := (decide_eq_true (by (with_reducible assumption)))) (s := by exact Stab.move rfl) ?_)); ((refine tgQ 6 (q := (decide_eq_true (by (with_reducible assumption)))) (s := by exact Stab.fieldN rfl (tysOk.get rfl) rfl rfl (tysOk.get rfl) rfl) ?_)); ((refine tgQ 7 (q := (decide_eq_true (by (with_reducible assumption)))) (s := by exact slQ) ?_)); ((refine tgQ 9 (q := (decide_eq_true (by (with_reducible assumption)))) (s := by exact siQ) ?_)); (refine tkQ 10 (s := by exact Stab.pick_td rfl (by (with_reducible assumption)) rfl) ?_); (refine tkQ 11 (s := by exact Stab.move rfl) ?_); ((refine tuQ 12 ?_)); ((refine tuQ 13 ?_)); ((refine tuQ 14 ?_)); ((refine tuQ 15 ?_)); ((refine tuQ 16 ?_)); (refine tkQ 17 (s := by exact Stab.pick_fd rfl (by (with_reducible assumption)) rfl) ?_); (refine tkQ 18 (s := by exact Stab.move rfl) ?_); ((refine tuQ 19 ?_)); ((refine tuQ 21 ?_)); ((refine tuQ 20 ?_)); ((refine tuQ 22 ?_)); (refine tkQ 23 (s := by exact Stab.pick_f rfl (by (with_reducible rfl)) rfl) ?_); (refine tkQ 24 (s := by exact Stab.move rfl) ?_); ((refine tuQ 25 ?_)); ((refine tuQ 26 ?_)); ((refine tuQ 27 ?_)); ((refine TrA.takew 28 (by kernel_rfl) rfl (by kernel_rfl) (by exact fun _ _ _ h => h) (by exact fun _ h => h) rfl rfl rfl rfl rfl ?_)); ((refine TrA.takew 29 (by kernel_rfl) rfl (by kernel_rfl) (by exact fun _ _ _ h => h) (by exact fun _ h => h) rfl rfl rfl rfl rfl ?_)); ((refine TrA.takew 30 (by kernel_rfl) rfl (by kernel_rfl) (by exact fun _ _ _ h => h) (by exact fun _ h => h) rfl rfl rfl rfl rfl ?_)); ((refine TrA.takew 31 (by kernel_rfl) rfl (by kernel_rfl) (by exact fun _ _ _ h => h) (by exact fun _ h => h) rfl rfl rfl rfl rfl ?_)); ((refine TrA.takew 32 (by kernel_rfl) rfl (by kernel_rfl) (by exact fun _ _ _ h => h) (by exact fun _ h => h) rfl rfl rfl rfl rfl ?_)); ((refine TrA.takew 33 (by kernel_rfl) rfl (by kernel_rfl) (by exact fun _ _ _ h => h) (by exact fun _ h => h) rfl rfl rfl rfl rfl ?_)); ((refine TrA.takew 34 (by kernel_rfl) rfl (by kernel_rfl) (by exact fun _ _ _ h => h) (by exact fun _ h => h) rfl rfl rfl rfl rfl ?_)); ((refine tuQ 35 ?_)); (refine tkQ 36 (s := by exact Stab.pick_f rfl (by (with_reducible rfl)) rfl) ?_); (refine TrA.done (by kernel_rfl) ?_))
  (repeat (first | ((with_reducible refine Tr.step rfl ?_); (first | (refine xmQ ?_) | (refine xaQ ?_) | (refine xdQ ?_))) | (with_reducible first | apply Tr.next | apply Tr.region | apply Tr.nil | apply Tr.skip | apply Tr.in_normal) | (refine Tr.cond_bf rfl (by (with_reducible rfl)) ?_)))
  refine gvQ (r := box _ 147 _) ?_
  exact Tr.again (i + 1, o) ⟨by simp only; omega, by rw [hfold, hsk (by simp [about, h1])], ho⟩ (by simp only; omega) hsQ
 by_cases h2 : day < f.hi
 rotate_left
 ·(repeat (first | ((with_reducible refine Tr.step rfl ?_); (first | (refine xmQ ?_) | ((with_reducible refine Knd.load ?_); (refine Exec.stab rfl (Stab.loadMA rfl (tysOk.get rfl) rfl (by assumption) (by first | rfl | assumption)) rfl ?_)) | (refine xnQ ?_) | (refine xiQ ?_) | (refine xWQ ?_) | ((with_reducible refine Knd.alloc ?_); (refine Exec.alloc (tysOk.get rfl) rfl rfl (fun b => ?_))) | (refine xxQ ?_))) | (with_reducible first | apply Tr.next | apply Tr.seq | apply Tr.region | apply Tr.nil | apply Tr.skip | apply Tr.block) | (refine Tr.cond_t rfl (by first | (with_reducible assumption) | omega) ?_)))
  (((apply Tr.draw); (kernel_rfl)); (refine tkQ 0 (hB := by exact fun _ h => h) (s := by exact sfQ) ?_); (refine tkQ 2 (s := by exact swQ) ?_); (refine tkQ 1 (s := by exact Stab.loadP rfl (tysOk.get rfl) rfl (by repeat (first | exact Has.here | apply Has.there)) (by repeat (first | exact TakeL.z | apply TakeL.s))) ?_); (refine tkQ 3 (s := by exact Stab.steqL rfl rfl (by repeat (first | exact IntsL.nil | apply IntsL.cons)) (by repeat (first | exact IntsL.nil | apply IntsL.cons)) (tysOk.get rfl) rfl (by kernel_rfl) (by kernel_rfl) rfl rfl) ?_); (refine tkQ 4 (s := by exact Stab.move rfl) ?_); ((refine tgQ 5 (q := (decide_eq_true (by (with_reducible assumption)))) (s := by exact sfQ) ?_)); ((refine tgQ 8 (q := (decide_eq_true (by (with_reducible assumption)))) (s := by exact Stab.move rfl) ?_)); ((refine tgQ 6 (q := (decide_eq_true (by (with_reducible assumption)))) (s := by exact Stab.fieldN rfl (tysOk.get rfl) rfl rfl (tysOk.get rfl) rfl) ?_)); ((refine tgQ 7 (q := (decide_eq_true (by (with_reducible assumption)))) (s := by exact slQ) ?_)); ((refine tgQ 9 (q := (decide_eq_true (by (with_reducible assumption)))) (s := by exact siQ) ?_)); (refine tkQ 10 (s := by exact Stab.pick_td rfl (by (with_reducible assumption)) rfl) ?_); (refine tkQ 11 (s := by exact Stab.move rfl) ?_); ((refine tgQ 12 (q := (decide_eq_true (by (with_reducible assumption)))) (s := by exact Stab.move rfl) ?_)); ((refine tgQ 13 (q := (decide_eq_true (by (with_reducible assumption)))) (s := by exact sfQ) ?_)); ((refine tgQ 14 (q := (decide_eq_true (by (with_reducible assumption)))) (s := by exact Stab.fieldN rfl (tysOk.get rfl) rfl rfl (tysOk.get rfl) rfl) ?_)); ((refine tgQ 15 (q := (decide_eq_true (by (with_reducible assumption)))) (s := by exact slQ) ?_)); ((refine tgQ 16 (q := (decide_eq_true (by (with_reducible assumption)))) (s := by exact siQ) ?_)); (refine tkQ 17 (s := by exact Stab.pick_td rfl (by (with_reducible assumption)) rfl) ?_); (refine tkQ 18 (s := by exact Stab.move rfl) ?_); ((refine tuQ 19 ?_)); ((refine tuQ 21 ?_)); ((refine tuQ 20 ?_)); ((refine tuQ 22 ?_)); (refine tkQ 23 (s := by exact Stab.pick_fd rfl (by (with_reducible assumption)) rfl) ?_); (refine tkQ 24 (s := by exact Stab.move rfl) ?_); ((refine tuQ 25 ?_)); ((refine tuQ 26 ?_)); ((refine tuQ 27 ?_)); ((refine TrA.takew 28 (by kernel_rfl) rfl (by kernel_rfl) (by exact fun _ _ _ h => h) (by exact fun _ h => h) rfl rfl rfl rfl rfl ?_)); ((refine TrA.takew 29 (by kernel_rfl) rfl (by kernel_rfl) (by exact fun _ _ _ h => h) (by exact fun _ h => h) rfl rfl rfl rfl rfl ?_)); ((refine TrA.takew 30 (by kernel_rfl) rfl (by kernel_rfl) (by exact fun _ _ _ h => h) (by exact fun _ h => h) rfl rfl rfl rfl rfl ?_)); ((refine TrA.takew 31 (by kernel_rfl) rfl (by kernel_rfl) (by exact fun _ _ _ h => h) (by exact fun _ h => h) rfl rfl rfl rfl rfl ?_)); ((refine TrA.takew 32 (by kernel_rfl) rfl (by kernel_rfl) (by exact fun _ _ _ h => h) (by exact fun _ h => h) rfl rfl rfl rfl rfl ?_)); ((refine TrA.takew 33 (by kernel_rfl) rfl (by kernel_rfl) (by exact fun _ _ _ h => h) (by exact fun _ h => h) rfl rfl rfl rfl rfl ?_)); ((refine TrA.takew 34 (by kernel_rfl) rfl (by kernel_rfl) (by exact fun _ _ _ h => h) (by exact fun _ h => h) rfl rfl rfl rfl rfl ?_)); ((refine tuQ 35 ?_)); (refine tkQ 36 (s := by exact Stab.pick_f rfl (by (with_reducible rfl)) rfl) ?_); (refine TrA.done (by kernel_rfl) ?_))
  (repeat (first | ((with_reducible refine Tr.step rfl ?_); (first | (refine xmQ ?_) | (refine xaQ ?_) | (refine xdQ ?_))) | (with_reducible first | apply Tr.next | apply Tr.region | apply Tr.nil | apply Tr.skip | apply Tr.in_normal) | (refine Tr.cond_bf rfl (by (with_reducible rfl)) ?_)))
  refine gvQ (r := box _ 147 _) ?_
  exact Tr.again (i + 1, o) ⟨by simp only; omega, by rw [hfold, hsk (by simp [about, h2])], ho⟩ (by simp only; omega) hsQ
 by_cases h3 : f.known ≤ known
 rotate_left
 ·(repeat (first | ((with_reducible refine Tr.step rfl ?_); (first | (refine xmQ ?_) | ((with_reducible refine Knd.load ?_); (refine Exec.stab rfl (Stab.loadMA rfl (tysOk.get rfl) rfl (by assumption) (by first | rfl | assumption)) rfl ?_)) | (refine xnQ ?_) | (refine xiQ ?_) | (refine xWQ ?_) | ((with_reducible refine Knd.alloc ?_); (refine Exec.alloc (tysOk.get rfl) rfl rfl (fun b => ?_))) | (refine xxQ ?_))) | (with_reducible first | apply Tr.next | apply Tr.seq | apply Tr.region | apply Tr.nil | apply Tr.skip | apply Tr.block) | (refine Tr.cond_t rfl (by first | (with_reducible assumption) | omega) ?_)))
  (((apply Tr.draw); (kernel_rfl)); (refine tkQ 0 (hB := by exact fun _ h => h) (s := by exact sfQ) ?_); (refine tkQ 2 (s := by exact swQ) ?_); (refine tkQ 1 (s := by exact Stab.loadP rfl (tysOk.get rfl) rfl (by repeat (first | exact Has.here | apply Has.there)) (by repeat (first | exact TakeL.z | apply TakeL.s))) ?_); (refine tkQ 3 (s := by exact Stab.steqL rfl rfl (by repeat (first | exact IntsL.nil | apply IntsL.cons)) (by repeat (first | exact IntsL.nil | apply IntsL.cons)) (tysOk.get rfl) rfl (by kernel_rfl) (by kernel_rfl) rfl rfl) ?_); (refine tkQ 4 (s := by exact Stab.move rfl) ?_); ((refine tgQ 5 (q := (decide_eq_true (by (with_reducible assumption)))) (s := by exact sfQ) ?_)); ((refine tgQ 8 (q := (decide_eq_true (by (with_reducible assumption)))) (s := by exact Stab.move rfl) ?_)); ((refine tgQ 6 (q := (decide_eq_true (by (with_reducible assumption)))) (s := by exact Stab.fieldN rfl (tysOk.get rfl) rfl rfl (tysOk.get rfl) rfl) ?_)); ((refine tgQ 7 (q := (decide_eq_true (by (with_reducible assumption)))) (s := by exact slQ) ?_)); ((refine tgQ 9 (q := (decide_eq_true (by (with_reducible assumption)))) (s := by exact siQ) ?_)); (refine tkQ 10 (s := by exact Stab.pick_td rfl (by (with_reducible assumption)) rfl) ?_); (refine tkQ 11 (s := by exact Stab.move rfl) ?_); ((refine tgQ 12 (q := (decide_eq_true (by (with_reducible assumption)))) (s := by exact Stab.move rfl) ?_)); ((refine tgQ 13 (q := (decide_eq_true (by (with_reducible assumption)))) (s := by exact sfQ) ?_)); ((refine tgQ 14 (q := (decide_eq_true (by (with_reducible assumption)))) (s := by exact Stab.fieldN rfl (tysOk.get rfl) rfl rfl (tysOk.get rfl) rfl) ?_)); ((refine tgQ 15 (q := (decide_eq_true (by (with_reducible assumption)))) (s := by exact slQ) ?_)); ((refine tgQ 16 (q := (decide_eq_true (by (with_reducible assumption)))) (s := by exact siQ) ?_)); (refine tkQ 17 (s := by exact Stab.pick_td rfl (by (with_reducible assumption)) rfl) ?_); (refine tkQ 18 (s := by exact Stab.move rfl) ?_); ((refine tgQ 19 (q := (decide_eq_true (by (with_reducible assumption)))) (s := by exact sfQ) ?_)); ((refine tgQ 21 (q := (decide_eq_true (by (with_reducible assumption)))) (s := by exact Stab.move rfl) ?_)); ((refine tgQ 20 (q := (decide_eq_true (by (with_reducible assumption)))) (s := by exact slQ) ?_)); ((refine tgQ 22 (q := (decide_eq_true (by (with_reducible assumption)))) (s := by exact siQ) ?_)); (refine tkQ 23 (s := by exact Stab.pick_td rfl (by (with_reducible assumption)) rfl) ?_); (refine tkQ 24 (s := by exact Stab.move rfl) ?_); ((refine tuQ 25 ?_)); ((refine tuQ 26 ?_)); ((refine tuQ 27 ?_)); ((refine TrA.takew 28 (by kernel_rfl) rfl (by kernel_rfl) (by exact fun _ _ _ h => h) (by exact fun _ h => h) rfl rfl rfl rfl rfl ?_)); ((refine TrA.takew 29 (by kernel_rfl) rfl (by kernel_rfl) (by exact fun _ _ _ h => h) (by exact fun _ h => h) rfl rfl rfl rfl rfl ?_)); ((refine TrA.takew 30 (by kernel_rfl) rfl (by kernel_rfl) (by exact fun _ _ _ h => h) (by exact fun _ h => h) rfl rfl rfl rfl rfl ?_)); ((refine TrA.takew 31 (by kernel_rfl) rfl (by kernel_rfl) (by exact fun _ _ _ h => h) (by exact fun _ h => h) rfl rfl rfl rfl rfl ?_)); ((refine TrA.takew 32 (by kernel_rfl) rfl (by kernel_rfl) (by exact fun _ _ _ h => h) (by exact fun _ h => h) rfl rfl rfl rfl rfl ?_)); ((refine TrA.takew 33 (by kernel_rfl) rfl (by kernel_rfl) (by exact fun _ _ _ h => h) (by exact fun _ h => h) rfl rfl rfl rfl rfl ?_)); ((refine TrA.takew 34 (by kernel_rfl) rfl (by kernel_rfl) (by exact fun _ _ _ h => h) (by exact fun _ h => h) rfl rfl rfl rfl rfl ?_)); ((refine tuQ 35 ?_)); (refine tkQ 36 (s := by exact Stab.pick_fd rfl (by (with_reducible assumption)) rfl) ?_); (refine TrA.done (by kernel_rfl) ?_))
  (repeat (first | ((with_reducible refine Tr.step rfl ?_); (first | (refine xmQ ?_) | (refine xaQ ?_) | (refine xdQ ?_))) | (with_reducible first | apply Tr.next | apply Tr.region | apply Tr.nil | apply Tr.skip | apply Tr.in_normal) | (refine Tr.cond_bf rfl (by (with_reducible rfl)) ?_)))
  refine gvQ (r := box _ 147 _) ?_
  exact Tr.again (i + 1, o) ⟨by simp only; omega, by rw [hfold, hsk (by simp [about, h3])], ho⟩ (by simp only; omega) hsQ
 have hab : about k day known f = true := by
  rw [about_hit ⟨hk, h3⟩, decide_eq_true h1, decide_eq_true h2]; rfl
 cases o with
 | none =>
  have hb : bestV none < 0 := by decide
  (repeat (first | ((with_reducible refine Tr.step rfl ?_); (first | (refine xmQ ?_) | ((with_reducible refine Knd.load ?_); (refine Exec.stab rfl (Stab.loadMA rfl (tysOk.get rfl) rfl (by assumption) (by first | rfl | assumption)) rfl ?_)) | (refine xnQ ?_) | (refine xiQ ?_) | (refine xWQ ?_) | ((with_reducible refine Knd.alloc ?_); (refine Exec.alloc (tysOk.get rfl) rfl rfl (fun b => ?_))) | (refine xxQ ?_))) | (with_reducible first | apply Tr.next | apply Tr.seq | apply Tr.region | apply Tr.nil | apply Tr.skip | apply Tr.block) | (refine Tr.cond_t rfl (by first | (with_reducible assumption) | omega) ?_)))
  (((apply Tr.draw); (kernel_rfl)); (refine tkQ 0 (hB := by exact fun _ h => h) (s := by exact sfQ) ?_); (refine tkQ 2 (s := by exact swQ) ?_); (refine tkQ 1 (s := by exact Stab.loadP rfl (tysOk.get rfl) rfl (by repeat (first | exact Has.here | apply Has.there)) (by repeat (first | exact TakeL.z | apply TakeL.s))) ?_); (refine tkQ 3 (s := by exact Stab.steqL rfl rfl (by repeat (first | exact IntsL.nil | apply IntsL.cons)) (by repeat (first | exact IntsL.nil | apply IntsL.cons)) (tysOk.get rfl) rfl (by kernel_rfl) (by kernel_rfl) rfl rfl) ?_); (refine tkQ 4 (s := by exact Stab.move rfl) ?_); ((refine tgQ 5 (q := (decide_eq_true (by (with_reducible assumption)))) (s := by exact sfQ) ?_)); ((refine tgQ 8 (q := (decide_eq_true (by (with_reducible assumption)))) (s := by exact Stab.move rfl) ?_)); ((refine tgQ 6 (q := (decide_eq_true (by (with_reducible assumption)))) (s := by exact Stab.fieldN rfl (tysOk.get rfl) rfl rfl (tysOk.get rfl) rfl) ?_)); ((refine tgQ 7 (q := (decide_eq_true (by (with_reducible assumption)))) (s := by exact slQ) ?_)); ((refine tgQ 9 (q := (decide_eq_true (by (with_reducible assumption)))) (s := by exact siQ) ?_)); (refine tkQ 10 (s := by exact Stab.pick_td rfl (by (with_reducible assumption)) rfl) ?_); (refine tkQ 11 (s := by exact Stab.move rfl) ?_); ((refine tgQ 12 (q := (decide_eq_true (by (with_reducible assumption)))) (s := by exact Stab.move rfl) ?_)); ((refine tgQ 13 (q := (decide_eq_true (by (with_reducible assumption)))) (s := by exact sfQ) ?_)); ((refine tgQ 14 (q := (decide_eq_true (by (with_reducible assumption)))) (s := by exact Stab.fieldN rfl (tysOk.get rfl) rfl rfl (tysOk.get rfl) rfl) ?_)); ((refine tgQ 15 (q := (decide_eq_true (by (with_reducible assumption)))) (s := by exact slQ) ?_)); ((refine tgQ 16 (q := (decide_eq_true (by (with_reducible assumption)))) (s := by exact siQ) ?_)); (refine tkQ 17 (s := by exact Stab.pick_td rfl (by (with_reducible assumption)) rfl) ?_); (refine tkQ 18 (s := by exact Stab.move rfl) ?_); ((refine tgQ 19 (q := (decide_eq_true (by (with_reducible assumption)))) (s := by exact sfQ) ?_)); ((refine tgQ 21 (q := (decide_eq_true (by (with_reducible assumption)))) (s := by exact Stab.move rfl) ?_)); ((refine tgQ 20 (q := (decide_eq_true (by (with_reducible assumption)))) (s := by exact slQ) ?_)); ((refine tgQ 22 (q := (decide_eq_true (by (with_reducible assumption)))) (s := by exact siQ) ?_)); (refine tkQ 23 (s := by exact Stab.pick_td rfl (by (with_reducible assumption)) rfl) ?_); (refine tkQ 24 (s := by exact Stab.move rfl) ?_); ((refine tgQ 25 (q := (decide_eq_true (by (with_reducible assumption)))) (s := by exact Stab.move rfl) ?_)); ((refine tgQ 26 (q := (decide_eq_true (by (with_reducible assumption)))) (s := by exact siQ) ?_)); ((refine tgQ 27 (q := (decide_eq_true (by (with_reducible assumption)))) (s := by exact Stab.move rfl) ?_)); ((refine tuQ 28 ?_)); ((refine tuQ 29 ?_)); ((refine tuQ 30 ?_)); ((refine tuQ 31 ?_)); ((refine tuQ 32 ?_)); ((refine tuQ 33 ?_)); ((refine tuQ 34 ?_)); ((refine tgQ 35 (q := (decide_eq_true (by (with_reducible assumption)))) (s := by exact Stab.pick_td rfl (by (with_reducible assumption)) rfl) ?_)); (refine tkQ 36 (s := by exact Stab.pick_td rfl (by (with_reducible assumption)) rfl) ?_); (refine TrA.done (by kernel_rfl) ?_))
  (repeat (first | ((with_reducible refine Tr.step rfl ?_); (first | (refine xmQ ?_) | (refine xaQ ?_) | (refine xdQ ?_))) | (with_reducible first | apply Tr.next | apply Tr.region | apply Tr.nil | apply Tr.in_normal) | (refine Tr.cond_bt rfl (by (with_reducible rfl)) ?_)))
  refine gvQ (r := box _ 147 _) ?_
  refine Tr.again (i + 1, some i) ⟨by simp only; omega, ?_, fun j hj => by cases hj; exact hlt⟩ (by simp only; omega) hsQ
  rw [hfold]
  simp only [Option.bind_none, Option.bind_some, hf, pick, hab]
  rfl
 | some j =>
  have hj := ho j rfl
  obtain ⟨g, hg⟩ := get_of_lt hj
  obtain ⟨hA2, ch2, hat2, rfl⟩ := h.elem hg
  simp only [fcC] at hat2
  have hb : ¬ bestV (some j) < 0 := by simp only [bestV]; omega
  simp only [bestV] at hb ⊢
  have hpk : pick k day known (some g) f = if before f g = true then some g else some f := by
   unfold pick
   rw [hab]
   cases hbf : before f g <;> simp [hbf]
  (repeat (first | ((with_reducible refine Tr.step rfl ?_); (first | (refine xmQ ?_) | ((with_reducible refine Knd.load ?_); (refine Exec.stab rfl (Stab.loadMA rfl (tysOk.get rfl) rfl (by assumption) (by first | rfl | assumption)) rfl ?_)) | (refine xnQ ?_) | (refine xiQ ?_) | (refine xWQ ?_) | ((with_reducible refine Knd.alloc ?_); (refine Exec.alloc (tysOk.get rfl) rfl rfl (fun b => ?_))) | (refine xxQ ?_))) | (with_reducible first | apply Tr.next | apply Tr.seq | apply Tr.region | apply Tr.nil | apply Tr.skip | apply Tr.block) | (refine Tr.cond_t rfl (by first | (with_reducible assumption) | omega) ?_)))
  generalize b = b12
  (((apply Tr.draw); (kernel_rfl)); (refine tkQ 0 (hB := by exact fun _ h => h) (s := by exact sfQ) ?_); (refine tkQ 2 (s := by exact swQ) ?_); (refine tkQ 1 (s := by exact Stab.loadP rfl (tysOk.get rfl) rfl (by repeat (first | exact Has.here | apply Has.there)) (by repeat (first | exact TakeL.z | apply TakeL.s))) ?_); (refine tkQ 3 (s := by exact Stab.steqL rfl rfl (by repeat (first | exact IntsL.nil | apply IntsL.cons)) (by repeat (first | exact IntsL.nil | apply IntsL.cons)) (tysOk.get rfl) rfl (by kernel_rfl) (by kernel_rfl) rfl rfl) ?_); (refine tkQ 4 (s := by exact Stab.move rfl) ?_); ((refine tgQ 5 (q := (decide_eq_true (by (with_reducible assumption)))) (s := by exact sfQ) ?_)); ((refine tgQ 8 (q := (decide_eq_true (by (with_reducible assumption)))) (s := by exact Stab.move rfl) ?_)); ((refine tgQ 6 (q := (decide_eq_true (by (with_reducible assumption)))) (s := by exact Stab.fieldN rfl (tysOk.get rfl) rfl rfl (tysOk.get rfl) rfl) ?_)); ((refine tgQ 7 (q := (decide_eq_true (by (with_reducible assumption)))) (s := by exact slQ) ?_)); ((refine tgQ 9 (q := (decide_eq_true (by (with_reducible assumption)))) (s := by exact siQ) ?_)); (refine tkQ 10 (s := by exact Stab.pick_td rfl (by (with_reducible assumption)) rfl) ?_); (refine tkQ 11 (s := by exact Stab.move rfl) ?_); ((refine tgQ 12 (q := (decide_eq_true (by (with_reducible assumption)))) (s := by exact Stab.move rfl) ?_)); ((refine tgQ 13 (q := (decide_eq_true (by (with_reducible assumption)))) (s := by exact sfQ) ?_)); ((refine tgQ 14 (q := (decide_eq_true (by (with_reducible assumption)))) (s := by exact Stab.fieldN rfl (tysOk.get rfl) rfl rfl (tysOk.get rfl) rfl) ?_)); ((refine tgQ 15 (q := (decide_eq_true (by (with_reducible assumption)))) (s := by exact slQ) ?_)); ((refine tgQ 16 (q := (decide_eq_true (by (with_reducible assumption)))) (s := by exact siQ) ?_)); (refine tkQ 17 (s := by exact Stab.pick_td rfl (by (with_reducible assumption)) rfl) ?_); (refine tkQ 18 (s := by exact Stab.move rfl) ?_); ((refine tgQ 19 (q := (decide_eq_true (by (with_reducible assumption)))) (s := by exact sfQ) ?_)); ((refine tgQ 21 (q := (decide_eq_true (by (with_reducible assumption)))) (s := by exact Stab.move rfl) ?_)); ((refine tgQ 20 (q := (decide_eq_true (by (with_reducible assumption)))) (s := by exact slQ) ?_)); ((refine tgQ 22 (q := (decide_eq_true (by (with_reducible assumption)))) (s := by exact siQ) ?_)); (refine tkQ 23 (s := by exact Stab.pick_td rfl (by (with_reducible assumption)) rfl) ?_); (refine tkQ 24 (s := by exact Stab.move rfl) ?_); ((refine tgQ 25 (q := (decide_eq_true (by (with_reducible assumption)))) (s := by exact Stab.move rfl) ?_)); ((refine tgQ 26 (q := (decide_eq_true (by (with_reducible assumption)))) (s := by exact siQ) ?_)); ((refine tgQ 27 (q := (decide_eq_true (by (with_reducible assumption)))) (s := by exact Stab.move rfl) ?_)); ((refine tgQ 28 (q := (decide_eq_false (by (with_reducible assumption)))) (s := by exact swQ) ?_)); ((refine tgQ 29 (q := (decide_eq_false (by (with_reducible assumption)))) (s := by exact Stab.move rfl) ?_)); ((refine tgQ 30 (q := (decide_eq_false (by (with_reducible assumption)))) (s := by exact Stab.move rfl) ?_)); ((refine tgQ 31 (q := (decide_eq_false (by (with_reducible assumption)))) (s := by exact sxQ) ?_)); ((refine tgQ 32 (q := (decide_eq_false (by (with_reducible assumption)))) (s := by exact Stab.loadMA rfl (tysOk.get rfl) rfl (by assumption) (by first | rfl | assumption)) ?_)); (refine TrA.eff 33 rfl (by kernel_rfl) (by exact .inr ⟨_, _, _, rfl, rfl, rfl⟩) ?_))
  refine Exec.call0 rfl (rbefore_fn M f g) rfl ?_
  rintro _ _ hm9 ⟨rfl, rfl⟩
  refine ⟨hm9, (by exact fun _ h => h), ?_⟩
  cases hbf : before f g with
  | true =>
   (((refine tgQ 34 (q := (decide_eq_false (by (with_reducible assumption)))) (s := by exact Stab.not rfl) ?_)); ((refine tgQ 35 (q := (decide_eq_true (by (with_reducible assumption)))) (s := by exact Stab.pick_fd rfl (by (with_reducible assumption)) rfl) ?_)); (refine tkQ 36 (s := by exact Stab.pick_td rfl (by (with_reducible assumption)) rfl) ?_); (refine TrA.done (by kernel_rfl) ?_))
   (repeat (first | ((with_reducible refine Tr.step rfl ?_); (first | (refine xmQ ?_) | (refine xaQ ?_) | (refine xdQ ?_))) | (with_reducible first | apply Tr.next | apply Tr.region | apply Tr.nil | apply Tr.skip | apply Tr.in_normal) | (refine Tr.cond_bf rfl (by first | (with_reducible rfl) | (with_reducible exact Bool.not_true)) ?_)))
   refine gvQ (r := box _ 147 _) ?_
   refine Tr.again (i + 1, some j) ⟨by simp only; omega, ?_, ho⟩ (by simp only; omega) hsQ
   rw [hfold]
   simp only [Option.bind_some, hg]
   rw [hpk, if_pos hbf]
  | false =>
   (((refine tgQ 34 (q := (decide_eq_false (by (with_reducible assumption)))) (s := by exact Stab.not rfl) ?_)); ((refine tgQ 35 (q := (decide_eq_true (by (with_reducible assumption)))) (s := by exact Stab.pick_fd rfl (by (with_reducible assumption)) rfl) ?_)); (refine tkQ 36 (s := by exact Stab.pick_td rfl (by (with_reducible assumption)) rfl) ?_); (refine TrA.done (by kernel_rfl) ?_))
   (repeat (first | ((with_reducible refine Tr.step rfl ?_); (first | (refine xmQ ?_) | (refine xaQ ?_) | (refine xdQ ?_))) | (with_reducible first | apply Tr.next | apply Tr.region | apply Tr.nil | apply Tr.in_normal) | (refine Tr.cond_bt rfl (by first | (with_reducible rfl) | (with_reducible exact Bool.not_false)) ?_)))
   refine gvQ (r := box _ 147 _) ?_
   refine Tr.again (i + 1, some i) ⟨by simp only; omega, ?_, fun j hj => by cases hj; exact hlt⟩ (by simp only; omega) hsQ
   rw [hfold]
   simp only [Option.bind_some, hg, hf]
   rw [hpk, if_neg (by rw [hbf]; decide)]
theorem rat_fn (M : Mem) (A : Option Addr) (c : Nat) (l : List Fc) (k : Ky) (day known : Int) (h : SlOf 8 RFc M (.slice A l.length c) l) :
  Fn0 Tryz.prog 142 [.slice A l.length c, .agg #[.int .i64 k.1, .int .i64 k.2.1, .int .i64 k.2.2], .int .i64 day, .int .i64 known] M (fun r M' => r = .tuple #[.int .i64 ((atF l k day known).getD 0), .bool (atF l k day known).isSome] ∧ M = M') :=
 Fn.mono (Fn.forget (R := fun r A' => A' = [] ∧ r = .tuple #[.int .i64 ((atF l k day known).getD 0), .bool (atF l k day known).isSome]) (rat_fn0 M A c l k day known h)) fun _ _ _ _ ⟨⟨a, b⟩, c⟩ => ⟨a, b, c⟩
end Go.Proofs.YtmikfjcdgkopkaaGreat

/-
 The reference's classes: used, has.
 Conditions: none.
-/
namespace Go.Proofs.YtmikfjcdgkopkaaGreat
open Go Bf
attribute [local irreducible] Tr Exec Stab HasTy Go.Addr.add IntKind.wrap
set_option maxHeartbeats 4000000 in
set_option maxRecDepth 20000 in
theorem rused_fn (M : Mem) (c0 c1 c2 c3 c4 c5 c6 : Value) (hone : AllOne [c0, c1, c2, c3, c4, c5, c6]) (A : Option Addr) (c : Nat) (w : Wd) (hsw : SlOf 4 RSw M (.slice A w.swaps.length c) w.swaps) (a y : Int) : Fn0 Tryz.prog 141 [.agg #[c0, c1, c2, c3, c4, c5, c6, .slice A w.swaps.length c], .int .i64 a, .int .i64 y] M (fun r M' => r = .bool (usedF w a y) ∧ M = M') := by
 have hl := hsw.len_le
 have o0 := hone.mem c0 (by simp)
 have o1 := hone.mem c1 (by simp)
 have o2 := hone.mem c2 (by simp)
 have o3 := hone.mem c3 (by simp)
 have o4 := hone.mem c4 (by simp)
 have o5 := hone.mem c5 (by simp)
 have o6 := hone.mem c6 (by simp)
 refine Fn.intro Tryz.func141 rfl rfl Tryz.ntmps141 rfl fun E F => ?_
 (repeat (first | ((with_reducible refine Tr.step rfl ?_); (first | (refine xaQ ?_) | ((with_reducible refine Knd.box ?_); (refine Exec.box rfl rfl (fun b => ?_))))) | (with_reducible first | apply Tr.next | apply Tr.seq | apply Tr.region | apply Tr.nil | apply Tr.block)))
 generalize b = b3
 refine Tr.loop (α := Nat) (fun i => ⟨36, [(7, .int .i64 (i : Int)), (1, .int .i64 a), (2, .int .i64 y), (3, .pointer (some ⟨b3, 0, none⟩)), (6, .bool false)], [], M, box b3 31 [c0, c1, c2, c3, c4, c5, c6, .slice A w.swaps.length c] :: ([] ++ F)⟩)
  (fun i => i ≤ w.swaps.length ∧ (w.swaps.take i).any (fun p => decide (p = (a, y))) = false) (fun i => w.swaps.length - i) 0 ⟨Nat.zero_le _, rfl⟩ hsQ (fun i hi => ?_)
 obtain ⟨hi, hany⟩ := hi
 by_cases hlt : i < w.swaps.length
 ·obtain ⟨p, hp⟩ := get_of_lt hlt
  obtain ⟨hA, ch, hat, s1, s2, rfl⟩ := hsw.elem hp
  have hat1 : At M (((A.getD default).add (i * 4)).add 2) [.int .i64 p.1, .int .i64 p.2] := hat.drop 2
  have hat2 : At M (((A.getD default).add (i * 4)).add 3) [.int .i64 p.2] := hat.drop 3
  have hno : ¬ p = (a, y) → ((w.swaps.take (i + 1)).any fun p => decide (p = (a, y))) = false := fun h => by
   rw [List.take_add_one, hp, Option.toList_some, List.any_append, hany]
   simp [h]
  by_cases h1 : p.1 = a
  ·by_cases h2 : p.2 = y
   ·(refine rQ ?_)
    (refine dnQ (hL := by exact ⟨[_], rfl⟩) ⟨rfl, ?_⟩)
    refine ⟨?_, rfl⟩
    have hany2 : w.swaps.any (fun p => decide (p = (a, y))) = true := List.any_eq_true.2 ⟨p, List.mem_of_getElem? hp, decide_eq_true (show p = (a, y) from Prod.ext h1 h2)⟩
    unfold usedF
    rw [hany2, Bool.true_or]
    rfl
   ·(refine rQ ?_)
    exact Tr.again (i + 1) ⟨by omega, hno fun h => h2 (by rw [h])⟩ (by omega) hsQ
  ·(refine rQ ?_)
   exact Tr.again (i + 1) ⟨by omega, hno fun h => h1 (by rw [h])⟩ (by omega) hsQ
 ·have e : i = w.swaps.length := by omega
  subst e
  rw [List.take_length] at hany
  (refine rQ ?_)
  (refine dnQ (hL := by exact ⟨[_], rfl⟩) ⟨rfl, ?_⟩)
  refine ⟨?_, rfl⟩
  unfold usedF
  rw [hany, Bool.false_or]
  rfl
theorem rhas_fn (M : Mem) (A : Option Addr) (c : Nat) (l : List Rd) (x : Rd) (h : SlOf 5 RRd M (.slice A l.length c) l) :
  Fn0 Tryz.prog 117 [.slice A l.length c, .agg #[.int .i64 x.1.1, .int .i64 x.1.2.1, .int .i64 x.1.2.2, .int .i64 x.2.1, .int .i64 x.2.2]] M (fun r M' => r = .bool (decide (x ∈ l)) ∧ M = M') := by
 have hll := h.len_le
 refine Fn.intro Tryz.func117 rfl rfl Tryz.ntmps117 rfl fun E F => ?_
 (repeat (first | ((with_reducible refine Tr.step rfl ?_); (first | (refine xaQ ?_) | ((with_reducible refine Knd.box ?_); (refine Exec.box rfl rfl (fun b => ?_))))) | (with_reducible first | apply Tr.next | apply Tr.seq | apply Tr.region | apply Tr.nil | apply Tr.block)))
 generalize b = b3
 refine Tr.loop (α := Nat) (fun i => ⟨18, [(5, .int .i64 (i : Int)), (0, .slice A l.length c), (3, .pointer (some ⟨b3, 0, none⟩)), (4, .bool false)], [], M, box b3 88 [.int .i64 x.1.1, .int .i64 x.1.2.1, .int .i64 x.1.2.2, .int .i64 x.2.1, .int .i64 x.2.2] :: ([] ++ F)⟩) (fun i => i ≤ l.length ∧ x ∉ l.take i) (fun i => l.length - i) 0 ⟨by simp, by simp⟩ hsQ (fun i hi => ?_)
 obtain ⟨hi, hno⟩ := hi
 by_cases hlt : i < l.length
 ·obtain ⟨y, hy⟩ := get_of_lt hlt
  obtain ⟨hA, ch, hat, rfl⟩ := h.elem hy
  simp only [rdC] at hat
  have hxy : [y.1.1, y.1.2.1, y.1.2.2, y.2.1, y.2.2] = [x.1.1, x.1.2.1, x.1.2.2, x.2.1, x.2.2] → y = x := by
   intro h
   obtain ⟨⟨a1, a2, a3⟩, a4, a5⟩ := x; obtain ⟨⟨c1, c2, c3⟩, c4, c5⟩ := y
   simp_all
  by_cases hk : [y.1.1, y.1.2.1, y.1.2.2, y.2.1, y.2.2] = [x.1.1, x.1.2.1, x.1.2.2, x.2.1, x.2.2]
  ·(refine rQ ?_)
   (((apply Tr.draw); (kernel_rfl)); (refine tkQ 0 (hB := by exact fun _ h => h) (s := by exact Stab.move rfl) ?_); (refine tkQ 1 (s := by exact Stab.move rfl) ?_); (refine tkQ 2 (s := by exact sxQ) ?_); (refine tkQ 3 (s := by exact Stab.loadMA rfl (tysOk.get rfl) rfl (by assumption) (by first | rfl | assumption)) ?_); (refine tkQ 4 (s := by exact swQ) ?_); (refine tkQ 5 (s := by exact Stab.steqL rfl rfl (by repeat (first | exact IntsL.nil | apply IntsL.cons)) (by repeat (first | exact IntsL.nil | apply IntsL.cons)) (tysOk.get rfl) rfl (by kernel_rfl) (by kernel_rfl) rfl rfl) ?_); (refine TrA.done (by kernel_rfl) ?_))
   (refine rQ ?_)
   (refine dnQ (hL := by exact ⟨[_], rfl⟩) ⟨rfl, ?_⟩)
   exact ⟨by rw [decide_eq_true (by rw [← hxy hk]; exact List.mem_of_getElem? hy)]; rfl, rfl⟩
  ·(refine rQ ?_)
   (((apply Tr.draw); (kernel_rfl)); (refine tkQ 0 (hB := by exact fun _ h => h) (s := by exact Stab.move rfl) ?_); (refine tkQ 1 (s := by exact Stab.move rfl) ?_); (refine tkQ 2 (s := by exact sxQ) ?_); (refine tkQ 3 (s := by exact Stab.loadMA rfl (tysOk.get rfl) rfl (by assumption) (by first | rfl | assumption)) ?_); (refine tkQ 4 (s := by exact swQ) ?_); (refine tkQ 5 (s := by exact Stab.steqL rfl rfl (by repeat (first | exact IntsL.nil | apply IntsL.cons)) (by repeat (first | exact IntsL.nil | apply IntsL.cons)) (tysOk.get rfl) rfl (by kernel_rfl) (by kernel_rfl) rfl rfl) ?_); (refine TrA.done (by kernel_rfl) ?_))
   (refine rQ ?_)
   refine Tr.again (i + 1) ⟨by omega, ?_⟩ (by omega) hsQ
   rw [List.take_add_one, hy, Option.toList_some, List.mem_append, List.mem_singleton, not_or]
   exact ⟨hno, fun e => hk (by rw [e])⟩
 ·have e : i = l.length := by omega
  subst e
  rw [List.take_length] at hno
  (refine rQ ?_)
  (refine dnQ (hL := by exact ⟨[_], rfl⟩) ⟨rfl, ?_⟩)
  exact ⟨by rw [decide_eq_false hno]; rfl, rfl⟩
end Go.Proofs.YtmikfjcdgkopkaaGreat

/-
 The reference's classes: Fits.
 Conditions: none.
-/
namespace Go.Proofs.YtmikfjcdgkopkaaGreat
open Go Bf
attribute [local irreducible] Tr Exec Stab HasTy Go.Addr.add IntKind.wrap
theorem len11 {l : List Value} (h : l.length = 11) : ∃ a0 a1 a2 a3 a4 a5 a6 a7 a8 a9 a10, l = [a0, a1, a2, a3, a4, a5, a6, a7, a8, a9, a10] := by
 match l, h with
 | [a0, a1, a2, a3, a4, a5, a6, a7, a8, a9, a10], _ => exact ⟨a0, a1, a2, a3, a4, a5, a6, a7, a8, a9, a10, rfl⟩
theorem looks_one (w : Wd) (s : Sp) (r : Rq) : looksR w s [r] = if couldF w s r = true then [lookF s r] else [] := by
 unfold looksR
 split
 ·rename_i h; rw [List.filter_cons_of_pos h]; rfl
 ·rename_i h; rw [List.filter_cons_of_neg h]; rfl
theorem couldF_used {w : Wd} {s : Sp} {r : Rq} (h : usedF w s.item r.item = false) : couldF w s r = false := by
 unfold couldF
 rw [h, Bool.and_false, Bool.and_false]
theorem couldF_ready {w : Wd} {s : Sp} {r : Rq} (h : s.ready > r.due) : couldF w s r = false := by
 unfold couldF
 rw [decide_eq_false (by omega), Bool.false_and]
theorem couldF_exp {w : Wd} {s : Sp} {r : Rq} (h : s.expiry < r.due + r.shelf) : couldF w s r = false := by
 unfold couldF
 rw [decide_eq_false (show ¬ r.due + r.shelf ≤ s.expiry by omega), Bool.false_and, Bool.and_false]
theorem couldF_yes {w : Wd} {s : Sp} {r : Rq} (h : usedF w s.item r.item = true) (h1 : ¬ s.ready > r.due) (h2 : ¬ s.expiry < r.due + r.shelf) : couldF w s r = true := by
 unfold couldF
 rw [h, decide_eq_true (by omega), decide_eq_true (by omega)]
 rfl
def FitsV (w : Wd) (known : Int) (s : Sp) (r : Rq) (v : Value) (M : Mem) : Prop := ∃ A c, v = .tuple #[.bool (fitF w known s r), .slice A (looksR w s [r]).length c] ∧ SlOf 5 RRd M (.slice A (looksR w s [r]).length c) (looksR w s [r])
theorem FitsV.no {w : Wd} {known : Int} {s : Sp} {r : Rq} {M : Mem} (h : couldF w s r = false) : FitsV w known s r (.tuple #[.bool false, .slice none 0 0]) M := by
 have e : looksR w s [r] = [] := by rw [looks_one, h]; rfl
 refine ⟨none, 0, ?_, ?_⟩
 ·rw [e, fitF, h]; rfl
 ·rw [e]; exact SlOf.nil _ _ _
set_option maxHeartbeats 8000000 in
set_option maxRecDepth 20000 in
theorem rfits_fn (M : Mem) (ws : List Value) (w : Wd) (hw : RWd M ws w) (s : Sp) (r : Rq) (hs : okSp s) (hr : okRq r) (known : Int) : Fn0 Tryz.prog 116 [.agg ws.toArray, .agg #[.int .i64 s.no, .int .i64 s.item, .int .i64 s.plant, .int .i64 s.ready, .int .i64 s.expiry, .int .i64 s.amount], .agg #[.int .i64 r.no, .int .i64 r.item, .int .i64 r.cust, .int .i64 r.due, .int .i64 r.shelf, .int .i64 r.amount], .int .i64 known] M (fun v M' => FitsV w known s r v M') := by
 obtain ⟨h11, hone, ⟨A7, c7, h7, hsw⟩, A10, c10, h10, hfa⟩ := hw
 obtain ⟨a0, a1, a2, a3, a4, a5, a6, a7, a8, a9, a10, rfl⟩ := len11 h11
 injection h7 with h7
 injection h10 with h10
 subst h7 h10
 have hone7 : AllOne [a0, a1, a2, a3, a4, a5, a6] := AllOne.of fun u hu => hone.mem u (by simp only [List.mem_cons, List.not_mem_nil, or_false] at hu ⊢; rcases hu with h | h | h | h | h | h | h <;> simp [h])
 have o0 := hone.mem a0 (by simp)
 have o1 := hone.mem a1 (by simp)
 have o2 := hone.mem a2 (by simp)
 have o3 := hone.mem a3 (by simp)
 have o4 := hone.mem a4 (by simp)
 have o5 := hone.mem a5 (by simp)
 have o6 := hone.mem a6 (by simp)
 have o8 := hone.mem a8 (by simp)
 have o9 := hone.mem a9 (by simp)
 have hr2 := hr
 obtain ⟨-, -, -, d1, d2, -⟩ := hr2
 refine Fn.intro Tryz.func116 rfl rfl Tryz.ntmps116 rfl fun E F => ?_
 (repeat (first | ((with_reducible refine Tr.step rfl ?_); (first | (refine xaQ ?_) | (refine xwQ ?_) | ((with_reducible refine Knd.box ?_); (refine Exec.box rfl rfl (fun b => ?_))))) | (with_reducible first | apply Tr.next | apply Tr.seq | apply Tr.region | apply Tr.nil)))
 rename_i b4 b5
 generalize b = b6
 ((refine Tr.step rfl ?_)); refine Exec.call0 rfl (rSupply_fn M s) rfl ?_
 rintro _ _ _ ⟨rfl, rfl⟩
 rw [decide_eq_true hs]
 (refine rQ ?_)
 ((refine Tr.guard_l rfl rfl rfl (by (with_reducible exact Bool.not_true)) ?_)); refine Exec.call0 rfl (rRequest_fn M r) rfl ?_
 rintro _ _ _ ⟨rfl, rfl⟩
 rw [decide_eq_true hr]
 (repeat (first | ((with_reducible refine Tr.step rfl ?_); (first | (refine xmQ ?_) | ((with_reducible refine Knd.pick ?_); (refine Exec.stab rfl (Stab.pick_f rfl (by (with_reducible exact Bool.not_true)) rfl) rfl ?_)))) | ((refine Tr.guard_l rfl rfl rfl (by (with_reducible exact Bool.not_true)) ?_); (first | ((with_reducible refine Knd.load ?_); (first | (refine xlQ ?_) | (refine Exec.stab rfl (Stab.loadP rfl (tysOk.get rfl) rfl (by repeat (first | exact Has.here | apply Has.there)) (by repeat (first | exact TakeL.z | apply TakeL.s))) rfl ?_))) | (refine xfQ ?_) | ((with_reducible refine Knd.unOp ?_); (refine Exec.stab rfl (Stab.not rfl) rfl ?_))))))
 ((refine Tr.guard_l rfl rfl rfl (by (with_reducible exact Bool.not_true)) ?_)); refine Exec.call0 rfl (rused_fn M a0 a1 a2 a3 a4 a5 a6 hone7 A7 c7 w hsw s.item r.item) rfl ?_
 rintro _ _ _ ⟨rfl, rfl⟩
 cases hu : usedF w s.item r.item with
 | false =>
  (refine rQ ?_)
  (refine dnQ (hL := by exact ⟨[_, _, _], rfl⟩) ⟨rfl, ?_⟩)
  exact FitsV.no (couldF_used hu)
 | true =>
 by_cases h1 : s.ready > r.due
 ·(refine rQ ?_)
  (refine dnQ (hL := by exact ⟨[_, _, _], rfl⟩) ⟨rfl, ?_⟩)
  exact FitsV.no (couldF_ready h1)
 by_cases h2 : s.expiry < r.due + r.shelf
 ·(refine rQ ?_)
  (refine dnQ (hL := by exact ⟨[_, _, _], rfl⟩) ⟨rfl, ?_⟩)
  exact FitsV.no (couldF_exp h2)
 have hc := couldF_yes hu h1 h2
 have hlk : looksR w s [r] = [lookF s r] := by rw [looks_one, hc]; rfl
 have fin : ∀ (M2 : Mem) (q : Bool) (t : Nat) (g : Nat), (box g t (rdC (lookF s r))).ok M2 → fitF w known s r = q → FitsV w known s r (.tuple #[.bool q, .slice (some ⟨g, 0, none⟩) 1 1]) M2 := fun M2 q t g hok hq => by
  refine ⟨some ⟨g, 0, none⟩, 1, by rw [hlk, hq]; rfl, ?_⟩
  rw [hlk]
  exact SlOf.ofBoxC (sz := 5) (n := 1) (c := 1) (xs := [lookF s r]) hok rfl rfl (Nat.le_refl _) (by decide) (rdC_one _) (rdC_elems M2 [lookF s r])
 (repeat (first | ((with_reducible refine Tr.step rfl ?_); (first | (refine xmQ ?_) | ((with_reducible refine Knd.load ?_); (first | (refine xlQ ?_) | (refine xwQ ?_))) | (refine xfQ ?_) | ((with_reducible refine Knd.pick ?_); (first | (refine Exec.stab rfl (Stab.pick_f rfl (by (with_reducible exact Bool.not_true)) rfl) rfl ?_) | (refine Exec.stab rfl (Stab.pick_fd rfl (by (with_reducible assumption)) rfl) rfl ?_))) | (refine xWQ ?_) | ((with_reducible refine Knd.alloc ?_); (refine Exec.alloc (tysOk.get rfl) rfl rfl (fun b => ?_))) | ((with_reducible refine Knd.build ?_); (refine Exec.stab rfl (Stab.build tysOk rfl rfl rfl rfl (by repeat (first | exact BuildP.nil | ((apply BuildP.one); (rfl); (rfl); (first | rfl | assumption); (repeat (first | exact SetL.z | apply SetL.s)))))) rfl ?_)))) | (with_reducible first | apply Tr.next | apply Tr.seq | apply Tr.region | apply Tr.nil) | ((refine Tr.guard_l rfl rfl rfl (by first | (with_reducible rfl) | (with_reducible exact Bool.not_true)) ?_); (first | (refine xlQ ?_) | (refine xfQ ?_) | (refine xiQ ?_) | ((with_reducible refine Knd.unOp ?_); (refine Exec.stab rfl (Stab.not rfl) rfl ?_)))) | ((refine Tr.guard_y' rfl rfl rfl (by (with_reducible assumption)) ?_); (first | (refine xlQ ?_) | (refine xfQ ?_) | ((with_reducible refine Knd.binOp ?_); (first | (refine xdQ ?_) | (refine xiQ ?_))))) | (with_reducible refine Tr.skip ?_) | (refine Tr.cond_f rfl (by (with_reducible assumption)) ?_)))
 generalize b = b10
 ((refine Tr.step rfl ?_)); refine Exec.call0 rfl (rat_fn M A10 c10 w.facts (7, r.cust, s.item) r.due known hfa) rfl ?_
 rintro _ _ _ ⟨rfl, rfl⟩
 cases ha : atF w.facts (7, r.cust, s.item) r.due known with
 | none =>
  have hf : fitF w known s r = true := by
   have : refusedF w (lookF s r) known = false := by unfold refusedF; rw [show atF w.facts (lookF s r).1 (lookF s r).2.1 known = none from ha]; rfl
   rw [fitF, hc, this]; rfl
  simp only [Option.isSome_none, Option.getD_none]
  (refine rQ ?_)
  (((apply Tr.draw); (kernel_rfl)); (refine tkQ 0 (hB := by exact fun _ h => h) (s := by exact Stab.move rfl) ?_); (refine tkQ 6 (s := by exact swQ) ?_); (refine tkQ 7 (s := by exact sfQ) ?_); (refine tkQ 9 (s := by exact sfQ) ?_); (refine tkQ 1 (s := by exact Stab.not rfl) ?_); (refine tkQ 8 (s := by exact slQ) ?_); (refine tkQ 10 (s := by exact slQ) ?_); (refine tkQ 2 (s := by exact Stab.move rfl) ?_); (refine tkQ 11 (s := by exact Stab.addi rfl rfl (by omega)) ?_); ((refine tuQ 3 ?_)); (refine tkQ 12 (s := by exact Stab.build tysOk rfl rfl rfl rfl (by repeat (first | exact BuildP.nil | ((apply BuildP.one); (rfl); (rfl); (first | rfl | assumption); (repeat (first | exact SetL.z | apply SetL.s))) | ((apply BuildP.many); (rfl); (rfl); (rfl); (rfl); (repeat (first | exact PutL.nil | ((apply PutL.cons); (repeat (first | exact SetL.z | apply SetL.s))))))))) ?_); ((refine tuQ 4 ?_)); (refine tkQ 5 (s := by exact Stab.pick_t rfl (by (with_reducible exact Bool.not_false)) rfl) ?_); (refine tkQ 14 (s := by exact Stab.assign rfl) ?_); (refine TrA.eff 13 rfl (by kernel_rfl) (by exact .inl rfl) ?_); (((refine Knd.buildSlice ?_); ((refine Exec.buildSlice (tysOk.get rfl) rfl (tysOk.get rfl) rfl rfl rfl rfl rfl (by repeat (first | exact BuildP.nil | ((apply BuildP.many); (rfl); (rfl); (rfl); (rfl); (repeat (first | exact PutL.nil | ((apply PutL.cons); (repeat (first | exact SetL.z | apply SetL.s)))))))) rfl (fun b => ?_))))); (refine ⟨(by first | exact Mem.le.refl _ | assumption), (by exact (Sub.mem (by repeat (first | exact Sub.refl | apply Sub.cons)))), ?_⟩); (refine tkQ 15 (s := by exact Stab.assign rfl) ?_); (refine TrA.done (by kernel_rfl) ?_))
  refine pbQ (r := box _ 88 _) (fun M2 hm2 hok => ?_)
  (repeat (first | (with_reducible first | apply Tr.next | apply Tr.ret)))
  (refine dnQ (hL := by exact ⟨[_, _, _, _], rfl⟩) ⟨rfl, ?_⟩)
  exact fin M2 _ _ _ hok hf
 | some n =>
  have hf : fitF w known s r = decide (n ≠ 1) := by
   have : refusedF w (lookF s r) known = decide (n = 1) := by unfold refusedF; rw [show atF w.facts (lookF s r).1 (lookF s r).2.1 known = some n from ha]; simp
   rw [fitF, hc, this]; simp
  simp only [Option.isSome_some, Option.getD_some]
  (refine rQ ?_)
  (((apply Tr.draw); (kernel_rfl)); (refine tkQ 0 (hB := by exact fun _ h => h) (s := by exact Stab.move rfl) ?_); (refine tkQ 6 (s := by exact swQ) ?_); (refine tkQ 7 (s := by exact sfQ) ?_); (refine tkQ 9 (s := by exact sfQ) ?_); (refine tkQ 1 (s := by exact Stab.not rfl) ?_); (refine tkQ 8 (s := by exact slQ) ?_); (refine tkQ 10 (s := by exact slQ) ?_); (refine tkQ 2 (s := by exact Stab.move rfl) ?_); (refine tkQ 11 (s := by exact Stab.addi rfl rfl (by omega)) ?_); ((refine tgQ 3 (q := (by (with_reducible exact Bool.not_true))) (s := by exact Stab.move rfl) ?_)); (refine tkQ 12 (s := by exact Stab.build tysOk rfl rfl rfl rfl (by repeat (first | exact BuildP.nil | ((apply BuildP.one); (rfl); (rfl); (first | rfl | assumption); (repeat (first | exact SetL.z | apply SetL.s))) | ((apply BuildP.many); (rfl); (rfl); (rfl); (rfl); (repeat (first | exact PutL.nil | ((apply PutL.cons); (repeat (first | exact SetL.z | apply SetL.s))))))))) ?_); ((refine tgQ 4 (q := (by (with_reducible exact Bool.not_true))) (s := by exact siQ) ?_)); (refine tkQ 5 (s := by exact Stab.pick_f rfl (by (with_reducible exact Bool.not_true)) rfl) ?_); (refine tkQ 14 (s := by exact Stab.assign rfl) ?_); (refine TrA.eff 13 rfl (by kernel_rfl) (by exact .inl rfl) ?_); (((refine Knd.buildSlice ?_); ((refine Exec.buildSlice (tysOk.get rfl) rfl (tysOk.get rfl) rfl rfl rfl rfl rfl (by repeat (first | exact BuildP.nil | ((apply BuildP.many); (rfl); (rfl); (rfl); (rfl); (repeat (first | exact PutL.nil | ((apply PutL.cons); (repeat (first | exact SetL.z | apply SetL.s)))))))) rfl (fun b => ?_))))); (refine ⟨(by first | exact Mem.le.refl _ | assumption), (by exact (Sub.mem (by repeat (first | exact Sub.refl | apply Sub.cons)))), ?_⟩); (refine tkQ 15 (s := by exact Stab.assign rfl) ?_); (refine TrA.done (by kernel_rfl) ?_))
  refine pbQ (r := box _ 88 _) (fun M2 hm2 hok => ?_)
  (repeat (first | (with_reducible first | apply Tr.next | apply Tr.ret)))
  (refine dnQ (hL := by exact ⟨[_, _, _, _], rfl⟩) ⟨rfl, ?_⟩)
  exact fin M2 _ _ _ hok hf
end Go.Proofs.YtmikfjcdgkopkaaGreat

/-
 The reference's classes: Table.
 Conditions: none.
-/
namespace Go.Proofs.YtmikfjcdgkopkaaGreat
open Go Bf
attribute [local irreducible] Tr Exec Stab HasTy Go.Addr.add IntKind.wrap
theorem rhas_lend (M : Mem) (A : Option Addr) (c : Nat) (hc : c ≤ 9223372036854775807) (l : List Rd) (x : Rd) :
  Bf.Fn Tryz.prog 117 [.slice A l.length c, .agg #[.int .i64 x.1.1, .int .i64 x.1.2.1, .int .i64 x.1.2.2, .int .i64 x.2.1, .int .i64 x.2.2]] M [ownS 88 5 A l.length c (l.flatMap rdC)] (fun v M' A' => A' = [ownS 88 5 A l.length c (l.flatMap rdC)] ∧ M = M' ∧ v = .bool (decide (x ∈ l))) :=
 Fn.lend (rs := [ownS 88 5 A l.length c (l.flatMap rdC)]) (R := fun v => v = .bool (decide (x ∈ l))) (clone_ok _ _ _ _ _ _ (rhas_fn M none 0 [] x (SlOf.nil _ _ _))) (fun M' _ hok =>
  rhas_fn M' A c l x (SlOf.ofOwn (hok (ownS 88 5 A l.length c (l.flatMap rdC)) List.mem_cons_self) rfl hc (rdC_elems _ _)))
theorem rdsJ_step {w : Wd} {s : List Sp} {r : List Rq} {i j : Nat} {x : Sp} {y : Rq} (hy : r[j]? = some y) : rdsJ w s r i x (j + 1) = (looksR w x [y]).foldl addNew (rdsJ w s r i x j) := by
 unfold rdsJ looksR
 rw [List.take_add_one, hy, Option.toList_some, List.filter_append, List.map_append, List.foldl_append]
theorem foldNew_take {l0 lk : List Rd} {n : Nat} {z : Rd} (h : lk[n]? = some z) : (lk.take (n + 1)).foldl addNew l0 = addNew ((lk.take n).foldl addNew l0) z := fold_take addNew l0 h
theorem foldNew_len : ∀ (lk l0 : List Rd), (lk.foldl addNew l0).length ≤ l0.length + lk.length
 | [], l0 => by simp
 | z :: lk, l0 => by
  rw [List.foldl_cons, List.length_cons]
  have := foldNew_len lk (addNew l0 z)
  have := addNew_len l0 z
  omega
theorem looks_len (w : Wd) (s : Sp) (r : Rq) : (looksR w s [r]).length ≤ 1 := by
 rw [looks_one]
 split <;> simp
theorem boV_app (l : List Bool) (v : Bool) : boV l ++ [Value.bool v] = boV (l ++ [v]) := by simp [boV]
set_option maxHeartbeats 16000000 in
set_option maxRecDepth 20000 in
theorem rtable_fn (M : Mem) (ws : List Value) (w : Wd) (hw : RWd M ws w) (A1 A2 : Option Addr) (c1 c2 : Nat) (s : List Sp) (r : List Rq) (known : Int) (hs : SlOf 6 RSpC M (.slice A1 s.length c1) s) (hr : SlOf 6 RRqC M (.slice A2 r.length c2) r) :
  Fn0 Tryz.prog 78 [.agg ws.toArray, .slice A1 s.length c1, .slice A2 r.length c2, .int .i64 known] M (fun v M' => TabR w s r known v M') := by
 have hl1 := hs.len_le
 have hl2 := hr.len_le
 have h11 := hw.len
 refine Fn.intro Tryz.func78 rfl rfl Tryz.ntmps78 rfl fun E F => ?_
 by_cases h1 : 64 < s.length
 ·(repeat (first | ((with_reducible refine Tr.step rfl ?_); (first | (refine xmQ ?_) | (refine xaQ ?_) | (refine xnQ ?_) | (refine xiQ ?_) | ((with_reducible refine Knd.pick ?_); (refine Exec.stab rfl (Stab.pick_td rfl (by omega) rfl) rfl ?_)) | ((with_reducible refine Knd.box ?_); (refine Exec.box rfl rfl (fun b => ?_))))) | (with_reducible first | apply Tr.next | apply Tr.seq | apply Tr.region | apply Tr.nil) | (refine Tr.guard_n' rfl rfl rfl (by first | (with_reducible assumption) | omega) rfl rfl ?_) | (with_reducible first | apply Tr.ret | apply Tr.then_ret) | (refine Tr.cond_bt rfl (by (with_reducible rfl)) ?_)))
  (refine dnQ (hL := by exact ⟨[_], rfl⟩) ⟨rfl, ?_⟩)
  exact .inl ⟨fun h => by have := h.1.1; omega, rfl⟩
 by_cases h2 : 64 < r.length
 ·(repeat (first | ((with_reducible refine Tr.step rfl ?_); (first | (refine xmQ ?_) | (refine xaQ ?_) | (refine xnQ ?_) | (refine xiQ ?_) | ((with_reducible refine Knd.pick ?_); (refine Exec.stab rfl (Stab.pick_fd rfl (by omega) rfl) rfl ?_)) | ((with_reducible refine Knd.box ?_); (refine Exec.box rfl rfl (fun b => ?_))))) | (with_reducible first | apply Tr.next | apply Tr.seq | apply Tr.region | apply Tr.nil) | ((refine Tr.guard_y' rfl rfl rfl (by first | (with_reducible assumption) | omega) ?_); (first | (refine xmQ ?_) | (refine xnQ ?_) | (refine xiQ ?_))) | (with_reducible first | apply Tr.ret | apply Tr.then_ret) | (refine Tr.cond_t rfl (by first | (with_reducible assumption) | omega) ?_)))
  (refine dnQ (hL := by exact ⟨[_], rfl⟩) ⟨rfl, ?_⟩)
  exact .inl ⟨fun h => by have := h.1.2; omega, rfl⟩
 (repeat (first | ((with_reducible refine Tr.step rfl ?_); (first | (refine xmQ ?_) | (refine xaQ ?_) | (refine xnQ ?_) | (refine xiQ ?_) | ((with_reducible refine Knd.pick ?_); (refine Exec.stab rfl (Stab.pick_fd rfl (by omega) rfl) rfl ?_)) | ((with_reducible refine Knd.box ?_); (refine Exec.box rfl rfl (fun b => ?_))))) | (with_reducible first | apply Tr.next | apply Tr.seq | apply Tr.region | apply Tr.nil) | ((refine Tr.guard_y' rfl rfl rfl (by first | (with_reducible assumption) | omega) ?_); (first | (refine xmQ ?_) | (refine xnQ ?_) | (refine xiQ ?_))) | (with_reducible first | apply Tr.skip | apply Tr.block) | (refine Tr.cond_f rfl (by first | (with_reducible assumption) | omega) ?_)))
 generalize b = b4
 refine Tr.loop (α := Nat) (fun i => ⟨112, [(11, .int .i64 (i : Int)), (1, .slice A1 s.length c1), (2, .slice A2 r.length c2), (3, .int .i64 known), (4, .pointer (some ⟨b4, 0, none⟩))], [], M, box b4 38 ws :: ([] ++ F)⟩)
  (fun i => i ≤ s.length ∧ ∀ x ∈ s.take i, okSp x) (fun i => s.length - i) 0 ⟨Nat.zero_le _, by simp⟩ hsQ (fun i hi => ?_)
 obtain ⟨hi, hall⟩ := hi
 by_cases hlt : i < s.length
 ·obtain ⟨x, hx⟩ := get_of_lt hlt
  obtain ⟨hA, ch, hat, rfl⟩ := hs.elem hx
  simp only [spC] at hat
  (refine rQ ?_)
  ((refine Tr.step rfl ?_)); refine Exec.call0 rfl (rSupply_fn M x) rfl ?_
  rintro _ _ _ ⟨rfl, rfl⟩
  by_cases hk : okSp x
  ·rw [decide_eq_true hk]
   (refine rQ ?_)
   refine Tr.again (i + 1) ⟨by omega, ?_⟩ (by omega) hsQ
   rw [List.take_add_one, hx, Option.toList_some]
   intro z hz
   rcases List.mem_append.1 hz with hz | hz
   ·exact hall z hz
   ·simp at hz; subst hz; exact hk
  ·rw [decide_eq_false hk]
   (refine rQ ?_)
   (refine dnQ (hL := by exact ⟨[_], rfl⟩) ⟨rfl, ?_⟩)
   exact .inl ⟨fun h => hk (h.2.1 x (List.mem_of_getElem? hx)), rfl⟩
 have ei : i = s.length := by omega
 subst ei
 rw [List.take_length] at hall
 have h3 := hall
 clear hall hi hlt
 (refine rQ ?_)
 refine Tr.loop (α := Nat) (fun i => ⟨112, [(12, .int .i64 (i : Int)), (1, .slice A1 s.length c1), (2, .slice A2 r.length c2), (3, .int .i64 known), (4, .pointer (some ⟨b4, 0, none⟩))], [], M, box b4 38 ws :: ([] ++ F)⟩)
  (fun i => i ≤ r.length ∧ ∀ x ∈ r.take i, okRq x) (fun i => r.length - i) 0 ⟨Nat.zero_le _, by simp⟩ hsQ (fun i hi => ?_)
 obtain ⟨hi, hall⟩ := hi
 by_cases hlt : i < r.length
 ·obtain ⟨x, hx⟩ := get_of_lt hlt
  obtain ⟨hA, ch, hat, rfl⟩ := hr.elem hx
  simp only [rqC] at hat
  (refine rQ ?_)
  ((refine Tr.step rfl ?_)); refine Exec.call0 rfl (rRequest_fn M x) rfl ?_
  rintro _ _ _ ⟨rfl, rfl⟩
  by_cases hk : okRq x
  ·rw [decide_eq_true hk]
   (refine rQ ?_)
   refine Tr.again (i + 1) ⟨by omega, ?_⟩ (by omega) hsQ
   rw [List.take_add_one, hx, Option.toList_some]
   intro z hz
   rcases List.mem_append.1 hz with hz | hz
   ·exact hall z hz
   ·simp at hz; subst hz; exact hk
  ·rw [decide_eq_false hk]
   (refine rQ ?_)
   (refine dnQ (hL := by exact ⟨[_], rfl⟩) ⟨rfl, ?_⟩)
   exact .inl ⟨fun h => hk (h.2.2 x (List.mem_of_getElem? hx)), rfl⟩
 have ei : i = r.length := by omega
 subst ei
 rw [List.take_length] at hall
 have h4 := hall
 clear hall hi hlt
 (repeat (first | ((with_reducible refine Tr.step rfl ?_); (first | (refine xmQ ?_) | (refine xaQ ?_) | (refine xnQ ?_) | (refine xiQ ?_) | ((with_reducible refine Knd.buildSlice ?_); (refine Exec.buildSlice (tysOk.get rfl) rfl (tysOk.get rfl) rfl rfl rfl rfl rfl (by repeat (exact BuildP.nil)) rfl (fun b => ?_))))) | (with_reducible first | apply Tr.next | apply Tr.seq | apply Tr.region | apply Tr.nil | apply Tr.block | apply Tr.exit | apply Tr.then_exit) | ((with_reducible refine Tr.in_exit ?_ ?_); (exact rfl)) | (refine Tr.cond_f rfl (by first | (with_reducible assumption) | omega) ?_)))
 rename_i bf
 generalize b = bg
 refine Tr.box_own 1 0 (b := bf) (by repeat (first | exact Upd.here | apply Upd.there)) rfl (by intro u hu; cases hu) (by simp [maxLen]) ?_
 refine Tr.box_own 5 0 (b := bg) (by repeat (first | exact Upd.here | apply Upd.there)) rfl (by intro u hu; cases hu) (by simp [maxLen]) ?_
 refine ftQ (r := ownS 78 1 _ _ _ _) ?_
 refine Tr.loop (α := Nat × Mem × List Value × (Option Addr × Nat) × (Option Addr × Nat)) (fun y => ⟨112, [(15, .int .i64 (y.1 : Int)), (13, .slice y.2.2.2.1.1 y.1 y.2.2.2.1.2), (14, .slice y.2.2.2.2.1 (rdsI w s r y.1).length y.2.2.2.2.2), (1, .slice A1 s.length c1), (2, .slice A2 r.length c2), (3, .int .i64 known), (4, .pointer (some ⟨b4, 0, none⟩))], [], y.2.1, ownS 78 1 y.2.2.2.1.1 y.1 y.2.2.2.1.2 y.2.2.1 :: ownS 88 5 y.2.2.2.2.1 (rdsI w s r y.1).length y.2.2.2.2.2 ((rdsI w s r y.1).flatMap rdC) :: box b4 38 ws :: ([] ++ F)⟩)
  (fun y => y.1 ≤ s.length ∧ Mem.le M y.2.1 ∧ Elems 1 RRowB y.2.1 y.2.2.1 (fitsT w known (s.take y.1) r) ∧ y.2.2.2.1.2 ≤ 9223372036854775807 ∧ y.2.2.2.2.2 ≤ 9223372036854775807 ∧ (rdsI w s r y.1).length ≤ 64 * y.1) (fun y => s.length - y.1) (0, M, [], (_, 0), (_, 0)) ⟨Nat.zero_le _, Mem.le.refl _, Elems.nil, by simp, by simp, by simp [rdsI, readsF]⟩ hsQ (fun y hy => ?_)
 obtain ⟨i, M1, cells, ⟨Af, cf⟩, Ar, cr⟩ := y
 obtain ⟨hi, hM, hel, hcf, hcr, hrl⟩ := hy
 simp only at hi hM hel hcf hcr hrl
 dsimp only
 have hs1 := hs.mono RSpC.mono hM
 have hr1 := hr.mono RRqC.mono hM
 have hw1 := hw.mono hM
 by_cases hlt : i < s.length
 rotate_left
 ·have ei : i = s.length := by omega
  subst ei
  rw [List.take_length] at hel
  have e0 : rdsI w s r s.length = readsF w s r := by rw [rdsI, List.take_length]
  rw [e0] at hrl ⊢
  (refine rQ ?_)
  refine pbQ (r := ownS 88 5 _ _ _ _) (fun M2 hm2 hok => ?_)
  refine pbQ (r := ownS 78 1 _ _ _ _) (fun M3 hm3 hok2 => ?_)
  have hfl : s.length = (fitsT w known s r).length := by simp [fitsT]
  have hF : Fits2 M3 (.slice Af (fitsT w known s r).length cf) (fitsT w known s r) := SlOf.ofOwn hok2 hfl hcf (hel.mono RRowB.mono (hm2.trans hm3))
  have hR : SlOf 5 RRd M3 (.slice Ar (readsF w s r).length cr) (readsF w s r) := (SlOf.ofOwn hok rfl hcr (rdC_elems _ _)).mono RRd.mono hm3
  have hmm := hM.trans (hm2.trans hm3)
  (refine dnQ (hL := by exact ⟨[_], rfl⟩) ⟨rfl, ?_⟩)
  refine .inr ⟨⟨⟨by omega, by omega⟩, h3, h4⟩, Af, cf, Ar, cr, ?_, hF, hR⟩
  rw [← hfl]; rfl
 obtain ⟨x, hx⟩ := get_of_lt hlt
 have hxo := h3 x (List.mem_of_getElem? hx)
 obtain ⟨hA, ch, hat, rfl⟩ := hs1.elem hx
 simp only [spC] at hat
 (repeat (first | ((with_reducible refine Tr.step rfl ?_); (first | (refine xmQ ?_) | (refine xaQ ?_) | (refine xnQ ?_) | (refine xiQ ?_) | ((with_reducible refine Knd.buildSlice ?_); (refine Exec.buildSlice (tysOk.get rfl) rfl (tysOk.get rfl) rfl rfl rfl rfl rfl (by repeat (exact BuildP.nil)) rfl (fun b => ?_))))) | (with_reducible first | apply Tr.next | apply Tr.seq | apply Tr.region | apply Tr.nil | apply Tr.skip | apply Tr.block) | (refine Tr.cond_t rfl (by first | (with_reducible assumption) | omega) ?_)))
 generalize b = bw
 refine Tr.box_own 1 0 (b := bw) (by repeat (first | exact Upd.here | apply Upd.there)) rfl (by intro u hu; cases hu) (by simp [maxLen]) ?_
 refine ftQ (r := ownS 88 5 _ _ _ _) ?_
 refine Tr.loop (α := Nat × Mem × (Option Addr × Nat) × (Option Addr × Nat)) (fun y => ⟨112, [(17, .int .i64 (y.1 : Int)), (16, .slice y.2.2.1.1 y.1 y.2.2.1.2), (14, .slice y.2.2.2.1 (rdsJ w s r i x y.1).length y.2.2.2.2), (15, .int .i64 (i : Int)), (13, .slice Af i cf), (1, .slice A1 s.length c1), (2, .slice A2 r.length c2), (3, .int .i64 known), (4, .pointer (some ⟨b4, 0, none⟩))], [], y.2.1, ownS 88 5 y.2.2.2.1 (rdsJ w s r i x y.1).length y.2.2.2.2 ((rdsJ w s r i x y.1).flatMap rdC) :: ownS 4 1 y.2.2.1.1 y.1 y.2.2.1.2 (boV ((r.take y.1).map (fitF w known x))) :: ownS 78 1 Af i cf cells :: box b4 38 ws :: ([] ++ F)⟩)
  (fun y => y.1 ≤ r.length ∧ Mem.le M1 y.2.1 ∧ y.2.2.1.2 ≤ 9223372036854775807 ∧ y.2.2.2.2 ≤ 9223372036854775807 ∧ (rdsJ w s r i x y.1).length ≤ 64 * i + y.1) (fun y => r.length - y.1) (0, M1, (_, 0), (Ar, cr)) ⟨Nat.zero_le _, Mem.le.refl _, by simp, hcr, by simpa [rdsJ, looksR] using hrl⟩ (by simpa [rdsJ, looksR, boV] using (hsQ)) (fun y hy => ?_)
 obtain ⟨j, M2, ⟨Aw, cw⟩, Ar2, cr2⟩ := y
 obtain ⟨hj, hM2, hcw, hcr2, hrl2⟩ := hy
 simp only at hj hM2 hcw hcr2 hrl2
 dsimp only
 have hs2 := hs1.mono RSpC.mono hM2
 have hr2 := hr1.mono RRqC.mono hM2
 have hw2 := hw1.mono hM2
 by_cases hjlt : j < r.length
 rotate_left
 ·have ej : j = r.length := by omega
  subst ej
  rw [← rdsJ_end hx] at hrl2 ⊢
  rw [List.take_length]
  refine pbQ (r := ownS 4 1 _ _ _ _) (fun M3 hm3 hok => ?_)
  have hB : Bools M3 (.slice Aw (r.map (fitF w known x)).length cw) (r.map (fitF w known x)) := SlOf.ofOwn hok (by simp) hcw (boW_elems _ _)
  (repeat (first | ((with_reducible refine Tr.step rfl ?_); (first | (refine xmQ ?_) | (refine xnQ ?_) | (refine xiQ ?_) | ((with_reducible refine Knd.buildSlice ?_); (refine Exec.buildSlice (tysOk.get rfl) rfl (tysOk.get rfl) rfl rfl rfl rfl rfl (by repeat (first | exact BuildP.nil | ((apply BuildP.one); (rfl); (rfl); (first | rfl | assumption); (repeat (first | exact SetL.z | apply SetL.s))))) rfl (fun b => ?_))))) | (with_reducible first | apply Tr.next | apply Tr.seq | apply Tr.region | apply Tr.nil | apply Tr.exit | apply Tr.then_exit) | ((with_reducible refine Tr.in_exit ?_ ?_); (exact rfl)) | (refine Tr.cond_f rfl (by first | (with_reducible assumption) | omega) ?_)))
  ((refine Tr.step rfl ?_))
  refine Exec.append (news := [.slice Aw r.length cw]) rfl rfl (tysOk.get rfl) rfl (tysOk.get rfl) rfl rfl rfl rfl (by repeat (first | exact Del.here | apply Del.there)) (Src.box (by repeat (first | exact Has.here | apply Has.there))) rfl (by intro u hu; simp at hu; subst hu; rfl) (by omega) (by omega) rfl (fun A6 c6 hc6 => ?_)
  refine gvQ (r := box _ 78 _) ?_
  (refine rQ ?_)
  refine Tr.again (i + 1, M3, cells ++ [.slice Aw r.length cw], (A6, c6), (Ar2, cr2)) ⟨by simp only; omega, hM.trans (hM2.trans hm3), ?_, hc6, hcr2, by simp only; omega⟩ (by simp only; omega) hsQ
  have e2 : fitsT w known (s.take (i + 1)) r = fitsT w known (s.take i) r ++ [r.map (fitF w known x)] := by
   unfold fitsT
   rw [List.take_add_one, hx]
   simp
  simp only
  rw [e2]
  exact (hel.mono RRowB.mono (hM2.trans hm3)).append (Elems.one rfl ⟨Aw, cw, by rw [List.length_map], hB⟩)
 obtain ⟨y, hy⟩ := get_of_lt hjlt
 have hyo := h4 y (List.mem_of_getElem? hy)
 obtain ⟨hA0, ch0, hat0, rfl⟩ := hs2.elem hx
 simp only [spC] at hat0
 obtain ⟨hA2, ch2, hat2, rfl⟩ := hr2.elem hy
 simp only [rqC] at hat2
 have hstep := rdsJ_step (w := w) (s := s) (i := i) (x := x) hy
 have hlk1 := looks_len w x y
 have htk : boV ((r.take j).map (fitF w known x)) ++ [.bool (fitF w known x y)] = boV ((r.take (j + 1)).map (fitF w known x)) := by
  rw [boV_app, List.take_add_one, hy]
  simp
 (refine rQ ?_)
 (((apply Tr.draw); (kernel_rfl)); (refine tkQ 0 (hB := by exact fun _ h => h) (s := by exact Stab.loadW rfl (tysOk.get rfl) rfl (by repeat (first | exact Has.here | apply Has.there)) (by assumption)) ?_); (refine tkQ 1 (s := by exact Stab.move rfl) ?_); (refine tkQ 2 (s := by exact Stab.move rfl) ?_); (refine tkQ 5 (s := by exact Stab.move rfl) ?_); (refine tkQ 6 (s := by exact Stab.move rfl) ?_); (refine tkQ 9 (s := by exact Stab.move rfl) ?_); (refine tkQ 3 (s := by exact sxQ) ?_); (refine tkQ 7 (s := by exact sxQ) ?_); (refine tkQ 4 (s := by exact Stab.loadMA rfl (tysOk.get rfl) rfl (by assumption) (by first | rfl | assumption)) ?_); (refine tkQ 8 (s := by exact Stab.loadMA rfl (tysOk.get rfl) rfl (by assumption) (by first | rfl | assumption)) ?_); (refine TrA.eff 10 rfl (by kernel_rfl) (by exact .inl rfl) ?_))
 refine Exec.call0 rfl (rfits_fn M2 ws w hw2 x y hxo hyo known) rfl ?_
 rintro _ M3 hm3 ⟨B, kb, rfl, hB⟩
 refine ⟨hm3, (by exact fun _ h => h), ?_⟩
 generalize hlk : looksR w x [y] = lk at hB hstep hlk1 ⊢
 ((refine tkQ 11 (s := by exact Stab.move rfl) ?_); (refine tkQ 12 (s := by exact Stab.extract rfl rfl) ?_); (refine tkQ 13 (s := by exact Stab.extract rfl rfl) ?_); (refine tkQ 14 (s := by exact Stab.assign rfl) ?_); (refine tkQ 15 (s := by exact Stab.assign rfl) ?_); (refine TrA.done (by kernel_rfl) ?_))
 (repeat (first | ((with_reducible refine Tr.step rfl ?_); (first | (refine xmQ ?_) | ((with_reducible refine Knd.buildSlice ?_); (refine Exec.buildSlice (tysOk.get rfl) rfl (tysOk.get rfl) rfl rfl rfl rfl rfl (by repeat (first | exact BuildP.nil | ((apply BuildP.one); (rfl); (rfl); (first | rfl | assumption); (repeat (first | exact SetL.z | apply SetL.s))))) rfl (fun b => ?_))))) | (with_reducible first | apply Tr.next | apply Tr.seq | apply Tr.region)))
 ((refine Tr.step rfl ?_))
 refine Exec.append (news := [.bool (fitF w known x y)]) rfl rfl (tysOk.get rfl) rfl (tysOk.get rfl) rfl rfl rfl rfl (by repeat (first | exact Del.here | apply Del.there)) (Src.box (by repeat (first | exact Has.here | apply Has.there))) rfl (by intro u hu; simp at hu; subst hu; rfl) (by omega) (by omega) rfl (fun A6 c6 hc6 => ?_)
 refine gvQ (r := box _ 4 _) ?_
 rw [htk]
 (refine rQ ?_)
 refine ftQ (r := ownS 88 5 _ _ _ _) ?_
 refine Tr.loop (α := Nat × (Option Addr × Nat)) (fun y => ⟨112, [(20, .int .i64 (y.1 : Int)), (14, .slice y.2.1 ((lk.take y.1).foldl addNew (rdsJ w s r i x j)).length y.2.2), (19, .slice B lk.length kb), (17, .int .i64 (j : Int)), (16, .slice A6 (j + 1) c6), (15, .int .i64 (i : Int)), (13, .slice Af i cf), (1, .slice A1 s.length c1), (2, .slice A2 r.length c2), (3, .int .i64 known), (4, .pointer (some ⟨b4, 0, none⟩))], [], M3, ownS 88 5 y.2.1 ((lk.take y.1).foldl addNew (rdsJ w s r i x j)).length y.2.2 (((lk.take y.1).foldl addNew (rdsJ w s r i x j)).flatMap rdC) :: ownS 4 1 A6 (j + 1) c6 (boV ((r.take (j + 1)).map (fitF w known x))) :: ownS 78 1 Af i cf cells :: box b4 38 ws :: ([] ++ F)⟩)
  (fun y => y.1 ≤ lk.length ∧ y.2.2 ≤ 9223372036854775807) (fun y => lk.length - y.1) (0, (Ar2, cr2)) ⟨Nat.zero_le _, hcr2⟩ hsQ (fun q hq => ?_)
 obtain ⟨n, Ar3, cr3⟩ := q
 obtain ⟨hn, hcr3⟩ := hq
 simp only at hn hcr3
 dsimp only
 have hfl3 := foldNew_len (lk.take n) (rdsJ w s r i x j)
 rw [List.length_take] at hfl3
 by_cases hnlt : n < lk.length
 rotate_left
 ·have en : n = lk.length := by omega
  subst en
  rw [List.take_length] at hfl3 ⊢
  rw [← hstep] at hfl3 ⊢
  (refine rQ ?_)
  exact Tr.again (j + 1, M3, (A6, c6), (Ar3, cr3)) ⟨by simp only; omega, hM2.trans hm3, hc6, hcr3, by simp only; omega⟩ (by simp only; omega) hsQ
 obtain ⟨z, hz⟩ := get_of_lt hnlt
 obtain ⟨hA4, ch4, hat4, rfl⟩ := hB.elem hz
 simp only [rdC] at hat4
 have hft := foldNew_take (l0 := rdsJ w s r i x j) hz
 generalize hrd : (lk.take n).foldl addNew (rdsJ w s r i x j) = R0 at hft hfl3 ⊢
 (refine rQ ?_)
 ((refine Tr.step rfl ?_))
 refine Exec.call (A := [ownS 88 5 Ar3 R0.length cr3 (R0.flatMap rdC)]) rfl (rhas_lend M3 Ar3 cr3 hcr3 R0 z) (take1 (by repeat (first | exact Del.here | apply Del.there))) rfl ?_
 rintro _ _ _ _ ⟨rfl, rfl, rfl⟩
 by_cases hin : z ∈ R0
 ·rw [decide_eq_true hin]
  have hadd : addNew R0 z = R0 := by rw [addNew, if_pos hin]
  rw [hadd] at hft
  (refine rQ ?_)
  refine Tr.again (n + 1, (Ar3, cr3)) ⟨by simp only; omega, hcr3⟩ (by simp only; omega) (by simp only [hft]; exact hsQ)
 ·rw [decide_eq_false hin]
  have hadd : addNew R0 z = R0 ++ [z] := by rw [addNew, if_neg hin]
  rw [hadd] at hft
  (repeat (first | ((with_reducible refine Tr.step rfl ?_); (first | (refine xmQ ?_) | ((with_reducible refine Knd.load ?_); (refine Exec.stab rfl (Stab.loadMA rfl (tysOk.get rfl) rfl (by assumption) (by first | rfl | assumption)) rfl ?_)) | ((with_reducible refine Knd.unOp ?_); (refine Exec.stab rfl (Stab.not rfl) rfl ?_)) | (refine xxQ ?_) | ((with_reducible refine Knd.buildSlice ?_); (refine Exec.buildSlice (tysOk.get rfl) rfl (tysOk.get rfl) rfl rfl rfl rfl rfl (by repeat (first | exact BuildP.nil | ((apply BuildP.many); (rfl); (rfl); (rfl); (rfl); (repeat (first | exact PutL.nil | ((apply PutL.cons); (repeat (first | exact SetL.z | apply SetL.s)))))))) rfl (fun b => ?_))))) | (with_reducible first | apply Tr.next | apply Tr.region | apply Tr.nil) | (refine Tr.cond_bt rfl (by first | (with_reducible rfl) | (with_reducible exact Bool.not_false)) ?_)))
  ((refine Tr.step rfl ?_))
  refine Exec.append (news := rdC z) rfl rfl (tysOk.get rfl) rfl (tysOk.get rfl) rfl rfl rfl rfl (by repeat (first | exact Del.here | apply Del.there)) (Src.box (by repeat (first | exact Has.here | apply Has.there))) rfl (rdC_one _) (by omega) (by omega) rfl (fun A7 c7 hc7 => ?_)
  refine gvQ (r := box _ 88 _) ?_
  have hfl : R0.flatMap rdC ++ rdC z = (R0 ++ [z]).flatMap rdC := by rw [List.flatMap_append]; simp
  have hln : R0.length + 1 = (R0 ++ [z]).length := by simp
  rw [hfl, hln]
  (refine rQ ?_)
  refine Tr.again (n + 1, (A7, c7)) ⟨by simp only; omega, hc7⟩ (by simp only; omega) (by simp only [hft]; exact hsQ)
end Go.Proofs.YtmikfjcdgkopkaaGreat

/-
 The reference's promises: amounts, needs, numbers.
 Conditions: none.
-/
namespace Go.Proofs.YtmikfjcdgkopkaaGreat
open Go Bf
attribute [local irreducible] Tr Exec Stab HasTy Go.Addr.add IntKind.wrap
set_option maxHeartbeats 4000000 in
theorem ramS_fn (M : Mem) (A : Option Addr) (c : Nat) (l : List Sp) (h : SlOf 6 RSpC M (.slice A l.length c) l) (hl : l.length ≤ 1000000) :
  Fn0 Tryz.prog 47 [.slice A l.length c] M (fun v M' => ∃ A1 c1, v = .slice A1 (amS l).length c1 ∧ Ints M' (.slice A1 (amS l).length c1) (amS l)) := by
 refine Fn.intro Tryz.func47 rfl rfl Tryz.ntmps47 rfl fun E F => ?_
 (repeat (first | ((with_reducible refine Tr.step rfl ?_); (first | (refine xaQ ?_) | ((with_reducible refine Knd.buildSlice ?_); (refine Exec.buildSlice (tysOk.get rfl) rfl (tysOk.get rfl) rfl rfl rfl rfl rfl (by repeat (exact BuildP.nil)) rfl (fun b => ?_))))) | (with_reducible first | apply Tr.next | apply Tr.seq | apply Tr.region | apply Tr.nil | apply Tr.block)))
 refine Tr.box_own 1 0 (by repeat (first | exact Upd.here | apply Upd.there)) rfl (by intro u hu; cases hu) (by simp [maxLen]) ?_
 refine Tr.loop (α := Nat × Option Addr × Nat) (fun y => ⟨21, [(4, .int .i64 (y.1 : Int)), (3, .slice y.2.1 y.1 y.2.2), (0, .slice A l.length c)], [], M, ownS 3 1 y.2.1 y.1 y.2.2 (intV ((l.take y.1).map (·.amount))) :: ([] ++ F)⟩)
  (fun y => y.1 ≤ l.length ∧ y.2.2 ≤ 9223372036854775807) (fun y => l.length - y.1) (0, _, 0) ⟨Nat.zero_le _, by simp⟩ hsQ (fun y hy => ?_)
 obtain ⟨i, A1, c1⟩ := y
 obtain ⟨hi, hc1⟩ := hy
 simp only at hi hc1
 dsimp only
 by_cases hlt : i < l.length
 ·obtain ⟨y, hy⟩ := get_of_lt hlt
  obtain ⟨hA, ch, hat, rfl⟩ := h.elem hy
  have hat2 : At M (((A.getD default).add (i * 6)).add 5) [.int .i64 y.amount] := hat.drop 5
  have e1 := nums_take (·.amount) hy
  (repeat (first | ((with_reducible refine Tr.step rfl ?_); (first | (refine xmQ ?_) | (refine xMQ ?_) | ((with_reducible refine Knd.fieldAddr ?_); (refine Exec.stab rfl (Stab.fieldD rfl (tysOk.get rfl) rfl rfl (tysOk.get rfl) rfl) rfl ?_)) | (refine xnQ ?_) | (refine xiQ ?_) | (refine xxQ ?_) | ((with_reducible refine Knd.buildSlice ?_); (refine Exec.buildSlice (tysOk.get rfl) rfl (tysOk.get rfl) rfl rfl rfl rfl rfl (by repeat (first | exact BuildP.nil | ((apply BuildP.one); (rfl); (rfl); (first | rfl | assumption); (repeat (first | exact SetL.z | apply SetL.s))))) rfl (fun b => ?_))))) | (with_reducible first | apply Tr.next | apply Tr.seq | apply Tr.region | apply Tr.nil | apply Tr.skip | apply Tr.block) | (refine Tr.cond_t rfl (by first | (with_reducible assumption) | omega) ?_)))
  ((refine Tr.step rfl ?_))
  refine Exec.append (news := [.int .i64 y.amount]) rfl rfl (tysOk.get rfl) rfl (tysOk.get rfl) rfl rfl rfl rfl (by repeat (first | exact Del.here | apply Del.there)) (Src.box (by repeat (first | exact Has.here | apply Has.there))) rfl (by intro u hu; simp at hu; subst hu; rfl) (by omega) (by omega) rfl (fun A3 c3 hc3 => ?_)
  refine gvQ (r := box _ 3 _) ?_
  rw [show intV ((l.take i).map (·.amount)) ++ [Value.int .i64 y.amount] = intV ((l.take (i + 1)).map (·.amount)) by rw [e1, intV_append]; rfl]
  (refine rQ ?_)
  exact Tr.again (i + 1, A3, c3) ⟨by simp only; omega, hc3⟩ (by simp only; omega) hsQ
 have ei : i = l.length := by omega
 subst ei
 rw [List.take_length]
 refine pbQ (r := ownS 3 1 A1 _ _ _) (fun M2 hm2 hok => ?_)
 have hI : Ints M2 (.slice A1 (amS l).length c1) (amS l) := Ints.ofOwn hok (by simp [amS]) hc1
 (refine rQ ?_)
 (refine dnQ (hL := by exact ⟨[], rfl⟩) ⟨rfl, ?_⟩)
 exact ⟨A1, c1, by simp [amS]; rfl, hI⟩
set_option maxHeartbeats 4000000 in
theorem ramR_fn (M : Mem) (A : Option Addr) (c : Nat) (l : List Rq) (h : SlOf 6 RRqC M (.slice A l.length c) l) (hl : l.length ≤ 1000000) :
  Fn0 Tryz.prog 48 [.slice A l.length c] M (fun v M' => ∃ A1 c1, v = .slice A1 (amR l).length c1 ∧ Ints M' (.slice A1 (amR l).length c1) (amR l)) := by
 refine Fn.intro Tryz.func48 rfl rfl Tryz.ntmps48 rfl fun E F => ?_
 (repeat (first | ((with_reducible refine Tr.step rfl ?_); (first | (refine xaQ ?_) | ((with_reducible refine Knd.buildSlice ?_); (refine Exec.buildSlice (tysOk.get rfl) rfl (tysOk.get rfl) rfl rfl rfl rfl rfl (by repeat (exact BuildP.nil)) rfl (fun b => ?_))))) | (with_reducible first | apply Tr.next | apply Tr.seq | apply Tr.region | apply Tr.nil | apply Tr.block)))
 refine Tr.box_own 1 0 (by repeat (first | exact Upd.here | apply Upd.there)) rfl (by intro u hu; cases hu) (by simp [maxLen]) ?_
 refine Tr.loop (α := Nat × Option Addr × Nat) (fun y => ⟨21, [(4, .int .i64 (y.1 : Int)), (3, .slice y.2.1 y.1 y.2.2), (0, .slice A l.length c)], [], M, ownS 3 1 y.2.1 y.1 y.2.2 (intV ((l.take y.1).map (·.amount))) :: ([] ++ F)⟩)
  (fun y => y.1 ≤ l.length ∧ y.2.2 ≤ 9223372036854775807) (fun y => l.length - y.1) (0, _, 0) ⟨Nat.zero_le _, by simp⟩ hsQ (fun y hy => ?_)
 obtain ⟨i, A1, c1⟩ := y
 obtain ⟨hi, hc1⟩ := hy
 simp only at hi hc1
 dsimp only
 by_cases hlt : i < l.length
 ·obtain ⟨y, hy⟩ := get_of_lt hlt
  obtain ⟨hA, ch, hat, rfl⟩ := h.elem hy
  have hat2 : At M (((A.getD default).add (i * 6)).add 5) [.int .i64 y.amount] := hat.drop 5
  have e1 := nums_take (·.amount) hy
  (repeat (first | ((with_reducible refine Tr.step rfl ?_); (first | (refine xmQ ?_) | (refine xMQ ?_) | ((with_reducible refine Knd.fieldAddr ?_); (refine Exec.stab rfl (Stab.fieldD rfl (tysOk.get rfl) rfl rfl (tysOk.get rfl) rfl) rfl ?_)) | (refine xnQ ?_) | (refine xiQ ?_) | (refine xxQ ?_) | ((with_reducible refine Knd.buildSlice ?_); (refine Exec.buildSlice (tysOk.get rfl) rfl (tysOk.get rfl) rfl rfl rfl rfl rfl (by repeat (first | exact BuildP.nil | ((apply BuildP.one); (rfl); (rfl); (first | rfl | assumption); (repeat (first | exact SetL.z | apply SetL.s))))) rfl (fun b => ?_))))) | (with_reducible first | apply Tr.next | apply Tr.seq | apply Tr.region | apply Tr.nil | apply Tr.skip | apply Tr.block) | (refine Tr.cond_t rfl (by first | (with_reducible assumption) | omega) ?_)))
  ((refine Tr.step rfl ?_))
  refine Exec.append (news := [.int .i64 y.amount]) rfl rfl (tysOk.get rfl) rfl (tysOk.get rfl) rfl rfl rfl rfl (by repeat (first | exact Del.here | apply Del.there)) (Src.box (by repeat (first | exact Has.here | apply Has.there))) rfl (by intro u hu; simp at hu; subst hu; rfl) (by omega) (by omega) rfl (fun A3 c3 hc3 => ?_)
  refine gvQ (r := box _ 3 _) ?_
  rw [show intV ((l.take i).map (·.amount)) ++ [Value.int .i64 y.amount] = intV ((l.take (i + 1)).map (·.amount)) by rw [e1, intV_append]; rfl]
  (refine rQ ?_)
  exact Tr.again (i + 1, A3, c3) ⟨by simp only; omega, hc3⟩ (by simp only; omega) hsQ
 have ei : i = l.length := by omega
 subst ei
 rw [List.take_length]
 refine pbQ (r := ownS 3 1 A1 _ _ _) (fun M2 hm2 hok => ?_)
 have hI : Ints M2 (.slice A1 (amR l).length c1) (amR l) := Ints.ofOwn hok (by simp [amR]) hc1
 (refine rQ ?_)
 (refine dnQ (hL := by exact ⟨[], rfl⟩) ⟨rfl, ?_⟩)
 exact ⟨A1, c1, by simp [amR]; rfl, hI⟩
theorem nodup_take {l : List Int} {i : Nat} {x : Int} (h : (l.take i).Nodup) (hx : l[i]? = some x) (hn : x ∉ l.take i) : (l.take (i + 1)).Nodup := by
 rw [List.take_add_one, hx, Option.toList_some, List.nodup_append]
 exact ⟨h, by simp, fun a ha b hb => by simp at hb; subst hb; exact fun e => hn (e ▸ ha)⟩
theorem nodup_no {l : List Int} {i k : Nat} {x : Int} (hki : k < i) (hx : l[i]? = some x) (hk : l[k]? = some x) : ¬ l.Nodup := fun h => by
 obtain ⟨h1, e1⟩ := List.getElem?_eq_some_iff.1 hx
 obtain ⟨h2, e2⟩ := List.getElem?_eq_some_iff.1 hk
 have := (List.getElem_inj (h₀ := h1) (h₁ := h2) h).1 (e1.trans e2.symm)
 omega
set_option maxHeartbeats 8000000 in
set_option maxRecDepth 20000 in
theorem rnumbers_fn (M : Mem) (A1 A2 : Option Addr) (c1 c2 : Nat) (s : List Sp) (r : List Rq) (hs : SlOf 6 RSpC M (.slice A1 s.length c1) s) (hr : SlOf 6 RRqC M (.slice A2 r.length c2) r) :
  Fn0 Tryz.prog 36 [.slice A1 s.length c1, .slice A2 r.length c2] M (fun v M' => (∃ q : Bool, v = .bool q ∧ (q = true ↔ (s.map (·.no)).Nodup ∧ (r.map (·.no)).Nodup)) ∧ M = M') := by
 have hl1 := hs.len_le
 have hl2 := hr.len_le
 refine Fn.intro Tryz.func36 rfl rfl Tryz.ntmps36 rfl fun E F => ?_
 (refine rQ ?_)
 refine Tr.loop (α := Nat) (fun i => ⟨53, [(5, .int .i64 (i : Int)), (0, .slice A1 s.length c1), (1, .slice A2 r.length c2)], [], M, [] ++ F⟩) (fun i => i ≤ s.length ∧ ((s.map (·.no)).take i).Nodup) (fun i => s.length - i) 0 ⟨by simp, by simp⟩ hsQ (fun i hi => ?_)
 obtain ⟨hi, hnd⟩ := hi
 by_cases hlt : i < s.length
 ·obtain ⟨x, hx⟩ := get_of_lt hlt
  obtain ⟨hA, ch, hat, rfl⟩ := hs.elem hx
  have hat2 : At M (((A1.getD default).add (i * 6)).add 0) _ := hat.drop 0
  have hxn : (s.map (·.no))[i]? = some x.no := by rw [List.getElem?_map, hx]; rfl
  (refine rQ ?_)
  refine Tr.loop (α := Nat) (fun k => ⟨53, [(6, .int .i64 (k : Int)), (5, .int .i64 (i : Int)), (0, .slice A1 s.length c1), (1, .slice A2 r.length c2)], [], M, [] ++ F⟩) (fun k => k ≤ i ∧ x.no ∉ (s.map (·.no)).take k) (fun k => i - k) 0 ⟨by simp, by simp⟩ hsQ (fun k hk => ?_)
  obtain ⟨hk, hno⟩ := hk
  by_cases hklt : k < i
  ·obtain ⟨z, hz⟩ := get_of_lt (xs := s) (i := k) (by omega)
   obtain ⟨hA3, ch3, hat3, rfl⟩ := hs.elem hz
   have hat4 : At M (((A1.getD default).add (k * 6)).add 0) _ := hat3.drop 0
   have hzn : (s.map (·.no))[k]? = some z.no := by rw [List.getElem?_map, hz]; rfl
   by_cases he : x.no = z.no
   ·rw [← he] at hzn
    (refine rQ ?_)
    (((apply Tr.draw); (kernel_rfl)); (refine tkQ 0 (hB := by exact fun _ h => h) (s := by exact Stab.move rfl) ?_); (refine tkQ 1 (s := by exact Stab.move rfl) ?_); (refine tkQ 5 (s := by exact Stab.move rfl) ?_); (refine tkQ 6 (s := by exact Stab.move rfl) ?_); (refine tkQ 2 (s := by exact sxQ) ?_); (refine tkQ 7 (s := by exact sxQ) ?_); (refine tkQ 3 (s := by exact Stab.fieldD rfl (tysOk.get rfl) rfl rfl (tysOk.get rfl) rfl) ?_); (refine tkQ 8 (s := by exact Stab.fieldD rfl (tysOk.get rfl) rfl rfl (tysOk.get rfl) rfl) ?_); (refine tkQ 4 (s := by exact sMQ) ?_); (refine tkQ 9 (s := by exact sMQ) ?_); (refine tkQ 10 (s := by exact siQ) ?_); (refine TrA.done (by kernel_rfl) ?_))
    (refine rQ ?_)
    (refine dnQ (hL := by exact ⟨[], rfl⟩) ⟨rfl, ?_⟩)
    exact ⟨⟨false, rfl, fun h => (by cases h), fun h => absurd h.1 (nodup_no hklt hxn hzn)⟩, rfl⟩
   ·(refine rQ ?_)
    (((apply Tr.draw); (kernel_rfl)); (refine tkQ 0 (hB := by exact fun _ h => h) (s := by exact Stab.move rfl) ?_); (refine tkQ 1 (s := by exact Stab.move rfl) ?_); (refine tkQ 5 (s := by exact Stab.move rfl) ?_); (refine tkQ 6 (s := by exact Stab.move rfl) ?_); (refine tkQ 2 (s := by exact sxQ) ?_); (refine tkQ 7 (s := by exact sxQ) ?_); (refine tkQ 3 (s := by exact Stab.fieldD rfl (tysOk.get rfl) rfl rfl (tysOk.get rfl) rfl) ?_); (refine tkQ 8 (s := by exact Stab.fieldD rfl (tysOk.get rfl) rfl rfl (tysOk.get rfl) rfl) ?_); (refine tkQ 4 (s := by exact sMQ) ?_); (refine tkQ 9 (s := by exact sMQ) ?_); (refine tkQ 10 (s := by exact siQ) ?_); (refine TrA.done (by kernel_rfl) ?_))
    (refine rQ ?_)
    refine Tr.again (k + 1) ⟨by omega, ?_⟩ (by omega) hsQ
    rw [List.take_add_one, hzn, Option.toList_some, List.mem_append, List.mem_singleton, not_or]
    exact ⟨hno, he⟩
  ·have ek : k = i := by omega
   subst ek
   (refine rQ ?_)
   exact Tr.again (k + 1) ⟨by omega, nodup_take hnd hxn hno⟩ (by omega) hsQ
 have ei : i = s.length := by omega
 subst ei
 rw [List.take_of_length_le (by simp)] at hnd
 have hnd1 := hnd
 clear hnd hi hlt
 (refine rQ ?_)
 refine Tr.loop (α := Nat) (fun i => ⟨53, [(7, .int .i64 (i : Int)), (0, .slice A1 s.length c1), (1, .slice A2 r.length c2)], [], M, [] ++ F⟩) (fun i => i ≤ r.length ∧ ((r.map (·.no)).take i).Nodup) (fun i => r.length - i) 0 ⟨by simp, by simp⟩ hsQ (fun i hi => ?_)
 obtain ⟨hi, hnd⟩ := hi
 by_cases hlt : i < r.length
 ·obtain ⟨x, hx⟩ := get_of_lt hlt
  obtain ⟨hA, ch, hat, rfl⟩ := hr.elem hx
  have hat2 : At M (((A2.getD default).add (i * 6)).add 0) _ := hat.drop 0
  have hxn : (r.map (·.no))[i]? = some x.no := by rw [List.getElem?_map, hx]; rfl
  (refine rQ ?_)
  refine Tr.loop (α := Nat) (fun k => ⟨53, [(8, .int .i64 (k : Int)), (7, .int .i64 (i : Int)), (0, .slice A1 s.length c1), (1, .slice A2 r.length c2)], [], M, [] ++ F⟩) (fun k => k ≤ i ∧ x.no ∉ (r.map (·.no)).take k) (fun k => i - k) 0 ⟨by simp, by simp⟩ hsQ (fun k hk => ?_)
  obtain ⟨hk, hno⟩ := hk
  by_cases hklt : k < i
  ·obtain ⟨z, hz⟩ := get_of_lt (xs := r) (i := k) (by omega)
   obtain ⟨hA3, ch3, hat3, rfl⟩ := hr.elem hz
   have hat4 : At M (((A2.getD default).add (k * 6)).add 0) _ := hat3.drop 0
   have hzn : (r.map (·.no))[k]? = some z.no := by rw [List.getElem?_map, hz]; rfl
   by_cases he : x.no = z.no
   ·rw [← he] at hzn
    (refine rQ ?_)
    (((apply Tr.draw); (kernel_rfl)); (refine tkQ 0 (hB := by exact fun _ h => h) (s := by exact Stab.move rfl) ?_); (refine tkQ 1 (s := by exact Stab.move rfl) ?_); (refine tkQ 5 (s := by exact Stab.move rfl) ?_); (refine tkQ 6 (s := by exact Stab.move rfl) ?_); (refine tkQ 2 (s := by exact sxQ) ?_); (refine tkQ 7 (s := by exact sxQ) ?_); (refine tkQ 3 (s := by exact Stab.fieldD rfl (tysOk.get rfl) rfl rfl (tysOk.get rfl) rfl) ?_); (refine tkQ 8 (s := by exact Stab.fieldD rfl (tysOk.get rfl) rfl rfl (tysOk.get rfl) rfl) ?_); (refine tkQ 4 (s := by exact sMQ) ?_); (refine tkQ 9 (s := by exact sMQ) ?_); (refine tkQ 10 (s := by exact siQ) ?_); (refine TrA.done (by kernel_rfl) ?_))
    (refine rQ ?_)
    (refine dnQ (hL := by exact ⟨[], rfl⟩) ⟨rfl, ?_⟩)
    exact ⟨⟨false, rfl, fun h => (by cases h), fun h => absurd h.2 (nodup_no hklt hxn hzn)⟩, rfl⟩
   ·(refine rQ ?_)
    (((apply Tr.draw); (kernel_rfl)); (refine tkQ 0 (hB := by exact fun _ h => h) (s := by exact Stab.move rfl) ?_); (refine tkQ 1 (s := by exact Stab.move rfl) ?_); (refine tkQ 5 (s := by exact Stab.move rfl) ?_); (refine tkQ 6 (s := by exact Stab.move rfl) ?_); (refine tkQ 2 (s := by exact sxQ) ?_); (refine tkQ 7 (s := by exact sxQ) ?_); (refine tkQ 3 (s := by exact Stab.fieldD rfl (tysOk.get rfl) rfl rfl (tysOk.get rfl) rfl) ?_); (refine tkQ 8 (s := by exact Stab.fieldD rfl (tysOk.get rfl) rfl rfl (tysOk.get rfl) rfl) ?_); (refine tkQ 4 (s := by exact sMQ) ?_); (refine tkQ 9 (s := by exact sMQ) ?_); (refine tkQ 10 (s := by exact siQ) ?_); (refine TrA.done (by kernel_rfl) ?_))
    (refine rQ ?_)
    refine Tr.again (k + 1) ⟨by omega, ?_⟩ (by omega) hsQ
    rw [List.take_add_one, hzn, Option.toList_some, List.mem_append, List.mem_singleton, not_or]
    exact ⟨hno, he⟩
  ·have ek : k = i := by omega
   subst ek
   (refine rQ ?_)
   exact Tr.again (k + 1) ⟨by omega, nodup_take hnd hxn hno⟩ (by omega) hsQ
 have ei : i = r.length := by omega
 subst ei
 rw [List.take_of_length_le (by simp)] at hnd
 (refine rQ ?_)
 (refine dnQ (hL := by exact ⟨[], rfl⟩) ⟨rfl, ?_⟩)
 exact ⟨⟨true, rfl, fun _ => ⟨hnd1, hnd⟩, fun _ => rfl⟩, rfl⟩
end Go.Proofs.YtmikfjcdgkopkaaGreat

/-
 The reference's promises: with, New.
 Conditions: none.
-/
namespace Go.Proofs.YtmikfjcdgkopkaaGreat
open Go Bf
attribute [local irreducible] Tr Exec Stab HasTy Go.Addr.add IntKind.wrap
def WithV (w : Wd) (k : Bp) (r : List Rq) (v : Value) (M : Mem) : Prop :=
 (¬ okT k.sups r ∧ v = .tuple #[.agg #[.int .i64 0, .slice none 0 0, .slice none 0 0, .slice none 0 0, .slice none 0 0], .int .i64 290]) ∨ (okT k.sups r ∧ ∃ x, v = .tuple #[x, .int .i64 0] ∧ RBp M x (mkF w k r))
set_option maxHeartbeats 8000000 in
set_option maxRecDepth 20000 in
theorem rwith_fn (M : Mem) (ws : List Value) (w : Wd) (hw : RWd M ws w) (k : Bp) (As : Option Addr) (cs : Nat) (h1 : SlOf 6 RSpC M (.slice As k.sups.length cs) k.sups) (x3 x4 x5 : Value) (_ : x3.oneCell' = true) (_ : x4.oneCell' = true) (_ : x5.oneCell' = true) (Ar : Option Addr) (cr : Nat) (r : List Rq) (h2 : SlOf 6 RRqC M (.slice Ar r.length cr) r) :
  Fn0 Tryz.prog 35 [.agg ws.toArray, .agg #[.int .i64 k.known, .slice As k.sups.length cs, x3, x4, x5], .slice Ar r.length cr] M (fun v M' => WithV w k r v M') := by
 have h11 := hw.len
 refine Fn.intro Tryz.func35 rfl rfl Tryz.ntmps35 rfl fun E F => ?_
 (repeat (first | ((with_reducible refine Tr.step rfl ?_); (first | (refine xmQ ?_) | (refine xaQ ?_) | ((with_reducible refine Knd.load ?_); (first | (refine xlQ ?_) | (refine Exec.stab rfl (Stab.loadW rfl (tysOk.get rfl) rfl (by repeat (first | exact Has.here | apply Has.there)) (by assumption)) rfl ?_))) | (refine xfQ ?_) | ((with_reducible refine Knd.box ?_); (refine Exec.box rfl rfl (fun b => ?_))) | ((with_reducible refine Knd.alloc ?_); (refine Exec.alloc (tysOk.get rfl) rfl rfl (fun b => ?_))))) | (with_reducible first | apply Tr.next | apply Tr.seq | apply Tr.region | apply Tr.nil)))
 ((refine Tr.step rfl ?_)); refine Exec.call0 rfl (rtable_fn M ws w hw As Ar cs cr k.sups r k.known h1 h2) rfl ?_
 rintro _ M1 hm1 (⟨hnk, rfl⟩ | ⟨hok, A, c, B, kk, rfl, hF, hR⟩)
 ·(repeat (first | ((with_reducible refine Tr.step rfl ?_); (first | (refine xmQ ?_) | (refine xaQ ?_) | (refine xiQ ?_) | (refine xWQ ?_) | ((with_reducible refine Knd.extract ?_); (refine Exec.stab rfl (Stab.extract rfl rfl) rfl ?_)) | ((with_reducible refine Knd.build ?_); (refine Exec.stab rfl (Stab.build tysOk rfl rfl rfl rfl (by repeat (exact BuildP.nil))) rfl ?_)))) | (with_reducible first | apply Tr.next | apply Tr.seq | apply Tr.region | apply Tr.nil | apply Tr.ret | apply Tr.then_ret) | (refine Tr.cond_t rfl (by first | (with_reducible assumption) | omega) ?_)))
  (refine Tr.done (by first | exact .inl rfl | exact .inr rfl) rfl (by repeat (first | exact RVs.nil | (apply RVs.cons; (first | exact RV.tmp rfl | exact RV.cellW (by rfl) (tysOk.get (by rfl)) (by rfl) (by repeat (first | exact Has.here | apply Has.there)) (by first | rfl | assumption))))) (by first | exact Mem.le.refl _ | assumption) (by exact ⟨[_, _, _], rfl⟩) ⟨rfl, ?_⟩)
  exact .inl ⟨hnk, rfl⟩
 ·(repeat (first | ((with_reducible refine Tr.step rfl ?_); (first | (refine xmQ ?_) | (refine xaQ ?_) | (refine xlQ ?_) | (refine xfQ ?_) | (refine xiQ ?_) | (refine xWQ ?_) | ((with_reducible refine Knd.extract ?_); (refine Exec.stab rfl (Stab.extract rfl rfl) rfl ?_)) | ((with_reducible refine Knd.build ?_); (refine Exec.stab rfl (Stab.build tysOk rfl rfl rfl rfl (by repeat (first | exact BuildP.nil | ((apply BuildP.one); (rfl); (rfl); (first | rfl | assumption); (repeat (first | exact SetL.z | apply SetL.s)))))) rfl ?_)))) | (with_reducible first | apply Tr.next | apply Tr.seq | apply Tr.region | apply Tr.nil | apply Tr.skip | apply Tr.ret) | (refine Tr.cond_f rfl (by (with_reducible exact (not_not_intro rfl))) ?_)))
  (refine Tr.done (by first | exact .inl rfl | exact .inr rfl) rfl (by repeat (first | exact RVs.nil | (apply RVs.cons; (first | exact RV.tmp rfl | exact RV.cellW (by rfl) (tysOk.get (by rfl)) (by rfl) (by repeat (first | exact Has.here | apply Has.there)) (by first | rfl | assumption))))) (by first | exact Mem.le.refl _ | assumption) (by exact ⟨[_, _, _], rfl⟩) ⟨rfl, ?_⟩)
  exact .inr ⟨hok, _, rfl, As, cs, Ar, cr, A, c, B, kk, rfl, h1.mono RSpC.mono hm1, h2.mono RRqC.mono hm1, hF, hR⟩
set_option maxHeartbeats 8000000 in
set_option maxRecDepth 20000 in
theorem rnew_fn (M : Mem) (ws : List Value) (w : Wd) (hw : RWd M ws w) (As : Option Addr) (cs : Nat) (s : List Sp) (hs : SlOf 6 RSpC M (.slice As s.length cs) s) (known : Int) :
  Fn0 Tryz.prog 13 [.agg ws.toArray, .slice As s.length cs, .int .i64 known] M (fun v M' => NewV w s known v M') := by
 have h11 := hw.len
 refine Fn.intro Tryz.func13 rfl rfl Tryz.ntmps13 rfl fun E F => ?_
 (repeat (first | ((with_reducible refine Tr.step rfl ?_); (first | (refine xmQ ?_) | (refine xaQ ?_) | ((with_reducible refine Knd.load ?_); (refine Exec.stab rfl (Stab.loadW rfl (tysOk.get rfl) rfl (by repeat (first | exact Has.here | apply Has.there)) (by assumption)) rfl ?_)) | ((with_reducible refine Knd.box ?_); (refine Exec.box rfl rfl (fun b => ?_))) | ((with_reducible refine Knd.alloc ?_); (refine Exec.alloc (tysOk.get rfl) rfl rfl (fun b => ?_))) | ((with_reducible refine Knd.build ?_); (refine Exec.stab rfl (Stab.build tysOk rfl rfl rfl rfl (by repeat (first | exact BuildP.nil | ((apply BuildP.one); (rfl); (rfl); (first | rfl | assumption); (repeat (first | exact SetL.z | apply SetL.s)))))) rfl ?_)))) | (with_reducible first | apply Tr.next | apply Tr.seq | apply Tr.region | apply Tr.nil)))
 ((refine Tr.step rfl ?_)); refine Exec.call0 rfl (rwith_fn M ws w hw (bkN known s) As cs hs (.slice none 0 0) (.slice none 0 0) (.slice none 0 0) rfl rfl rfl none 0 [] (SlOf.nil _ _ _)) rfl ?_
 rintro _ M1 hm1 (⟨hnk, rfl⟩ | ⟨hok, x, rfl, hx⟩)
 ·(repeat (first | ((with_reducible refine Tr.step rfl ?_); (first | (refine xmQ ?_) | (refine xaQ ?_) | (refine xiQ ?_) | (refine xWQ ?_) | ((with_reducible refine Knd.alloc ?_); (refine Exec.alloc (tysOk.get rfl) rfl rfl (fun b => ?_))) | ((with_reducible refine Knd.extract ?_); (refine Exec.stab rfl (Stab.extract rfl rfl) rfl ?_)) | ((with_reducible refine Knd.build ?_); (refine Exec.stab rfl (Stab.build tysOk rfl rfl rfl rfl (by repeat (exact BuildP.nil))) rfl ?_)))) | (with_reducible first | apply Tr.next | apply Tr.seq | apply Tr.region | apply Tr.nil | apply Tr.ret | apply Tr.then_ret) | (refine Tr.cond_t rfl (by first | (with_reducible assumption) | omega) ?_)))
  (refine Tr.done (by first | exact .inl rfl | exact .inr rfl) rfl (by repeat (first | exact RVs.nil | (apply RVs.cons; (first | exact RV.tmp rfl | exact RV.cellW (by rfl) (tysOk.get (by rfl)) (by rfl) (by repeat (first | exact Has.here | apply Has.there)) (by first | rfl | assumption))))) (by first | exact Mem.le.refl _ | assumption) (by exact ⟨[_, _, _], rfl⟩) ⟨rfl, ?_⟩)
  exact .inl ⟨hnk, rfl⟩
 obtain ⟨y1, y2, y3, y4, y5, y6, y7, y8, rfl⟩ := hx.lit
 (repeat (first | ((with_reducible refine Tr.step rfl ?_); (first | (refine xmQ ?_) | (refine xaQ ?_) | (refine xiQ ?_) | (refine xWQ ?_) | ((with_reducible refine Knd.alloc ?_); (refine Exec.alloc (tysOk.get rfl) rfl rfl (fun b => ?_))) | ((with_reducible refine Knd.extract ?_); (refine Exec.stab rfl (Stab.extract rfl rfl) rfl ?_)))) | (with_reducible first | apply Tr.next | apply Tr.seq | apply Tr.region | apply Tr.nil | apply Tr.skip) | (refine Tr.cond_f rfl (by (with_reducible exact (not_not_intro rfl))) ?_)))
 ((refine Tr.step rfl ?_)); refine Exec.call0 rfl (rnumbers_fn M1 As none cs 0 s [] (hs.mono RSpC.mono hm1) (SlOf.nil _ _ _)) rfl ?_
 rintro _ _ _ ⟨⟨q, rfl, hq⟩, rfl⟩
 cases q with
 | false =>
  (repeat (first | ((with_reducible refine Tr.step rfl ?_); (first | (refine xaQ ?_) | ((with_reducible refine Knd.unOp ?_); (refine Exec.stab rfl (Stab.not rfl) rfl ?_)) | (refine xWQ ?_) | ((with_reducible refine Knd.build ?_); (refine Exec.stab rfl (Stab.build tysOk rfl rfl rfl rfl (by repeat (exact BuildP.nil))) rfl ?_)))) | (with_reducible first | apply Tr.next | apply Tr.seq | apply Tr.region | apply Tr.nil | apply Tr.ret | apply Tr.then_ret) | (refine Tr.cond_bt rfl (by first | (with_reducible rfl) | (with_reducible exact Bool.not_false)) ?_)))
  (refine Tr.done (by first | exact .inl rfl | exact .inr rfl) rfl (by repeat (first | exact RVs.nil | (apply RVs.cons; (first | exact RV.tmp rfl | exact RV.cellW (by rfl) (tysOk.get (by rfl)) (by rfl) (by repeat (first | exact Has.here | apply Has.there)) (by first | rfl | assumption))))) (by first | exact Mem.le.refl _ | assumption) (by exact ⟨[_, _, _], rfl⟩) ⟨rfl, ?_⟩)
  exact .inr (.inl ⟨hok, fun h => (by have := hq.2 ⟨h, List.nodup_nil⟩; cases this), rfl⟩)
 | true =>
  (refine rQ ?_)
  (refine Tr.done (by first | exact .inl rfl | exact .inr rfl) rfl (by repeat (first | exact RVs.nil | (apply RVs.cons; (first | exact RV.tmp rfl | exact RV.cellW (by rfl) (tysOk.get (by rfl)) (by rfl) (by repeat (first | exact Has.here | apply Has.there)) (by first | rfl | assumption))))) (by first | exact Mem.le.refl _ | assumption) (by exact ⟨[_, _, _], rfl⟩) ⟨rfl, ?_⟩)
  exact .inr (.inr ⟨hok, (hq.1 rfl).1, _, rfl, hx⟩)
end Go.Proofs.YtmikfjcdgkopkaaGreat

/-
 Matching: the contract of copyRows; rows of truth values that are owned, lent.
 Conditions: none.
-/
namespace Go.Proofs.YtmikfjcdgkopkaaGreat
open Go Bf
attribute [local irreducible] Tr Exec Stab HasTy Go.Addr.add IntKind.wrap
abbrev RowC := Option Addr × Nat × List Bool
def rowC (x : RowC) : Res := ownS 4 1 x.1 x.2.2.length x.2.1 (boV x.2.2)
def ptrC (l : List RowC) : List Value := l.map fun x => .slice x.1 x.2.2.length x.2.1
theorem ptrC_append (a b : List RowC) : ptrC (a ++ b) = ptrC a ++ ptrC b := by simp [ptrC]
@[simp] theorem ptrC_length (a : List RowC) : (ptrC a).length = a.length := by simp [ptrC]
theorem ptrC_one (l : List RowC) : ∀ u ∈ ptrC l, u.oneCell' = true := by
 intro u hu
 obtain ⟨x, _, rfl⟩ := List.mem_map.1 hu
 rfl
theorem boV_one (l : List Bool) : ∀ u ∈ boV l, u.oneCell' = true := by
 intro u hu
 obtain ⟨x, _, rfl⟩ := List.mem_map.1 hu
 rfl
theorem boV_elems (M : Mem) (l : List Bool) : Elems 1 RBo M (boV l) l := by
 refine ⟨by simp, fun i x hx => ?_⟩
 show _ = _
 rw [Nat.mul_one, List.take_one, List.head?_drop, boV_get hx]
 rfl
theorem boV_cells {M : Mem} {cells : List Value} {l : List Bool} (h : Elems 1 RBo M cells l) : cells = boV l := by
 apply List.ext_getElem?
 intro i
 have hl := h.1
 rw [Nat.mul_one] at hl
 by_cases hi : i < l.length
 ·have := h.2 i l[i] (by simp [hi])
  have e : cells[i]? = some (.bool l[i]) := by
   have : (cells.drop (i * 1)).take 1 = [.bool l[i]] := this
   rw [Nat.mul_one, List.take_one, List.head?_drop] at this
   cases hc : cells[i]? with
   | none => rw [hc] at this; cases this
   | some v => rw [hc] at this; simp at this; rw [this]
  rw [e, boV_get (x := l[i]) (by simp [hi])]
 ·rw [List.getElem?_eq_none (by omega), List.getElem?_eq_none (by simp; omega)]
theorem Bools.row {M : Mem} {A : Option Addr} {n c : Nat} {l : List Bool} (h : Bools M (.slice A n c) l) : Row M A l.length 1 (boV l) ∧ l.length ≤ c ∧ c ≤ 9223372036854775807 ∧ (A = none → l.length = 0) := by
 obtain ⟨cells, h1, h2, h3, h4, hr, he⟩ := h.cells
 exact ⟨boV_cells he ▸ hr, h2, h3, h4⟩
theorem rowsC_fits {M : Mem} {B : Option Addr} {k : Nat} {cs : List RowC} (h : (ownS 78 1 B cs.length k (ptrC cs)).ok M) (hk : k ≤ 9223372036854775807) (hm : (many (cs.map rowC)).ok M) (hc : ∀ x ∈ cs, x.2.1 ≤ 9223372036854775807) : Fits2 M (.slice B (cs.map (·.2.2)).length k) (cs.map (·.2.2)) := by
 refine SlOf.ofOwn h (by simp) hk ⟨by simp, fun i x hx => ?_⟩
 rw [List.getElem?_map] at hx
 cases hi : cs[i]? with
 | none => rw [hi] at hx; cases hx
 | some y =>
  rw [hi] at hx
  simp at hx
  subst hx
  have hy := List.mem_of_getElem? hi
  have hok : (rowC y).ok M := hm _ (List.mem_map_of_mem hy)
  refine ⟨y.1, y.2.1, ?_, SlOf.ofOwn hok rfl (hc y hy) (boV_elems M _)⟩
  rw [Nat.mul_one, List.take_one, List.head?_drop]
  simp [ptrC, hi]
set_option maxHeartbeats 4000000 in
theorem copyRows_fn (M : Mem) (A : Option Addr) (c : Nat) (l : List (List Bool)) (hl : Fits2 M (.slice A l.length c) l) (hs : l.length ≤ 64) (hr : ∀ r ∈ l, r.length ≤ 64) :
  Bf.Fn Tryz.prog 89 [.slice A l.length c] M [] (fun r M' A' => ∃ B k cs, r = .slice B l.length k ∧ k ≤ 9223372036854775807 ∧ cs.map (·.2.2) = l ∧ (∀ x ∈ cs, x.2.1 ≤ 9223372036854775807) ∧ M = M' ∧ A' = [ownS 78 1 B l.length k (ptrC cs), many (cs.map rowC)]) := by
 refine Fn.intro Tryz.func89 rfl rfl Tryz.ntmps89 rfl fun E F => ?_
 repeat (first | ((with_reducible refine Tr.step rfl ?_); (first | (refine xaQ ?_) | ((with_reducible refine Knd.buildSlice ?_); ((refine Exec.buildSlice (tysOk.get rfl) rfl (tysOk.get rfl) rfl rfl rfl rfl rfl (by repeat (exact BuildP.nil)) rfl (fun b => ?_)))))) | (with_reducible first | apply Tr.next | apply Tr.seq | apply Tr.region | apply Tr.nil | apply Tr.block))
 refine Tr.box_own 1 0 (by repeat (first | exact Upd.here | apply Upd.there)) rfl (by intro u hu; cases hu) (by simp [maxLen]) ?_
 refine Tr.many_new ?_
 refine Tr.loop (α := Nat × Option Addr × Nat × List RowC) (fun y => ⟨22, [(4, .int .i64 (y.1 : Int)), (3, .slice y.2.1 y.1 y.2.2.1), (0, .slice A l.length c)], [], M, many (y.2.2.2.map rowC) :: ownS 78 1 y.2.1 y.1 y.2.2.1 (ptrC y.2.2.2) :: ([] ++ F)⟩)
  (fun y => y.1 ≤ l.length ∧ y.2.2.1 ≤ 9223372036854775807 ∧ y.2.2.2.map (·.2.2) = l.take y.1 ∧ ∀ x ∈ y.2.2.2, x.2.1 ≤ 9223372036854775807) (fun y => l.length - y.1) (0, _, 0, []) ⟨Nat.zero_le _, by simp, rfl, by simp⟩ hsQ (fun y hy => ?_)
 obtain ⟨i, B, k, cs⟩ := y
 obtain ⟨hi, hk, hcs, hcap⟩ := hy
 simp only at hi hk hcs hcap
 dsimp only
 have hcl : cs.length = i := by
  have := congrArg List.length hcs
  simpa [Nat.min_eq_left hi] using this
 by_cases hin : i < l.length
 rotate_left
 ·have ei : i = l.length := by omega
  subst ei
  rw [List.take_length] at hcs
  refine rQ ?_
  refine ftQ (r := ownS 78 1 _ _ _ _) ?_
  refine Tr.doneA (A' := [ownS 78 1 B l.length k (ptrC cs), many (cs.map rowC)]) (by first | exact .inl rfl | exact .inr rfl) rfl (by repeat (first | exact RVs.nil | (apply RVs.cons; (exact RV.tmp rfl)))) (Mem.le.refl _) ⟨fun _ h => h, fun h => h⟩ ⟨B, k, cs, rfl, hk, hcs, hcap, rfl, rfl⟩
 obtain ⟨r, hr1⟩ := get_of_lt hin
 have hrl := hr r (List.mem_of_getElem? hr1)
 obtain ⟨hA, ch, hat, rB, rk, rfl, hB⟩ := hl.elem hr1
 have hBr := Bools.row hB
 repeat (first | ((with_reducible refine Tr.step rfl ?_); (first | (refine xmQ ?_) | (refine xMQ ?_) | (refine xnQ ?_) | (refine xiQ ?_) | (refine xxQ ?_) | ((with_reducible refine Knd.buildSlice ?_); ((refine Exec.buildSlice (tysOk.get rfl) rfl (tysOk.get rfl) rfl rfl rfl rfl rfl (by repeat (exact BuildP.nil)) rfl (fun b => ?_)))))) | (with_reducible first | apply Tr.next | apply Tr.seq | apply Tr.region | apply Tr.nil | apply Tr.skip | apply Tr.block) | (refine Tr.cond_t rfl (by first | (with_reducible assumption) | omega) ?_))
 refine Tr.box_own (e := 4) 1 0 (by repeat (first | exact Upd.here | apply Upd.there)) rfl (by intro u hu; cases hu) (by simp [maxLen]) ?_
 ((refine Tr.step rfl ?_))
 refine Exec.append (news := boV r) rfl rfl (tysOk.get rfl) rfl (tysOk.get rfl) rfl rfl rfl rfl (by repeat (first | exact Del.here | apply Del.there)) (Src.row hBr.1) (by simp) (boV_one _) (by omega) (by omega) rfl (fun A6 c6 hc6 => ?_)
 rw [zeros0_app, Nat.zero_add]
 refine Tr.many_add ?_
 rw [show cs.map rowC ++ [ownS 4 1 A6 r.length c6 (boV r)] = (cs ++ [(A6, c6, r)]).map rowC by simp [rowC]]
 repeat (((with_reducible refine Tr.step rfl ?_); (((with_reducible refine Knd.buildSlice ?_); ((refine Exec.buildSlice (tysOk.get rfl) rfl (tysOk.get rfl) rfl rfl rfl rfl rfl (by repeat (first | exact BuildP.nil | ((apply BuildP.one); (rfl); (rfl); (first | rfl | assumption); (repeat (first | exact SetL.z | apply SetL.s))))) rfl (fun b => ?_)))))))
 refine Tr.cells (cs' := ptrC [(A6, c6, r)]) (by repeat (first | exact Upd.here | apply Upd.there)) rfl ?_
 ((refine Tr.step rfl ?_))
 refine Exec.append (news := ptrC [(A6, c6, r)]) rfl rfl (tysOk.get rfl) rfl (tysOk.get rfl) rfl rfl rfl rfl (by repeat (first | exact Del.here | apply Del.there)) (Src.box (by repeat (first | exact Has.here | apply Has.there))) rfl (ptrC_one _) (by omega) (by omega) rfl (fun A7 c7 hc7 => ?_)
 rw [← ptrC_append]
 refine rQ ?_
 refine gvQ (r := box _ 78 _) ?_
 refine ftQ (r := many _) ?_
 refine Tr.again (i + 1, A7, c7, cs ++ [(A6, c6, r)]) ⟨by simp only; omega, hc7, by simp [hcs, List.take_add_one, hr1], fun x hx => ?_⟩ (by simp only; omega) hsQ
 rcases List.mem_append.1 hx with hx | hx
 ·exact hcap x hx
 ·simp at hx; subst hx; exact hc6
end Go.Proofs.YtmikfjcdgkopkaaGreat

/-
 Matching: the contract of the reference's Flow.
 Conditions: none.
-/
namespace Go.Proofs.YtmikfjcdgkopkaaGreat
open Go Bf
attribute [local irreducible] Tr Exec Stab HasTy Go.Addr.add IntKind.wrap
theorem RoomV.amount {can : List (List Bool)} {left op : List Int} (hv : Vld can left op) {p : Pb} {a : Nat → Nat → Int} (hmax : LexMax p a) {s r : Nat} (hR : Resid p a (pbOf can left op) s r) (hs : s < left.length) (hr : r < op.length) (hf : (can.getD s []).getD r false = true) {v : Int} (h : RoomV can left op s r (2 ^ op.length) v) : v = a s r ∧ 0 ≤ v := by
 have hn := hR.n
 have hm := hR.m
 have e : v = a s r := by
  refine hR.room hmax (by rw [← hn]; exact hs) (by rw [← hm]; exact hr) hf hv.sup0 hv.need0 h.l1 h.l2 (fun D hD ht => ?_) ?_
  ·rw [lackOf_bits hv]
   obtain ⟨b, b1, b2, b3⟩ := touches_iff.1 ht
   have b1' : b < op.length := b1
   have htb : (bitsOf D op.length).testBit b = true := by rw [bitsOf_bit]; simp [b1', b2]
   have h0 : bitsOf D op.length ≠ 0 := fun e => by rw [e] at htb; simp at htb
   refine h.le _ (by omega) (bitsOf_lt _ _) (by rw [bitsOf_bit, hD, Bool.and_false]) ?_
   rw [touch_bits hv hs]
   exact touches_iff.2 ⟨b, b1, htb, b3⟩
  ·rcases h.is with h | h | ⟨set, -, -, h1, h2, h3⟩
   ·exact .inl h
   ·exact .inr (.inl h)
   ·refine .inr (.inr ⟨fun b => set.testBit b, h1, ?_, by rw [h3, lackB_eq hv]⟩)
    rw [touch_bits hv hs] at h2
    exact h2
 refine ⟨e, ?_⟩
 rw [e]
 exact hmax.1.nn s (by rw [← hn]; exact hs) r (by rw [← hm]; exact Nat.le_of_lt hr)
theorem getD_setL {α : Type} {l : List α} {i : Nat} {v d : α} (h : i < l.length) (k : Nat) : (l.set i v).getD k d = if k = i then v else l.getD k d := by
 by_cases e : k = i
 ·subst e
  rw [if_pos rfl, List.getD_eq_getElem?_getD, List.getElem?_set_self h]; rfl
 ·rw [if_neg e, List.getD_eq_getElem?_getD, List.getElem?_set_ne (Ne.symm e), ← List.getD_eq_getElem?_getD]
theorem pbOf_after {can : List (List Bool)} {left op : List Int} (hv : Vld can left op) {s r : Nat} (hs : s < left.length) (hr : r < op.length) {row : List Bool} (hrow : can[s]? = some row) (v x y : Int) (hx : left[s]? = some x) (hy : op[r]? = some y) :
  pbOf (can.set s (row.set r false)) (left.set s (x - v)) (op.set r (y - v)) = afterP (pbOf can left op) s r v := by
 have hl := hv.lf
 have hrl := hv.rows row (List.mem_of_getElem? hrow)
 unfold pbOf afterP
 simp only [List.length_set]
 congr
 ·funext k b
  rw [getD_setL (by omega)]
  by_cases e : k = s
  ·subst e
   rw [if_pos rfl, getD_setL (by omega), getD_of (d := []) hrow]
   by_cases e2 : b = r
   ·simp [e2]
   ·simp [e2]
  ·simp [e]
 ·funext k
  rw [getD_setL hs]
  by_cases e : k = s
  ·subst e; rw [if_pos rfl, if_pos rfl, getD_of hx]
  ·rw [if_neg e, if_neg e]
 ·funext b
  rw [getD_setL hr]
  by_cases e : b = r
  ·subst e; rw [if_pos rfl, if_pos rfl, getD_of hy]
  ·rw [if_neg e, if_neg e]
theorem Vld.after {can : List (List Bool)} {left op : List Int} (hv : Vld can left op) {s r : Nat} {row : List Bool} (hrow : can[s]? = some row) {v x y : Int} (h0 : 0 ≤ v) (hx : left[s]? = some x) (hy : op[r]? = some y) (hvx : v ≤ x) (hvy : v ≤ y) : Vld (can.set s (row.set r false)) (left.set s (x - v)) (op.set r (y - v)) := by
 refine ⟨by simpa using hv.ls, by simpa using hv.ln, by simpa using hv.lf, fun q hq => ?_, fun z hz => ?_, fun z hz => ?_⟩
 ·rw [List.length_set]
  rcases List.mem_or_eq_of_mem_set hq with hq | rfl
  ·exact hv.rows q hq
  ·rw [List.length_set]; exact hv.rows row (List.mem_of_getElem? hrow)
 ·rcases List.mem_or_eq_of_mem_set hz with hz | rfl
  ·exact hv.rs z hz
  ·have := hv.rs x (List.mem_of_getElem? hx); omega
 ·rcases List.mem_or_eq_of_mem_set hz with hz | rfl
  ·exact hv.rn z hz
  ·have := hv.rn y (List.mem_of_getElem? hy); omega
theorem rowC_get {cs : List RowC} {i : Nat} {x : RowC} (h : cs[i]? = some x) : (cs.map rowC)[i]? = some (ownS 4 1 x.1 x.2.2.length x.2.1 (boV x.2.2)) := by simp [h, rowC]
theorem room_lend (M : Mem) (B1 B2 B3 : Option Addr) (k1 k2 k3 : Nat) (cs : List RowC) (left op : List Int) (hk1 : k1 ≤ 9223372036854775807) (hk2 : k2 ≤ 9223372036854775807) (hk3 : k3 ≤ 9223372036854775807) (hc : ∀ x ∈ cs, x.2.1 ≤ 9223372036854775807) (hv : Vld (cs.map (·.2.2)) left op) (hn62 : op.length ≤ 61) (s r : Nat) (hsl : s < left.length) (hrl : r < op.length) (hok : CallOk Tryz.prog 90) :
  Bf.Fn Tryz.prog 90 [.slice B3 cs.length k3, .slice B1 left.length k1, .slice B2 op.length k2, .int .i64 (s : Int), .int .i64 (r : Int)] M [ownS 78 1 B3 cs.length k3 (ptrC cs), many (cs.map rowC), ownS 3 1 B1 left.length k1 (intV left), ownS 3 1 B2 op.length k2 (intV op)]
   (fun x M' A' => A' = [ownS 78 1 B3 cs.length k3 (ptrC cs), many (cs.map rowC), ownS 3 1 B1 left.length k1 (intV left), ownS 3 1 B2 op.length k2 (intV op)] ∧ M = M' ∧ ∃ v, x = .int .i64 v ∧ RoomV (cs.map (·.2.2)) left op s r (2 ^ op.length) v) := by
 refine Fn.lend (R := fun x => ∃ v, x = .int .i64 v ∧ RoomV (cs.map (·.2.2)) left op s r (2 ^ op.length) v) hok (fun M' hm hk => ?_)
 have h1 := hk (ownS 78 1 B3 cs.length k3 (ptrC cs)) (by simp)
 have h2 := hk (many (cs.map rowC)) (by simp)
 have h3 := hk (ownS 3 1 B1 left.length k1 (intV left)) (by simp)
 have h4 := hk (ownS 3 1 B2 op.length k2 (intV op)) (by simp)
 have hf := rowsC_fits h1 hk3 h2 hc
 have := room_fn M' B3 B1 B2 k3 k1 k2 (cs.map (·.2.2)) left op hf (Ints.ofOwn h3 rfl hk1) (Ints.ofOwn h4 rfl hk2) hv hn62 s r hsl hrl
 rw [List.length_map] at this
 exact this
def FlowRa (fits : List (List Bool)) (sup need : List Int) (a : Nat → Nat → Int) (r : Value) (M' : Mem) : Prop :=
 (validF fits sup need = false ∧ r = .tuple #[.slice none 0 0, .bool false, .slice none 0 0, .int .i64 300]) ∨
 (Vld fits sup need ∧ ¬ Feas (pbOf fits sup need) ∧ ∃ B k, r = .tuple #[.slice none 0 0, .bool false, .slice B (memF (cutFin fits sup need) need.length).length k, .int .i64 0] ∧ Ints M' (.slice B (memF (cutFin fits sup need) need.length).length k) (memF (cutFin fits sup need) need.length)) ∨
 (Vld fits sup need ∧ Feas (pbOf fits sup need) ∧ ∃ A c, r = .tuple #[.slice A sup.length c, .bool true, .slice none 0 0, .int .i64 0] ∧ Ints2 M' (.slice A sup.length c) (allocOf a need.length sup.length))
end Go.Proofs.YtmikfjcdgkopkaaGreat

/-
 Matching: the reference's Flow walked.
 Conditions: none.
-/
namespace Go.Proofs.YtmikfjcdgkopkaaGreat
open Go Bf
attribute [local irreducible] Tr Exec Stab HasTy Go.Addr.add IntKind.wrap
theorem ptrC_set {cs : List RowC} {i : Nat} {x : RowC} (h : cs[i]? = some x) (row : List Bool) (hl : row.length = x.2.2.length) : ptrC (cs.set i (x.1, x.2.1, row)) = ptrC cs := by
 unfold ptrC
 rw [List.map_set]
 exact set_same (by simp [h, hl])
theorem rowOf_succ (a : Nat → Nat → Int) (m s : Nat) : (List.range (m + 1)).map (a s) = (List.range m).map (a s) ++ [a s m] := by simp [List.range_succ]
set_option maxHeartbeats 16000000 in
set_option maxRecDepth 20000 in
theorem rflow_fn (M : Mem) (A0 A1 A2 : Option Addr) (c0 c1 c2 : Nat) (fits : List (List Bool)) (sup need : List Int) (hf : Fits2 M (.slice A0 fits.length c0) fits) (hs : Ints M (.slice A1 sup.length c1) sup) (hn : Ints M (.slice A2 need.length c2) need) (hn61 : need.length ≤ 6 ∨ 64 < need.length) (a : Nat → Nat → Int) (hmax : Vld fits sup need → Feas (pbOf fits sup need) → LexMax (pbOf fits sup need) a) :
  Fn0 Tryz.prog 46 [.slice A0 fits.length c0, .slice A1 sup.length c1, .slice A2 need.length c2] M (fun r M' => FlowRa fits sup need a r M') := by
 refine Fn.intro Tryz.func46 rfl rfl Tryz.ntmps46 rfl fun E F => ?_
 refine rQ ?_
 ((refine Tr.step rfl ?_)); refine Exec.call0 rfl (rValid_fn M A0 A1 A2 c0 c1 c2 fits sup need hf hs hn) rfl ?_
 rintro _ _ _ ⟨rfl, rfl⟩
 cases hvv : validF fits sup need
 ·refine rQ ?_
  (refine dnQ (hL := by exact ⟨[], rfl⟩) ⟨rfl, ?_⟩)
  exact .inl ⟨hvv, rfl⟩
 have hv := vld_iff.1 hvv
 have l1 := hv.ls
 have l2 := hv.ln
 have l3 := hv.lf
 have hn62 : need.length ≤ 61 := by omega
 refine rQ ?_
 ((refine Tr.step rfl ?_)); refine Exec.call0 rfl (rcut_fn M A0 A1 A2 c0 c1 c2 fits sup need hf hs hn hv hn62) rfl ?_
 rintro _ M1 hm1 (⟨hposs, rfl⟩ | ⟨hposs, B, k, rfl, hI⟩)
 rotate_left
 ·refine rQ ?_
  (refine dnQ (hL := by exact ⟨[], rfl⟩) ⟨rfl, ?_⟩)
  rw [← memF_bits hv] at hI ⊢
  exact .inr (.inl ⟨hv, fun h => hposs ((feas_poss hv).1 h), B, k, rfl, hI⟩)
 have hfe := (feas_poss hv).2 hposs
 have hmx := hmax hv hfe
 refine rQ ?_
 ((refine Tr.step rfl ?_))
 refine Exec.call (A := []) rfl (copyInts_fn M1 A1 c1 sup (hs.mono RI.mono hm1) (by omega)) (List.Perm.refl _) rfl ?_
 rintro _ _ _ _ ⟨B1, k1, rfl, hk1, rfl, rfl⟩
 refine rQ ?_
 ((refine Tr.step rfl ?_))
 refine Exec.call (A := []) rfl (copyInts_fn M1 A2 c2 need (hn.mono RI.mono hm1) (by omega)) (List.Perm.refl _) rfl ?_
 rintro _ _ _ _ ⟨B2, k2, rfl, hk2, rfl, rfl⟩
 refine rQ ?_
 ((refine Tr.step rfl ?_))
 refine Exec.call (A := []) rfl (copyRows_fn M1 A0 c0 fits (hf.mono RRowB.mono hm1) (by omega) (fun r hr => by rw [hv.rows r hr]; exact l2)) (List.Perm.refl _) rfl ?_
 rintro _ _ _ _ ⟨B3, k3, cs, rfl, hk3, hcs, hcap, rfl, rfl⟩
 repeat (first | ((with_reducible refine Tr.step rfl ?_); (first | (refine xaQ ?_) | ((with_reducible refine Knd.buildSlice ?_); ((refine Exec.buildSlice (tysOk.get rfl) rfl (tysOk.get rfl) rfl rfl rfl rfl rfl (by repeat (exact BuildP.nil)) rfl (fun b => ?_)))))) | (with_reducible first | apply Tr.next | apply Tr.seq | apply Tr.region | apply Tr.nil | apply Tr.block))
 refine Tr.box_own (e := 32) 1 0 (by repeat (first | exact Upd.here | apply Upd.there)) rfl (by intro u hu; cases hu) (by simp [maxLen]) ?_
 have hrok : 0 < sup.length → 0 < need.length → CallOk Tryz.prog 90 := fun h1 h2 => clone_ok _ _ _ _ _ _ (room_fn M A0 A1 A2 c0 c1 c2 fits sup need hf hs hn hv hn62 0 0 h1 h2)
 have hcl : cs.length = fits.length := by rw [← hcs]; simp
 simp only [List.cons_append, List.nil_append, List.append_eq]
 refine Tr.loop (α := Nat × List RowC × List Int × List Int × Mem × Option Addr × Nat × List Value) (fun y => ⟨100, [(16, .int .i64 (y.1 : Int)), (15, .slice y.2.2.2.2.2.1 y.1 y.2.2.2.2.2.2.1), (14, .slice B3 fits.length k3), (13, .slice B2 need.length k2), (12, .slice B1 sup.length k1), (1, .slice A1 sup.length c1), (2, .slice A2 need.length c2)], [], y.2.2.2.2.1, ownS 32 1 y.2.2.2.2.2.1 y.1 y.2.2.2.2.2.2.1 y.2.2.2.2.2.2.2 :: ownS 78 1 B3 fits.length k3 (ptrC y.2.1) :: many (y.2.1.map rowC) :: ownS 3 1 B2 need.length k2 (intV y.2.2.2.1) :: ownS 3 1 B1 sup.length k1 (intV y.2.2.1) :: F⟩)
  (fun y => y.1 ≤ sup.length ∧ y.2.1.length = fits.length ∧ (∀ x ∈ y.2.1, x.2.1 ≤ 9223372036854775807) ∧ y.2.2.1.length = sup.length ∧ y.2.2.2.1.length = need.length ∧ Vld (y.2.1.map (·.2.2)) y.2.2.1 y.2.2.2.1 ∧ Resid (pbOf fits sup need) a (pbOf (y.2.1.map (·.2.2)) y.2.2.1 y.2.2.2.1) y.1 0 ∧ Mem.le M1 y.2.2.2.2.1 ∧ y.2.2.2.2.2.2.1 ≤ 9223372036854775807 ∧ Elems 1 RRowI y.2.2.2.2.1 y.2.2.2.2.2.2.2 (allocOf a need.length y.1)) (fun y => sup.length - y.1) (0, cs, sup, need, M1, _, 0, _) ⟨Nat.zero_le _, hcl, hcap, rfl, rfl, by simp only [hcs]; exact hv, by simp only [hcs]; exact Resid.start hmx.1, Mem.le.refl _, by simp, Elems.nil⟩ hsQ (fun y hy => ?_)
 clear hcs hcap hcl
 obtain ⟨s, cs, left, op, M2, A6, c6, cells⟩ := y
 obtain ⟨hi, hcl, hcap, hll, hol, hvl, hres, hM, hc6, hel⟩ := hy
 simp only at hi hcl hcap hll hol hvl hres hM hc6 hel
 dsimp only
 have hcel : cells.length = s := by have := hel.1; simpa using this
 by_cases hin : s < sup.length
 rotate_left
 ·have ei : s = sup.length := by omega
  subst ei
  refine rQ ?_
  refine pbQ (r := ownS 32 1 A6 _ _ _) (fun M3 hm3 hok => ?_)
  have hfin := (hm1.trans hM).trans hm3
  have hI : Ints2 M3 (.slice A6 (allocOf a need.length sup.length).length c6) (allocOf a need.length sup.length) := SlOf.ofOwn hok (by simp) hc6 (hel.mono RRowI.mono hm3)
  rw [allocOf_length] at hI
  (refine dnQ (hL := by exact ⟨[_, _, _, _], rfl⟩) ⟨rfl, ?_⟩)
  exact .inr (.inr ⟨hv, hfe, A6, c6, rfl, hI⟩)
 repeat (first | ((with_reducible refine Tr.step rfl ?_); (first | (refine xmQ ?_) | (refine xaQ ?_) | (refine xnQ ?_) | (refine xiQ ?_) | ((with_reducible refine Knd.buildSlice ?_); ((refine Exec.buildSlice (tysOk.get rfl) rfl (tysOk.get rfl) rfl rfl rfl rfl rfl (by repeat (exact BuildP.nil)) rfl (fun b => ?_)))))) | (with_reducible first | apply Tr.next | apply Tr.seq | apply Tr.region | apply Tr.nil | apply Tr.skip | apply Tr.block) | (refine Tr.cond_t rfl (by first | (with_reducible assumption) | omega) ?_))
 refine Tr.box_own (e := 3) 1 0 (by repeat (first | exact Upd.here | apply Upd.there)) rfl (by intro u hu; cases hu) (by simp [maxLen]) ?_
 refine Tr.loop (α := Nat × List RowC × List Int × List Int × Option Addr × Nat) (fun y => ⟨100, [(18, .int .i64 (y.1 : Int)), (17, .slice y.2.2.2.2.1 y.1 y.2.2.2.2.2), (16, .int .i64 (s : Int)), (15, .slice A6 s c6), (14, .slice B3 fits.length k3), (13, .slice B2 need.length k2), (12, .slice B1 sup.length k1), (1, .slice A1 sup.length c1), (2, .slice A2 need.length c2)], [], M2, ownS 3 1 y.2.2.2.2.1 y.1 y.2.2.2.2.2 (intV ((List.range y.1).map (a s))) :: ownS 32 1 A6 s c6 cells :: ownS 78 1 B3 fits.length k3 (ptrC y.2.1) :: many (y.2.1.map rowC) :: ownS 3 1 B2 need.length k2 (intV y.2.2.2.1) :: ownS 3 1 B1 sup.length k1 (intV y.2.2.1) :: F⟩)
  (fun y => y.1 ≤ need.length ∧ y.2.1.length = fits.length ∧ (∀ x ∈ y.2.1, x.2.1 ≤ 9223372036854775807) ∧ y.2.2.1.length = sup.length ∧ y.2.2.2.1.length = need.length ∧ Vld (y.2.1.map (·.2.2)) y.2.2.1 y.2.2.2.1 ∧ Resid (pbOf fits sup need) a (pbOf (y.2.1.map (·.2.2)) y.2.2.1 y.2.2.2.1) s y.1 ∧ y.2.2.2.2.2 ≤ 9223372036854775807) (fun y => need.length - y.1) (0, cs, left, op, _, 0) ⟨Nat.zero_le _, hcl, hcap, hll, hol, hvl, hres, by simp⟩ hsQ (fun y hy => ?_)
 clear hcl hcap hll hol hvl hres
 obtain ⟨r, cs, left, op, A7, c7⟩ := y
 obtain ⟨hr, hcl, hcap, hll, hol, hvl, hres, hc7⟩ := hy
 simp only at hr hcl hcap hll hol hvl hres hc7
 dsimp only
 have hrl : ((List.range r).map (a s)).length = r := by simp
 by_cases hrn : r < need.length
 rotate_left
 ·have er : r = need.length := by omega
  subst er
  repeat (first | ((with_reducible refine Tr.step rfl ?_); (first | (refine xmQ ?_) | (refine xnQ ?_) | (refine xiQ ?_) | ((with_reducible refine Knd.buildSlice ?_); ((refine Exec.buildSlice (tysOk.get rfl) rfl (tysOk.get rfl) rfl rfl rfl rfl rfl (by repeat (first | exact BuildP.nil | ((apply BuildP.one); (rfl); (rfl); (first | rfl | assumption); (repeat (first | exact SetL.z | apply SetL.s))))) rfl (fun b => ?_)))))) | (with_reducible first | apply Tr.next | apply Tr.seq | apply Tr.region | apply Tr.nil | apply Tr.exit | apply Tr.then_exit) | ((with_reducible refine Tr.in_exit ?_ ?_); (exact rfl)) | (refine Tr.cond_f rfl (by first | (with_reducible assumption) | omega) ?_))
  refine pbQ (r := ownS 3 1 A7 _ _ _) (fun M3 hm3 hok => ?_)
  have hI : Ints M3 (.slice A7 (rowOf a need.length s).length c7) (rowOf a need.length s) := Ints.ofOwn hok (by simp) hc7
  repeat (fail)
  refine Tr.cells (cs' := [.slice A7 need.length c7]) (by repeat (first | exact Upd.here | apply Upd.there)) rfl ?_
  ((refine Tr.step rfl ?_))
  refine Exec.append (A := A6) (news := [.slice A7 need.length c7]) rfl rfl (tysOk.get rfl) rfl (tysOk.get rfl) rfl rfl rfl rfl (by repeat (first | exact Del.here | apply Del.there)) (Src.box (by repeat (first | exact Has.here | apply Has.there))) rfl (by intro u hu; simp at hu; subst hu; rfl) (by omega) (by omega) rfl (fun A8 c8 hc8 => ?_)
  have hel2 : Elems 1 RRowI M3 (cells ++ [.slice A7 need.length c7]) (allocOf a need.length (s + 1)) := by
   rw [allocOf_succ]
   exact (hel.mono RRowI.mono hm3).append (Elems.one rfl ⟨A7, c7, by rw [rowOf_length], hI⟩)
  refine rQ ?_
  refine gvQ (r := box _ 32 [_]) ?_
  refine Tr.again (s + 1, cs, left, op, M3, A8, c8, cells ++ [.slice A7 need.length c7]) ⟨by simp only; omega, hcl, hcap, hll, hol, hvl, hres.row, hM.trans hm3, hc8, hel2⟩ (by simp only; omega) hsQ
 obtain ⟨x, hx⟩ := get_of_lt (xs := cs) (i := s) (by omega)
 obtain ⟨xA, xc, row⟩ := x
 have hrow : (cs.map (·.2.2))[s]? = some row := by simp [hx]
 have hrowl := hvl.rows row (List.mem_of_getElem? hrow)
 obtain ⟨f, hfx⟩ := get_of_lt (xs := row) (i := r) (by omega)
 have hfb := boV_get hfx
 have hfd : ((cs.map (·.2.2)).getD s []).getD r false = f := by rw [getD_of (d := []) hrow, getD_of (d := false) hfx]
 have hp' : (ptrC cs)[s]? = some (.slice xA row.length xc) := by simp [ptrC, hx]
 obtain ⟨lv, hlv⟩ := get_of_lt (xs := left) (i := s) (by omega)
 obtain ⟨ov, hov⟩ := get_of_lt (xs := op) (i := r) (by omega)
 have hlvv := intV_get hlv
 have hovv := intV_get hov
 have hlr := hvl.rs lv (List.mem_of_getElem? hlv)
 have hor := hvl.rn ov (List.mem_of_getElem? hov)
 refine Tr.own_some B3 (by repeat (first | exact Has.here | apply Has.there)) (by omega) (fun hB3 => ?_)
 refine Tr.many_out (by repeat (first | exact Del.here | apply Del.there)) (rowC_get hx) ?_
 dsimp only
 refine Tr.own_some xA (by repeat (first | exact Has.here | apply Has.there)) (by omega) (fun hxA => ?_)
 cases f
 ·have h0 := hres.zero hin hrn hfd
  repeat (first | ((with_reducible refine Tr.step rfl ?_); (first | (refine xmQ ?_) | (refine xaQ ?_) | ((with_reducible refine Knd.load ?_); ((refine Exec.stab rfl (Stab.loadO rfl (tysOk.get rfl) rfl (by repeat (first | exact Has.here | apply Has.there)) (by assumption)) rfl ?_))) | (refine xnQ ?_) | (refine xiQ ?_) | (refine xxQ ?_) | ((with_reducible refine Knd.buildSlice ?_); ((refine Exec.buildSlice (tysOk.get rfl) rfl (tysOk.get rfl) rfl rfl rfl rfl rfl (by repeat (first | exact BuildP.nil | ((apply BuildP.one); (rfl); (rfl); (first | rfl | assumption); (repeat (first | exact SetL.z | apply SetL.s))))) rfl (fun b => ?_)))))) | (with_reducible first | apply Tr.next | apply Tr.seq | apply Tr.region | apply Tr.nil | apply Tr.skip | apply Tr.block) | (refine Tr.cond_bf rfl (by (with_reducible rfl)) ?_) | (refine Tr.cond_t rfl (by first | (with_reducible assumption) | omega) ?_))
  refine Tr.cells (cs' := [.int .i64 (a s r)]) (by repeat (first | exact Upd.here | apply Upd.there)) (by rw [h0]; rfl) ?_
  ((refine Tr.step rfl ?_))
  refine Exec.append (A := A7) (news := [.int .i64 (a s r)]) rfl rfl (tysOk.get rfl) rfl (tysOk.get rfl) rfl rfl rfl rfl (by repeat (first | exact Del.here | apply Del.there)) (Src.box (by repeat (first | exact Has.here | apply Has.there))) rfl (by intro u hu; simp at hu; subst hu; rfl) (by omega) (by omega) rfl (fun A8 c8 hc8 => ?_)
  rw [show intV ((List.range r).map (a s)) ++ [.int .i64 (a s r)] = intV ((List.range (r + 1)).map (a s)) by rw [rowOf_succ, intV_append]; rfl]
  refine rQ ?_
  refine gvQ (r := box _ 3 [_]) ?_
  refine ftQ (r := many _) ?_
  refine ftQ (r := ownS 4 1 _ _ _ _) ?_
  refine Tr.many_in (rowC_get hx) ?_
  rw [set_same (rowC_get hx)]
  refine ftQ (r := ownS 78 1 _ _ _ _) ?_
  refine ftQ (r := ownS 32 1 _ _ _ _) ?_
  refine ftQ (r := ownS 3 1 A8 _ _ _) ?_
  refine Tr.again (r + 1, cs, left, op, A8, c8) ⟨by simp only; omega, hcl, hcap, hll, hol, hvl, hres.skip hin hrn hfd, hc8⟩ (by simp only; omega) hsQ
 have hrm := room_lend M2 B1 B2 B3 k1 k2 k3 cs left op hk1 hk2 hk3 hcap hvl (by omega) s r (by omega) (by omega) (hrok (by omega) (by omega))
 rw [hcl, hll, hol] at hrm
 repeat (first | ((with_reducible refine Tr.step rfl ?_); (first | (refine xmQ ?_) | (refine xaQ ?_) | ((with_reducible refine Knd.load ?_); ((refine Exec.stab rfl (Stab.loadO rfl (tysOk.get rfl) rfl (by repeat (first | exact Has.here | apply Has.there)) (by assumption)) rfl ?_))) | (refine xnQ ?_) | (refine xiQ ?_) | (refine xxQ ?_))) | (with_reducible first | apply Tr.next | apply Tr.seq | apply Tr.region | apply Tr.nil | apply Tr.skip | apply Tr.block) | (refine Tr.cond_bt rfl (by (with_reducible rfl)) ?_) | (refine Tr.cond_t rfl (by first | (with_reducible assumption) | omega) ?_))
 refine Tr.many_in (rowC_get hx) ?_
 rw [set_same (rowC_get hx)]
 refine ftQ (r := ownS 3 1 B2 _ _ _) ?_
 refine ftQ (r := ownS 3 1 B1 _ _ _) ?_
 refine ftQ (r := many _) ?_
 refine ftQ (r := ownS 78 1 _ _ _ _) ?_
 ((refine Tr.step rfl ?_))
 refine Exec.call (A := [ownS 78 1 B3 fits.length k3 (ptrC cs), many (cs.map rowC), ownS 3 1 B1 sup.length k1 (intV left), ownS 3 1 B2 need.length k2 (intV op)]) rfl hrm (List.Perm.refl _) rfl ?_
 rintro _ _ _ _ ⟨rfl, rfl, v, rfl, hRV⟩
 rw [← hol] at hRV
 obtain ⟨hva, hv0⟩ := hRV.amount hvl hmx hres (by omega) (by omega) hfd
 have g1 := hRV.l1
 have g2 := hRV.l2
 rw [getD_of hlv] at g1
 rw [getD_of hov] at g2
 have hnew : (cs.set s (xA, xc, row.set r false)).map (·.2.2) = (cs.map (·.2.2)).set s (row.set r false) := by rw [List.map_set]
 have hvl2 := hvl.after hrow hv0 hlv hov g1 g2 (r := r)
 have hres2 := hres.step hin hrn hfd
 rw [← hva, ← pbOf_after hvl (by omega) (by omega) hrow v lv ov hlv hov, ← hnew] at hres2
 rw [← hnew] at hvl2
 have hptr := ptrC_set hx (row.set r false) (by simp)
 simp only at hptr
 have hbl : (boV row).length = need.length := by simp; omega
 have hill : (intV left).length = sup.length := by simp [hll]
 have hiol : (intV op).length = need.length := by simp [hol]
 refine Tr.own_some B1 (by repeat (first | exact Has.here | apply Has.there)) (by omega) (fun hB1 => ?_)
 refine Tr.own_some B2 (by repeat (first | exact Has.here | apply Has.there)) (by omega) (fun hB2 => ?_)
 simp only [List.cons_append, List.nil_append]
 refine Tr.many_out (by repeat (first | exact Del.here | apply Del.there)) (rowC_get hx) ?_
 dsimp only
 repeat (first | ((with_reducible refine Tr.step rfl ?_); (first | (refine xmQ ?_) | (refine xaQ ?_) | ((with_reducible refine Knd.load ?_); ((refine Exec.stab rfl (Stab.loadO rfl (tysOk.get rfl) rfl (by repeat (first | exact Has.here | apply Has.there)) (by assumption)) rfl ?_))) | ((with_reducible refine Knd.binOp ?_); ((refine Exec.stab rfl (Stab.subi rfl rfl (by omega)) rfl ?_))) | ((with_reducible refine Knd.store ?_); ((refine Exec.storeO rfl rfl (tysOk.get rfl) rfl (by first | rfl | assumption) (by repeat (first | exact Upd.here | apply Upd.there)) (by omega) ?_))) | (refine xxQ ?_) | ((with_reducible refine Knd.buildSlice ?_); ((refine Exec.buildSlice (tysOk.get rfl) rfl (tysOk.get rfl) rfl rfl rfl rfl rfl (by repeat (first | exact BuildP.nil | ((apply BuildP.one); (rfl); (rfl); (first | rfl | assumption); (repeat (first | exact SetL.z | apply SetL.s))))) rfl (fun b => ?_)))))) | (with_reducible first | apply Tr.next | apply Tr.seq | apply Tr.region | apply Tr.nil))
 rw [boV_set, intV_set, intV_set, Int.toNat_natCast r, Int.toNat_natCast s]
 refine Tr.cells (cs' := [.int .i64 (a s r)]) (by repeat (first | exact Upd.here | apply Upd.there)) (by rw [← hva]; rfl) ?_
 ((refine Tr.step rfl ?_))
 refine Exec.append (A := A7) (news := [.int .i64 (a s r)]) rfl rfl (tysOk.get rfl) rfl (tysOk.get rfl) rfl rfl rfl rfl (by repeat (first | exact Del.here | apply Del.there)) (Src.box (by repeat (first | exact Has.here | apply Has.there))) rfl (by intro u hu; simp at hu; subst hu; rfl) (by omega) (by omega) rfl (fun A8 c8 hc8 => ?_)
 rw [show intV ((List.range r).map (a s)) ++ [.int .i64 (a s r)] = intV ((List.range (r + 1)).map (a s)) by rw [rowOf_succ, intV_append]; rfl]
 refine rQ ?_
 refine gvQ (r := box _ 3 [_]) ?_
 refine ftQ (r := many _) ?_
 refine ftQ (r := ownS 4 1 _ _ _ _) ?_
 refine Tr.many_in (rowC_get hx) ?_
 rw [show (cs.map rowC).set s (ownS 4 1 xA row.length xc (boV (row.set r false))) = (cs.set s (xA, xc, row.set r false)).map rowC by rw [List.map_set]; simp [rowC], ← hptr]
 refine ftQ (r := ownS 3 1 B1 _ _ _) ?_
 refine ftQ (r := ownS 3 1 B2 _ _ _) ?_
 refine ftQ (r := many _) ?_
 refine ftQ (r := ownS 78 1 _ _ _ _) ?_
 refine ftQ (r := ownS 32 1 _ _ _ _) ?_
 refine ftQ (r := ownS 3 1 A8 _ _ _) ?_
 refine Tr.again (r + 1, cs.set s (xA, xc, row.set r false), left.set s (lv - v), op.set r (ov - v), A8, c8) ⟨by simp only; omega, by simpa using hcl, fun x hx' => ?_, by simpa using hll, by simpa using hol, hvl2, hres2, hc8⟩ (by simp only; omega) hsQ
 rcases List.mem_or_eq_of_mem_set hx' with hx' | rfl
 ·exact hcap x hx'
 ·have h9 := hcap _ (List.mem_of_getElem? hx)
  exact h9
end Go.Proofs.YtmikfjcdgkopkaaGreat

/-
 There is a greatest allocation, if there is one. Plain.
 Conditions: none.
-/
namespace Go.Proofs.YtmikfjcdgkopkaaGreat
open Go Bf
def bef (i j i' j' : Nat) : Prop := i' < i ∨ (i' = i ∧ j' < j)
structure UptoX (p : Pb) (i j : Nat) (a : Nat → Nat → Int) : Prop where
 flow : Flow p a fun _ => 0
 max : ∀ a', (Flow p a' fun _ => 0) → ∀ i', i' < p.n → ∀ j', j' < p.m → bef i j i' j' → (∀ k, k < i' → ∀ b, b < p.m → a' k b = a k b) → (∀ b, b < j' → a' i' b = a i' b) → a' i' j' ≤ a i' j'
theorem greatest {α : Type} (S : α → Prop) (f : α → Int) (B : Int) (hB : ∀ x, S x → f x ≤ B) (h : ∃ x, S x) : ∃ x, S x ∧ ∀ y, S y → f y ≤ f x := by
 obtain ⟨x0, h0⟩ := h
 obtain ⟨m, ⟨x, hx, e⟩, hm⟩ := least (p := fun m => ∃ x, S x ∧ (B - f x).toNat = m) ⟨_, x0, h0, rfl⟩
 refine ⟨x, hx, fun y hy => ?_⟩
 have h1 := hm _ ⟨y, hy, rfl⟩
 have h2 := hB x hx
 have h3 := hB y hy
 omega
theorem UptoX.next {p : Pb} {i j : Nat} {a : Nat → Nat → Int} (h : UptoX p i j a) (hi : i < p.n) (hj : j < p.m) : ∃ b, UptoX p i (j + 1) b := by
 obtain ⟨b, ⟨hf, hag⟩, hmax⟩ := greatest (fun b : Nat → Nat → Int => (Flow p b fun _ => 0) ∧ ∀ i', i' < p.n → ∀ j', j' < p.m → bef i j i' j' → b i' j' = a i' j') (fun b => b i j) (p.sup i) (fun b hb => by
   have h1 := hb.1.row i hi
   have h2 := sumN_le_of_mem (f := b i) (n := p.m + 1) (fun q hq => hb.1.nn i hi q (by omega)) (show j < p.m + 1 by omega)
   omega) ⟨a, h.flow, fun _ _ _ _ _ => rfl⟩
 refine ⟨b, hf, fun a' ha' i' hi' j' hj' hb' h1 h2 => ?_⟩
 by_cases c : i' = i ∧ j' = j
 ·obtain ⟨rfl, rfl⟩ := c
  refine hmax a' ⟨ha', fun i2 hi2 j2 hj2 hb2 => ?_⟩
  rw [← hag i2 hi2 j2 hj2 hb2]
  rcases hb2 with q | ⟨rfl, q⟩
  ·exact h1 i2 q j2 hj2
  ·exact h2 j2 q
 ·have hb2 : bef i j i' j' := by
   rcases hb' with q | ⟨q1, q2⟩
   ·exact .inl q
   ·exact .inr ⟨q1, by omega⟩
  rw [hag i' hi' j' hj' hb2]
  refine h.max a' ha' i' hi' j' hj' hb2 (fun k hk q hq => ?_) (fun q hq => ?_)
  ·rw [h1 k hk q hq]
   refine hag k (by omega) q hq ?_
   rcases hb2 with z | ⟨z1, z2⟩
   ·exact .inl (by omega)
   ·exact .inl (by omega)
  ·rw [h2 q hq]
   refine hag i' hi' q (by omega) ?_
   rcases hb2 with z | ⟨z1, z2⟩
   ·exact .inl z
   ·exact .inr ⟨z1, by omega⟩
theorem upto_row {p : Pb} {i : Nat} (hi : i < p.n) (h : ∃ a, UptoX p i 0 a) : ∀ j, j ≤ p.m → ∃ a, UptoX p i j a
 | 0, _ => h
 | j + 1, hj => by
  obtain ⟨a, ha⟩ := upto_row hi h j (by omega)
  exact ha.next hi (by omega)
theorem upto_all {p : Pb} (h : Feas p) : ∀ i, i ≤ p.n → ∃ a, UptoX p i 0 a
 | 0, _ => by
  obtain ⟨a, ha⟩ := h
  refine ⟨a, ha, fun a' _ i' _ j' _ hb => ?_⟩
  rcases hb with q | ⟨q1, q2⟩ <;> omega
 | i + 1, hi => by
  obtain ⟨a, ha⟩ := upto_row (i := i) (by omega) (upto_all h i (by omega)) p.m (Nat.le_refl _)
  refine ⟨a, ha.flow, fun a' ha' i' hi' j' hj' hb => ha.max a' ha' i' hi' j' hj' ?_⟩
  rcases hb with q | ⟨q1, q2⟩
  ·by_cases e : i' = i
   ·exact .inr ⟨e, hj'⟩
   ·exact .inl (by omega)
  ·omega
theorem lexmax_ex {p : Pb} (h : Feas p) : ∃ a, LexMax p a := by
 obtain ⟨a, ha⟩ := upto_all h p.n (Nat.le_refl _)
 exact ⟨a, ha.flow, fun a' ha' i hi j hj h1 h2 => ha.max a' ha' i hi j hj (.inl hi) h1 h2⟩
end Go.Proofs.YtmikfjcdgkopkaaGreat

