/-
  Texts of the proof, one after the other.
  Conditions: none.
-/
import Derived.Test.YtlifjajcmnkhfaaGreatUBfSl
import Derived.Test.YtlifjajcmnkhfaaGreatUXs
import Derived.Test.YtlifjajcmnkhfaaGreatUe
/-
 The reference's refusals: the keys that exclude.
 Conditions: none.
-/
namespace Go.Proofs.YtlifjajcmnkhfaaGreat
open Go Bf
attribute [local irreducible] Tr Exec Stab HasTy Go.Addr.add IntKind.wrap
set_option maxHeartbeats 32000000 in
set_option maxRecDepth 20000 in
theorem rexcl_fn (M : Mem) (ws : List Value) (w : Wd) (hw : RWd M ws w) (v : Value) (k : Bp) (hk : RBp M v k) (r : Rq) (hok : okT k.sups (k.reqs ++ [r])) :
  Fn0 Tryz.prog 15 [.agg ws.toArray, v, .agg #[.int .i64 r.no, .int .i64 r.item, .int .i64 r.cust, .int .i64 r.due, .int .i64 r.shelf, .int .i64 r.amount]] M (fun v M' => ∃ A c, v = .slice A (exclB w k r).length c ∧ SlOf 3 RKy M' (.slice A (exclB w k r).length c) (exclB w k r)) := by
 have h11 := hw.len
 have hk0 := hk
 obtain ⟨As, cs, Ar, cr, Af, cf, Ad, cd, rfl, h1, h2, h3, h4⟩ := hk
 have hw0 := hw
 obtain ⟨u0, u1, u2, u3, u4, u5, u6, u8, u9, A7, c7, A10, c10, rfl, -, hsw, hfa⟩ := hw.lit
 have hrl : k.reqs.length ≤ 64 := by have := hok.1.2; rw [List.length_append] at this; omega
 refine Fn.intro Tryz.func15 rfl rfl Tryz.ntmps15 rfl fun E F => ?_
 (repeat (first | ((with_reducible refine Tr.step rfl ?_); (first | (refine xaQ ?_) | ((with_reducible refine Knd.box ?_); (refine Exec.box rfl rfl (fun b => ?_))))) | (with_reducible first | apply Tr.next | apply Tr.seq | apply Tr.region | apply Tr.nil)))
 rename_i b3 b4
 generalize b = b5
 (((apply Tr.draw); (kernel_rfl)); (refine tkQ 0 (hB := by exact fun _ h => h) (s := by exact swQ) ?_); (refine tkQ 1 (s := by exact sfQ) ?_); (refine tkQ 3 (s := by exact swQ) ?_); (refine tkQ 4 (s := by exact swQ) ?_); (refine tkQ 6 (s := by exact sfQ) ?_); (refine tkQ 2 (s := by exact slQ) ?_); (refine tkQ 7 (s := by exact slQ) ?_); (refine TrA.eff 5 rfl (by kernel_rfl) (by exact .inl rfl) ?_))
 refine Exec.call0 rfl (rwith32_fn M k r _ hk0 (by omega)) rfl ?_
 rintro _ M1 hm1 ⟨A8, c8, rfl, hR⟩
 refine ⟨hm1, (by exact fun _ h => h), ?_⟩
 ((refine TrA.eff 8 rfl (by kernel_rfl) (by exact .inl rfl) ?_))
 refine Exec.call0 rfl (rtable_fn M1 _ w (hw0.mono hm1) As A8 cs c8 k.sups (k.reqs ++ [r]) k.known (h1.mono RSpC.mono hm1) hR) rfl ?_
 rintro _ M2 hm2 (⟨hnk, -⟩ | ⟨-, A5, c5, B5, k5, rfl, hf, hrd⟩)
 ·exact absurd hok hnk
 refine ⟨hm2, (by exact fun _ h => h), ?_⟩
 have hm02 := hm1.trans hm2
 ((refine tkQ 9 (s := by exact Stab.move rfl) ?_); (refine tkQ 10 (s := by exact Stab.extract rfl rfl) ?_); (refine tkQ 11 (s := by exact Stab.extract rfl rfl) ?_); (refine tkQ 12 (s := by exact Stab.extract rfl rfl) ?_); (refine tkQ 13 (s := by exact Stab.assign rfl) ?_); (refine tkQ 14 (s := by exact Stab.assign rfl) ?_); (refine tkQ 15 (s := by exact Stab.assign rfl) ?_); (refine TrA.done (by kernel_rfl) ?_))
 have hrdl := readsF_len (w := w) hok
 have hexB : exclB w k r = exclT w k.known (readsF w k.sups (k.reqs ++ [r])) (readsF w k.sups (k.reqs ++ [r])).length := by rw [exclT, List.take_length]; rfl
 rw [hexB]
 generalize readsF w k.sups (k.reqs ++ [r]) = rd at hrd hrdl ⊢
 refine gvQ (r := box b5 _ _) ?_
 replace hfa := hfa.mono RFc.mono hm02
 (refine rQ ?_)
 refine Tr.own_nil 64 3 ?_
 refine Tr.loop (α := Nat × Option Addr × Nat) (fun y => ⟨75, [(11, .int .i64 (y.1 : Int)), (10, .slice y.2.1 (exclT w k.known rd y.1).length y.2.2), (8, .slice B5 rd.length k5), (3, .pointer (some ⟨b3, 0, none⟩)), (4, .pointer (some ⟨b4, 0, none⟩))], [], M2, ownS 64 3 y.2.1 (exclT w k.known rd y.1).length y.2.2 ((exclT w k.known rd y.1).flatMap kyC) :: box b4 44 [.int .i64 k.known, .slice As k.sups.length cs, .slice Ar k.reqs.length cr, .slice Af k.fits.length cf, .slice Ad k.rds.length cd] :: box b3 38 [u0, u1, u2, u3, u4, u5, u6, .slice A7 w.swaps.length c7, u8, u9, .slice A10 w.facts.length c10] :: ([] ++ F)⟩)
  (fun y => y.1 ≤ rd.length ∧ y.2.2 ≤ 9223372036854775807) (fun y => rd.length - y.1) (0, none, 0) ⟨Nat.zero_le _, by simp⟩ hsQ (fun y hy => ?_)
 obtain ⟨i, C, cc⟩ := y
 obtain ⟨hi, hcc⟩ := hy
 simp only at hi hcc
 dsimp only
 by_cases hlt : i < rd.length
 rotate_left
 ·have ei : i = rd.length := by omega
  subst ei
  refine pbQ (r := ownS 64 3 C _ _ _) (fun M6 hm6 hok6 => ?_)
  have hC : SlOf 3 RKy M6 (.slice C (exclT w k.known rd rd.length).length cc) (exclT w k.known rd rd.length) := SlOf.ofOwn hok6 rfl hcc (kyC_elems _ _)
  have hm06 := hm02.trans hm6
  (refine rQ ?_)
  (refine dnQ (hL := by exact ⟨[_, _], rfl⟩) ⟨rfl, ?_⟩)
  exact ⟨_, _, rfl, hC⟩
 obtain ⟨y, hyi⟩ := get_of_lt hlt
 obtain ⟨hA, ch, hat, rfl⟩ := hrd.elem hyi
 simp only [rdC] at hat
 have hat0 : At M2 (((B5.getD default).add (i * 5)).add 0) [.int .i64 y.1.1, .int .i64 y.1.2.1, .int .i64 y.1.2.2] := (hat.drop 0).take 3
 have hat3 : At M2 (((B5.getD default).add (i * 5)).add 3) [.int .i64 y.2.1] := (hat.drop 3).take 1
 have hexl := exclT_len (w := w) (known := k.known) (l := rd) i
 have href : refusedF w y k.known = decide (atF w.facts y.1 y.2.1 k.known = some 1) := rfl
 (refine rQ ?_)
 (((apply Tr.draw); (kernel_rfl)); (refine tkQ 0 (hB := by exact fun _ h => h) (s := by exact sfQ) ?_); (refine tkQ 2 (s := by exact Stab.move rfl) ?_); (refine tkQ 3 (s := by exact Stab.move rfl) ?_); (refine tkQ 7 (s := by exact Stab.move rfl) ?_); (refine tkQ 8 (s := by exact Stab.move rfl) ?_); (refine tkQ 12 (s := by exact sfQ) ?_); (refine tkQ 1 (s := by exact slQ) ?_); (refine tkQ 4 (s := by exact sxQ) ?_); (refine tkQ 9 (s := by exact sxQ) ?_); (refine tkQ 13 (s := by exact slQ) ?_); (refine tkQ 5 (s := by exact Stab.fieldD rfl (tysOk.get rfl) rfl rfl (tysOk.get rfl) rfl) ?_); (refine tkQ 10 (s := by exact Stab.fieldD rfl (tysOk.get rfl) rfl rfl (tysOk.get rfl) rfl) ?_); (refine tkQ 6 (s := by exact Stab.loadMA rfl (tysOk.get rfl) rfl (by assumption) (by first | rfl | assumption)) ?_); (refine tkQ 11 (s := by exact sMQ) ?_); (refine TrA.eff 14 rfl (by kernel_rfl) (by exact .inl rfl) ?_))
 refine Exec.call0 rfl (rat_fn M2 A10 c10 w.facts y.1 y.2.1 k.known hfa) rfl ?_
 rintro _ _ _ ⟨rfl, rfl⟩
 refine ⟨Mem.le.refl _, (by exact fun _ h => h), ?_⟩
 cases ha : atF w.facts y.1 y.2.1 k.known with
 | none =>
  simp only [Option.isSome_none, Option.getD_none]
  ((refine tkQ 15 (s := by exact Stab.move rfl) ?_); (refine tkQ 16 (s := by exact Stab.extract rfl rfl) ?_); (refine tkQ 17 (s := by exact Stab.extract rfl rfl) ?_); (refine tkQ 18 (s := by exact Stab.assign rfl) ?_); (refine tkQ 19 (s := by exact Stab.assign rfl) ?_); (refine TrA.done (by kernel_rfl) ?_))
  (refine rQ ?_)
  refine Tr.again (i + 1, C, cc) ⟨by simp only; omega, hcc⟩ (by simp only; omega) (by simp only [exclT_no hyi (show refusedF w y k.known = false by rw [href, ha]; rfl)]; exact hsQ)
 | some n =>
  simp only [Option.isSome_some, Option.getD_some]
  ((refine tkQ 15 (s := by exact Stab.move rfl) ?_); (refine tkQ 16 (s := by exact Stab.extract rfl rfl) ?_); (refine tkQ 17 (s := by exact Stab.extract rfl rfl) ?_); (refine tkQ 18 (s := by exact Stab.assign rfl) ?_); (refine tkQ 19 (s := by exact Stab.assign rfl) ?_); (refine TrA.done (by kernel_rfl) ?_))
  by_cases hn : n = 1
  rotate_left
  ·(refine rQ ?_)
   refine Tr.again (i + 1, C, cc) ⟨by simp only; omega, hcc⟩ (by simp only; omega) (by simp only [exclT_no hyi (show refusedF w y k.known = false by rw [href, ha]; simp [hn])]; exact hsQ)
  have hyes := exclT_yes hyi (show refusedF w y k.known = true by rw [href, ha]; simp [hn])
  generalize hX : exclT w k.known rd i = X at hyes hexl ⊢
  (refine rQ ?_)
  ((refine Tr.guard_y rfl rfl rfl (by (with_reducible assumption)) ?_))
  refine Exec.call (A := [ownS 64 3 C X.length cc (X.flatMap kyC)]) rfl (hasKy2_lend M2 C cc hcc X y.1) (take1 (by repeat (first | exact Del.here | apply Del.there))) rfl ?_
  rintro _ _ _ _ ⟨rfl, rfl, rfl⟩
  by_cases hin : y.1 ∈ X
  ·rw [decide_eq_true hin]
   rw [addK, if_pos hin] at hyes
   (refine rQ ?_)
   refine Tr.again (i + 1, C, cc) ⟨by simp only; omega, hcc⟩ (by simp only; omega) (by simp only [hyes]; exact hsQ)
  ·rw [decide_eq_false hin]
   rw [addK, if_neg hin] at hyes
   (repeat (first | ((with_reducible refine Tr.step rfl ?_); (first | (refine xmQ ?_) | ((with_reducible refine Knd.load ?_); (refine Exec.stab rfl (Stab.loadMA rfl (tysOk.get rfl) rfl (by assumption) (by first | rfl | assumption)) rfl ?_)) | ((with_reducible refine Knd.fieldAddr ?_); (refine Exec.stab rfl (Stab.fieldD rfl (tysOk.get rfl) rfl rfl (tysOk.get rfl) rfl) rfl ?_)) | ((with_reducible refine Knd.pick ?_); (refine Exec.stab rfl (Stab.pick_td rfl (by (with_reducible assumption)) rfl) rfl ?_)) | (refine xxQ ?_) | ((with_reducible refine Knd.buildSlice ?_); (refine Exec.buildSlice (tysOk.get rfl) rfl (tysOk.get rfl) rfl rfl rfl rfl rfl (by repeat (first | exact BuildP.nil | ((apply BuildP.many); (rfl); (rfl); (rfl); (rfl); (repeat (first | exact PutL.nil | ((apply PutL.cons); (repeat (first | exact SetL.z | apply SetL.s)))))))) rfl (fun b => ?_))))) | (with_reducible first | apply Tr.next | apply Tr.region | apply Tr.nil) | ((refine Tr.guard_y rfl rfl rfl (by (with_reducible assumption)) ?_); (with_reducible refine Knd.unOp ?_); (refine Exec.stab rfl (Stab.not rfl) rfl ?_)) | (refine Tr.cond_bt rfl (by first | (with_reducible rfl) | (with_reducible exact Bool.not_false)) ?_)))
   ((refine Tr.step rfl ?_))
   refine Exec.append (news := kyC y.1) rfl rfl (tysOk.get rfl) rfl (tysOk.get rfl) rfl rfl rfl rfl (by repeat (first | exact Del.here | apply Del.there)) (Src.box (by repeat (first | exact Has.here | apply Has.there))) rfl (kyC_one _) (by omega) (by omega) rfl (fun C2 cc2 hcc2 => ?_)
   refine gvQ (r := box _ 64 _) ?_
   rw [show X.flatMap kyC ++ kyC y.1 = (X ++ [y.1]).flatMap kyC by rw [List.flatMap_append]; simp, show X.length + 1 = (X ++ [y.1]).length by simp]
   (refine rQ ?_)
   refine Tr.again (i + 1, C2, cc2) ⟨by simp only; omega, hcc2⟩ (by simp only; omega) (by simp only [hyes]; exact hsQ)
end Go.Proofs.YtlifjajcmnkhfaaGreat

/-
 Refusals: the law RefusalsKeys.
 Conditions: none.
-/
namespace Go.Proofs.YtlifjajcmnkhfaaGreat
open Go Bf
attribute [local irreducible] Tr Exec Stab HasTy Go.Addr.add IntKind.wrap
theorem zerosL_none (z l : List Value) : zerosL z 0 ++ l = l := rfl
theorem fact_nil {w : Wd} {k : Bp} {r : Rq} (h : factF w k r = []) (hn : ¬ Feas (pbW w k.known k.sups (k.reqs ++ [r]))) : ¬ meetK w k r (exclB w k r) := fun hm => by
 have e : factF w k r = cutK (meetK w k r) (exclB w k r).length (exclB w k r) := by unfold factF; exact if_pos hm
 have h2 := cutK_ok (P := meetK w k r) (exclB w k r).length hm
 rw [← e, h] at h2
 unfold meetK at h2
 rw [withoutF_nil] at h2
 exact hn h2
theorem fact_pos {w : Wd} {k : Bp} {r : Rq} (h : factF w k r ≠ []) : meetK w k r (exclB w k r) ∧ factF w k r = cutK (meetK w k r) (exclB w k r).length (exclB w k r) := by
 by_cases hm : meetK w k r (exclB w k r)
 ·exact ⟨hm, by unfold factF; exact if_pos hm⟩
 ·exact absurd (by unfold factF; exact if_neg hm) h
theorem fact_ok {w : Wd} {k : Bp} {r : Rq} (h : factF w k r ≠ []) : meetK w k r (factF w k r) := by
 obtain ⟨h1, h2⟩ := fact_pos h
 rw [h2]
 exact cutK_ok _ h1
theorem fact_min {w : Wd} {k : Bp} {r : Rq} (h : factF w k r ≠ []) (j : Nat) (hj : j < (factF w k r).length) : ¬ meetK w k r ((factF w k r).eraseIdx j) := by
 obtain ⟨h1, h2⟩ := fact_pos h
 have := cutK_min (P := meetK w k r) (fun a c hac ha => meetK_mono hac ha) (exclB w k r).length (l := exclB w k r) (fun j h3 h4 => absurd h4 (by omega)) j
 rw [← h2] at this
 exact this hj
theorem fact_kind {w : Wd} {k : Bp} {r : Rq} {x : Ky} (h : x ∈ factF w k r) : x.1 = 7 := by
 have hne : factF w k r ≠ [] := fun e => by rw [e] at h; cases h
 obtain ⟨-, h2⟩ := fact_pos hne
 rw [h2] at h
 obtain ⟨y, hy, -, rfl⟩ := mem_exclF.1 ((cutK_sub _).subset h)
 obtain ⟨s, -, z, -, -, rfl⟩ := mem_readsF.1 hy
 rfl
theorem fact_len {w : Wd} {k : Bp} {r : Rq} (h : factF w k r ≠ []) (hok : okT k.sups (k.reqs ++ [r])) : (factF w k r).length ≤ 4096 := by
 obtain ⟨-, h2⟩ := fact_pos h
 rw [h2]
 refine Nat.le_trans (cutK_sub _).length_le ?_
 have h3 := exclT_len (w := w) (known := k.known) (l := readsF w k.sups (k.reqs ++ [r])) (readsF w k.sups (k.reqs ++ [r])).length
 rw [exclT, List.take_length] at h3
 have h4 := readsF_len (w := w) hok
 unfold exclB
 omega
set_option maxHeartbeats 32000000 in
set_option maxRecDepth 20000 in
theorem keyslaw_fn (M : Mem) (ws : List Value) (w : Wd) (hw : RWd M ws w) (v : Value) (k : Bp) (hk : RBp M v k) (r : Rq) :
  Fn0 Tryz.prog 4 [.agg ws.toArray, v, .agg #[.int .i64 r.no, .int .i64 r.item, .int .i64 r.cust, .int .i64 r.due, .int .i64 r.shelf, .int .i64 r.amount]] M (fun v _ => v = .bool true) := by
 have h11 := hw.len
 obtain ⟨As, cs, Ar, cr, Af, cf, Ad, cd, rfl, h1, h2, h3, h4⟩ := id hk
 refine Fn.intro Tryz.func4 rfl rfl Tryz.ntmps4 rfl fun E F => ?_
 (repeat (first | ((with_reducible refine Tr.step rfl ?_); (first | (refine xaQ ?_) | ((with_reducible refine Knd.box ?_); (refine Exec.box rfl rfl (fun b => ?_))))) | (with_reducible first | apply Tr.next | apply Tr.seq | apply Tr.region | apply Tr.nil)))
 rename_i b3 b4
 generalize b = b5
 ((refine Tr.step rfl ?_)); refine Exec.call0 rfl (sane_fn M) rfl ?_
 rintro _ M1 hm1 rfl
 (repeat (first | ((with_reducible refine Tr.step rfl ?_); (first | ((with_reducible refine Knd.load ?_); (first | (refine xwQ ?_) | (refine Exec.stab rfl (Stab.loadW rfl (tysOk.get rfl) rfl (by repeat (first | exact Has.here | apply Has.there)) (by assumption)) rfl ?_))) | ((with_reducible refine Knd.unOp ?_); (refine Exec.stab rfl (Stab.not rfl) rfl ?_)))) | (with_reducible first | apply Tr.next | apply Tr.seq | apply Tr.region | apply Tr.nil | apply Tr.skip) | (refine Tr.cond_bf rfl (by first | (with_reducible rfl) | (with_reducible exact Bool.not_true)) ?_)))
 ((refine Tr.step rfl ?_)); refine Exec.call0 rfl (few32_fn M1 ws w (hw.mono hm1) _ k (hk.mono hm1)) rfl ?_
 rintro _ _ hm ⟨⟨q, rfl, hq⟩, rfl⟩
 cases q
 ·(refine rQ ?_)
  (refine dnQ (hL := by exact ⟨[_, _, _], rfl⟩) ⟨rfl, ?_⟩)
  rfl
 have hq := hq rfl
 have hfa := hq.fa
 have hrl := hq.rl
 have hsl := hq.sl
 clear hq hm
 (repeat (first | ((with_reducible refine Tr.step rfl ?_); (first | ((with_reducible refine Knd.load ?_); (first | (refine xwQ ?_) | (refine Exec.stab rfl (Stab.loadW rfl (tysOk.get rfl) rfl (by repeat (first | exact Has.here | apply Has.there)) (by assumption)) rfl ?_))) | ((with_reducible refine Knd.unOp ?_); (refine Exec.stab rfl (Stab.not rfl) rfl ?_)))) | (with_reducible first | apply Tr.next | apply Tr.seq | apply Tr.region | apply Tr.nil | apply Tr.skip) | (refine Tr.cond_bf rfl (by first | (with_reducible rfl) | (with_reducible exact Bool.not_true)) ?_)))
 ((refine Tr.step rfl ?_)); refine Exec.call0 rfl (facts_fn M1 ws w (hw.mono hm1) (by omega) _ k (hk.mono hm1) r) rfl ?_
 rintro _ M2 hm2 (⟨hne, rfl⟩ | ⟨-, -, -, rfl⟩ | ⟨hask, hv, hnF, B, kk, rfl, hB⟩)
 all_goals have hm02 := hm1.trans hm2
 ·(refine rQ ?_)
  (refine dnQ (hL := by exact ⟨[_, _, _], rfl⟩) ⟨rfl, ?_⟩)
  rfl
 ·(refine rQ ?_)
  (refine dnQ (hL := by exact ⟨[_, _, _], rfl⟩) ⟨rfl, ?_⟩)
  rfl
 obtain ⟨-, -, hokT⟩ := askE_zero hask
 have hrow := SlOf.row (R := RRqC) (h2.mono RRqC.mono hm02) (fun _ _ h => h) rqC_len
 (refine rQ ?_)
 (((apply Tr.draw); (kernel_rfl)); (refine tkQ 1 (hB := by exact fun _ h => h) (s := by exact sfQ) ?_); (refine tkQ 4 (s := by exact swQ) ?_); (refine tkQ 2 (s := by exact slQ) ?_))
 ((refine TrM.start2 _ (PA.build 0 [] rfl (by exact .inl rfl) (tysOk.get rfl) rfl (tysOk.get rfl) rfl rfl rfl rfl rfl (by repeat (exact BuildP.nil)) rfl) (PA.build1 5 [(40, .agg #[.int .i64 r.no, .int .i64 r.item, .int .i64 r.cust, .int .i64 r.due, .int .i64 r.shelf, .int .i64 r.amount])] rfl (by exact .inl rfl) rfl (tysOk.get rfl) rfl (tysOk.get rfl) rfl rfl rfl rfl rfl (by first | rfl | assumption) rfl) (by kernel_rfl) (by kernel_rfl) (by kernel_rfl) ?_); (refine TrM.settle (by kernel_rfl) (by repeat (first | exact PendOk.nil | refine PendOk.cons rfl (by repeat (first | exact SubFr.nil | refine SubFr.cons rfl ?_)) ?_)) (by exact fun _ h => h) (fun b => ?_)); dsimp only)
 refine TrM.box_own 6 0 (by repeat (first | exact Upd.here | apply Upd.there)) rfl (by intro u hu; cases hu) (by simp [maxLen]) ?_
 ((refine TrM.eff 3 rfl (by kernel_rfl) (by exact .inl rfl) (by repeat (first | exact PendOk.nil | refine PendOk.cons rfl (by repeat (first | exact SubFr.nil | refine SubFr.cons rfl ?_)) ?_)) (by exact (Sub.mem (by repeat (first | exact Sub.refl | apply Sub.cons)))) (by repeat (first | apply AppF.cons | exact AppF.nil)) (by repeat (first | apply AppF.cons | exact AppF.app)) (fun Y X => ?_)))
 refine Exec.append (news := k.reqs.flatMap rqC) rfl rfl (tysOk.get rfl) rfl (tysOk.get rfl) rfl rfl rfl rfl (by repeat (first | exact Del.here | apply Del.there)) (Src.row hrow) (by rw [flatMap_len rqC_len]) (flatMap_one rqC_one _) (by omega) (by omega) rfl (fun A6 c6 hc6 => ?_)
 (refine ⟨_, _, (by repeat (first | apply App.cons | exact App.nil | exact App.app)), (by repeat (first | apply App.cons | exact App.nil | exact App.app)), rfl, (by first | exact Mem.le.refl _ | assumption), (by exact (Sub.mem (by repeat (first | exact Sub.refl | apply Sub.cons)))), ?_⟩)
 rw [zeros0_app, Nat.zero_add]
 ((refine TrM.settle (by kernel_rfl) (by repeat (first | exact PendOk.nil | refine PendOk.cons rfl (by repeat (first | exact SubFr.nil | refine SubFr.cons rfl ?_)) ?_)) (by exact (Sub.mem (by repeat (first | exact Sub.refl | apply Sub.cons)))) (fun b => ?_)); dsimp only)
 ((refine TrM.eff 6 rfl (by kernel_rfl) (by exact .inl rfl) (by repeat (exact PendOk.nil)) (by exact (Sub.mem (by repeat (first | exact Sub.refl | apply Sub.cons)))) (by repeat (first | apply AppF.cons | exact AppF.nil)) (by repeat (first | apply AppF.cons | exact AppF.app)) (fun Y X => ?_)))
 refine Exec.append (news := rqC r) rfl rfl (tysOk.get rfl) rfl (tysOk.get rfl) rfl rfl rfl rfl (by repeat (first | exact Del.here | apply Del.there)) (Src.box (by repeat (first | exact Has.here | apply Has.there))) rfl (rqC_one _) (by omega) (by omega) rfl (fun A8 c8 hc8 => ?_)
 (refine ⟨_, _, (by repeat (first | apply App.cons | exact App.nil | exact App.app)), (by repeat (first | apply App.cons | exact App.nil | exact App.app)), rfl, (by first | exact Mem.le.refl _ | assumption), (by exact (Sub.mem (by repeat (first | exact Sub.refl | apply Sub.cons)))), ?_⟩)
 rw [show k.reqs.flatMap rqC ++ rqC r = (k.reqs ++ [r]).flatMap rqC by rw [List.flatMap_append]; simp, show k.reqs.length + 1 = (k.reqs ++ [r]).length by simp]
 refine TrM.publish (x := ownS 46 6 _ _ _ _) (by repeat (first | exact Del.here | apply Del.there)) (fun M3 hm3 hok3 => ?_)
 have hR3 : SlOf 6 RRqC M3 (.slice A8 (k.reqs ++ [r]).length c8) (k.reqs ++ [r]) := SlOf.ofOwn hok3 rfl hc8 (rqC_elems _ _)
 ((refine TrM.fin ?_))
 ((refine tkQ 7 (s := by exact Stab.assign rfl) ?_); (refine TrA.done (by kernel_rfl) ?_))
 have hm03 := hm02.trans hm3
 refine gvQ (r := box _ 46 _) ?_
 have hB3 := hB.mono RKy.mono hm3
 have hmeet : ∀ ks, meetK w k r ks ↔ Feas (pbW (withoutF w ks) k.known k.sups (k.reqs ++ [r])) := fun ks => Iff.rfl
 by_cases h0 : factF w k r = []
 ·have hno := fact_nil h0 hnF
  rw [h0, List.length_nil]
  (refine rQ ?_)
  (((apply Tr.draw); (kernel_rfl)); (refine tkQ 0 (hB := by exact fun _ h => h) (s := by exact Stab.loadW rfl (tysOk.get rfl) rfl (by repeat (first | exact Has.here | apply Has.there)) (by assumption)) ?_); (refine tkQ 1 (s := by exact Stab.loadW rfl (tysOk.get rfl) rfl (by repeat (first | exact Has.here | apply Has.there)) (by assumption)) ?_); (refine tkQ 2 (s := by exact swQ) ?_); (refine tkQ 3 (s := by exact swQ) ?_); (refine tkQ 6 (s := by exact sfQ) ?_); (refine tkQ 8 (s := by exact Stab.move rfl) ?_); (refine tkQ 9 (s := by exact sfQ) ?_); (refine tkQ 7 (s := by exact slQ) ?_); (refine tkQ 10 (s := by exact slQ) ?_); (refine TrA.eff 4 rfl (by kernel_rfl) (by exact .inl rfl) ?_))
  refine Exec.call0 rfl (rexcl_fn M3 ws w (hw.mono hm03) _ k (hk.mono hm03) r hokT) rfl ?_
  rintro _ M4 hm4 ⟨C, cc, rfl, hC⟩
  refine ⟨hm4, (by exact fun _ h => h), ?_⟩
  have hm04 := hm03.trans hm4
  ((refine TrA.eff 5 rfl (by kernel_rfl) (by exact .inl rfl) ?_))
  refine Exec.call0 rfl (rwithout_fn M4 ws w (hw.mono hm04) C cc _ hC (by omega)) rfl ?_
  rintro _ M5 hm5 ⟨ws', rfl, hw'⟩
  refine ⟨hm5, (by exact fun _ h => h), ?_⟩
  have hm05 := hm04.trans hm5
  ((refine TrA.eff 11 rfl (by kernel_rfl) (by exact .inl rfl) ?_))
  refine Exec.call0 rfl (meet_fn M5 ws' _ hw' As A8 cs c8 k.sups (k.reqs ++ [r]) k.known (h1.mono RSpC.mono hm05) (hR3.mono RRqC.mono (hm4.trans hm5)) hokT) rfl ?_
  rintro _ M6 hm6 ⟨p, rfl, hp⟩
  refine ⟨hm6, (by exact fun _ h => h), ?_⟩
  have hpf : p = false := by
   cases p with
   | false => rfl
   | true => exact absurd (hp.1 rfl) hno
  subst hpf
  have hm06 := hm05.trans hm6
  ((refine tkQ 12 (s := by exact Stab.move rfl) ?_); (refine tkQ 13 (s := by exact Stab.extract rfl rfl) ?_); (refine tkQ 14 (s := by exact Stab.extract rfl rfl) ?_); (refine tkQ 15 (s := by exact Stab.assign rfl) ?_); (refine tkQ 16 (s := by exact Stab.assign rfl) ?_); (refine TrA.done (by kernel_rfl) ?_))
  (refine rQ ?_)
  (refine dnQ (hL := by exact ⟨[_, _, _], rfl⟩) ⟨rfl, ?_⟩)
  rfl
 have hyes := fact_ok h0
 have hmin := fact_min h0
 have hkind : ∀ x ∈ factF w k r, x.1 = 7 := fun x hx => fact_kind hx
 have hpos : 0 < (factF w k r).length := List.length_pos_iff.2 h0
 have hKb := fact_len h0 hokT
 clear h0
 generalize factF w k r = K at hB3 hyes hmin hkind hpos hKb ⊢
 have hKl := hB3.len_le
 (refine rQ ?_)
 (((apply Tr.draw); (kernel_rfl)); (refine tkQ 0 (hB := by exact fun _ h => h) (s := by exact Stab.loadW rfl (tysOk.get rfl) rfl (by repeat (first | exact Has.here | apply Has.there)) (by assumption)) ?_); (refine tkQ 1 (s := by exact Stab.move rfl) ?_); (refine tkQ 3 (s := by exact sfQ) ?_); (refine tkQ 5 (s := by exact Stab.move rfl) ?_); (refine tkQ 6 (s := by exact sfQ) ?_); (refine tkQ 4 (s := by exact slQ) ?_); (refine tkQ 7 (s := by exact slQ) ?_); (refine TrA.eff 2 rfl (by kernel_rfl) (by exact .inl rfl) ?_))
 refine Exec.call0 rfl (rwithout_fn M3 ws w (hw.mono hm03) B kk K hB3 (by omega)) rfl ?_
 rintro _ M4 hm4 ⟨ws', rfl, hw'⟩
 refine ⟨hm4, (by exact fun _ h => h), ?_⟩
 have hm04 := hm03.trans hm4
 ((refine TrA.eff 8 rfl (by kernel_rfl) (by exact .inl rfl) ?_))
 refine Exec.call0 rfl (meet_fn M4 ws' _ hw' As A8 cs c8 k.sups (k.reqs ++ [r]) k.known (h1.mono RSpC.mono hm04) (hR3.mono RRqC.mono hm4) hokT) rfl ?_
 rintro _ M5 hm5 ⟨p, rfl, hp⟩
 refine ⟨hm5, (by exact fun _ h => h), ?_⟩
 obtain rfl := hp.2 hyes
 have hm05 := hm04.trans hm5
 have hm35 := hm4.trans hm5
 ((refine tkQ 9 (s := by exact Stab.move rfl) ?_); (refine tkQ 10 (s := by exact Stab.extract rfl rfl) ?_); (refine tkQ 11 (s := by exact Stab.extract rfl rfl) ?_); (refine tkQ 12 (s := by exact Stab.assign rfl) ?_); (refine tkQ 13 (s := by exact Stab.assign rfl) ?_); (refine TrA.done (by kernel_rfl) ?_))
 clear hw' hp
 (refine rQ ?_)
 refine Tr.loop (α := Nat × Mem) (fun y => ⟨125, [(86, .int .i64 (y.1 : Int)), (85, .int .i64 (K.length : Int)), (7, .slice B K.length kk), (9, .slice A8 (k.reqs ++ [r]).length c8), (3, .pointer (some ⟨b3, 0, none⟩)), (4, .pointer (some ⟨b4, 0, none⟩))], [], y.2, box b5 46 [.int .i64 r.no, .int .i64 r.item, .int .i64 r.cust, .int .i64 r.due, .int .i64 r.shelf, .int .i64 r.amount] :: box b4 44 [.int .i64 k.known, .slice As k.sups.length cs, .slice Ar k.reqs.length cr, .slice Af k.fits.length cf, .slice Ad k.rds.length cd] :: box b3 38 ws :: ([] ++ F)⟩)
  (fun y => y.1 ≤ K.length ∧ M5.le y.2) (fun y => K.length - y.1) (0, M5) ⟨Nat.zero_le _, Mem.le.refl _⟩ hsQ (fun y hy => ?_)
 obtain ⟨i, M6⟩ := y
 obtain ⟨hi, hm56⟩ := hy
 simp only at hi hm56
 dsimp only
 have hm06 := hm05.trans hm56
 have hK6 := hB3.mono RKy.mono (hm35.trans hm56)
 have hcap := SlOf.cells hK6
 by_cases hlt : i < K.length
 ·obtain ⟨cells, -, hc1, hc2, hc3, -, -⟩ := hcap
  obtain ⟨x, hx⟩ := get_of_lt hlt
  have hx7 := hkind x (List.mem_of_getElem? hx)
  have hp := SlOf.row (R := RKy) (SlOf.pre hK6 (k := i) (m := kk) (by omega) (by omega) (Nat.le_refl _)) (fun _ _ h => h) kyC_len
  rw [List.length_take, Nat.min_eq_left hi] at hp
  have hs := SlOf.row (R := RKy) (SlOf.sub hK6 (l := i + 1) (k := K.length) (m := kk) (by omega) (Nat.le_refl _) hc1 (Nat.le_refl _)) (fun _ _ h => h) kyC_len
  rw [List.take_of_length_le (by simp), List.length_drop] at hs
  have et : ((i : Int) + 1).toNat = i + 1 := by omega
  have hs : Row M6 (if kk = ((i : Int) + 1).toNat then B else B.map (·.add (((i : Int) + 1).toNat * 3))) (K.length - ((i : Int) + 1).toNat) 3 ((K.drop (i + 1)).flatMap kyC) := by rw [et]; exact hs
  have hel : (K.eraseIdx i).length = i + (K.length - ((i : Int) + 1).toNat) := by rw [List.length_eraseIdx_of_lt hlt, et]; omega
  (refine rQ ?_)
  (((apply Tr.draw); (kernel_rfl)); (refine tkQ 1 (hB := by exact fun _ h => h) (s := by exact Stab.move rfl) ?_); (refine tkQ 2 (s := by exact Stab.move rfl) ?_); (refine tkQ 5 (s := by exact Stab.move rfl) ?_); (refine tkQ 6 (s := by exact Stab.move rfl) ?_); (refine tkQ 3 (s := by exact Stab.slice_h rfl rfl (tysOk.get rfl) rfl (tysOk.get rfl) (by omega) (by omega)) ?_); (refine tkQ 7 (s := by exact Stab.addi rfl rfl (by omega)) ?_); (refine tkQ 8 (s := by exact Stab.slice_l rfl rfl (tysOk.get rfl) rfl (tysOk.get rfl) rfl (by omega) (by omega)) ?_); (refine TrA.eff 0 rfl (by kernel_rfl) (by exact .inl rfl) ?_); (((refine Knd.buildSlice ?_); ((refine Exec.buildSlice (tysOk.get rfl) rfl (tysOk.get rfl) rfl rfl rfl rfl rfl (by repeat (exact BuildP.nil)) rfl (fun b => ?_))))); (refine ⟨(by first | exact Mem.le.refl _ | assumption), (by exact (Sub.mem (by repeat (first | exact Sub.refl | apply Sub.cons)))), ?_⟩))
  refine TrA.via (fun X h => Tr.box_own 3 0 (by repeat (first | exact Upd.here | apply Upd.there)) rfl (by intro u hu; cases hu) (by simp [maxLen]) h) ?_
  ((refine TrA.eff 4 rfl (by kernel_rfl) (by exact .inl rfl) ?_))
  refine Exec.append (news := (K.take i).flatMap kyC) rfl rfl (tysOk.get rfl) rfl (tysOk.get rfl) rfl rfl rfl rfl (by repeat (first | exact Del.here | apply Del.there)) (Src.row hp) (by rw [flatMap_len kyC_len]; simp; omega) (flatMap_one kyC_one _) (by omega) (by omega) rfl (fun A6 c6 hc6 => ?_)
  refine ⟨Mem.le.refl _, (by exact (Sub.mem (by repeat (first | exact Sub.refl | apply Sub.cons)))), ?_⟩
  rw [zerosL_none, Nat.zero_add]
  ((refine TrA.eff 9 rfl (by kernel_rfl) (by exact .inl rfl) ?_))
  refine Exec.append (news := (K.drop (i + 1)).flatMap kyC) rfl rfl (tysOk.get rfl) rfl (tysOk.get rfl) rfl rfl rfl rfl (by repeat (first | exact Del.here | apply Del.there)) (Src.row hs) (by rw [flatMap_len kyC_len, List.length_drop, et]) (flatMap_one kyC_one _) (by omega) (by omega) rfl (fun A7 c7 hc7 => ?_)
  refine ⟨Mem.le.refl _, (by exact (Sub.mem (by repeat (first | exact Sub.refl | apply Sub.cons)))), ?_⟩
  rw [← List.flatMap_append, ← List.eraseIdx_eq_take_drop_succ, Int.toNat_natCast, ← hel]
  ((refine tkQ 10 (s := by exact Stab.assign rfl) ?_); (refine TrA.done (by kernel_rfl) ?_))
  refine pbQ (r := ownS 64 3 _ _ _ _) (fun M8 hm8 hok8 => ?_)
  have hR8 : SlOf 3 RKy M8 (.slice A7 (K.eraseIdx i).length c7) (K.eraseIdx i) := SlOf.ofOwn hok8 rfl hc7 (kyC_elems _ _)
  have hm08 := hm06.trans hm8
  have hno := hmin i hlt
  generalize K.eraseIdx i = less at hR8 hno ⊢
  (repeat (first | (with_reducible first | apply Tr.next | apply Tr.seq)))
  (((apply Tr.draw); (kernel_rfl)); (refine tkQ 0 (hB := by exact fun _ h => h) (s := by exact Stab.loadW rfl (tysOk.get rfl) rfl (by repeat (first | exact Has.here | apply Has.there)) (by assumption)) ?_); (refine tkQ 1 (s := by exact Stab.move rfl) ?_); (refine tkQ 3 (s := by exact sfQ) ?_); (refine tkQ 5 (s := by exact Stab.move rfl) ?_); (refine tkQ 6 (s := by exact sfQ) ?_); (refine tkQ 4 (s := by exact slQ) ?_); (refine tkQ 7 (s := by exact slQ) ?_); (refine TrA.eff 2 rfl (by kernel_rfl) (by exact .inl rfl) ?_))
  refine Exec.call0 rfl (rwithout_fn M8 ws w (hw.mono hm08) A7 c7 less hR8 (by omega)) rfl ?_
  rintro _ M9 hm9 ⟨ws', rfl, hw'⟩
  refine ⟨hm9, (by exact fun _ h => h), ?_⟩
  have hm09 := hm08.trans hm9
  have hm39 := hm35.trans (hm56.trans (hm8.trans hm9))
  ((refine TrA.eff 8 rfl (by kernel_rfl) (by exact .inl rfl) ?_))
  refine Exec.call0 rfl (meet_fn M9 ws' _ hw' As A8 cs c8 k.sups (k.reqs ++ [r]) k.known (h1.mono RSpC.mono hm09) (hR3.mono RRqC.mono hm39) hokT) rfl ?_
  rintro _ M10 hm10 ⟨p, rfl, hp⟩
  refine ⟨hm10, (by exact fun _ h => h), ?_⟩
  have hpf : p = false := by
   cases p with
   | false => rfl
   | true => exact absurd (hp.1 rfl) hno
  subst hpf
  ((refine tkQ 9 (s := by exact Stab.move rfl) ?_); (refine tkQ 10 (s := by exact Stab.extract rfl rfl) ?_); (refine tkQ 11 (s := by exact Stab.extract rfl rfl) ?_); (refine tkQ 12 (s := by exact Stab.assign rfl) ?_); (refine tkQ 13 (s := by exact Stab.assign rfl) ?_); (refine TrA.done (by kernel_rfl) ?_))
  have hK10 := hB3.mono RKy.mono (hm39.trans hm10)
  obtain ⟨hAx, chx, hatx, rfl⟩ := hK10.elem hx
  simp only [kyC] at hatx
  rw [hx7] at hatx
  replace hatx : At M10 (((B.getD default).add (i * 3)).add 0) [.int .i64 7, .int .i64 x.2.1, .int .i64 x.2.2] := hatx.drop 0
  (refine rQ ?_)
  refine Tr.again (i + 1, M10) ⟨by simp only; omega, hm56.trans (hm8.trans (hm9.trans hm10))⟩ (by simp only; omega) hsQ
 ·have ei : i = K.length := by omega
  subst ei
  (refine rQ ?_)
  (refine dnQ (hL := by exact ⟨[_, _, _], rfl⟩) ⟨rfl, ?_⟩)
  rfl
end Go.Proofs.YtlifjajcmnkhfaaGreat

