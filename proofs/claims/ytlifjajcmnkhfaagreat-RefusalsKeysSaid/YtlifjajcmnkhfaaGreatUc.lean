/-
  Texts of the proof, one after the other.
  Conditions: none.
-/
import Derived.Test.YtlifjajcmnkhfaaGreatUBfLend
import Derived.Test.YtlifjajcmnkhfaaGreatUBfTake
import Derived.Test.YtlifjajcmnkhfaaGreatUBfDelN
import Derived.Test.YtlifjajcmnkhfaaGreatUBfPend
import Derived.Test.YtlifjajcmnkhfaaGreatUXs
import Derived.Test.YtlifjajcmnkhfaaGreatUb
/-
 Refusals: Facts, the walk.
 Conditions: none.
-/
namespace Go.Proofs.YtlifjajcmnkhfaaGreat
open Go Bf
attribute [local irreducible] Tr Exec Stab HasTy Go.Addr.add IntKind.wrap
theorem askE_zero {w : Wd} {k : Bp} {r : Rq} (h : askE w k r = 0) : okB w k ∧ r.no ∉ k.reqs.map (·.no) ∧ okT k.sups (k.reqs ++ [r]) := by
 unfold askE at h
 split at h
 ·cases h
 ·rename_i h1
  have h1 := Classical.not_not.1 h1
  split at h
  ·cases h
  ·rename_i h2
   split at h
   ·cases h
   ·rename_i h3
    rw [not_or] at h3
    exact ⟨h1, h2, (okT_app h1.2.1).2 ⟨Classical.not_not.1 h3.1, by omega⟩⟩
theorem hasKy_lend (M : Mem) (A : Option Addr) (c : Nat) (hc : c ≤ 9223372036854775807) (l : List Ky) (x : Ky) :
  Bf.Fn Tryz.prog 32 [.slice A l.length c, .agg #[.int .i64 x.1, .int .i64 x.2.1, .int .i64 x.2.2]] M [ownS 64 3 A l.length c (l.flatMap kyC)] (fun v M' A' => A' = [ownS 64 3 A l.length c (l.flatMap kyC)] ∧ M = M' ∧ v = .bool (decide (x ∈ l))) :=
 Fn.lend (rs := [ownS 64 3 A l.length c (l.flatMap kyC)]) (R := fun v => v = .bool (decide (x ∈ l))) (clone_ok _ _ _ _ _ _ (containsKy_fn M none 0 [] x (SlOf.nil _ _ _))) (fun M' _ hok =>
  containsKy_fn M' A c l x (SlOf.ofOwn (hok (ownS 64 3 A l.length c (l.flatMap kyC)) List.mem_cons_self) rfl hc (kyC_elems _ _)))
set_option maxHeartbeats 32000000 in
set_option maxRecDepth 20000 in
theorem facts_fn (M : Mem) (ws : List Value) (w : Wd) (hw : RWd M ws w) (hfl : w.facts.length ≤ 1000000) (v : Value) (k : Bp) (hk : RBp M v k) (r : Rq) :
  Fn0 Tryz.prog 12 [.agg ws.toArray, v, .agg #[.int .i64 r.no, .int .i64 r.item, .int .i64 r.cust, .int .i64 r.due, .int .i64 r.shelf, .int .i64 r.amount]] M (fun v M' => FactsV w k r v M') := by
 have h11 := hw.len
 have hk0 := hk
 obtain ⟨As, cs, Ar, cr, Af, cf, Ad, cd, rfl, h1, h2, h3, h4⟩ := hk
 refine Fn.introM Tryz.func12 rfl rfl Tryz.ntmps12 rfl fun E F => ?_
 (repeat (first | ((with_reducible refine Tr.step rfl ?_); (first | (refine xaQ ?_) | ((with_reducible refine Knd.load ?_); (first | (refine xwQ ?_) | (refine Exec.stab rfl (Stab.loadW rfl (tysOk.get rfl) rfl (by repeat (first | exact Has.here | apply Has.there)) (by assumption)) rfl ?_))) | ((with_reducible refine Knd.box ?_); (refine Exec.box rfl rfl (fun b => ?_))) | ((with_reducible refine Knd.alloc ?_); (refine Exec.alloc1 (tysOk.get rfl) rfl rfl rfl (fun b => ?_))))) | (with_reducible first | apply Tr.next | apply Tr.seq | apply Tr.region | apply Tr.nil)))
 rename_i b3 b4 b5
 generalize b = b6
 ((refine Tr.step rfl ?_)); refine Exec.call0 rfl (least_fn M ws w hw _ k hk0 r) rfl ?_
 rintro _ M1 hm1 (⟨hne, rfl⟩ | ⟨hask, hv, hF, rfl⟩ | ⟨hask, hv, hF, B, kk, rfl, -⟩)
 ·(refine rQ ?_)
  (refine Tr.doneM [] rfl (by first | exact .inl rfl | exact .inr rfl) rfl (List.Perm.refl _) (by repeat (first | exact RVs.nil | (apply RVs.cons; (first | exact RV.tmp rfl | exact RV.cell (by rfl) (tysOk.get (by rfl)) (by rfl) (by repeat (first | exact Has.here | apply Has.there)))))) (by first | exact Mem.le.refl _ | assumption) (by exact ⟨[_, _, _, _], rfl⟩) ⟨rfl, ?_⟩)
  exact .inl ⟨hne, rfl⟩
 ·(refine rQ ?_)
  (refine Tr.doneM [] rfl (by first | exact .inl rfl | exact .inr rfl) rfl (List.Perm.refl _) (by repeat (first | exact RVs.nil | (apply RVs.cons; (first | exact RV.tmp rfl | exact RV.cell (by rfl) (tysOk.get (by rfl)) (by rfl) (by repeat (first | exact Has.here | apply Has.there)))))) (by first | exact Mem.le.refl _ | assumption) (by exact ⟨[_, _, _, _], rfl⟩) ⟨rfl, ?_⟩)
  exact .inr (.inl ⟨hask, hv, hF, rfl⟩)
 obtain ⟨-, hno, hok⟩ := askE_zero hask
 have l64 := hv.2.1.1
 (refine rQ ?_)
 refine Tr.cut (α := Nat × Option Addr × Nat × Mem) (fun y => ⟨104, [(8, .pointer (some ⟨y.1, 0, none⟩)), (3, .pointer (some ⟨b3, 0, none⟩)), (4, .pointer (some ⟨b4, 0, none⟩)), (6, .pointer (some ⟨b6, 0, none⟩))], [], y.2.2.2, box y.1 40 [.slice y.2.1 (k.reqs ++ [r]).length y.2.2.1] :: box b6 56 [.slice none 0 0] :: box b4 44 [.int .i64 k.known, .slice As k.sups.length cs, .slice Ar k.reqs.length cr, .slice Af k.fits.length cf, .slice Ad k.rds.length cd] :: box b3 38 ws :: ([] ++ F)⟩)
  (fun y => Mem.le M1 y.2.2.2 ∧ SlOf 6 RRqC y.2.2.2 (.slice y.2.1 (k.reqs ++ [r]).length y.2.2.1) (k.reqs ++ [r])) ?_ (fun y hy => ?_)
 ·(((apply Tr.draw); (kernel_rfl)); (refine tkQ 0 (hB := by exact fun _ h => h) (s := by exact sfQ) ?_); (refine tkQ 3 (s := by exact swQ) ?_); (refine tkQ 1 (s := by exact slQ) ?_))
  ((refine TrM.start2 _ (PA.build1 4 [(33, .agg #[.int .i64 r.no, .int .i64 r.item, .int .i64 r.cust, .int .i64 r.due, .int .i64 r.shelf, .int .i64 r.amount])] rfl (by exact .inl rfl) rfl (tysOk.get rfl) rfl (tysOk.get rfl) rfl rfl rfl rfl rfl (by first | rfl | assumption) rfl) (by exact PA.alloc1 6 rfl (tysOk.get rfl) rfl rfl rfl) (by kernel_rfl) (by kernel_rfl) (by kernel_rfl) ?_); (refine TrM.eff 2 rfl (by kernel_rfl) (by exact .inl rfl) (by repeat (first | exact PendOk.nil | refine PendOk.cons rfl (by repeat (first | exact SubFr.nil | refine SubFr.cons rfl ?_)) ?_)) (by exact fun _ h => h) (by repeat (first | apply AppF.cons | exact AppF.nil)) (by repeat (first | apply AppF.cons | exact AppF.app)) (fun Y X => ?_)))
  refine Exec.call (A := []) rfl (cloneRq_fn M1 Ar cr k.reqs (h2.mono RRqC.mono hm1) (by omega)) (List.Perm.refl _) rfl ?_
  rintro _ _ _ _ ⟨⟨B6, k6, rfl, hk6, rfl⟩, rfl⟩
  (refine ⟨_, _, (by repeat (first | apply App.cons | exact App.nil | exact App.app)), (by repeat (first | apply App.cons | exact App.nil | exact App.app)), rfl, (by first | exact Mem.le.refl _ | assumption), (by exact (Sub.mem (by repeat (first | exact Sub.refl | apply Sub.cons)))), ?_⟩)
  ((refine TrM.settle (by kernel_rfl) (by repeat (first | exact PendOk.nil | refine PendOk.cons rfl (by repeat (first | exact SubFr.nil | refine SubFr.cons rfl ?_)) ?_)) (by exact (Sub.mem (by repeat (first | exact Sub.refl | apply Sub.cons)))) (fun b => ?_)); dsimp only)
  ((refine TrM.eff 5 rfl (by kernel_rfl) (by exact .inl rfl) (by repeat (first | exact PendOk.nil | refine PendOk.cons rfl (by repeat (first | exact SubFr.nil | refine SubFr.cons rfl ?_)) ?_)) (by exact (Sub.mem (by repeat (first | exact Sub.refl | apply Sub.cons)))) (by repeat (first | apply AppF.cons | exact AppF.nil)) (by repeat (first | apply AppF.cons | exact AppF.app)) (fun Y X => ?_)))
  refine Exec.append (news := rqC r) rfl rfl (tysOk.get rfl) rfl (tysOk.get rfl) rfl rfl rfl rfl (by repeat (first | exact Del.here | apply Del.there)) (Src.box (by repeat (first | exact Has.here | apply Has.there))) rfl (rqC_one _) (by omega) (by omega) rfl (fun A8 c8 hc8 => ?_)
  (refine ⟨_, _, (by repeat (first | apply App.cons | exact App.nil | exact App.app)), (by repeat (first | apply App.cons | exact App.nil | exact App.app)), rfl, (by first | exact Mem.le.refl _ | assumption), (by exact (Sub.mem (by repeat (first | exact Sub.refl | apply Sub.cons)))), ?_⟩)
  rw [show k.reqs.flatMap rqC ++ rqC r = (k.reqs ++ [r]).flatMap rqC by rw [List.flatMap_append]; simp, show k.reqs.length + 1 = (k.reqs ++ [r]).length by simp]
  refine TrM.publish (x := ownS 46 6 _ _ _ _) (by repeat (first | exact Del.here | apply Del.there)) (fun M8 hm8 hok8 => ?_)
  have hm8 : Mem.le M1 M8 := hm8
  have hR8 : SlOf 6 RRqC M8 (.slice A8 (k.reqs ++ [r]).length c8) (k.reqs ++ [r]) := SlOf.ofOwn hok8 rfl hc8 (rqC_elems _ _)
  ((refine TrM.settle (by kernel_rfl) (by repeat (first | exact PendOk.nil | refine PendOk.cons rfl (by repeat (first | exact SubFr.nil | refine SubFr.cons rfl ?_)) ?_)) (by exact (Sub.mem (by repeat (first | exact Sub.refl | apply Sub.cons)))) (fun b => ?_)); dsimp only; (refine TrM.fin ?_))
  ((refine TrA.eff 7 rfl (by kernel_rfl) (by exact .inl rfl) ?_); (((refine Knd.store ?_); ((refine xSQ ?_)))); (refine ⟨(by first | exact Mem.le.refl _ | assumption), (by exact (Sub.mem (by repeat (first | exact Sub.refl | apply Sub.cons)))), ?_⟩); (refine TrA.done (by kernel_rfl) ?_))
  generalize b = b8
  refine gvQ (r := box b5 _ _) ?_
  refine gvQ (r := box _ 46 _) ?_
  refine ftQ (r := box b8 _ _) ?_
  exact Tr.land (b8, A8, c8, M8) ⟨hm8, hR8⟩ hsQ
 obtain ⟨b8, A8, c8, M8⟩ := y
 obtain ⟨hm8, hR8⟩ := hy
 dsimp only at hm8 hR8 ⊢
 have hm08 := hm1.trans hm8
 (refine rQ ?_)
 ((refine Tr.step rfl ?_)); refine Exec.call0 rfl (ramounts_fn M8 k.sups (k.reqs ++ [r]) As A8 cs c8 (h1.mono RSpC.mono hm08) hR8 (by omega) (by simp; omega)) rfl ?_
 rintro _ M4 hm4 ⟨P1, q1, P2, q2, rfl, hI1, hI2⟩
 have hm04 := hm08.trans hm4
 (repeat (first | ((with_reducible refine Tr.step rfl ?_); (first | (refine xmQ ?_) | (refine xlQ ?_) | (refine xnQ ?_) | (refine xSQ ?_) | ((with_reducible refine Knd.alloc ?_); (refine Exec.alloc1 (tysOk.get rfl) rfl rfl rfl (fun b => ?_))) | ((with_reducible refine Knd.extract ?_); (refine Exec.stab rfl (Stab.extract rfl rfl) rfl ?_)))) | (with_reducible first | apply Tr.next | apply Tr.seq | apply Tr.region | apply Tr.nil | apply Tr.block)))
 rename_i b9 b10
 generalize b = b11
 refine ftQ (r := box b6 _ _) ?_
 refine ftQ (r := box b3 _ _) ?_
 refine ftQ (r := box b4 _ _) ?_
 refine ftQ (r := box b8 _ _) ?_
 refine ftQ (r := box b9 _ _) ?_
 refine ftQ (r := box b10 _ _) ?_
 refine ftQ (r := box b11 _ _) ?_
 have hvld := okT_vld (w := w) (known := k.known) hok
 have hrl := hvld.ln
 refine Tr.loop (α := Nat) (fun i => ⟨104, [(45, .int .i64 (i : Int)), (44, .int .i64 ((amR (k.reqs ++ [r])).length : Int)), (43, .slice P2 (amR (k.reqs ++ [r])).length q2), (3, .pointer (some ⟨b3, 0, none⟩)), (4, .pointer (some ⟨b4, 0, none⟩)), (6, .pointer (some ⟨b6, 0, none⟩)), (8, .pointer (some ⟨b8, 0, none⟩)), (9, .pointer (some ⟨b9, 0, none⟩)), (10, .pointer (some ⟨b10, 0, none⟩)), (11, .pointer (some ⟨b11, 0, none⟩))], [], M4, box b11 3 [.int .i64 ((amR (k.reqs ++ [r])).take i).sum] :: box b10 32 [.slice P2 (amR (k.reqs ++ [r])).length q2] :: box b9 32 [.slice P1 (amS k.sups).length q1] :: box b8 40 [.slice A8 (k.reqs ++ [r]).length c8] :: box b4 44 [.int .i64 k.known, .slice As k.sups.length cs, .slice Ar k.reqs.length cr, .slice Af k.fits.length cf, .slice Ad k.rds.length cd] :: box b3 38 ws :: box b6 56 [.slice none 0 0] :: ([] ++ F)⟩)
  (fun i => i ≤ (amR (k.reqs ++ [r])).length) (fun i => (amR (k.reqs ++ [r])).length - i) 0 (Nat.zero_le _) hsQ (fun i hi => ?_)
 by_cases hlt : i < (amR (k.reqs ++ [r])).length
 ·obtain ⟨x, hx⟩ := get_of_lt hlt
  obtain ⟨hA, hat⟩ := hI2.at hx
  have e := sum_take hx
  have e1 := sum_bound (l := (amR (k.reqs ++ [r])).take i) (n := 64) (fun y hy => hvld.rn y (List.mem_of_mem_take hy)) (by simp; omega)
  have e2 := hvld.rn x (List.mem_of_getElem? hx)
  (refine rQ ?_)
  rw [← e]
  exact Tr.again (i + 1) (by omega) (by omega) hsQ
 have ei : i = (amR (k.reqs ++ [r])).length := by omega
 subst ei
 rw [List.take_length]
 have hw4 := hw.mono hm04
 have hR4 := hR8.mono RRqC.mono hm4
 (repeat (first | ((with_reducible refine Tr.step rfl ?_); (first | ((with_reducible refine Knd.load ?_); (first | (refine xlQ ?_) | (refine Exec.stab rfl (Stab.loadW rfl (tysOk.get rfl) rfl (by repeat (first | exact Has.here | apply Has.there)) (by assumption)) rfl ?_))) | (refine xfQ ?_) | (refine xiQ ?_))) | (with_reducible first | apply Tr.next | apply Tr.seq | apply Tr.region | apply Tr.nil | apply Tr.exit | apply Tr.then_exit) | ((with_reducible refine Tr.in_exit ?_ ?_); (exact rfl)) | (refine Tr.cond_f rfl (by first | (with_reducible assumption) | omega) ?_)))
 ((refine Tr.step rfl ?_)); refine Exec.call0 rfl (table_fn M4 ws w hw4 As A8 cs c8 k.sups (k.reqs ++ [r]) k.known (h1.mono RSpC.mono hm04) hR4) rfl ?_
 rintro _ M5 hm5 (⟨hnk, -⟩ | ⟨-, A5, c5, B5, k5, rfl, hf, hrd⟩)
 ·exact absurd hok hnk
 have hm05 := hm04.trans hm5
 have hm45 := hm4.trans hm5
 have hw5 := hw.mono hm05
 (repeat (first | ((with_reducible refine Tr.step rfl ?_); (first | (refine xmQ ?_) | (refine xaQ ?_) | ((with_reducible refine Knd.load ?_); (first | (refine xlQ ?_) | (refine Exec.stab rfl (Stab.loadW rfl (tysOk.get rfl) rfl (by repeat (first | exact Has.here | apply Has.there)) (by assumption)) rfl ?_))) | (refine xfQ ?_) | (refine xiQ ?_) | ((with_reducible refine Knd.extract ?_); (refine Exec.stab rfl (Stab.extract rfl rfl) rfl ?_)))) | (with_reducible first | apply Tr.next | apply Tr.seq | apply Tr.region | apply Tr.nil | apply Tr.skip) | (refine Tr.cond_f rfl (by first | (with_reducible assumption) | (with_reducible exact (not_not_intro rfl))) ?_)))
 refine ftQ (r := box b6 _ _) ?_
 refine Tr.own_nil 64 3 ?_
 ((refine Tr.step rfl ?_))
 refine Exec.call (A := []) rfl (excluding_fn M5 ws B5 (readsF w k.sups (k.reqs ++ [r])).length k5 k.known) (List.Perm.refl _) rfl ?_
 rintro _ _ _ _ ⟨b12, b13, b14, rfl, rfl, rfl⟩
 (repeat (first | (with_reducible first | apply Tr.next | apply Tr.nil | apply Tr.block)))
 have hrdl := readsF_len (w := w) hok
 refine Tr.rangeFunc' (A := [box b14 3 [.int .i64 k.known], box b13 42 [.slice B5 (readsF w k.sups (k.reqs ++ [r])).length k5], box b12 38 ws, ownS 64 3 none 0 0 [], box b6 56 [.slice none 0 0]])
  (Rf := fun o M' A'' => o = none ∧ M5 = M' ∧ ∃ C cc, A'' = [ownS 64 3 C (exclB w k r).length cc ((exclB w k r).flatMap kyC), box b6 56 [.slice C (exclB w k r).length cc]] ∧ cc ≤ 9223372036854775807) rfl (List.Perm.refl _) (fun lab dd lp p1 p2 p3 p4 p5 hfit => ?_) (fun dd M' A'' hm => ⟨?_, ?_⟩)
 ·refine Bf.Fn.mono (excluding1_fn M5 ws w hw5 B5 k5 lab b12 b13 b14 (readsF w k.sups (k.reqs ++ [r])) k.known hrd
   (fun i A' => ∃ C cc, A' = [loopR lab lp, defR dd, ownS 64 3 C (exclT w k.known (readsF w k.sups (k.reqs ++ [r])) i).length cc ((exclT w k.known (readsF w k.sups (k.reqs ++ [r])) i).flatMap kyC), box b6 56 [.slice C (exclT w k.known (readsF w k.sups (k.reqs ++ [r])) i).length cc]] ∧ cc ≤ 9223372036854775807)
   _ _ ⟨none, 0, rfl, by omega⟩ (List.perm_append_comm_assoc [_, _, _] [_, _] [_, _]) ?_ ?_) (fun v M' A' hm hR => ?_)
  ·rintro i y A' hyi href ⟨C, cc, rfl, hcc⟩
   rw [exclT_no hyi href]
   exact ⟨C, cc, rfl, hcc⟩
  ·rintro i y A' hyi href ⟨C, cc, rfl, hcc⟩
   rw [exclT_yes hyi href]
   have hel := exclT_len (w := w) (known := k.known) (l := readsF w k.sups (k.reqs ++ [r])) i
   have hil := (List.getElem?_eq_some_iff.1 hyi).1
   generalize (exclT w k.known (readsF w k.sups (k.reqs ++ [r])) i) = X at hel ⊢
   have e : ({ lp with state := .ready, pending := none } : Loop) = lp := by cases lp; simp_all
   refine Yl.intro (ps := [72]) p3 rfl (by simp) hfit (by repeat (first | exact Has.here | apply Has.there)) (fun E F => ?_)
   rw [p4, p5]
   (repeat (first | ((with_reducible refine Tr.step rfl ?_); (first | (refine xWQ ?_) | ((with_reducible refine Knd.alloc ?_); (refine Exec.alloc (tysOk.get rfl) rfl rfl (fun b => ?_))))) | (with_reducible first | apply Tr.next | apply Tr.region | apply Tr.nil)))
   refine Tr.begin (by repeat (first | exact Upd.here | apply Upd.there)) p1 ?_
   (refine rQ ?_)
   ((refine Tr.step rfl ?_))
   refine Exec.call (A := [ownS 64 3 C X.length cc (X.flatMap kyC)]) rfl (hasKy_lend M5 C cc hcc X y.1) (take1 (by repeat (first | exact Del.here | apply Del.there))) rfl ?_
   rintro _ _ _ _ ⟨rfl, rfl, rfl⟩
   by_cases hin : y.1 ∈ X
   ·rw [decide_eq_true hin]
    (refine rQ ?_)
    refine gvQ (r := box _ 64 _) ?_
    refine ftQ (r := defR dd) ?_
    refine ftQ (r := loopR lab _) ?_
    refine Tr.round_normal (A' := [loopR lab { lp with state := .ready, pending := none }, defR dd, ownS 64 3 C X.length cc (X.flatMap kyC), box b6 56 [.slice C X.length cc]]) (by repeat (first | exact Upd.here | apply Upd.there)) DropL.refl (Mem.le.refl _) ⟨rfl, ⟨C, cc, ?_, hcc⟩, rfl⟩
    rw [e, addK, if_pos hin]
   ·rw [decide_eq_false hin]
    (repeat (first | ((with_reducible refine Tr.step rfl ?_); (first | ((with_reducible refine Knd.load ?_); (first | (refine xlQ ?_) | (refine xwQ ?_))) | ((with_reducible refine Knd.unOp ?_); (refine Exec.stab rfl (Stab.not rfl) rfl ?_)) | ((with_reducible refine Knd.buildSlice ?_); (refine Exec.buildSlice (tysOk.get rfl) rfl (tysOk.get rfl) rfl rfl rfl rfl rfl (by repeat (first | exact BuildP.nil | ((apply BuildP.many); (rfl); (rfl); (rfl); (rfl); (repeat (first | exact PutL.nil | ((apply PutL.cons); (repeat (first | exact SetL.z | apply SetL.s)))))))) rfl (fun b => ?_))))) | (with_reducible first | apply Tr.next | apply Tr.region | apply Tr.nil) | (refine Tr.cond_bt rfl (by first | (with_reducible rfl) | (with_reducible exact Bool.not_false)) ?_)))
    ((refine Tr.step rfl ?_))
    refine Exec.append (news := kyC y.1) rfl rfl (tysOk.get rfl) rfl (tysOk.get rfl) rfl rfl rfl rfl (by repeat (first | exact Del.here | apply Del.there)) (Src.box (by repeat (first | exact Has.here | apply Has.there))) rfl (kyC_one _) (by omega) (by omega) rfl (fun C2 cc2 hcc2 => ?_)
    refine gvQ (r := box _ 64 _) ?_
    have hadd : addK X y.1 = X ++ [y.1] := by rw [addK, if_neg hin]
    rw [show X.flatMap kyC ++ kyC y.1 = (addK X y.1).flatMap kyC by rw [hadd, List.flatMap_append]; simp, show X.length + 1 = (addK X y.1).length by rw [hadd]; simp]
    (refine rQ ?_)
    refine gvQ (r := box _ 64 _) ?_
    refine ftQ (r := ownS 64 3 C2 _ _ _) ?_
    refine ftQ (r := defR dd) ?_
    refine ftQ (r := loopR lab _) ?_
    refine Tr.round_normal (A' := [loopR lab { lp with state := .ready, pending := none }, defR dd, ownS 64 3 C2 (addK X y.1).length cc2 ((addK X y.1).flatMap kyC), box b6 56 [.slice C2 (addK X y.1).length cc2]]) (by repeat (first | exact Upd.here | apply Upd.there)) DropL.refl (Mem.le.refl _) ⟨rfl, ⟨C2, cc2, ?_, hcc2⟩, rfl⟩
    rw [e]
  ·obtain ⟨⟨C, cc, rfl, hcc⟩, rfl⟩ := hR
   have hex : exclT w k.known (readsF w k.sups (k.reqs ++ [r])) (readsF w k.sups (k.reqs ++ [r])).length = exclB w k r := by rw [exclT, List.take_length]; rfl
   rw [hex]
   exact ⟨lp, _, rfl, by rw [p1]; decide, p2, rfl, C, cc, rfl, hcc⟩
 rotate_left
 ·rintro c ⟨h, -⟩
  cases h
 rintro ⟨-, rfl, C, cc, rfl, hcc⟩
 have hexl : (exclB w k r).length ≤ 4096 := by
  have := exclT_len (w := w) (known := k.known) (l := readsF w k.sups (k.reqs ++ [r])) (readsF w k.sups (k.reqs ++ [r])).length
  rw [exclT, List.take_length] at this
  unfold exclB
  omega
 refine pbQ (r := ownS 64 3 _ _ _ _) (fun M6 hm6 hok6 => ?_)
 have hC : SlOf 3 RKy M6 (.slice C (exclB w k r).length cc) (exclB w k r) := SlOf.ofOwn hok6 rfl hcc (kyC_elems _ _)
 have hm06 := hm05.trans hm6
 have hm46 := hm5.trans hm6
 have hf1 : ∀ (M' : Mem), Mem.le M6 M' → ∀ (A : Option Addr) (c : Nat) (ks : List Ky), SlOf 3 RKy M' (.slice A ks.length c) ks → Bf.Fn Tryz.prog 33 ([.slice A ks.length c] ++ [.pointer (some ⟨b3, 0, none⟩), .pointer (some ⟨b4, 0, none⟩), .pointer (some ⟨b8, 0, none⟩), .pointer (some ⟨b9, 0, none⟩), .pointer (some ⟨b10, 0, none⟩), .pointer (some ⟨b11, 0, none⟩)]) M' [box b11 3 [.int .i64 (amR (k.reqs ++ [r])).sum], box b10 32 [.slice P2 (amR (k.reqs ++ [r])).length q2], box b9 32 [.slice P1 (amS k.sups).length q1], box b8 40 [.slice A8 (k.reqs ++ [r]).length c8], box b4 44 [.int .i64 k.known, .slice As k.sups.length cs, .slice Ar k.reqs.length cr, .slice Af k.fits.length cf, .slice Ad k.rds.length cd], box b3 38 ws] (fun v _ A' => A' = [box b11 3 [.int .i64 (amR (k.reqs ++ [r])).sum], box b10 32 [.slice P2 (amR (k.reqs ++ [r])).length q2], box b9 32 [.slice P1 (amS k.sups).length q1], box b8 40 [.slice A8 (k.reqs ++ [r]).length c8], box b4 44 [.int .i64 k.known, .slice As k.sups.length cs, .slice Ar k.reqs.length cr, .slice Af k.fits.length cf, .slice Ad k.rds.length cd], box b3 38 ws] ∧ ∃ p : Bool, v = .bool p ∧ (p = true ↔ meetK w k r ks)) := fun M' hm A c ks hks =>
  facts1_fn M' ws w (hw.mono (hm06.trans hm)) hfl k As Ar Af Ad cs cr cf cd (h1.mono RSpC.mono (hm06.trans hm)) (h2.mono RRqC.mono (hm06.trans hm)) (h3.mono RRowB.mono (hm06.trans hm)) (h4.mono RRd.mono (hm06.trans hm)) r hok b3 b4 b8 b9 b10 b11 P1 P2 A8 q1 q2 c8 (hR4.mono RRqC.mono (hm46.trans hm)) (hI1.mono RI.mono (hm46.trans hm)) (hI2.mono RI.mono (hm46.trans hm)) A c ks hks
 (repeat (first | ((with_reducible refine Tr.step rfl ?_); (first | (refine xmQ ?_) | (refine xaQ ?_) | (refine xlQ ?_) | ((with_reducible refine Knd.makeFunc ?_); (refine Exec.stab rfl (Stab.makeFunc rfl rfl) rfl ?_)))) | (with_reducible first | apply Tr.next | apply Tr.seq | apply Tr.region | apply Tr.nil | apply Tr.in_normal)))
 ((refine Tr.step rfl ?_))
 refine Exec.callv (first := []) (cap := [.pointer (some ⟨b3, 0, none⟩), .pointer (some ⟨b4, 0, none⟩), .pointer (some ⟨b8, 0, none⟩), .pointer (some ⟨b9, 0, none⟩), .pointer (some ⟨b10, 0, none⟩), .pointer (some ⟨b11, 0, none⟩)]) (A := [box b11 3 [.int .i64 (amR (k.reqs ++ [r])).sum], box b10 32 [.slice P2 (amR (k.reqs ++ [r])).length q2], box b9 32 [.slice P1 (amS k.sups).length q1], box b8 40 [.slice A8 (k.reqs ++ [r]).length c8], box b4 44 [.int .i64 k.known, .slice As k.sups.length cs, .slice Ar k.reqs.length cr, .slice Af k.fits.length cf, .slice Ad k.rds.length cd], box b3 38 ws]) rfl rfl (hf1 M6 (Mem.le.refl _) C cc (exclB w k r) hC) (take6 (by repeat (first | exact Del.here | apply Del.there)) (by repeat (first | exact Del.here | apply Del.there)) (by repeat (first | exact Del.here | apply Del.there)) (by repeat (first | exact Del.here | apply Del.there)) (by repeat (first | exact Del.here | apply Del.there)) (by repeat (first | exact Del.here | apply Del.there))) rfl ?_
 rintro _ M7 _ hm7 ⟨rfl, p, rfl, hp⟩
 have hm07 := hm06.trans hm7
 cases p with
 | false =>
  (refine rQ ?_)
  refine ftQ (r := defR dd) ?_
  (refine Tr.doneM [_] rfl (by first | exact .inl rfl | exact .inr rfl) rfl (List.Perm.refl _) (by repeat (first | exact RVs.nil | (apply RVs.cons; (first | exact RV.tmp rfl | exact RV.cell (by rfl) (tysOk.get (by rfl)) (by rfl) (by repeat (first | exact Has.here | apply Has.there)))))) (by first | exact Mem.le.refl _ | assumption) (by exact ⟨[_, _, _, _, _, _, _], rfl⟩) ⟨rfl, ?_⟩)
  have hfa : factF w k r = [] := if_neg (fun h => by have := hp.2 h; cases this)
  refine .inr (.inr ⟨hask, hv, hF, none, 0, ?_⟩)
  rw [hfa]
  exact ⟨rfl, SlOf.nil _ _ _⟩
 | true =>
 have hfa : factF w k r = cutK (meetK w k r) (exclB w k r).length (exclB w k r) := if_pos (hp.1 rfl)
 (refine rQ ?_)
 simp only [List.cons_append, List.nil_append]
 have hfl1 := hexl
 refine Tr.loop (α := Nat × List Ky × Option Addr × Nat × Mem) (fun y => ⟨104, [(18, .int .i64 ((y.1 : Int) - 1)), (17, .func (.func 33) #[] [.pointer (some ⟨b3, 0, none⟩), .pointer (some ⟨b4, 0, none⟩), .pointer (some ⟨b8, 0, none⟩), .pointer (some ⟨b9, 0, none⟩), .pointer (some ⟨b10, 0, none⟩), .pointer (some ⟨b11, 0, none⟩)].toArray), (6, .pointer (some ⟨b6, 0, none⟩))], [coll dd], y.2.2.2.2, box b11 3 [.int .i64 (amR (k.reqs ++ [r])).sum] :: box b10 32 [.slice P2 (amR (k.reqs ++ [r])).length q2] :: box b9 32 [.slice P1 (amS k.sups).length q1] :: box b8 40 [.slice A8 (k.reqs ++ [r]).length c8] :: box b4 44 [.int .i64 k.known, .slice As k.sups.length cs, .slice Ar k.reqs.length cr, .slice Af k.fits.length cf, .slice Ad k.rds.length cd] :: box b3 38 ws :: defR dd :: box b6 56 [.slice y.2.2.1 y.2.1.length y.2.2.2.1] :: ([] ++ F)⟩)
  (fun y => y.1 ≤ y.2.1.length ∧ y.2.1.length ≤ 4096 ∧ Mem.le M7 y.2.2.2.2 ∧ SlOf 3 RKy y.2.2.2.2 (.slice y.2.2.1 y.2.1.length y.2.2.2.1) y.2.1 ∧ cutK (meetK w k r) y.1 y.2.1 = factF w k r) (fun y => y.1) ((exclB w k r).length, exclB w k r, C, cc, M7) ⟨Nat.le_refl _, hexl, Mem.le.refl _, hC.mono RKy.mono hm7, hfa.symm⟩ hsQ (fun y hy => ?_)
 obtain ⟨n, l, C, cc, M8'⟩ := y
 obtain ⟨hn, hll, hm8', hl, hcut⟩ := hy
 simp only at hn hll hm8' hl hcut
 dsimp only
 cases n with
 | zero =>
  have hcut : l = factF w k r := hcut
  (refine rQ ?_)
  refine ftQ (r := defR dd) ?_
  have hm09 := hm07.trans hm8'
  (refine Tr.doneM [_] rfl (by first | exact .inl rfl | exact .inr rfl) rfl (List.Perm.refl _) (by repeat (first | exact RVs.nil | (apply RVs.cons; (first | exact RV.tmp rfl | exact RV.cell (by rfl) (tysOk.get (by rfl)) (by rfl) (by repeat (first | exact Has.here | apply Has.there)))))) (by first | exact Mem.le.refl _ | assumption) (by exact ⟨[_, _, _, _, _, _, _], rfl⟩) ⟨rfl, ?_⟩)
  rw [hcut] at hl
  exact .inr (.inr ⟨hask, hv, hF, C, cc, by rw [← hcut]; rfl, hl⟩)
 | succ m =>
  have e : ((m + 1 : Nat) : Int) - 1 = m := by omega
  rw [e]
  (refine rQ ?_)
  ((refine Tr.step rfl ?_))
  refine Exec.call (A := []) rfl (cloneKy_fn M8' C cc l hl (by omega)) (List.Perm.refl _) rfl ?_
  rintro _ _ _ _ ⟨⟨G, gc, rfl, hgc, rfl⟩, rfl⟩
  (repeat (((with_reducible refine Tr.step rfl ?_); (first | (refine xmQ ?_) | (refine xdQ ?_)))))
  ((refine Tr.step rfl ?_))
  refine Exec.call (A := [ownS 64 3 G l.length gc (l.flatMap kyC)]) rfl (deleteKy_own M8' G gc l m (by omega) (by omega) hgc) (take1 (by repeat (first | exact Del.here | apply Del.there))) rfl ?_
  rintro _ _ _ _ ⟨rfl, rfl, rfl⟩
  have hel : (l.eraseIdx m).length = l.length - 1 := by rw [List.length_eraseIdx, if_pos (by omega)]
  rw [← hel]
  (refine rQ ?_)
  refine pbQ (r := ownS 64 3 G _ _ _) (fun M9 hm9 hok9 => ?_)
  have hG : SlOf 3 RKy M9 (.slice G (l.eraseIdx m).length gc) (l.eraseIdx m) := SlOf.ofOwn hok9 rfl hgc (kyC_elems _ _)
  have hm79 := hm8'.trans hm9
  ((refine Tr.step rfl ?_))
  refine Exec.callv (first := []) (cap := [.pointer (some ⟨b3, 0, none⟩), .pointer (some ⟨b4, 0, none⟩), .pointer (some ⟨b8, 0, none⟩), .pointer (some ⟨b9, 0, none⟩), .pointer (some ⟨b10, 0, none⟩), .pointer (some ⟨b11, 0, none⟩)]) (A := [box b11 3 [.int .i64 (amR (k.reqs ++ [r])).sum], box b10 32 [.slice P2 (amR (k.reqs ++ [r])).length q2], box b9 32 [.slice P1 (amS k.sups).length q1], box b8 40 [.slice A8 (k.reqs ++ [r]).length c8], box b4 44 [.int .i64 k.known, .slice As k.sups.length cs, .slice Ar k.reqs.length cr, .slice Af k.fits.length cf, .slice Ad k.rds.length cd], box b3 38 ws]) rfl rfl (hf1 M9 (hm7.trans hm79) G gc (l.eraseIdx m) hG) (take6 (by repeat (first | exact Del.here | apply Del.there)) (by repeat (first | exact Del.here | apply Del.there)) (by repeat (first | exact Del.here | apply Del.there)) (by repeat (first | exact Del.here | apply Del.there)) (by repeat (first | exact Del.here | apply Del.there)) (by repeat (first | exact Del.here | apply Del.there))) rfl ?_
  rintro _ M10 _ hm10 ⟨rfl, p2, rfl, hp2⟩
  simp only [List.cons_append, List.nil_append]
  have hcut2 : cutK (meetK w k r) m (open Classical in if meetK w k r (l.eraseIdx m) then l.eraseIdx m else l) = factF w k r := hcut
  cases p2 with
  | true =>
   rw [if_pos (hp2.1 rfl)] at hcut2
   (refine rQ ?_)
   refine Tr.again (m, l.eraseIdx m, G, gc, M10) ⟨by simp only; omega, by simp only; omega, hm79.trans hm10, hG.mono RKy.mono hm10, hcut2⟩ (by simp only; omega) hsQ
  | false =>
   rw [if_neg (fun h => by have := hp2.2 h; cases this)] at hcut2
   (refine rQ ?_)
   refine Tr.again (m, l, C, cc, M10) ⟨by simp only; omega, hll, hm79.trans hm10, hl.mono RKy.mono (hm9.trans hm10), hcut2⟩ (by simp only; omega) hsQ
end Go.Proofs.YtlifjajcmnkhfaaGreat

/-
 Refusals: books that are small, lists that are equal.
 Conditions: none.
-/
namespace Go.Proofs.YtlifjajcmnkhfaaGreat
open Go Bf
attribute [local irreducible] Tr Exec Stab HasTy Go.Addr.add IntKind.wrap
structure FewB (w : Wd) (k : Bp) : Prop where
 fa : w.facts.length ≤ 30
 sw : w.swaps.length ≤ 12
 sl : k.sups.length ≤ 5
 rl : k.reqs.length ≤ 5
 fl : k.fits.length ≤ 12
 rows : ∀ x ∈ k.fits, x.length ≤ 12
 rd : k.rds.length ≤ 60
theorem few04_fn (M : Mem) (A : Option Addr) (n c : Nat) : Fn0 Tryz.prog 89 [.slice A n c] M (fun r M' => (∃ b : Bool, r = .bool b ∧ (b = true → n ≤ 30)) ∧ M = M') := by
 refine Fn.intro Tryz.func89 rfl rfl Tryz.ntmps89 rfl fun E F => ?_
 by_cases h : n ≤ 30
 ·(refine rQ ?_)
  (refine dnQ (hL := by exact ⟨[], rfl⟩) ⟨rfl, ?_⟩)
  exact ⟨⟨true, by rw [decide_eq_true (by omega)]; rfl, fun _ => h⟩, rfl⟩
 ·(refine rQ ?_)
  (refine dnQ (hL := by exact ⟨[], rfl⟩) ⟨rfl, ?_⟩)
  exact ⟨⟨false, by rw [decide_eq_false (by omega)]; rfl, fun h => (by cases h)⟩, rfl⟩
set_option maxHeartbeats 2000000 in
theorem few29_fn (M : Mem) (ws : List Value) (w : Wd) (hw : RWd M ws w) (A B : Option Addr) (n c m k : Nat) : Fn0 Tryz.prog 47 [.agg ws.toArray, .slice A n c, .slice B m k] M (fun r M' => (∃ b : Bool, r = .bool b ∧ (b = true → w.facts.length ≤ 30 ∧ w.swaps.length ≤ 12)) ∧ M = M') := by
 obtain ⟨h11, hone, ⟨A7, c7, h7, -⟩, A10, c10, h10, -⟩ := hw
 refine Fn.intro Tryz.func47 rfl rfl Tryz.ntmps47 rfl fun E F => ?_
 (repeat (first | ((with_reducible refine Tr.step rfl ?_); (first | (refine xaQ ?_) | ((with_reducible refine Knd.load ?_); (refine Exec.stab rfl (Stab.load rfl (tysOk.get rfl) rfl (by repeat (first | exact Has.here | apply Has.there)) (by assumption)) rfl ?_)) | (refine xfQ ?_) | ((with_reducible refine Knd.box ?_); (refine Exec.box rfl rfl (fun b => ?_))))) | (with_reducible first | apply Tr.next | apply Tr.seq | apply Tr.region | apply Tr.nil)))
 ((refine Tr.step rfl ?_)); refine Exec.call0 rfl (few04_fn M A10 w.facts.length c10) rfl ?_
 rintro _ _ _ ⟨⟨b, rfl, hb⟩, rfl⟩
 cases b with
 | false =>
  (refine rQ ?_)
  (refine dnQ (hL := by exact ⟨[_], rfl⟩) ⟨rfl, ?_⟩)
  exact ⟨⟨false, rfl, fun h => (by cases h)⟩, rfl⟩
 | true =>
 by_cases h1 : w.swaps.length ≤ 12
 rotate_left
 ·(repeat (first | ((with_reducible refine Tr.step rfl ?_); (first | (refine xmQ ?_) | (refine xaQ ?_) | ((with_reducible refine Knd.pick ?_); (first | (refine Exec.stab rfl (Stab.pick_t rfl (by (with_reducible rfl)) rfl) rfl ?_) | (refine Exec.stab rfl (Stab.pick_f rfl (by (with_reducible rfl)) rfl) rfl ?_) | (refine Exec.stab rfl (Stab.pick_fd rfl (by omega) rfl) rfl ?_))))) | (with_reducible first | apply Tr.next | apply Tr.nil) | ((refine Tr.guard_l rfl rfl rfl (by (with_reducible rfl)) ?_); (first | ((with_reducible refine Knd.load ?_); (refine Exec.stab rfl (Stab.load rfl (tysOk.get rfl) rfl (by repeat (first | exact Has.here | apply Has.there)) (by assumption)) rfl ?_)) | (refine xfQ ?_) | (refine xnQ ?_) | (refine xiQ ?_))) | (refine Tr.guard_s1 rfl rfl rfl (by (with_reducible rfl)) rfl rfl ?_) | (refine Tr.guard_n rfl rfl rfl (by first | (with_reducible assumption) | omega) rfl rfl ?_) | (with_reducible refine Tr.ret ?_)))
  (refine dnQ (hL := by exact ⟨[_], rfl⟩) ⟨rfl, ?_⟩)
  exact ⟨⟨false, rfl, fun h => (by cases h)⟩, rfl⟩
 by_cases h2 : n ≤ 8
 rotate_left
 ·(repeat (first | ((with_reducible refine Tr.step rfl ?_); (first | (refine xmQ ?_) | (refine xaQ ?_) | ((with_reducible refine Knd.pick ?_); (first | (refine Exec.stab rfl (Stab.pick_t rfl (by (with_reducible rfl)) rfl) rfl ?_) | (refine Exec.stab rfl (Stab.pick_td rfl (by omega) rfl) rfl ?_) | (refine Exec.stab rfl (Stab.pick_fd rfl (by omega) rfl) rfl ?_))))) | (with_reducible first | apply Tr.next | apply Tr.nil) | ((refine Tr.guard_l rfl rfl rfl (by (with_reducible rfl)) ?_); (first | ((with_reducible refine Knd.load ?_); (refine Exec.stab rfl (Stab.load rfl (tysOk.get rfl) rfl (by repeat (first | exact Has.here | apply Has.there)) (by assumption)) rfl ?_)) | (refine xfQ ?_) | (refine xnQ ?_) | (refine xiQ ?_))) | ((refine Tr.guard_y rfl rfl rfl (by first | (with_reducible assumption) | omega) ?_); (first | (refine xmQ ?_) | (refine xnQ ?_) | (refine xiQ ?_))) | (refine Tr.guard_n rfl rfl rfl (by first | (with_reducible assumption) | omega) rfl rfl ?_) | (with_reducible refine Tr.ret ?_)))
  (refine dnQ (hL := by exact ⟨[_], rfl⟩) ⟨rfl, ?_⟩)
  exact ⟨⟨false, rfl, fun h => (by cases h)⟩, rfl⟩
 (repeat (first | ((with_reducible refine Tr.step rfl ?_); (first | (refine xmQ ?_) | (refine xaQ ?_) | ((with_reducible refine Knd.pick ?_); (first | (refine Exec.stab rfl (Stab.pick_t rfl (by (with_reducible rfl)) rfl) rfl ?_) | (refine Exec.stab rfl (Stab.pick_td rfl (by omega) rfl) rfl ?_))))) | (with_reducible first | apply Tr.next | apply Tr.nil) | ((refine Tr.guard_l rfl rfl rfl (by (with_reducible rfl)) ?_); (first | ((with_reducible refine Knd.load ?_); (refine Exec.stab rfl (Stab.load rfl (tysOk.get rfl) rfl (by repeat (first | exact Has.here | apply Has.there)) (by assumption)) rfl ?_)) | (refine xfQ ?_) | (refine xnQ ?_) | (refine xiQ ?_))) | ((refine Tr.guard_y rfl rfl rfl (by first | (with_reducible assumption) | omega) ?_); (first | (refine xmQ ?_) | (refine xnQ ?_) | (refine xiQ ?_))) | (with_reducible refine Tr.ret ?_)))
 (refine dnQ (hL := by exact ⟨[_], rfl⟩) ⟨rfl, ?_⟩)
 exact ⟨⟨_, rfl, fun _ => ⟨hb rfl, h1⟩⟩, rfl⟩
set_option maxHeartbeats 2000000 in
theorem fewTab_fn (M : Mem) (A : Option Addr) (c : Nat) (l : List (List Bool)) (hl : Fits2 M (.slice A l.length c) l) : Fn0 Tryz.prog 48 [.slice A l.length c] M (fun r M' => (∃ b : Bool, r = .bool b ∧ (b = true → l.length ≤ 12 ∧ ∀ x ∈ l, x.length ≤ 12)) ∧ M = M') := by
 have hll := hl.len_le
 refine Fn.intro Tryz.func48 rfl rfl Tryz.ntmps48 rfl fun E F => ?_
 (refine rQ ?_)
 refine Tr.loop (α := Nat) (fun i => ⟨19, [(3, .int .i64 (i : Int)), (0, .slice A l.length c)], [], M, [] ++ F⟩) (fun i => i ≤ l.length ∧ ∀ x ∈ l.take i, x.length ≤ 12) (fun i => l.length - i) 0 ⟨by simp, by simp⟩ hsQ (fun i hi => ?_)
 obtain ⟨hi, hall⟩ := hi
 by_cases hlt : i < l.length
 ·obtain ⟨x, hx⟩ := get_of_lt hlt
  obtain ⟨hA, ch, hat, B, k, rfl, hB⟩ := hl.elem hx
  by_cases h : x.length ≤ 12
  ·(refine rQ ?_)
   refine Tr.again (i + 1) ⟨hlt, fun y hy => ?_⟩ (by omega) hsQ
   rw [List.take_add_one, hx, List.mem_append] at hy
   rcases hy with hy | hy
   ·exact hall y hy
   ·simp at hy; subst hy; exact h
  ·(refine rQ ?_)
   (refine dnQ (hL := by exact ⟨[], rfl⟩) ⟨rfl, ?_⟩)
   exact ⟨⟨false, rfl, fun h => (by cases h)⟩, rfl⟩
 ·have e : i = l.length := by omega
  subst e
  rw [List.take_length] at hall
  by_cases h : l.length ≤ 12
  ·(refine rQ ?_)
   (refine dnQ (hL := by exact ⟨[], rfl⟩) ⟨rfl, ?_⟩)
   exact ⟨⟨true, by rw [decide_eq_true (by omega)]; rfl, fun _ => ⟨h, hall⟩⟩, rfl⟩
  ·(refine rQ ?_)
   (refine dnQ (hL := by exact ⟨[], rfl⟩) ⟨rfl, ?_⟩)
   exact ⟨⟨false, by rw [decide_eq_false (by omega)]; rfl, fun h => (by cases h)⟩, rfl⟩
set_option maxHeartbeats 4000000 in
theorem few31_fn (M : Mem) (ws : List Value) (w : Wd) (hw : RWd M ws w) (v : Value) (k : Bp) (hk : RBp M v k) : Fn0 Tryz.prog 19 [.agg ws.toArray, v] M (fun r M' => (∃ b : Bool, r = .bool b ∧ (b = true → FewB w k)) ∧ M = M') := by
 have h11 := hw.len
 obtain ⟨As, cs, Ar, cr, Af, cf, Ad, cd, rfl, h1, h2, h3, h4⟩ := hk
 refine Fn.intro Tryz.func19 rfl rfl Tryz.ntmps19 rfl fun E F => ?_
 (repeat (first | ((with_reducible refine Tr.step rfl ?_); (first | (refine xaQ ?_) | ((with_reducible refine Knd.load ?_); (first | (refine xlQ ?_) | (refine Exec.stab rfl (Stab.loadW rfl (tysOk.get rfl) rfl (by repeat (first | exact Has.here | apply Has.there)) (by assumption)) rfl ?_))) | (refine xfQ ?_) | ((with_reducible refine Knd.box ?_); (refine Exec.box rfl rfl (fun b => ?_))))) | (with_reducible first | apply Tr.next | apply Tr.seq | apply Tr.region | apply Tr.nil)))
 ((refine Tr.step rfl ?_)); refine Exec.call0 rfl (few29_fn M ws w hw As Ar k.sups.length cs k.reqs.length cr) rfl ?_
 rintro _ _ _ ⟨⟨b, rfl, hb⟩, rfl⟩
 cases b with
 | false =>
  (refine rQ ?_)
  (refine dnQ (hL := by exact ⟨[_, _], rfl⟩) ⟨rfl, ?_⟩)
  exact ⟨⟨false, rfl, fun h => (by cases h)⟩, rfl⟩
 | true =>
 by_cases e1 : k.sups.length ≤ 5
 rotate_left
 ·(refine rQ ?_)
  (refine dnQ (hL := by exact ⟨[_, _], rfl⟩) ⟨rfl, ?_⟩)
  exact ⟨⟨false, rfl, fun h => (by cases h)⟩, rfl⟩
 by_cases e2 : k.reqs.length ≤ 5
 rotate_left
 ·(refine rQ ?_)
  (refine dnQ (hL := by exact ⟨[_, _], rfl⟩) ⟨rfl, ?_⟩)
  exact ⟨⟨false, rfl, fun h => (by cases h)⟩, rfl⟩
 (refine rQ ?_)
 ((refine Tr.guard_y rfl rfl rfl (by omega) ?_)); refine Exec.call0 rfl (fewTab_fn M Af cf k.fits h3) rfl ?_
 rintro _ _ _ ⟨⟨b, rfl, hb2⟩, rfl⟩
 cases b with
 | false =>
  (refine rQ ?_)
  (refine dnQ (hL := by exact ⟨[_, _], rfl⟩) ⟨rfl, ?_⟩)
  exact ⟨⟨false, rfl, fun h => (by cases h)⟩, rfl⟩
 | true =>
 by_cases e3 : k.rds.length ≤ 60
 ·(refine rQ ?_)
  (refine dnQ (hL := by exact ⟨[_, _], rfl⟩) ⟨rfl, ?_⟩)
  exact ⟨⟨true, by rw [decide_eq_true (by omega)]; rfl, fun _ => ⟨(hb rfl).1, (hb rfl).2, e1, e2, (hb2 rfl).1, (hb2 rfl).2, e3⟩⟩, rfl⟩
 ·(refine rQ ?_)
  (refine dnQ (hL := by exact ⟨[_, _], rfl⟩) ⟨rfl, ?_⟩)
  exact ⟨⟨false, by rw [decide_eq_false (by omega)]; rfl, fun h => (by cases h)⟩, rfl⟩
set_option maxHeartbeats 4000000 in
theorem few32_fn (M : Mem) (ws : List Value) (w : Wd) (hw : RWd M ws w) (v : Value) (k : Bp) (hk : RBp M v k) : Fn0 Tryz.prog 6 [.agg ws.toArray, v] M (fun r M' => (∃ b : Bool, r = .bool b ∧ (b = true → FewB w k)) ∧ M = M') := by
 have hk0 := hk
 have hw0 := hw
 obtain ⟨h11, hone, -, A10, c10, h10, -⟩ := hw
 obtain ⟨As, cs, Ar, cr, Af, cf, Ad, cd, rfl, h1, h2, h3, h4⟩ := hk
 refine Fn.intro Tryz.func6 rfl rfl Tryz.ntmps6 rfl fun E F => ?_
 (repeat (first | ((with_reducible refine Tr.step rfl ?_); (first | (refine xaQ ?_) | ((with_reducible refine Knd.load ?_); (first | (refine xwQ ?_) | (refine Exec.stab rfl (Stab.loadW rfl (tysOk.get rfl) rfl (by repeat (first | exact Has.here | apply Has.there)) (by assumption)) rfl ?_))) | ((with_reducible refine Knd.box ?_); (refine Exec.box rfl rfl (fun b => ?_))))) | (with_reducible first | apply Tr.next | apply Tr.seq | apply Tr.region | apply Tr.nil)))
 ((refine Tr.step rfl ?_)); refine Exec.call0 rfl (few31_fn M ws w hw0 _ k hk0) rfl ?_
 rintro _ _ _ ⟨⟨b, rfl, hb⟩, rfl⟩
 cases b with
 | false =>
  (refine rQ ?_)
  (refine dnQ (hL := by exact ⟨[_, _], rfl⟩) ⟨rfl, ?_⟩)
  exact ⟨⟨false, rfl, fun h => (by cases h)⟩, rfl⟩
 | true =>
 have hf := hb rfl
 have e1 := hf.rl
 have e2 := hf.sl
 (repeat (first | ((with_reducible refine Tr.step rfl ?_); (first | (refine xmQ ?_) | (refine xaQ ?_) | ((with_reducible refine Knd.pick ?_); (first | (refine Exec.stab rfl (Stab.pick_t rfl (by (with_reducible rfl)) rfl) rfl ?_) | (refine Exec.stab rfl (Stab.pick_td rfl (by omega) rfl) rfl ?_))))) | (with_reducible first | apply Tr.next | apply Tr.nil) | ((refine Tr.guard_l rfl rfl rfl (by (with_reducible rfl)) ?_); (first | (refine xlQ ?_) | (refine xfQ ?_) | (refine xnQ ?_) | (refine xiQ ?_))) | ((refine Tr.guard_y rfl rfl rfl (by first | (with_reducible assumption) | omega) ?_); (first | ((with_reducible refine Knd.load ?_); (first | (refine xlQ ?_) | (refine Exec.stab rfl (Stab.load rfl (tysOk.get rfl) rfl (by repeat (first | exact Has.here | apply Has.there)) (by assumption)) rfl ?_))) | (refine xfQ ?_) | (refine xnQ ?_) | (refine xiQ ?_))) | (with_reducible refine Tr.ret ?_)))
 (refine dnQ (hL := by exact ⟨[_, _], rfl⟩) ⟨rfl, ?_⟩)
 exact ⟨⟨_, rfl, fun _ => hf⟩, rfl⟩
set_option maxHeartbeats 2000000 in
theorem rSameI_fn (M : Mem) (p q : List Int) (A B : Option Addr) (c k : Nat) (hp : SlOf 1 RI M (.slice A p.length c) p) (hq : SlOf 1 RI M (.slice B q.length k) q) : Fn0 Tryz.prog 30 [.slice A p.length c, .slice B q.length k] M (fun r M' => r = .bool (decide (p = q)) ∧ M = M') := by
 have l1 := hp.len_le
 have l2 := hq.len_le
 refine Fn.intro Tryz.func30 rfl rfl Tryz.ntmps30 rfl fun E F => ?_
 by_cases hl : p.length = q.length
 rotate_left
 ·(refine rQ ?_)
  (refine dnQ (hL := by exact ⟨[], rfl⟩) ⟨rfl, ?_⟩)
  exact ⟨by rw [decide_eq_false (fun h => hl (congrArg _ h))]; rfl, rfl⟩
 (refine rQ ?_)
 refine Tr.loop (α := Nat) (fun i => ⟨26, [(5, .int .i64 (i : Int)), (0, .slice A p.length c), (1, .slice B q.length k)], [], M, [] ++ F⟩) (fun i => i ≤ p.length ∧ p.take i = q.take i) (fun i => p.length - i) 0 ⟨by simp, by simp⟩ hsQ (fun i hi => ?_)
 obtain ⟨hi, heq⟩ := hi
 by_cases hlt : i < p.length
 ·obtain ⟨x, hx⟩ := get_of_lt hlt
  obtain ⟨y, hy⟩ := get_of_lt (xs := q) (i := i) (by omega)
  obtain ⟨hA, ch1, hat, rfl⟩ := hp.elem hx
  obtain ⟨hB, ch2, hbt, rfl⟩ := hq.elem hy
  skip
  by_cases hk : ¬ x = y
  ·(refine rQ ?_)
   (((apply Tr.draw); (kernel_rfl)); (refine tkQ 0 (hB := by exact fun _ h => h) (s := by exact Stab.move rfl) ?_); (refine tkQ 1 (s := by exact Stab.move rfl) ?_); (refine tkQ 4 (s := by exact Stab.move rfl) ?_); (refine tkQ 5 (s := by exact Stab.move rfl) ?_); (refine tkQ 2 (s := by exact sxQ) ?_); (refine tkQ 6 (s := by exact sxQ) ?_); (refine tkQ 3 (s := by exact sMQ) ?_); (refine tkQ 7 (s := by exact sMQ) ?_); (refine tkQ 8 (s := by exact siQ) ?_); (refine TrA.done (by kernel_rfl) ?_))
   (refine rQ ?_)
   (refine dnQ (hL := by exact ⟨[], rfl⟩) ⟨rfl, ?_⟩)
   exact ⟨by rw [decide_eq_false (fun h => by rw [h, hy] at hx; cases hx; exact hk rfl)]; rfl, rfl⟩
  ·(refine rQ ?_)
   (((apply Tr.draw); (kernel_rfl)); (refine tkQ 0 (hB := by exact fun _ h => h) (s := by exact Stab.move rfl) ?_); (refine tkQ 1 (s := by exact Stab.move rfl) ?_); (refine tkQ 4 (s := by exact Stab.move rfl) ?_); (refine tkQ 5 (s := by exact Stab.move rfl) ?_); (refine tkQ 2 (s := by exact sxQ) ?_); (refine tkQ 6 (s := by exact sxQ) ?_); (refine tkQ 3 (s := by exact sMQ) ?_); (refine tkQ 7 (s := by exact sMQ) ?_); (refine tkQ 8 (s := by exact siQ) ?_); (refine TrA.done (by kernel_rfl) ?_))
   (refine rQ ?_)
   refine Tr.again (i + 1) ⟨by omega, by rw [List.take_add_one, List.take_add_one, hx, hy, heq, Classical.not_not.1 hk]⟩ (by omega) hsQ
 ·have e : i = p.length := by omega
  subst e
  rw [List.take_length, hl, List.take_length] at heq
  (refine rQ ?_)
  (refine dnQ (hL := by exact ⟨[], rfl⟩) ⟨rfl, ?_⟩)
  exact ⟨by rw [decide_eq_true heq]; rfl, rfl⟩
set_option maxHeartbeats 2000000 in
theorem sameKys_fn (M : Mem) (p q : List Ky) (A B : Option Addr) (c k : Nat) (hp : SlOf 3 RKy M (.slice A p.length c) p) (hq : SlOf 3 RKy M (.slice B q.length k) q) : Fn0 Tryz.prog 18 [.slice A p.length c, .slice B q.length k] M (fun r M' => r = .bool (decide (p = q)) ∧ M = M') := by
 have l1 := hp.len_le
 have l2 := hq.len_le
 refine Fn.intro Tryz.func18 rfl rfl Tryz.ntmps18 rfl fun E F => ?_
 by_cases hl : p.length = q.length
 rotate_left
 ·(refine rQ ?_)
  (refine dnQ (hL := by exact ⟨[], rfl⟩) ⟨rfl, ?_⟩)
  exact ⟨by rw [decide_eq_false (fun h => hl (congrArg _ h))]; rfl, rfl⟩
 (refine rQ ?_)
 refine Tr.loop (α := Nat) (fun i => ⟨26, [(5, .int .i64 (i : Int)), (0, .slice A p.length c), (1, .slice B q.length k)], [], M, [] ++ F⟩) (fun i => i ≤ p.length ∧ p.take i = q.take i) (fun i => p.length - i) 0 ⟨by simp, by simp⟩ hsQ (fun i hi => ?_)
 obtain ⟨hi, heq⟩ := hi
 by_cases hlt : i < p.length
 ·obtain ⟨x, hx⟩ := get_of_lt hlt
  obtain ⟨y, hy⟩ := get_of_lt (xs := q) (i := i) (by omega)
  obtain ⟨hA, ch1, hat, rfl⟩ := hp.elem hx
  obtain ⟨hB, ch2, hbt, rfl⟩ := hq.elem hy
  simp only [kyC] at hat hbt
  have hxy : x = y ↔ [x.1, x.2.1, x.2.2] = [y.1, y.2.1, y.2.2] := by
   obtain ⟨a1, a2, a3⟩ := x
   obtain ⟨b1, b2, b3⟩ := y
   simp
  by_cases hk : [x.1, x.2.1, x.2.2] ≠ [y.1, y.2.1, y.2.2]
  ·(refine rQ ?_)
   (((apply Tr.draw); (kernel_rfl)); (refine tkQ 0 (hB := by exact fun _ h => h) (s := by exact Stab.move rfl) ?_); (refine tkQ 1 (s := by exact Stab.move rfl) ?_); (refine tkQ 4 (s := by exact Stab.move rfl) ?_); (refine tkQ 5 (s := by exact Stab.move rfl) ?_); (refine tkQ 2 (s := by exact sxQ) ?_); (refine tkQ 6 (s := by exact sxQ) ?_); (refine tkQ 3 (s := by exact Stab.loadMA rfl (tysOk.get rfl) rfl (by assumption) (by first | rfl | assumption)) ?_); (refine tkQ 7 (s := by exact Stab.loadMA rfl (tysOk.get rfl) rfl (by assumption) (by first | rfl | assumption)) ?_); (refine tkQ 8 (s := by exact Stab.stneL rfl rfl (by repeat (first | exact IntsL.nil | apply IntsL.cons)) (by repeat (first | exact IntsL.nil | apply IntsL.cons)) (tysOk.get rfl) rfl (by kernel_rfl) (by kernel_rfl) rfl rfl) ?_); (refine TrA.done (by kernel_rfl) ?_))
   (refine rQ ?_)
   (refine dnQ (hL := by exact ⟨[], rfl⟩) ⟨rfl, ?_⟩)
   exact ⟨by rw [decide_eq_false (fun h => by rw [h, hy] at hx; cases hx; exact hk rfl)]; rfl, rfl⟩
  ·(refine rQ ?_)
   (((apply Tr.draw); (kernel_rfl)); (refine tkQ 0 (hB := by exact fun _ h => h) (s := by exact Stab.move rfl) ?_); (refine tkQ 1 (s := by exact Stab.move rfl) ?_); (refine tkQ 4 (s := by exact Stab.move rfl) ?_); (refine tkQ 5 (s := by exact Stab.move rfl) ?_); (refine tkQ 2 (s := by exact sxQ) ?_); (refine tkQ 6 (s := by exact sxQ) ?_); (refine tkQ 3 (s := by exact Stab.loadMA rfl (tysOk.get rfl) rfl (by assumption) (by first | rfl | assumption)) ?_); (refine tkQ 7 (s := by exact Stab.loadMA rfl (tysOk.get rfl) rfl (by assumption) (by first | rfl | assumption)) ?_); (refine tkQ 8 (s := by exact Stab.stneL rfl rfl (by repeat (first | exact IntsL.nil | apply IntsL.cons)) (by repeat (first | exact IntsL.nil | apply IntsL.cons)) (tysOk.get rfl) rfl (by kernel_rfl) (by kernel_rfl) rfl rfl) ?_); (refine TrA.done (by kernel_rfl) ?_))
   (refine rQ ?_)
   refine Tr.again (i + 1) ⟨by omega, by rw [List.take_add_one, List.take_add_one, hx, hy, heq, hxy.2 (Classical.not_not.1 hk)]⟩ (by omega) hsQ
 ·have e : i = p.length := by omega
  subst e
  rw [List.take_length, hl, List.take_length] at heq
  (refine rQ ?_)
  (refine dnQ (hL := by exact ⟨[], rfl⟩) ⟨rfl, ?_⟩)
  exact ⟨by rw [decide_eq_true heq]; rfl, rfl⟩
theorem sameInts_fn (M : Mem) (p q : List Int) (A B : Option Addr) (c k : Nat) (hp : Ints M (.slice A p.length c) p) (hq : Ints M (.slice B q.length k) q) : Fn0 Tryz.prog 11 [.slice A p.length c, .slice B q.length k] M (fun r M' => r = .bool (decide (p = q)) ∧ M = M') := by
 refine Fn.intro Tryz.func11 rfl rfl Tryz.ntmps11 rfl fun E F => ?_
 (refine rQ ?_)
 ((refine Tr.step rfl ?_)); refine Exec.call0 rfl (rSameI_fn M p q A B c k hp hq) rfl ?_
 rintro _ _ _ ⟨rfl, rfl⟩
 (refine rQ ?_)
 (refine dnQ (hL := by exact ⟨[], rfl⟩) ⟨rfl, ?_⟩)
 exact ⟨rfl, rfl⟩
end Go.Proofs.YtlifjajcmnkhfaaGreat

/-
 Refusals: requests with some numbers; whether requests can be met.
 Conditions: none.
-/
namespace Go.Proofs.YtlifjajcmnkhfaaGreat
open Go Bf
attribute [local irreducible] Tr Exec Stab HasTy Go.Addr.add IntKind.wrap
set_option maxHeartbeats 8000000 in
set_option maxRecDepth 20000 in
theorem meet_fn (M : Mem) (ws : List Value) (w : Wd) (hw : RWd M ws w) (As Ar : Option Addr) (cs cr : Nat) (s : List Sp) (r : List Rq) (known : Int) (h1 : SlOf 6 RSpC M (.slice As s.length cs) s) (h2 : SlOf 6 RRqC M (.slice Ar r.length cr) r) (hokT : okT s r) :
  Fn0 Tryz.prog 13 [.agg ws.toArray, .slice As s.length cs, .slice Ar r.length cr, .int .i64 known] M (fun v _ => ∃ p : Bool, v = .tuple #[.bool p, .bool true] ∧ (p = true ↔ Feas (pbW w known s r))) := by
 have h11 := hw.len
 have l1 := hokT.1.1
 have l2 := hokT.1.2
 refine Fn.intro Tryz.func13 rfl rfl Tryz.ntmps13 rfl fun E F => ?_
 (repeat (first | ((with_reducible refine Tr.step rfl ?_); (first | (refine xmQ ?_) | (refine xaQ ?_) | ((with_reducible refine Knd.load ?_); (refine Exec.stab rfl (Stab.loadW rfl (tysOk.get rfl) rfl (by repeat (first | exact Has.here | apply Has.there)) (by assumption)) rfl ?_)) | ((with_reducible refine Knd.box ?_); (refine Exec.box rfl rfl (fun b => ?_))))) | (with_reducible first | apply Tr.next | apply Tr.seq | apply Tr.region | apply Tr.nil)))
 generalize b = b4
 ((refine Tr.step rfl ?_)); refine Exec.call0 rfl (table_fn M ws w hw As Ar cs cr s r known h1 h2) rfl ?_
 rintro _ M1 hm1 (⟨hnk, -⟩ | ⟨-, A5, c5, B5, k5, rfl, hf, hrd⟩)
 ·exact absurd hokT hnk
 have h1' := h1.mono RSpC.mono hm1
 have h2' := h2.mono RRqC.mono hm1
 (refine rQ ?_)
 refine Tr.own_nil 3 1 ?_
 refine Tr.loop (α := Nat × Option Addr × Nat) (fun y => ⟨71, [(33, .int .i64 (y.1 : Int)), (32, .int .i64 (s.length : Int)), (31, .slice As s.length cs), (13, .slice y.2.1 y.1 y.2.2), (14, .slice none 0 0), (2, .slice Ar r.length cr), (10, .slice A5 (fitsT w known s r).length c5), (12, .int .i64 0)], [], M1, ownS 3 1 y.2.1 y.1 y.2.2 (intV ((s.take y.1).map (·.amount))) :: (box b4 38 ws :: ([] ++ F))⟩)
  (fun y => y.1 ≤ s.length ∧ y.2.2 ≤ 9223372036854775807) (fun y => s.length - y.1) (0, none, 0) ⟨Nat.zero_le _, by simp⟩ hsQ (fun y hy => ?_)
 obtain ⟨i, A1, c1⟩ := y
 obtain ⟨hi, hc1⟩ := hy
 simp only at hi hc1
 dsimp only
 by_cases hlt : i < s.length
 ·obtain ⟨y, hy⟩ := get_of_lt hlt
  obtain ⟨hA, ch, hat, rfl⟩ := h1'.elem hy
  simp only [spC] at hat
  have e1 := nums_take (·.amount) hy
  (repeat (first | ((with_reducible refine Tr.step rfl ?_); (first | (refine xmQ ?_) | ((with_reducible refine Knd.load ?_); (first | (refine xlQ ?_) | (refine Exec.stab rfl (Stab.loadMA rfl (tysOk.get rfl) rfl (by assumption) (by first | rfl | assumption)) rfl ?_))) | (refine xfQ ?_) | (refine xiQ ?_) | (refine xWQ ?_) | ((with_reducible refine Knd.alloc ?_); (refine Exec.alloc (tysOk.get rfl) rfl rfl (fun b => ?_))) | (refine xxQ ?_) | ((with_reducible refine Knd.buildSlice ?_); (refine Exec.buildSlice (tysOk.get rfl) rfl (tysOk.get rfl) rfl rfl rfl rfl rfl (by repeat (first | exact BuildP.nil | ((apply BuildP.one); (rfl); (rfl); (first | rfl | assumption); (repeat (first | exact SetL.z | apply SetL.s))))) rfl (fun b => ?_))))) | (with_reducible first | apply Tr.next | apply Tr.seq | apply Tr.region | apply Tr.nil | apply Tr.skip | apply Tr.block) | (refine Tr.cond_t rfl (by first | (with_reducible assumption) | omega) ?_)))
  ((refine Tr.step rfl ?_))
  refine Exec.append (news := [.int .i64 y.amount]) rfl rfl (tysOk.get rfl) rfl (tysOk.get rfl) rfl rfl rfl rfl (by repeat (first | exact Del.here | apply Del.there)) (Src.box (by repeat (first | exact Has.here | apply Has.there))) rfl (by intro u hu; simp at hu; subst hu; rfl) (by omega) (by omega) rfl (fun A3 c3 hc3 => ?_)
  refine gvQ (r := box b 3 _) ?_
  rw [show intV ((s.take i).map (·.amount)) ++ [Value.int .i64 y.amount] = intV ((s.take (i + 1)).map (·.amount)) by rw [e1, intV_append]; rfl]
  (refine rQ ?_)
  refine gvQ (r := box _ 73 _) ?_
  exact Tr.again (i + 1, A3, c3) ⟨by simp only; omega, hc3⟩ (by simp only; omega) hsQ
 have ei : i = s.length := by omega
 subst ei
 rw [List.take_length]
 (refine rQ ?_)
 refine Tr.own_nil 3 1 ?_
 refine Tr.loop (α := Nat × Option Addr × Nat) (fun y => ⟨71, [(45, .int .i64 (y.1 : Int)), (44, .int .i64 (r.length : Int)), (43, .slice Ar r.length cr), (14, .slice y.2.1 y.1 y.2.2), (13, .slice A1 s.length c1), (10, .slice A5 (fitsT w known s r).length c5), (12, .int .i64 0)], [], M1, ownS 3 1 y.2.1 y.1 y.2.2 (intV ((r.take y.1).map (·.amount))) :: ownS 3 1 A1 s.length c1 (intV (s.map (·.amount))) :: (box b4 38 ws :: ([] ++ F))⟩)
  (fun y => y.1 ≤ r.length ∧ y.2.2 ≤ 9223372036854775807) (fun y => r.length - y.1) (0, none, 0) ⟨Nat.zero_le _, by simp⟩ hsQ (fun y hy => ?_)
 obtain ⟨i, A2, c2⟩ := y
 obtain ⟨hi, hc2⟩ := hy
 simp only at hi hc2
 dsimp only
 by_cases hlt : i < r.length
 ·obtain ⟨y, hy⟩ := get_of_lt hlt
  obtain ⟨hA, ch, hat, rfl⟩ := h2'.elem hy
  simp only [rqC] at hat
  have e1 := nums_take (·.amount) hy
  (repeat (first | ((with_reducible refine Tr.step rfl ?_); (first | (refine xmQ ?_) | ((with_reducible refine Knd.load ?_); (first | (refine xlQ ?_) | (refine Exec.stab rfl (Stab.loadMA rfl (tysOk.get rfl) rfl (by assumption) (by first | rfl | assumption)) rfl ?_))) | (refine xfQ ?_) | (refine xiQ ?_) | (refine xWQ ?_) | ((with_reducible refine Knd.alloc ?_); (refine Exec.alloc (tysOk.get rfl) rfl rfl (fun b => ?_))) | (refine xxQ ?_) | ((with_reducible refine Knd.buildSlice ?_); (refine Exec.buildSlice (tysOk.get rfl) rfl (tysOk.get rfl) rfl rfl rfl rfl rfl (by repeat (first | exact BuildP.nil | ((apply BuildP.one); (rfl); (rfl); (first | rfl | assumption); (repeat (first | exact SetL.z | apply SetL.s))))) rfl (fun b => ?_))))) | (with_reducible first | apply Tr.next | apply Tr.seq | apply Tr.region | apply Tr.nil | apply Tr.skip | apply Tr.block) | (refine Tr.cond_t rfl (by first | (with_reducible assumption) | omega) ?_)))
  ((refine Tr.step rfl ?_))
  refine Exec.append (news := [.int .i64 y.amount]) rfl rfl (tysOk.get rfl) rfl (tysOk.get rfl) rfl rfl rfl rfl (by repeat (first | exact Del.here | apply Del.there)) (Src.box (by repeat (first | exact Has.here | apply Has.there))) rfl (by intro u hu; simp at hu; subst hu; rfl) (by omega) (by omega) rfl (fun A3 c3 hc3 => ?_)
  refine gvQ (r := box b 3 _) ?_
  rw [show intV ((r.take i).map (·.amount)) ++ [Value.int .i64 y.amount] = intV ((r.take (i + 1)).map (·.amount)) by rw [e1, intV_append]; rfl]
  (refine rQ ?_)
  refine gvQ (r := box _ 46 _) ?_
  exact Tr.again (i + 1, A3, c3) ⟨by simp only; omega, hc3⟩ (by simp only; omega) hsQ
 have ei : i = r.length := by omega
 subst ei
 rw [List.take_length]
 refine pbQ (r := ownS 3 1 A2 _ _ _) (fun M2 hm2 hok => ?_)
 refine pbQ (r := ownS 3 1 A1 _ _ _) (fun M3 hm3 hok2 => ?_)
 have hI1 : Ints M3 (.slice A1 (amS s).length c1) (amS s) := Ints.ofOwn hok2 (by simp [amS]) hc1
 have hI2 : Ints M3 (.slice A2 (amR r).length c2) (amR r) := (Ints.ofOwn hok (by simp) hc2).mono RI.mono hm3
 have hmm := hm2.trans hm3
 have hmm1 := hm1.trans hmm
 rw [show s.length = (amS s).length by simp [amS], show r.length = (amR r).length by simp [amR]]
 have hvld := okT_vld (w := w) (known := known) hokT
 have rs : I64s (amS s) := fun x hx => by have := hvld.rs x hx; omega
 have rn : I64s (amR r) := fun x hx => by have := hvld.rn x hx; omega
 (refine rQ ?_)
 ((refine Tr.step rfl ?_)); refine Exec.call0 rfl (flow_fn M3 A5 A1 A2 c5 c1 c2 (fitsT w known s r) (amS s) (amR r) (hf.mono RRowB.mono hmm) hI1 hI2 rs rn) rfl ?_
 rintro _ M5 hm5 (⟨hbad, -⟩ | ⟨-, hnf, B, kk, rfl, -⟩ | ⟨-, al, hlex, A9, c9, rfl, -⟩)
 ·rw [vld_iff.2 hvld] at hbad
  cases hbad
 ·have hm05 := hmm1.trans hm5
  (refine rQ ?_)
  (refine dnQ (hL := by exact ⟨[_], rfl⟩) ⟨rfl, ?_⟩)
  exact ⟨false, rfl, ⟨fun h => (by cases h), fun h => absurd h hnf⟩⟩
 ·have hm05 := hmm1.trans hm5
  (refine rQ ?_)
  (refine dnQ (hL := by exact ⟨[_], rfl⟩) ⟨rfl, ?_⟩)
  exact ⟨true, rfl, ⟨fun _ => ⟨al, hlex.1⟩, fun _ => rfl⟩⟩
end Go.Proofs.YtlifjajcmnkhfaaGreat

/-
 Refusals: Check.
 Conditions: none.
-/
namespace Go.Proofs.YtlifjajcmnkhfaaGreat
open Go Bf
attribute [local irreducible] Tr Exec Stab HasTy Go.Addr.add IntKind.wrap
def idxN (reqs : List Rq) (n : Int) : Option Nat := (reqs.map (·.no)).findIdx? fun q => decide (q = n)
def posF (reqs : List Rq) : List Int → Nat → Option (List Nat)
 | [], _ => some []
 | n :: l, from_ => match idxN reqs n with
  | none => none
  | some j => if from_ ≤ j then (posF reqs l (j + 1)).map (j :: ·) else none
def MapAt (es : List MapEntry) (l : List Rq) : Prop := IntKeys es ∧ ∀ q : Int, valE q es = (idxN l q).map fun j => .int .i64 (j : Int)
theorem MapAt.nil : MapAt [] [] := ⟨IntKeys.nil, fun q => by simp [valE, lookE, idxN]⟩
theorem MapAt.add {es : List MapEntry} {l : List Rq} (h : MapAt es l) {x : Rq} (hx : x.no ∉ l.map (·.no)) (cl : Nat) : MapAt (updE x.no (.int .i64 (l.length : Int)) es cl).1 (l ++ [x]) := by
 refine ⟨updE_keys h.1, fun q => ?_⟩
 rw [updE_val, h.2 q]
 unfold idxN
 rw [List.map_append, List.findIdx?_append]
 by_cases e : q = x.no
 ·subst e
  rw [if_pos rfl]
  have : (l.map (·.no)).findIdx? (fun q => decide (q = x.no)) = none := by
   rw [List.findIdx?_eq_none_iff]
   intro y hy
   simp only [decide_eq_false_iff_not]
   exact fun h => hx (h ▸ hy)
  rw [this]
  simp
 ·rw [if_neg e]
  have : ([x].map (·.no)).findIdx? (fun q' => decide (q' = q)) = none := by
   rw [List.findIdx?_eq_none_iff]
   intro y hy
   simp at hy
   subst hy
   simp only [decide_eq_false_iff_not]
   exact fun h => e h.symm
  rw [this]
  simp
theorem idxN_lt {reqs : List Rq} {n : Int} {j : Nat} (h : idxN reqs n = some j) : j < reqs.length := by
 have := (List.findIdx?_eq_some_iff_getElem.1 h).1
 simpa using this
def chkF (w : Wd) (k : Bp) (r : Rq) (l : List Int) : Prop := ∃ ps, posF k.reqs l 0 = some ps ∧ CutP (fitsT w k.known k.sups (k.reqs ++ [r])) (amS k.sups) (amR (k.reqs ++ [r])) ((ps ++ [k.reqs.length]).map Int.ofNat)
def CheckV (w : Wd) (k : Bp) (r : Rq) (l : List Int) (v : Value) : Prop :=
 (askE w k r ≠ 0 ∧ v = .tuple #[.bool false, .int .i64 (askE w k r)]) ∨ (askE w k r = 0 ∧ okB w k ∧ ∃ b : Bool, v = .tuple #[.bool b, .int .i64 0] ∧ (b = true ↔ chkF w k r l))
theorem getD_last {ps : List Nat} {m j : Nat} (hl : ps.length = m + 1) (h : ps[m]? = some j) : (intV (ps.map Int.ofNat))[((ps.length : Int) - 1).toNat]? = some (.int .i64 (j : Int)) := by
 have e : ((ps.length : Int) - 1).toNat = m := by omega
 rw [e]
 simp [intV, h]
set_option maxHeartbeats 16000000 in
set_option maxRecDepth 20000 in
theorem rcheck_fn (M : Mem) (ws : List Value) (w : Wd) (hw : RWd M ws w) (v : Value) (k : Bp) (hk : RBp M v k) (r : Rq) (A : Option Addr) (c : Nat) (l : List Int) (hl : Ints M (.slice A l.length c) l) (hll : l.length ≤ 1000) :
  Fn0 Tryz.prog 9 [.agg ws.toArray, v, .agg #[.int .i64 r.no, .int .i64 r.item, .int .i64 r.cust, .int .i64 r.due, .int .i64 r.shelf, .int .i64 r.amount], .slice A l.length c] M (fun v _ => CheckV w k r l v) := by
 have h11 := hw.len
 have hk0 := hk
 obtain ⟨As, cs, Ar, cr, Af, cf, Ad, cd, rfl, h1, h2, h3, h4⟩ := hk
 have hl3 := h3.len_le
 refine Fn.intro Tryz.func9 rfl rfl Tryz.ntmps9 rfl fun E F => ?_
 (repeat (first | ((with_reducible refine Tr.step rfl ?_); (first | (refine xaQ ?_) | ((with_reducible refine Knd.load ?_); (first | (refine xwQ ?_) | (refine Exec.stab rfl (Stab.loadW rfl (tysOk.get rfl) rfl (by repeat (first | exact Has.here | apply Has.there)) (by assumption)) rfl ?_))) | ((with_reducible refine Knd.box ?_); (refine Exec.box rfl rfl (fun b => ?_))))) | (with_reducible first | apply Tr.next | apply Tr.seq | apply Tr.region | apply Tr.nil)))
 rename_i b4 b5
 generalize b = b6
 ((refine Tr.step rfl ?_)); refine Exec.call0 rfl (askA_fn M ws w hw _ k hk0 hl3 r) rfl ?_
 rintro _ M1 hm1 (⟨hask, hv, x, a, rfl, -⟩ | ⟨hne, rfl⟩)
 rotate_left
 ·(refine rQ ?_)
  (refine dnQ (hL := by exact ⟨[_, _, _], rfl⟩) ⟨rfl, ?_⟩)
  exact .inl ⟨hne, rfl⟩
 obtain ⟨-, hno, hok⟩ := askE_zero hask
 have l64 := hv.2.1.1
 (refine rQ ?_)
 (((apply Tr.draw); (kernel_rfl)); (refine tkQ 0 (hB := by exact fun _ h => h) (s := by exact sfQ) ?_); (refine tkQ 3 (s := by exact swQ) ?_); (refine tkQ 1 (s := by exact slQ) ?_))
 ((refine TrM.start1 _ (PA.build1 4 [(37, .agg #[.int .i64 r.no, .int .i64 r.item, .int .i64 r.cust, .int .i64 r.due, .int .i64 r.shelf, .int .i64 r.amount])] rfl (by exact .inl rfl) rfl (tysOk.get rfl) rfl (tysOk.get rfl) rfl rfl rfl rfl rfl (by first | rfl | assumption) rfl) (by kernel_rfl) ?_); (refine TrM.eff 2 rfl (by kernel_rfl) (by exact .inl rfl) (by repeat (first | exact PendOk.nil | refine PendOk.cons rfl (by repeat (first | exact SubFr.nil | refine SubFr.cons rfl ?_)) ?_)) (by exact fun _ h => h) (by repeat (first | apply AppF.cons | exact AppF.nil)) (by repeat (first | apply AppF.cons | exact AppF.app)) (fun Y X => ?_)))
 refine Exec.call (A := []) rfl (cloneRq_fn M1 Ar cr k.reqs (h2.mono RRqC.mono hm1) (by omega)) (List.Perm.refl _) rfl ?_
 rintro _ _ _ _ ⟨⟨B6, k6, rfl, hk6, rfl⟩, rfl⟩
 (refine ⟨_, _, (by repeat (first | apply App.cons | exact App.nil | exact App.app)), (by repeat (first | apply App.cons | exact App.nil | exact App.app)), rfl, (by first | exact Mem.le.refl _ | assumption), (by exact (Sub.mem (by repeat (first | exact Sub.refl | apply Sub.cons)))), ?_⟩)
 ((refine TrM.settle (by kernel_rfl) (by repeat (first | exact PendOk.nil | refine PendOk.cons rfl (by repeat (first | exact SubFr.nil | refine SubFr.cons rfl ?_)) ?_)) (by exact (Sub.mem (by repeat (first | exact Sub.refl | apply Sub.cons)))) (fun b => ?_)); dsimp only; (refine TrM.fin ?_))
 ((refine TrA.eff 5 rfl (by kernel_rfl) (by exact .inl rfl) ?_))
 refine Exec.append (news := rqC r) rfl rfl (tysOk.get rfl) rfl (tysOk.get rfl) rfl rfl rfl rfl (by repeat (first | exact Del.here | apply Del.there)) (Src.box (by repeat (first | exact Has.here | apply Has.there))) rfl (rqC_one _) (by omega) (by omega) rfl (fun A8 c8 hc8 => ?_)
 refine ⟨(by first | exact Mem.le.refl _ | assumption), (by exact (Sub.mem (by repeat (first | exact Sub.refl | apply Sub.cons)))), ?_⟩
 ((refine tkQ 6 (s := by exact Stab.assign rfl) ?_); (refine TrA.done (by kernel_rfl) ?_))
 rw [show k.reqs.flatMap rqC ++ rqC r = (k.reqs ++ [r]).flatMap rqC by rw [List.flatMap_append]; simp, show k.reqs.length + 1 = (k.reqs ++ [r]).length by simp]
 refine pbQ (r := ownS 46 6 _ _ _ _) (fun M8 hm8 hok8 => ?_)
 have hR8 : SlOf 6 RRqC M8 (.slice A8 (k.reqs ++ [r]).length c8) (k.reqs ++ [r]) := SlOf.ofOwn hok8 rfl hc8 (rqC_elems _ _)
 have hm08 := hm1.trans hm8
 refine gvQ (r := box b6 _ _) ?_
 refine gvQ (r := box _ 46 _) ?_
 (repeat (first | ((with_reducible refine Tr.step rfl ?_); (first | (refine xmQ ?_) | ((with_reducible refine Knd.load ?_); (first | (refine xlQ ?_) | (refine Exec.stab rfl (Stab.loadW rfl (tysOk.get rfl) rfl (by repeat (first | exact Has.here | apply Has.there)) (by assumption)) rfl ?_))) | (refine xfQ ?_))) | (with_reducible first | apply Tr.next | apply Tr.seq | apply Tr.region)))
 ((refine Tr.step rfl ?_)); refine Exec.call0 rfl (table_fn M8 ws w (hw.mono hm08) As A8 cs c8 k.sups (k.reqs ++ [r]) k.known (h1.mono RSpC.mono hm08) hR8) rfl ?_
 rintro _ M5 hm5 (⟨hnk, -⟩ | ⟨-, A5, c5, B5, k5, rfl, hf, hrd⟩)
 ·exact absurd hok hnk
 have hm05 := hm08.trans hm5
 have h2' := h2.mono RRqC.mono hm05
 have hl' : Ints M5 (.slice A l.length c) l := hl.mono RI.mono hm05
 (repeat (first | ((with_reducible refine Tr.step rfl ?_); (first | (refine xmQ ?_) | (refine xaQ ?_) | (refine xlQ ?_) | (refine xfQ ?_) | (refine xnQ ?_) | (refine xiQ ?_) | ((with_reducible refine Knd.makeMap ?_); (refine Exec.makeMap rfl (fun b => ?_))) | ((with_reducible refine Knd.extract ?_); (refine Exec.stab rfl (Stab.extract rfl rfl) rfl ?_)))) | (with_reducible first | apply Tr.next | apply Tr.seq | apply Tr.region | apply Tr.nil | apply Tr.skip | apply Tr.block) | (refine Tr.cond_f rfl (by first | (with_reducible assumption) | (with_reducible exact (not_not_intro rfl))) ?_)))
 generalize b = mb
 refine Tr.loop (α := Nat × List MapEntry × Nat) (fun y => ⟨121, [(58, .int .i64 (y.1 : Int)), (57, .int .i64 (k.reqs.length : Int)), (56, .slice Ar k.reqs.length cr), (13, .map (some mb)), (3, .slice A l.length c), (5, .pointer (some ⟨b5, 0, none⟩)), (10, .slice A8 (k.reqs ++ [r]).length c8), (11, .slice A5 (fitsT w k.known k.sups (k.reqs ++ [r])).length c5)], [], M5, mapR mb y.2.1 y.2.2 :: box b5 44 [.int .i64 k.known, .slice As k.sups.length cs, .slice Ar k.reqs.length cr, .slice Af k.fits.length cf, .slice Ad k.rds.length cd] :: box b4 38 ws :: ([] ++ F)⟩)
  (fun y => y.1 ≤ k.reqs.length ∧ MapAt y.2.1 (k.reqs.take y.1)) (fun y => k.reqs.length - y.1) (0, [], 0) ⟨Nat.zero_le _, MapAt.nil⟩ hsQ (fun y hy => ?_)
 obtain ⟨i, es, cl⟩ := y
 obtain ⟨hi, hn⟩ := hy
 simp only at hi hn
 dsimp only
 by_cases hlt : i < k.reqs.length
 ·obtain ⟨x, hx⟩ := get_of_lt hlt
  obtain ⟨hA, ch, hat, rfl⟩ := h2'.elem hx
  simp only [rqC] at hat
  have hkeys := hn.1
  (repeat (first | ((with_reducible refine Tr.step rfl ?_); (first | (refine xmQ ?_) | (refine xaQ ?_) | ((with_reducible refine Knd.load ?_); (first | (refine xlQ ?_) | (refine Exec.stab rfl (Stab.loadMA rfl (tysOk.get rfl) rfl (by assumption) (by first | rfl | assumption)) rfl ?_))) | (refine xfQ ?_) | ((with_reducible refine Knd.binOp ?_); (first | (refine xdQ ?_) | (refine xiQ ?_))) | (refine xWQ ?_) | ((with_reducible refine Knd.alloc ?_); (refine Exec.alloc (tysOk.get rfl) rfl rfl (fun b => ?_))) | ((with_reducible refine Knd.mapUpdate ?_); (refine Exec.mapUpdate rfl rfl rfl (tysOk.get rfl) rfl (tysOk.get rfl) rfl (by assumption) (by repeat (first | exact Upd.here | apply Upd.there)) ?_)) | (refine xxQ ?_))) | (with_reducible first | apply Tr.next | apply Tr.seq | apply Tr.region | apply Tr.nil | apply Tr.skip | apply Tr.block | apply Tr.in_normal) | (refine Tr.cond_t rfl (by first | (with_reducible assumption) | omega) ?_)))
  refine Tr.again (i + 1, (updE x.no (.int .i64 (i : Int)) es cl).1, (updE x.no (.int .i64 (i : Int)) es cl).2) ⟨by simp only; omega, ?_⟩ (by simp only; omega) hsQ
  simp only
  have hti : (k.reqs.take i).length = i := by simp; omega
  have hnew : x.no ∉ (k.reqs.take i).map (·.no) := by
   have hnd := hv.1.1
   have h2 := nums_take (·.no) hx
   have h3 : ((k.reqs.take (i + 1)).map (·.no)).Nodup := hnd.sublist ((List.take_sublist _ _).map _)
   rw [h2, List.nodup_append] at h3
   exact fun h => h3.2.2 x.no h x.no (by simp) rfl
  have := hn.add hnew cl
  rw [hti] at this
  rw [List.take_add_one, hx]
  exact this
 have ei : i = k.reqs.length := by omega
 subst ei
 rw [List.take_length] at hn
 have hkeys := hn.1
 (refine rQ ?_)
 refine Tr.own_nil 3 1 ?_
 refine Tr.loop (α := Nat × List Nat × Option Addr × Nat) (fun y => ⟨121, [(70, .int .i64 (y.1 : Int)), (69, .int .i64 (l.length : Int)), (68, .slice A l.length c), (16, .slice y.2.2.1 y.2.1.length y.2.2.2), (13, .map (some mb)), (5, .pointer (some ⟨b5, 0, none⟩)), (10, .slice A8 (k.reqs ++ [r]).length c8), (11, .slice A5 (fitsT w k.known k.sups (k.reqs ++ [r])).length c5)], [], M5, ownS 3 1 y.2.2.1 y.2.1.length y.2.2.2 (intV (y.2.1.map Int.ofNat)) :: mapR mb es cl :: box b5 44 [.int .i64 k.known, .slice As k.sups.length cs, .slice Ar k.reqs.length cr, .slice Af k.fits.length cf, .slice Ad k.rds.length cd] :: box b4 38 ws :: ([] ++ F)⟩)
  (fun y => y.1 ≤ l.length ∧ y.2.1.length = y.1 ∧ y.2.2.2 ≤ 9223372036854775807 ∧ posF k.reqs l 0 = (posF k.reqs (l.drop y.1) (match y.2.1.getLast? with | none => 0 | some j => j + 1)).map (y.2.1 ++ ·)) (fun y => l.length - y.1) (0, [], none, 0) ⟨Nat.zero_le _, rfl, by simp, by simp⟩ hsQ (fun y hy => ?_)
 obtain ⟨i, ps, C, cc⟩ := y
 obtain ⟨hi, hpl, hcc, hpos⟩ := hy
 simp only at hi hpl hcc hpos
 dsimp only
 have hmk : ∀ (b : Bool), (b = true ↔ chkF w k r l) → CheckV w k r l (.tuple #[.bool b, .int .i64 0]) := fun b hb => .inr ⟨hask, hv, b, rfl, hb⟩
 by_cases hlt : i < l.length
 ·obtain ⟨n, hx⟩ := get_of_lt hlt
  obtain ⟨hA, hat⟩ := hl'.at hx
  have hd : l.drop i = n :: l.drop (i + 1) := by
   obtain ⟨h1, rfl⟩ := List.getElem?_eq_some_iff.1 hx
   exact List.drop_eq_getElem_cons h1
  rw [hd, posF] at hpos
  have hval := hn.2 n
  cases hidx : idxN k.reqs n with
  | none =>
   rw [hidx] at hpos hval
   have hv0 : valE n es = none := hval
   (repeat (first | ((with_reducible refine Tr.step rfl ?_); (first | (refine xmQ ?_) | (refine xaQ ?_) | (refine xMQ ?_) | (refine xiQ ?_) | ((with_reducible refine Knd.pick ?_); (refine Exec.stab rfl (Stab.pick_t rfl (by (with_reducible exact Bool.not_false)) rfl) rfl ?_)) | ((with_reducible refine Knd.unOp ?_); (refine Exec.stab rfl (Stab.not rfl) rfl ?_)) | ((with_reducible refine Knd.lookup ?_); (refine Exec.stab rfl (Stab.lookup2n rfl rfl (tysOk.get rfl) rfl (tysOk.get rfl) rfl (tysOk.get rfl) rfl (by repeat (first | exact Has.here | apply Has.there)) (by assumption) (by assumption)) rfl ?_)) | ((with_reducible refine Knd.extract ?_); (refine Exec.stab rfl (Stab.extract rfl rfl) rfl ?_)) | (refine xxQ ?_))) | (with_reducible first | apply Tr.next | apply Tr.seq | apply Tr.region | apply Tr.nil) | (refine Tr.guard_s0 rfl rfl rfl (by first | (with_reducible rfl) | (with_reducible exact Bool.not_false)) rfl rfl ?_) | (refine Tr.guard_u rfl rfl rfl rfl rfl ?_) | (with_reducible first | apply Tr.skip | apply Tr.block | apply Tr.ret | apply Tr.then_ret | apply Tr.in_ret) | (refine Tr.cond_bt rfl (by (with_reducible rfl)) ?_) | (refine Tr.cond_t rfl (by first | (with_reducible assumption) | omega) ?_)))
   (refine dnQ (hL := by exact ⟨[_, _, _, _], rfl⟩) ⟨rfl, ?_⟩)
   exact hmk false ⟨fun h => (by cases h), fun ⟨ps', h1, _⟩ => (by rw [h1] at hpos; cases hpos)⟩
  | some j =>
   rw [hidx] at hpos hval
   have hjl := idxN_lt hidx
   have hv0 : valE n es = some (.int .i64 (j : Int)) := hval
   simp only at hpos
   by_cases hz : 0 < ps.length
   ·obtain ⟨m, hm⟩ : ∃ m, ps.length = m + 1 := ⟨ps.length - 1, by omega⟩
    obtain ⟨last, hlast⟩ := get_of_lt (xs := ps) (i := m) (by omega)
    have hgl : ps.getLast? = some last := by rw [List.getLast?_eq_getElem?, hm]; exact hlast
    have hload := getD_last hm hlast
    rw [hgl] at hpos
    simp only at hpos
    refine Tr.own_some C (by repeat (first | exact Has.here | apply Has.there)) hz (fun hCs => ?_)
    by_cases hle : (j : Int) ≤ (last : Int)
    ·rw [if_neg (by omega)] at hpos
     (repeat (first | ((with_reducible refine Tr.step rfl ?_); (first | (refine xmQ ?_) | (refine xaQ ?_) | (refine xMQ ?_) | (refine xiQ ?_) | ((with_reducible refine Knd.pick ?_); (refine Exec.stab rfl (Stab.pick_f rfl (by (with_reducible exact Bool.not_true)) rfl) rfl ?_)) | ((with_reducible refine Knd.unOp ?_); (refine Exec.stab rfl (Stab.not rfl) rfl ?_)) | ((with_reducible refine Knd.lookup ?_); (refine Exec.stab rfl (Stab.lookup2s rfl rfl (tysOk.get rfl) rfl (tysOk.get rfl) rfl (tysOk.get rfl) (by repeat (first | exact Has.here | apply Has.there)) (by assumption) (by assumption)) rfl ?_)) | ((with_reducible refine Knd.extract ?_); (refine Exec.stab rfl (Stab.extract rfl rfl) rfl ?_)) | (refine xxQ ?_))) | (with_reducible first | apply Tr.next | apply Tr.seq | apply Tr.region | apply Tr.nil) | ((refine Tr.guard_l rfl rfl rfl (by first | (with_reducible rfl) | (with_reducible exact Bool.not_true)) ?_); (first | (refine xmQ ?_) | (refine xnQ ?_) | (refine xiQ ?_) | ((with_reducible refine Knd.pick ?_); (refine Exec.stab rfl (Stab.pick_td rfl (by omega) rfl) rfl ?_)))) | ((refine Tr.guard_y rfl rfl rfl (by first | (with_reducible assumption) | omega) ?_); (first | (refine xmQ ?_) | ((with_reducible refine Knd.load ?_); (refine Exec.stab rfl (Stab.loadO rfl (tysOk.get rfl) rfl (by repeat (first | exact Has.here | apply Has.there)) (by assumption)) rfl ?_)) | (refine xnQ ?_) | ((with_reducible refine Knd.binOp ?_); (first | (refine Exec.stab rfl (Stab.subi rfl rfl (by omega)) rfl ?_) | (refine xiQ ?_))) | (refine xxQ ?_))) | (with_reducible first | apply Tr.skip | apply Tr.block | apply Tr.ret | apply Tr.then_ret | apply Tr.in_ret) | (refine Tr.cond_t rfl (by first | (with_reducible assumption) | omega) ?_)))
     (refine dnQ (hL := by exact ⟨[_, _, _, _], rfl⟩) ⟨rfl, ?_⟩)
     exact hmk false ⟨fun h => (by cases h), fun ⟨ps', h1, _⟩ => (by rw [h1] at hpos; cases hpos)⟩
    ·rw [if_pos (by omega)] at hpos
     (repeat (first | ((with_reducible refine Tr.step rfl ?_); (first | (refine xmQ ?_) | (refine xaQ ?_) | (refine xMQ ?_) | (refine xiQ ?_) | ((with_reducible refine Knd.pick ?_); (refine Exec.stab rfl (Stab.pick_f rfl (by (with_reducible exact Bool.not_true)) rfl) rfl ?_)) | ((with_reducible refine Knd.unOp ?_); (refine Exec.stab rfl (Stab.not rfl) rfl ?_)) | ((with_reducible refine Knd.lookup ?_); (refine Exec.stab rfl (Stab.lookup2s rfl rfl (tysOk.get rfl) rfl (tysOk.get rfl) rfl (tysOk.get rfl) (by repeat (first | exact Has.here | apply Has.there)) (by assumption) (by assumption)) rfl ?_)) | ((with_reducible refine Knd.extract ?_); (refine Exec.stab rfl (Stab.extract rfl rfl) rfl ?_)) | (refine xxQ ?_) | ((with_reducible refine Knd.buildSlice ?_); (refine Exec.buildSlice (tysOk.get rfl) rfl (tysOk.get rfl) rfl rfl rfl rfl rfl (by repeat (first | exact BuildP.nil | ((apply BuildP.one); (rfl); (rfl); (first | rfl | assumption); (repeat (first | exact SetL.z | apply SetL.s))))) rfl (fun b => ?_))))) | (with_reducible first | apply Tr.next | apply Tr.seq | apply Tr.region | apply Tr.nil) | ((refine Tr.guard_l rfl rfl rfl (by first | (with_reducible rfl) | (with_reducible exact Bool.not_true)) ?_); (first | (refine xmQ ?_) | (refine xnQ ?_) | (refine xiQ ?_) | ((with_reducible refine Knd.pick ?_); (refine Exec.stab rfl (Stab.pick_td rfl (by omega) rfl) rfl ?_)))) | ((refine Tr.guard_y rfl rfl rfl (by first | (with_reducible assumption) | omega) ?_); (first | (refine xmQ ?_) | ((with_reducible refine Knd.load ?_); (refine Exec.stab rfl (Stab.loadO rfl (tysOk.get rfl) rfl (by repeat (first | exact Has.here | apply Has.there)) (by assumption)) rfl ?_)) | (refine xnQ ?_) | ((with_reducible refine Knd.binOp ?_); (first | (refine Exec.stab rfl (Stab.subi rfl rfl (by omega)) rfl ?_) | (refine xiQ ?_))) | (refine xxQ ?_))) | (with_reducible first | apply Tr.skip | apply Tr.block) | (refine Tr.cond_t rfl (by first | (with_reducible assumption) | omega) ?_) | (refine Tr.cond_f rfl (by (with_reducible assumption)) ?_)))
     ((refine Tr.step rfl ?_))
     refine Exec.append (news := [.int .i64 (j : Int)]) rfl rfl (tysOk.get rfl) rfl (tysOk.get rfl) rfl rfl rfl rfl (by repeat (first | exact Del.here | apply Del.there)) (Src.box (by repeat (first | exact Has.here | apply Has.there))) rfl (by intro u hu; simp at hu; subst hu; rfl) (by omega) (by omega) rfl (fun C2 cc2 hcc2 => ?_)
     refine gvQ (r := box _ 3 _) ?_
     rw [show intV (ps.map Int.ofNat) ++ [Value.int .i64 (j : Int)] = intV ((ps ++ [j]).map Int.ofNat) by simp [intV], show ps.length + 1 = (ps ++ [j]).length by simp]
     (refine rQ ?_)
     refine Tr.again (i + 1, ps ++ [j], C2, cc2) ⟨by simp only; omega, by simp only [List.length_append, List.length_singleton]; omega, hcc2, ?_⟩ (by simp only; omega) hsQ
     simp only [List.getLast?_append, List.getLast?_singleton, Option.some_or]
     rw [hpos, Option.map_map]
     cases posF k.reqs (l.drop (i + 1)) (j + 1) <;> simp
   ·have hps : ps = [] := List.eq_nil_of_length_eq_zero (by omega)
    subst hps
    simp only [List.getLast?_nil, Nat.zero_le, if_true] at hpos
    (repeat (first | ((with_reducible refine Tr.step rfl ?_); (first | (refine xmQ ?_) | (refine xaQ ?_) | (refine xMQ ?_) | (refine xiQ ?_) | ((with_reducible refine Knd.pick ?_); (refine Exec.stab rfl (Stab.pick_f rfl (by (with_reducible exact Bool.not_true)) rfl) rfl ?_)) | ((with_reducible refine Knd.unOp ?_); (refine Exec.stab rfl (Stab.not rfl) rfl ?_)) | ((with_reducible refine Knd.lookup ?_); (refine Exec.stab rfl (Stab.lookup2s rfl rfl (tysOk.get rfl) rfl (tysOk.get rfl) rfl (tysOk.get rfl) (by repeat (first | exact Has.here | apply Has.there)) (by assumption) (by assumption)) rfl ?_)) | ((with_reducible refine Knd.extract ?_); (refine Exec.stab rfl (Stab.extract rfl rfl) rfl ?_)) | (refine xxQ ?_) | ((with_reducible refine Knd.buildSlice ?_); (refine Exec.buildSlice (tysOk.get rfl) rfl (tysOk.get rfl) rfl rfl rfl rfl rfl (by repeat (first | exact BuildP.nil | ((apply BuildP.one); (rfl); (rfl); (first | rfl | assumption); (repeat (first | exact SetL.z | apply SetL.s))))) rfl (fun b => ?_))))) | (with_reducible first | apply Tr.next | apply Tr.seq | apply Tr.region | apply Tr.nil) | ((refine Tr.guard_l rfl rfl rfl (by first | (with_reducible rfl) | (with_reducible exact Bool.not_true)) ?_); (first | (refine xmQ ?_) | (refine xnQ ?_) | (refine xiQ ?_) | ((with_reducible refine Knd.pick ?_); (refine Exec.stab rfl (Stab.pick_fd rfl (by omega) rfl) rfl ?_)))) | (refine Tr.guard_n rfl rfl rfl (by first | (with_reducible assumption) | omega) rfl rfl ?_) | (with_reducible first | apply Tr.skip | apply Tr.block) | (refine Tr.cond_bf rfl (by (with_reducible rfl)) ?_) | (refine Tr.cond_t rfl (by first | (with_reducible assumption) | omega) ?_)))
    ((refine Tr.step rfl ?_))
    refine Exec.append (news := [.int .i64 (j : Int)]) rfl rfl (tysOk.get rfl) rfl (tysOk.get rfl) rfl rfl rfl rfl (by repeat (first | exact Del.here | apply Del.there)) (Src.box (by repeat (first | exact Has.here | apply Has.there))) rfl (by intro u hu; simp at hu; subst hu; rfl) (by omega) (by omega) rfl (fun C2 cc2 hcc2 => ?_)
    refine gvQ (r := box _ 3 _) ?_
    (refine rQ ?_)
    refine Tr.again (i + 1, [j], C2, cc2) ⟨by simp only; omega, by simp only [List.length_singleton]; simp only [List.length_nil] at hpl; omega, hcc2, ?_⟩ (by simp only; omega) hsQ
    simp only [List.getLast?_singleton]
    rw [hpos, Option.map_map]
    cases posF k.reqs (l.drop (i + 1)) (j + 1) <;> simp
 have ei : i = l.length := by omega
 subst ei
 have hpos2 : posF k.reqs l 0 = some ps := by rw [hpos, List.drop_length]; simp [posF]
 (refine rQ ?_)
 ((refine Tr.step rfl ?_)); refine Exec.call0 rfl (ramounts_fn M5 k.sups (k.reqs ++ [r]) As A8 cs c8 (h1.mono RSpC.mono hm05) (hR8.mono RRqC.mono hm5) (by omega) (by simp; omega)) rfl ?_
 rintro _ M6 hm6 ⟨P1, q1, P2, q2, rfl, hI1, hI2⟩
 (repeat (first | ((with_reducible refine Tr.step rfl ?_); (first | (refine xmQ ?_) | (refine xaQ ?_) | (refine xlQ ?_) | (refine xfQ ?_) | (refine xnQ ?_) | ((with_reducible refine Knd.extract ?_); (refine Exec.stab rfl (Stab.extract rfl rfl) rfl ?_)) | ((with_reducible refine Knd.buildSlice ?_); (refine Exec.buildSlice (tysOk.get rfl) rfl (tysOk.get rfl) rfl rfl rfl rfl rfl (by repeat (first | exact BuildP.nil | ((apply BuildP.one); (rfl); (rfl); (first | rfl | assumption); (repeat (first | exact SetL.z | apply SetL.s))))) rfl (fun b => ?_))))) | (with_reducible first | apply Tr.next | apply Tr.seq | apply Tr.region | apply Tr.nil)))
 ((refine Tr.step rfl ?_))
 refine Exec.append (news := [.int .i64 (k.reqs.length : Int)]) rfl rfl (tysOk.get rfl) rfl (tysOk.get rfl) rfl rfl rfl rfl (by repeat (first | exact Del.here | apply Del.there)) (Src.box (by repeat (first | exact Has.here | apply Has.there))) rfl (by intro u hu; simp at hu; subst hu; rfl) (by omega) (by omega) rfl (fun C2 cc2 hcc2 => ?_)
 refine gvQ (r := box _ 3 _) ?_
 rw [show intV (ps.map Int.ofNat) ++ [Value.int .i64 (k.reqs.length : Int)] = intV ((ps ++ [k.reqs.length]).map Int.ofNat) by simp [intV], show ps.length + 1 = ((ps ++ [k.reqs.length]).map Int.ofNat).length by simp]
 refine pbQ (r := ownS 3 1 C2 _ _ _) (fun M7 hm7 hok7 => ?_)
 have hvld := okT_vld (w := w) (known := k.known) hok
 have rs : I64s (amS k.sups) := fun x hx => by have := hvld.rs x hx; omega
 have rn : I64s (amR (k.reqs ++ [r])) := fun x hx => by have := hvld.rn x hx; omega
 have hm67 := hm6.trans hm7
 have hm07 := hm05.trans hm67
 (skip)
 ((refine Tr.step rfl ?_)); refine Exec.call0 rfl (cut_fn M7 A5 P1 P2 C2 c5 q1 q2 cc2 (fitsT w k.known k.sups (k.reqs ++ [r])) (amS k.sups) (amR (k.reqs ++ [r])) ((ps ++ [k.reqs.length]).map Int.ofNat) (hf.mono RRowB.mono hm67) (hI1.mono RI.mono hm7) (hI2.mono RI.mono hm7) (Ints.ofOwn hok7 rfl hcc2) rs rn) rfl ?_
 rintro _ _ _ ⟨⟨hbad, -⟩ | ⟨-, b, rfl, hb⟩, rfl⟩
 ·rw [vld_iff.2 hvld] at hbad
  cases hbad
 (refine rQ ?_)
 (refine dnQ (hL := by exact ⟨[_, _, _], rfl⟩) ⟨rfl, ?_⟩)
 refine hmk b ⟨fun h => ⟨ps, hpos2, hb.1 h⟩, fun ⟨ps', h1, h2⟩ => hb.2 ?_⟩
 rw [hpos2] at h1
 cases h1
 exact h2
end Go.Proofs.YtlifjajcmnkhfaaGreat

/-
 The reference's classes: is a supply, is a request valid?
 Conditions: none.
-/
namespace Go.Proofs.YtlifjajcmnkhfaaGreat
open Go Bf
attribute [local irreducible] Tr Exec Stab HasTy Go.Addr.add IntKind.wrap
theorem rin_fn (M : Mem) (n lo hi : Int) : Fn0 Tryz.prog 103 [.int .i64 n, .int .i64 lo, .int .i64 hi] M (fun r M' => r = .bool (decide (lo ≤ n ∧ n ≤ hi)) ∧ M = M') := by
 refine Fn.intro Tryz.func103 rfl rfl Tryz.ntmps103 rfl fun E F => ?_
 by_cases h1 : n ≥ lo
 ·(refine rQ ?_)
  (refine dnQ (hL := by exact ⟨[], rfl⟩) ⟨rfl, ?_⟩)
  refine ⟨?_, rfl⟩
  rw [show decide (lo ≤ n ∧ n ≤ hi) = decide (n ≤ hi) from decide_eq_decide.2 ⟨fun h => h.2, fun h => ⟨h1, h⟩⟩]
  rfl
 ·(refine rQ ?_)
  (refine dnQ (hL := by exact ⟨[], rfl⟩) ⟨rfl, ?_⟩)
  refine ⟨?_, rfl⟩
  rw [show decide (lo ≤ n ∧ n ≤ hi) = false from decide_eq_false (fun h => h1 h.1)]
  rfl
set_option maxHeartbeats 4000000 in
theorem rSupply_fn (M : Mem) (s : Sp) : Fn0 Tryz.prog 63 [.agg #[.int .i64 s.no, .int .i64 s.item, .int .i64 s.plant, .int .i64 s.ready, .int .i64 s.expiry, .int .i64 s.amount]] M (fun x M' => x = .bool (decide (okSp s)) ∧ M = M') := by
 refine Fn.intro Tryz.func63 rfl rfl Tryz.ntmps63 rfl fun E F => ?_
 (repeat (first | ((with_reducible refine Tr.step rfl ?_); (first | (refine xaQ ?_) | (refine xlQ ?_) | (refine xfQ ?_) | ((with_reducible refine Knd.box ?_); (refine Exec.box rfl rfl (fun b => ?_))))) | (with_reducible first | apply Tr.next | apply Tr.seq | apply Tr.region | apply Tr.nil)))
 ((refine Tr.step rfl ?_)); refine Exec.call0 rfl (rin_fn M s.no 0 1023) rfl ?_
 rintro _ _ _ ⟨rfl, rfl⟩
 by_cases h0 : 0 ≤ s.no ∧ s.no ≤ 1023
 rotate_left
 ·rw [show decide (0 ≤ s.no ∧ s.no ≤ 1023) = false from decide_eq_false h0]
  (refine rQ ?_)
  (refine dnQ (hL := by exact ⟨[_], rfl⟩) ⟨rfl, ?_⟩)
  exact ⟨by rw [decide_eq_false (fun h => h0 h.1)]; rfl, rfl⟩
 rw [show decide (0 ≤ s.no ∧ s.no ≤ 1023) = true from decide_eq_true h0]
 (refine rQ ?_)
 ((refine Tr.guard_l rfl rfl rfl (by (with_reducible rfl)) ?_)); refine Exec.call0 rfl (rin_fn M s.item 0 31) rfl ?_
 rintro _ _ _ ⟨rfl, rfl⟩
 by_cases h1 : 0 ≤ s.item ∧ s.item ≤ 31
 rotate_left
 ·rw [show decide (0 ≤ s.item ∧ s.item ≤ 31) = false from decide_eq_false h1]
  (refine rQ ?_)
  (refine dnQ (hL := by exact ⟨[_], rfl⟩) ⟨rfl, ?_⟩)
  exact ⟨by rw [decide_eq_false (fun h => h1 h.2.1)]; rfl, rfl⟩
 rw [show decide (0 ≤ s.item ∧ s.item ≤ 31) = true from decide_eq_true h1]
 (refine rQ ?_)
 ((refine Tr.guard_l rfl rfl rfl (by (with_reducible rfl)) ?_)); refine Exec.call0 rfl (rin_fn M s.plant 0 7) rfl ?_
 rintro _ _ _ ⟨rfl, rfl⟩
 by_cases h2 : 0 ≤ s.plant ∧ s.plant ≤ 7
 rotate_left
 ·rw [show decide (0 ≤ s.plant ∧ s.plant ≤ 7) = false from decide_eq_false h2]
  (refine rQ ?_)
  (refine dnQ (hL := by exact ⟨[_], rfl⟩) ⟨rfl, ?_⟩)
  exact ⟨by rw [decide_eq_false (fun h => h2 h.2.2.1)]; rfl, rfl⟩
 rw [show decide (0 ≤ s.plant ∧ s.plant ≤ 7) = true from decide_eq_true h2]
 (refine rQ ?_)
 ((refine Tr.guard_l rfl rfl rfl (by (with_reducible rfl)) ?_)); refine Exec.call0 rfl (rin_fn M s.ready 0 1024) rfl ?_
 rintro _ _ _ ⟨rfl, rfl⟩
 by_cases h3 : 0 ≤ s.ready ∧ s.ready ≤ 1024
 rotate_left
 ·rw [show decide (0 ≤ s.ready ∧ s.ready ≤ 1024) = false from decide_eq_false h3]
  (refine rQ ?_)
  (refine dnQ (hL := by exact ⟨[_], rfl⟩) ⟨rfl, ?_⟩)
  exact ⟨by rw [decide_eq_false (fun h => h3 h.2.2.2.1)]; rfl, rfl⟩
 rw [show decide (0 ≤ s.ready ∧ s.ready ≤ 1024) = true from decide_eq_true h3]
 (refine rQ ?_)
 ((refine Tr.guard_l rfl rfl rfl (by (with_reducible rfl)) ?_)); refine Exec.call0 rfl (rin_fn M s.expiry 0 1024) rfl ?_
 rintro _ _ _ ⟨rfl, rfl⟩
 by_cases h4 : 0 ≤ s.expiry ∧ s.expiry ≤ 1024
 rotate_left
 ·rw [show decide (0 ≤ s.expiry ∧ s.expiry ≤ 1024) = false from decide_eq_false h4]
  (refine rQ ?_)
  (refine dnQ (hL := by exact ⟨[_], rfl⟩) ⟨rfl, ?_⟩)
  exact ⟨by rw [decide_eq_false (fun h => h4 h.2.2.2.2.1)]; rfl, rfl⟩
 rw [show decide (0 ≤ s.expiry ∧ s.expiry ≤ 1024) = true from decide_eq_true h4]
 (refine rQ ?_)
 ((refine Tr.guard_l rfl rfl rfl (by (with_reducible rfl)) ?_)); refine Exec.call0 rfl (rin_fn M s.amount 0 1048576) rfl ?_
 rintro _ _ _ ⟨rfl, rfl⟩
 (refine rQ ?_)
 (refine dnQ (hL := by exact ⟨[_], rfl⟩) ⟨rfl, ?_⟩)
 refine ⟨?_, rfl⟩
 rw [show decide (okSp s) = decide (0 ≤ s.amount ∧ s.amount ≤ 1048576) from decide_eq_decide.2 ⟨fun h => h.2.2.2.2.2, fun h => ⟨h0, h1, h2, h3, h4, h⟩⟩]
 rfl
set_option maxHeartbeats 4000000 in
theorem rRequest_fn (M : Mem) (r : Rq) : Fn0 Tryz.prog 64 [.agg #[.int .i64 r.no, .int .i64 r.item, .int .i64 r.cust, .int .i64 r.due, .int .i64 r.shelf, .int .i64 r.amount]] M (fun x M' => x = .bool (decide (okRq r)) ∧ M = M') := by
 refine Fn.intro Tryz.func64 rfl rfl Tryz.ntmps64 rfl fun E F => ?_
 (repeat (first | ((with_reducible refine Tr.step rfl ?_); (first | (refine xaQ ?_) | (refine xlQ ?_) | (refine xfQ ?_) | ((with_reducible refine Knd.box ?_); (refine Exec.box rfl rfl (fun b => ?_))))) | (with_reducible first | apply Tr.next | apply Tr.seq | apply Tr.region | apply Tr.nil)))
 ((refine Tr.step rfl ?_)); refine Exec.call0 rfl (rin_fn M r.no 0 1023) rfl ?_
 rintro _ _ _ ⟨rfl, rfl⟩
 by_cases h0 : 0 ≤ r.no ∧ r.no ≤ 1023
 rotate_left
 ·rw [show decide (0 ≤ r.no ∧ r.no ≤ 1023) = false from decide_eq_false h0]
  (refine rQ ?_)
  (refine dnQ (hL := by exact ⟨[_], rfl⟩) ⟨rfl, ?_⟩)
  exact ⟨by rw [decide_eq_false (fun h => h0 h.1)]; rfl, rfl⟩
 rw [show decide (0 ≤ r.no ∧ r.no ≤ 1023) = true from decide_eq_true h0]
 (refine rQ ?_)
 ((refine Tr.guard_l rfl rfl rfl (by (with_reducible rfl)) ?_)); refine Exec.call0 rfl (rin_fn M r.item 0 31) rfl ?_
 rintro _ _ _ ⟨rfl, rfl⟩
 by_cases h1 : 0 ≤ r.item ∧ r.item ≤ 31
 rotate_left
 ·rw [show decide (0 ≤ r.item ∧ r.item ≤ 31) = false from decide_eq_false h1]
  (refine rQ ?_)
  (refine dnQ (hL := by exact ⟨[_], rfl⟩) ⟨rfl, ?_⟩)
  exact ⟨by rw [decide_eq_false (fun h => h1 h.2.1)]; rfl, rfl⟩
 rw [show decide (0 ≤ r.item ∧ r.item ≤ 31) = true from decide_eq_true h1]
 (refine rQ ?_)
 ((refine Tr.guard_l rfl rfl rfl (by (with_reducible rfl)) ?_)); refine Exec.call0 rfl (rin_fn M r.cust 0 4095) rfl ?_
 rintro _ _ _ ⟨rfl, rfl⟩
 by_cases h2 : 0 ≤ r.cust ∧ r.cust ≤ 4095
 rotate_left
 ·rw [show decide (0 ≤ r.cust ∧ r.cust ≤ 4095) = false from decide_eq_false h2]
  (refine rQ ?_)
  (refine dnQ (hL := by exact ⟨[_], rfl⟩) ⟨rfl, ?_⟩)
  exact ⟨by rw [decide_eq_false (fun h => h2 h.2.2.1)]; rfl, rfl⟩
 rw [show decide (0 ≤ r.cust ∧ r.cust ≤ 4095) = true from decide_eq_true h2]
 (refine rQ ?_)
 ((refine Tr.guard_l rfl rfl rfl (by (with_reducible rfl)) ?_)); refine Exec.call0 rfl (rin_fn M r.due 0 1023) rfl ?_
 rintro _ _ _ ⟨rfl, rfl⟩
 by_cases h3 : 0 ≤ r.due ∧ r.due ≤ 1023
 rotate_left
 ·rw [show decide (0 ≤ r.due ∧ r.due ≤ 1023) = false from decide_eq_false h3]
  (refine rQ ?_)
  (refine dnQ (hL := by exact ⟨[_], rfl⟩) ⟨rfl, ?_⟩)
  exact ⟨by rw [decide_eq_false (fun h => h3 h.2.2.2.1)]; rfl, rfl⟩
 rw [show decide (0 ≤ r.due ∧ r.due ≤ 1023) = true from decide_eq_true h3]
 (refine rQ ?_)
 ((refine Tr.guard_l rfl rfl rfl (by (with_reducible rfl)) ?_)); refine Exec.call0 rfl (rin_fn M r.shelf 0 1024) rfl ?_
 rintro _ _ _ ⟨rfl, rfl⟩
 by_cases h4 : 0 ≤ r.shelf ∧ r.shelf ≤ 1024
 rotate_left
 ·rw [show decide (0 ≤ r.shelf ∧ r.shelf ≤ 1024) = false from decide_eq_false h4]
  (refine rQ ?_)
  (refine dnQ (hL := by exact ⟨[_], rfl⟩) ⟨rfl, ?_⟩)
  exact ⟨by rw [decide_eq_false (fun h => h4 h.2.2.2.2.1)]; rfl, rfl⟩
 rw [show decide (0 ≤ r.shelf ∧ r.shelf ≤ 1024) = true from decide_eq_true h4]
 (refine rQ ?_)
 ((refine Tr.guard_l rfl rfl rfl (by (with_reducible rfl)) ?_)); refine Exec.call0 rfl (rin_fn M r.amount 0 1048576) rfl ?_
 rintro _ _ _ ⟨rfl, rfl⟩
 (refine rQ ?_)
 (refine dnQ (hL := by exact ⟨[_], rfl⟩) ⟨rfl, ?_⟩)
 refine ⟨?_, rfl⟩
 rw [show decide (okRq r) = decide (0 ≤ r.amount ∧ r.amount ≤ 1048576) from decide_eq_decide.2 ⟨fun h => h.2.2.2.2.2, fun h => ⟨h0, h1, h2, h3, h4, h⟩⟩]
 rfl
end Go.Proofs.YtlifjajcmnkhfaaGreat

/-
 The reference's facts: Before and At.
 Conditions: none.
-/
namespace Go.Proofs.YtlifjajcmnkhfaaGreat
open Go Bf
attribute [local irreducible] Tr Exec Stab HasTy Go.Addr.add IntKind.wrap
set_option maxHeartbeats 4000000 in
theorem rbefore_fn (M : Mem) (f g : Fc) : Fn0 Tryz.prog 78 [.agg #[.int .i64 f.key.1, .int .i64 f.key.2.1, .int .i64 f.key.2.2, .int .i64 f.val, .int .i64 f.lo, .int .i64 f.hi, .int .i64 f.known, .int .i64 f.no], .agg #[.int .i64 g.key.1, .int .i64 g.key.2.1, .int .i64 g.key.2.2, .int .i64 g.val, .int .i64 g.lo, .int .i64 g.hi, .int .i64 g.known, .int .i64 g.no]] M (fun r M' => r = .bool (before f g) ∧ M = M') := by
 refine Fn.intro Tryz.func78 rfl rfl Tryz.ntmps78 rfl fun E F => ?_
 by_cases h1 : f.known < g.known
 ·(repeat (first | ((with_reducible refine Tr.step rfl ?_); (first | (refine xmQ ?_) | (refine xaQ ?_) | (refine xlQ ?_) | (refine xfQ ?_) | (refine xiQ ?_) | ((with_reducible refine Knd.pick ?_); (refine Exec.stab rfl (Stab.pick_td rfl (by (with_reducible assumption)) rfl) rfl ?_)) | ((with_reducible refine Knd.box ?_); (refine Exec.box rfl rfl (fun b => ?_))))) | (with_reducible first | apply Tr.next | apply Tr.seq | apply Tr.region | apply Tr.nil) | (refine Tr.guard_n' rfl rfl rfl (by (with_reducible assumption)) rfl rfl ?_) | (refine Tr.guard_u rfl rfl rfl rfl rfl ?_) | (with_reducible refine Tr.ret ?_)))
  (refine dnQ (hL := by exact ⟨[_, _], rfl⟩) ⟨rfl, ?_⟩)
  exact ⟨by rw [before, decide_eq_true h1]; rfl, rfl⟩
 by_cases h2 : f.known = g.known
 ·(repeat (first | ((with_reducible refine Tr.step rfl ?_); (first | (refine xmQ ?_) | (refine xaQ ?_) | (refine xlQ ?_) | (refine xfQ ?_) | (refine xiQ ?_) | ((with_reducible refine Knd.pick ?_); (refine Exec.stab rfl (Stab.pick_fd rfl (by (with_reducible assumption)) rfl) rfl ?_)) | ((with_reducible refine Knd.box ?_); (refine Exec.box rfl rfl (fun b => ?_))))) | (with_reducible first | apply Tr.next | apply Tr.seq | apply Tr.region | apply Tr.nil) | ((refine Tr.guard_y rfl rfl rfl (by (with_reducible assumption)) ?_); (first | (refine xlQ ?_) | (refine xfQ ?_) | (refine xiQ ?_))) | ((refine Tr.guard_y' rfl rfl rfl (by (with_reducible assumption)) ?_); (first | (refine xmQ ?_) | (refine xlQ ?_) | (refine xfQ ?_) | (refine xiQ ?_) | ((with_reducible refine Knd.pick ?_); (refine Exec.stab rfl (Stab.pick_td rfl (by (with_reducible assumption)) rfl) rfl ?_)))) | (with_reducible refine Tr.ret ?_)))
  (refine dnQ (hL := by exact ⟨[_, _], rfl⟩) ⟨rfl, ?_⟩)
  exact ⟨by rw [before, decide_eq_false h1, decide_eq_true h2, Bool.false_or, Bool.true_and]; rfl, rfl⟩
 ·(repeat (first | ((with_reducible refine Tr.step rfl ?_); (first | (refine xmQ ?_) | (refine xaQ ?_) | (refine xlQ ?_) | (refine xfQ ?_) | (refine xiQ ?_) | ((with_reducible refine Knd.pick ?_); (refine Exec.stab rfl (Stab.pick_fd rfl (by (with_reducible assumption)) rfl) rfl ?_)) | ((with_reducible refine Knd.box ?_); (refine Exec.box rfl rfl (fun b => ?_))))) | (with_reducible first | apply Tr.next | apply Tr.seq | apply Tr.region | apply Tr.nil) | ((refine Tr.guard_y' rfl rfl rfl (by (with_reducible assumption)) ?_); (first | (refine xmQ ?_) | (refine xlQ ?_) | (refine xfQ ?_) | (refine xiQ ?_) | ((with_reducible refine Knd.pick ?_); (refine Exec.stab rfl (Stab.pick_fd rfl (by (with_reducible assumption)) rfl) rfl ?_)))) | (refine Tr.guard_n rfl rfl rfl (by (with_reducible assumption)) rfl rfl ?_) | (with_reducible refine Tr.ret ?_)))
  (refine dnQ (hL := by exact ⟨[_, _], rfl⟩) ⟨rfl, ?_⟩)
  exact ⟨by rw [before, decide_eq_false h1, decide_eq_false h2]; rfl, rfl⟩
def bestV (o : Option Nat) : Int := match o with
 | none => -1
 | some j => (j : Int)
set_option maxHeartbeats 8000000 in
theorem rat_fn0 (M : Mem) (A : Option Addr) (c : Nat) (l : List Fc) (k : Ky) (day known : Int) (h : SlOf 8 RFc M (.slice A l.length c) l) :
  Fn0 Tryz.prog 40 [.slice A l.length c, .agg #[.int .i64 k.1, .int .i64 k.2.1, .int .i64 k.2.2], .int .i64 day, .int .i64 known] M (fun r _ => r = .tuple #[.int .i64 ((atF l k day known).getD 0), .bool (atF l k day known).isSome]) := by
 have hll := h.len_le
 refine Fn.intro Tryz.func40 rfl rfl Tryz.ntmps40 rfl fun E F => ?_
 (repeat (first | ((with_reducible refine Tr.step rfl ?_); (first | (refine xaQ ?_) | ((with_reducible refine Knd.box ?_); (refine Exec.box rfl rfl (fun b => ?_))))) | (with_reducible first | apply Tr.next | apply Tr.seq | apply Tr.region | apply Tr.nil | apply Tr.block)))
 generalize b = b5
 refine Tr.loop (α := Nat × Option Nat) (fun y => ⟨76, [(11, .int .i64 (y.1 : Int)), (10, .int .i64 (bestV y.2)), (0, .slice A l.length c), (2, .int .i64 day), (3, .int .i64 known), (5, .pointer (some ⟨b5, 0, none⟩))], [], M, box b5 64 [.int .i64 k.1, .int .i64 k.2.1, .int .i64 k.2.2] :: ([] ++ F)⟩)
  (fun y => y.1 ≤ l.length ∧ (l.take y.1).foldl (pick k day known) none = y.2.bind (fun j => l[j]?) ∧ ∀ j, y.2 = some j → j < l.length) (fun y => l.length - y.1) (0, none) ⟨Nat.zero_le _, rfl, fun j h => by cases h⟩ hsQ (fun y hy => ?_)
 obtain ⟨i, o⟩ := y
 obtain ⟨hi, hpick, ho⟩ := hy
 simp only at hi hpick ho
 dsimp only
 by_cases hlt : i < l.length
 rotate_left
 ·have e : i = l.length := by omega
  subst e
  rw [List.take_length] at hpick
  have hat : atF l k day known = valOf (o.bind fun j => l[j]?) := by rw [← hpick]; rfl
  cases o with
  | none =>
   have hb : bestV none < 0 := by decide
   rw [hat]
   (refine rQ ?_)
   (refine dnQ (hL := by exact ⟨[_], rfl⟩) ⟨rfl, ?_⟩)
   rfl
  | some j =>
   have hj := ho j rfl
   obtain ⟨g, hg⟩ := get_of_lt hj
   obtain ⟨hA, ch, hat2, rfl⟩ := h.elem hg
   simp only [fcC] at hat2
   have hat3 : At M (((A.getD default).add (j * 8)).add 3) [.int .i64 g.val, .int .i64 g.lo, .int .i64 g.hi, .int .i64 g.known, .int .i64 g.no] := hat2.drop 3
   have hat : atF l k day known = if g.val < 0 then none else some g.val := by rw [hat]; simp only [Option.bind_some, hg]; rfl
   rw [hat]
   simp only [bestV]
   by_cases h4 : g.val < 0
   ·rw [if_pos h4]
    (refine rQ ?_)
    (refine dnQ (hL := by exact ⟨[_], rfl⟩) ⟨rfl, ?_⟩)
    rfl
   ·rw [if_neg h4]
    (refine rQ ?_)
    (refine dnQ (hL := by exact ⟨[_], rfl⟩) ⟨rfl, ?_⟩)
    rfl
 obtain ⟨f, hf⟩ := get_of_lt hlt
 obtain ⟨hA, ch, hat, rfl⟩ := h.elem hf
 simp only [fcC] at hat
 have hfold := fold_take (pick k day known) none hf
 rw [hpick] at hfold
 have hsk : about k day known f = false → pick k day known (o.bind fun j => l[j]?) f = o.bind fun j => l[j]? := fun e => by
  unfold pick
  rw [e, Bool.false_and, if_neg (by decide)]
 by_cases hk : [f.key.1, f.key.2.1, f.key.2.2] = [k.1, k.2.1, k.2.2]
 rotate_left
 ·(repeat (first | ((with_reducible refine Tr.step rfl ?_); (first | (refine xmQ ?_) | ((with_reducible refine Knd.load ?_); (refine Exec.stab rfl (Stab.loadMA rfl (tysOk.get rfl) rfl (by assumption) (by first | rfl | assumption)) rfl ?_)) | (refine xnQ ?_) | (refine xiQ ?_) | (refine xWQ ?_) | ((with_reducible refine Knd.alloc ?_); (refine Exec.alloc (tysOk.get rfl) rfl rfl (fun b => ?_))) | (refine xxQ ?_))) | (with_reducible first | apply Tr.next | apply Tr.seq | apply Tr.region | apply Tr.nil | apply Tr.skip | apply Tr.block) | (refine Tr.cond_t rfl (by first | (with_reducible assumption) | omega) ?_)))
  (((apply Tr.draw); (kernel_rfl)); (refine tkQ 0 (hB := by exact fun _ h => h) (s := by exact sfQ) ?_); (refine tkQ 2 (s := by exact swQ) ?_); (refine tkQ 1 (s := by exact Stab.loadP rfl (tysOk.get rfl) rfl (by repeat (first | exact Has.here | apply Has.there)) (by repeat (first | exact TakeL.z | apply TakeL.s))) ?_); (refine tkQ 3 (s := by exact Stab.steqL rfl rfl (by repeat (first | exact IntsL.nil | apply IntsL.cons)) (by repeat (first | exact IntsL.nil | apply IntsL.cons)) (tysOk.get rfl) rfl (by kernel_rfl) (by kernel_rfl) rfl rfl) ?_); (refine tkQ 4 (s := by exact Stab.move rfl) ?_))
  rw [decide_eq_false hk]
  (((refine tuQ 5 ?_)); ((refine tuQ 8 ?_)); ((refine tuQ 6 ?_)); ((refine tuQ 7 ?_)); ((refine tuQ 9 ?_)); (refine tkQ 10 (s := by exact Stab.pick_f rfl (by (with_reducible rfl)) rfl) ?_); (refine tkQ 11 (s := by exact Stab.move rfl) ?_); ((refine tuQ 12 ?_)); ((refine tuQ 13 ?_)); ((refine tuQ 14 ?_)); ((refine tuQ 15 ?_)); ((refine tuQ 16 ?_)); (refine tkQ 17 (s := by exact Stab.pick_f rfl (by (with_reducible rfl)) rfl) ?_); (refine tkQ 18 (s := by exact Stab.move rfl) ?_); ((refine tuQ 19 ?_)); ((refine tuQ 21 ?_)); ((refine tuQ 20 ?_)); ((refine tuQ 22 ?_)); (refine tkQ 23 (s := by exact Stab.pick_f rfl (by (with_reducible rfl)) rfl) ?_); (refine tkQ 24 (s := by exact Stab.move rfl) ?_); ((refine tuQ 25 ?_)); ((refine tuQ 26 ?_)); ((refine tuQ 27 ?_)); ((refine TrA.takew 28 (by kernel_rfl) rfl (by kernel_rfl) (by exact fun _ _ _ h => h) (by exact fun _ h => h) rfl rfl rfl rfl rfl ?_)); ((refine TrA.takew 29 (by kernel_rfl) rfl (by kernel_rfl) (by exact fun _ _ _ h => h) (by exact fun _ h => h) rfl rfl rfl rfl rfl ?_)); ((refine TrA.takew 30 (by kernel_rfl) rfl (by kernel_rfl) (by exact fun _ _ _ h => h) (by exact fun _ h => h) rfl rfl rfl rfl rfl ?_)); ((refine TrA.takew 31 (by kernel_rfl) rfl (by kernel_rfl) (by exact fun _ _ _ h => h) (by exact fun _ h => h) rfl rfl rfl rfl rfl ?_)); ((refine TrA.takew 32 (by kernel_rfl) rfl (by kernel_rfl) (by exact fun _ _ _ h => h) (by exact fun _ h => h) rfl rfl rfl rfl rfl ?_)); ((refine TrA.takew 33 (by kernel_rfl) rfl (by kernel_rfl) (by exact fun _ _ _ h => h) (by exact fun _ h => h) rfl rfl rfl rfl rfl ?_)); ((refine TrA.takew 34 (by kernel_rfl) rfl (by kernel_rfl) (by exact fun _ _ _ h => h) (by exact fun _ h => h) rfl rfl rfl rfl rfl ?_)); ((refine tuQ 35 ?_)); (refine tkQ 36 (s := by exact Stab.pick_f rfl (by (with_reducible rfl)) rfl) ?_); (refine TrA.done (by kernel_rfl) ?_))
  (refine rQ ?_)
  refine gvQ (r := box _ 71 _) ?_
  exact Tr.again (i + 1, o) ⟨by simp only; omega, by rw [hfold, hsk (about_miss fun h => hk h.1)], ho⟩ (by simp only; omega) hsQ
 by_cases h1 : f.lo ≤ day
 rotate_left
 ·(repeat (first | ((with_reducible refine Tr.step rfl ?_); (first | (refine xmQ ?_) | ((with_reducible refine Knd.load ?_); (refine Exec.stab rfl (Stab.loadMA rfl (tysOk.get rfl) rfl (by assumption) (by first | rfl | assumption)) rfl ?_)) | (refine xnQ ?_) | (refine xiQ ?_) | (refine xWQ ?_) | ((with_reducible refine Knd.alloc ?_); (refine Exec.alloc (tysOk.get rfl) rfl rfl (fun b => ?_))) | (refine xxQ ?_))) | (with_reducible first | apply Tr.next | apply Tr.seq | apply Tr.region | apply Tr.nil | apply Tr.skip | apply Tr.block) | (refine Tr.cond_t rfl (by first | (with_reducible assumption) | omega) ?_)))
  (((apply Tr.draw); (kernel_rfl)); (refine tkQ 0 (hB := by exact fun _ h => h) (s := by exact sfQ) ?_); (refine tkQ 2 (s := by exact swQ) ?_); (refine tkQ 1 (s := by exact Stab.loadP rfl (tysOk.get rfl) rfl (by repeat (first | exact Has.here | apply Has.there)) (by repeat (first | exact TakeL.z | apply TakeL.s))) ?_); (refine tkQ 3 (s := by exact Stab.steqL rfl rfl (by repeat (first | exact IntsL.nil | apply IntsL.cons)) (by repeat (first | exact IntsL.nil | apply IntsL.cons)) (tysOk.get rfl) rfl (by kernel_rfl) (by kernel_rfl) rfl rfl) ?_); (refine tkQ 4 (s := by exact Stab.move rfl) ?_); ((refine tgQ 5 (q := (decide_eq_true (by (with_reducible assumption)))) (s := by exact sfQ) ?_)); ((refine tgQ 8 (q := (decide_eq_true (by (with_reducible assumption)))) (s := by exact Stab.move rfl) ?_)); ((refine tgQ 6 (q := (decide_eq_true (by (with_reducible assumption)))) (s := by exact Stab.fieldN rfl (tysOk.get rfl) rfl rfl (tysOk.get rfl) rfl) ?_)); ((refine tgQ 7 (q := (decide_eq_true (by (with_reducible assumption)))) (s := by exact slQ) ?_)); ((refine tgQ 9 (q := (decide_eq_true (by (with_reducible assumption)))) (s := by exact siQ) ?_)); (refine tkQ 10 (s := by exact Stab.pick_td rfl (by (with_reducible assumption)) rfl) ?_); (refine tkQ 11 (s := by exact Stab.move rfl) ?_); ((refine tuQ 12 ?_)); ((refine tuQ 13 ?_)); ((refine tuQ 14 ?_)); ((refine tuQ 15 ?_)); ((refine tuQ 16 ?_)); (refine tkQ 17 (s := by exact Stab.pick_fd rfl (by (with_reducible assumption)) rfl) ?_); (refine tkQ 18 (s := by exact Stab.move rfl) ?_); ((refine tuQ 19 ?_)); ((refine tuQ 21 ?_)); ((refine tuQ 20 ?_)); ((refine tuQ 22 ?_)); (refine tkQ 23 (s := by exact Stab.pick_f rfl (by (with_reducible rfl)) rfl) ?_); (refine tkQ 24 (s := by exact Stab.move rfl) ?_); ((refine tuQ 25 ?_)); ((refine tuQ 26 ?_)); ((refine tuQ 27 ?_)); ((refine TrA.takew 28 (by kernel_rfl) rfl (by kernel_rfl) (by exact fun _ _ _ h => h) (by exact fun _ h => h) rfl rfl rfl rfl rfl ?_)); ((refine TrA.takew 29 (by kernel_rfl) rfl (by kernel_rfl) (by exact fun _ _ _ h => h) (by exact fun _ h => h) rfl rfl rfl rfl rfl ?_)); ((refine TrA.takew 30 (by kernel_rfl) rfl (by kernel_rfl) (by exact fun _ _ _ h => h) (by exact fun _ h => h) rfl rfl rfl rfl rfl ?_)); ((refine TrA.takew 31 (by kernel_rfl) rfl (by kernel_rfl) (by exact fun _ _ _ h => h) (by exact fun _ h => h) rfl rfl rfl rfl rfl ?_)); ((refine TrA.takew 32 (by kernel_rfl) rfl (by kernel_rfl) (by exact fun _ _ _ h => h) (by exact fun _ h => h) rfl rfl rfl rfl rfl ?_)); ((refine TrA.takew 33 (by kernel_rfl) rfl (by kernel_rfl) (by exact fun _ _ _ h => h) (by exact fun _ h => h) rfl rfl rfl rfl rfl ?_)); ((refine TrA.takew 34 (by kernel_rfl) rfl (by kernel_rfl) (by exact fun _ _ _ h => h) (by exact fun _ h => h) rfl rfl rfl rfl rfl ?_)); ((refine tuQ 35 ?_)); (refine tkQ 36 (s := by exact Stab.pick_f rfl (by (with_reducible rfl)) rfl) ?_); (refine TrA.done (by kernel_rfl) ?_))
  (refine rQ ?_)
  refine gvQ (r := box _ 71 _) ?_
  exact Tr.again (i + 1, o) ⟨by simp only; omega, by rw [hfold, hsk (by simp [about, h1])], ho⟩ (by simp only; omega) hsQ
 by_cases h2 : day < f.hi
 rotate_left
 ·(repeat (first | ((with_reducible refine Tr.step rfl ?_); (first | (refine xmQ ?_) | ((with_reducible refine Knd.load ?_); (refine Exec.stab rfl (Stab.loadMA rfl (tysOk.get rfl) rfl (by assumption) (by first | rfl | assumption)) rfl ?_)) | (refine xnQ ?_) | (refine xiQ ?_) | (refine xWQ ?_) | ((with_reducible refine Knd.alloc ?_); (refine Exec.alloc (tysOk.get rfl) rfl rfl (fun b => ?_))) | (refine xxQ ?_))) | (with_reducible first | apply Tr.next | apply Tr.seq | apply Tr.region | apply Tr.nil | apply Tr.skip | apply Tr.block) | (refine Tr.cond_t rfl (by first | (with_reducible assumption) | omega) ?_)))
  (((apply Tr.draw); (kernel_rfl)); (refine tkQ 0 (hB := by exact fun _ h => h) (s := by exact sfQ) ?_); (refine tkQ 2 (s := by exact swQ) ?_); (refine tkQ 1 (s := by exact Stab.loadP rfl (tysOk.get rfl) rfl (by repeat (first | exact Has.here | apply Has.there)) (by repeat (first | exact TakeL.z | apply TakeL.s))) ?_); (refine tkQ 3 (s := by exact Stab.steqL rfl rfl (by repeat (first | exact IntsL.nil | apply IntsL.cons)) (by repeat (first | exact IntsL.nil | apply IntsL.cons)) (tysOk.get rfl) rfl (by kernel_rfl) (by kernel_rfl) rfl rfl) ?_); (refine tkQ 4 (s := by exact Stab.move rfl) ?_); ((refine tgQ 5 (q := (decide_eq_true (by (with_reducible assumption)))) (s := by exact sfQ) ?_)); ((refine tgQ 8 (q := (decide_eq_true (by (with_reducible assumption)))) (s := by exact Stab.move rfl) ?_)); ((refine tgQ 6 (q := (decide_eq_true (by (with_reducible assumption)))) (s := by exact Stab.fieldN rfl (tysOk.get rfl) rfl rfl (tysOk.get rfl) rfl) ?_)); ((refine tgQ 7 (q := (decide_eq_true (by (with_reducible assumption)))) (s := by exact slQ) ?_)); ((refine tgQ 9 (q := (decide_eq_true (by (with_reducible assumption)))) (s := by exact siQ) ?_)); (refine tkQ 10 (s := by exact Stab.pick_td rfl (by (with_reducible assumption)) rfl) ?_); (refine tkQ 11 (s := by exact Stab.move rfl) ?_); ((refine tgQ 12 (q := (decide_eq_true (by (with_reducible assumption)))) (s := by exact Stab.move rfl) ?_)); ((refine tgQ 13 (q := (decide_eq_true (by (with_reducible assumption)))) (s := by exact sfQ) ?_)); ((refine tgQ 14 (q := (decide_eq_true (by (with_reducible assumption)))) (s := by exact Stab.fieldN rfl (tysOk.get rfl) rfl rfl (tysOk.get rfl) rfl) ?_)); ((refine tgQ 15 (q := (decide_eq_true (by (with_reducible assumption)))) (s := by exact slQ) ?_)); ((refine tgQ 16 (q := (decide_eq_true (by (with_reducible assumption)))) (s := by exact siQ) ?_)); (refine tkQ 17 (s := by exact Stab.pick_td rfl (by (with_reducible assumption)) rfl) ?_); (refine tkQ 18 (s := by exact Stab.move rfl) ?_); ((refine tuQ 19 ?_)); ((refine tuQ 21 ?_)); ((refine tuQ 20 ?_)); ((refine tuQ 22 ?_)); (refine tkQ 23 (s := by exact Stab.pick_fd rfl (by (with_reducible assumption)) rfl) ?_); (refine tkQ 24 (s := by exact Stab.move rfl) ?_); ((refine tuQ 25 ?_)); ((refine tuQ 26 ?_)); ((refine tuQ 27 ?_)); ((refine TrA.takew 28 (by kernel_rfl) rfl (by kernel_rfl) (by exact fun _ _ _ h => h) (by exact fun _ h => h) rfl rfl rfl rfl rfl ?_)); ((refine TrA.takew 29 (by kernel_rfl) rfl (by kernel_rfl) (by exact fun _ _ _ h => h) (by exact fun _ h => h) rfl rfl rfl rfl rfl ?_)); ((refine TrA.takew 30 (by kernel_rfl) rfl (by kernel_rfl) (by exact fun _ _ _ h => h) (by exact fun _ h => h) rfl rfl rfl rfl rfl ?_)); ((refine TrA.takew 31 (by kernel_rfl) rfl (by kernel_rfl) (by exact fun _ _ _ h => h) (by exact fun _ h => h) rfl rfl rfl rfl rfl ?_)); ((refine TrA.takew 32 (by kernel_rfl) rfl (by kernel_rfl) (by exact fun _ _ _ h => h) (by exact fun _ h => h) rfl rfl rfl rfl rfl ?_)); ((refine TrA.takew 33 (by kernel_rfl) rfl (by kernel_rfl) (by exact fun _ _ _ h => h) (by exact fun _ h => h) rfl rfl rfl rfl rfl ?_)); ((refine TrA.takew 34 (by kernel_rfl) rfl (by kernel_rfl) (by exact fun _ _ _ h => h) (by exact fun _ h => h) rfl rfl rfl rfl rfl ?_)); ((refine tuQ 35 ?_)); (refine tkQ 36 (s := by exact Stab.pick_f rfl (by (with_reducible rfl)) rfl) ?_); (refine TrA.done (by kernel_rfl) ?_))
  (refine rQ ?_)
  refine gvQ (r := box _ 71 _) ?_
  exact Tr.again (i + 1, o) ⟨by simp only; omega, by rw [hfold, hsk (by simp [about, h2])], ho⟩ (by simp only; omega) hsQ
 by_cases h3 : f.known ≤ known
 rotate_left
 ·(repeat (first | ((with_reducible refine Tr.step rfl ?_); (first | (refine xmQ ?_) | ((with_reducible refine Knd.load ?_); (refine Exec.stab rfl (Stab.loadMA rfl (tysOk.get rfl) rfl (by assumption) (by first | rfl | assumption)) rfl ?_)) | (refine xnQ ?_) | (refine xiQ ?_) | (refine xWQ ?_) | ((with_reducible refine Knd.alloc ?_); (refine Exec.alloc (tysOk.get rfl) rfl rfl (fun b => ?_))) | (refine xxQ ?_))) | (with_reducible first | apply Tr.next | apply Tr.seq | apply Tr.region | apply Tr.nil | apply Tr.skip | apply Tr.block) | (refine Tr.cond_t rfl (by first | (with_reducible assumption) | omega) ?_)))
  (((apply Tr.draw); (kernel_rfl)); (refine tkQ 0 (hB := by exact fun _ h => h) (s := by exact sfQ) ?_); (refine tkQ 2 (s := by exact swQ) ?_); (refine tkQ 1 (s := by exact Stab.loadP rfl (tysOk.get rfl) rfl (by repeat (first | exact Has.here | apply Has.there)) (by repeat (first | exact TakeL.z | apply TakeL.s))) ?_); (refine tkQ 3 (s := by exact Stab.steqL rfl rfl (by repeat (first | exact IntsL.nil | apply IntsL.cons)) (by repeat (first | exact IntsL.nil | apply IntsL.cons)) (tysOk.get rfl) rfl (by kernel_rfl) (by kernel_rfl) rfl rfl) ?_); (refine tkQ 4 (s := by exact Stab.move rfl) ?_); ((refine tgQ 5 (q := (decide_eq_true (by (with_reducible assumption)))) (s := by exact sfQ) ?_)); ((refine tgQ 8 (q := (decide_eq_true (by (with_reducible assumption)))) (s := by exact Stab.move rfl) ?_)); ((refine tgQ 6 (q := (decide_eq_true (by (with_reducible assumption)))) (s := by exact Stab.fieldN rfl (tysOk.get rfl) rfl rfl (tysOk.get rfl) rfl) ?_)); ((refine tgQ 7 (q := (decide_eq_true (by (with_reducible assumption)))) (s := by exact slQ) ?_)); ((refine tgQ 9 (q := (decide_eq_true (by (with_reducible assumption)))) (s := by exact siQ) ?_)); (refine tkQ 10 (s := by exact Stab.pick_td rfl (by (with_reducible assumption)) rfl) ?_); (refine tkQ 11 (s := by exact Stab.move rfl) ?_); ((refine tgQ 12 (q := (decide_eq_true (by (with_reducible assumption)))) (s := by exact Stab.move rfl) ?_)); ((refine tgQ 13 (q := (decide_eq_true (by (with_reducible assumption)))) (s := by exact sfQ) ?_)); ((refine tgQ 14 (q := (decide_eq_true (by (with_reducible assumption)))) (s := by exact Stab.fieldN rfl (tysOk.get rfl) rfl rfl (tysOk.get rfl) rfl) ?_)); ((refine tgQ 15 (q := (decide_eq_true (by (with_reducible assumption)))) (s := by exact slQ) ?_)); ((refine tgQ 16 (q := (decide_eq_true (by (with_reducible assumption)))) (s := by exact siQ) ?_)); (refine tkQ 17 (s := by exact Stab.pick_td rfl (by (with_reducible assumption)) rfl) ?_); (refine tkQ 18 (s := by exact Stab.move rfl) ?_); ((refine tgQ 19 (q := (decide_eq_true (by (with_reducible assumption)))) (s := by exact sfQ) ?_)); ((refine tgQ 21 (q := (decide_eq_true (by (with_reducible assumption)))) (s := by exact Stab.move rfl) ?_)); ((refine tgQ 20 (q := (decide_eq_true (by (with_reducible assumption)))) (s := by exact slQ) ?_)); ((refine tgQ 22 (q := (decide_eq_true (by (with_reducible assumption)))) (s := by exact siQ) ?_)); (refine tkQ 23 (s := by exact Stab.pick_td rfl (by (with_reducible assumption)) rfl) ?_); (refine tkQ 24 (s := by exact Stab.move rfl) ?_); ((refine tuQ 25 ?_)); ((refine tuQ 26 ?_)); ((refine tuQ 27 ?_)); ((refine TrA.takew 28 (by kernel_rfl) rfl (by kernel_rfl) (by exact fun _ _ _ h => h) (by exact fun _ h => h) rfl rfl rfl rfl rfl ?_)); ((refine TrA.takew 29 (by kernel_rfl) rfl (by kernel_rfl) (by exact fun _ _ _ h => h) (by exact fun _ h => h) rfl rfl rfl rfl rfl ?_)); ((refine TrA.takew 30 (by kernel_rfl) rfl (by kernel_rfl) (by exact fun _ _ _ h => h) (by exact fun _ h => h) rfl rfl rfl rfl rfl ?_)); ((refine TrA.takew 31 (by kernel_rfl) rfl (by kernel_rfl) (by exact fun _ _ _ h => h) (by exact fun _ h => h) rfl rfl rfl rfl rfl ?_)); ((refine TrA.takew 32 (by kernel_rfl) rfl (by kernel_rfl) (by exact fun _ _ _ h => h) (by exact fun _ h => h) rfl rfl rfl rfl rfl ?_)); ((refine TrA.takew 33 (by kernel_rfl) rfl (by kernel_rfl) (by exact fun _ _ _ h => h) (by exact fun _ h => h) rfl rfl rfl rfl rfl ?_)); ((refine TrA.takew 34 (by kernel_rfl) rfl (by kernel_rfl) (by exact fun _ _ _ h => h) (by exact fun _ h => h) rfl rfl rfl rfl rfl ?_)); ((refine tuQ 35 ?_)); (refine tkQ 36 (s := by exact Stab.pick_fd rfl (by (with_reducible assumption)) rfl) ?_); (refine TrA.done (by kernel_rfl) ?_))
  (refine rQ ?_)
  refine gvQ (r := box _ 71 _) ?_
  exact Tr.again (i + 1, o) ⟨by simp only; omega, by rw [hfold, hsk (by simp [about, h3])], ho⟩ (by simp only; omega) hsQ
 have hab : about k day known f = true := by
  rw [about_hit ⟨hk, h3⟩, decide_eq_true h1, decide_eq_true h2]; rfl
 cases o with
 | none =>
  have hb : bestV none < 0 := by decide
  (repeat (first | ((with_reducible refine Tr.step rfl ?_); (first | (refine xmQ ?_) | ((with_reducible refine Knd.load ?_); (refine Exec.stab rfl (Stab.loadMA rfl (tysOk.get rfl) rfl (by assumption) (by first | rfl | assumption)) rfl ?_)) | (refine xnQ ?_) | (refine xiQ ?_) | (refine xWQ ?_) | ((with_reducible refine Knd.alloc ?_); (refine Exec.alloc (tysOk.get rfl) rfl rfl (fun b => ?_))) | (refine xxQ ?_))) | (with_reducible first | apply Tr.next | apply Tr.seq | apply Tr.region | apply Tr.nil | apply Tr.skip | apply Tr.block) | (refine Tr.cond_t rfl (by first | (with_reducible assumption) | omega) ?_)))
  (((apply Tr.draw); (kernel_rfl)); (refine tkQ 0 (hB := by exact fun _ h => h) (s := by exact sfQ) ?_); (refine tkQ 2 (s := by exact swQ) ?_); (refine tkQ 1 (s := by exact Stab.loadP rfl (tysOk.get rfl) rfl (by repeat (first | exact Has.here | apply Has.there)) (by repeat (first | exact TakeL.z | apply TakeL.s))) ?_); (refine tkQ 3 (s := by exact Stab.steqL rfl rfl (by repeat (first | exact IntsL.nil | apply IntsL.cons)) (by repeat (first | exact IntsL.nil | apply IntsL.cons)) (tysOk.get rfl) rfl (by kernel_rfl) (by kernel_rfl) rfl rfl) ?_); (refine tkQ 4 (s := by exact Stab.move rfl) ?_); ((refine tgQ 5 (q := (decide_eq_true (by (with_reducible assumption)))) (s := by exact sfQ) ?_)); ((refine tgQ 8 (q := (decide_eq_true (by (with_reducible assumption)))) (s := by exact Stab.move rfl) ?_)); ((refine tgQ 6 (q := (decide_eq_true (by (with_reducible assumption)))) (s := by exact Stab.fieldN rfl (tysOk.get rfl) rfl rfl (tysOk.get rfl) rfl) ?_)); ((refine tgQ 7 (q := (decide_eq_true (by (with_reducible assumption)))) (s := by exact slQ) ?_)); ((refine tgQ 9 (q := (decide_eq_true (by (with_reducible assumption)))) (s := by exact siQ) ?_)); (refine tkQ 10 (s := by exact Stab.pick_td rfl (by (with_reducible assumption)) rfl) ?_); (refine tkQ 11 (s := by exact Stab.move rfl) ?_); ((refine tgQ 12 (q := (decide_eq_true (by (with_reducible assumption)))) (s := by exact Stab.move rfl) ?_)); ((refine tgQ 13 (q := (decide_eq_true (by (with_reducible assumption)))) (s := by exact sfQ) ?_)); ((refine tgQ 14 (q := (decide_eq_true (by (with_reducible assumption)))) (s := by exact Stab.fieldN rfl (tysOk.get rfl) rfl rfl (tysOk.get rfl) rfl) ?_)); ((refine tgQ 15 (q := (decide_eq_true (by (with_reducible assumption)))) (s := by exact slQ) ?_)); ((refine tgQ 16 (q := (decide_eq_true (by (with_reducible assumption)))) (s := by exact siQ) ?_)); (refine tkQ 17 (s := by exact Stab.pick_td rfl (by (with_reducible assumption)) rfl) ?_); (refine tkQ 18 (s := by exact Stab.move rfl) ?_); ((refine tgQ 19 (q := (decide_eq_true (by (with_reducible assumption)))) (s := by exact sfQ) ?_)); ((refine tgQ 21 (q := (decide_eq_true (by (with_reducible assumption)))) (s := by exact Stab.move rfl) ?_)); ((refine tgQ 20 (q := (decide_eq_true (by (with_reducible assumption)))) (s := by exact slQ) ?_)); ((refine tgQ 22 (q := (decide_eq_true (by (with_reducible assumption)))) (s := by exact siQ) ?_)); (refine tkQ 23 (s := by exact Stab.pick_td rfl (by (with_reducible assumption)) rfl) ?_); (refine tkQ 24 (s := by exact Stab.move rfl) ?_); ((refine tgQ 25 (q := (decide_eq_true (by (with_reducible assumption)))) (s := by exact Stab.move rfl) ?_)); ((refine tgQ 26 (q := (decide_eq_true (by (with_reducible assumption)))) (s := by exact siQ) ?_)); ((refine tgQ 27 (q := (decide_eq_true (by (with_reducible assumption)))) (s := by exact Stab.move rfl) ?_)); ((refine tuQ 28 ?_)); ((refine tuQ 29 ?_)); ((refine tuQ 30 ?_)); ((refine tuQ 31 ?_)); ((refine tuQ 32 ?_)); ((refine tuQ 33 ?_)); ((refine tuQ 34 ?_)); ((refine tgQ 35 (q := (decide_eq_true (by (with_reducible assumption)))) (s := by exact Stab.pick_td rfl (by (with_reducible assumption)) rfl) ?_)); (refine tkQ 36 (s := by exact Stab.pick_td rfl (by (with_reducible assumption)) rfl) ?_); (refine TrA.done (by kernel_rfl) ?_))
  (refine rQ ?_)
  refine gvQ (r := box _ 71 _) ?_
  refine Tr.again (i + 1, some i) ⟨by simp only; omega, ?_, fun j hj => by cases hj; exact hlt⟩ (by simp only; omega) hsQ
  rw [hfold]
  simp only [Option.bind_none, Option.bind_some, hf, pick, hab]
  rfl
 | some j =>
  have hj := ho j rfl
  obtain ⟨g, hg⟩ := get_of_lt hj
  obtain ⟨hA2, ch2, hat2, rfl⟩ := h.elem hg
  simp only [fcC] at hat2
  have hb : ¬ bestV (some j) < 0 := by simp only [bestV]; omega
  simp only [bestV] at hb ⊢
  have hpk : pick k day known (some g) f = if before f g = true then some g else some f := by
   unfold pick
   rw [hab]
   cases hbf : before f g <;> simp [hbf]
  (repeat (first | ((with_reducible refine Tr.step rfl ?_); (first | (refine xmQ ?_) | ((with_reducible refine Knd.load ?_); (refine Exec.stab rfl (Stab.loadMA rfl (tysOk.get rfl) rfl (by assumption) (by first | rfl | assumption)) rfl ?_)) | (refine xnQ ?_) | (refine xiQ ?_) | (refine xWQ ?_) | ((with_reducible refine Knd.alloc ?_); (refine Exec.alloc (tysOk.get rfl) rfl rfl (fun b => ?_))) | (refine xxQ ?_))) | (with_reducible first | apply Tr.next | apply Tr.seq | apply Tr.region | apply Tr.nil | apply Tr.skip | apply Tr.block) | (refine Tr.cond_t rfl (by first | (with_reducible assumption) | omega) ?_)))
  generalize b = b12
  (((apply Tr.draw); (kernel_rfl)); (refine tkQ 0 (hB := by exact fun _ h => h) (s := by exact sfQ) ?_); (refine tkQ 2 (s := by exact swQ) ?_); (refine tkQ 1 (s := by exact Stab.loadP rfl (tysOk.get rfl) rfl (by repeat (first | exact Has.here | apply Has.there)) (by repeat (first | exact TakeL.z | apply TakeL.s))) ?_); (refine tkQ 3 (s := by exact Stab.steqL rfl rfl (by repeat (first | exact IntsL.nil | apply IntsL.cons)) (by repeat (first | exact IntsL.nil | apply IntsL.cons)) (tysOk.get rfl) rfl (by kernel_rfl) (by kernel_rfl) rfl rfl) ?_); (refine tkQ 4 (s := by exact Stab.move rfl) ?_); ((refine tgQ 5 (q := (decide_eq_true (by (with_reducible assumption)))) (s := by exact sfQ) ?_)); ((refine tgQ 8 (q := (decide_eq_true (by (with_reducible assumption)))) (s := by exact Stab.move rfl) ?_)); ((refine tgQ 6 (q := (decide_eq_true (by (with_reducible assumption)))) (s := by exact Stab.fieldN rfl (tysOk.get rfl) rfl rfl (tysOk.get rfl) rfl) ?_)); ((refine tgQ 7 (q := (decide_eq_true (by (with_reducible assumption)))) (s := by exact slQ) ?_)); ((refine tgQ 9 (q := (decide_eq_true (by (with_reducible assumption)))) (s := by exact siQ) ?_)); (refine tkQ 10 (s := by exact Stab.pick_td rfl (by (with_reducible assumption)) rfl) ?_); (refine tkQ 11 (s := by exact Stab.move rfl) ?_); ((refine tgQ 12 (q := (decide_eq_true (by (with_reducible assumption)))) (s := by exact Stab.move rfl) ?_)); ((refine tgQ 13 (q := (decide_eq_true (by (with_reducible assumption)))) (s := by exact sfQ) ?_)); ((refine tgQ 14 (q := (decide_eq_true (by (with_reducible assumption)))) (s := by exact Stab.fieldN rfl (tysOk.get rfl) rfl rfl (tysOk.get rfl) rfl) ?_)); ((refine tgQ 15 (q := (decide_eq_true (by (with_reducible assumption)))) (s := by exact slQ) ?_)); ((refine tgQ 16 (q := (decide_eq_true (by (with_reducible assumption)))) (s := by exact siQ) ?_)); (refine tkQ 17 (s := by exact Stab.pick_td rfl (by (with_reducible assumption)) rfl) ?_); (refine tkQ 18 (s := by exact Stab.move rfl) ?_); ((refine tgQ 19 (q := (decide_eq_true (by (with_reducible assumption)))) (s := by exact sfQ) ?_)); ((refine tgQ 21 (q := (decide_eq_true (by (with_reducible assumption)))) (s := by exact Stab.move rfl) ?_)); ((refine tgQ 20 (q := (decide_eq_true (by (with_reducible assumption)))) (s := by exact slQ) ?_)); ((refine tgQ 22 (q := (decide_eq_true (by (with_reducible assumption)))) (s := by exact siQ) ?_)); (refine tkQ 23 (s := by exact Stab.pick_td rfl (by (with_reducible assumption)) rfl) ?_); (refine tkQ 24 (s := by exact Stab.move rfl) ?_); ((refine tgQ 25 (q := (decide_eq_true (by (with_reducible assumption)))) (s := by exact Stab.move rfl) ?_)); ((refine tgQ 26 (q := (decide_eq_true (by (with_reducible assumption)))) (s := by exact siQ) ?_)); ((refine tgQ 27 (q := (decide_eq_true (by (with_reducible assumption)))) (s := by exact Stab.move rfl) ?_)); ((refine tgQ 28 (q := (decide_eq_false (by (with_reducible assumption)))) (s := by exact swQ) ?_)); ((refine tgQ 29 (q := (decide_eq_false (by (with_reducible assumption)))) (s := by exact Stab.move rfl) ?_)); ((refine tgQ 30 (q := (decide_eq_false (by (with_reducible assumption)))) (s := by exact Stab.move rfl) ?_)); ((refine tgQ 31 (q := (decide_eq_false (by (with_reducible assumption)))) (s := by exact sxQ) ?_)); ((refine tgQ 32 (q := (decide_eq_false (by (with_reducible assumption)))) (s := by exact Stab.loadMA rfl (tysOk.get rfl) rfl (by assumption) (by first | rfl | assumption)) ?_)); (refine TrA.eff 33 rfl (by kernel_rfl) (by exact .inr ⟨_, _, _, rfl, rfl, rfl⟩) ?_))
  refine Exec.call0 rfl (rbefore_fn M f g) rfl ?_
  rintro _ _ hm9 ⟨rfl, rfl⟩
  refine ⟨hm9, (by exact fun _ h => h), ?_⟩
  cases hbf : before f g with
  | true =>
   (((refine tgQ 34 (q := (decide_eq_false (by (with_reducible assumption)))) (s := by exact Stab.not rfl) ?_)); ((refine tgQ 35 (q := (decide_eq_true (by (with_reducible assumption)))) (s := by exact Stab.pick_fd rfl (by (with_reducible assumption)) rfl) ?_)); (refine tkQ 36 (s := by exact Stab.pick_td rfl (by (with_reducible assumption)) rfl) ?_); (refine TrA.done (by kernel_rfl) ?_))
   (refine rQ ?_)
   refine gvQ (r := box _ 71 _) ?_
   refine Tr.again (i + 1, some j) ⟨by simp only; omega, ?_, ho⟩ (by simp only; omega) hsQ
   rw [hfold]
   simp only [Option.bind_some, hg]
   rw [hpk, if_pos hbf]
  | false =>
   (((refine tgQ 34 (q := (decide_eq_false (by (with_reducible assumption)))) (s := by exact Stab.not rfl) ?_)); ((refine tgQ 35 (q := (decide_eq_true (by (with_reducible assumption)))) (s := by exact Stab.pick_fd rfl (by (with_reducible assumption)) rfl) ?_)); (refine tkQ 36 (s := by exact Stab.pick_td rfl (by (with_reducible assumption)) rfl) ?_); (refine TrA.done (by kernel_rfl) ?_))
   (refine rQ ?_)
   refine gvQ (r := box _ 71 _) ?_
   refine Tr.again (i + 1, some i) ⟨by simp only; omega, ?_, fun j hj => by cases hj; exact hlt⟩ (by simp only; omega) hsQ
   rw [hfold]
   simp only [Option.bind_some, hg, hf]
   rw [hpk, if_neg (by rw [hbf]; decide)]
theorem rat_fn (M : Mem) (A : Option Addr) (c : Nat) (l : List Fc) (k : Ky) (day known : Int) (h : SlOf 8 RFc M (.slice A l.length c) l) :
  Fn0 Tryz.prog 40 [.slice A l.length c, .agg #[.int .i64 k.1, .int .i64 k.2.1, .int .i64 k.2.2], .int .i64 day, .int .i64 known] M (fun r M' => r = .tuple #[.int .i64 ((atF l k day known).getD 0), .bool (atF l k day known).isSome] ∧ M = M') :=
 Fn.mono (Fn.forget (R := fun r A' => A' = [] ∧ r = .tuple #[.int .i64 ((atF l k day known).getD 0), .bool (atF l k day known).isSome]) (rat_fn0 M A c l k day known h)) fun _ _ _ _ ⟨⟨a, b⟩, c⟩ => ⟨a, b, c⟩
end Go.Proofs.YtlifjajcmnkhfaaGreat

/-
 The reference's classes: used, has.
 Conditions: none.
-/
namespace Go.Proofs.YtlifjajcmnkhfaaGreat
open Go Bf
attribute [local irreducible] Tr Exec Stab HasTy Go.Addr.add IntKind.wrap
set_option maxHeartbeats 4000000 in
set_option maxRecDepth 20000 in
theorem rused_fn (M : Mem) (c0 c1 c2 c3 c4 c5 c6 : Value) (hone : AllOne [c0, c1, c2, c3, c4, c5, c6]) (A : Option Addr) (c : Nat) (w : Wd) (hsw : SlOf 4 RSw M (.slice A w.swaps.length c) w.swaps) (a y : Int) : Fn0 Tryz.prog 104 [.agg #[c0, c1, c2, c3, c4, c5, c6, .slice A w.swaps.length c], .int .i64 a, .int .i64 y] M (fun r M' => r = .bool (usedF w a y) ∧ M = M') := by
 have hl := hsw.len_le
 have o0 := hone.mem c0 (by simp)
 have o1 := hone.mem c1 (by simp)
 have o2 := hone.mem c2 (by simp)
 have o3 := hone.mem c3 (by simp)
 have o4 := hone.mem c4 (by simp)
 have o5 := hone.mem c5 (by simp)
 have o6 := hone.mem c6 (by simp)
 refine Fn.intro Tryz.func104 rfl rfl Tryz.ntmps104 rfl fun E F => ?_
 (repeat (first | ((with_reducible refine Tr.step rfl ?_); (first | (refine xaQ ?_) | ((with_reducible refine Knd.box ?_); (refine Exec.box rfl rfl (fun b => ?_))))) | (with_reducible first | apply Tr.next | apply Tr.seq | apply Tr.region | apply Tr.nil | apply Tr.block)))
 generalize b = b3
 refine Tr.loop (α := Nat) (fun i => ⟨36, [(7, .int .i64 (i : Int)), (1, .int .i64 a), (2, .int .i64 y), (3, .pointer (some ⟨b3, 0, none⟩)), (6, .bool false)], [], M, box b3 31 [c0, c1, c2, c3, c4, c5, c6, .slice A w.swaps.length c] :: ([] ++ F)⟩)
  (fun i => i ≤ w.swaps.length ∧ (w.swaps.take i).any (fun p => decide (p = (a, y))) = false) (fun i => w.swaps.length - i) 0 ⟨Nat.zero_le _, rfl⟩ hsQ (fun i hi => ?_)
 obtain ⟨hi, hany⟩ := hi
 by_cases hlt : i < w.swaps.length
 ·obtain ⟨p, hp⟩ := get_of_lt hlt
  obtain ⟨hA, ch, hat, s1, s2, rfl⟩ := hsw.elem hp
  have hat1 : At M (((A.getD default).add (i * 4)).add 2) [.int .i64 p.1, .int .i64 p.2] := hat.drop 2
  have hat2 : At M (((A.getD default).add (i * 4)).add 3) [.int .i64 p.2] := hat.drop 3
  have hno : ¬ p = (a, y) → ((w.swaps.take (i + 1)).any fun p => decide (p = (a, y))) = false := fun h => by
   rw [List.take_add_one, hp, Option.toList_some, List.any_append, hany]
   simp [h]
  by_cases h1 : p.1 = a
  ·by_cases h2 : p.2 = y
   ·(refine rQ ?_)
    (refine dnQ (hL := by exact ⟨[_], rfl⟩) ⟨rfl, ?_⟩)
    refine ⟨?_, rfl⟩
    have hany2 : w.swaps.any (fun p => decide (p = (a, y))) = true := List.any_eq_true.2 ⟨p, List.mem_of_getElem? hp, decide_eq_true (show p = (a, y) from Prod.ext h1 h2)⟩
    unfold usedF
    rw [hany2, Bool.true_or]
    rfl
   ·(refine rQ ?_)
    exact Tr.again (i + 1) ⟨by omega, hno fun h => h2 (by rw [h])⟩ (by omega) hsQ
  ·(refine rQ ?_)
   exact Tr.again (i + 1) ⟨by omega, hno fun h => h1 (by rw [h])⟩ (by omega) hsQ
 ·have e : i = w.swaps.length := by omega
  subst e
  rw [List.take_length] at hany
  (refine rQ ?_)
  (refine dnQ (hL := by exact ⟨[_], rfl⟩) ⟨rfl, ?_⟩)
  refine ⟨?_, rfl⟩
  unfold usedF
  rw [hany, Bool.false_or]
  rfl
theorem rhas_fn (M : Mem) (A : Option Addr) (c : Nat) (l : List Rd) (x : Rd) (h : SlOf 5 RRd M (.slice A l.length c) l) :
  Fn0 Tryz.prog 66 [.slice A l.length c, .agg #[.int .i64 x.1.1, .int .i64 x.1.2.1, .int .i64 x.1.2.2, .int .i64 x.2.1, .int .i64 x.2.2]] M (fun r M' => r = .bool (decide (x ∈ l)) ∧ M = M') := by
 have hll := h.len_le
 refine Fn.intro Tryz.func66 rfl rfl Tryz.ntmps66 rfl fun E F => ?_
 (repeat (first | ((with_reducible refine Tr.step rfl ?_); (first | (refine xaQ ?_) | ((with_reducible refine Knd.box ?_); (refine Exec.box rfl rfl (fun b => ?_))))) | (with_reducible first | apply Tr.next | apply Tr.seq | apply Tr.region | apply Tr.nil | apply Tr.block)))
 generalize b = b3
 refine Tr.loop (α := Nat) (fun i => ⟨18, [(5, .int .i64 (i : Int)), (0, .slice A l.length c), (3, .pointer (some ⟨b3, 0, none⟩)), (4, .bool false)], [], M, box b3 104 [.int .i64 x.1.1, .int .i64 x.1.2.1, .int .i64 x.1.2.2, .int .i64 x.2.1, .int .i64 x.2.2] :: ([] ++ F)⟩) (fun i => i ≤ l.length ∧ x ∉ l.take i) (fun i => l.length - i) 0 ⟨by simp, by simp⟩ hsQ (fun i hi => ?_)
 obtain ⟨hi, hno⟩ := hi
 by_cases hlt : i < l.length
 ·obtain ⟨y, hy⟩ := get_of_lt hlt
  obtain ⟨hA, ch, hat, rfl⟩ := h.elem hy
  simp only [rdC] at hat
  have hxy : [y.1.1, y.1.2.1, y.1.2.2, y.2.1, y.2.2] = [x.1.1, x.1.2.1, x.1.2.2, x.2.1, x.2.2] → y = x := by
   intro h
   obtain ⟨⟨a1, a2, a3⟩, a4, a5⟩ := x; obtain ⟨⟨c1, c2, c3⟩, c4, c5⟩ := y
   simp_all
  by_cases hk : [y.1.1, y.1.2.1, y.1.2.2, y.2.1, y.2.2] = [x.1.1, x.1.2.1, x.1.2.2, x.2.1, x.2.2]
  ·(refine rQ ?_)
   (((apply Tr.draw); (kernel_rfl)); (refine tkQ 0 (hB := by exact fun _ h => h) (s := by exact Stab.move rfl) ?_); (refine tkQ 1 (s := by exact Stab.move rfl) ?_); (refine tkQ 2 (s := by exact sxQ) ?_); (refine tkQ 3 (s := by exact Stab.loadMA rfl (tysOk.get rfl) rfl (by assumption) (by first | rfl | assumption)) ?_); (refine tkQ 4 (s := by exact swQ) ?_); (refine tkQ 5 (s := by exact Stab.steqL rfl rfl (by repeat (first | exact IntsL.nil | apply IntsL.cons)) (by repeat (first | exact IntsL.nil | apply IntsL.cons)) (tysOk.get rfl) rfl (by kernel_rfl) (by kernel_rfl) rfl rfl) ?_); (refine TrA.done (by kernel_rfl) ?_))
   (refine rQ ?_)
   (refine dnQ (hL := by exact ⟨[_], rfl⟩) ⟨rfl, ?_⟩)
   exact ⟨by rw [decide_eq_true (by rw [← hxy hk]; exact List.mem_of_getElem? hy)]; rfl, rfl⟩
  ·(refine rQ ?_)
   (((apply Tr.draw); (kernel_rfl)); (refine tkQ 0 (hB := by exact fun _ h => h) (s := by exact Stab.move rfl) ?_); (refine tkQ 1 (s := by exact Stab.move rfl) ?_); (refine tkQ 2 (s := by exact sxQ) ?_); (refine tkQ 3 (s := by exact Stab.loadMA rfl (tysOk.get rfl) rfl (by assumption) (by first | rfl | assumption)) ?_); (refine tkQ 4 (s := by exact swQ) ?_); (refine tkQ 5 (s := by exact Stab.steqL rfl rfl (by repeat (first | exact IntsL.nil | apply IntsL.cons)) (by repeat (first | exact IntsL.nil | apply IntsL.cons)) (tysOk.get rfl) rfl (by kernel_rfl) (by kernel_rfl) rfl rfl) ?_); (refine TrA.done (by kernel_rfl) ?_))
   (refine rQ ?_)
   refine Tr.again (i + 1) ⟨by omega, ?_⟩ (by omega) hsQ
   rw [List.take_add_one, hy, Option.toList_some, List.mem_append, List.mem_singleton, not_or]
   exact ⟨hno, fun e => hk (by rw [e])⟩
 ·have e : i = l.length := by omega
  subst e
  rw [List.take_length] at hno
  (refine rQ ?_)
  (refine dnQ (hL := by exact ⟨[_], rfl⟩) ⟨rfl, ?_⟩)
  exact ⟨by rw [decide_eq_false hno]; rfl, rfl⟩
end Go.Proofs.YtlifjajcmnkhfaaGreat

/-
 The reference's classes: Fits.
 Conditions: none.
-/
namespace Go.Proofs.YtlifjajcmnkhfaaGreat
open Go Bf
attribute [local irreducible] Tr Exec Stab HasTy Go.Addr.add IntKind.wrap
theorem len11 {l : List Value} (h : l.length = 11) : ∃ a0 a1 a2 a3 a4 a5 a6 a7 a8 a9 a10, l = [a0, a1, a2, a3, a4, a5, a6, a7, a8, a9, a10] := by
 match l, h with
 | [a0, a1, a2, a3, a4, a5, a6, a7, a8, a9, a10], _ => exact ⟨a0, a1, a2, a3, a4, a5, a6, a7, a8, a9, a10, rfl⟩
theorem looks_one (w : Wd) (s : Sp) (r : Rq) : looksR w s [r] = if couldF w s r = true then [lookF s r] else [] := by
 unfold looksR
 split
 ·rename_i h; rw [List.filter_cons_of_pos h]; rfl
 ·rename_i h; rw [List.filter_cons_of_neg h]; rfl
theorem couldF_used {w : Wd} {s : Sp} {r : Rq} (h : usedF w s.item r.item = false) : couldF w s r = false := by
 unfold couldF
 rw [h, Bool.and_false, Bool.and_false]
theorem couldF_ready {w : Wd} {s : Sp} {r : Rq} (h : s.ready > r.due) : couldF w s r = false := by
 unfold couldF
 rw [decide_eq_false (by omega), Bool.false_and]
theorem couldF_exp {w : Wd} {s : Sp} {r : Rq} (h : s.expiry < r.due + r.shelf) : couldF w s r = false := by
 unfold couldF
 rw [decide_eq_false (show ¬ r.due + r.shelf ≤ s.expiry by omega), Bool.false_and, Bool.and_false]
theorem couldF_yes {w : Wd} {s : Sp} {r : Rq} (h : usedF w s.item r.item = true) (h1 : ¬ s.ready > r.due) (h2 : ¬ s.expiry < r.due + r.shelf) : couldF w s r = true := by
 unfold couldF
 rw [h, decide_eq_true (by omega), decide_eq_true (by omega)]
 rfl
def FitsV (w : Wd) (known : Int) (s : Sp) (r : Rq) (v : Value) (M : Mem) : Prop := ∃ A c, v = .tuple #[.bool (fitF w known s r), .slice A (looksR w s [r]).length c] ∧ SlOf 5 RRd M (.slice A (looksR w s [r]).length c) (looksR w s [r])
theorem FitsV.no {w : Wd} {known : Int} {s : Sp} {r : Rq} {M : Mem} (h : couldF w s r = false) : FitsV w known s r (.tuple #[.bool false, .slice none 0 0]) M := by
 have e : looksR w s [r] = [] := by rw [looks_one, h]; rfl
 refine ⟨none, 0, ?_, ?_⟩
 ·rw [e, fitF, h]; rfl
 ·rw [e]; exact SlOf.nil _ _ _
set_option maxHeartbeats 8000000 in
set_option maxRecDepth 20000 in
theorem rfits_fn (M : Mem) (ws : List Value) (w : Wd) (hw : RWd M ws w) (s : Sp) (r : Rq) (hs : okSp s) (hr : okRq r) (known : Int) : Fn0 Tryz.prog 65 [.agg ws.toArray, .agg #[.int .i64 s.no, .int .i64 s.item, .int .i64 s.plant, .int .i64 s.ready, .int .i64 s.expiry, .int .i64 s.amount], .agg #[.int .i64 r.no, .int .i64 r.item, .int .i64 r.cust, .int .i64 r.due, .int .i64 r.shelf, .int .i64 r.amount], .int .i64 known] M (fun v M' => FitsV w known s r v M') := by
 obtain ⟨h11, hone, ⟨A7, c7, h7, hsw⟩, A10, c10, h10, hfa⟩ := hw
 obtain ⟨a0, a1, a2, a3, a4, a5, a6, a7, a8, a9, a10, rfl⟩ := len11 h11
 injection h7 with h7
 injection h10 with h10
 subst h7 h10
 have hone7 : AllOne [a0, a1, a2, a3, a4, a5, a6] := AllOne.of fun u hu => hone.mem u (by simp only [List.mem_cons, List.not_mem_nil, or_false] at hu ⊢; rcases hu with h | h | h | h | h | h | h <;> simp [h])
 have o0 := hone.mem a0 (by simp)
 have o1 := hone.mem a1 (by simp)
 have o2 := hone.mem a2 (by simp)
 have o3 := hone.mem a3 (by simp)
 have o4 := hone.mem a4 (by simp)
 have o5 := hone.mem a5 (by simp)
 have o6 := hone.mem a6 (by simp)
 have o8 := hone.mem a8 (by simp)
 have o9 := hone.mem a9 (by simp)
 have hr2 := hr
 obtain ⟨-, -, -, d1, d2, -⟩ := hr2
 refine Fn.intro Tryz.func65 rfl rfl Tryz.ntmps65 rfl fun E F => ?_
 (repeat (first | ((with_reducible refine Tr.step rfl ?_); (first | (refine xaQ ?_) | (refine xwQ ?_) | ((with_reducible refine Knd.box ?_); (refine Exec.box rfl rfl (fun b => ?_))))) | (with_reducible first | apply Tr.next | apply Tr.seq | apply Tr.region | apply Tr.nil)))
 rename_i b4 b5
 generalize b = b6
 ((refine Tr.step rfl ?_)); refine Exec.call0 rfl (rSupply_fn M s) rfl ?_
 rintro _ _ _ ⟨rfl, rfl⟩
 rw [decide_eq_true hs]
 (refine rQ ?_)
 ((refine Tr.guard_l rfl rfl rfl (by (with_reducible exact Bool.not_true)) ?_)); refine Exec.call0 rfl (rRequest_fn M r) rfl ?_
 rintro _ _ _ ⟨rfl, rfl⟩
 rw [decide_eq_true hr]
 (repeat (first | ((with_reducible refine Tr.step rfl ?_); (first | (refine xmQ ?_) | ((with_reducible refine Knd.pick ?_); (refine Exec.stab rfl (Stab.pick_f rfl (by (with_reducible exact Bool.not_true)) rfl) rfl ?_)))) | ((refine Tr.guard_l rfl rfl rfl (by (with_reducible exact Bool.not_true)) ?_); (first | ((with_reducible refine Knd.load ?_); (first | (refine xlQ ?_) | (refine Exec.stab rfl (Stab.loadP rfl (tysOk.get rfl) rfl (by repeat (first | exact Has.here | apply Has.there)) (by repeat (first | exact TakeL.z | apply TakeL.s))) rfl ?_))) | (refine xfQ ?_) | ((with_reducible refine Knd.unOp ?_); (refine Exec.stab rfl (Stab.not rfl) rfl ?_))))))
 ((refine Tr.guard_l rfl rfl rfl (by (with_reducible exact Bool.not_true)) ?_)); refine Exec.call0 rfl (rused_fn M a0 a1 a2 a3 a4 a5 a6 hone7 A7 c7 w hsw s.item r.item) rfl ?_
 rintro _ _ _ ⟨rfl, rfl⟩
 cases hu : usedF w s.item r.item with
 | false =>
  (refine rQ ?_)
  (refine dnQ (hL := by exact ⟨[_, _, _], rfl⟩) ⟨rfl, ?_⟩)
  exact FitsV.no (couldF_used hu)
 | true =>
 by_cases h1 : s.ready > r.due
 ·(refine rQ ?_)
  (refine dnQ (hL := by exact ⟨[_, _, _], rfl⟩) ⟨rfl, ?_⟩)
  exact FitsV.no (couldF_ready h1)
 by_cases h2 : s.expiry < r.due + r.shelf
 ·(refine rQ ?_)
  (refine dnQ (hL := by exact ⟨[_, _, _], rfl⟩) ⟨rfl, ?_⟩)
  exact FitsV.no (couldF_exp h2)
 have hc := couldF_yes hu h1 h2
 have hlk : looksR w s [r] = [lookF s r] := by rw [looks_one, hc]; rfl
 have fin : ∀ (M2 : Mem) (q : Bool) (t : Nat) (g : Nat), (box g t (rdC (lookF s r))).ok M2 → fitF w known s r = q → FitsV w known s r (.tuple #[.bool q, .slice (some ⟨g, 0, none⟩) 1 1]) M2 := fun M2 q t g hok hq => by
  refine ⟨some ⟨g, 0, none⟩, 1, by rw [hlk, hq]; rfl, ?_⟩
  rw [hlk]
  exact SlOf.ofBoxC (sz := 5) (n := 1) (c := 1) (xs := [lookF s r]) hok rfl rfl (Nat.le_refl _) (by decide) (rdC_one _) (rdC_elems M2 [lookF s r])
 (repeat (first | ((with_reducible refine Tr.step rfl ?_); (first | (refine xmQ ?_) | ((with_reducible refine Knd.load ?_); (first | (refine xlQ ?_) | (refine xwQ ?_))) | (refine xfQ ?_) | ((with_reducible refine Knd.pick ?_); (first | (refine Exec.stab rfl (Stab.pick_f rfl (by (with_reducible exact Bool.not_true)) rfl) rfl ?_) | (refine Exec.stab rfl (Stab.pick_fd rfl (by (with_reducible assumption)) rfl) rfl ?_))) | (refine xWQ ?_) | ((with_reducible refine Knd.alloc ?_); (refine Exec.alloc (tysOk.get rfl) rfl rfl (fun b => ?_))) | ((with_reducible refine Knd.build ?_); (refine Exec.stab rfl (Stab.build tysOk rfl rfl rfl rfl (by repeat (first | exact BuildP.nil | ((apply BuildP.one); (rfl); (rfl); (first | rfl | assumption); (repeat (first | exact SetL.z | apply SetL.s)))))) rfl ?_)))) | (with_reducible first | apply Tr.next | apply Tr.seq | apply Tr.region | apply Tr.nil) | ((refine Tr.guard_l rfl rfl rfl (by first | (with_reducible rfl) | (with_reducible exact Bool.not_true)) ?_); (first | (refine xlQ ?_) | (refine xfQ ?_) | (refine xiQ ?_) | ((with_reducible refine Knd.unOp ?_); (refine Exec.stab rfl (Stab.not rfl) rfl ?_)))) | ((refine Tr.guard_y' rfl rfl rfl (by (with_reducible assumption)) ?_); (first | (refine xlQ ?_) | (refine xfQ ?_) | ((with_reducible refine Knd.binOp ?_); (first | (refine xdQ ?_) | (refine xiQ ?_))))) | (with_reducible refine Tr.skip ?_) | (refine Tr.cond_f rfl (by (with_reducible assumption)) ?_)))
 generalize b = b10
 ((refine Tr.step rfl ?_)); refine Exec.call0 rfl (rat_fn M A10 c10 w.facts (7, r.cust, s.item) r.due known hfa) rfl ?_
 rintro _ _ _ ⟨rfl, rfl⟩
 cases ha : atF w.facts (7, r.cust, s.item) r.due known with
 | none =>
  have hf : fitF w known s r = true := by
   have : refusedF w (lookF s r) known = false := by unfold refusedF; rw [show atF w.facts (lookF s r).1 (lookF s r).2.1 known = none from ha]; rfl
   rw [fitF, hc, this]; rfl
  simp only [Option.isSome_none, Option.getD_none]
  (refine rQ ?_)
  (((apply Tr.draw); (kernel_rfl)); (refine tkQ 0 (hB := by exact fun _ h => h) (s := by exact Stab.move rfl) ?_); (refine tkQ 6 (s := by exact swQ) ?_); (refine tkQ 7 (s := by exact sfQ) ?_); (refine tkQ 9 (s := by exact sfQ) ?_); (refine tkQ 1 (s := by exact Stab.not rfl) ?_); (refine tkQ 8 (s := by exact slQ) ?_); (refine tkQ 10 (s := by exact slQ) ?_); (refine tkQ 2 (s := by exact Stab.move rfl) ?_); (refine tkQ 11 (s := by exact Stab.addi rfl rfl (by omega)) ?_); ((refine tuQ 3 ?_)); (refine tkQ 12 (s := by exact Stab.build tysOk rfl rfl rfl rfl (by repeat (first | exact BuildP.nil | ((apply BuildP.one); (rfl); (rfl); (first | rfl | assumption); (repeat (first | exact SetL.z | apply SetL.s))) | ((apply BuildP.many); (rfl); (rfl); (rfl); (rfl); (repeat (first | exact PutL.nil | ((apply PutL.cons); (repeat (first | exact SetL.z | apply SetL.s))))))))) ?_); ((refine tuQ 4 ?_)); (refine tkQ 5 (s := by exact Stab.pick_t rfl (by (with_reducible exact Bool.not_false)) rfl) ?_); (refine tkQ 14 (s := by exact Stab.assign rfl) ?_); (refine TrA.eff 13 rfl (by kernel_rfl) (by exact .inl rfl) ?_); (((refine Knd.buildSlice ?_); ((refine Exec.buildSlice (tysOk.get rfl) rfl (tysOk.get rfl) rfl rfl rfl rfl rfl (by repeat (first | exact BuildP.nil | ((apply BuildP.many); (rfl); (rfl); (rfl); (rfl); (repeat (first | exact PutL.nil | ((apply PutL.cons); (repeat (first | exact SetL.z | apply SetL.s)))))))) rfl (fun b => ?_))))); (refine ⟨(by first | exact Mem.le.refl _ | assumption), (by exact (Sub.mem (by repeat (first | exact Sub.refl | apply Sub.cons)))), ?_⟩); (refine tkQ 15 (s := by exact Stab.assign rfl) ?_); (refine TrA.done (by kernel_rfl) ?_))
  refine pbQ (r := box _ 104 _) (fun M2 hm2 hok => ?_)
  (repeat (first | (with_reducible first | apply Tr.next | apply Tr.ret)))
  (refine dnQ (hL := by exact ⟨[_, _, _, _], rfl⟩) ⟨rfl, ?_⟩)
  exact fin M2 _ _ _ hok hf
 | some n =>
  have hf : fitF w known s r = decide (n ≠ 1) := by
   have : refusedF w (lookF s r) known = decide (n = 1) := by unfold refusedF; rw [show atF w.facts (lookF s r).1 (lookF s r).2.1 known = some n from ha]; simp
   rw [fitF, hc, this]; simp
  simp only [Option.isSome_some, Option.getD_some]
  (refine rQ ?_)
  (((apply Tr.draw); (kernel_rfl)); (refine tkQ 0 (hB := by exact fun _ h => h) (s := by exact Stab.move rfl) ?_); (refine tkQ 6 (s := by exact swQ) ?_); (refine tkQ 7 (s := by exact sfQ) ?_); (refine tkQ 9 (s := by exact sfQ) ?_); (refine tkQ 1 (s := by exact Stab.not rfl) ?_); (refine tkQ 8 (s := by exact slQ) ?_); (refine tkQ 10 (s := by exact slQ) ?_); (refine tkQ 2 (s := by exact Stab.move rfl) ?_); (refine tkQ 11 (s := by exact Stab.addi rfl rfl (by omega)) ?_); ((refine tgQ 3 (q := (by (with_reducible exact Bool.not_true))) (s := by exact Stab.move rfl) ?_)); (refine tkQ 12 (s := by exact Stab.build tysOk rfl rfl rfl rfl (by repeat (first | exact BuildP.nil | ((apply BuildP.one); (rfl); (rfl); (first | rfl | assumption); (repeat (first | exact SetL.z | apply SetL.s))) | ((apply BuildP.many); (rfl); (rfl); (rfl); (rfl); (repeat (first | exact PutL.nil | ((apply PutL.cons); (repeat (first | exact SetL.z | apply SetL.s))))))))) ?_); ((refine tgQ 4 (q := (by (with_reducible exact Bool.not_true))) (s := by exact siQ) ?_)); (refine tkQ 5 (s := by exact Stab.pick_f rfl (by (with_reducible exact Bool.not_true)) rfl) ?_); (refine tkQ 14 (s := by exact Stab.assign rfl) ?_); (refine TrA.eff 13 rfl (by kernel_rfl) (by exact .inl rfl) ?_); (((refine Knd.buildSlice ?_); ((refine Exec.buildSlice (tysOk.get rfl) rfl (tysOk.get rfl) rfl rfl rfl rfl rfl (by repeat (first | exact BuildP.nil | ((apply BuildP.many); (rfl); (rfl); (rfl); (rfl); (repeat (first | exact PutL.nil | ((apply PutL.cons); (repeat (first | exact SetL.z | apply SetL.s)))))))) rfl (fun b => ?_))))); (refine ⟨(by first | exact Mem.le.refl _ | assumption), (by exact (Sub.mem (by repeat (first | exact Sub.refl | apply Sub.cons)))), ?_⟩); (refine tkQ 15 (s := by exact Stab.assign rfl) ?_); (refine TrA.done (by kernel_rfl) ?_))
  refine pbQ (r := box _ 104 _) (fun M2 hm2 hok => ?_)
  (repeat (first | (with_reducible first | apply Tr.next | apply Tr.ret)))
  (refine dnQ (hL := by exact ⟨[_, _, _, _], rfl⟩) ⟨rfl, ?_⟩)
  exact fin M2 _ _ _ hok hf
end Go.Proofs.YtlifjajcmnkhfaaGreat

/-
 The reference's classes: Table.
 Conditions: none.
-/
namespace Go.Proofs.YtlifjajcmnkhfaaGreat
open Go Bf
attribute [local irreducible] Tr Exec Stab HasTy Go.Addr.add IntKind.wrap
theorem rhas_lend (M : Mem) (A : Option Addr) (c : Nat) (hc : c ≤ 9223372036854775807) (l : List Rd) (x : Rd) :
  Bf.Fn Tryz.prog 66 [.slice A l.length c, .agg #[.int .i64 x.1.1, .int .i64 x.1.2.1, .int .i64 x.1.2.2, .int .i64 x.2.1, .int .i64 x.2.2]] M [ownS 104 5 A l.length c (l.flatMap rdC)] (fun v M' A' => A' = [ownS 104 5 A l.length c (l.flatMap rdC)] ∧ M = M' ∧ v = .bool (decide (x ∈ l))) :=
 Fn.lend (rs := [ownS 104 5 A l.length c (l.flatMap rdC)]) (R := fun v => v = .bool (decide (x ∈ l))) (clone_ok _ _ _ _ _ _ (rhas_fn M none 0 [] x (SlOf.nil _ _ _))) (fun M' _ hok =>
  rhas_fn M' A c l x (SlOf.ofOwn (hok (ownS 104 5 A l.length c (l.flatMap rdC)) List.mem_cons_self) rfl hc (rdC_elems _ _)))
theorem rdsJ_step {w : Wd} {s : List Sp} {r : List Rq} {i j : Nat} {x : Sp} {y : Rq} (hy : r[j]? = some y) : rdsJ w s r i x (j + 1) = (looksR w x [y]).foldl addNew (rdsJ w s r i x j) := by
 unfold rdsJ looksR
 rw [List.take_add_one, hy, Option.toList_some, List.filter_append, List.map_append, List.foldl_append]
theorem foldNew_take {l0 lk : List Rd} {n : Nat} {z : Rd} (h : lk[n]? = some z) : (lk.take (n + 1)).foldl addNew l0 = addNew ((lk.take n).foldl addNew l0) z := fold_take addNew l0 h
theorem foldNew_len : ∀ (lk l0 : List Rd), (lk.foldl addNew l0).length ≤ l0.length + lk.length
 | [], l0 => by simp
 | z :: lk, l0 => by
  rw [List.foldl_cons, List.length_cons]
  have := foldNew_len lk (addNew l0 z)
  have := addNew_len l0 z
  omega
theorem looks_len (w : Wd) (s : Sp) (r : Rq) : (looksR w s [r]).length ≤ 1 := by
 rw [looks_one]
 split <;> simp
theorem boV_app (l : List Bool) (v : Bool) : boV l ++ [Value.bool v] = boV (l ++ [v]) := by simp [boV]
set_option maxHeartbeats 16000000 in
set_option maxRecDepth 20000 in
theorem rtable_fn (M : Mem) (ws : List Value) (w : Wd) (hw : RWd M ws w) (A1 A2 : Option Addr) (c1 c2 : Nat) (s : List Sp) (r : List Rq) (known : Int) (hs : SlOf 6 RSpC M (.slice A1 s.length c1) s) (hr : SlOf 6 RRqC M (.slice A2 r.length c2) r) :
  Fn0 Tryz.prog 25 [.agg ws.toArray, .slice A1 s.length c1, .slice A2 r.length c2, .int .i64 known] M (fun v M' => TabR w s r known v M') := by
 have hl1 := hs.len_le
 have hl2 := hr.len_le
 have h11 := hw.len
 refine Fn.intro Tryz.func25 rfl rfl Tryz.ntmps25 rfl fun E F => ?_
 by_cases h1 : 64 < s.length
 ·(repeat (first | ((with_reducible refine Tr.step rfl ?_); (first | (refine xmQ ?_) | (refine xaQ ?_) | (refine xnQ ?_) | (refine xiQ ?_) | ((with_reducible refine Knd.pick ?_); (refine Exec.stab rfl (Stab.pick_td rfl (by omega) rfl) rfl ?_)) | ((with_reducible refine Knd.box ?_); (refine Exec.box rfl rfl (fun b => ?_))))) | (with_reducible first | apply Tr.next | apply Tr.seq | apply Tr.region | apply Tr.nil) | (refine Tr.guard_n' rfl rfl rfl (by first | (with_reducible assumption) | omega) rfl rfl ?_) | (with_reducible first | apply Tr.ret | apply Tr.then_ret) | (refine Tr.cond_bt rfl (by (with_reducible rfl)) ?_)))
  (refine dnQ (hL := by exact ⟨[_], rfl⟩) ⟨rfl, ?_⟩)
  exact .inl ⟨fun h => by have := h.1.1; omega, rfl⟩
 by_cases h2 : 64 < r.length
 ·(repeat (first | ((with_reducible refine Tr.step rfl ?_); (first | (refine xmQ ?_) | (refine xaQ ?_) | (refine xnQ ?_) | (refine xiQ ?_) | ((with_reducible refine Knd.pick ?_); (refine Exec.stab rfl (Stab.pick_fd rfl (by omega) rfl) rfl ?_)) | ((with_reducible refine Knd.box ?_); (refine Exec.box rfl rfl (fun b => ?_))))) | (with_reducible first | apply Tr.next | apply Tr.seq | apply Tr.region | apply Tr.nil) | ((refine Tr.guard_y' rfl rfl rfl (by first | (with_reducible assumption) | omega) ?_); (first | (refine xmQ ?_) | (refine xnQ ?_) | (refine xiQ ?_))) | (with_reducible first | apply Tr.ret | apply Tr.then_ret) | (refine Tr.cond_t rfl (by first | (with_reducible assumption) | omega) ?_)))
  (refine dnQ (hL := by exact ⟨[_], rfl⟩) ⟨rfl, ?_⟩)
  exact .inl ⟨fun h => by have := h.1.2; omega, rfl⟩
 (repeat (first | ((with_reducible refine Tr.step rfl ?_); (first | (refine xmQ ?_) | (refine xaQ ?_) | (refine xnQ ?_) | (refine xiQ ?_) | ((with_reducible refine Knd.pick ?_); (refine Exec.stab rfl (Stab.pick_fd rfl (by omega) rfl) rfl ?_)) | ((with_reducible refine Knd.box ?_); (refine Exec.box rfl rfl (fun b => ?_))))) | (with_reducible first | apply Tr.next | apply Tr.seq | apply Tr.region | apply Tr.nil) | ((refine Tr.guard_y' rfl rfl rfl (by first | (with_reducible assumption) | omega) ?_); (first | (refine xmQ ?_) | (refine xnQ ?_) | (refine xiQ ?_))) | (with_reducible first | apply Tr.skip | apply Tr.block) | (refine Tr.cond_f rfl (by first | (with_reducible assumption) | omega) ?_)))
 generalize b = b4
 refine Tr.loop (α := Nat) (fun i => ⟨112, [(11, .int .i64 (i : Int)), (1, .slice A1 s.length c1), (2, .slice A2 r.length c2), (3, .int .i64 known), (4, .pointer (some ⟨b4, 0, none⟩))], [], M, box b4 38 ws :: ([] ++ F)⟩)
  (fun i => i ≤ s.length ∧ ∀ x ∈ s.take i, okSp x) (fun i => s.length - i) 0 ⟨Nat.zero_le _, by simp⟩ hsQ (fun i hi => ?_)
 obtain ⟨hi, hall⟩ := hi
 by_cases hlt : i < s.length
 ·obtain ⟨x, hx⟩ := get_of_lt hlt
  obtain ⟨hA, ch, hat, rfl⟩ := hs.elem hx
  simp only [spC] at hat
  (refine rQ ?_)
  ((refine Tr.step rfl ?_)); refine Exec.call0 rfl (rSupply_fn M x) rfl ?_
  rintro _ _ _ ⟨rfl, rfl⟩
  by_cases hk : okSp x
  ·rw [decide_eq_true hk]
   (refine rQ ?_)
   refine Tr.again (i + 1) ⟨by omega, ?_⟩ (by omega) hsQ
   rw [List.take_add_one, hx, Option.toList_some]
   intro z hz
   rcases List.mem_append.1 hz with hz | hz
   ·exact hall z hz
   ·simp at hz; subst hz; exact hk
  ·rw [decide_eq_false hk]
   (refine rQ ?_)
   (refine dnQ (hL := by exact ⟨[_], rfl⟩) ⟨rfl, ?_⟩)
   exact .inl ⟨fun h => hk (h.2.1 x (List.mem_of_getElem? hx)), rfl⟩
 have ei : i = s.length := by omega
 subst ei
 rw [List.take_length] at hall
 have h3 := hall
 clear hall hi hlt
 (refine rQ ?_)
 refine Tr.loop (α := Nat) (fun i => ⟨112, [(12, .int .i64 (i : Int)), (1, .slice A1 s.length c1), (2, .slice A2 r.length c2), (3, .int .i64 known), (4, .pointer (some ⟨b4, 0, none⟩))], [], M, box b4 38 ws :: ([] ++ F)⟩)
  (fun i => i ≤ r.length ∧ ∀ x ∈ r.take i, okRq x) (fun i => r.length - i) 0 ⟨Nat.zero_le _, by simp⟩ hsQ (fun i hi => ?_)
 obtain ⟨hi, hall⟩ := hi
 by_cases hlt : i < r.length
 ·obtain ⟨x, hx⟩ := get_of_lt hlt
  obtain ⟨hA, ch, hat, rfl⟩ := hr.elem hx
  simp only [rqC] at hat
  (refine rQ ?_)
  ((refine Tr.step rfl ?_)); refine Exec.call0 rfl (rRequest_fn M x) rfl ?_
  rintro _ _ _ ⟨rfl, rfl⟩
  by_cases hk : okRq x
  ·rw [decide_eq_true hk]
   (refine rQ ?_)
   refine Tr.again (i + 1) ⟨by omega, ?_⟩ (by omega) hsQ
   rw [List.take_add_one, hx, Option.toList_some]
   intro z hz
   rcases List.mem_append.1 hz with hz | hz
   ·exact hall z hz
   ·simp at hz; subst hz; exact hk
  ·rw [decide_eq_false hk]
   (refine rQ ?_)
   (refine dnQ (hL := by exact ⟨[_], rfl⟩) ⟨rfl, ?_⟩)
   exact .inl ⟨fun h => hk (h.2.2 x (List.mem_of_getElem? hx)), rfl⟩
 have ei : i = r.length := by omega
 subst ei
 rw [List.take_length] at hall
 have h4 := hall
 clear hall hi hlt
 (repeat (first | ((with_reducible refine Tr.step rfl ?_); (first | (refine xmQ ?_) | (refine xaQ ?_) | (refine xnQ ?_) | (refine xiQ ?_) | ((with_reducible refine Knd.buildSlice ?_); (refine Exec.buildSlice (tysOk.get rfl) rfl (tysOk.get rfl) rfl rfl rfl rfl rfl (by repeat (exact BuildP.nil)) rfl (fun b => ?_))))) | (with_reducible first | apply Tr.next | apply Tr.seq | apply Tr.region | apply Tr.nil | apply Tr.block | apply Tr.exit | apply Tr.then_exit) | ((with_reducible refine Tr.in_exit ?_ ?_); (exact rfl)) | (refine Tr.cond_f rfl (by first | (with_reducible assumption) | omega) ?_)))
 rename_i bf
 generalize b = bg
 refine Tr.box_own 1 0 (b := bf) (by repeat (first | exact Upd.here | apply Upd.there)) rfl (by intro u hu; cases hu) (by simp [maxLen]) ?_
 refine Tr.box_own 5 0 (b := bg) (by repeat (first | exact Upd.here | apply Upd.there)) rfl (by intro u hu; cases hu) (by simp [maxLen]) ?_
 refine ftQ (r := ownS 120 1 _ _ _ _) ?_
 refine Tr.loop (α := Nat × Mem × List Value × (Option Addr × Nat) × (Option Addr × Nat)) (fun y => ⟨112, [(15, .int .i64 (y.1 : Int)), (13, .slice y.2.2.2.1.1 y.1 y.2.2.2.1.2), (14, .slice y.2.2.2.2.1 (rdsI w s r y.1).length y.2.2.2.2.2), (1, .slice A1 s.length c1), (2, .slice A2 r.length c2), (3, .int .i64 known), (4, .pointer (some ⟨b4, 0, none⟩))], [], y.2.1, ownS 120 1 y.2.2.2.1.1 y.1 y.2.2.2.1.2 y.2.2.1 :: ownS 104 5 y.2.2.2.2.1 (rdsI w s r y.1).length y.2.2.2.2.2 ((rdsI w s r y.1).flatMap rdC) :: box b4 38 ws :: ([] ++ F)⟩)
  (fun y => y.1 ≤ s.length ∧ Mem.le M y.2.1 ∧ Elems 1 RRowB y.2.1 y.2.2.1 (fitsT w known (s.take y.1) r) ∧ y.2.2.2.1.2 ≤ 9223372036854775807 ∧ y.2.2.2.2.2 ≤ 9223372036854775807 ∧ (rdsI w s r y.1).length ≤ 64 * y.1) (fun y => s.length - y.1) (0, M, [], (_, 0), (_, 0)) ⟨Nat.zero_le _, Mem.le.refl _, Elems.nil, by simp, by simp, by simp [rdsI, readsF]⟩ hsQ (fun y hy => ?_)
 obtain ⟨i, M1, cells, ⟨Af, cf⟩, Ar, cr⟩ := y
 obtain ⟨hi, hM, hel, hcf, hcr, hrl⟩ := hy
 simp only at hi hM hel hcf hcr hrl
 dsimp only
 have hs1 := hs.mono RSpC.mono hM
 have hr1 := hr.mono RRqC.mono hM
 have hw1 := hw.mono hM
 by_cases hlt : i < s.length
 rotate_left
 ·have ei : i = s.length := by omega
  subst ei
  rw [List.take_length] at hel
  have e0 : rdsI w s r s.length = readsF w s r := by rw [rdsI, List.take_length]
  rw [e0] at hrl ⊢
  (refine rQ ?_)
  refine pbQ (r := ownS 104 5 _ _ _ _) (fun M2 hm2 hok => ?_)
  refine pbQ (r := ownS 120 1 _ _ _ _) (fun M3 hm3 hok2 => ?_)
  have hfl : s.length = (fitsT w known s r).length := by simp [fitsT]
  have hF : Fits2 M3 (.slice Af (fitsT w known s r).length cf) (fitsT w known s r) := SlOf.ofOwn hok2 hfl hcf (hel.mono RRowB.mono (hm2.trans hm3))
  have hR : SlOf 5 RRd M3 (.slice Ar (readsF w s r).length cr) (readsF w s r) := (SlOf.ofOwn hok rfl hcr (rdC_elems _ _)).mono RRd.mono hm3
  have hmm := hM.trans (hm2.trans hm3)
  (refine dnQ (hL := by exact ⟨[_], rfl⟩) ⟨rfl, ?_⟩)
  refine .inr ⟨⟨⟨by omega, by omega⟩, h3, h4⟩, Af, cf, Ar, cr, ?_, hF, hR⟩
  rw [← hfl]; rfl
 obtain ⟨x, hx⟩ := get_of_lt hlt
 have hxo := h3 x (List.mem_of_getElem? hx)
 obtain ⟨hA, ch, hat, rfl⟩ := hs1.elem hx
 simp only [spC] at hat
 (repeat (first | ((with_reducible refine Tr.step rfl ?_); (first | (refine xmQ ?_) | (refine xaQ ?_) | (refine xnQ ?_) | (refine xiQ ?_) | ((with_reducible refine Knd.buildSlice ?_); (refine Exec.buildSlice (tysOk.get rfl) rfl (tysOk.get rfl) rfl rfl rfl rfl rfl (by repeat (exact BuildP.nil)) rfl (fun b => ?_))))) | (with_reducible first | apply Tr.next | apply Tr.seq | apply Tr.region | apply Tr.nil | apply Tr.skip | apply Tr.block) | (refine Tr.cond_t rfl (by first | (with_reducible assumption) | omega) ?_)))
 generalize b = bw
 refine Tr.box_own 1 0 (b := bw) (by repeat (first | exact Upd.here | apply Upd.there)) rfl (by intro u hu; cases hu) (by simp [maxLen]) ?_
 refine ftQ (r := ownS 104 5 _ _ _ _) ?_
 refine Tr.loop (α := Nat × Mem × (Option Addr × Nat) × (Option Addr × Nat)) (fun y => ⟨112, [(17, .int .i64 (y.1 : Int)), (16, .slice y.2.2.1.1 y.1 y.2.2.1.2), (14, .slice y.2.2.2.1 (rdsJ w s r i x y.1).length y.2.2.2.2), (15, .int .i64 (i : Int)), (13, .slice Af i cf), (1, .slice A1 s.length c1), (2, .slice A2 r.length c2), (3, .int .i64 known), (4, .pointer (some ⟨b4, 0, none⟩))], [], y.2.1, ownS 104 5 y.2.2.2.1 (rdsJ w s r i x y.1).length y.2.2.2.2 ((rdsJ w s r i x y.1).flatMap rdC) :: ownS 4 1 y.2.2.1.1 y.1 y.2.2.1.2 (boV ((r.take y.1).map (fitF w known x))) :: ownS 120 1 Af i cf cells :: box b4 38 ws :: ([] ++ F)⟩)
  (fun y => y.1 ≤ r.length ∧ Mem.le M1 y.2.1 ∧ y.2.2.1.2 ≤ 9223372036854775807 ∧ y.2.2.2.2 ≤ 9223372036854775807 ∧ (rdsJ w s r i x y.1).length ≤ 64 * i + y.1) (fun y => r.length - y.1) (0, M1, (_, 0), (Ar, cr)) ⟨Nat.zero_le _, Mem.le.refl _, by simp, hcr, by simpa [rdsJ, looksR] using hrl⟩ (by simpa [rdsJ, looksR, boV] using (hsQ)) (fun y hy => ?_)
 obtain ⟨j, M2, ⟨Aw, cw⟩, Ar2, cr2⟩ := y
 obtain ⟨hj, hM2, hcw, hcr2, hrl2⟩ := hy
 simp only at hj hM2 hcw hcr2 hrl2
 dsimp only
 have hs2 := hs1.mono RSpC.mono hM2
 have hr2 := hr1.mono RRqC.mono hM2
 have hw2 := hw1.mono hM2
 by_cases hjlt : j < r.length
 rotate_left
 ·have ej : j = r.length := by omega
  subst ej
  rw [← rdsJ_end hx] at hrl2 ⊢
  rw [List.take_length]
  refine pbQ (r := ownS 4 1 _ _ _ _) (fun M3 hm3 hok => ?_)
  have hB : Bools M3 (.slice Aw (r.map (fitF w known x)).length cw) (r.map (fitF w known x)) := SlOf.ofOwn hok (by simp) hcw (boW_elems _ _)
  (repeat (first | ((with_reducible refine Tr.step rfl ?_); (first | (refine xmQ ?_) | (refine xnQ ?_) | (refine xiQ ?_) | ((with_reducible refine Knd.buildSlice ?_); (refine Exec.buildSlice (tysOk.get rfl) rfl (tysOk.get rfl) rfl rfl rfl rfl rfl (by repeat (first | exact BuildP.nil | ((apply BuildP.one); (rfl); (rfl); (first | rfl | assumption); (repeat (first | exact SetL.z | apply SetL.s))))) rfl (fun b => ?_))))) | (with_reducible first | apply Tr.next | apply Tr.seq | apply Tr.region | apply Tr.nil | apply Tr.exit | apply Tr.then_exit) | ((with_reducible refine Tr.in_exit ?_ ?_); (exact rfl)) | (refine Tr.cond_f rfl (by first | (with_reducible assumption) | omega) ?_)))
  ((refine Tr.step rfl ?_))
  refine Exec.append (news := [.slice Aw r.length cw]) rfl rfl (tysOk.get rfl) rfl (tysOk.get rfl) rfl rfl rfl rfl (by repeat (first | exact Del.here | apply Del.there)) (Src.box (by repeat (first | exact Has.here | apply Has.there))) rfl (by intro u hu; simp at hu; subst hu; rfl) (by omega) (by omega) rfl (fun A6 c6 hc6 => ?_)
  refine gvQ (r := box _ 120 _) ?_
  (refine rQ ?_)
  refine Tr.again (i + 1, M3, cells ++ [.slice Aw r.length cw], (A6, c6), (Ar2, cr2)) ⟨by simp only; omega, hM.trans (hM2.trans hm3), ?_, hc6, hcr2, by simp only; omega⟩ (by simp only; omega) hsQ
  have e2 : fitsT w known (s.take (i + 1)) r = fitsT w known (s.take i) r ++ [r.map (fitF w known x)] := by
   unfold fitsT
   rw [List.take_add_one, hx]
   simp
  simp only
  rw [e2]
  exact (hel.mono RRowB.mono (hM2.trans hm3)).append (Elems.one rfl ⟨Aw, cw, by rw [List.length_map], hB⟩)
 obtain ⟨y, hy⟩ := get_of_lt hjlt
 have hyo := h4 y (List.mem_of_getElem? hy)
 obtain ⟨hA0, ch0, hat0, rfl⟩ := hs2.elem hx
 simp only [spC] at hat0
 obtain ⟨hA2, ch2, hat2, rfl⟩ := hr2.elem hy
 simp only [rqC] at hat2
 have hstep := rdsJ_step (w := w) (s := s) (i := i) (x := x) hy
 have hlk1 := looks_len w x y
 have htk : boV ((r.take j).map (fitF w known x)) ++ [.bool (fitF w known x y)] = boV ((r.take (j + 1)).map (fitF w known x)) := by
  rw [boV_app, List.take_add_one, hy]
  simp
 (refine rQ ?_)
 (((apply Tr.draw); (kernel_rfl)); (refine tkQ 0 (hB := by exact fun _ h => h) (s := by exact Stab.loadW rfl (tysOk.get rfl) rfl (by repeat (first | exact Has.here | apply Has.there)) (by assumption)) ?_); (refine tkQ 1 (s := by exact Stab.move rfl) ?_); (refine tkQ 2 (s := by exact Stab.move rfl) ?_); (refine tkQ 5 (s := by exact Stab.move rfl) ?_); (refine tkQ 6 (s := by exact Stab.move rfl) ?_); (refine tkQ 9 (s := by exact Stab.move rfl) ?_); (refine tkQ 3 (s := by exact sxQ) ?_); (refine tkQ 7 (s := by exact sxQ) ?_); (refine tkQ 4 (s := by exact Stab.loadMA rfl (tysOk.get rfl) rfl (by assumption) (by first | rfl | assumption)) ?_); (refine tkQ 8 (s := by exact Stab.loadMA rfl (tysOk.get rfl) rfl (by assumption) (by first | rfl | assumption)) ?_); (refine TrA.eff 10 rfl (by kernel_rfl) (by exact .inl rfl) ?_))
 refine Exec.call0 rfl (rfits_fn M2 ws w hw2 x y hxo hyo known) rfl ?_
 rintro _ M3 hm3 ⟨B, kb, rfl, hB⟩
 refine ⟨hm3, (by exact fun _ h => h), ?_⟩
 generalize hlk : looksR w x [y] = lk at hB hstep hlk1 ⊢
 ((refine tkQ 11 (s := by exact Stab.move rfl) ?_); (refine tkQ 12 (s := by exact Stab.extract rfl rfl) ?_); (refine tkQ 13 (s := by exact Stab.extract rfl rfl) ?_); (refine tkQ 14 (s := by exact Stab.assign rfl) ?_); (refine tkQ 15 (s := by exact Stab.assign rfl) ?_); (refine TrA.done (by kernel_rfl) ?_))
 (repeat (first | ((with_reducible refine Tr.step rfl ?_); (first | (refine xmQ ?_) | ((with_reducible refine Knd.buildSlice ?_); (refine Exec.buildSlice (tysOk.get rfl) rfl (tysOk.get rfl) rfl rfl rfl rfl rfl (by repeat (first | exact BuildP.nil | ((apply BuildP.one); (rfl); (rfl); (first | rfl | assumption); (repeat (first | exact SetL.z | apply SetL.s))))) rfl (fun b => ?_))))) | (with_reducible first | apply Tr.next | apply Tr.seq | apply Tr.region)))
 ((refine Tr.step rfl ?_))
 refine Exec.append (news := [.bool (fitF w known x y)]) rfl rfl (tysOk.get rfl) rfl (tysOk.get rfl) rfl rfl rfl rfl (by repeat (first | exact Del.here | apply Del.there)) (Src.box (by repeat (first | exact Has.here | apply Has.there))) rfl (by intro u hu; simp at hu; subst hu; rfl) (by omega) (by omega) rfl (fun A6 c6 hc6 => ?_)
 refine gvQ (r := box _ 4 _) ?_
 rw [htk]
 (refine rQ ?_)
 refine ftQ (r := ownS 104 5 _ _ _ _) ?_
 refine Tr.loop (α := Nat × (Option Addr × Nat)) (fun y => ⟨112, [(20, .int .i64 (y.1 : Int)), (14, .slice y.2.1 ((lk.take y.1).foldl addNew (rdsJ w s r i x j)).length y.2.2), (19, .slice B lk.length kb), (17, .int .i64 (j : Int)), (16, .slice A6 (j + 1) c6), (15, .int .i64 (i : Int)), (13, .slice Af i cf), (1, .slice A1 s.length c1), (2, .slice A2 r.length c2), (3, .int .i64 known), (4, .pointer (some ⟨b4, 0, none⟩))], [], M3, ownS 104 5 y.2.1 ((lk.take y.1).foldl addNew (rdsJ w s r i x j)).length y.2.2 (((lk.take y.1).foldl addNew (rdsJ w s r i x j)).flatMap rdC) :: ownS 4 1 A6 (j + 1) c6 (boV ((r.take (j + 1)).map (fitF w known x))) :: ownS 120 1 Af i cf cells :: box b4 38 ws :: ([] ++ F)⟩)
  (fun y => y.1 ≤ lk.length ∧ y.2.2 ≤ 9223372036854775807) (fun y => lk.length - y.1) (0, (Ar2, cr2)) ⟨Nat.zero_le _, hcr2⟩ hsQ (fun q hq => ?_)
 obtain ⟨n, Ar3, cr3⟩ := q
 obtain ⟨hn, hcr3⟩ := hq
 simp only at hn hcr3
 dsimp only
 have hfl3 := foldNew_len (lk.take n) (rdsJ w s r i x j)
 rw [List.length_take] at hfl3
 by_cases hnlt : n < lk.length
 rotate_left
 ·have en : n = lk.length := by omega
  subst en
  rw [List.take_length] at hfl3 ⊢
  rw [← hstep] at hfl3 ⊢
  (refine rQ ?_)
  exact Tr.again (j + 1, M3, (A6, c6), (Ar3, cr3)) ⟨by simp only; omega, hM2.trans hm3, hc6, hcr3, by simp only; omega⟩ (by simp only; omega) hsQ
 obtain ⟨z, hz⟩ := get_of_lt hnlt
 obtain ⟨hA4, ch4, hat4, rfl⟩ := hB.elem hz
 simp only [rdC] at hat4
 have hft := foldNew_take (l0 := rdsJ w s r i x j) hz
 generalize hrd : (lk.take n).foldl addNew (rdsJ w s r i x j) = R0 at hft hfl3 ⊢
 (refine rQ ?_)
 ((refine Tr.step rfl ?_))
 refine Exec.call (A := [ownS 104 5 Ar3 R0.length cr3 (R0.flatMap rdC)]) rfl (rhas_lend M3 Ar3 cr3 hcr3 R0 z) (take1 (by repeat (first | exact Del.here | apply Del.there))) rfl ?_
 rintro _ _ _ _ ⟨rfl, rfl, rfl⟩
 by_cases hin : z ∈ R0
 ·rw [decide_eq_true hin]
  have hadd : addNew R0 z = R0 := by rw [addNew, if_pos hin]
  rw [hadd] at hft
  (refine rQ ?_)
  refine Tr.again (n + 1, (Ar3, cr3)) ⟨by simp only; omega, hcr3⟩ (by simp only; omega) (by simp only [hft]; exact hsQ)
 ·rw [decide_eq_false hin]
  have hadd : addNew R0 z = R0 ++ [z] := by rw [addNew, if_neg hin]
  rw [hadd] at hft
  (repeat (first | ((with_reducible refine Tr.step rfl ?_); (first | (refine xmQ ?_) | ((with_reducible refine Knd.load ?_); (refine Exec.stab rfl (Stab.loadMA rfl (tysOk.get rfl) rfl (by assumption) (by first | rfl | assumption)) rfl ?_)) | ((with_reducible refine Knd.unOp ?_); (refine Exec.stab rfl (Stab.not rfl) rfl ?_)) | (refine xxQ ?_) | ((with_reducible refine Knd.buildSlice ?_); (refine Exec.buildSlice (tysOk.get rfl) rfl (tysOk.get rfl) rfl rfl rfl rfl rfl (by repeat (first | exact BuildP.nil | ((apply BuildP.many); (rfl); (rfl); (rfl); (rfl); (repeat (first | exact PutL.nil | ((apply PutL.cons); (repeat (first | exact SetL.z | apply SetL.s)))))))) rfl (fun b => ?_))))) | (with_reducible first | apply Tr.next | apply Tr.region | apply Tr.nil) | (refine Tr.cond_bt rfl (by first | (with_reducible rfl) | (with_reducible exact Bool.not_false)) ?_)))
  ((refine Tr.step rfl ?_))
  refine Exec.append (news := rdC z) rfl rfl (tysOk.get rfl) rfl (tysOk.get rfl) rfl rfl rfl rfl (by repeat (first | exact Del.here | apply Del.there)) (Src.box (by repeat (first | exact Has.here | apply Has.there))) rfl (rdC_one _) (by omega) (by omega) rfl (fun A7 c7 hc7 => ?_)
  refine gvQ (r := box _ 104 _) ?_
  have hfl : R0.flatMap rdC ++ rdC z = (R0 ++ [z]).flatMap rdC := by rw [List.flatMap_append]; simp
  have hln : R0.length + 1 = (R0 ++ [z]).length := by simp
  rw [hfl, hln]
  (refine rQ ?_)
  refine Tr.again (n + 1, (A7, c7)) ⟨by simp only; omega, hc7⟩ (by simp only; omega) (by simp only [hft]; exact hsQ)
end Go.Proofs.YtlifjajcmnkhfaaGreat

/-
 The reference's promises: amounts, needs, numbers.
 Conditions: none.
-/
namespace Go.Proofs.YtlifjajcmnkhfaaGreat
open Go Bf
attribute [local irreducible] Tr Exec Stab HasTy Go.Addr.add IntKind.wrap
set_option maxHeartbeats 4000000 in
theorem ramS_fn (M : Mem) (A : Option Addr) (c : Nat) (l : List Sp) (h : SlOf 6 RSpC M (.slice A l.length c) l) (hl : l.length ≤ 1000000) :
  Fn0 Tryz.prog 95 [.slice A l.length c] M (fun v M' => ∃ A1 c1, v = .slice A1 (amS l).length c1 ∧ Ints M' (.slice A1 (amS l).length c1) (amS l)) := by
 refine Fn.intro Tryz.func95 rfl rfl Tryz.ntmps95 rfl fun E F => ?_
 (repeat (first | ((with_reducible refine Tr.step rfl ?_); (first | (refine xaQ ?_) | ((with_reducible refine Knd.buildSlice ?_); (refine Exec.buildSlice (tysOk.get rfl) rfl (tysOk.get rfl) rfl rfl rfl rfl rfl (by repeat (exact BuildP.nil)) rfl (fun b => ?_))))) | (with_reducible first | apply Tr.next | apply Tr.seq | apply Tr.region | apply Tr.nil | apply Tr.block)))
 refine Tr.box_own 1 0 (by repeat (first | exact Upd.here | apply Upd.there)) rfl (by intro u hu; cases hu) (by simp [maxLen]) ?_
 refine Tr.loop (α := Nat × Option Addr × Nat) (fun y => ⟨21, [(4, .int .i64 (y.1 : Int)), (3, .slice y.2.1 y.1 y.2.2), (0, .slice A l.length c)], [], M, ownS 3 1 y.2.1 y.1 y.2.2 (intV ((l.take y.1).map (·.amount))) :: ([] ++ F)⟩)
  (fun y => y.1 ≤ l.length ∧ y.2.2 ≤ 9223372036854775807) (fun y => l.length - y.1) (0, _, 0) ⟨Nat.zero_le _, by simp⟩ hsQ (fun y hy => ?_)
 obtain ⟨i, A1, c1⟩ := y
 obtain ⟨hi, hc1⟩ := hy
 simp only at hi hc1
 dsimp only
 by_cases hlt : i < l.length
 ·obtain ⟨y, hy⟩ := get_of_lt hlt
  obtain ⟨hA, ch, hat, rfl⟩ := h.elem hy
  have hat2 : At M (((A.getD default).add (i * 6)).add 5) [.int .i64 y.amount] := hat.drop 5
  have e1 := nums_take (·.amount) hy
  (repeat (first | ((with_reducible refine Tr.step rfl ?_); (first | (refine xmQ ?_) | (refine xMQ ?_) | ((with_reducible refine Knd.fieldAddr ?_); (refine Exec.stab rfl (Stab.fieldD rfl (tysOk.get rfl) rfl rfl (tysOk.get rfl) rfl) rfl ?_)) | (refine xnQ ?_) | (refine xiQ ?_) | (refine xxQ ?_) | ((with_reducible refine Knd.buildSlice ?_); (refine Exec.buildSlice (tysOk.get rfl) rfl (tysOk.get rfl) rfl rfl rfl rfl rfl (by repeat (first | exact BuildP.nil | ((apply BuildP.one); (rfl); (rfl); (first | rfl | assumption); (repeat (first | exact SetL.z | apply SetL.s))))) rfl (fun b => ?_))))) | (with_reducible first | apply Tr.next | apply Tr.seq | apply Tr.region | apply Tr.nil | apply Tr.skip | apply Tr.block) | (refine Tr.cond_t rfl (by first | (with_reducible assumption) | omega) ?_)))
  ((refine Tr.step rfl ?_))
  refine Exec.append (news := [.int .i64 y.amount]) rfl rfl (tysOk.get rfl) rfl (tysOk.get rfl) rfl rfl rfl rfl (by repeat (first | exact Del.here | apply Del.there)) (Src.box (by repeat (first | exact Has.here | apply Has.there))) rfl (by intro u hu; simp at hu; subst hu; rfl) (by omega) (by omega) rfl (fun A3 c3 hc3 => ?_)
  refine gvQ (r := box _ 3 _) ?_
  rw [show intV ((l.take i).map (·.amount)) ++ [Value.int .i64 y.amount] = intV ((l.take (i + 1)).map (·.amount)) by rw [e1, intV_append]; rfl]
  (refine rQ ?_)
  exact Tr.again (i + 1, A3, c3) ⟨by simp only; omega, hc3⟩ (by simp only; omega) hsQ
 have ei : i = l.length := by omega
 subst ei
 rw [List.take_length]
 refine pbQ (r := ownS 3 1 A1 _ _ _) (fun M2 hm2 hok => ?_)
 have hI : Ints M2 (.slice A1 (amS l).length c1) (amS l) := Ints.ofOwn hok (by simp [amS]) hc1
 (refine rQ ?_)
 (refine dnQ (hL := by exact ⟨[], rfl⟩) ⟨rfl, ?_⟩)
 exact ⟨A1, c1, by simp [amS]; rfl, hI⟩
set_option maxHeartbeats 4000000 in
theorem ramR_fn (M : Mem) (A : Option Addr) (c : Nat) (l : List Rq) (h : SlOf 6 RRqC M (.slice A l.length c) l) (hl : l.length ≤ 1000000) :
  Fn0 Tryz.prog 96 [.slice A l.length c] M (fun v M' => ∃ A1 c1, v = .slice A1 (amR l).length c1 ∧ Ints M' (.slice A1 (amR l).length c1) (amR l)) := by
 refine Fn.intro Tryz.func96 rfl rfl Tryz.ntmps96 rfl fun E F => ?_
 (repeat (first | ((with_reducible refine Tr.step rfl ?_); (first | (refine xaQ ?_) | ((with_reducible refine Knd.buildSlice ?_); (refine Exec.buildSlice (tysOk.get rfl) rfl (tysOk.get rfl) rfl rfl rfl rfl rfl (by repeat (exact BuildP.nil)) rfl (fun b => ?_))))) | (with_reducible first | apply Tr.next | apply Tr.seq | apply Tr.region | apply Tr.nil | apply Tr.block)))
 refine Tr.box_own 1 0 (by repeat (first | exact Upd.here | apply Upd.there)) rfl (by intro u hu; cases hu) (by simp [maxLen]) ?_
 refine Tr.loop (α := Nat × Option Addr × Nat) (fun y => ⟨21, [(4, .int .i64 (y.1 : Int)), (3, .slice y.2.1 y.1 y.2.2), (0, .slice A l.length c)], [], M, ownS 3 1 y.2.1 y.1 y.2.2 (intV ((l.take y.1).map (·.amount))) :: ([] ++ F)⟩)
  (fun y => y.1 ≤ l.length ∧ y.2.2 ≤ 9223372036854775807) (fun y => l.length - y.1) (0, _, 0) ⟨Nat.zero_le _, by simp⟩ hsQ (fun y hy => ?_)
 obtain ⟨i, A1, c1⟩ := y
 obtain ⟨hi, hc1⟩ := hy
 simp only at hi hc1
 dsimp only
 by_cases hlt : i < l.length
 ·obtain ⟨y, hy⟩ := get_of_lt hlt
  obtain ⟨hA, ch, hat, rfl⟩ := h.elem hy
  have hat2 : At M (((A.getD default).add (i * 6)).add 5) [.int .i64 y.amount] := hat.drop 5
  have e1 := nums_take (·.amount) hy
  (repeat (first | ((with_reducible refine Tr.step rfl ?_); (first | (refine xmQ ?_) | (refine xMQ ?_) | ((with_reducible refine Knd.fieldAddr ?_); (refine Exec.stab rfl (Stab.fieldD rfl (tysOk.get rfl) rfl rfl (tysOk.get rfl) rfl) rfl ?_)) | (refine xnQ ?_) | (refine xiQ ?_) | (refine xxQ ?_) | ((with_reducible refine Knd.buildSlice ?_); (refine Exec.buildSlice (tysOk.get rfl) rfl (tysOk.get rfl) rfl rfl rfl rfl rfl (by repeat (first | exact BuildP.nil | ((apply BuildP.one); (rfl); (rfl); (first | rfl | assumption); (repeat (first | exact SetL.z | apply SetL.s))))) rfl (fun b => ?_))))) | (with_reducible first | apply Tr.next | apply Tr.seq | apply Tr.region | apply Tr.nil | apply Tr.skip | apply Tr.block) | (refine Tr.cond_t rfl (by first | (with_reducible assumption) | omega) ?_)))
  ((refine Tr.step rfl ?_))
  refine Exec.append (news := [.int .i64 y.amount]) rfl rfl (tysOk.get rfl) rfl (tysOk.get rfl) rfl rfl rfl rfl (by repeat (first | exact Del.here | apply Del.there)) (Src.box (by repeat (first | exact Has.here | apply Has.there))) rfl (by intro u hu; simp at hu; subst hu; rfl) (by omega) (by omega) rfl (fun A3 c3 hc3 => ?_)
  refine gvQ (r := box _ 3 _) ?_
  rw [show intV ((l.take i).map (·.amount)) ++ [Value.int .i64 y.amount] = intV ((l.take (i + 1)).map (·.amount)) by rw [e1, intV_append]; rfl]
  (refine rQ ?_)
  exact Tr.again (i + 1, A3, c3) ⟨by simp only; omega, hc3⟩ (by simp only; omega) hsQ
 have ei : i = l.length := by omega
 subst ei
 rw [List.take_length]
 refine pbQ (r := ownS 3 1 A1 _ _ _) (fun M2 hm2 hok => ?_)
 have hI : Ints M2 (.slice A1 (amR l).length c1) (amR l) := Ints.ofOwn hok (by simp [amR]) hc1
 (refine rQ ?_)
 (refine dnQ (hL := by exact ⟨[], rfl⟩) ⟨rfl, ?_⟩)
 exact ⟨A1, c1, by simp [amR]; rfl, hI⟩
theorem nodup_take {l : List Int} {i : Nat} {x : Int} (h : (l.take i).Nodup) (hx : l[i]? = some x) (hn : x ∉ l.take i) : (l.take (i + 1)).Nodup := by
 rw [List.take_add_one, hx, Option.toList_some, List.nodup_append]
 exact ⟨h, by simp, fun a ha b hb => by simp at hb; subst hb; exact fun e => hn (e ▸ ha)⟩
theorem nodup_no {l : List Int} {i k : Nat} {x : Int} (hki : k < i) (hx : l[i]? = some x) (hk : l[k]? = some x) : ¬ l.Nodup := fun h => by
 obtain ⟨h1, e1⟩ := List.getElem?_eq_some_iff.1 hx
 obtain ⟨h2, e2⟩ := List.getElem?_eq_some_iff.1 hk
 have := (List.getElem_inj (h₀ := h1) (h₁ := h2) h).1 (e1.trans e2.symm)
 omega
set_option maxHeartbeats 8000000 in
set_option maxRecDepth 20000 in
theorem rnumbers_fn (M : Mem) (A1 A2 : Option Addr) (c1 c2 : Nat) (s : List Sp) (r : List Rq) (hs : SlOf 6 RSpC M (.slice A1 s.length c1) s) (hr : SlOf 6 RRqC M (.slice A2 r.length c2) r) :
  Fn0 Tryz.prog 91 [.slice A1 s.length c1, .slice A2 r.length c2] M (fun v M' => (∃ q : Bool, v = .bool q ∧ (q = true ↔ (s.map (·.no)).Nodup ∧ (r.map (·.no)).Nodup)) ∧ M = M') := by
 have hl1 := hs.len_le
 have hl2 := hr.len_le
 refine Fn.intro Tryz.func91 rfl rfl Tryz.ntmps91 rfl fun E F => ?_
 (refine rQ ?_)
 refine Tr.loop (α := Nat) (fun i => ⟨53, [(5, .int .i64 (i : Int)), (0, .slice A1 s.length c1), (1, .slice A2 r.length c2)], [], M, [] ++ F⟩) (fun i => i ≤ s.length ∧ ((s.map (·.no)).take i).Nodup) (fun i => s.length - i) 0 ⟨by simp, by simp⟩ hsQ (fun i hi => ?_)
 obtain ⟨hi, hnd⟩ := hi
 by_cases hlt : i < s.length
 ·obtain ⟨x, hx⟩ := get_of_lt hlt
  obtain ⟨hA, ch, hat, rfl⟩ := hs.elem hx
  have hat2 : At M (((A1.getD default).add (i * 6)).add 0) _ := hat.drop 0
  have hxn : (s.map (·.no))[i]? = some x.no := by rw [List.getElem?_map, hx]; rfl
  (refine rQ ?_)
  refine Tr.loop (α := Nat) (fun k => ⟨53, [(6, .int .i64 (k : Int)), (5, .int .i64 (i : Int)), (0, .slice A1 s.length c1), (1, .slice A2 r.length c2)], [], M, [] ++ F⟩) (fun k => k ≤ i ∧ x.no ∉ (s.map (·.no)).take k) (fun k => i - k) 0 ⟨by simp, by simp⟩ hsQ (fun k hk => ?_)
  obtain ⟨hk, hno⟩ := hk
  by_cases hklt : k < i
  ·obtain ⟨z, hz⟩ := get_of_lt (xs := s) (i := k) (by omega)
   obtain ⟨hA3, ch3, hat3, rfl⟩ := hs.elem hz
   have hat4 : At M (((A1.getD default).add (k * 6)).add 0) _ := hat3.drop 0
   have hzn : (s.map (·.no))[k]? = some z.no := by rw [List.getElem?_map, hz]; rfl
   by_cases he : x.no = z.no
   ·rw [← he] at hzn
    (refine rQ ?_)
    (((apply Tr.draw); (kernel_rfl)); (refine tkQ 0 (hB := by exact fun _ h => h) (s := by exact Stab.move rfl) ?_); (refine tkQ 1 (s := by exact Stab.move rfl) ?_); (refine tkQ 5 (s := by exact Stab.move rfl) ?_); (refine tkQ 6 (s := by exact Stab.move rfl) ?_); (refine tkQ 2 (s := by exact sxQ) ?_); (refine tkQ 7 (s := by exact sxQ) ?_); (refine tkQ 3 (s := by exact Stab.fieldD rfl (tysOk.get rfl) rfl rfl (tysOk.get rfl) rfl) ?_); (refine tkQ 8 (s := by exact Stab.fieldD rfl (tysOk.get rfl) rfl rfl (tysOk.get rfl) rfl) ?_); (refine tkQ 4 (s := by exact sMQ) ?_); (refine tkQ 9 (s := by exact sMQ) ?_); (refine tkQ 10 (s := by exact siQ) ?_); (refine TrA.done (by kernel_rfl) ?_))
    (refine rQ ?_)
    (refine dnQ (hL := by exact ⟨[], rfl⟩) ⟨rfl, ?_⟩)
    exact ⟨⟨false, rfl, fun h => (by cases h), fun h => absurd h.1 (nodup_no hklt hxn hzn)⟩, rfl⟩
   ·(refine rQ ?_)
    (((apply Tr.draw); (kernel_rfl)); (refine tkQ 0 (hB := by exact fun _ h => h) (s := by exact Stab.move rfl) ?_); (refine tkQ 1 (s := by exact Stab.move rfl) ?_); (refine tkQ 5 (s := by exact Stab.move rfl) ?_); (refine tkQ 6 (s := by exact Stab.move rfl) ?_); (refine tkQ 2 (s := by exact sxQ) ?_); (refine tkQ 7 (s := by exact sxQ) ?_); (refine tkQ 3 (s := by exact Stab.fieldD rfl (tysOk.get rfl) rfl rfl (tysOk.get rfl) rfl) ?_); (refine tkQ 8 (s := by exact Stab.fieldD rfl (tysOk.get rfl) rfl rfl (tysOk.get rfl) rfl) ?_); (refine tkQ 4 (s := by exact sMQ) ?_); (refine tkQ 9 (s := by exact sMQ) ?_); (refine tkQ 10 (s := by exact siQ) ?_); (refine TrA.done (by kernel_rfl) ?_))
    (refine rQ ?_)
    refine Tr.again (k + 1) ⟨by omega, ?_⟩ (by omega) hsQ
    rw [List.take_add_one, hzn, Option.toList_some, List.mem_append, List.mem_singleton, not_or]
    exact ⟨hno, he⟩
  ·have ek : k = i := by omega
   subst ek
   (refine rQ ?_)
   exact Tr.again (k + 1) ⟨by omega, nodup_take hnd hxn hno⟩ (by omega) hsQ
 have ei : i = s.length := by omega
 subst ei
 rw [List.take_of_length_le (by simp)] at hnd
 have hnd1 := hnd
 clear hnd hi hlt
 (refine rQ ?_)
 refine Tr.loop (α := Nat) (fun i => ⟨53, [(7, .int .i64 (i : Int)), (0, .slice A1 s.length c1), (1, .slice A2 r.length c2)], [], M, [] ++ F⟩) (fun i => i ≤ r.length ∧ ((r.map (·.no)).take i).Nodup) (fun i => r.length - i) 0 ⟨by simp, by simp⟩ hsQ (fun i hi => ?_)
 obtain ⟨hi, hnd⟩ := hi
 by_cases hlt : i < r.length
 ·obtain ⟨x, hx⟩ := get_of_lt hlt
  obtain ⟨hA, ch, hat, rfl⟩ := hr.elem hx
  have hat2 : At M (((A2.getD default).add (i * 6)).add 0) _ := hat.drop 0
  have hxn : (r.map (·.no))[i]? = some x.no := by rw [List.getElem?_map, hx]; rfl
  (refine rQ ?_)
  refine Tr.loop (α := Nat) (fun k => ⟨53, [(8, .int .i64 (k : Int)), (7, .int .i64 (i : Int)), (0, .slice A1 s.length c1), (1, .slice A2 r.length c2)], [], M, [] ++ F⟩) (fun k => k ≤ i ∧ x.no ∉ (r.map (·.no)).take k) (fun k => i - k) 0 ⟨by simp, by simp⟩ hsQ (fun k hk => ?_)
  obtain ⟨hk, hno⟩ := hk
  by_cases hklt : k < i
  ·obtain ⟨z, hz⟩ := get_of_lt (xs := r) (i := k) (by omega)
   obtain ⟨hA3, ch3, hat3, rfl⟩ := hr.elem hz
   have hat4 : At M (((A2.getD default).add (k * 6)).add 0) _ := hat3.drop 0
   have hzn : (r.map (·.no))[k]? = some z.no := by rw [List.getElem?_map, hz]; rfl
   by_cases he : x.no = z.no
   ·rw [← he] at hzn
    (refine rQ ?_)
    (((apply Tr.draw); (kernel_rfl)); (refine tkQ 0 (hB := by exact fun _ h => h) (s := by exact Stab.move rfl) ?_); (refine tkQ 1 (s := by exact Stab.move rfl) ?_); (refine tkQ 5 (s := by exact Stab.move rfl) ?_); (refine tkQ 6 (s := by exact Stab.move rfl) ?_); (refine tkQ 2 (s := by exact sxQ) ?_); (refine tkQ 7 (s := by exact sxQ) ?_); (refine tkQ 3 (s := by exact Stab.fieldD rfl (tysOk.get rfl) rfl rfl (tysOk.get rfl) rfl) ?_); (refine tkQ 8 (s := by exact Stab.fieldD rfl (tysOk.get rfl) rfl rfl (tysOk.get rfl) rfl) ?_); (refine tkQ 4 (s := by exact sMQ) ?_); (refine tkQ 9 (s := by exact sMQ) ?_); (refine tkQ 10 (s := by exact siQ) ?_); (refine TrA.done (by kernel_rfl) ?_))
    (refine rQ ?_)
    (refine dnQ (hL := by exact ⟨[], rfl⟩) ⟨rfl, ?_⟩)
    exact ⟨⟨false, rfl, fun h => (by cases h), fun h => absurd h.2 (nodup_no hklt hxn hzn)⟩, rfl⟩
   ·(refine rQ ?_)
    (((apply Tr.draw); (kernel_rfl)); (refine tkQ 0 (hB := by exact fun _ h => h) (s := by exact Stab.move rfl) ?_); (refine tkQ 1 (s := by exact Stab.move rfl) ?_); (refine tkQ 5 (s := by exact Stab.move rfl) ?_); (refine tkQ 6 (s := by exact Stab.move rfl) ?_); (refine tkQ 2 (s := by exact sxQ) ?_); (refine tkQ 7 (s := by exact sxQ) ?_); (refine tkQ 3 (s := by exact Stab.fieldD rfl (tysOk.get rfl) rfl rfl (tysOk.get rfl) rfl) ?_); (refine tkQ 8 (s := by exact Stab.fieldD rfl (tysOk.get rfl) rfl rfl (tysOk.get rfl) rfl) ?_); (refine tkQ 4 (s := by exact sMQ) ?_); (refine tkQ 9 (s := by exact sMQ) ?_); (refine tkQ 10 (s := by exact siQ) ?_); (refine TrA.done (by kernel_rfl) ?_))
    (refine rQ ?_)
    refine Tr.again (k + 1) ⟨by omega, ?_⟩ (by omega) hsQ
    rw [List.take_add_one, hzn, Option.toList_some, List.mem_append, List.mem_singleton, not_or]
    exact ⟨hno, he⟩
  ·have ek : k = i := by omega
   subst ek
   (refine rQ ?_)
   exact Tr.again (k + 1) ⟨by omega, nodup_take hnd hxn hno⟩ (by omega) hsQ
 have ei : i = r.length := by omega
 subst ei
 rw [List.take_of_length_le (by simp)] at hnd
 (refine rQ ?_)
 (refine dnQ (hL := by exact ⟨[], rfl⟩) ⟨rfl, ?_⟩)
 exact ⟨⟨true, rfl, fun _ => ⟨hnd1, hnd⟩, fun _ => rfl⟩, rfl⟩
end Go.Proofs.YtlifjajcmnkhfaaGreat

/-
 The reference's promises: with, New.
 Conditions: none.
-/
namespace Go.Proofs.YtlifjajcmnkhfaaGreat
open Go Bf
attribute [local irreducible] Tr Exec Stab HasTy Go.Addr.add IntKind.wrap
def WithV (w : Wd) (k : Bp) (r : List Rq) (v : Value) (M : Mem) : Prop :=
 (¬ okT k.sups r ∧ v = .tuple #[.agg #[.int .i64 0, .slice none 0 0, .slice none 0 0, .slice none 0 0, .slice none 0 0], .int .i64 290]) ∨ (okT k.sups r ∧ ∃ x, v = .tuple #[x, .int .i64 0] ∧ RBp M x (mkF w k r))
set_option maxHeartbeats 8000000 in
set_option maxRecDepth 20000 in
theorem rwith_fn (M : Mem) (ws : List Value) (w : Wd) (hw : RWd M ws w) (k : Bp) (As : Option Addr) (cs : Nat) (h1 : SlOf 6 RSpC M (.slice As k.sups.length cs) k.sups) (x3 x4 x5 : Value) (_ : x3.oneCell' = true) (_ : x4.oneCell' = true) (_ : x5.oneCell' = true) (Ar : Option Addr) (cr : Nat) (r : List Rq) (h2 : SlOf 6 RRqC M (.slice Ar r.length cr) r) :
  Fn0 Tryz.prog 90 [.agg ws.toArray, .agg #[.int .i64 k.known, .slice As k.sups.length cs, x3, x4, x5], .slice Ar r.length cr] M (fun v M' => WithV w k r v M') := by
 have h11 := hw.len
 refine Fn.intro Tryz.func90 rfl rfl Tryz.ntmps90 rfl fun E F => ?_
 (repeat (first | ((with_reducible refine Tr.step rfl ?_); (first | (refine xmQ ?_) | (refine xaQ ?_) | ((with_reducible refine Knd.load ?_); (first | (refine xlQ ?_) | (refine Exec.stab rfl (Stab.loadW rfl (tysOk.get rfl) rfl (by repeat (first | exact Has.here | apply Has.there)) (by assumption)) rfl ?_))) | (refine xfQ ?_) | ((with_reducible refine Knd.box ?_); (refine Exec.box rfl rfl (fun b => ?_))) | ((with_reducible refine Knd.alloc ?_); (refine Exec.alloc (tysOk.get rfl) rfl rfl (fun b => ?_))))) | (with_reducible first | apply Tr.next | apply Tr.seq | apply Tr.region | apply Tr.nil)))
 ((refine Tr.step rfl ?_)); refine Exec.call0 rfl (rtable_fn M ws w hw As Ar cs cr k.sups r k.known h1 h2) rfl ?_
 rintro _ M1 hm1 (⟨hnk, rfl⟩ | ⟨hok, A, c, B, kk, rfl, hF, hR⟩)
 ·(repeat (first | ((with_reducible refine Tr.step rfl ?_); (first | (refine xmQ ?_) | (refine xaQ ?_) | (refine xiQ ?_) | (refine xWQ ?_) | ((with_reducible refine Knd.extract ?_); (refine Exec.stab rfl (Stab.extract rfl rfl) rfl ?_)) | ((with_reducible refine Knd.build ?_); (refine Exec.stab rfl (Stab.build tysOk rfl rfl rfl rfl (by repeat (exact BuildP.nil))) rfl ?_)))) | (with_reducible first | apply Tr.next | apply Tr.seq | apply Tr.region | apply Tr.nil | apply Tr.ret | apply Tr.then_ret) | (refine Tr.cond_t rfl (by first | (with_reducible assumption) | omega) ?_)))
  (refine Tr.done (by first | exact .inl rfl | exact .inr rfl) rfl (by repeat (first | exact RVs.nil | (apply RVs.cons; (first | exact RV.tmp rfl | exact RV.cellW (by rfl) (tysOk.get (by rfl)) (by rfl) (by repeat (first | exact Has.here | apply Has.there)) (by first | rfl | assumption))))) (by first | exact Mem.le.refl _ | assumption) (by exact ⟨[_, _, _], rfl⟩) ⟨rfl, ?_⟩)
  exact .inl ⟨hnk, rfl⟩
 ·(repeat (first | ((with_reducible refine Tr.step rfl ?_); (first | (refine xmQ ?_) | (refine xaQ ?_) | (refine xlQ ?_) | (refine xfQ ?_) | (refine xiQ ?_) | (refine xWQ ?_) | ((with_reducible refine Knd.extract ?_); (refine Exec.stab rfl (Stab.extract rfl rfl) rfl ?_)) | ((with_reducible refine Knd.build ?_); (refine Exec.stab rfl (Stab.build tysOk rfl rfl rfl rfl (by repeat (first | exact BuildP.nil | ((apply BuildP.one); (rfl); (rfl); (first | rfl | assumption); (repeat (first | exact SetL.z | apply SetL.s)))))) rfl ?_)))) | (with_reducible first | apply Tr.next | apply Tr.seq | apply Tr.region | apply Tr.nil | apply Tr.skip | apply Tr.ret) | (refine Tr.cond_f rfl (by (with_reducible exact (not_not_intro rfl))) ?_)))
  (refine Tr.done (by first | exact .inl rfl | exact .inr rfl) rfl (by repeat (first | exact RVs.nil | (apply RVs.cons; (first | exact RV.tmp rfl | exact RV.cellW (by rfl) (tysOk.get (by rfl)) (by rfl) (by repeat (first | exact Has.here | apply Has.there)) (by first | rfl | assumption))))) (by first | exact Mem.le.refl _ | assumption) (by exact ⟨[_, _, _], rfl⟩) ⟨rfl, ?_⟩)
  exact .inr ⟨hok, _, rfl, As, cs, Ar, cr, A, c, B, kk, rfl, h1.mono RSpC.mono hm1, h2.mono RRqC.mono hm1, hF, hR⟩
end Go.Proofs.YtlifjajcmnkhfaaGreat

/-
 The reference: rows, tables and reads compared.
 Conditions: none.
-/
namespace Go.Proofs.YtlifjajcmnkhfaaGreat
open Go Bf
attribute [local irreducible] Tr Exec Stab HasTy Go.Addr.add IntKind.wrap
deriving instance DecidableEq for Sp
deriving instance DecidableEq for Rq
theorem sameReads_fn (M : Mem) (p q : List Rd) (A B : Option Addr) (c k : Nat) (hp : SlOf 5 RRd M (.slice A p.length c) p) (hq : SlOf 5 RRd M (.slice B q.length k) q) : Fn0 Tryz.prog 93 [.slice A p.length c, .slice B q.length k] M (fun r M' => r = .bool (decide (p = q)) ∧ M = M') := by
 have l1 := hp.len_le
 have l2 := hq.len_le
 refine Fn.intro Tryz.func93 rfl rfl Tryz.ntmps93 rfl fun E F => ?_
 by_cases hl : p.length = q.length
 rotate_left
 ·(refine rQ ?_)
  (refine dnQ (hL := by exact ⟨[], rfl⟩) ⟨rfl, ?_⟩)
  exact ⟨by rw [decide_eq_false (fun h => hl (congrArg _ h))]; rfl, rfl⟩
 (refine rQ ?_)
 refine Tr.loop (α := Nat) (fun i => ⟨26, [(5, .int .i64 (i : Int)), (0, .slice A p.length c), (1, .slice B q.length k)], [], M, [] ++ F⟩) (fun i => i ≤ p.length ∧ p.take i = q.take i) (fun i => p.length - i) 0 ⟨by simp, by simp⟩ hsQ (fun i hi => ?_)
 obtain ⟨hi, heq⟩ := hi
 by_cases hlt : i < p.length
 ·obtain ⟨x, hx⟩ := get_of_lt hlt
  obtain ⟨y, hy⟩ := get_of_lt (xs := q) (i := i) (by omega)
  obtain ⟨hA, ch1, hat, rfl⟩ := hp.elem hx
  obtain ⟨hB, ch2, hbt, rfl⟩ := hq.elem hy
  simp only [rdC] at hat hbt
  have hxy : [x.1.1, x.1.2.1, x.1.2.2, x.2.1, x.2.2] = [y.1.1, y.1.2.1, y.1.2.2, y.2.1, y.2.2] → x = y := by
   intro h
   obtain ⟨⟨a1, a2, a3⟩, a4, a5⟩ := x; obtain ⟨⟨c1, c2, c3⟩, c4, c5⟩ := y
   simp_all
  by_cases hk : [x.1.1, x.1.2.1, x.1.2.2, x.2.1, x.2.2] ≠ [y.1.1, y.1.2.1, y.1.2.2, y.2.1, y.2.2]
  ·(refine rQ ?_)
   (((apply Tr.draw); (kernel_rfl)); (refine tkQ 0 (hB := by exact fun _ h => h) (s := by exact Stab.move rfl) ?_); (refine tkQ 1 (s := by exact Stab.move rfl) ?_); (refine tkQ 4 (s := by exact Stab.move rfl) ?_); (refine tkQ 5 (s := by exact Stab.move rfl) ?_); (refine tkQ 2 (s := by exact sxQ) ?_); (refine tkQ 6 (s := by exact sxQ) ?_); (refine tkQ 3 (s := by exact Stab.loadMA rfl (tysOk.get rfl) rfl (by assumption) (by first | rfl | assumption)) ?_); (refine tkQ 7 (s := by exact Stab.loadMA rfl (tysOk.get rfl) rfl (by assumption) (by first | rfl | assumption)) ?_); (refine tkQ 8 (s := by exact Stab.stneL rfl rfl (by repeat (first | exact IntsL.nil | apply IntsL.cons)) (by repeat (first | exact IntsL.nil | apply IntsL.cons)) (tysOk.get rfl) rfl (by kernel_rfl) (by kernel_rfl) rfl rfl) ?_); (refine TrA.done (by kernel_rfl) ?_))
   (refine rQ ?_)
   (refine dnQ (hL := by exact ⟨[], rfl⟩) ⟨rfl, ?_⟩)
   exact ⟨by rw [decide_eq_false (fun h => by rw [h, hy] at hx; cases hx; exact hk rfl)]; rfl, rfl⟩
  ·(refine rQ ?_)
   (((apply Tr.draw); (kernel_rfl)); (refine tkQ 0 (hB := by exact fun _ h => h) (s := by exact Stab.move rfl) ?_); (refine tkQ 1 (s := by exact Stab.move rfl) ?_); (refine tkQ 4 (s := by exact Stab.move rfl) ?_); (refine tkQ 5 (s := by exact Stab.move rfl) ?_); (refine tkQ 2 (s := by exact sxQ) ?_); (refine tkQ 6 (s := by exact sxQ) ?_); (refine tkQ 3 (s := by exact Stab.loadMA rfl (tysOk.get rfl) rfl (by assumption) (by first | rfl | assumption)) ?_); (refine tkQ 7 (s := by exact Stab.loadMA rfl (tysOk.get rfl) rfl (by assumption) (by first | rfl | assumption)) ?_); (refine tkQ 8 (s := by exact Stab.stneL rfl rfl (by repeat (first | exact IntsL.nil | apply IntsL.cons)) (by repeat (first | exact IntsL.nil | apply IntsL.cons)) (tysOk.get rfl) rfl (by kernel_rfl) (by kernel_rfl) rfl rfl) ?_); (refine TrA.done (by kernel_rfl) ?_))
   (refine rQ ?_)
   refine Tr.again (i + 1) ⟨by omega, by rw [List.take_add_one, List.take_add_one, hx, hy, heq, hxy (Classical.not_not.1 hk)]⟩ (by omega) hsQ
 ·have e : i = p.length := by omega
  subst e
  rw [List.take_length, hl, List.take_length] at heq
  (refine rQ ?_)
  (refine dnQ (hL := by exact ⟨[], rfl⟩) ⟨rfl, ?_⟩)
  exact ⟨by rw [decide_eq_true heq]; rfl, rfl⟩
theorem sameRow_fn (M : Mem) (p q : List Bool) (A B : Option Addr) (c k : Nat) (hp : SlOf 1 RBo M (.slice A p.length c) p) (hq : SlOf 1 RBo M (.slice B q.length k) q) : Fn0 Tryz.prog 116 [.slice A p.length c, .slice B q.length k] M (fun r M' => r = .bool (decide (p = q)) ∧ M = M') := by
 have l1 := hp.len_le
 have l2 := hq.len_le
 refine Fn.intro Tryz.func116 rfl rfl Tryz.ntmps116 rfl fun E F => ?_
 by_cases hl : p.length = q.length
 rotate_left
 ·(refine rQ ?_)
  (refine dnQ (hL := by exact ⟨[], rfl⟩) ⟨rfl, ?_⟩)
  exact ⟨by rw [decide_eq_false (fun h => hl (congrArg _ h))]; rfl, rfl⟩
 (refine rQ ?_)
 refine Tr.loop (α := Nat) (fun i => ⟨26, [(5, .int .i64 (i : Int)), (0, .slice A p.length c), (1, .slice B q.length k)], [], M, [] ++ F⟩) (fun i => i ≤ p.length ∧ p.take i = q.take i) (fun i => p.length - i) 0 ⟨by simp, by simp⟩ hsQ (fun i hi => ?_)
 obtain ⟨hi, heq⟩ := hi
 by_cases hlt : i < p.length
 ·obtain ⟨x, hx⟩ := get_of_lt hlt
  obtain ⟨y, hy⟩ := get_of_lt (xs := q) (i := i) (by omega)
  obtain ⟨hA, ch1, hat, rfl⟩ := hp.elem hx
  obtain ⟨hB, ch2, hbt, rfl⟩ := hq.elem hy
  by_cases hk : x = y
  ·subst hk
   (refine rQ ?_)
   (((apply Tr.draw); (kernel_rfl)); (refine tkQ 0 (hB := by exact fun _ h => h) (s := by exact Stab.move rfl) ?_); (refine tkQ 1 (s := by exact Stab.move rfl) ?_); (refine tkQ 4 (s := by exact Stab.move rfl) ?_); (refine tkQ 5 (s := by exact Stab.move rfl) ?_); (refine tkQ 2 (s := by exact sxQ) ?_); (refine tkQ 6 (s := by exact sxQ) ?_); (refine tkQ 3 (s := by exact sMQ) ?_); (refine tkQ 7 (s := by exact sMQ) ?_); (refine tkQ 8 (s := by exact Stab.boolne rfl rfl (tysOk.get rfl) rfl) ?_); (refine TrA.done (by kernel_rfl) ?_))
   (refine rQ ?_)
   refine Tr.again (i + 1) ⟨by omega, by rw [List.take_add_one, List.take_add_one, hx, hy, heq]⟩ (by omega) hsQ
  ·(refine rQ ?_)
   (((apply Tr.draw); (kernel_rfl)); (refine tkQ 0 (hB := by exact fun _ h => h) (s := by exact Stab.move rfl) ?_); (refine tkQ 1 (s := by exact Stab.move rfl) ?_); (refine tkQ 4 (s := by exact Stab.move rfl) ?_); (refine tkQ 5 (s := by exact Stab.move rfl) ?_); (refine tkQ 2 (s := by exact sxQ) ?_); (refine tkQ 6 (s := by exact sxQ) ?_); (refine tkQ 3 (s := by exact sMQ) ?_); (refine tkQ 7 (s := by exact sMQ) ?_); (refine tkQ 8 (s := by exact Stab.boolne rfl rfl (tysOk.get rfl) rfl) ?_); (refine TrA.done (by kernel_rfl) ?_))
   (refine rQ ?_)
   (refine dnQ (hL := by exact ⟨[], rfl⟩) ⟨rfl, ?_⟩)
   exact ⟨by rw [decide_eq_false (fun h => by rw [h, hy] at hx; cases hx; exact hk rfl)]; rfl, rfl⟩
 ·have e : i = p.length := by omega
  subst e
  rw [List.take_length, hl, List.take_length] at heq
  (refine rQ ?_)
  (refine dnQ (hL := by exact ⟨[], rfl⟩) ⟨rfl, ?_⟩)
  exact ⟨by rw [decide_eq_true heq]; rfl, rfl⟩
theorem sameTab_fn (M : Mem) (p q : List (List Bool)) (A B : Option Addr) (c k : Nat) (hp : SlOf 1 RRowB M (.slice A p.length c) p) (hq : SlOf 1 RRowB M (.slice B q.length k) q) : Fn0 Tryz.prog 92 [.slice A p.length c, .slice B q.length k] M (fun r M' => r = .bool (decide (p = q)) ∧ M = M') := by
 have l1 := hp.len_le
 have l2 := hq.len_le
 refine Fn.intro Tryz.func92 rfl rfl Tryz.ntmps92 rfl fun E F => ?_
 by_cases hl : p.length = q.length
 rotate_left
 ·(refine rQ ?_)
  (refine dnQ (hL := by exact ⟨[], rfl⟩) ⟨rfl, ?_⟩)
  exact ⟨by rw [decide_eq_false (fun h => hl (congrArg _ h))]; rfl, rfl⟩
 (refine rQ ?_)
 refine Tr.loop (α := Nat) (fun i => ⟨27, [(5, .int .i64 (i : Int)), (0, .slice A p.length c), (1, .slice B q.length k)], [], M, [] ++ F⟩) (fun i => i ≤ p.length ∧ p.take i = q.take i) (fun i => p.length - i) 0 ⟨by simp, by simp⟩ hsQ (fun i hi => ?_)
 obtain ⟨hi, heq⟩ := hi
 by_cases hlt : i < p.length
 ·obtain ⟨x, hx⟩ := get_of_lt hlt
  obtain ⟨y, hy⟩ := get_of_lt (xs := q) (i := i) (by omega)
  obtain ⟨hA, ch1, hat, rA, ra, rfl, hxr⟩ := hp.elem hx
  obtain ⟨hB, ch2, hbt, rB, rb, rfl, hyr⟩ := hq.elem hy
  (refine rQ ?_)
  (((apply Tr.draw); (kernel_rfl)); (refine tkQ 0 (hB := by exact fun _ h => h) (s := by exact Stab.move rfl) ?_); (refine tkQ 1 (s := by exact Stab.move rfl) ?_); (refine tkQ 4 (s := by exact Stab.move rfl) ?_); (refine tkQ 5 (s := by exact Stab.move rfl) ?_); (refine tkQ 2 (s := by exact sxQ) ?_); (refine tkQ 6 (s := by exact sxQ) ?_); (refine tkQ 3 (s := by exact sMQ) ?_); (refine tkQ 7 (s := by exact sMQ) ?_); (refine TrA.eff 8 rfl (by kernel_rfl) (by exact .inl rfl) ?_))
  refine Exec.call0 rfl (sameRow_fn M x y rA rB ra rb hxr hyr) rfl ?_
  rintro _ _ hm9 ⟨rfl, rfl⟩
  refine ⟨hm9, (by exact fun _ h => h), ?_⟩
  by_cases hk : x = y
  ·subst hk
   rw [decide_eq_true rfl]
   ((refine tkQ 9 (s := by exact Stab.not rfl) ?_); (refine TrA.done (by kernel_rfl) ?_))
   (refine rQ ?_)
   refine Tr.again (i + 1) ⟨by omega, by rw [List.take_add_one, List.take_add_one, hx, hy, heq]⟩ (by omega) hsQ
  ·rw [decide_eq_false hk]
   ((refine tkQ 9 (s := by exact Stab.not rfl) ?_); (refine TrA.done (by kernel_rfl) ?_))
   (refine rQ ?_)
   (refine dnQ (hL := by exact ⟨[], rfl⟩) ⟨rfl, ?_⟩)
   exact ⟨by rw [decide_eq_false (fun h => by rw [h, hy] at hx; cases hx; exact hk rfl)]; rfl, rfl⟩
 ·have e : i = p.length := by omega
  subst e
  rw [List.take_length, hl, List.take_length] at heq
  (refine rQ ?_)
  (refine dnQ (hL := by exact ⟨[], rfl⟩) ⟨rfl, ?_⟩)
  exact ⟨by rw [decide_eq_true heq]; rfl, rfl⟩
end Go.Proofs.YtlifjajcmnkhfaaGreat

/-
 Promises: Check and Drop.
 Conditions: none.
-/
namespace Go.Proofs.YtlifjajcmnkhfaaGreat
open Go Bf
attribute [local irreducible] Tr Exec Stab HasTy Go.Addr.add IntKind.wrap
noncomputable def chkE (w : Wd) (k : Bp) : Int := open Classical in if okB w k then 0 else 310
end Go.Proofs.YtlifjajcmnkhfaaGreat

/-
 Matching: the contract of copyRows; rows of truth values that are owned, lent.
 Conditions: none.
-/
namespace Go.Proofs.YtlifjajcmnkhfaaGreat
open Go Bf
attribute [local irreducible] Tr Exec Stab HasTy Go.Addr.add IntKind.wrap
abbrev RowC := Option Addr × Nat × List Bool
def rowC (x : RowC) : Res := ownS 4 1 x.1 x.2.2.length x.2.1 (boV x.2.2)
def ptrC (l : List RowC) : List Value := l.map fun x => .slice x.1 x.2.2.length x.2.1
theorem ptrC_append (a b : List RowC) : ptrC (a ++ b) = ptrC a ++ ptrC b := by simp [ptrC]
@[simp] theorem ptrC_length (a : List RowC) : (ptrC a).length = a.length := by simp [ptrC]
theorem ptrC_one (l : List RowC) : ∀ u ∈ ptrC l, u.oneCell' = true := by
 intro u hu
 obtain ⟨x, _, rfl⟩ := List.mem_map.1 hu
 rfl
theorem boV_one (l : List Bool) : ∀ u ∈ boV l, u.oneCell' = true := by
 intro u hu
 obtain ⟨x, _, rfl⟩ := List.mem_map.1 hu
 rfl
theorem boV_elems (M : Mem) (l : List Bool) : Elems 1 RBo M (boV l) l := by
 refine ⟨by simp, fun i x hx => ?_⟩
 show _ = _
 rw [Nat.mul_one, List.take_one, List.head?_drop, boV_get hx]
 rfl
theorem boV_cells {M : Mem} {cells : List Value} {l : List Bool} (h : Elems 1 RBo M cells l) : cells = boV l := by
 apply List.ext_getElem?
 intro i
 have hl := h.1
 rw [Nat.mul_one] at hl
 by_cases hi : i < l.length
 ·have := h.2 i l[i] (by simp [hi])
  have e : cells[i]? = some (.bool l[i]) := by
   have : (cells.drop (i * 1)).take 1 = [.bool l[i]] := this
   rw [Nat.mul_one, List.take_one, List.head?_drop] at this
   cases hc : cells[i]? with
   | none => rw [hc] at this; cases this
   | some v => rw [hc] at this; simp at this; rw [this]
  rw [e, boV_get (x := l[i]) (by simp [hi])]
 ·rw [List.getElem?_eq_none (by omega), List.getElem?_eq_none (by simp; omega)]
theorem Bools.row {M : Mem} {A : Option Addr} {n c : Nat} {l : List Bool} (h : Bools M (.slice A n c) l) : Row M A l.length 1 (boV l) ∧ l.length ≤ c ∧ c ≤ 9223372036854775807 ∧ (A = none → l.length = 0) := by
 obtain ⟨cells, h1, h2, h3, h4, hr, he⟩ := h.cells
 exact ⟨boV_cells he ▸ hr, h2, h3, h4⟩
theorem rowsC_fits {M : Mem} {B : Option Addr} {k : Nat} {cs : List RowC} (h : (ownS 120 1 B cs.length k (ptrC cs)).ok M) (hk : k ≤ 9223372036854775807) (hm : (many (cs.map rowC)).ok M) (hc : ∀ x ∈ cs, x.2.1 ≤ 9223372036854775807) : Fits2 M (.slice B (cs.map (·.2.2)).length k) (cs.map (·.2.2)) := by
 refine SlOf.ofOwn h (by simp) hk ⟨by simp, fun i x hx => ?_⟩
 rw [List.getElem?_map] at hx
 cases hi : cs[i]? with
 | none => rw [hi] at hx; cases hx
 | some y =>
  rw [hi] at hx
  simp at hx
  subst hx
  have hy := List.mem_of_getElem? hi
  have hok : (rowC y).ok M := hm _ (List.mem_map_of_mem hy)
  refine ⟨y.1, y.2.1, ?_, SlOf.ofOwn hok rfl (hc y hy) (boV_elems M _)⟩
  rw [Nat.mul_one, List.take_one, List.head?_drop]
  simp [ptrC, hi]
set_option maxHeartbeats 4000000 in
theorem copyRows_fn (M : Mem) (A : Option Addr) (c : Nat) (l : List (List Bool)) (hl : Fits2 M (.slice A l.length c) l) (hs : l.length ≤ 64) (hr : ∀ r ∈ l, r.length ≤ 64) :
  Bf.Fn Tryz.prog 119 [.slice A l.length c] M [] (fun r M' A' => ∃ B k cs, r = .slice B l.length k ∧ k ≤ 9223372036854775807 ∧ cs.map (·.2.2) = l ∧ (∀ x ∈ cs, x.2.1 ≤ 9223372036854775807) ∧ M = M' ∧ A' = [ownS 120 1 B l.length k (ptrC cs), many (cs.map rowC)]) := by
 refine Fn.intro Tryz.func119 rfl rfl Tryz.ntmps119 rfl fun E F => ?_
 repeat (first | ((with_reducible refine Tr.step rfl ?_); (first | (refine xaQ ?_) | ((with_reducible refine Knd.buildSlice ?_); ((refine Exec.buildSlice (tysOk.get rfl) rfl (tysOk.get rfl) rfl rfl rfl rfl rfl (by repeat (exact BuildP.nil)) rfl (fun b => ?_)))))) | (with_reducible first | apply Tr.next | apply Tr.seq | apply Tr.region | apply Tr.nil | apply Tr.block))
 refine Tr.box_own 1 0 (by repeat (first | exact Upd.here | apply Upd.there)) rfl (by intro u hu; cases hu) (by simp [maxLen]) ?_
 refine Tr.many_new ?_
 refine Tr.loop (α := Nat × Option Addr × Nat × List RowC) (fun y => ⟨22, [(4, .int .i64 (y.1 : Int)), (3, .slice y.2.1 y.1 y.2.2.1), (0, .slice A l.length c)], [], M, many (y.2.2.2.map rowC) :: ownS 120 1 y.2.1 y.1 y.2.2.1 (ptrC y.2.2.2) :: ([] ++ F)⟩)
  (fun y => y.1 ≤ l.length ∧ y.2.2.1 ≤ 9223372036854775807 ∧ y.2.2.2.map (·.2.2) = l.take y.1 ∧ ∀ x ∈ y.2.2.2, x.2.1 ≤ 9223372036854775807) (fun y => l.length - y.1) (0, _, 0, []) ⟨Nat.zero_le _, by simp, rfl, by simp⟩ hsQ (fun y hy => ?_)
 obtain ⟨i, B, k, cs⟩ := y
 obtain ⟨hi, hk, hcs, hcap⟩ := hy
 simp only at hi hk hcs hcap
 dsimp only
 have hcl : cs.length = i := by
  have := congrArg List.length hcs
  simpa [Nat.min_eq_left hi] using this
 by_cases hin : i < l.length
 rotate_left
 ·have ei : i = l.length := by omega
  subst ei
  rw [List.take_length] at hcs
  refine rQ ?_
  refine ftQ (r := ownS 120 1 _ _ _ _) ?_
  refine Tr.doneA (A' := [ownS 120 1 B l.length k (ptrC cs), many (cs.map rowC)]) (by first | exact .inl rfl | exact .inr rfl) rfl (by repeat (first | exact RVs.nil | (apply RVs.cons; (exact RV.tmp rfl)))) (Mem.le.refl _) ⟨fun _ h => h, fun h => h⟩ ⟨B, k, cs, rfl, hk, hcs, hcap, rfl, rfl⟩
 obtain ⟨r, hr1⟩ := get_of_lt hin
 have hrl := hr r (List.mem_of_getElem? hr1)
 obtain ⟨hA, ch, hat, rB, rk, rfl, hB⟩ := hl.elem hr1
 have hBr := Bools.row hB
 repeat (first | ((with_reducible refine Tr.step rfl ?_); (first | (refine xmQ ?_) | (refine xMQ ?_) | (refine xnQ ?_) | (refine xiQ ?_) | (refine xxQ ?_) | ((with_reducible refine Knd.buildSlice ?_); ((refine Exec.buildSlice (tysOk.get rfl) rfl (tysOk.get rfl) rfl rfl rfl rfl rfl (by repeat (exact BuildP.nil)) rfl (fun b => ?_)))))) | (with_reducible first | apply Tr.next | apply Tr.seq | apply Tr.region | apply Tr.nil | apply Tr.skip | apply Tr.block) | (refine Tr.cond_t rfl (by first | (with_reducible assumption) | omega) ?_))
 refine Tr.box_own (e := 4) 1 0 (by repeat (first | exact Upd.here | apply Upd.there)) rfl (by intro u hu; cases hu) (by simp [maxLen]) ?_
 ((refine Tr.step rfl ?_))
 refine Exec.append (news := boV r) rfl rfl (tysOk.get rfl) rfl (tysOk.get rfl) rfl rfl rfl rfl (by repeat (first | exact Del.here | apply Del.there)) (Src.row hBr.1) (by simp) (boV_one _) (by omega) (by omega) rfl (fun A6 c6 hc6 => ?_)
 rw [zeros0_app, Nat.zero_add]
 refine Tr.many_add ?_
 rw [show cs.map rowC ++ [ownS 4 1 A6 r.length c6 (boV r)] = (cs ++ [(A6, c6, r)]).map rowC by simp [rowC]]
 repeat (((with_reducible refine Tr.step rfl ?_); (((with_reducible refine Knd.buildSlice ?_); ((refine Exec.buildSlice (tysOk.get rfl) rfl (tysOk.get rfl) rfl rfl rfl rfl rfl (by repeat (first | exact BuildP.nil | ((apply BuildP.one); (rfl); (rfl); (first | rfl | assumption); (repeat (first | exact SetL.z | apply SetL.s))))) rfl (fun b => ?_)))))))
 refine Tr.cells (cs' := ptrC [(A6, c6, r)]) (by repeat (first | exact Upd.here | apply Upd.there)) rfl ?_
 ((refine Tr.step rfl ?_))
 refine Exec.append (news := ptrC [(A6, c6, r)]) rfl rfl (tysOk.get rfl) rfl (tysOk.get rfl) rfl rfl rfl rfl (by repeat (first | exact Del.here | apply Del.there)) (Src.box (by repeat (first | exact Has.here | apply Has.there))) rfl (ptrC_one _) (by omega) (by omega) rfl (fun A7 c7 hc7 => ?_)
 rw [← ptrC_append]
 refine rQ ?_
 refine gvQ (r := box _ 120 _) ?_
 refine ftQ (r := many _) ?_
 refine Tr.again (i + 1, A7, c7, cs ++ [(A6, c6, r)]) ⟨by simp only; omega, hc7, by simp [hcs, List.take_add_one, hr1], fun x hx => ?_⟩ (by simp only; omega) hsQ
 rcases List.mem_append.1 hx with hx | hx
 ·exact hcap x hx
 ·simp at hx; subst hx; exact hc6
end Go.Proofs.YtlifjajcmnkhfaaGreat

/-
 Matching: the contract of the reference's Flow.
 Conditions: none.
-/
namespace Go.Proofs.YtlifjajcmnkhfaaGreat
open Go Bf
attribute [local irreducible] Tr Exec Stab HasTy Go.Addr.add IntKind.wrap
theorem RoomV.amount {can : List (List Bool)} {left op : List Int} (hv : Vld can left op) {p : Pb} {a : Nat → Nat → Int} (hmax : LexMax p a) {s r : Nat} (hR : Resid p a (pbOf can left op) s r) (hs : s < left.length) (hr : r < op.length) (hf : (can.getD s []).getD r false = true) {v : Int} (h : RoomV can left op s r (2 ^ op.length) v) : v = a s r ∧ 0 ≤ v := by
 have hn := hR.n
 have hm := hR.m
 have e : v = a s r := by
  refine hR.room hmax (by rw [← hn]; exact hs) (by rw [← hm]; exact hr) hf hv.sup0 hv.need0 h.l1 h.l2 (fun D hD ht => ?_) ?_
  ·rw [lackOf_bits hv]
   obtain ⟨b, b1, b2, b3⟩ := touches_iff.1 ht
   have b1' : b < op.length := b1
   have htb : (bitsOf D op.length).testBit b = true := by rw [bitsOf_bit]; simp [b1', b2]
   have h0 : bitsOf D op.length ≠ 0 := fun e => by rw [e] at htb; simp at htb
   refine h.le _ (by omega) (bitsOf_lt _ _) (by rw [bitsOf_bit, hD, Bool.and_false]) ?_
   rw [touch_bits hv hs]
   exact touches_iff.2 ⟨b, b1, htb, b3⟩
  ·rcases h.is with h | h | ⟨set, -, -, h1, h2, h3⟩
   ·exact .inl h
   ·exact .inr (.inl h)
   ·refine .inr (.inr ⟨fun b => set.testBit b, h1, ?_, by rw [h3, lackB_eq hv]⟩)
    rw [touch_bits hv hs] at h2
    exact h2
 refine ⟨e, ?_⟩
 rw [e]
 exact hmax.1.nn s (by rw [← hn]; exact hs) r (by rw [← hm]; exact Nat.le_of_lt hr)
theorem getD_setL {α : Type} {l : List α} {i : Nat} {v d : α} (h : i < l.length) (k : Nat) : (l.set i v).getD k d = if k = i then v else l.getD k d := by
 by_cases e : k = i
 ·subst e
  rw [if_pos rfl, List.getD_eq_getElem?_getD, List.getElem?_set_self h]; rfl
 ·rw [if_neg e, List.getD_eq_getElem?_getD, List.getElem?_set_ne (Ne.symm e), ← List.getD_eq_getElem?_getD]
theorem pbOf_after {can : List (List Bool)} {left op : List Int} (hv : Vld can left op) {s r : Nat} (hs : s < left.length) (hr : r < op.length) {row : List Bool} (hrow : can[s]? = some row) (v x y : Int) (hx : left[s]? = some x) (hy : op[r]? = some y) :
  pbOf (can.set s (row.set r false)) (left.set s (x - v)) (op.set r (y - v)) = afterP (pbOf can left op) s r v := by
 have hl := hv.lf
 have hrl := hv.rows row (List.mem_of_getElem? hrow)
 unfold pbOf afterP
 simp only [List.length_set]
 congr
 ·funext k b
  rw [getD_setL (by omega)]
  by_cases e : k = s
  ·subst e
   rw [if_pos rfl, getD_setL (by omega), getD_of (d := []) hrow]
   by_cases e2 : b = r
   ·simp [e2]
   ·simp [e2]
  ·simp [e]
 ·funext k
  rw [getD_setL hs]
  by_cases e : k = s
  ·subst e; rw [if_pos rfl, if_pos rfl, getD_of hx]
  ·rw [if_neg e, if_neg e]
 ·funext b
  rw [getD_setL hr]
  by_cases e : b = r
  ·subst e; rw [if_pos rfl, if_pos rfl, getD_of hy]
  ·rw [if_neg e, if_neg e]
theorem Vld.after {can : List (List Bool)} {left op : List Int} (hv : Vld can left op) {s r : Nat} {row : List Bool} (hrow : can[s]? = some row) {v x y : Int} (h0 : 0 ≤ v) (hx : left[s]? = some x) (hy : op[r]? = some y) (hvx : v ≤ x) (hvy : v ≤ y) : Vld (can.set s (row.set r false)) (left.set s (x - v)) (op.set r (y - v)) := by
 refine ⟨by simpa using hv.ls, by simpa using hv.ln, by simpa using hv.lf, fun q hq => ?_, fun z hz => ?_, fun z hz => ?_⟩
 ·rw [List.length_set]
  rcases List.mem_or_eq_of_mem_set hq with hq | rfl
  ·exact hv.rows q hq
  ·rw [List.length_set]; exact hv.rows row (List.mem_of_getElem? hrow)
 ·rcases List.mem_or_eq_of_mem_set hz with hz | rfl
  ·exact hv.rs z hz
  ·have := hv.rs x (List.mem_of_getElem? hx); omega
 ·rcases List.mem_or_eq_of_mem_set hz with hz | rfl
  ·exact hv.rn z hz
  ·have := hv.rn y (List.mem_of_getElem? hy); omega
theorem rowC_get {cs : List RowC} {i : Nat} {x : RowC} (h : cs[i]? = some x) : (cs.map rowC)[i]? = some (ownS 4 1 x.1 x.2.2.length x.2.1 (boV x.2.2)) := by simp [h, rowC]
theorem room_lend (M : Mem) (B1 B2 B3 : Option Addr) (k1 k2 k3 : Nat) (cs : List RowC) (left op : List Int) (hk1 : k1 ≤ 9223372036854775807) (hk2 : k2 ≤ 9223372036854775807) (hk3 : k3 ≤ 9223372036854775807) (hc : ∀ x ∈ cs, x.2.1 ≤ 9223372036854775807) (hv : Vld (cs.map (·.2.2)) left op) (hn62 : op.length ≤ 61) (s r : Nat) (hsl : s < left.length) (hrl : r < op.length) (hok : CallOk Tryz.prog 120) :
  Bf.Fn Tryz.prog 120 [.slice B3 cs.length k3, .slice B1 left.length k1, .slice B2 op.length k2, .int .i64 (s : Int), .int .i64 (r : Int)] M [ownS 120 1 B3 cs.length k3 (ptrC cs), many (cs.map rowC), ownS 3 1 B1 left.length k1 (intV left), ownS 3 1 B2 op.length k2 (intV op)]
   (fun x M' A' => A' = [ownS 120 1 B3 cs.length k3 (ptrC cs), many (cs.map rowC), ownS 3 1 B1 left.length k1 (intV left), ownS 3 1 B2 op.length k2 (intV op)] ∧ M = M' ∧ ∃ v, x = .int .i64 v ∧ RoomV (cs.map (·.2.2)) left op s r (2 ^ op.length) v) := by
 refine Fn.lend (R := fun x => ∃ v, x = .int .i64 v ∧ RoomV (cs.map (·.2.2)) left op s r (2 ^ op.length) v) hok (fun M' hm hk => ?_)
 have h1 := hk (ownS 120 1 B3 cs.length k3 (ptrC cs)) (by simp)
 have h2 := hk (many (cs.map rowC)) (by simp)
 have h3 := hk (ownS 3 1 B1 left.length k1 (intV left)) (by simp)
 have h4 := hk (ownS 3 1 B2 op.length k2 (intV op)) (by simp)
 have hf := rowsC_fits h1 hk3 h2 hc
 have := room_fn M' B3 B1 B2 k3 k1 k2 (cs.map (·.2.2)) left op hf (Ints.ofOwn h3 rfl hk1) (Ints.ofOwn h4 rfl hk2) hv hn62 s r hsl hrl
 rw [List.length_map] at this
 exact this
def FlowRa (fits : List (List Bool)) (sup need : List Int) (a : Nat → Nat → Int) (r : Value) (M' : Mem) : Prop :=
 (validF fits sup need = false ∧ r = .tuple #[.slice none 0 0, .bool false, .slice none 0 0, .int .i64 300]) ∨
 (Vld fits sup need ∧ ¬ Feas (pbOf fits sup need) ∧ ∃ B k, r = .tuple #[.slice none 0 0, .bool false, .slice B (memF (cutFin fits sup need) need.length).length k, .int .i64 0] ∧ Ints M' (.slice B (memF (cutFin fits sup need) need.length).length k) (memF (cutFin fits sup need) need.length)) ∨
 (Vld fits sup need ∧ Feas (pbOf fits sup need) ∧ ∃ A c, r = .tuple #[.slice A sup.length c, .bool true, .slice none 0 0, .int .i64 0] ∧ Ints2 M' (.slice A sup.length c) (allocOf a need.length sup.length))
end Go.Proofs.YtlifjajcmnkhfaaGreat

/-
 Matching: the reference's Flow walked.
 Conditions: none.
-/
namespace Go.Proofs.YtlifjajcmnkhfaaGreat
open Go Bf
attribute [local irreducible] Tr Exec Stab HasTy Go.Addr.add IntKind.wrap
theorem ptrC_set {cs : List RowC} {i : Nat} {x : RowC} (h : cs[i]? = some x) (row : List Bool) (hl : row.length = x.2.2.length) : ptrC (cs.set i (x.1, x.2.1, row)) = ptrC cs := by
 unfold ptrC
 rw [List.map_set]
 exact set_same (by simp [h, hl])
theorem rowOf_succ (a : Nat → Nat → Int) (m s : Nat) : (List.range (m + 1)).map (a s) = (List.range m).map (a s) ++ [a s m] := by simp [List.range_succ]
set_option maxHeartbeats 16000000 in
set_option maxRecDepth 20000 in
theorem rflow_fn (M : Mem) (A0 A1 A2 : Option Addr) (c0 c1 c2 : Nat) (fits : List (List Bool)) (sup need : List Int) (hf : Fits2 M (.slice A0 fits.length c0) fits) (hs : Ints M (.slice A1 sup.length c1) sup) (hn : Ints M (.slice A2 need.length c2) need) (hn61 : need.length ≤ 6 ∨ 64 < need.length) (a : Nat → Nat → Int) (hmax : Vld fits sup need → Feas (pbOf fits sup need) → LexMax (pbOf fits sup need) a) :
  Fn0 Tryz.prog 94 [.slice A0 fits.length c0, .slice A1 sup.length c1, .slice A2 need.length c2] M (fun r M' => FlowRa fits sup need a r M') := by
 refine Fn.intro Tryz.func94 rfl rfl Tryz.ntmps94 rfl fun E F => ?_
 refine rQ ?_
 ((refine Tr.step rfl ?_)); refine Exec.call0 rfl (rValid_fn M A0 A1 A2 c0 c1 c2 fits sup need hf hs hn) rfl ?_
 rintro _ _ _ ⟨rfl, rfl⟩
 cases hvv : validF fits sup need
 ·refine rQ ?_
  (refine dnQ (hL := by exact ⟨[], rfl⟩) ⟨rfl, ?_⟩)
  exact .inl ⟨hvv, rfl⟩
 have hv := vld_iff.1 hvv
 have l1 := hv.ls
 have l2 := hv.ln
 have l3 := hv.lf
 have hn62 : need.length ≤ 61 := by omega
 refine rQ ?_
 ((refine Tr.step rfl ?_)); refine Exec.call0 rfl (rcut_fn M A0 A1 A2 c0 c1 c2 fits sup need hf hs hn hv hn62) rfl ?_
 rintro _ M1 hm1 (⟨hposs, rfl⟩ | ⟨hposs, B, k, rfl, hI⟩)
 rotate_left
 ·refine rQ ?_
  (refine dnQ (hL := by exact ⟨[], rfl⟩) ⟨rfl, ?_⟩)
  rw [← memF_bits hv] at hI ⊢
  exact .inr (.inl ⟨hv, fun h => hposs ((feas_poss hv).1 h), B, k, rfl, hI⟩)
 have hfe := (feas_poss hv).2 hposs
 have hmx := hmax hv hfe
 refine rQ ?_
 ((refine Tr.step rfl ?_))
 refine Exec.call (A := []) rfl (copyInts_fn M1 A1 c1 sup (hs.mono RI.mono hm1) (by omega)) (List.Perm.refl _) rfl ?_
 rintro _ _ _ _ ⟨B1, k1, rfl, hk1, rfl, rfl⟩
 refine rQ ?_
 ((refine Tr.step rfl ?_))
 refine Exec.call (A := []) rfl (copyInts_fn M1 A2 c2 need (hn.mono RI.mono hm1) (by omega)) (List.Perm.refl _) rfl ?_
 rintro _ _ _ _ ⟨B2, k2, rfl, hk2, rfl, rfl⟩
 refine rQ ?_
 ((refine Tr.step rfl ?_))
 refine Exec.call (A := []) rfl (copyRows_fn M1 A0 c0 fits (hf.mono RRowB.mono hm1) (by omega) (fun r hr => by rw [hv.rows r hr]; exact l2)) (List.Perm.refl _) rfl ?_
 rintro _ _ _ _ ⟨B3, k3, cs, rfl, hk3, hcs, hcap, rfl, rfl⟩
 repeat (first | ((with_reducible refine Tr.step rfl ?_); (first | (refine xaQ ?_) | ((with_reducible refine Knd.buildSlice ?_); ((refine Exec.buildSlice (tysOk.get rfl) rfl (tysOk.get rfl) rfl rfl rfl rfl rfl (by repeat (exact BuildP.nil)) rfl (fun b => ?_)))))) | (with_reducible first | apply Tr.next | apply Tr.seq | apply Tr.region | apply Tr.nil | apply Tr.block))
 refine Tr.box_own (e := 32) 1 0 (by repeat (first | exact Upd.here | apply Upd.there)) rfl (by intro u hu; cases hu) (by simp [maxLen]) ?_
 have hrok : 0 < sup.length → 0 < need.length → CallOk Tryz.prog 120 := fun h1 h2 => clone_ok _ _ _ _ _ _ (room_fn M A0 A1 A2 c0 c1 c2 fits sup need hf hs hn hv hn62 0 0 h1 h2)
 have hcl : cs.length = fits.length := by rw [← hcs]; simp
 simp only [List.cons_append, List.nil_append, List.append_eq]
 refine Tr.loop (α := Nat × List RowC × List Int × List Int × Mem × Option Addr × Nat × List Value) (fun y => ⟨100, [(16, .int .i64 (y.1 : Int)), (15, .slice y.2.2.2.2.2.1 y.1 y.2.2.2.2.2.2.1), (14, .slice B3 fits.length k3), (13, .slice B2 need.length k2), (12, .slice B1 sup.length k1), (1, .slice A1 sup.length c1), (2, .slice A2 need.length c2)], [], y.2.2.2.2.1, ownS 32 1 y.2.2.2.2.2.1 y.1 y.2.2.2.2.2.2.1 y.2.2.2.2.2.2.2 :: ownS 120 1 B3 fits.length k3 (ptrC y.2.1) :: many (y.2.1.map rowC) :: ownS 3 1 B2 need.length k2 (intV y.2.2.2.1) :: ownS 3 1 B1 sup.length k1 (intV y.2.2.1) :: F⟩)
  (fun y => y.1 ≤ sup.length ∧ y.2.1.length = fits.length ∧ (∀ x ∈ y.2.1, x.2.1 ≤ 9223372036854775807) ∧ y.2.2.1.length = sup.length ∧ y.2.2.2.1.length = need.length ∧ Vld (y.2.1.map (·.2.2)) y.2.2.1 y.2.2.2.1 ∧ Resid (pbOf fits sup need) a (pbOf (y.2.1.map (·.2.2)) y.2.2.1 y.2.2.2.1) y.1 0 ∧ Mem.le M1 y.2.2.2.2.1 ∧ y.2.2.2.2.2.2.1 ≤ 9223372036854775807 ∧ Elems 1 RRowI y.2.2.2.2.1 y.2.2.2.2.2.2.2 (allocOf a need.length y.1)) (fun y => sup.length - y.1) (0, cs, sup, need, M1, _, 0, _) ⟨Nat.zero_le _, hcl, hcap, rfl, rfl, by simp only [hcs]; exact hv, by simp only [hcs]; exact Resid.start hmx.1, Mem.le.refl _, by simp, Elems.nil⟩ hsQ (fun y hy => ?_)
 clear hcs hcap hcl
 obtain ⟨s, cs, left, op, M2, A6, c6, cells⟩ := y
 obtain ⟨hi, hcl, hcap, hll, hol, hvl, hres, hM, hc6, hel⟩ := hy
 simp only at hi hcl hcap hll hol hvl hres hM hc6 hel
 dsimp only
 have hcel : cells.length = s := by have := hel.1; simpa using this
 by_cases hin : s < sup.length
 rotate_left
 ·have ei : s = sup.length := by omega
  subst ei
  refine rQ ?_
  refine pbQ (r := ownS 32 1 A6 _ _ _) (fun M3 hm3 hok => ?_)
  have hfin := (hm1.trans hM).trans hm3
  have hI : Ints2 M3 (.slice A6 (allocOf a need.length sup.length).length c6) (allocOf a need.length sup.length) := SlOf.ofOwn hok (by simp) hc6 (hel.mono RRowI.mono hm3)
  rw [allocOf_length] at hI
  (refine dnQ (hL := by exact ⟨[_, _, _, _], rfl⟩) ⟨rfl, ?_⟩)
  exact .inr (.inr ⟨hv, hfe, A6, c6, rfl, hI⟩)
 repeat (first | ((with_reducible refine Tr.step rfl ?_); (first | (refine xmQ ?_) | (refine xaQ ?_) | (refine xnQ ?_) | (refine xiQ ?_) | ((with_reducible refine Knd.buildSlice ?_); ((refine Exec.buildSlice (tysOk.get rfl) rfl (tysOk.get rfl) rfl rfl rfl rfl rfl (by repeat (exact BuildP.nil)) rfl (fun b => ?_)))))) | (with_reducible first | apply Tr.next | apply Tr.seq | apply Tr.region | apply Tr.nil | apply Tr.skip | apply Tr.block) | (refine Tr.cond_t rfl (by first | (with_reducible assumption) | omega) ?_))
 refine Tr.box_own (e := 3) 1 0 (by repeat (first | exact Upd.here | apply Upd.there)) rfl (by intro u hu; cases hu) (by simp [maxLen]) ?_
 refine Tr.loop (α := Nat × List RowC × List Int × List Int × Option Addr × Nat) (fun y => ⟨100, [(18, .int .i64 (y.1 : Int)), (17, .slice y.2.2.2.2.1 y.1 y.2.2.2.2.2), (16, .int .i64 (s : Int)), (15, .slice A6 s c6), (14, .slice B3 fits.length k3), (13, .slice B2 need.length k2), (12, .slice B1 sup.length k1), (1, .slice A1 sup.length c1), (2, .slice A2 need.length c2)], [], M2, ownS 3 1 y.2.2.2.2.1 y.1 y.2.2.2.2.2 (intV ((List.range y.1).map (a s))) :: ownS 32 1 A6 s c6 cells :: ownS 120 1 B3 fits.length k3 (ptrC y.2.1) :: many (y.2.1.map rowC) :: ownS 3 1 B2 need.length k2 (intV y.2.2.2.1) :: ownS 3 1 B1 sup.length k1 (intV y.2.2.1) :: F⟩)
  (fun y => y.1 ≤ need.length ∧ y.2.1.length = fits.length ∧ (∀ x ∈ y.2.1, x.2.1 ≤ 9223372036854775807) ∧ y.2.2.1.length = sup.length ∧ y.2.2.2.1.length = need.length ∧ Vld (y.2.1.map (·.2.2)) y.2.2.1 y.2.2.2.1 ∧ Resid (pbOf fits sup need) a (pbOf (y.2.1.map (·.2.2)) y.2.2.1 y.2.2.2.1) s y.1 ∧ y.2.2.2.2.2 ≤ 9223372036854775807) (fun y => need.length - y.1) (0, cs, left, op, _, 0) ⟨Nat.zero_le _, hcl, hcap, hll, hol, hvl, hres, by simp⟩ hsQ (fun y hy => ?_)
 clear hcl hcap hll hol hvl hres
 obtain ⟨r, cs, left, op, A7, c7⟩ := y
 obtain ⟨hr, hcl, hcap, hll, hol, hvl, hres, hc7⟩ := hy
 simp only at hr hcl hcap hll hol hvl hres hc7
 dsimp only
 have hrl : ((List.range r).map (a s)).length = r := by simp
 by_cases hrn : r < need.length
 rotate_left
 ·have er : r = need.length := by omega
  subst er
  repeat (first | ((with_reducible refine Tr.step rfl ?_); (first | (refine xmQ ?_) | (refine xnQ ?_) | (refine xiQ ?_) | ((with_reducible refine Knd.buildSlice ?_); ((refine Exec.buildSlice (tysOk.get rfl) rfl (tysOk.get rfl) rfl rfl rfl rfl rfl (by repeat (first | exact BuildP.nil | ((apply BuildP.one); (rfl); (rfl); (first | rfl | assumption); (repeat (first | exact SetL.z | apply SetL.s))))) rfl (fun b => ?_)))))) | (with_reducible first | apply Tr.next | apply Tr.seq | apply Tr.region | apply Tr.nil | apply Tr.exit | apply Tr.then_exit) | ((with_reducible refine Tr.in_exit ?_ ?_); (exact rfl)) | (refine Tr.cond_f rfl (by first | (with_reducible assumption) | omega) ?_))
  refine pbQ (r := ownS 3 1 A7 _ _ _) (fun M3 hm3 hok => ?_)
  have hI : Ints M3 (.slice A7 (rowOf a need.length s).length c7) (rowOf a need.length s) := Ints.ofOwn hok (by simp) hc7
  repeat (fail)
  refine Tr.cells (cs' := [.slice A7 need.length c7]) (by repeat (first | exact Upd.here | apply Upd.there)) rfl ?_
  ((refine Tr.step rfl ?_))
  refine Exec.append (A := A6) (news := [.slice A7 need.length c7]) rfl rfl (tysOk.get rfl) rfl (tysOk.get rfl) rfl rfl rfl rfl (by repeat (first | exact Del.here | apply Del.there)) (Src.box (by repeat (first | exact Has.here | apply Has.there))) rfl (by intro u hu; simp at hu; subst hu; rfl) (by omega) (by omega) rfl (fun A8 c8 hc8 => ?_)
  have hel2 : Elems 1 RRowI M3 (cells ++ [.slice A7 need.length c7]) (allocOf a need.length (s + 1)) := by
   rw [allocOf_succ]
   exact (hel.mono RRowI.mono hm3).append (Elems.one rfl ⟨A7, c7, by rw [rowOf_length], hI⟩)
  refine rQ ?_
  refine gvQ (r := box _ 32 [_]) ?_
  refine Tr.again (s + 1, cs, left, op, M3, A8, c8, cells ++ [.slice A7 need.length c7]) ⟨by simp only; omega, hcl, hcap, hll, hol, hvl, hres.row, hM.trans hm3, hc8, hel2⟩ (by simp only; omega) hsQ
 obtain ⟨x, hx⟩ := get_of_lt (xs := cs) (i := s) (by omega)
 obtain ⟨xA, xc, row⟩ := x
 have hrow : (cs.map (·.2.2))[s]? = some row := by simp [hx]
 have hrowl := hvl.rows row (List.mem_of_getElem? hrow)
 obtain ⟨f, hfx⟩ := get_of_lt (xs := row) (i := r) (by omega)
 have hfb := boV_get hfx
 have hfd : ((cs.map (·.2.2)).getD s []).getD r false = f := by rw [getD_of (d := []) hrow, getD_of (d := false) hfx]
 have hp' : (ptrC cs)[s]? = some (.slice xA row.length xc) := by simp [ptrC, hx]
 obtain ⟨lv, hlv⟩ := get_of_lt (xs := left) (i := s) (by omega)
 obtain ⟨ov, hov⟩ := get_of_lt (xs := op) (i := r) (by omega)
 have hlvv := intV_get hlv
 have hovv := intV_get hov
 have hlr := hvl.rs lv (List.mem_of_getElem? hlv)
 have hor := hvl.rn ov (List.mem_of_getElem? hov)
 refine Tr.own_some B3 (by repeat (first | exact Has.here | apply Has.there)) (by omega) (fun hB3 => ?_)
 refine Tr.many_out (by repeat (first | exact Del.here | apply Del.there)) (rowC_get hx) ?_
 dsimp only
 refine Tr.own_some xA (by repeat (first | exact Has.here | apply Has.there)) (by omega) (fun hxA => ?_)
 cases f
 ·have h0 := hres.zero hin hrn hfd
  repeat (first | ((with_reducible refine Tr.step rfl ?_); (first | (refine xmQ ?_) | (refine xaQ ?_) | ((with_reducible refine Knd.load ?_); ((refine Exec.stab rfl (Stab.loadO rfl (tysOk.get rfl) rfl (by repeat (first | exact Has.here | apply Has.there)) (by assumption)) rfl ?_))) | (refine xnQ ?_) | (refine xiQ ?_) | (refine xxQ ?_) | ((with_reducible refine Knd.buildSlice ?_); ((refine Exec.buildSlice (tysOk.get rfl) rfl (tysOk.get rfl) rfl rfl rfl rfl rfl (by repeat (first | exact BuildP.nil | ((apply BuildP.one); (rfl); (rfl); (first | rfl | assumption); (repeat (first | exact SetL.z | apply SetL.s))))) rfl (fun b => ?_)))))) | (with_reducible first | apply Tr.next | apply Tr.seq | apply Tr.region | apply Tr.nil | apply Tr.skip | apply Tr.block) | (refine Tr.cond_bf rfl (by (with_reducible rfl)) ?_) | (refine Tr.cond_t rfl (by first | (with_reducible assumption) | omega) ?_))
  refine Tr.cells (cs' := [.int .i64 (a s r)]) (by repeat (first | exact Upd.here | apply Upd.there)) (by rw [h0]; rfl) ?_
  ((refine Tr.step rfl ?_))
  refine Exec.append (A := A7) (news := [.int .i64 (a s r)]) rfl rfl (tysOk.get rfl) rfl (tysOk.get rfl) rfl rfl rfl rfl (by repeat (first | exact Del.here | apply Del.there)) (Src.box (by repeat (first | exact Has.here | apply Has.there))) rfl (by intro u hu; simp at hu; subst hu; rfl) (by omega) (by omega) rfl (fun A8 c8 hc8 => ?_)
  rw [show intV ((List.range r).map (a s)) ++ [.int .i64 (a s r)] = intV ((List.range (r + 1)).map (a s)) by rw [rowOf_succ, intV_append]; rfl]
  refine rQ ?_
  refine gvQ (r := box _ 3 [_]) ?_
  refine ftQ (r := many _) ?_
  refine ftQ (r := ownS 4 1 _ _ _ _) ?_
  refine Tr.many_in (rowC_get hx) ?_
  rw [set_same (rowC_get hx)]
  refine ftQ (r := ownS 120 1 _ _ _ _) ?_
  refine ftQ (r := ownS 32 1 _ _ _ _) ?_
  refine ftQ (r := ownS 3 1 A8 _ _ _) ?_
  refine Tr.again (r + 1, cs, left, op, A8, c8) ⟨by simp only; omega, hcl, hcap, hll, hol, hvl, hres.skip hin hrn hfd, hc8⟩ (by simp only; omega) hsQ
 have hrm := room_lend M2 B1 B2 B3 k1 k2 k3 cs left op hk1 hk2 hk3 hcap hvl (by omega) s r (by omega) (by omega) (hrok (by omega) (by omega))
 rw [hcl, hll, hol] at hrm
 repeat (first | ((with_reducible refine Tr.step rfl ?_); (first | (refine xmQ ?_) | (refine xaQ ?_) | ((with_reducible refine Knd.load ?_); ((refine Exec.stab rfl (Stab.loadO rfl (tysOk.get rfl) rfl (by repeat (first | exact Has.here | apply Has.there)) (by assumption)) rfl ?_))) | (refine xnQ ?_) | (refine xiQ ?_) | (refine xxQ ?_))) | (with_reducible first | apply Tr.next | apply Tr.seq | apply Tr.region | apply Tr.nil | apply Tr.skip | apply Tr.block) | (refine Tr.cond_bt rfl (by (with_reducible rfl)) ?_) | (refine Tr.cond_t rfl (by first | (with_reducible assumption) | omega) ?_))
 refine Tr.many_in (rowC_get hx) ?_
 rw [set_same (rowC_get hx)]
 refine ftQ (r := ownS 3 1 B2 _ _ _) ?_
 refine ftQ (r := ownS 3 1 B1 _ _ _) ?_
 refine ftQ (r := many _) ?_
 refine ftQ (r := ownS 120 1 _ _ _ _) ?_
 ((refine Tr.step rfl ?_))
 refine Exec.call (A := [ownS 120 1 B3 fits.length k3 (ptrC cs), many (cs.map rowC), ownS 3 1 B1 sup.length k1 (intV left), ownS 3 1 B2 need.length k2 (intV op)]) rfl hrm (List.Perm.refl _) rfl ?_
 rintro _ _ _ _ ⟨rfl, rfl, v, rfl, hRV⟩
 rw [← hol] at hRV
 obtain ⟨hva, hv0⟩ := hRV.amount hvl hmx hres (by omega) (by omega) hfd
 have g1 := hRV.l1
 have g2 := hRV.l2
 rw [getD_of hlv] at g1
 rw [getD_of hov] at g2
 have hnew : (cs.set s (xA, xc, row.set r false)).map (·.2.2) = (cs.map (·.2.2)).set s (row.set r false) := by rw [List.map_set]
 have hvl2 := hvl.after hrow hv0 hlv hov g1 g2 (r := r)
 have hres2 := hres.step hin hrn hfd
 rw [← hva, ← pbOf_after hvl (by omega) (by omega) hrow v lv ov hlv hov, ← hnew] at hres2
 rw [← hnew] at hvl2
 have hptr := ptrC_set hx (row.set r false) (by simp)
 simp only at hptr
 have hbl : (boV row).length = need.length := by simp; omega
 have hill : (intV left).length = sup.length := by simp [hll]
 have hiol : (intV op).length = need.length := by simp [hol]
 refine Tr.own_some B1 (by repeat (first | exact Has.here | apply Has.there)) (by omega) (fun hB1 => ?_)
 refine Tr.own_some B2 (by repeat (first | exact Has.here | apply Has.there)) (by omega) (fun hB2 => ?_)
 simp only [List.cons_append, List.nil_append]
 refine Tr.many_out (by repeat (first | exact Del.here | apply Del.there)) (rowC_get hx) ?_
 dsimp only
 repeat (first | ((with_reducible refine Tr.step rfl ?_); (first | (refine xmQ ?_) | (refine xaQ ?_) | ((with_reducible refine Knd.load ?_); ((refine Exec.stab rfl (Stab.loadO rfl (tysOk.get rfl) rfl (by repeat (first | exact Has.here | apply Has.there)) (by assumption)) rfl ?_))) | ((with_reducible refine Knd.binOp ?_); ((refine Exec.stab rfl (Stab.subi rfl rfl (by omega)) rfl ?_))) | ((with_reducible refine Knd.store ?_); ((refine Exec.storeO rfl rfl (tysOk.get rfl) rfl (by first | rfl | assumption) (by repeat (first | exact Upd.here | apply Upd.there)) (by omega) ?_))) | (refine xxQ ?_) | ((with_reducible refine Knd.buildSlice ?_); ((refine Exec.buildSlice (tysOk.get rfl) rfl (tysOk.get rfl) rfl rfl rfl rfl rfl (by repeat (first | exact BuildP.nil | ((apply BuildP.one); (rfl); (rfl); (first | rfl | assumption); (repeat (first | exact SetL.z | apply SetL.s))))) rfl (fun b => ?_)))))) | (with_reducible first | apply Tr.next | apply Tr.seq | apply Tr.region | apply Tr.nil))
 rw [boV_set, intV_set, intV_set, Int.toNat_natCast r, Int.toNat_natCast s]
 refine Tr.cells (cs' := [.int .i64 (a s r)]) (by repeat (first | exact Upd.here | apply Upd.there)) (by rw [← hva]; rfl) ?_
 ((refine Tr.step rfl ?_))
 refine Exec.append (A := A7) (news := [.int .i64 (a s r)]) rfl rfl (tysOk.get rfl) rfl (tysOk.get rfl) rfl rfl rfl rfl (by repeat (first | exact Del.here | apply Del.there)) (Src.box (by repeat (first | exact Has.here | apply Has.there))) rfl (by intro u hu; simp at hu; subst hu; rfl) (by omega) (by omega) rfl (fun A8 c8 hc8 => ?_)
 rw [show intV ((List.range r).map (a s)) ++ [.int .i64 (a s r)] = intV ((List.range (r + 1)).map (a s)) by rw [rowOf_succ, intV_append]; rfl]
 refine rQ ?_
 refine gvQ (r := box _ 3 [_]) ?_
 refine ftQ (r := many _) ?_
 refine ftQ (r := ownS 4 1 _ _ _ _) ?_
 refine Tr.many_in (rowC_get hx) ?_
 rw [show (cs.map rowC).set s (ownS 4 1 xA row.length xc (boV (row.set r false))) = (cs.set s (xA, xc, row.set r false)).map rowC by rw [List.map_set]; simp [rowC], ← hptr]
 refine ftQ (r := ownS 3 1 B1 _ _ _) ?_
 refine ftQ (r := ownS 3 1 B2 _ _ _) ?_
 refine ftQ (r := many _) ?_
 refine ftQ (r := ownS 120 1 _ _ _ _) ?_
 refine ftQ (r := ownS 32 1 _ _ _ _) ?_
 refine ftQ (r := ownS 3 1 A8 _ _ _) ?_
 refine Tr.again (r + 1, cs.set s (xA, xc, row.set r false), left.set s (lv - v), op.set r (ov - v), A8, c8) ⟨by simp only; omega, by simpa using hcl, fun x hx' => ?_, by simpa using hll, by simpa using hol, hvl2, hres2, hc8⟩ (by simp only; omega) hsQ
 rcases List.mem_or_eq_of_mem_set hx' with hx' | rfl
 ·exact hcap x hx'
 ·have h9 := hcap _ (List.mem_of_getElem? hx)
  exact h9
end Go.Proofs.YtlifjajcmnkhfaaGreat

/-
 There is a greatest allocation, if there is one. Plain.
 Conditions: none.
-/
namespace Go.Proofs.YtlifjajcmnkhfaaGreat
open Go Bf
def bef (i j i' j' : Nat) : Prop := i' < i ∨ (i' = i ∧ j' < j)
structure UptoX (p : Pb) (i j : Nat) (a : Nat → Nat → Int) : Prop where
 flow : Flow p a fun _ => 0
 max : ∀ a', (Flow p a' fun _ => 0) → ∀ i', i' < p.n → ∀ j', j' < p.m → bef i j i' j' → (∀ k, k < i' → ∀ b, b < p.m → a' k b = a k b) → (∀ b, b < j' → a' i' b = a i' b) → a' i' j' ≤ a i' j'
theorem greatest {α : Type} (S : α → Prop) (f : α → Int) (B : Int) (hB : ∀ x, S x → f x ≤ B) (h : ∃ x, S x) : ∃ x, S x ∧ ∀ y, S y → f y ≤ f x := by
 obtain ⟨x0, h0⟩ := h
 obtain ⟨m, ⟨x, hx, e⟩, hm⟩ := least (p := fun m => ∃ x, S x ∧ (B - f x).toNat = m) ⟨_, x0, h0, rfl⟩
 refine ⟨x, hx, fun y hy => ?_⟩
 have h1 := hm _ ⟨y, hy, rfl⟩
 have h2 := hB x hx
 have h3 := hB y hy
 omega
theorem UptoX.next {p : Pb} {i j : Nat} {a : Nat → Nat → Int} (h : UptoX p i j a) (hi : i < p.n) (hj : j < p.m) : ∃ b, UptoX p i (j + 1) b := by
 obtain ⟨b, ⟨hf, hag⟩, hmax⟩ := greatest (fun b : Nat → Nat → Int => (Flow p b fun _ => 0) ∧ ∀ i', i' < p.n → ∀ j', j' < p.m → bef i j i' j' → b i' j' = a i' j') (fun b => b i j) (p.sup i) (fun b hb => by
   have h1 := hb.1.row i hi
   have h2 := sumN_le_of_mem (f := b i) (n := p.m + 1) (fun q hq => hb.1.nn i hi q (by omega)) (show j < p.m + 1 by omega)
   omega) ⟨a, h.flow, fun _ _ _ _ _ => rfl⟩
 refine ⟨b, hf, fun a' ha' i' hi' j' hj' hb' h1 h2 => ?_⟩
 by_cases c : i' = i ∧ j' = j
 ·obtain ⟨rfl, rfl⟩ := c
  refine hmax a' ⟨ha', fun i2 hi2 j2 hj2 hb2 => ?_⟩
  rw [← hag i2 hi2 j2 hj2 hb2]
  rcases hb2 with q | ⟨rfl, q⟩
  ·exact h1 i2 q j2 hj2
  ·exact h2 j2 q
 ·have hb2 : bef i j i' j' := by
   rcases hb' with q | ⟨q1, q2⟩
   ·exact .inl q
   ·exact .inr ⟨q1, by omega⟩
  rw [hag i' hi' j' hj' hb2]
  refine h.max a' ha' i' hi' j' hj' hb2 (fun k hk q hq => ?_) (fun q hq => ?_)
  ·rw [h1 k hk q hq]
   refine hag k (by omega) q hq ?_
   rcases hb2 with z | ⟨z1, z2⟩
   ·exact .inl (by omega)
   ·exact .inl (by omega)
  ·rw [h2 q hq]
   refine hag i' hi' q (by omega) ?_
   rcases hb2 with z | ⟨z1, z2⟩
   ·exact .inl z
   ·exact .inr ⟨z1, by omega⟩
theorem upto_row {p : Pb} {i : Nat} (hi : i < p.n) (h : ∃ a, UptoX p i 0 a) : ∀ j, j ≤ p.m → ∃ a, UptoX p i j a
 | 0, _ => h
 | j + 1, hj => by
  obtain ⟨a, ha⟩ := upto_row hi h j (by omega)
  exact ha.next hi (by omega)
theorem upto_all {p : Pb} (h : Feas p) : ∀ i, i ≤ p.n → ∃ a, UptoX p i 0 a
 | 0, _ => by
  obtain ⟨a, ha⟩ := h
  refine ⟨a, ha, fun a' _ i' _ j' _ hb => ?_⟩
  rcases hb with q | ⟨q1, q2⟩ <;> omega
 | i + 1, hi => by
  obtain ⟨a, ha⟩ := upto_row (i := i) (by omega) (upto_all h i (by omega)) p.m (Nat.le_refl _)
  refine ⟨a, ha.flow, fun a' ha' i' hi' j' hj' hb => ha.max a' ha' i' hi' j' hj' ?_⟩
  rcases hb with q | ⟨q1, q2⟩
  ·by_cases e : i' = i
   ·exact .inr ⟨e, hj'⟩
   ·exact .inl (by omega)
  ·omega
theorem lexmax_ex {p : Pb} (h : Feas p) : ∃ a, LexMax p a := by
 obtain ⟨a, ha⟩ := upto_all h p.n (Nat.le_refl _)
 exact ⟨a, ha.flow, fun a' ha' i hi j hj h1 h2 => ha.max a' ha' i hi j hj (.inl hi) h1 h2⟩
end Go.Proofs.YtlifjajcmnkhfaaGreat

/-
 The reference's promises: Check.
 Conditions: none.
-/
namespace Go.Proofs.YtlifjajcmnkhfaaGreat
open Go Bf
attribute [local irreducible] Tr Exec Stab HasTy Go.Addr.add IntKind.wrap
set_option maxHeartbeats 8000000 in
set_option maxRecDepth 20000 in
theorem rcheck31_fn (M : Mem) (ws : List Value) (w : Wd) (hw : RWd M ws w) (v : Value) (k : Bp) (hk : RBp M v k) (hfew : k.sups.length ≤ 1000000 ∧ k.reqs.length ≤ 6) :
  Fn0 Tryz.prog 49 [.agg ws.toArray, v] M (fun v _ => v = .int .i64 (chkE w k)) := by
 have h11 := hw.len
 obtain ⟨As, cs, Ar, cr, Af, cf, Ad, cd, rfl, h1, h2, h3, h4⟩ := hk
 refine Fn.intro Tryz.func49 rfl rfl Tryz.ntmps49 rfl fun E F => ?_
 (repeat (first | ((with_reducible refine Tr.step rfl ?_); (first | (refine xaQ ?_) | ((with_reducible refine Knd.load ?_); (first | (refine xlQ ?_) | (refine xwQ ?_) | (refine Exec.stab rfl (Stab.loadW rfl (tysOk.get rfl) rfl (by repeat (first | exact Has.here | apply Has.there)) (by assumption)) rfl ?_))) | (refine xfQ ?_) | ((with_reducible refine Knd.box ?_); (refine Exec.box rfl rfl (fun b => ?_))))) | (with_reducible first | apply Tr.next | apply Tr.seq | apply Tr.region | apply Tr.nil)))
 rename_i b2
 generalize b = b3
 ((refine Tr.step rfl ?_)); refine Exec.call0 rfl (rwith_fn M ws w hw k As cs h1 (.slice Ar k.reqs.length cr) (.slice Af k.fits.length cf) (.slice Ad k.rds.length cd) rfl rfl rfl Ar cr k.reqs h2) rfl ?_
 rintro _ M1 hm1 (⟨hnk, rfl⟩ | ⟨hok, x, rfl, hx⟩)
 ·(repeat (first | ((with_reducible refine Tr.step rfl ?_); (first | (refine xmQ ?_) | (refine xaQ ?_) | (refine xlQ ?_) | (refine xfQ ?_) | (refine xWQ ?_) | ((with_reducible refine Knd.alloc ?_); (refine Exec.alloc (tysOk.get rfl) rfl rfl (fun b => ?_))) | ((with_reducible refine Knd.extract ?_); (refine Exec.stab rfl (Stab.extract rfl rfl) rfl ?_)))) | (with_reducible first | apply Tr.next | apply Tr.seq | apply Tr.region | apply Tr.nil)))
  ((refine Tr.step rfl ?_)); refine Exec.call0 rfl (rnumbers_fn M1 As Ar cs cr k.sups k.reqs (h1.mono RSpC.mono hm1) (h2.mono RRqC.mono hm1)) rfl ?_
  rintro _ _ _ ⟨⟨q, rfl, hq⟩, rfl⟩
  have hn : ¬ okB w k := fun h => hnk h.2.1
  cases q with
  | false =>
   (refine rQ ?_)
   (refine dnQ (hL := by exact ⟨[_, _, _], rfl⟩) ⟨rfl, ?_⟩)
   rw [chkE, if_neg hn]; rfl
  | true =>
   (refine rQ ?_)
   (refine dnQ (hL := by exact ⟨[_, _, _], rfl⟩) ⟨rfl, ?_⟩)
   rw [chkE, if_neg hn]; rfl
 obtain ⟨As', cs', Ar', cr', Af', cf', Ad', cd', rfl, g1, g2, g3, g4⟩ := hx
 dsimp only [mkF] at g1 g2 g3 g4 ⊢
 (repeat (first | ((with_reducible refine Tr.step rfl ?_); (first | (refine xmQ ?_) | (refine xaQ ?_) | (refine xlQ ?_) | (refine xfQ ?_) | (refine xWQ ?_) | ((with_reducible refine Knd.alloc ?_); (refine Exec.alloc (tysOk.get rfl) rfl rfl (fun b => ?_))) | ((with_reducible refine Knd.extract ?_); (refine Exec.stab rfl (Stab.extract rfl rfl) rfl ?_)))) | (with_reducible first | apply Tr.next | apply Tr.seq | apply Tr.region | apply Tr.nil)))
 ((refine Tr.step rfl ?_)); refine Exec.call0 rfl (rnumbers_fn M1 As Ar cs cr k.sups k.reqs (h1.mono RSpC.mono hm1) (h2.mono RRqC.mono hm1)) rfl ?_
 rintro _ _ _ ⟨⟨q, rfl, hq⟩, rfl⟩
 cases q with
 | false =>
  have hn : ¬ okB w k := fun h => by have := hq.2 ⟨h.1.2, h.1.1⟩; cases this
  (refine rQ ?_)
  (refine dnQ (hL := by exact ⟨[_, _, _], rfl⟩) ⟨rfl, ?_⟩)
  rw [chkE, if_neg hn]; rfl
 | true =>
 have hnum := hq.1 rfl
 (refine rQ ?_)
 ((refine Tr.guard_y' rfl rfl rfl (by (with_reducible exact (not_not_intro rfl))) ?_)); refine Exec.call0 rfl (sameTab_fn M1 (fitsT w k.known k.sups k.reqs) k.fits Af' Af cf' cf g3 (h3.mono RRowB.mono hm1)) rfl ?_
 rintro _ _ _ ⟨rfl, rfl⟩
 by_cases e1 : fitsT w k.known k.sups k.reqs = k.fits
 rotate_left
 ·rw [decide_eq_false e1]
  have hn : ¬ okB w k := fun h => e1 h.2.2.1.1
  (refine rQ ?_)
  (refine dnQ (hL := by exact ⟨[_, _, _], rfl⟩) ⟨rfl, ?_⟩)
  rw [chkE, if_neg hn]; rfl
 rw [decide_eq_true e1]
 (refine rQ ?_)
 ((refine Tr.guard_l rfl rfl rfl (by (with_reducible exact Bool.not_true)) ?_)); refine Exec.call0 rfl (sameReads_fn M1 (readsF w k.sups k.reqs) k.rds Ad' Ad cd' cd g4 (h4.mono RRd.mono hm1)) rfl ?_
 rintro _ _ _ ⟨rfl, rfl⟩
 by_cases e2 : readsF w k.sups k.reqs = k.rds
 rotate_left
 ·rw [decide_eq_false e2]
  have hn : ¬ okB w k := fun h => e2 h.2.2.1.2
  (refine rQ ?_)
  (refine dnQ (hL := by exact ⟨[_, _, _], rfl⟩) ⟨rfl, ?_⟩)
  rw [chkE, if_neg hn]; rfl
 rw [decide_eq_true e2]
 have hvld := okT_vld (w := w) (known := k.known) hok
 rw [e1] at hvld
 have hokB : Feas (pbB k) ↔ okB w k := ⟨fun h => ⟨⟨hnum.2, hnum.1⟩, hok, ⟨e1, e2⟩, h⟩, fun h => h.2.2.2⟩
 have rs : I64s (amS k.sups) := fun x hx => by have := hvld.rs x hx; omega
 have rn : I64s (amR k.reqs) := fun x hx => by have := hvld.rn x hx; omega
 have hnl : (amR k.reqs).length = k.reqs.length := by simp [amR]
 obtain ⟨a, ha⟩ : ∃ a, Vld k.fits (amS k.sups) (amR k.reqs) → Feas (pbOf k.fits (amS k.sups) (amR k.reqs)) → LexMax (pbOf k.fits (amS k.sups) (amR k.reqs)) a := by
  by_cases hf : Feas (pbOf k.fits (amS k.sups) (amR k.reqs))
  ·obtain ⟨a, ha⟩ := lexmax_ex hf
   exact ⟨a, fun _ _ => ha⟩
  ·exact ⟨fun _ _ => 0, fun _ h => absurd h hf⟩
 (refine rQ ?_)
 (((apply Tr.draw); (kernel_rfl)); (refine tkQ 0 (hB := by exact fun _ h => h) (s := by exact sfQ) ?_); (refine tkQ 2 (s := by exact sfQ) ?_); (refine tkQ 5 (s := by exact sfQ) ?_); (refine tkQ 1 (s := by exact slQ) ?_); (refine tkQ 3 (s := by exact slQ) ?_); (refine tkQ 6 (s := by exact slQ) ?_); (refine TrA.eff 4 rfl (by kernel_rfl) (by exact .inl rfl) ?_))
 refine Exec.call0 rfl (ramS_fn M1 As cs k.sups (h1.mono RSpC.mono hm1) hfew.1) rfl ?_
 rintro _ M2 hm2 ⟨A1, c1, rfl, hI1⟩
 refine ⟨hm2, (by exact fun _ h => h), ?_⟩
 have hm02 := hm1.trans hm2
 ((refine TrA.eff 7 rfl (by kernel_rfl) (by exact .inl rfl) ?_))
 refine Exec.call0 rfl (ramR_fn M2 Ar cr k.reqs (h2.mono RRqC.mono hm02) (by omega)) rfl ?_
 rintro _ M3 hm3 ⟨A2, c2, rfl, hI2⟩
 refine ⟨hm3, (by exact fun _ h => h), ?_⟩
 have hm03 := hm02.trans hm3
 ((refine TrA.eff 8 rfl (by kernel_rfl) (by exact .inl rfl) ?_))
 refine Exec.call0 rfl (rflow_fn M3 Af A1 A2 cf c1 c2 k.fits (amS k.sups) (amR k.reqs) (h3.mono RRowB.mono hm03) (hI1.mono RI.mono hm3) hI2 (.inl (by omega)) a ha) rfl ?_
 rintro _ M4 hm4 (⟨hbad, -⟩ | ⟨-, hnf, B, kk, rfl, -⟩ | ⟨-, hfe, A, c, rfl, -⟩)
 ·rw [vld_iff.2 hvld] at hbad
  cases hbad
 ·refine ⟨hm4, (by exact fun _ h => h), ?_⟩
  have hm04 := hm03.trans hm4
  ((refine tkQ 9 (s := by exact Stab.move rfl) ?_); (refine tkQ 10 (s := by exact Stab.extract rfl rfl) ?_); (refine tkQ 11 (s := by exact Stab.extract rfl rfl) ?_); (refine tkQ 12 (s := by exact Stab.extract rfl rfl) ?_); (refine tkQ 13 (s := by exact Stab.extract rfl rfl) ?_); (refine tkQ 14 (s := by exact Stab.assign rfl) ?_); (refine tkQ 15 (s := by exact Stab.assign rfl) ?_); (refine tkQ 16 (s := by exact Stab.assign rfl) ?_); (refine tkQ 17 (s := by exact Stab.assign rfl) ?_); (refine TrA.done (by kernel_rfl) ?_))
  (refine rQ ?_)
  (refine dnQ (hL := by exact ⟨[_, _, _], rfl⟩) ⟨rfl, ?_⟩)
  rw [chkE, if_neg (fun h => hnf (hokB.2 h))]; rfl
 ·refine ⟨hm4, (by exact fun _ h => h), ?_⟩
  have hm04 := hm03.trans hm4
  ((refine tkQ 9 (s := by exact Stab.move rfl) ?_); (refine tkQ 10 (s := by exact Stab.extract rfl rfl) ?_); (refine tkQ 11 (s := by exact Stab.extract rfl rfl) ?_); (refine tkQ 12 (s := by exact Stab.extract rfl rfl) ?_); (refine tkQ 13 (s := by exact Stab.extract rfl rfl) ?_); (refine tkQ 14 (s := by exact Stab.assign rfl) ?_); (refine tkQ 15 (s := by exact Stab.assign rfl) ?_); (refine tkQ 16 (s := by exact Stab.assign rfl) ?_); (refine tkQ 17 (s := by exact Stab.assign rfl) ?_); (refine TrA.done (by kernel_rfl) ?_))
  (refine rQ ?_)
  (refine dnQ (hL := by exact ⟨[_, _, _], rfl⟩) ⟨rfl, ?_⟩)
  rw [chkE, if_pos (hokB.1 hfe)]; rfl
end Go.Proofs.YtlifjajcmnkhfaaGreat

/-
 The reference's promises: ask.
 Conditions: none.
-/
namespace Go.Proofs.YtlifjajcmnkhfaaGreat
open Go Bf
attribute [local irreducible] Tr Exec Stab HasTy Go.Addr.add IntKind.wrap
theorem nums_app {l : List Rq} {r : Rq} (h : (l.map (·.no)).Nodup) : (((l ++ [r]).map (·.no)).Nodup ↔ r.no ∉ l.map (·.no)) := by
 rw [List.map_append, List.nodup_append]
 constructor
 ·intro h2 hm
  exact h2.2.2 _ hm r.no (by simp) rfl
 ·intro h2
  refine ⟨h, by simp, fun x hx y hy => ?_⟩
  simp at hy
  subst hy
  exact fun e => h2 (e ▸ hx)
theorem okRq_of {s : List Sp} {l : List Rq} {r : Rq} (hs : okT s l) (h : ¬ okT s (l ++ [r])) (hl : l.length + 1 ≤ 64) : ¬ okRq r := fun hr => h ((okT_app hs).2 ⟨hr, hl⟩)
set_option maxHeartbeats 16000000 in
set_option maxRecDepth 20000 in
theorem rask_fn (M : Mem) (ws : List Value) (w : Wd) (hw : RWd M ws w) (v : Value) (k : Bp) (hk : RBp M v k) (hok : okB w k) (hfew : k.sups.length ≤ 5 ∧ k.reqs.length ≤ 5) (r : Rq) :
  Fn0 Tryz.prog 50 [.agg ws.toArray, v, .agg #[.int .i64 r.no, .int .i64 r.item, .int .i64 r.cust, .int .i64 r.due, .int .i64 r.shelf, .int .i64 r.amount]] M (fun v M' => AskV w k r v M') := by
 have h11 := hw.len
 obtain ⟨As, cs, Ar, cr, Af, cf, Ad, cd, rfl, h1, h2, h3, h4⟩ := hk
 have hrow := SlOf.row (R := RRqC) h2 (fun _ _ h => h) rqC_len
 refine Fn.intro Tryz.func50 rfl rfl Tryz.ntmps50 rfl fun E F => ?_
 (repeat (first | ((with_reducible refine Tr.step rfl ?_); (first | (refine xaQ ?_) | ((with_reducible refine Knd.box ?_); (refine Exec.box rfl rfl (fun b => ?_))) | ((with_reducible refine Knd.alloc ?_); (refine Exec.alloc (tysOk.get rfl) rfl rfl (fun b => ?_))))) | (with_reducible first | apply Tr.next | apply Tr.seq | apply Tr.region | apply Tr.nil)))
 rename_i b3 b4 b5 b6
 generalize b = b7
 (((apply Tr.draw); (kernel_rfl)); (refine tkQ 1 (hB := by exact fun _ h => h) (s := by exact sfQ) ?_); (refine tkQ 4 (s := by exact swQ) ?_); (refine tkQ 2 (s := by exact slQ) ?_))
 ((refine TrM.start2 _ (PA.build 0 [] rfl (by exact .inl rfl) (tysOk.get rfl) rfl (tysOk.get rfl) rfl rfl rfl rfl rfl (by repeat (exact BuildP.nil)) rfl) (PA.build1 5 [(25, .agg #[.int .i64 r.no, .int .i64 r.item, .int .i64 r.cust, .int .i64 r.due, .int .i64 r.shelf, .int .i64 r.amount])] rfl (by exact .inl rfl) rfl (tysOk.get rfl) rfl (tysOk.get rfl) rfl rfl rfl rfl rfl (by first | rfl | assumption) rfl) (by kernel_rfl) (by kernel_rfl) (by kernel_rfl) ?_); (refine TrM.settle (by kernel_rfl) (by repeat (first | exact PendOk.nil | refine PendOk.cons rfl (by repeat (first | exact SubFr.nil | refine SubFr.cons rfl ?_)) ?_)) (by exact fun _ h => h) (fun b => ?_)); dsimp only)
 refine TrM.box_own 6 0 (by repeat (first | exact Upd.here | apply Upd.there)) rfl (by intro u hu; cases hu) (by simp [maxLen]) ?_
 ((refine TrM.eff 3 rfl (by kernel_rfl) (by exact .inl rfl) (by repeat (first | exact PendOk.nil | refine PendOk.cons rfl (by repeat (first | exact SubFr.nil | refine SubFr.cons rfl ?_)) ?_)) (by exact (Sub.mem (by repeat (first | exact Sub.refl | apply Sub.cons)))) (by repeat (first | apply AppF.cons | exact AppF.nil)) (by repeat (first | apply AppF.cons | exact AppF.app)) (fun Y X => ?_)))
 refine Exec.append (news := k.reqs.flatMap rqC) rfl rfl (tysOk.get rfl) rfl (tysOk.get rfl) rfl rfl rfl rfl (by repeat (first | exact Del.here | apply Del.there)) (Src.row hrow) (by rw [flatMap_len rqC_len]) (flatMap_one rqC_one _) (by omega) (by omega) rfl (fun A6 c6 hc6 => ?_)
 (refine ⟨_, _, (by repeat (first | apply App.cons | exact App.nil | exact App.app)), (by repeat (first | apply App.cons | exact App.nil | exact App.app)), rfl, (by first | exact Mem.le.refl _ | assumption), (by exact (Sub.mem (by repeat (first | exact Sub.refl | apply Sub.cons)))), ?_⟩)
 rw [zeros0_app, Nat.zero_add]
 ((refine TrM.settle (by kernel_rfl) (by repeat (first | exact PendOk.nil | refine PendOk.cons rfl (by repeat (first | exact SubFr.nil | refine SubFr.cons rfl ?_)) ?_)) (by exact (Sub.mem (by repeat (first | exact Sub.refl | apply Sub.cons)))) (fun b => ?_)); dsimp only)
 ((refine TrM.eff 6 rfl (by kernel_rfl) (by exact .inl rfl) (by repeat (exact PendOk.nil)) (by exact (Sub.mem (by repeat (first | exact Sub.refl | apply Sub.cons)))) (by repeat (first | apply AppF.cons | exact AppF.nil)) (by repeat (first | apply AppF.cons | exact AppF.app)) (fun Y X => ?_)))
 refine Exec.append (news := rqC r) rfl rfl (tysOk.get rfl) rfl (tysOk.get rfl) rfl rfl rfl rfl (by repeat (first | exact Del.here | apply Del.there)) (Src.box (by repeat (first | exact Has.here | apply Has.there))) rfl (rqC_one _) (by omega) (by omega) rfl (fun A8 c8 hc8 => ?_)
 (refine ⟨_, _, (by repeat (first | apply App.cons | exact App.nil | exact App.app)), (by repeat (first | apply App.cons | exact App.nil | exact App.app)), rfl, (by first | exact Mem.le.refl _ | assumption), (by exact (Sub.mem (by repeat (first | exact Sub.refl | apply Sub.cons)))), ?_⟩)
 rw [show k.reqs.flatMap rqC ++ rqC r = (k.reqs ++ [r]).flatMap rqC by rw [List.flatMap_append]; simp, show k.reqs.length + 1 = (k.reqs ++ [r]).length by simp]
 refine TrM.publish (x := ownS 46 6 _ _ _ _) (by repeat (first | exact Del.here | apply Del.there)) (fun M1 hm1 hok1 => ?_)
 have hR1 : SlOf 6 RRqC M1 (.slice A8 (k.reqs ++ [r]).length c8) (k.reqs ++ [r]) := SlOf.ofOwn hok1 rfl hc8 (rqC_elems _ _)
 ((refine TrM.fin ?_))
 ((refine tkQ 7 (s := by exact Stab.assign rfl) ?_); (refine TrA.done (by kernel_rfl) ?_))
 have hal : (k.reqs ++ [r]).length = k.reqs.length + 1 := by simp
 generalize hall : k.reqs ++ [r] = all at hR1 hal ⊢
 (refine rQ ?_)
 ((refine Tr.step rfl ?_)); refine Exec.call0 rfl (rnumbers_fn M1 none A8 0 c8 [] all (SlOf.nil _ _ _) hR1) rfl ?_
 rintro _ _ _ ⟨⟨q, rfl, hq⟩, rfl⟩
 have hq2 : q = true ↔ r.no ∉ k.reqs.map (·.no) := by
  rw [hq, ← hall, nums_app hok.1.1]
  exact ⟨fun h => h.2, fun h => ⟨List.nodup_nil, h⟩⟩
 cases q with
 | false =>
  have hno : r.no ∈ k.reqs.map (·.no) := Classical.byContradiction fun h => (by have := hq2.2 h; cases this)
  have hask : askE w k r = 310 := by rw [askE, if_neg (fun h => h hok), if_pos hno]
  (repeat (first | ((with_reducible refine Tr.step rfl ?_); (first | (refine xaQ ?_) | ((with_reducible refine Knd.unOp ?_); (refine Exec.stab rfl (Stab.not rfl) rfl ?_)) | (refine xWQ ?_) | ((with_reducible refine Knd.build ?_); (refine Exec.stab rfl (Stab.build tysOk rfl rfl rfl rfl (by repeat (exact BuildP.nil))) rfl ?_)))) | (with_reducible first | apply Tr.next | apply Tr.seq | apply Tr.region | apply Tr.nil | apply Tr.ret | apply Tr.then_ret) | (refine Tr.cond_bt rfl (by first | (with_reducible rfl) | (with_reducible exact Bool.not_false)) ?_)))
  (refine Tr.done (by first | exact .inl rfl | exact .inr rfl) rfl (by repeat (first | exact RVs.nil | (apply RVs.cons; (first | exact RV.tmp rfl | exact RV.cellW (by rfl) (tysOk.get (by rfl)) (by rfl) (by repeat (first | exact Has.here | apply Has.there)) (by first | rfl | assumption))))) (by first | exact Mem.le.refl _ | assumption) (by exact ⟨[_, _, _, _, _, _], rfl⟩) ⟨rfl, ?_⟩)
  exact .inr ⟨by rw [hask]; decide, by rw [hask]; rfl⟩
 | true =>
 have hno := hq2.1 rfl
 (repeat (first | ((with_reducible refine Tr.step rfl ?_); (first | (refine xmQ ?_) | ((with_reducible refine Knd.load ?_); (first | (refine xwQ ?_) | (refine Exec.stab rfl (Stab.loadW rfl (tysOk.get rfl) rfl (by repeat (first | exact Has.here | apply Has.there)) (by assumption)) rfl ?_))) | ((with_reducible refine Knd.unOp ?_); (refine Exec.stab rfl (Stab.not rfl) rfl ?_)))) | (with_reducible first | apply Tr.next | apply Tr.seq | apply Tr.region | apply Tr.nil | apply Tr.skip) | (refine Tr.cond_bf rfl (by first | (with_reducible rfl) | (with_reducible exact Bool.not_true)) ?_)))
 ((refine Tr.step rfl ?_)); refine Exec.call0 rfl (rwith_fn M1 ws w (hw.mono hm1) k As cs (h1.mono RSpC.mono hm1) (.slice Ar k.reqs.length cr) (.slice Af k.fits.length cf) (.slice Ad k.rds.length cd) rfl rfl rfl A8 c8 all hR1) rfl ?_
 rintro _ M2 hm2 (⟨hnk, rfl⟩ | ⟨hokT, x, rfl, hx⟩)
 ·have hask : askE w k r = 290 := by
   rw [askE, if_neg (fun h => h hok), if_neg hno, if_pos]
   refine .inl (okRq_of hok.2.1 (by rw [hall]; exact hnk) (by omega))
  have hm02 := hm1.trans hm2
  (repeat (first | ((with_reducible refine Tr.step rfl ?_); (first | (refine xmQ ?_) | (refine xaQ ?_) | (refine xiQ ?_) | (refine xWQ ?_) | ((with_reducible refine Knd.alloc ?_); (refine Exec.alloc (tysOk.get rfl) rfl rfl (fun b => ?_))) | ((with_reducible refine Knd.extract ?_); (refine Exec.stab rfl (Stab.extract rfl rfl) rfl ?_)) | ((with_reducible refine Knd.build ?_); (refine Exec.stab rfl (Stab.build tysOk rfl rfl rfl rfl (by repeat (exact BuildP.nil))) rfl ?_)))) | (with_reducible first | apply Tr.next | apply Tr.seq | apply Tr.region | apply Tr.nil | apply Tr.ret | apply Tr.then_ret) | (refine Tr.cond_t rfl (by first | (with_reducible assumption) | omega) ?_)))
  (refine Tr.done (by first | exact .inl rfl | exact .inr rfl) rfl (by repeat (first | exact RVs.nil | (apply RVs.cons; (first | exact RV.tmp rfl | exact RV.cellW (by rfl) (tysOk.get (by rfl)) (by rfl) (by repeat (first | exact Has.here | apply Has.there)) (by first | rfl | assumption))))) (by first | exact Mem.le.refl _ | assumption) (by exact ⟨[_, _, _, _, _, _, _], rfl⟩) ⟨rfl, ?_⟩)
  exact .inr ⟨by rw [hask]; decide, by rw [hask]; rfl⟩
 have hbase : okRq r := hokT.2.2 r (by rw [← hall]; simp)
 have hask : askE w k r = 0 := by rw [askE, if_neg (fun h => h hok), if_neg hno, if_neg (fun h => h.elim (fun h => h hbase) (fun h => by omega))]
 obtain ⟨As', cs', Ar', cr', Af', cf', Ad', cd', rfl, g1, g2, g3, g4⟩ := hx
 dsimp only [mkF] at g1 g2 g3 g4 ⊢
 have hm02 := hm1.trans hm2
 (repeat (first | ((with_reducible refine Tr.step rfl ?_); (first | (refine xmQ ?_) | (refine xaQ ?_) | ((with_reducible refine Knd.load ?_); (first | (refine xlQ ?_) | (refine xwQ ?_) | (refine Exec.stab rfl (Stab.loadW rfl (tysOk.get rfl) rfl (by repeat (first | exact Has.here | apply Has.there)) (by assumption)) rfl ?_))) | (refine xfQ ?_) | (refine xiQ ?_) | (refine xWQ ?_) | ((with_reducible refine Knd.alloc ?_); (refine Exec.alloc (tysOk.get rfl) rfl rfl (fun b => ?_))) | ((with_reducible refine Knd.extract ?_); (refine Exec.stab rfl (Stab.extract rfl rfl) rfl ?_)) | ((with_reducible refine Knd.buildSlice ?_); (refine Exec.buildSlice (tysOk.get rfl) rfl (tysOk.get rfl) rfl rfl rfl rfl rfl (by repeat (first | exact BuildP.nil | ((apply BuildP.many); (rfl); (rfl); (rfl); (rfl); (repeat (first | exact PutL.nil | ((apply PutL.cons); (repeat (first | exact SetL.z | apply SetL.s)))))))) rfl (fun b => ?_))))) | (with_reducible first | apply Tr.next | apply Tr.seq | apply Tr.region | apply Tr.nil | apply Tr.skip) | (refine Tr.cond_f rfl (by first | (with_reducible assumption) | (with_reducible exact (not_not_intro rfl))) ?_)))
 refine pbQ (r := box b 46 _) (fun M3 hm3 hokb => ?_)
 have hokb : (box b 46 (rqC r)).ok M3 := hokb
 have hone : SlOf 6 RRqC M3 (.slice (some ⟨b, 0, none⟩) 1 1) [r] := SlOf.ofBoxC (n := 1) (c := 1) (xs := [r]) hokb rfl rfl (Nat.le_refl _) (by decide) (rqC_one r) (rqC_elems M3 [r])
 have hm03 := hm02.trans hm3
 ((refine Tr.step rfl ?_)); refine Exec.call0 rfl (rtable_fn M3 ws w (hw.mono hm03) As (some ⟨b, 0, none⟩) cs 1 k.sups [r] k.known (h1.mono RSpC.mono hm03) hone) rfl ?_
 rintro _ M4 hm4 (⟨hnk, -⟩ | ⟨-, C, cC, D, cD, rfl, -, hD⟩)
 ·exact absurd ⟨⟨hok.2.1.1.1, by simp⟩, hok.2.1.2.1, fun y hy => by simp at hy; subst hy; exact hbase⟩ hnk
 have hm04 := hm03.trans hm4
 have hm24 := hm3.trans hm4
 have hvld := okT_vld (w := w) (known := k.known) hokT
 have rs : I64s (amS k.sups) := fun x hx => by have := hvld.rs x hx; omega
 have rn : I64s (amR all) := fun x hx => by have := hvld.rn x hx; omega
 have hnl : (amR all).length = k.reqs.length + 1 := by simp [amR, hal]
 obtain ⟨a, ha⟩ : ∃ a, Vld (fitsT w k.known k.sups all) (amS k.sups) (amR all) → Feas (pbOf (fitsT w k.known k.sups all) (amS k.sups) (amR all)) → LexMax (pbOf (fitsT w k.known k.sups all) (amS k.sups) (amR all)) a := by
  by_cases hf : Feas (pbOf (fitsT w k.known k.sups all) (amS k.sups) (amR all))
  ·obtain ⟨a, ha⟩ := lexmax_ex hf
   exact ⟨a, fun _ _ => ha⟩
  ·exact ⟨fun _ _ => 0, fun _ h => absurd h hf⟩
 (repeat (first | ((with_reducible refine Tr.step rfl ?_); (first | (refine xmQ ?_) | (refine xaQ ?_) | (refine xWQ ?_) | ((with_reducible refine Knd.alloc ?_); (refine Exec.alloc (tysOk.get rfl) rfl rfl (fun b => ?_))) | ((with_reducible refine Knd.extract ?_); (refine Exec.stab rfl (Stab.extract rfl rfl) rfl ?_)) | ((with_reducible refine Knd.build ?_); (refine Exec.stab rfl (Stab.build tysOk rfl rfl rfl rfl (by repeat (first | exact BuildP.nil | ((apply BuildP.one); (rfl); (rfl); (first | rfl | assumption); (repeat (first | exact SetL.z | apply SetL.s)))))) rfl ?_)))) | (with_reducible first | apply Tr.next | apply Tr.seq | apply Tr.region | apply Tr.nil)))
 generalize b = bz
 rename_i b10 b15
 (((apply Tr.draw); (kernel_rfl)); (refine tkQ 0 (hB := by exact fun _ h => h) (s := by exact sfQ) ?_); (refine tkQ 2 (s := by exact sfQ) ?_); (refine tkQ 5 (s := by exact Stab.move rfl) ?_); (refine tkQ 1 (s := by exact slQ) ?_); (refine tkQ 3 (s := by exact slQ) ?_); (refine TrA.eff 4 rfl (by kernel_rfl) (by exact .inl rfl) ?_))
 refine Exec.call0 rfl (ramS_fn M4 As' cs' k.sups (g1.mono RSpC.mono hm24) (by omega)) rfl ?_
 rintro _ M5 hm5 ⟨A1, c1, rfl, hI1⟩
 refine ⟨hm5, (by exact fun _ h => h), ?_⟩
 ((refine TrA.eff 6 rfl (by kernel_rfl) (by exact .inl rfl) ?_))
 refine Exec.call0 rfl (ramR_fn M5 A8 c8 all (hR1.mono RRqC.mono (hm2.trans (hm24.trans hm5))) (by omega)) rfl ?_
 rintro _ M6 hm6 ⟨A2, c2, rfl, hI2⟩
 refine ⟨hm6, (by exact fun _ h => h), ?_⟩
 have hm26 := hm24.trans (hm5.trans hm6)
 ((refine TrA.eff 7 rfl (by kernel_rfl) (by exact .inl rfl) ?_))
 refine Exec.call0 rfl (rflow_fn M6 Af' A1 A2 cf' c1 c2 (fitsT w k.known k.sups all) (amS k.sups) (amR all) (g3.mono RRowB.mono hm26) (hI1.mono RI.mono hm6) hI2 (.inl (by omega)) a ha) rfl ?_
 rintro _ M7 hm7 hfl
 have hm47 := hm5.trans (hm6.trans hm7)
 have hm27 := hm26.trans hm7
 have hm07 := hm02.trans hm27
 obtain ⟨hbad, -⟩ | ⟨-, hnf, B, kk, rfl, hI⟩ | ⟨-, hfe, A9, c9, rfl, hI⟩ := hfl
 ·rw [vld_iff.2 hvld] at hbad
  cases hbad
 rotate_left
 ·refine ⟨hm7, (by exact fun _ h => h), ?_⟩
  ((refine tkQ 8 (s := by exact Stab.move rfl) ?_); (refine tkQ 9 (s := by exact Stab.extract rfl rfl) ?_); (refine tkQ 10 (s := by exact Stab.extract rfl rfl) ?_); (refine tkQ 11 (s := by exact Stab.extract rfl rfl) ?_); (refine tkQ 12 (s := by exact Stab.extract rfl rfl) ?_); (refine tkQ 13 (s := by exact Stab.assign rfl) ?_); (refine tkQ 14 (s := by exact Stab.assign rfl) ?_); (refine tkQ 15 (s := by exact Stab.assign rfl) ?_); (refine tkQ 16 (s := by exact Stab.assign rfl) ?_); (refine TrA.done (by kernel_rfl) ?_))
  (refine rQ ?_)
  refine ftQ (r := box b7 76 _) ?_
  refine ftQ (r := box b6 44 _) ?_
  (((apply Tr.draw ((box b7 76 _ :: _))); (kernel_rfl)); (refine tkQ 0 (hB := by exact (Sub.mem (by repeat (first | exact Sub.refl | apply Sub.cons)))) (s := by exact swQ) ?_); (refine tkQ 1 (s := by exact swQ) ?_); (refine TrA.eff 2 rfl (by kernel_rfl) (by exact .inl rfl) ?_); (((refine Knd.store ?_); ((refine xWQ ?_)))); (refine ⟨(by first | exact Mem.le.refl _ | assumption), (by exact (Sub.mem (by repeat (first | exact Sub.refl | apply Sub.cons)))), ?_⟩); (refine TrA.effD 3 rfl (by kernel_rfl) (by kernel_rfl) (by exact .inl rfl) ?_); (((refine Knd.store ?_); ((refine xWQ ?_)))); (refine ⟨_, fun _ h => h, ?_⟩); (refine tkQ 4 (s := by exact Stab.assign rfl) ?_); (refine TrA.done (by kernel_rfl) ?_))
  (repeat (first | (with_reducible first | apply Tr.next | apply Tr.ret | apply Tr.then_ret)))
  (refine Tr.done (by first | exact .inl rfl | exact .inr rfl) rfl (by repeat (first | exact RVs.nil | (apply RVs.cons; (first | exact RV.tmp rfl | exact RV.cellW (by rfl) (tysOk.get (by rfl)) (by rfl) (by repeat (first | exact Has.here | apply Has.there)) (by first | rfl | assumption))))) (by first | exact Mem.le.refl _ | assumption) (by exact ⟨[_, _, _, _, _, _, _, _], rfl⟩) ⟨rfl, ?_⟩)
  subst hall
  exact .inl ⟨hask, hok, _, _, rfl, D, cD, hD.mono RRd.mono hm47, .inl ⟨hfe, ⟨As', cs', Ar', cr', Af', cf', Ad', cd', rfl, g1.mono RSpC.mono hm27, g2.mono RRqC.mono hm27, g3.mono RRowB.mono hm27, g4.mono RRd.mono hm27⟩, a, A9, c9, ha hvld hfe, by rw [allocOf_length], by rw [allocOf_length]; exact hI⟩⟩
 refine ⟨hm7, (by exact fun _ h => h), ?_⟩
 ((refine tkQ 8 (s := by exact Stab.move rfl) ?_); (refine tkQ 9 (s := by exact Stab.extract rfl rfl) ?_); (refine tkQ 10 (s := by exact Stab.extract rfl rfl) ?_); (refine tkQ 11 (s := by exact Stab.extract rfl rfl) ?_); (refine tkQ 12 (s := by exact Stab.extract rfl rfl) ?_); (refine tkQ 13 (s := by exact Stab.assign rfl) ?_); (refine tkQ 14 (s := by exact Stab.assign rfl) ?_); (refine tkQ 15 (s := by exact Stab.assign rfl) ?_); (refine tkQ 16 (s := by exact Stab.assign rfl) ?_); (refine TrA.done (by kernel_rfl) ?_))
 (refine rQ ?_)
 refine gvQ (r := box _ 44 _) ?_
 refine gvQ (r := box _ 46 _) ?_
 refine gvQ (r := box b5 46 _) ?_
 refine gvQ (r := box b3 38 _) ?_
 refine Tr.own_nil 3 1 ?_
 have hcu : cutB w k r = memF (cutFin (fitsT w k.known k.sups all) (amS k.sups) (amR all)) (amR all).length := by rw [cutB, hall]
 rw [← hcu] at hI ⊢
 have hcl : (cutB w k r).length ≤ 64 := by rw [hcu]; exact Nat.le_trans (memF_len _ _) (by omega)
 have hcm : ∀ x ∈ cutB w k r, ∃ n : Nat, n < all.length ∧ x = (n : Int) := fun x hx => by
  rw [hcu] at hx
  simp only [memF, List.mem_map, List.mem_filter, List.mem_range] at hx
  obtain ⟨n, ⟨hn, -⟩, rfl⟩ := hx
  exact ⟨n, by simpa [amR] using hn, rfl⟩
 refine Tr.loop (α := Nat × Option Addr × Nat) (fun y => ⟨99, [(20, .int .i64 (y.1 : Int)), (18, .slice B (cutB w k r).length kk), (9, .slice A8 all.length c8), (15, .pointer (some ⟨bz, 0, none⟩)), (7, .pointer (some ⟨b7, 0, none⟩)), (6, .pointer (some ⟨b6, 0, none⟩)), (4, .pointer (some ⟨b4, 0, none⟩))], [], M7,
   ownS 3 1 y.2.1 y.1 y.2.2 (intV ((confF w k r).take y.1)) :: box bz 76 [.bool false, .slice none 0 0, .slice y.2.1 y.1 y.2.2, .slice D (readsF w k.sups [r]).length cD] :: box b7 76 [.bool false, .slice none 0 0, .slice none 0 0, .slice none 0 0] :: box b6 44 [.int .i64 0, .slice none 0 0, .slice none 0 0, .slice none 0 0, .slice none 0 0] :: box b4 44 [.int .i64 k.known, .slice As k.sups.length cs, .slice Ar k.reqs.length cr, .slice Af k.fits.length cf, .slice Ad k.rds.length cd] :: ([] ++ F)⟩)
  (fun y => y.1 ≤ (cutB w k r).length ∧ y.2.2 ≤ 9223372036854775807) (fun y => (cutB w k r).length - y.1) (0, none, 0) ⟨Nat.zero_le _, by simp⟩ hsQ (fun y hy => ?_)
 obtain ⟨i, C2, cc⟩ := y
 obtain ⟨hi, hcc⟩ := hy
 simp only at hi hcc
 dsimp only
 by_cases hlt : i < (cutB w k r).length
 ·obtain ⟨x, hx⟩ := get_of_lt hlt
  obtain ⟨hA, hat⟩ := hI.at hx
  obtain ⟨n, hn, rfl⟩ := hcm x (List.mem_of_getElem? hx)
  obtain ⟨y, hy⟩ := get_of_lt hn
  obtain ⟨hA2, ch2, hat2, rfl⟩ := (hR1.mono RRqC.mono (hm2.trans hm27)).elem hy
  have hat3 : At M7 (((A8.getD default).add (n * 6)).add 0) [.int .i64 y.no, .int .i64 y.item, .int .i64 y.cust, .int .i64 y.due, .int .i64 y.shelf, .int .i64 y.amount] := hat2.drop 0
  have hcf : (confF w k r).take (i + 1) = (confF w k r).take i ++ [y.no] := by
   unfold confF
   have e2 : ((k.reqs ++ [r]).map (·.no)).getD ((n : Int)).toNat 0 = y.no := by
    rw [List.getD_eq_getElem?_getD, Int.toNat_natCast, List.getElem?_map, hall, hy]; rfl
   rw [← List.map_take, ← List.map_take, nums_take _ hx, e2]
  (refine rQ ?_)
  (((apply Tr.draw ((box bz 76 _ :: _))); (kernel_rfl)); (refine tkQ 0 (hB := by exact (Sub.mem (by repeat (first | exact Sub.refl | apply Sub.cons)))) (s := by exact sfQ) ?_); (refine tkQ 2 (s := by exact Stab.move rfl) ?_); (refine tkQ 3 (s := by exact Stab.move rfl) ?_); (refine tkQ 4 (s := by exact Stab.move rfl) ?_); (refine tkQ 1 (s := by exact slQ) ?_); (refine tkQ 5 (s := by exact sxQ) ?_); (refine tkQ 6 (s := by exact sMQ) ?_); (refine tkQ 7 (s := by exact sxQ) ?_); (refine tkQ 8 (s := by exact Stab.fieldD rfl (tysOk.get rfl) rfl rfl (tysOk.get rfl) rfl) ?_); (refine tkQ 9 (s := by exact sMQ) ?_); (refine TrA.eff 10 rfl (by kernel_rfl) (by exact .inl rfl) ?_); (((refine Knd.buildSlice ?_); ((refine Exec.buildSlice (tysOk.get rfl) rfl (tysOk.get rfl) rfl rfl rfl rfl rfl (by repeat (first | exact BuildP.nil | ((apply BuildP.one); (rfl); (rfl); (first | rfl | assumption); (repeat (first | exact SetL.z | apply SetL.s))))) rfl (fun b => ?_))))); (refine ⟨(by first | exact Mem.le.refl _ | assumption), (by exact (Sub.mem (by repeat (first | exact Sub.refl | apply Sub.cons)))), ?_⟩); (refine TrA.eff 11 rfl (by kernel_rfl) (by exact .inl rfl) ?_))
  refine Exec.append (news := [.int .i64 y.no]) rfl rfl (tysOk.get rfl) rfl (tysOk.get rfl) rfl rfl rfl rfl (by repeat (first | exact Del.here | apply Del.there)) (Src.box (by repeat (first | exact Has.here | apply Has.there))) rfl (by intro u hu; simp at hu; subst hu; rfl) (by omega) (by omega) rfl (fun C3 cc2 hcc2 => ?_)
  refine ⟨(by first | exact Mem.le.refl _ | assumption), (by exact (Sub.mem (by repeat (first | exact Sub.refl | apply Sub.cons)))), ?_⟩
  ((refine tkQ 12 (s := by exact sfQ) ?_); (refine TrA.effD 13 rfl (by kernel_rfl) (by kernel_rfl) (by exact .inl rfl) ?_); (((refine Knd.store ?_); ((refine xSQ ?_)))); (refine ⟨_, fun _ h => h, ?_⟩); (refine TrA.done (by kernel_rfl) ?_))
  refine gvQ (r := box _ 3 _) ?_
  rw [show intV ((confF w k r).take i) ++ [Value.int .i64 y.no] = intV ((confF w k r).take (i + 1)) by rw [hcf, intV_append]; rfl]
  (refine rQ ?_)
  exact Tr.again (i + 1, C3, cc2) ⟨by simp only; omega, hcc2⟩ (by simp only; omega) hsQ
 have ei : i = (cutB w k r).length := by omega
 subst ei
 have hcfl : (confF w k r).length = (cutB w k r).length := by simp [confF]
 rw [← hcfl, List.take_length]
 refine pbQ (r := ownS 3 1 C2 _ _ _) (fun M8 hm8 hok8 => ?_)
 have hC : Ints M8 (.slice C2 (confF w k r).length cc) (confF w k r) := Ints.ofOwn hok8 rfl hcc
 have hm08 := hm07.trans hm8
 have hm48 := hm47.trans hm8
 (refine rQ ?_)
 refine ftQ (r := box b7 76 _) ?_
 refine ftQ (r := box b6 44 _) ?_
 (((apply Tr.draw ((box b7 76 _ :: _))); (kernel_rfl)); (refine tkQ 0 (hB := by exact (Sub.mem (by repeat (first | exact Sub.refl | apply Sub.cons)))) (s := by exact swQ) ?_); (refine tkQ 1 (s := by exact swQ) ?_); (refine TrA.eff 2 rfl (by kernel_rfl) (by exact .inl rfl) ?_); (((refine Knd.store ?_); ((refine xWQ ?_)))); (refine ⟨(by first | exact Mem.le.refl _ | assumption), (by exact (Sub.mem (by repeat (first | exact Sub.refl | apply Sub.cons)))), ?_⟩); (refine TrA.effD 3 rfl (by kernel_rfl) (by kernel_rfl) (by exact .inl rfl) ?_); (((refine Knd.store ?_); ((refine xWQ ?_)))); (refine ⟨_, fun _ h => h, ?_⟩); (refine tkQ 4 (s := by exact Stab.assign rfl) ?_); (refine TrA.done (by kernel_rfl) ?_))
 (repeat (first | (with_reducible first | apply Tr.next | apply Tr.ret)))
 (refine Tr.done (by first | exact .inl rfl | exact .inr rfl) rfl (by repeat (first | exact RVs.nil | (apply RVs.cons; (first | exact RV.tmp rfl | exact RV.cellW (by rfl) (tysOk.get (by rfl)) (by rfl) (by repeat (first | exact Has.here | apply Has.there)) (by first | rfl | assumption))))) (by first | exact Mem.le.refl _ | assumption) (by exact ⟨[_, _, _, _], rfl⟩) ⟨rfl, ?_⟩)
 subst hall
 exact .inl ⟨hask, hok, _, _, rfl, D, cD, hD.mono RRd.mono hm48, .inr ⟨hnf, ⟨As, cs, Ar, cr, Af, cf, Ad, cd, rfl, h1.mono RSpC.mono hm08, h2.mono RRqC.mono hm08, h3.mono RRowB.mono hm08, h4.mono RRd.mono hm08⟩, C2, cc, rfl, hC⟩⟩
set_option maxHeartbeats 8000000 in
theorem raskA_fn (M : Mem) (ws : List Value) (w : Wd) (hw : RWd M ws w) (v : Value) (k : Bp) (hk : RBp M v k) (hfew : k.sups.length ≤ 5 ∧ k.reqs.length ≤ 5) (r : Rq) :
  Fn0 Tryz.prog 20 [.agg ws.toArray, v, .agg #[.int .i64 r.no, .int .i64 r.item, .int .i64 r.cust, .int .i64 r.due, .int .i64 r.shelf, .int .i64 r.amount]] M (fun v M' => AskV w k r v M') := by
 have h11 := hw.len
 have hk0 := hk
 obtain ⟨As, cs, Ar, cr, Af, cf, Ad, cd, rfl, h1, h2, h3, h4⟩ := hk
 refine Fn.intro Tryz.func20 rfl rfl Tryz.ntmps20 rfl fun E F => ?_
 (repeat (first | ((with_reducible refine Tr.step rfl ?_); (first | (refine xaQ ?_) | ((with_reducible refine Knd.load ?_); (first | (refine xwQ ?_) | (refine Exec.stab rfl (Stab.loadW rfl (tysOk.get rfl) rfl (by repeat (first | exact Has.here | apply Has.there)) (by assumption)) rfl ?_))) | ((with_reducible refine Knd.box ?_); (refine Exec.box rfl rfl (fun b => ?_))) | ((with_reducible refine Knd.alloc ?_); (refine Exec.alloc (tysOk.get rfl) rfl rfl (fun b => ?_))))) | (with_reducible first | apply Tr.next | apply Tr.seq | apply Tr.region | apply Tr.nil)))
 ((refine Tr.step rfl ?_)); refine Exec.call0 rfl (rcheck31_fn M ws w hw _ k hk0 ⟨by omega, by omega⟩) rfl ?_
 rintro _ M1 hm1 rfl
 by_cases hok : okB w k
 rotate_left
 ·have e1 : chkE w k = 310 := by rw [chkE, if_neg hok]
  have hask : askE w k r = 310 := by rw [askE, if_pos hok]
  rw [e1]
  (repeat (first | ((with_reducible refine Tr.step rfl ?_); (first | (refine xmQ ?_) | (refine xaQ ?_) | (refine xiQ ?_) | (refine xWQ ?_) | ((with_reducible refine Knd.build ?_); (refine Exec.stab rfl (Stab.build tysOk rfl rfl rfl rfl (by repeat (exact BuildP.nil))) rfl ?_)))) | (with_reducible first | apply Tr.next | apply Tr.seq | apply Tr.region | apply Tr.nil | apply Tr.ret | apply Tr.then_ret) | (refine Tr.cond_t rfl (by first | (with_reducible assumption) | omega) ?_)))
  (refine Tr.done (by first | exact .inl rfl | exact .inr rfl) rfl (by repeat (first | exact RVs.nil | (apply RVs.cons; (first | exact RV.tmp rfl | exact RV.cellW (by rfl) (tysOk.get (by rfl)) (by rfl) (by repeat (first | exact Has.here | apply Has.there)) (by first | rfl | assumption))))) (by first | exact Mem.le.refl _ | assumption) (by exact ⟨[_, _, _, _, _], rfl⟩) ⟨rfl, ?_⟩)
  exact .inr ⟨by rw [hask]; decide, by rw [hask]; rfl⟩
 have e1 : chkE w k = 0 := by rw [chkE, if_pos hok]
 rw [e1]
 (repeat (first | ((with_reducible refine Tr.step rfl ?_); (first | (refine xmQ ?_) | (refine xaQ ?_) | ((with_reducible refine Knd.load ?_); (first | (refine xwQ ?_) | (refine Exec.stab rfl (Stab.loadW rfl (tysOk.get rfl) rfl (by repeat (first | exact Has.here | apply Has.there)) (by assumption)) rfl ?_))) | (refine xiQ ?_))) | (with_reducible first | apply Tr.next | apply Tr.seq | apply Tr.region | apply Tr.nil | apply Tr.skip) | (refine Tr.cond_f rfl (by (with_reducible exact (not_not_intro rfl))) ?_)))
 ((refine Tr.step rfl ?_)); refine Exec.call0 rfl (rask_fn M1 ws w (hw.mono hm1) _ k (hk0.mono hm1) hok hfew r) rfl ?_
 rintro _ M2 hm2 (⟨h0, hv, x, a, rfl, hR⟩ | ⟨hne, rfl⟩)
 ·obtain ⟨y1, y2, y3, y4, y5, z1, z2, z3, z4, rfl, rfl, ⟨o1, o2, o3, o4, o5⟩, o6, o7, o8, o9⟩ := hR.lit
  have hm02 := hm1.trans hm2
  (refine rQ ?_)
  (refine Tr.done (by first | exact .inl rfl | exact .inr rfl) rfl (by repeat (first | exact RVs.nil | (apply RVs.cons; (first | exact RV.tmp rfl | exact RV.cellW (by rfl) (tysOk.get (by rfl)) (by rfl) (by repeat (first | exact Has.here | apply Has.there)) (by first | rfl | assumption))))) (by first | exact Mem.le.refl _ | assumption) (by exact ⟨[_, _, _, _, _], rfl⟩) ⟨rfl, ?_⟩)
  exact .inl ⟨h0, hv, _, _, rfl, hR⟩
 ·have hm02 := hm1.trans hm2
  (refine rQ ?_)
  (refine Tr.done (by first | exact .inl rfl | exact .inr rfl) rfl (by repeat (first | exact RVs.nil | (apply RVs.cons; (first | exact RV.tmp rfl | exact RV.cellW (by rfl) (tysOk.get (by rfl)) (by rfl) (by repeat (first | exact Has.here | apply Has.there)) (by first | rfl | assumption))))) (by first | exact Mem.le.refl _ | assumption) (by exact ⟨[_, _, _, _, _], rfl⟩) ⟨rfl, ?_⟩)
  exact .inr ⟨hne, rfl⟩
end Go.Proofs.YtlifjajcmnkhfaaGreat

/-
 The reference's refusals: a key sought, worlds without keys, the requests and one more, amounts.
 Conditions: none.
-/
namespace Go.Proofs.YtlifjajcmnkhfaaGreat
open Go Bf
attribute [local irreducible] Tr Exec Stab HasTy Go.Addr.add IntKind.wrap
set_option maxRecDepth 20000 in
theorem rhasKey_fn (M : Mem) (A : Option Addr) (c : Nat) (l : List Ky) (x : Ky) (h : SlOf 3 RKy M (.slice A l.length c) l) :
  Fn0 Tryz.prog 39 [.slice A l.length c, .agg #[.int .i64 x.1, .int .i64 x.2.1, .int .i64 x.2.2]] M (fun r M' => r = .bool (decide (x ∈ l)) ∧ M = M') := by
 have hll := h.len_le
 refine Fn.intro Tryz.func39 rfl rfl Tryz.ntmps39 rfl fun E F => ?_
 (repeat (first | ((with_reducible refine Tr.step rfl ?_); (first | (refine xaQ ?_) | ((with_reducible refine Knd.box ?_); (refine Exec.box rfl rfl (fun b => ?_))))) | (with_reducible first | apply Tr.next | apply Tr.seq | apply Tr.region | apply Tr.nil | apply Tr.block)))
 generalize b = b3
 refine Tr.loop (α := Nat) (fun i => ⟨18, [(5, .int .i64 (i : Int)), (0, .slice A l.length c), (3, .pointer (some ⟨b3, 0, none⟩)), (4, .bool false)], [], M, box b3 64 [.int .i64 x.1, .int .i64 x.2.1, .int .i64 x.2.2] :: ([] ++ F)⟩) (fun i => i ≤ l.length ∧ x ∉ l.take i) (fun i => l.length - i) 0 ⟨Nat.zero_le _, by simp⟩ hsQ (fun i hi => ?_)
 obtain ⟨hi, hno⟩ := hi
 by_cases hlt : i < l.length
 ·obtain ⟨y, hy⟩ := get_of_lt hlt
  obtain ⟨hA, ch, hat, rfl⟩ := h.elem hy
  simp only [kyC] at hat
  have hxy : [y.1, y.2.1, y.2.2] = [x.1, x.2.1, x.2.2] → y = x := by
   intro h
   obtain ⟨a1, a2, a3⟩ := x; obtain ⟨c1, c2, c3⟩ := y
   simp_all
  by_cases hk : [y.1, y.2.1, y.2.2] = [x.1, x.2.1, x.2.2]
  ·(refine rQ ?_)
   (((apply Tr.draw); (kernel_rfl)); (refine tkQ 0 (hB := by exact fun _ h => h) (s := by exact Stab.move rfl) ?_); (refine tkQ 1 (s := by exact Stab.move rfl) ?_); (refine tkQ 4 (s := by exact swQ) ?_); (refine tkQ 2 (s := by exact sxQ) ?_); (refine tkQ 3 (s := by exact Stab.loadMA rfl (tysOk.get rfl) rfl (by assumption) (by first | rfl | assumption)) ?_); (refine tkQ 5 (s := by exact Stab.steqL rfl rfl (by repeat (first | exact IntsL.nil | apply IntsL.cons)) (by repeat (first | exact IntsL.nil | apply IntsL.cons)) (tysOk.get rfl) rfl (by kernel_rfl) (by kernel_rfl) rfl rfl) ?_); (refine TrA.done (by kernel_rfl) ?_))
   (refine rQ ?_)
   (refine dnQ (hL := by exact ⟨[_], rfl⟩) ⟨rfl, ?_⟩)
   exact ⟨by rw [decide_eq_true (by rw [← hxy hk]; exact List.mem_of_getElem? hy)]; rfl, rfl⟩
  ·(refine rQ ?_)
   (((apply Tr.draw); (kernel_rfl)); (refine tkQ 0 (hB := by exact fun _ h => h) (s := by exact Stab.move rfl) ?_); (refine tkQ 1 (s := by exact Stab.move rfl) ?_); (refine tkQ 4 (s := by exact swQ) ?_); (refine tkQ 2 (s := by exact sxQ) ?_); (refine tkQ 3 (s := by exact Stab.loadMA rfl (tysOk.get rfl) rfl (by assumption) (by first | rfl | assumption)) ?_); (refine tkQ 5 (s := by exact Stab.steqL rfl rfl (by repeat (first | exact IntsL.nil | apply IntsL.cons)) (by repeat (first | exact IntsL.nil | apply IntsL.cons)) (tysOk.get rfl) rfl (by kernel_rfl) (by kernel_rfl) rfl rfl) ?_); (refine TrA.done (by kernel_rfl) ?_))
   (refine rQ ?_)
   refine Tr.again (i + 1) ⟨by omega, ?_⟩ (by omega) hsQ
   rw [List.take_add_one, hy, Option.toList_some, List.mem_append, List.mem_singleton, not_or]
   exact ⟨hno, fun e => hk (by rw [e])⟩
 ·have e : i = l.length := by omega
  subst e
  rw [List.take_length] at hno
  (refine rQ ?_)
  (refine dnQ (hL := by exact ⟨[_], rfl⟩) ⟨rfl, ?_⟩)
  exact ⟨by rw [decide_eq_false hno]; rfl, rfl⟩
theorem hasKy2_lend (M : Mem) (A : Option Addr) (c : Nat) (hc : c ≤ 9223372036854775807) (l : List Ky) (x : Ky) :
  Bf.Fn Tryz.prog 39 [.slice A l.length c, .agg #[.int .i64 x.1, .int .i64 x.2.1, .int .i64 x.2.2]] M [ownS 64 3 A l.length c (l.flatMap kyC)] (fun v M' A' => A' = [ownS 64 3 A l.length c (l.flatMap kyC)] ∧ M = M' ∧ v = .bool (decide (x ∈ l))) :=
 Fn.lend (rs := [ownS 64 3 A l.length c (l.flatMap kyC)]) (R := fun v => v = .bool (decide (x ∈ l))) (clone_ok _ _ _ _ _ _ (rhasKey_fn M none 0 [] x (SlOf.nil _ _ _))) (fun M' _ hok =>
  rhasKey_fn M' A c l x (SlOf.ofOwn (hok (ownS 64 3 A l.length c (l.flatMap kyC)) List.mem_cons_self) rfl hc (kyC_elems _ _)))
set_option maxHeartbeats 16000000 in
set_option maxRecDepth 20000 in
theorem rwithout_fn (M : Mem) (ws : List Value) (w : Wd) (hw : RWd M ws w) (A : Option Addr) (c : Nat) (ks : List Ky) (hk : SlOf 3 RKy M (.slice A ks.length c) ks) (hfl : w.facts.length ≤ 1000000) :
  Fn0 Tryz.prog 14 [.agg ws.toArray, .slice A ks.length c] M (fun v M' => ∃ ws', v = .agg ws'.toArray ∧ RWd M' ws' (withoutF w ks)) := by
 obtain ⟨u0, u1, u2, u3, u4, u5, u6, u8, u9, A7, c7, A10, c10, rfl, ⟨o0, o1, o2, o3, o4, o5, o6, o8, o9⟩, hsw, hfa⟩ := hw.lit
 have hkl := hk.len_le
 refine Fn.intro Tryz.func14 rfl rfl Tryz.ntmps14 rfl fun E F => ?_
 (repeat (first | ((with_reducible refine Tr.step rfl ?_); (first | (refine xaQ ?_) | ((with_reducible refine Knd.load ?_); (refine Exec.stab rfl (Stab.loadP rfl (tysOk.get rfl) rfl (by repeat (first | exact Has.here | apply Has.there)) (by repeat (first | exact TakeL.z | apply TakeL.s))) rfl ?_)) | (refine xfQ ?_) | (refine xWQ ?_) | ((with_reducible refine Knd.box ?_); (refine Exec.box rfl rfl (fun b => ?_))) | ((with_reducible refine Knd.alloc ?_); (refine Exec.alloc (tysOk.get rfl) rfl rfl (fun b => ?_))) | ((with_reducible refine Knd.build ?_); (refine Exec.stab rfl (Stab.build tysOk rfl rfl rfl rfl (by repeat (first | exact BuildP.nil | ((apply BuildP.many); (rfl); (rfl); (rfl); (rfl); (repeat (first | exact PutL.nil | ((apply PutL.cons); (repeat (first | exact SetL.z | apply SetL.s))))))))) rfl ?_)))) | (with_reducible first | apply Tr.next | apply Tr.seq | apply Tr.region | apply Tr.nil | apply Tr.block)))
 rename_i b2 b4
 generalize b = b5
 refine Tr.own_nil 71 8 ?_
 refine Tr.loop (α := Nat × Option Addr × Nat) (fun y => ⟨37, [(6, .int .i64 (y.1 : Int)), (1, .slice A ks.length c), (2, .pointer (some ⟨b2, 0, none⟩)), (4, .pointer (some ⟨b4, 0, none⟩)), (5, .pointer (some ⟨b5, 0, none⟩))], [], M, ownS 71 8 y.2.1 (keptF ks (w.facts.take y.1)).length y.2.2 ((keptF ks (w.facts.take y.1)).flatMap fcC) :: box b5 38 [u0, u1, u2, u3, u4, u5, u6, .slice A7 w.swaps.length c7, u8, u9, .slice y.2.1 (keptF ks (w.facts.take y.1)).length y.2.2] :: box b4 38 [.slice none 0 0, .slice none 0 0, .slice none 0 0, .slice none 0 0, .slice none 0 0, .slice none 0 0, .slice none 0 0, .slice none 0 0, .slice none 0 0, .slice none 0 0, .slice none 0 0] :: box b2 38 [u0, u1, u2, u3, u4, u5, u6, .slice A7 w.swaps.length c7, u8, u9, .slice A10 w.facts.length c10] :: ([] ++ F)⟩)
  (fun y => y.1 ≤ w.facts.length ∧ y.2.2 ≤ 9223372036854775807) (fun y => w.facts.length - y.1) (0, none, 0) ⟨Nat.zero_le _, by simp⟩ hsQ (fun y hy => ?_)
 obtain ⟨i, C, cc⟩ := y
 obtain ⟨hi, hcc⟩ := hy
 simp only at hi hcc
 dsimp only
 have hkpl : (keptF ks (w.facts.take i)).length ≤ i := Nat.le_trans (List.length_filter_le _ _) (by simp; omega)
 by_cases hlt : i < w.facts.length
 ·obtain ⟨f, hf⟩ := get_of_lt hlt
  obtain ⟨hA, ch, hat, rfl⟩ := hfa.elem hf
  simp only [fcC] at hat
  have hat0 : At M (((A10.getD default).add (i * 8)).add 0) [.int .i64 f.key.1, .int .i64 f.key.2.1, .int .i64 f.key.2.2] := (hat.drop 0).take 3
  have htk : keptF ks (w.facts.take (i + 1)) = keptF ks (w.facts.take i) ++ if f.key ∈ ks then [] else [f] := by
   unfold keptF
   rw [List.take_add_one, hf, Option.toList_some, List.filter_append]
   by_cases h : f.key ∈ ks <;> simp [h]
  (refine rQ ?_)
  ((refine Tr.step rfl ?_)); refine Exec.call0 rfl (rhasKey_fn M A c ks f.key hk) rfl ?_
  rintro _ _ _ ⟨rfl, rfl⟩
  by_cases hin : f.key ∈ ks
  ·rw [if_pos hin] at htk
   rw [List.append_nil] at htk
   rw [decide_eq_true hin, ← htk]
   (refine rQ ?_)
   exact Tr.again (i + 1, C, cc) ⟨by simp only; omega, hcc⟩ (by simp only; omega) hsQ
  ·rw [if_neg hin] at htk
   rw [decide_eq_false hin]
   generalize hK0 : keptF ks (w.facts.take i) = K0 at htk hkpl ⊢
   (refine rQ ?_)
   (((apply Tr.draw ((box b5 38 _ :: _))); (kernel_rfl)); (refine tkQ 0 (hB := by exact (Sub.mem (by repeat (first | exact Sub.refl | apply Sub.cons)))) (s := by exact sfQ) ?_); (refine tkQ 2 (s := by exact sfQ) ?_); (refine tkQ 4 (s := by exact Stab.move rfl) ?_); (refine tkQ 1 (s := by exact slQ) ?_); (refine tkQ 3 (s := by exact slQ) ?_); (refine tkQ 5 (s := by exact sxQ) ?_); (refine tkQ 6 (s := by exact Stab.loadMA rfl (tysOk.get rfl) rfl (by assumption) (by first | rfl | assumption)) ?_); (refine TrA.eff 7 rfl (by kernel_rfl) (by exact .inl rfl) ?_); (((refine Knd.buildSlice ?_); ((refine Exec.buildSlice (tysOk.get rfl) rfl (tysOk.get rfl) rfl rfl rfl rfl rfl (by repeat (first | exact BuildP.nil | ((apply BuildP.many); (rfl); (rfl); (rfl); (rfl); (repeat (first | exact PutL.nil | ((apply PutL.cons); (repeat (first | exact SetL.z | apply SetL.s)))))))) rfl (fun b => ?_))))); (refine ⟨(by first | exact Mem.le.refl _ | assumption), (by exact (Sub.mem (by repeat (first | exact Sub.refl | apply Sub.cons)))), ?_⟩); (refine TrA.eff 8 rfl (by kernel_rfl) (by exact .inl rfl) ?_))
   refine Exec.append (news := fcC f) rfl rfl (tysOk.get rfl) rfl (tysOk.get rfl) rfl rfl rfl rfl (by repeat (first | exact Del.here | apply Del.there)) (Src.box (by repeat (first | exact Has.here | apply Has.there))) rfl (fcC_one _) (by omega) (by omega) rfl (fun C2 cc2 hcc2 => ?_)
   refine ⟨(by first | exact Mem.le.refl _ | assumption), (by exact (Sub.mem (by repeat (first | exact Sub.refl | apply Sub.cons)))), ?_⟩
   ((refine tkQ 9 (s := by exact sfQ) ?_); (refine TrA.effD 10 rfl (by kernel_rfl) (by kernel_rfl) (by exact .inl rfl) ?_); (((refine Knd.store ?_); ((refine xSQ ?_)))); (refine ⟨_, fun _ h => h, ?_⟩); (refine TrA.done (by kernel_rfl) ?_))
   refine gvQ (r := box _ 71 _) ?_
   rw [show K0.flatMap fcC ++ fcC f = (keptF ks (w.facts.take (i + 1))).flatMap fcC by rw [htk, List.flatMap_append]; simp, show K0.length + 1 = (keptF ks (w.facts.take (i + 1))).length by rw [htk]; simp]
   (refine rQ ?_)
   exact Tr.again (i + 1, C2, cc2) ⟨by simp only; omega, hcc2⟩ (by simp only; omega) hsQ
 have ei : i = w.facts.length := by omega
 subst ei
 rw [List.take_length]
 refine pbQ (r := ownS 71 8 C _ _ _) (fun M6 hm6 hok6 => ?_)
 (refine rQ ?_)
 (refine Tr.done (by first | exact .inl rfl | exact .inr rfl) rfl (by repeat (first | exact RVs.nil | (apply RVs.cons; (exact RV.cellW (by rfl) (tysOk.get (by rfl)) (by rfl) (by repeat (first | exact Has.here | apply Has.there)) (by first | rfl | assumption))))) (by first | exact Mem.le.refl _ | assumption) (by exact ⟨[_, _, _], rfl⟩) ⟨rfl, ?_⟩)
 refine ⟨[u0, u1, u2, u3, u4, u5, u6, .slice A7 w.swaps.length c7, u8, u9, .slice C (keptF ks w.facts).length cc], rfl, rfl, ?_, ⟨A7, c7, rfl, hsw.mono RSw.mono hm6⟩, C, cc, rfl, SlOf.ofOwn hok6 rfl hcc (fcC_elems _ _)⟩
 repeat (first | exact AllOne.nil | refine AllOne.cons (by first | rfl | assumption) ?_)
set_option maxHeartbeats 8000000 in
set_option maxRecDepth 20000 in
theorem rwith32_fn (M : Mem) (k : Bp) (r : Rq) (v : Value) (hk : RBp M v k) (hl : k.reqs.length ≤ 1000000) :
  Fn0 Tryz.prog 26 [v, .agg #[.int .i64 r.no, .int .i64 r.item, .int .i64 r.cust, .int .i64 r.due, .int .i64 r.shelf, .int .i64 r.amount]] M (fun v M' => ∃ A c, v = .slice A (k.reqs ++ [r]).length c ∧ SlOf 6 RRqC M' (.slice A (k.reqs ++ [r]).length c) (k.reqs ++ [r])) := by
 obtain ⟨As, cs, Ar, cr, Af, cf, Ad, cd, rfl, h1, h2, h3, h4⟩ := hk
 have hrow := SlOf.row (R := RRqC) h2 (fun _ _ h => h) rqC_len
 refine Fn.intro Tryz.func26 rfl rfl Tryz.ntmps26 rfl fun E F => ?_
 (repeat (first | ((with_reducible refine Tr.step rfl ?_); (first | (refine xaQ ?_) | ((with_reducible refine Knd.box ?_); (refine Exec.box rfl rfl (fun b => ?_))))) | (with_reducible first | apply Tr.next | apply Tr.seq | apply Tr.region | apply Tr.nil)))
 rename_i b2
 generalize b = b3
 (((apply Tr.draw); (kernel_rfl)); (refine tkQ 1 (hB := by exact fun _ h => h) (s := by exact sfQ) ?_); (refine tkQ 4 (s := by exact swQ) ?_); (refine tkQ 2 (s := by exact slQ) ?_))
 ((refine TrM.start2 _ (PA.build 0 [] rfl (by exact .inl rfl) (tysOk.get rfl) rfl (tysOk.get rfl) rfl rfl rfl rfl rfl (by repeat (exact BuildP.nil)) rfl) (PA.build1 5 [(9, .agg #[.int .i64 r.no, .int .i64 r.item, .int .i64 r.cust, .int .i64 r.due, .int .i64 r.shelf, .int .i64 r.amount])] rfl (by exact .inl rfl) rfl (tysOk.get rfl) rfl (tysOk.get rfl) rfl rfl rfl rfl rfl (by first | rfl | assumption) rfl) (by kernel_rfl) (by kernel_rfl) (by kernel_rfl) ?_); (refine TrM.settle (by kernel_rfl) (by repeat (first | exact PendOk.nil | refine PendOk.cons rfl (by repeat (first | exact SubFr.nil | refine SubFr.cons rfl ?_)) ?_)) (by exact fun _ h => h) (fun b => ?_)); dsimp only)
 refine TrM.box_own 6 0 (by repeat (first | exact Upd.here | apply Upd.there)) rfl (by intro u hu; cases hu) (by simp [maxLen]) ?_
 ((refine TrM.eff 3 rfl (by kernel_rfl) (by exact .inl rfl) (by repeat (first | exact PendOk.nil | refine PendOk.cons rfl (by repeat (first | exact SubFr.nil | refine SubFr.cons rfl ?_)) ?_)) (by exact (Sub.mem (by repeat (first | exact Sub.refl | apply Sub.cons)))) (by repeat (first | apply AppF.cons | exact AppF.nil)) (by repeat (first | apply AppF.cons | exact AppF.app)) (fun Y X => ?_)))
 refine Exec.append (news := k.reqs.flatMap rqC) rfl rfl (tysOk.get rfl) rfl (tysOk.get rfl) rfl rfl rfl rfl (by repeat (first | exact Del.here | apply Del.there)) (Src.row hrow) (by rw [flatMap_len rqC_len]) (flatMap_one rqC_one _) (by omega) (by omega) rfl (fun A6 c6 hc6 => ?_)
 (refine ⟨_, _, (by repeat (first | apply App.cons | exact App.nil | exact App.app)), (by repeat (first | apply App.cons | exact App.nil | exact App.app)), rfl, (by first | exact Mem.le.refl _ | assumption), (by exact (Sub.mem (by repeat (first | exact Sub.refl | apply Sub.cons)))), ?_⟩)
 rw [zeros0_app, Nat.zero_add]
 ((refine TrM.settle (by kernel_rfl) (by repeat (first | exact PendOk.nil | refine PendOk.cons rfl (by repeat (first | exact SubFr.nil | refine SubFr.cons rfl ?_)) ?_)) (by exact (Sub.mem (by repeat (first | exact Sub.refl | apply Sub.cons)))) (fun b => ?_)); dsimp only)
 ((refine TrM.eff 6 rfl (by kernel_rfl) (by exact .inl rfl) (by repeat (exact PendOk.nil)) (by exact (Sub.mem (by repeat (first | exact Sub.refl | apply Sub.cons)))) (by repeat (first | apply AppF.cons | exact AppF.nil)) (by repeat (first | apply AppF.cons | exact AppF.app)) (fun Y X => ?_)))
 refine Exec.append (news := rqC r) rfl rfl (tysOk.get rfl) rfl (tysOk.get rfl) rfl rfl rfl rfl (by repeat (first | exact Del.here | apply Del.there)) (Src.box (by repeat (first | exact Has.here | apply Has.there))) rfl (rqC_one _) (by omega) (by omega) rfl (fun A8 c8 hc8 => ?_)
 (refine ⟨_, _, (by repeat (first | apply App.cons | exact App.nil | exact App.app)), (by repeat (first | apply App.cons | exact App.nil | exact App.app)), rfl, (by first | exact Mem.le.refl _ | assumption), (by exact (Sub.mem (by repeat (first | exact Sub.refl | apply Sub.cons)))), ?_⟩)
 rw [show k.reqs.flatMap rqC ++ rqC r = (k.reqs ++ [r]).flatMap rqC by rw [List.flatMap_append]; simp, show k.reqs.length + 1 = (k.reqs ++ [r]).length by simp]
 refine TrM.publish (x := ownS 46 6 _ _ _ _) (by repeat (first | exact Del.here | apply Del.there)) (fun M1 hm1 hok1 => ?_)
 have hR1 : SlOf 6 RRqC M1 (.slice A8 (k.reqs ++ [r]).length c8) (k.reqs ++ [r]) := SlOf.ofOwn hok1 rfl hc8 (rqC_elems _ _)
 ((refine TrM.fin ?_))
 ((refine tkQ 7 (s := by exact Stab.assign rfl) ?_); (refine TrA.done (by kernel_rfl) ?_))
 (repeat (first | (with_reducible first | apply Tr.next | apply Tr.ret)))
 (refine dnQ (hL := by exact ⟨[_, _, _], rfl⟩) ⟨rfl, ?_⟩)
 exact ⟨_, _, rfl, hR1⟩
set_option maxHeartbeats 8000000 in
theorem ramS_fn32 (M : Mem) (A : Option Addr) (c : Nat) (l : List Sp) (h : SlOf 6 RSpC M (.slice A l.length c) l) (hl : l.length ≤ 1000000) :
  Fn0 Tryz.prog 28 [.slice A l.length c] M (fun v M' => ∃ A1 c1, v = .slice A1 (amS l).length c1 ∧ Ints M' (.slice A1 (amS l).length c1) (amS l)) := by
 refine Fn.intro Tryz.func28 rfl rfl Tryz.ntmps28 rfl fun E F => ?_
 (refine rQ ?_)
 refine Tr.own_nil 3 1 ?_
 refine Tr.loop (α := Nat × Option Addr × Nat) (fun y => ⟨20, [(4, .int .i64 (y.1 : Int)), (3, .slice y.2.1 y.1 y.2.2), (0, .slice A l.length c)], [], M, ownS 3 1 y.2.1 y.1 y.2.2 (intV ((l.take y.1).map (·.amount))) :: ([] ++ F)⟩)
  (fun y => y.1 ≤ l.length ∧ y.2.2 ≤ 9223372036854775807) (fun y => l.length - y.1) (0, none, 0) ⟨Nat.zero_le _, by simp⟩ hsQ (fun y hy => ?_)
 obtain ⟨i, A1, c1⟩ := y
 obtain ⟨hi, hc1⟩ := hy
 simp only at hi hc1
 dsimp only
 by_cases hlt : i < l.length
 ·obtain ⟨y, hy⟩ := get_of_lt hlt
  obtain ⟨hA, ch, hat, rfl⟩ := h.elem hy
  have hat2 : At M (((A.getD default).add (i * 6)).add 5) [.int .i64 y.amount] := hat.drop 5
  have e1 := nums_take (·.amount) hy
  (repeat (first | ((with_reducible refine Tr.step rfl ?_); (first | (refine xmQ ?_) | (refine xMQ ?_) | ((with_reducible refine Knd.fieldAddr ?_); (refine Exec.stab rfl (Stab.fieldD rfl (tysOk.get rfl) rfl rfl (tysOk.get rfl) rfl) rfl ?_)) | (refine xnQ ?_) | (refine xiQ ?_) | (refine xxQ ?_) | ((with_reducible refine Knd.buildSlice ?_); (refine Exec.buildSlice (tysOk.get rfl) rfl (tysOk.get rfl) rfl rfl rfl rfl rfl (by repeat (first | exact BuildP.nil | ((apply BuildP.one); (rfl); (rfl); (first | rfl | assumption); (repeat (first | exact SetL.z | apply SetL.s))))) rfl (fun b => ?_))))) | (with_reducible first | apply Tr.next | apply Tr.seq | apply Tr.region | apply Tr.nil | apply Tr.skip | apply Tr.block) | (refine Tr.cond_t rfl (by first | (with_reducible assumption) | omega) ?_)))
  ((refine Tr.step rfl ?_))
  refine Exec.append (news := [.int .i64 y.amount]) rfl rfl (tysOk.get rfl) rfl (tysOk.get rfl) rfl rfl rfl rfl (by repeat (first | exact Del.here | apply Del.there)) (Src.box (by repeat (first | exact Has.here | apply Has.there))) rfl (by intro u hu; simp at hu; subst hu; rfl) (by omega) (by omega) rfl (fun A3 c3 hc3 => ?_)
  refine gvQ (r := box _ 3 _) ?_
  rw [show intV ((l.take i).map (·.amount)) ++ [Value.int .i64 y.amount] = intV ((l.take (i + 1)).map (·.amount)) by rw [e1, intV_append]; rfl]
  (refine rQ ?_)
  exact Tr.again (i + 1, A3, c3) ⟨by simp only; omega, hc3⟩ (by simp only; omega) hsQ
 have ei : i = l.length := by omega
 subst ei
 rw [List.take_length]
 refine pbQ (r := ownS 3 1 A1 _ _ _) (fun M2 hm2 hok => ?_)
 have hI : Ints M2 (.slice A1 (amS l).length c1) (amS l) := Ints.ofOwn hok (by simp [amS]) hc1
 (refine rQ ?_)
 (refine dnQ (hL := by exact ⟨[], rfl⟩) ⟨rfl, ?_⟩)
 exact ⟨A1, c1, by simp [amS]; rfl, hI⟩
set_option maxHeartbeats 8000000 in
theorem ramR_fn32 (M : Mem) (A : Option Addr) (c : Nat) (l : List Rq) (h : SlOf 6 RRqC M (.slice A l.length c) l) (hl : l.length ≤ 1000000) :
  Fn0 Tryz.prog 29 [.slice A l.length c] M (fun v M' => ∃ A1 c1, v = .slice A1 (amR l).length c1 ∧ Ints M' (.slice A1 (amR l).length c1) (amR l)) := by
 refine Fn.intro Tryz.func29 rfl rfl Tryz.ntmps29 rfl fun E F => ?_
 (refine rQ ?_)
 refine Tr.own_nil 3 1 ?_
 refine Tr.loop (α := Nat × Option Addr × Nat) (fun y => ⟨20, [(4, .int .i64 (y.1 : Int)), (3, .slice y.2.1 y.1 y.2.2), (0, .slice A l.length c)], [], M, ownS 3 1 y.2.1 y.1 y.2.2 (intV ((l.take y.1).map (·.amount))) :: ([] ++ F)⟩)
  (fun y => y.1 ≤ l.length ∧ y.2.2 ≤ 9223372036854775807) (fun y => l.length - y.1) (0, none, 0) ⟨Nat.zero_le _, by simp⟩ hsQ (fun y hy => ?_)
 obtain ⟨i, A1, c1⟩ := y
 obtain ⟨hi, hc1⟩ := hy
 simp only at hi hc1
 dsimp only
 by_cases hlt : i < l.length
 ·obtain ⟨y, hy⟩ := get_of_lt hlt
  obtain ⟨hA, ch, hat, rfl⟩ := h.elem hy
  have hat2 : At M (((A.getD default).add (i * 6)).add 5) [.int .i64 y.amount] := hat.drop 5
  have e1 := nums_take (·.amount) hy
  (repeat (first | ((with_reducible refine Tr.step rfl ?_); (first | (refine xmQ ?_) | (refine xMQ ?_) | ((with_reducible refine Knd.fieldAddr ?_); (refine Exec.stab rfl (Stab.fieldD rfl (tysOk.get rfl) rfl rfl (tysOk.get rfl) rfl) rfl ?_)) | (refine xnQ ?_) | (refine xiQ ?_) | (refine xxQ ?_) | ((with_reducible refine Knd.buildSlice ?_); (refine Exec.buildSlice (tysOk.get rfl) rfl (tysOk.get rfl) rfl rfl rfl rfl rfl (by repeat (first | exact BuildP.nil | ((apply BuildP.one); (rfl); (rfl); (first | rfl | assumption); (repeat (first | exact SetL.z | apply SetL.s))))) rfl (fun b => ?_))))) | (with_reducible first | apply Tr.next | apply Tr.seq | apply Tr.region | apply Tr.nil | apply Tr.skip | apply Tr.block) | (refine Tr.cond_t rfl (by first | (with_reducible assumption) | omega) ?_)))
  ((refine Tr.step rfl ?_))
  refine Exec.append (news := [.int .i64 y.amount]) rfl rfl (tysOk.get rfl) rfl (tysOk.get rfl) rfl rfl rfl rfl (by repeat (first | exact Del.here | apply Del.there)) (Src.box (by repeat (first | exact Has.here | apply Has.there))) rfl (by intro u hu; simp at hu; subst hu; rfl) (by omega) (by omega) rfl (fun A3 c3 hc3 => ?_)
  refine gvQ (r := box _ 3 _) ?_
  rw [show intV ((l.take i).map (·.amount)) ++ [Value.int .i64 y.amount] = intV ((l.take (i + 1)).map (·.amount)) by rw [e1, intV_append]; rfl]
  (refine rQ ?_)
  exact Tr.again (i + 1, A3, c3) ⟨by simp only; omega, hc3⟩ (by simp only; omega) hsQ
 have ei : i = l.length := by omega
 subst ei
 rw [List.take_length]
 refine pbQ (r := ownS 3 1 A1 _ _ _) (fun M2 hm2 hok => ?_)
 have hI : Ints M2 (.slice A1 (amR l).length c1) (amR l) := Ints.ofOwn hok (by simp [amR]) hc1
 (refine rQ ?_)
 (refine dnQ (hL := by exact ⟨[], rfl⟩) ⟨rfl, ?_⟩)
 exact ⟨A1, c1, by simp [amR]; rfl, hI⟩
end Go.Proofs.YtlifjajcmnkhfaaGreat

/-
 Refusals, plain: what Least answers explains the refusal, and nothing of it can be left out; what Check accepts.
 Conditions: none.
-/
namespace Go.Proofs.YtlifjajcmnkhfaaGreat
open Go Bf
theorem idxN_at {l : List Rq} (hn : (l.map (·.no)).Nodup) {j : Nat} {y : Rq} (hy : l[j]? = some y) : idxN l y.no = some j := by
 obtain ⟨h1, h2⟩ := List.getElem?_eq_some_iff.1 hy
 unfold idxN
 rw [List.findIdx?_eq_some_iff_getElem]
 refine ⟨by simpa using h1, by simp [h2], fun i hi he => ?_⟩
 have he : (l.map (·.no))[i]'(by simp; omega) = y.no := by simpa using he
 have h3 : (l.map (·.no))[j]'(by simpa using h1) = y.no := by simp [h2]
 have := (List.getElem_inj hn).1 (he.trans h3.symm)
 omega
theorem idxN_get {l : List Rq} {n : Int} {j : Nat} (h : idxN l n = some j) : ∃ y, l[j]? = some y ∧ y.no = n := by
 obtain ⟨h1, h2, -⟩ := List.findIdx?_eq_some_iff_getElem.1 h
 have h1' : j < l.length := by simpa using h1
 exact ⟨l[j], List.getElem?_eq_getElem h1', by simpa using h2⟩
end Go.Proofs.YtlifjajcmnkhfaaGreat

