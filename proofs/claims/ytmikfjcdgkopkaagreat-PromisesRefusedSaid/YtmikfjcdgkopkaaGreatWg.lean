/-
  Texts of the proof, one after the other.
  Conditions: none.
-/
import Derived.Test.YtmikfjcdgkopkaaGreatWBfOwnL
import Derived.Test.YtmikfjcdgkopkaaGreatWBfDelN
import Derived.Test.YtmikfjcdgkopkaaGreatWXs
import Derived.Test.YtmikfjcdgkopkaaGreatWf
/-
 Refusals: Check.
 Conditions: none.
-/
namespace Go.Proofs.YtmikfjcdgkopkaaGreat
open Go Bf
attribute [local irreducible] Tr Exec Stab HasTy Go.Addr.add IntKind.wrap
def idxN (reqs : List Rq) (n : Int) : Option Nat := (reqs.map (·.no)).findIdx? fun q => decide (q = n)
def MapAt (es : List MapEntry) (l : List Rq) : Prop := IntKeys es ∧ ∀ q : Int, valE q es = (idxN l q).map fun j => .int .i64 (j : Int)
theorem MapAt.nil : MapAt [] [] := ⟨IntKeys.nil, fun q => by simp [valE, lookE, idxN]⟩
theorem MapAt.add {es : List MapEntry} {l : List Rq} (h : MapAt es l) {x : Rq} (hx : x.no ∉ l.map (·.no)) (cl : Nat) : MapAt (updE x.no (.int .i64 (l.length : Int)) es cl).1 (l ++ [x]) := by
 refine ⟨updE_keys h.1, fun q => ?_⟩
 rw [updE_val, h.2 q]
 unfold idxN
 rw [List.map_append, List.findIdx?_append]
 by_cases e : q = x.no
 ·subst e
  rw [if_pos rfl]
  have : (l.map (·.no)).findIdx? (fun q => decide (q = x.no)) = none := by
   rw [List.findIdx?_eq_none_iff]
   intro y hy
   simp only [decide_eq_false_iff_not]
   exact fun h => hx (h ▸ hy)
  rw [this]
  simp
 ·rw [if_neg e]
  have : ([x].map (·.no)).findIdx? (fun q' => decide (q' = q)) = none := by
   rw [List.findIdx?_eq_none_iff]
   intro y hy
   simp at hy
   subst hy
   simp only [decide_eq_false_iff_not]
   exact fun h => e h.symm
  rw [this]
  simp
end Go.Proofs.YtmikfjcdgkopkaaGreat

/-
 Refusals, plain: what Least answers explains the refusal, and nothing of it can be left out; what Check accepts.
 Conditions: none.
-/
namespace Go.Proofs.YtmikfjcdgkopkaaGreat
open Go Bf
theorem keep_sub {α : Type} {o : Nat → Bool} : ∀ {l : List α} {i : Nat}, (keep o l i).Sublist l
 | [], _ => List.Sublist.slnil
 | x :: l, i => by
  rw [keep]
  split
  ·exact (keep_sub (l := l)).cons x
  ·exact (keep_sub (l := l)).cons_cons x
theorem keep_snoc {α : Type} (o : Nat → Bool) (l : List α) (x : α) : keep o (l ++ [x]) 0 = keep o l 0 ++ if o l.length = true then [] else [x] := by
 have h := keep_take o (l ++ [x]) 0 l.length x (by simp)
 simp only [Nat.zero_add, List.take_left'] at h
 rw [← h, List.take_of_length_le (by simp)]
theorem keep_idxN {o : Nat → Bool} (l : List Rq) : (keep o l 0).map (·.no) = (idx (fun i => !o i) l.length).map fun p => (l.map (·.no)).getD p 0 := by
 rw [← keep_mapf, keep_map o 0]
 simp [idx]
end Go.Proofs.YtmikfjcdgkopkaaGreat

/-
 Refusals, plain: the promises of layer 32.
 Conditions: none.
-/
namespace Go.Proofs.YtmikfjcdgkopkaaGreat
open Go Bf
theorem cutW_vld {w : Wd} {k : Bp} {r : Rq} (h : askE w k r = 0) : Vld (fitsT w k.known k.sups (k.reqs ++ [r])) (amS k.sups) (amR (k.reqs ++ [r])) := okT_vld (askE_zero h).2.2
noncomputable def cutRS (w : Wd) (k : Bp) (r : Rq) : Nat → Bool := cutFin (fitsT w k.known k.sups (k.reqs ++ [r])) (amS k.sups) (amR (k.reqs ++ [r]))
theorem amR_len (l : List Rq) : (amR l).length = l.length := by simp [amR]
theorem app_len (l : List Rq) (r : Rq) : (l ++ [r]).length = l.length + 1 := by simp
theorem cutS_last {w : Wd} {k : Bp} {r : Rq} (h : askE w k r = 0) (hn : ¬ Feas (pbW w k.known k.sups (k.reqs ++ [r]))) : cutRS w k r k.reqs.length = true := by
 obtain ⟨hok, hno, ht⟩ := askE_zero h
 cases hc : cutRS w k r k.reqs.length with
 | true => rfl
 | false =>
  refine absurd ?_ (cutFin_props (cutW_vld h) hn).1
  refine (feasW_keep ht _).1 ?_
  rw [keep_snoc, if_pos (by show (!cutRS w k r k.reqs.length) = true; rw [hc]; rfl), List.append_nil]
  have hf : Feas (pbW w k.known k.sups k.reqs) := by rw [← hok.pb]; exact hok.2.2.2
  exact feasW_sub (SubInj.sub keep_sub) hf
theorem conf_eq {w : Wd} {k : Bp} {r : Rq} : confF w k r = (keep (fun c => !cutRS w k r c) (k.reqs ++ [r]) 0).map (·.no) := by
 rw [keep_idxN]
 unfold confF cutB memF
 rw [List.map_map, amR_len]
 simp only [Bool.not_not]
 refine List.map_congr_left fun p hp => ?_
 simp [Function.comp]
noncomputable def keptR (w : Wd) (k : Bp) (r : Rq) : List Rq := keep (fun c => !cutRS w k r c) k.reqs 0
theorem kept_all {w : Wd} {k : Bp} {r : Rq} (h : askE w k r = 0) (hn : ¬ Feas (pbW w k.known k.sups (k.reqs ++ [r]))) : keep (fun c => !cutRS w k r c) (k.reqs ++ [r]) 0 = keptR w k r ++ [r] := by
 rw [keep_snoc, if_neg (by rw [cutS_last h hn]; decide), keptR]
end Go.Proofs.YtmikfjcdgkopkaaGreat

/-
 Promises, plain: what a refusal names.
 Conditions: none.
-/
namespace Go.Proofs.YtmikfjcdgkopkaaGreat
open Go Bf
noncomputable def psF (w : Wd) (k : Bp) (r : Rq) : List Nat := idx (cutRS w k r) (k.reqs.length + 1)
theorem conf_ps (w : Wd) (k : Bp) (r : Rq) : confF w k r = (psF w k r).map fun p => ((k.reqs ++ [r]).map (·.no)).getD p 0 := by
 unfold confF cutB memF psF idx cutRS
 rw [List.map_map, amR_len, app_len]
 rfl
theorem cutB_ps (w : Wd) (k : Bp) (r : Rq) : cutB w k r = (psF w k r).map Int.ofNat := by
 unfold cutB memF psF idx cutRS
 rw [amR_len, app_len]
theorem ps_asc (w : Wd) (k : Bp) (r : Rq) : (psF w k r).Pairwise (· < ·) := List.Pairwise.filter _ List.pairwise_lt_range
theorem ps_lt {w : Wd} {k : Bp} {r : Rq} {i p : Nat} (h : (psF w k r)[i]? = some p) : p < (k.reqs ++ [r]).length := by
 have := (idx_mem h).1
 rw [app_len]; exact this
theorem conf_last {w : Wd} {k : Bp} {r : Rq} (h : askE w k r = 0) (hn : ¬ Feas (pbW w k.known k.sups (k.reqs ++ [r]))) : ∃ m, (confF w k r).length = m + 1 ∧ (confF w k r)[m]? = some r.no := by
 have e := (conf_eq (w := w) (k := k) (r := r)).trans (congrArg (List.map fun x : Rq => x.no) (kept_all h hn))
 rw [e]
 exact ⟨(keptR w k r).length, by simp, by simp⟩
def startP (ps : List Nat) : Nat → Nat
 | 0 => 0
 | i + 1 => ps.getD i 0 + 1
theorem startP_le {ps : List Nat} (h : ps.Pairwise (· < ·)) {i p : Nat} (hp : ps[i]? = some p) : startP ps i ≤ p := by
 cases i with
 | zero => exact Nat.zero_le _
 | succ i =>
  obtain ⟨hi, rfl⟩ := List.getElem?_eq_some_iff.1 hp
  have := List.pairwise_iff_getElem.1 h i (i + 1) (by omega) hi (by omega)
  simp only [startP, List.getD_eq_getElem?_getD, List.getElem?_eq_getElem (show i < ps.length by omega), Option.getD_some]
  exact this
theorem startP_succ {ps : List Nat} {i p : Nat} (hp : ps[i]? = some p) : startP ps (i + 1) = p + 1 := by
 simp [startP, List.getD_eq_getElem?_getD, hp]
theorem all_nodup {w : Wd} {k : Bp} {r : Rq} (h : askE w k r = 0) : ((k.reqs ++ [r]).map (·.no)).Nodup := by
 obtain ⟨hok, hno, -⟩ := askE_zero h
 rw [List.map_append, List.nodup_append]
 refine ⟨hok.1.1, by simp, fun x hx y hy => ?_⟩
 simp at hy
 subst hy
 exact fun e => hno (e ▸ hx)
theorem no_ne {l : List Rq} (h : (l.map (·.no)).Nodup) {i j : Nat} {x y : Rq} (hx : l[i]? = some x) (hy : l[j]? = some y) (hij : i ≠ j) : x.no ≠ y.no := fun e => by
 obtain ⟨h1, rfl⟩ := List.getElem?_eq_some_iff.1 hx
 obtain ⟨h2, rfl⟩ := List.getElem?_eq_some_iff.1 hy
 have := (List.getElem_inj (i := i) (j := j) (h₀ := by simpa using h1) (h₁ := by simpa using h2) h).1 (by simpa using e)
 exact hij this
theorem conf_at {w : Wd} {k : Bp} {r : Rq} {i p : Nat} {y : Rq} (hp : (psF w k r)[i]? = some p) (hy : (k.reqs ++ [r])[p]? = some y) : (confF w k r)[i]? = some y.no := by
 rw [conf_ps, List.getElem?_map, hp]
 simp only [Option.map_some, List.getD_eq_getElem?_getD, List.getElem?_map, hy, Option.getD_some]
def zeroR (r : Rq) : Rq := { r with amount := 0 }
theorem zero_ok {r : Rq} (h : okRq r) : okRq (zeroR r) := ⟨h.1, h.2.1, h.2.2.1, h.2.2.2.1, h.2.2.2.2.1, Int.le_refl 0, show (0 : Int) ≤ 1048576 by decide⟩
theorem feas_zero (w : Wd) (known : Int) {s : List Sp} (hs : ∀ x ∈ s, okSp x) (r : Rq) : Feas (pbW w known s [zeroR r]) := by
 refine feas_part.2 ⟨fun _ _ => 0, fun k hk b hb => Int.le_refl _, fun k hk b hb h => absurd rfl h, fun k hk => ?_, fun b hb => ?_⟩
 ·obtain ⟨x, hx⟩ := get_of_lt (xs := s) (i := k) (by simpa [pbW, pbOf, amS] using hk)
  have := (hs x (List.mem_of_getElem? hx)).2.2.2.2.2.1
  rw [sumN_zero fun _ _ => rfl]
  show (0 : Int) ≤ (amS s).getD k 0
  simp [amS, List.getD_eq_getElem?_getD, hx, this]
 ·have hb : b = 0 := by simp [pbW, pbOf, amR] at hb; omega
  subst hb
  rw [sumN_zero fun _ _ => rfl]
  rfl
theorem fitsT_app (w : Wd) (known : Int) (s : List Sp) (l : List Rq) (r : Rq) {i : Nat} {row : List Bool} {x : Sp} (hr : (fitsT w known s l)[i]? = some row) (hx : s[i]? = some x) : (fitsT w known s (l ++ [r]))[i]? = some (row ++ [fitF w known x r]) := by
 simp only [fitsT, List.getElem?_map, hx, Option.map_some, Option.some.injEq] at hr ⊢
 rw [← hr]
 simp
theorem cut_ok {w : Wd} {k : Bp} {r : Rq} (h : askE w k r = 0) (hn : ¬ Feas (pbW w k.known k.sups (k.reqs ++ [r]))) : CutP (fitsT w k.known k.sups (k.reqs ++ [r])) (amS k.sups) (amR (k.reqs ++ [r])) ((psF w k r).map Int.ofNat) := by
 rw [← cutB_ps]
 exact cutFin_cut (cutW_vld h) hn
theorem alone_ok {w : Wd} {k : Bp} (h : okB w k) : okT k.sups [] ∧ (k.sups.map (·.no)).Nodup := ⟨⟨⟨h.2.1.1.1, by simp⟩, h.2.1.2.1, by simp⟩, h.1.2⟩
theorem alone_ask {w : Wd} {k : Bp} {r : Rq} (h : okB w k) (hr : okRq r) : askE w (mkF w (bkN k.known k.sups) []) (zeroR r) = 0 := askE_ok (okB_new (alone_ok h).1 (alone_ok h).2) (by simp [mkF]) (zero_ok hr) (by simp [mkF])
end Go.Proofs.YtmikfjcdgkopkaaGreat

/-
 Promises: the law PromisesRefused.
 Conditions: none.
-/
namespace Go.Proofs.YtmikfjcdgkopkaaGreat
open Go Bf
attribute [local irreducible] Tr Exec Stab HasTy Go.Addr.add IntKind.wrap
def bwR (t : TypeId) (q : List (Option Addr × Nat × List Bool)) : List Res := q.map fun a => ownS t 1 a.1 a.2.2.length a.2.1 (boV a.2.2)
def bwV (q : List (Option Addr × Nat × List Bool)) : List Value := q.map fun a => .slice a.1 a.2.2.length a.2.1
theorem bwR_add (t : TypeId) (q : List (Option Addr × Nat × List Bool)) (a : Option Addr × Nat × List Bool) : bwR t q ++ [ownS t 1 a.1 a.2.2.length a.2.1 (boV a.2.2)] = bwR t (q ++ [a]) := by simp [bwR]
theorem bwV_set (q : List (Option Addr × Nat × List Bool)) (a : Option Addr × Nat × List Bool) {i n : Nat} {z : Value} (hq : q.length = i) (h : i < n) : (bwV q ++ List.replicate (n - i) z).set i (.slice a.1 a.2.2.length a.2.1) = bwV (q ++ [a]) ++ List.replicate (n - (i + 1)) z := by
 subst hq
 have e : (bwV q).length = q.length := by simp [bwV]
 rw [List.set_append_right _ _ (by omega), e, Nat.sub_self, show n - q.length = (n - (q.length + 1)) + 1 by omega, List.replicate_succ, List.set_cons_zero]
 simp [bwV]
theorem bwV_put (p l : List (Option Addr × Nat × List Bool)) (a b : Option Addr × Nat × List Bool) {i : Nat} (h : p.length = i) : (bwV (p ++ a :: l)).set i (.slice b.1 b.2.2.length b.2.1) = bwV ((p ++ [b]) ++ l) := by
 subst h
 simp only [bwV, List.map_append, List.map_cons, List.append_assoc, List.singleton_append]
 rw [List.set_append_right _ _ (by simp)]
 simp
theorem bwV_elems (M : Mem) (p : List (Option Addr × Nat × List Bool)) (h : ∀ a ∈ p, a.2.1 ≤ 9223372036854775807 ∧ Bools M (.slice a.1 a.2.2.length a.2.1) a.2.2) : Elems 1 RRowB M (bwV p) (p.map (·.2.2)) := by
 refine ⟨by simp [bwV], fun i x hx => ?_⟩
 rw [List.getElem?_map] at hx
 cases ha : p[i]? with
 | none => rw [ha] at hx; cases hx
 | some a =>
  rw [ha] at hx
  cases hx
  refine ⟨a.1, a.2.1, ?_, (h a (List.mem_of_getElem? ha)).2⟩
  have e : (bwV p)[i]? = some (.slice a.1 a.2.2.length a.2.1) := by simp only [bwV, List.getElem?_map, ha]; rfl
  obtain ⟨hi, e⟩ := List.getElem?_eq_some_iff.1 e
  rw [Nat.mul_one, List.drop_eq_getElem_cons hi, e]
  rfl
set_option maxHeartbeats 32000000 in
set_option maxRecDepth 20000 in
theorem refusedlaw_fn (M : Mem) (ws : List Value) (w : Wd) (hw : RWd M ws w) (v : Value) (k : Bp) (hk : RBp M v k) (r : Rq) :
  Fn0 Tryz.prog 9 [.agg ws.toArray, v, .agg #[.int .i64 r.no, .int .i64 r.item, .int .i64 r.cust, .int .i64 r.due, .int .i64 r.shelf, .int .i64 r.amount]] M (fun v _ => v = .bool true) := by
 have h11 := hw.len
 obtain ⟨As, cs, Ar, cr, Af, cf, Ad, cd, rfl, h1, h2, h3, h4⟩ := id hk
 have hfc : k.fits.length ≤ 9223372036854775807 := h3.len_le
 refine Fn.intro Tryz.func9 rfl rfl Tryz.ntmps9 rfl fun E F => ?_
 (repeat (first | ((with_reducible refine Tr.step rfl ?_); (first | (refine xaQ ?_) | ((with_reducible refine Knd.box ?_); (refine Exec.box rfl rfl (fun b => ?_))))) | (with_reducible first | apply Tr.next | apply Tr.seq | apply Tr.region | apply Tr.nil)))
 rename_i b3 b4
 generalize b = b5
 ((refine Tr.step rfl ?_)); refine Exec.call0 rfl (sane31_fn M) rfl ?_
 rintro _ M1 hm1 rfl
 (repeat (first | ((with_reducible refine Tr.step rfl ?_); (first | ((with_reducible refine Knd.load ?_); (first | (refine xwQ ?_) | (refine Exec.stab rfl (Stab.loadW rfl (tysOk.get rfl) rfl (by repeat (first | exact Has.here | apply Has.there)) (by assumption)) rfl ?_))) | ((with_reducible refine Knd.unOp ?_); (refine Exec.stab rfl (Stab.not rfl) rfl ?_)))) | (with_reducible first | apply Tr.next | apply Tr.seq | apply Tr.region | apply Tr.nil | apply Tr.skip) | (refine Tr.cond_bf rfl (by first | (with_reducible rfl) | (with_reducible exact Bool.not_true)) ?_)))
 ((refine Tr.step rfl ?_)); refine Exec.call0 rfl (few31_fn M1 ws w (hw.mono hm1) _ k (hk.mono hm1)) rfl ?_
 rintro _ _ hm ⟨⟨q, rfl, hq⟩, rfl⟩
 cases q
 ·(refine rQ ?_)
  (refine dnQ (hL := by exact ⟨[_, _, _], rfl⟩) ⟨rfl, ?_⟩)
  rfl
 have hfew := hq rfl
 clear hq
 (repeat (first | ((with_reducible refine Tr.step rfl ?_); (first | ((with_reducible refine Knd.load ?_); (first | (refine xwQ ?_) | (refine Exec.stab rfl (Stab.loadW rfl (tysOk.get rfl) rfl (by repeat (first | exact Has.here | apply Has.there)) (by assumption)) rfl ?_))) | ((with_reducible refine Knd.unOp ?_); (refine Exec.stab rfl (Stab.not rfl) rfl ?_)))) | (with_reducible first | apply Tr.next | apply Tr.seq | apply Tr.region | apply Tr.nil | apply Tr.skip) | (refine Tr.cond_bf rfl (by first | (with_reducible rfl) | (with_reducible exact Bool.not_true)) ?_)))
 ((refine Tr.step rfl ?_)); refine Exec.call0 rfl (askA_fn M1 ws w (hw.mono hm1) _ k (hk.mono hm1) hfc r) rfl ?_
 rintro _ M2 hm2 (⟨h0, hok, x, a, rfl, D, cD, hD, ⟨hF, hx, al, A, c, hlex, rfl, hal⟩ | ⟨hF, hx, B, c, rfl, hB⟩⟩ | ⟨hne, rfl⟩)
 all_goals have hm2 : Mem.le M1 M2 := hm2
 all_goals have hm02 := hm1.trans hm2
 rotate_left
 rotate_left
 ·have hz : ∀ M0, RBp M0 (.agg #[.int .i64 0, .slice none 0 0, .slice none 0 0, .slice none 0 0, .slice none 0 0]) zP := fun M0 => ⟨none, 0, none, 0, none, 0, none, 0, rfl, SlOf.nil _ _ _, SlOf.nil _ _ _, SlOf.nil _ _ _, SlOf.nil _ _ _⟩
  have hz2 : ∀ M0, RAn M0 (.agg #[.bool false, .slice none 0 0, .slice none 0 0, .slice none 0 0]) zA := fun M0 => ⟨none, 0, none, 0, none, 0, rfl, SlOf.nil _ _ _, SlOf.nil _ _ _, SlOf.nil _ _ _⟩
  (repeat (first | ((with_reducible refine Tr.step rfl ?_); (first | (refine xmQ ?_) | (refine xaQ ?_) | (refine xwQ ?_) | (refine xiQ ?_) | (refine xWQ ?_) | ((with_reducible refine Knd.alloc ?_); (refine Exec.alloc (tysOk.get rfl) rfl rfl (fun b => ?_))) | ((with_reducible refine Knd.extract ?_); (refine Exec.stab rfl (Stab.extract rfl rfl) rfl ?_)) | ((with_reducible refine Knd.build ?_); (refine Exec.stab rfl (Stab.build tysOk rfl rfl rfl rfl (by repeat (exact BuildP.nil))) rfl ?_)))) | (with_reducible first | apply Tr.next | apply Tr.seq | apply Tr.region | apply Tr.nil) | (refine Tr.cond_t rfl (by (with_reducible assumption)) ?_)))
  ((refine Tr.step rfl ?_)); refine Exec.call0 rfl (sameB_fn M2 _ _ zP zP (hz _) (hz _)) rfl ?_
  rintro _ _ hm ⟨⟨q, rfl, hq⟩, rfl⟩
  obtain rfl := hq.2 rfl
  (repeat (first | ((with_reducible refine Tr.step rfl ?_); (with_reducible refine Knd.move ?_); (refine xmQ ?_)) | ((refine Tr.guard_l rfl rfl rfl (by (with_reducible rfl)) ?_); (first | (refine xwQ ?_) | ((with_reducible refine Knd.build ?_); (refine Exec.stab rfl (Stab.build tysOk rfl rfl rfl rfl (by repeat (exact BuildP.nil))) rfl ?_))))))
  ((refine Tr.guard_l rfl rfl rfl (by (with_reducible rfl)) ?_)); refine Exec.call0 rfl (sameAn_fn M2 _ _ zA zA (hz2 _) (hz2 _)) rfl ?_
  rintro _ _ hm ⟨⟨q, rfl, hq⟩, rfl⟩
  obtain rfl := hq.2 rfl
  (repeat (first | ((with_reducible refine Tr.step rfl ?_); (first | (refine xaQ ?_) | ((with_reducible refine Knd.pick ?_); (refine Exec.stab rfl (Stab.pick_t rfl (by (with_reducible rfl)) rfl) rfl ?_)))) | (with_reducible first | apply Tr.next | apply Tr.nil | apply Tr.ret | apply Tr.then_ret)))
  (refine dnQ (hL := by exact ⟨[_, _, _, _, _], rfl⟩) ⟨rfl, ?_⟩)
  rfl
 ·obtain ⟨Bs, ds, Br, dr, Bff, df, Bd, dd, rfl, g1, g2, g3, g4⟩ := id hx
  have hmo := (askE_zero h0).2.2
  have hv : Vld (more w k r).fits (amS (more w k r).sups) (amR (more w k r).reqs) := okT_vld (w := w) (known := k.known) hmo
  have rs : I64s (amS (more w k r).sups) := fun x hx => by have := hv.rs x hx; omega
  have rn : I64s (amR (more w k r).reqs) := fun x hx => by have := hv.rn x hx; omega
  have hml : (more w k r).reqs.length = k.reqs.length + 1 := by show (k.reqs ++ [r]).length = _; rw [List.length_append, List.length_singleton]
  have hrl := hfew.rl
  have hlast : (more w k r).reqs[k.reqs.length]? = some r := by show (k.reqs ++ [r])[k.reqs.length]? = _; simp
  (repeat (first | ((with_reducible refine Tr.step rfl ?_); (first | (refine xmQ ?_) | (refine xaQ ?_) | ((with_reducible refine Knd.load ?_); (first | (refine xlQ ?_) | (refine xwQ ?_))) | (refine xfQ ?_) | (refine xiQ ?_) | (refine xWQ ?_) | ((with_reducible refine Knd.alloc ?_); (refine Exec.alloc (tysOk.get rfl) rfl rfl (fun b => ?_))) | ((with_reducible refine Knd.extract ?_); (refine Exec.stab rfl (Stab.extract rfl rfl) rfl ?_)))) | (with_reducible first | apply Tr.next | apply Tr.seq | apply Tr.region | apply Tr.nil | apply Tr.skip) | (refine Tr.cond_bt rfl (by (with_reducible rfl)) ?_) | (refine Tr.cond_f rfl (by (with_reducible exact (not_not_intro rfl))) ?_)))
  ((refine Tr.step rfl ?_)); refine Exec.call0 rfl (lamounts_fn M2 _ (more w k r) hx (by have := hfew.sl; show k.sups.length ≤ _; omega) (by omega)) rfl ?_
  rintro _ M3 hm3 ⟨A3, c3, A4, c4, rfl, t1, t2⟩
  (refine rQ ?_)
  ((refine Tr.step rfl ?_)); refine Exec.call0 rfl (mcheck_fn M3 Bff A3 A4 A df c3 c4 c (more w k r).fits (amS (more w k r).sups) (amR (more w k r).reqs) _ (g3.mono RRowB.mono hm3) t1 t2 (hal.mono RRowI.mono hm3) rs rn) rfl ?_
  rintro _ _ hm4 ⟨⟨hvf, -⟩ | ⟨-, q, rfl, hq⟩, rfl⟩
  ·exact absurd (vld_iff.2 hv) (by rw [hvf]; simp)
  have hq1 : q = true := hq.2 (LexMax.check hlex.1)
  subst hq1
  obtain ⟨hA, ch, hat, rfl⟩ := (g2.mono RRqC.mono hm3).elem hlast
  simp only [rqC] at hat
  rw [hml]
  have hm03 := hm02.trans hm3
  (repeat (first | ((with_reducible refine Tr.step rfl ?_); (first | (refine xmQ ?_) | (refine xaQ ?_) | ((with_reducible refine Knd.extract ?_); (refine Exec.stab rfl (Stab.extract rfl rfl) rfl ?_)))) | (with_reducible first | apply Tr.next | apply Tr.seq | apply Tr.nil)))
  (((apply Tr.draw); (kernel_rfl)); (refine tkQ 0 (hB := by exact fun _ h => h) (s := by exact Stab.move rfl) ?_); (refine tkQ 1 (s := by exact siQ) ?_); (refine tkQ 2 (s := by exact Stab.move rfl) ?_); ((refine tgQ 3 (q := (decide_eq_true (by (with_reducible rfl)))) (s := by exact Stab.move rfl) ?_)); (refine tkQ 4 (s := by exact Stab.pick_td rfl (by (with_reducible rfl)) rfl) ?_); (refine tkQ 5 (s := by exact Stab.move rfl) ?_); ((refine tgQ 6 (s := by exact sfQ) ?_)); ((refine tgQ 7 (s := by exact slQ) ?_)); ((refine tgQ 8 (s := by exact snQ) ?_)); ((refine tgQ 9 (s := by exact siQ) ?_)); (refine tkQ 10 (s := by exact Stab.pick_t rfl (by (with_reducible rfl)) rfl) ?_); (refine tkQ 11 (s := by exact Stab.move rfl) ?_); ((refine tgQ 12 (q := (decide_eq_true (by omega))) (s := by exact sfQ) ?_)); ((refine tgQ 13 (q := (decide_eq_true (by omega))) (s := by exact slQ) ?_)); ((refine tgQ 14 (q := (decide_eq_true (by omega))) (s := by exact snQ) ?_)); ((refine tgQ 15 (q := (decide_eq_true (by omega))) (s := by exact sfQ) ?_)); ((refine tgQ 16 (q := (decide_eq_true (by omega))) (s := by exact slQ) ?_)); ((refine tgQ 17 (q := (decide_eq_true (by omega))) (s := by exact snQ) ?_)); ((refine tgQ 18 (q := (decide_eq_true (by omega))) (s := by exact Stab.addi rfl rfl (by omega)) ?_)); ((refine tgQ 19 (q := (decide_eq_true (by omega))) (s := by exact siQ) ?_)))
  rw [decide_eq_true (show ((k.reqs.length + 1 : Nat) : Int) = (k.reqs.length : Int) + 1 by omega)]
  ((refine tkQ 20 (s := by exact Stab.pick_td rfl (by omega) rfl) ?_); (refine tkQ 21 (s := by exact Stab.move rfl) ?_); ((refine tgQ 22 (s := by exact sfQ) ?_)); ((refine tgQ 23 (s := by exact slQ) ?_)); ((refine tgQ 24 (s := by exact sfQ) ?_)); ((refine tgQ 25 (s := by exact slQ) ?_)); ((refine tgQ 26 (s := by exact snQ) ?_)); ((refine tgQ 27 (s := by exact sxQ) ?_)); ((refine tgQ 28 (s := by exact Stab.loadMA rfl (tysOk.get rfl) rfl (by assumption) (by first | rfl | assumption)) ?_)); ((refine tgQ 29 (s := by exact swQ) ?_)); ((refine tgQ 30 (s := by exact Stab.steqL rfl rfl (by repeat (first | exact IntsL.nil | apply IntsL.cons)) (by repeat (first | exact IntsL.nil | apply IntsL.cons)) (tysOk.get rfl) rfl (by kernel_rfl) (by kernel_rfl) rfl rfl) ?_)); (refine tkQ 31 (s := by exact Stab.pick_t rfl (by (with_reducible rfl)) rfl) ?_); (refine tkQ 32 (s := by exact Stab.assign rfl) ?_); (refine TrA.done (by kernel_rfl) ?_))
  (repeat (first | (with_reducible first | apply Tr.next | apply Tr.ret | apply Tr.then_ret)))
  (refine dnQ (hL := by exact ⟨[_, _, _, _, _], rfl⟩) ⟨rfl, ?_⟩)
  simp [resVal]
 ·obtain ⟨Bs, ds, Br, dr, Bff, df, Bd, dd, rfl, g1, g2, g3, g4⟩ := id hx
  have hfl : k.fits.length = k.sups.length := by rw [← hok.2.2.1.1]; simp [fitsT]
  obtain ⟨m, hcl, hcm⟩ := conf_last h0 hF
  have hsl := hfew.sl
  have hrl := hfew.rl
  have hcn : ((confF w k r).length : Int) ≠ 0 := by omega
  have hbl := hB.len_le
  obtain ⟨hB2, ch, hatB, rfl⟩ := hB.elem hcm
  have hrow := SlOf.row (R := RRqC) (h2.mono RRqC.mono hm02) (fun _ _ h => h) rqC_len
  have hpl : (psF w k r).length = (confF w k r).length := by rw [conf_ps, List.length_map]
  have hasc := ps_asc w k r
  have hp6 : (psF w k r).length ≤ k.reqs.length + 1 := by unfold psF idx; exact Nat.le_trans (List.length_filter_le _ _) (by simp)
  have hnd := all_nodup h0
  (repeat (first | ((with_reducible refine Tr.step rfl ?_); (first | (refine xmQ ?_) | (refine xaQ ?_) | (refine xlQ ?_) | (refine xfQ ?_) | (refine xiQ ?_) | (refine xWQ ?_) | ((with_reducible refine Knd.alloc ?_); (refine Exec.alloc (tysOk.get rfl) rfl rfl (fun b => ?_))) | ((with_reducible refine Knd.extract ?_); (refine Exec.stab rfl (Stab.extract rfl rfl) rfl ?_)))) | (with_reducible first | apply Tr.next | apply Tr.seq | apply Tr.region | apply Tr.nil | apply Tr.skip) | (refine Tr.cond_bf rfl (by (with_reducible rfl)) ?_) | (refine Tr.cond_f rfl (by first | (with_reducible assumption) | (with_reducible exact (not_not_intro rfl))) ?_)))
  rename_i b7
  generalize b = b8
  (((apply Tr.draw); (kernel_rfl)); (refine tkQ 0 (hB := by exact fun _ h => h) (s := by exact sfQ) ?_); (refine tkQ 1 (s := by exact slQ) ?_); (refine tkQ 2 (s := by exact snQ) ?_); (refine tkQ 3 (s := by exact sfQ) ?_); (refine tkQ 4 (s := by exact slQ) ?_); (refine tkQ 5 (s := by exact snQ) ?_))
  ((refine tkQ 6 (s := by exact siQ) ?_))
  rw [decide_eq_false (show ¬ ((k.fits.length : Int) ≠ (k.sups.length : Int)) by omega)]
  ((refine tkQ 7 (s := by exact Stab.move rfl) ?_); ((refine tgQ 8 (s := by exact swQ) ?_)); ((refine tgQ 9 (s := by exact swQ) ?_)); (refine TrA.eff 10 rfl (by kernel_rfl) (by exact .inr ⟨_, _, _, rfl, rfl, rfl⟩) ?_))
  refine Exec.call0 rfl (sameB_fn M2 (.agg #[.int .i64 k.known, .slice Bs k.sups.length ds, .slice Br k.reqs.length dr, .slice Bff k.fits.length df, .slice Bd k.rds.length dd]) (.agg #[.int .i64 k.known, .slice As k.sups.length cs, .slice Ar k.reqs.length cr, .slice Af k.fits.length cf, .slice Ad k.rds.length cd]) k k hx (hk.mono hm02)) rfl ?_
  rintro _ _ hm ⟨⟨q, rfl, hq⟩, rfl⟩
  obtain rfl := hq.2 rfl
  refine ⟨hm, (by exact fun _ h => h), ?_⟩
  clear hq hm
  (((refine tgQ 11 (s := by exact Stab.not rfl) ?_)); (refine tkQ 12 (s := by exact Stab.pick_f rfl (by (with_reducible rfl)) rfl) ?_); (refine tkQ 13 (s := by exact Stab.move rfl) ?_); ((refine tgQ 14 (q := (by (with_reducible exact Bool.not_true))) (s := by exact sfQ) ?_)); ((refine tgQ 15 (q := (by (with_reducible exact Bool.not_true))) (s := by exact slQ) ?_)); ((refine tgQ 16 (q := (by (with_reducible exact Bool.not_true))) (s := by exact snQ) ?_)); ((refine tgQ 17 (q := (by (with_reducible exact Bool.not_true))) (s := by exact siQ) ?_)); (refine tkQ 18 (s := by exact Stab.pick_f rfl (by (with_reducible exact Bool.not_true)) rfl) ?_); (refine tkQ 19 (s := by exact Stab.move rfl) ?_); ((refine tgQ 20 (q := (decide_eq_false (by (with_reducible exact (not_not_intro rfl))))) (s := by exact sfQ) ?_)); ((refine tgQ 21 (q := (decide_eq_false (by (with_reducible exact (not_not_intro rfl))))) (s := by exact slQ) ?_)); ((refine tgQ 22 (q := (decide_eq_false (by (with_reducible exact (not_not_intro rfl))))) (s := by exact snQ) ?_)); ((refine tgQ 23 (q := (decide_eq_false (by (with_reducible exact (not_not_intro rfl))))) (s := by exact siQ) ?_)); (refine tkQ 24 (s := by exact Stab.pick_fd rfl (by (with_reducible exact (not_not_intro rfl))) rfl) ?_); (refine tkQ 25 (s := by exact Stab.move rfl) ?_); ((refine tgQ 26 (q := (decide_eq_false (by (with_reducible assumption)))) (s := by exact sfQ) ?_)); ((refine tgQ 27 (q := (decide_eq_false (by (with_reducible assumption)))) (s := by exact slQ) ?_)); ((refine tgQ 28 (q := (decide_eq_false (by (with_reducible assumption)))) (s := by exact sfQ) ?_)); ((refine tgQ 29 (q := (decide_eq_false (by (with_reducible assumption)))) (s := by exact slQ) ?_)); ((refine tgQ 30 (q := (decide_eq_false (by (with_reducible assumption)))) (s := by exact snQ) ?_)))
  rw [show ((confF w k r).length : Int) = (m : Int) + 1 by omega]
  (((refine tgQ 31 (q := (decide_eq_false (by omega))) (s := by exact Stab.subi rfl rfl (by omega)) ?_)))
  rw [Int.add_sub_cancel]
  (((refine tgQ 32 (q := (decide_eq_false (by omega))) (s := by exact sxQ) ?_)); ((refine tgQ 33 (q := (decide_eq_false (by omega))) (s := by exact sMQ) ?_)); ((refine tgQ 34 (q := (decide_eq_false (by omega))) (s := by exact sfQ) ?_)); ((refine tgQ 35 (q := (decide_eq_false (by omega))) (s := by exact slQ) ?_)); ((refine tgQ 36 (q := (decide_eq_false (by omega))) (s := by exact siQ) ?_)); (refine tkQ 37 (s := by exact Stab.pick_fd rfl (by omega) rfl) ?_); (refine TrA.done (by kernel_rfl) ?_))
  (repeat (first | (with_reducible first | apply Tr.next | apply Tr.seq | apply Tr.skip) | (refine Tr.cond_f rfl (by first | (with_reducible assumption) | (with_reducible exact (not_not_intro rfl))) ?_)))
  generalize b = b9
  (((apply Tr.draw); (kernel_rfl)); (refine tkQ 1 (hB := by exact fun _ h => h) (s := by exact sfQ) ?_); (refine tkQ 4 (s := by exact swQ) ?_); (refine tkQ 2 (s := by exact slQ) ?_))
  ((refine TrM.start2 _ (PA.build 0 [] rfl (by exact .inl rfl) (tysOk.get rfl) rfl (tysOk.get rfl) rfl rfl rfl rfl rfl (by repeat (exact BuildP.nil)) rfl) (PA.build1 5 [(146, .agg #[.int .i64 r.no, .int .i64 r.item, .int .i64 r.cust, .int .i64 r.due, .int .i64 r.shelf, .int .i64 r.amount])] rfl (by exact .inl rfl) rfl (tysOk.get rfl) rfl (tysOk.get rfl) rfl rfl rfl rfl rfl (by first | rfl | assumption) rfl) (by kernel_rfl) (by kernel_rfl) (by kernel_rfl) ?_); (refine TrM.settle (by kernel_rfl) (by repeat (first | exact PendOk.nil | refine PendOk.cons rfl (by repeat (first | exact SubFr.nil | refine SubFr.cons rfl ?_)) ?_)) (by exact fun _ h => h) (fun b => ?_)); dsimp only)
  refine TrM.box_own 6 0 (by repeat (first | exact Upd.here | apply Upd.there)) rfl (by intro u hu; cases hu) (by simp [maxLen]) ?_
  ((refine TrM.eff 3 rfl (by kernel_rfl) (by exact .inl rfl) (by repeat (first | exact PendOk.nil | refine PendOk.cons rfl (by repeat (first | exact SubFr.nil | refine SubFr.cons rfl ?_)) ?_)) (by exact (Sub.mem (by repeat (first | exact Sub.refl | apply Sub.cons)))) (by repeat (first | apply AppF.cons | exact AppF.nil)) (by repeat (first | apply AppF.cons | exact AppF.app)) (fun Y X => ?_)))
  refine Exec.append (news := k.reqs.flatMap rqC) rfl rfl (tysOk.get rfl) rfl (tysOk.get rfl) rfl rfl rfl rfl (by repeat (first | exact Del.here | apply Del.there)) (Src.row hrow) (by rw [flatMap_len rqC_len]) (flatMap_one rqC_one _) (by omega) (by omega) rfl (fun A6 c6 hc6 => ?_)
  (refine ⟨_, _, (by repeat (first | apply App.cons | exact App.nil | exact App.app)), (by repeat (first | apply App.cons | exact App.nil | exact App.app)), rfl, (by first | exact Mem.le.refl _ | assumption), (by exact (Sub.mem (by repeat (first | exact Sub.refl | apply Sub.cons)))), ?_⟩)
  rw [zeros0_app, Nat.zero_add]
  ((refine TrM.settle (by kernel_rfl) (by repeat (first | exact PendOk.nil | refine PendOk.cons rfl (by repeat (first | exact SubFr.nil | refine SubFr.cons rfl ?_)) ?_)) (by exact (Sub.mem (by repeat (first | exact Sub.refl | apply Sub.cons)))) (fun b => ?_)); dsimp only)
  ((refine TrM.eff 6 rfl (by kernel_rfl) (by exact .inl rfl) (by repeat (exact PendOk.nil)) (by exact (Sub.mem (by repeat (first | exact Sub.refl | apply Sub.cons)))) (by repeat (first | apply AppF.cons | exact AppF.nil)) (by repeat (first | apply AppF.cons | exact AppF.app)) (fun Y X => ?_)))
  refine Exec.append (news := rqC r) rfl rfl (tysOk.get rfl) rfl (tysOk.get rfl) rfl rfl rfl rfl (by repeat (first | exact Del.here | apply Del.there)) (Src.box (by repeat (first | exact Has.here | apply Has.there))) rfl (rqC_one _) (by omega) (by omega) rfl (fun A8 c8 hc8 => ?_)
  (refine ⟨_, _, (by repeat (first | apply App.cons | exact App.nil | exact App.app)), (by repeat (first | apply App.cons | exact App.nil | exact App.app)), rfl, (by first | exact Mem.le.refl _ | assumption), (by exact (Sub.mem (by repeat (first | exact Sub.refl | apply Sub.cons)))), ?_⟩)
  rw [show k.reqs.flatMap rqC ++ rqC r = (k.reqs ++ [r]).flatMap rqC by rw [List.flatMap_append]; simp, show k.reqs.length + 1 = (k.reqs ++ [r]).length by simp]
  refine TrM.publish (x := ownS 46 6 _ _ _ _) (by repeat (first | exact Del.here | apply Del.there)) (fun M3 hm3 hok3 => ?_)
  have hR : SlOf 6 RRqC M3 (.slice A8 (k.reqs ++ [r]).length c8) (k.reqs ++ [r]) := SlOf.ofOwn hok3 rfl hc8 (rqC_elems _ _)
  ((refine TrM.fin ?_))
  ((refine tkQ 7 (s := by exact Stab.assign rfl) ?_); (refine TrA.done (by kernel_rfl) ?_))
  have hal : (k.reqs ++ [r]).length = k.reqs.length + 1 := by simp
  have hm03 := hm02.trans hm3
  have hps : ∀ p ∈ psF w k r, p ≤ 5 := fun p hp => by
   obtain ⟨i, hi⟩ := List.mem_iff_getElem?.1 hp
   have := ps_lt hi
   omega
  (repeat (first | ((with_reducible refine Tr.step rfl ?_); (first | (refine xaQ ?_) | ((with_reducible refine Knd.buildSlice ?_); (refine Exec.buildSlice (tysOk.get rfl) rfl (tysOk.get rfl) rfl rfl rfl rfl rfl (by repeat (exact BuildP.nil)) rfl (fun b => ?_))))) | (with_reducible first | apply Tr.next | apply Tr.seq | apply Tr.region | apply Tr.nil | apply Tr.block)))
  generalize b = bc
  refine Tr.box_own 1 0 (b := bc) (by repeat (first | exact Upd.here | apply Upd.there)) rfl (by intro u hu; cases hu) (by simp [maxLen]) ?_
  refine gvQ (r := box _ 46 _) ?_
  refine gvQ (r := box _ 44 _) ?_
  refine Tr.loop (α := Nat × Option Addr × Nat) (fun y => ⟨287, [(17, .int .i64 (y.1 : Int)), (16, .int .i64 (startP (psF w k r) y.1 : Int)), (15, .slice y.2.1 y.1 y.2.2), (14, .slice A8 (k.reqs ++ [r]).length c8), (8, .pointer (some ⟨b8, 0, none⟩)), (5, .pointer (some ⟨b5, 0, none⟩)), (4, .pointer (some ⟨b4, 0, none⟩)), (3, .pointer (some ⟨b3, 0, none⟩))], [], M3, ownS 3 1 y.2.1 y.1 y.2.2 (intV (((psF w k r).take y.1).map Int.ofNat)) :: box b8 54 [.bool false, .slice none 0 0, .slice B (confF w k r).length c, .slice D (readsF w k.sups [r]).length cD] :: box b5 46 [.int .i64 r.no, .int .i64 r.item, .int .i64 r.cust, .int .i64 r.due, .int .i64 r.shelf, .int .i64 r.amount] :: box b4 44 [.int .i64 k.known, .slice As k.sups.length cs, .slice Ar k.reqs.length cr, .slice Af k.fits.length cf, .slice Ad k.rds.length cd] :: box b3 38 ws :: ([] ++ F)⟩)
   (fun y => y.1 ≤ (psF w k r).length ∧ y.2.2 ≤ 9223372036854775807) (fun y => (psF w k r).length - y.1) (0, _, 0) ⟨Nat.zero_le _, by simp⟩ hsQ (fun y hy => ?_)
  obtain ⟨i, cB, cc⟩ := y
  obtain ⟨hi, hcc⟩ := hy
  dsimp only at hi hcc ⊢
  by_cases hlt : i < (psF w k r).length
  ·obtain ⟨p, hp⟩ := get_of_lt hlt
   have hpl2 := ps_lt hp
   have hst := startP_le hasc hp
   obtain ⟨yp, hyp⟩ := get_of_lt hpl2
   obtain ⟨-, chB, hatC, rfl⟩ := (hB.mono RI.mono hm3).elem (conf_at hp hyp)
   (refine rQ ?_)
   refine Tr.loop (α := Nat) (fun y => ⟨287, [(16, .int .i64 (y : Int)), (17, .int .i64 (i : Int)), (15, .slice cB i cc), (14, .slice A8 (k.reqs ++ [r]).length c8), (8, .pointer (some ⟨b8, 0, none⟩)), (5, .pointer (some ⟨b5, 0, none⟩)), (4, .pointer (some ⟨b4, 0, none⟩)), (3, .pointer (some ⟨b3, 0, none⟩))], [], M3, ownS 3 1 cB i cc (intV (((psF w k r).take i).map Int.ofNat)) :: box b8 54 [.bool false, .slice none 0 0, .slice B (confF w k r).length c, .slice D (readsF w k.sups [r]).length cD] :: box b5 46 [.int .i64 r.no, .int .i64 r.item, .int .i64 r.cust, .int .i64 r.due, .int .i64 r.shelf, .int .i64 r.amount] :: box b4 44 [.int .i64 k.known, .slice As k.sups.length cs, .slice Ar k.reqs.length cr, .slice Af k.fits.length cf, .slice Ad k.rds.length cd] :: box b3 38 ws :: ([] ++ F)⟩)
    (fun y => y ≤ p) (fun y => p - y) (startP (psF w k r) i) hst hsQ (fun j hj => ?_)
   obtain ⟨y, hy⟩ := get_of_lt (show j < (k.reqs ++ [r]).length by omega)
   obtain ⟨hA8, ch8, hat8, rfl⟩ := hR.elem hy
   simp only [rqC] at hat8
   have hat80 : At M3 (((A8.getD default).add (j * 6)).add 0) [.int .i64 y.no, .int .i64 y.item, .int .i64 y.cust, .int .i64 y.due, .int .i64 y.shelf, .int .i64 y.amount] := hat8.drop 0
   (repeat ((with_reducible refine Tr.seq ?_)))
   (((apply Tr.draw); (kernel_rfl)); (refine tkQ 0 (hB := by exact fun _ h => h) (s := by exact Stab.move rfl) ?_); (refine tkQ 1 (s := by exact Stab.move rfl) ?_); (refine tkQ 2 (s := by exact snQ) ?_); (refine tkQ 3 (s := by exact siQ) ?_); (refine tkQ 4 (s := by exact Stab.move rfl) ?_); ((refine tgQ 5 (q := (decide_eq_true (by omega))) (s := by exact Stab.move rfl) ?_)); ((refine tgQ 6 (q := (decide_eq_true (by omega))) (s := by exact Stab.move rfl) ?_)); ((refine tgQ 7 (q := (decide_eq_true (by omega))) (s := by exact sxQ) ?_)); ((refine tgQ 8 (q := (decide_eq_true (by omega))) (s := by exact Stab.fieldD rfl (tysOk.get rfl) rfl rfl (tysOk.get rfl) rfl) ?_)); ((refine tgQ 9 (q := (decide_eq_true (by omega))) (s := by exact sMQ) ?_)); ((refine tgQ 10 (q := (decide_eq_true (by omega))) (s := by exact sfQ) ?_)); ((refine tgQ 11 (q := (decide_eq_true (by omega))) (s := by exact slQ) ?_)); ((refine tgQ 12 (q := (decide_eq_true (by omega))) (s := by exact Stab.move rfl) ?_)); ((refine tgQ 13 (q := (decide_eq_true (by omega))) (s := by exact sxQ) ?_)); ((refine tgQ 14 (q := (decide_eq_true (by omega))) (s := by exact sMQ) ?_)); ((refine tgQ 15 (q := (decide_eq_true (by omega))) (s := by exact siQ) ?_)); (refine tkQ 16 (s := by exact Stab.pick_td rfl (by omega) rfl) ?_); (refine TrA.done (by kernel_rfl) ?_))
   by_cases hjp : j = p
   ·subst hjp
    obtain rfl : yp = y := Option.some.inj (hyp.symm.trans hy)
    have htk : intV (((psF w k r).take i).map Int.ofNat) ++ [Value.int .i64 (j : Int)] = intV (((psF w k r).take (i + 1)).map Int.ofNat) := by
     rw [List.take_add_one, hp, Option.toList_some, List.map_append, intV_append]; rfl
    (repeat (first | ((with_reducible refine Tr.step rfl ?_); (first | (refine xmQ ?_) | (refine xnQ ?_) | (refine xiQ ?_) | ((with_reducible refine Knd.buildSlice ?_); (refine Exec.buildSlice (tysOk.get rfl) rfl (tysOk.get rfl) rfl rfl rfl rfl rfl (by repeat (first | exact BuildP.nil | ((apply BuildP.one); (rfl); (rfl); (first | rfl | assumption); (repeat (first | exact SetL.z | apply SetL.s))))) rfl (fun b => ?_))))) | (with_reducible first | apply Tr.next | apply Tr.seq | apply Tr.region | apply Tr.nil | apply Tr.skip | apply Tr.exit | apply Tr.then_exit) | ((with_reducible refine Tr.in_exit ?_ ?_); (exact rfl)) | (refine Tr.cond_f rfl (by first | (with_reducible assumption) | (with_reducible exact (not_not_intro rfl)) | omega) ?_)))
    ((refine Tr.step rfl ?_))
    refine Exec.append (news := [.int .i64 (j : Int)]) rfl rfl (tysOk.get rfl) rfl (tysOk.get rfl) rfl rfl rfl rfl (by repeat (first | exact Del.here | apply Del.there)) (Src.box (by repeat (first | exact Has.here | apply Has.there))) rfl (by intro u hu; simp at hu; subst hu; rfl) (by omega) (by omega) rfl (fun A3 c3 hc3 => ?_)
    refine gvQ (r := box _ 3 _) ?_
    rw [htk]
    (repeat (first | ((with_reducible refine Tr.step rfl ?_); (first | (refine xmQ ?_) | (refine xaQ ?_) | (refine xdQ ?_))) | (with_reducible first | apply Tr.next | apply Tr.region | apply Tr.nil | apply Tr.in_normal)))
    refine Tr.again (i + 1, A3, c3) ⟨by simp only; omega, hc3⟩ (by simp only; omega) ?_
    simp only [startP_succ hp]
    exact hsQ
   ·have hne := no_ne hnd hy hyp hjp
    (refine rQ ?_)
    exact Tr.again (j + 1) (by omega) (by omega) hsQ
  have ei : i = (psF w k r).length := by omega
  subst ei
  rw [List.take_length]
  refine pbQ (r := ownS 3 1 cB _ _ _) (fun M4 hm4 hok4 => ?_)
  have hC : Ints M4 (.slice cB ((psF w k r).map Int.ofNat).length cc) ((psF w k r).map Int.ofNat) := Ints.ofOwn hok4 (by simp) hcc
  have hm04 := hm03.trans hm4
  have h3' := h3.mono RRowB.mono hm04
  rw [show (psF w k r).length = ((psF w k r).map Int.ofNat).length by simp]
  have hq0 : ((psF w k r).map Int.ofNat).length = (confF w k r).length := by rw [List.length_map, hpl]
  (repeat (first | ((with_reducible refine Tr.step rfl ?_); (first | (refine xmQ ?_) | (refine xaQ ?_) | (refine xlQ ?_) | (refine xfQ ?_) | (refine xnQ ?_) | (refine xiQ ?_) | ((with_reducible refine Knd.makeSlice ?_); (refine Exec.make rfl rfl (tysOk.get rfl) rfl (tysOk.get rfl) rfl rfl rfl (by omega) (by omega) (by first | omega | (simp; done) | (simp; omega)) (by omega) rfl (fun b => ?_))))) | (with_reducible first | apply Tr.next | apply Tr.seq | apply Tr.region | apply Tr.nil | apply Tr.block | apply Tr.exit | apply Tr.then_exit) | ((with_reducible refine Tr.in_exit ?_ ?_); (exact rfl)) | (refine Tr.cond_f rfl (by first | (with_reducible assumption) | omega) ?_)))
  rw [Int.toNat_natCast]
  generalize b = bf
  refine Tr.many_new ?_
  refine ftQ (r := box bf 78 _) ?_
  refine Tr.loop (α := Nat × List (Option Addr × Nat × List Bool)) (fun y => ⟨287, [(19, .int .i64 (y.1 : Int)), (18, .slice (some ⟨bf, 0, none⟩) k.sups.length k.sups.length), (15, .slice cB ((psF w k r).map Int.ofNat).length cc), (14, .slice A8 (k.reqs ++ [r]).length c8), (8, .pointer (some ⟨b8, 0, none⟩)), (5, .pointer (some ⟨b5, 0, none⟩)), (4, .pointer (some ⟨b4, 0, none⟩)), (3, .pointer (some ⟨b3, 0, none⟩))], [], M4, box bf 78 (bwV y.2 ++ List.replicate (k.sups.length - y.1) (.slice none 0 0)) :: many (bwR 4 y.2) :: box b8 54 [.bool false, .slice none 0 0, .slice B (confF w k r).length c, .slice D (readsF w k.sups [r]).length cD] :: box b5 46 [.int .i64 r.no, .int .i64 r.item, .int .i64 r.cust, .int .i64 r.due, .int .i64 r.shelf, .int .i64 r.amount] :: box b4 44 [.int .i64 k.known, .slice As k.sups.length cs, .slice Ar k.reqs.length cr, .slice Af k.fits.length cf, .slice Ad k.rds.length cd] :: box b3 38 ws :: ([] ++ F)⟩)
   (fun y => y.1 ≤ k.sups.length ∧ y.2.map (·.2.2) = k.fits.take y.1 ∧ ∀ a ∈ y.2, a.2.1 ≤ 9223372036854775807) (fun y => k.sups.length - y.1) (0, []) ⟨Nat.zero_le _, rfl, by simp⟩ hsQ (fun y hy => ?_)
  obtain ⟨i, q⟩ := y
  obtain ⟨hi, hq, hqc⟩ := hy
  dsimp only at hi hq hqc ⊢
  have hql : q.length = i := by
   have := congrArg List.length hq
   rw [List.length_map, List.length_take] at this
   omega
  by_cases hlt : i < k.sups.length
  ·obtain ⟨row, hrw⟩ := get_of_lt (show i < k.fits.length by omega)
   obtain ⟨hAf, chf, hatf, A1, c1, rfl, hrb⟩ := h3'.elem hrw
   have hrowb := boV_row hrb
   have hcl2 : (bwV q ++ List.replicate (k.sups.length - i) (Value.slice none 0 0)).length = k.sups.length := by
    simp only [bwV, List.length_append, List.length_map, List.length_replicate]; omega
   have hrl2 : row.length ≤ 5 := by
    have e := congrArg (fun l => l[i]?) hok.2.2.1.1
    simp only [fitsT, List.getElem?_map] at e
    rw [hrw] at e
    cases hx2 : k.sups[i]? with
    | none => rw [hx2] at e; cases e
    | some sp => rw [hx2] at e; simp only [Option.map_some, Option.some.injEq] at e; rw [← e, List.length_map]; exact hrl
   (repeat (first | ((with_reducible refine Tr.step rfl ?_); (first | (refine xmQ ?_) | ((with_reducible refine Knd.load ?_); (first | (refine xlQ ?_) | (refine xMQ ?_))) | (refine xfQ ?_) | (refine xnQ ?_) | (refine xiQ ?_) | (refine xxQ ?_) | ((with_reducible refine Knd.buildSlice ?_); (refine Exec.buildSlice (tysOk.get rfl) rfl (tysOk.get rfl) rfl rfl rfl rfl rfl (by repeat (exact BuildP.nil)) rfl (fun b => ?_))))) | (with_reducible first | apply Tr.next | apply Tr.seq | apply Tr.region | apply Tr.nil | apply Tr.skip | apply Tr.block) | (refine Tr.cond_t rfl (by first | (with_reducible assumption) | omega) ?_)))
   refine Tr.box_own 1 0 (by repeat (first | exact Upd.here | apply Upd.there)) rfl (by intro u hu; cases hu) (by simp [maxLen]) ?_
   ((refine Tr.step rfl ?_))
   refine Exec.append (news := boV row) rfl rfl (tysOk.get rfl) rfl (tysOk.get rfl) rfl rfl rfl rfl (by repeat (first | exact Del.here | apply Del.there)) (Src.row hrowb) (by simp) (boW_one _) (by omega) (by omega) rfl (fun A3 c3 hc3 => ?_)
   rw [zeros0_app, Nat.zero_add]
   (repeat (first | ((with_reducible refine Tr.step rfl ?_); (first | (refine xmQ ?_) | (refine xaQ ?_) | (refine xdQ ?_) | ((with_reducible refine Knd.store ?_); (refine Exec.storeS rfl rfl (tysOk.get rfl) rfl (by first | rfl | assumption) (by repeat (first | exact Upd.here | apply Upd.there)) (by omega) ?_)) | ((with_reducible refine Knd.indexAddr ?_); (refine Exec.stab rfl (Stab.indexB0 rfl rfl (tysOk.get rfl) rfl (tysOk.get rfl) rfl (by omega) (by omega)) rfl ?_)))) | (with_reducible first | apply Tr.next | apply Tr.region | apply Tr.nil | apply Tr.in_normal)))
   refine Tr.cells (cs' := bwV (q ++ [(A3, c3, row)]) ++ List.replicate (k.sups.length - (i + 1)) (.slice none 0 0)) (by repeat (first | exact Upd.here | apply Upd.there)) (by rw [Int.toNat_natCast]; exact bwV_set q (A3, c3, row) hql hlt) ?_
   refine ftQ (r := many _) ?_
   refine ftQ (r := ownS 4 1 _ _ _ _) ?_
   refine Tr.many_add ?_
   rw [bwR_add 4 q (A3, c3, row)]
   refine ftQ (r := box bf 78 _) ?_
   refine Tr.again (i + 1, q ++ [(A3, c3, row)]) ⟨by simp only; omega, ?_, ?_⟩ (by simp only; omega) hsQ
   ·simp only [List.map_append, hq, List.map_cons, List.map_nil]
    rw [List.take_add_one, hrw]
    rfl
   ·intro a ha
    rcases List.mem_append.1 ha with h | h
    ·exact hqc a h
    ·simp at h; subst h; exact hc3
  have ei : i = k.sups.length := by omega
  subst ei
  rw [Nat.sub_self, List.replicate_zero, List.append_nil]
  rw [List.take_of_length_le (by omega)] at hq
  have hr1 : okRq r := ((okT_app hok.2.1).1 (askE_zero h0).2.2).1
  (repeat (first | ((with_reducible refine Tr.step rfl ?_); (first | (refine xmQ ?_) | ((with_reducible refine Knd.load ?_); (first | (refine xlQ ?_) | (refine Exec.stab rfl (Stab.loadW rfl (tysOk.get rfl) rfl (by repeat (first | exact Has.here | apply Has.there)) (by assumption)) rfl ?_))) | (refine xfQ ?_) | (refine xnQ ?_) | (refine xiQ ?_))) | (with_reducible first | apply Tr.next | apply Tr.seq | apply Tr.region | apply Tr.nil | apply Tr.exit | apply Tr.then_exit) | ((with_reducible refine Tr.in_exit ?_ ?_); (exact rfl)) | (refine Tr.cond_f rfl (by first | (with_reducible assumption) | omega) ?_)))
  ((refine Tr.step rfl ?_)); refine Exec.call0 rfl (new_fn M4 ws w (hw.mono hm04) As cs k.sups (h1.mono RSpC.mono hm04) k.known) rfl ?_
  rintro _ M5 hm5 (⟨hno, rfl⟩ | ⟨-, hno, rfl⟩ | ⟨-, -, xa, rfl, hxa⟩)
  ·exact absurd (alone_ok hok).1 hno
  ·exact absurd (alone_ok hok).2 hno
  have hm05 := hm04.trans hm5
  obtain ⟨v1, v2, v3, v4, v5, v6, v7, v8, rfl⟩ := hxa.lit
  have hfa : (mkF w (bkN k.known k.sups) []).fits.length = k.sups.length := by simp [mkF, fitsT, bkN]
  (repeat (first | ((with_reducible refine Tr.step rfl ?_); (first | (refine xmQ ?_) | (refine xaQ ?_) | ((with_reducible refine Knd.load ?_); (first | (refine xwQ ?_) | (refine Exec.stab rfl (Stab.loadW rfl (tysOk.get rfl) rfl (by repeat (first | exact Has.here | apply Has.there)) (by assumption)) rfl ?_))) | (refine xfQ ?_) | (refine xiQ ?_) | ((with_reducible refine Knd.store ?_); (first | (refine xSQ ?_) | (refine xWQ ?_))) | ((with_reducible refine Knd.alloc ?_); (refine Exec.alloc (tysOk.get rfl) rfl rfl (fun b => ?_))) | ((with_reducible refine Knd.extract ?_); (refine Exec.stab rfl (Stab.extract rfl rfl) rfl ?_)))) | (with_reducible first | apply Tr.next | apply Tr.seq | apply Tr.region | apply Tr.nil | apply Tr.skip) | (refine Tr.cond_f rfl (by first | (with_reducible assumption) | (with_reducible exact (not_not_intro rfl))) ?_)))
  ((refine Tr.step rfl ?_)); refine Exec.call0 rfl (askA_fn M5 ws w (hw.mono hm05) _ (mkF w (bkN k.known k.sups) []) hxa (by omega) (zeroR r)) rfl ?_
  rintro _ M6 hm6 (⟨-, -, x2, a2, rfl, D2, cD2, hD2, ⟨hF2, hx2, al2, A2', c2', hlex2, rfl, hal2⟩ | ⟨hF2, -⟩⟩ | ⟨hne, -⟩)
  rotate_left
  ·exact absurd (feas_zero w k.known hok.2.1.2.1 r) hF2
  ·exact absurd (alone_ask hok hr1) hne
  have hm06 : Mem.le M M6 := hm05.trans hm6
  have hm46 : Mem.le M4 M6 := hm5.trans hm6
  have hofl : (more w (mkF w (bkN k.known k.sups) []) (zeroR r)).fits.length = k.sups.length := by simp [more, mkF, fitsT, bkN]
  have hOf : (more w (mkF w (bkN k.known k.sups) []) (zeroR r)).fits = k.sups.map fun x => [fitF w k.known x r] := rfl
  obtain ⟨Es, es, Er, er, Ef, ef, Ed, ed, rfl, k1, k2, k3, k4⟩ := id hx2
  (repeat (first | ((with_reducible refine Tr.step rfl ?_); (first | (refine xmQ ?_) | (refine xaQ ?_) | (refine xiQ ?_) | ((with_reducible refine Knd.pick ?_); (refine Exec.stab rfl (Stab.pick_fd rfl (by (with_reducible exact (not_not_intro rfl))) rfl) rfl ?_)) | (refine xWQ ?_) | ((with_reducible refine Knd.alloc ?_); (refine Exec.alloc (tysOk.get rfl) rfl rfl (fun b => ?_))) | ((with_reducible refine Knd.extract ?_); (refine Exec.stab rfl (Stab.extract rfl rfl) rfl ?_)))) | (with_reducible first | apply Tr.next | apply Tr.seq | apply Tr.region | apply Tr.nil) | ((refine Tr.guard_y' rfl rfl rfl (by first | (with_reducible assumption) | (with_reducible exact (not_not_intro rfl))) ?_); (first | (refine xmQ ?_) | (refine xlQ ?_) | (refine xfQ ?_) | (refine xnQ ?_) | (refine xiQ ?_))) | (with_reducible first | apply Tr.skip | apply Tr.block) | (refine Tr.cond_f rfl (by first | (with_reducible assumption) | omega) ?_)))
  rename_i b20 b22 b23
  generalize b = b24
  refine gvQ (r := box b24 54 _) ?_
  refine gvQ (r := box b22 46 _) ?_
  refine gvQ (r := box b20 44 _) ?_
  refine gvQ (r := box b8 54 _) ?_
  refine gvQ (r := box b5 46 _) ?_
  refine ftQ (r := many _) ?_
  refine ftQ (r := box bf 78 _) ?_
  clear hx2
  generalize more w (mkF w (bkN k.known k.sups) []) (zeroR r) = kO at k1 k2 k3 k4 hofl hOf ⊢
  refine Tr.loop (α := Nat × Mem × List (Option Addr × Nat × List Bool)) (fun y => ⟨287, [(26, .int .i64 (y.1 : Int)), (23, .pointer (some ⟨b23, 0, none⟩)), (18, .slice (some ⟨bf, 0, none⟩) k.sups.length k.sups.length), (15, .slice cB ((psF w k r).map Int.ofNat).length cc), (14, .slice A8 (k.reqs ++ [r]).length c8), (4, .pointer (some ⟨b4, 0, none⟩)), (3, .pointer (some ⟨b3, 0, none⟩))], [], y.2.1, box bf 78 (bwV (y.2.2 ++ q.drop y.1)) :: many (bwR 4 (q.drop y.1)) :: box b23 44 [.int .i64 kO.known, .slice Es kO.sups.length es, .slice Er kO.reqs.length er, .slice Ef kO.fits.length ef, .slice Ed kO.rds.length ed] :: box b4 44 [.int .i64 k.known, .slice As k.sups.length cs, .slice Ar k.reqs.length cr, .slice Af k.fits.length cf, .slice Ad k.rds.length cd] :: box b3 38 ws :: ([] ++ F)⟩)
   (fun y => y.1 ≤ k.sups.length ∧ Mem.le M6 y.2.1 ∧ y.2.2.length = y.1 ∧ y.2.2.map (·.2.2) = (fitsT w k.known k.sups (k.reqs ++ [r])).take y.1 ∧ ∀ a ∈ y.2.2, a.2.1 ≤ 9223372036854775807 ∧ Bools y.2.1 (.slice a.1 a.2.2.length a.2.1) a.2.2) (fun y => k.sups.length - y.1) (0, M6, []) ⟨Nat.zero_le _, Mem.le.refl _, rfl, rfl, by simp⟩ hsQ (fun y hy => ?_)
  obtain ⟨i, M7, p⟩ := y
  obtain ⟨hi, hm7, hpi, hpf, hpc⟩ := hy
  dsimp only at hi hm7 hpi hpf hpc ⊢
  by_cases hlt : i < k.sups.length
  ·obtain ⟨sp, hsp⟩ := get_of_lt hlt
   obtain ⟨a, ha⟩ := get_of_lt (show i < q.length by omega)
   obtain ⟨qa, qc, row⟩ := a
   have hrow : k.fits[i]? = some row := by rw [← hq, List.getElem?_map, ha]; rfl
   have hrow2 : (fitsT w k.known k.sups k.reqs)[i]? = some row := by rw [hok.2.2.1.1]; exact hrow
   have hOi : kO.fits[i]? = some [fitF w k.known sp r] := by rw [hOf, List.getElem?_map, hsp]; rfl
   have happ := fitsT_app w k.known k.sups k.reqs r hrow2 hsp
   generalize fitF w k.known sp r = bb at hOi happ
   obtain ⟨hEf, chE, hatE, A2, c2, rfl, hob⟩ := (k3.mono RRowB.mono hm7).elem hOi
   obtain ⟨hA2, chb, hatb, rfl⟩ := hob.elem (show [bb][0]? = some bb from rfl)
   have hl1 : [bb].length = 1 := rfl
   have hcl3 : (bwV (p ++ (qa, qc, row) :: q.drop (i + 1))).length = k.sups.length := by
    simp only [bwV, List.length_append, List.length_map, List.length_cons, List.length_drop]; omega
   have hdr : q.drop i = (qa, qc, row) :: q.drop (i + 1) := by
    obtain ⟨h, e⟩ := List.getElem?_eq_some_iff.1 ha
    rw [List.drop_eq_getElem_cons h, e]
   have hget : (bwV (p ++ (qa, qc, row) :: q.drop (i + 1)))[i]? = some (.slice qa row.length qc) := by
    rw [bwV, List.map_append, List.getElem?_append_right (by rw [List.length_map, hpi]; exact Nat.le_refl _), List.length_map, hpi, Nat.sub_self]; rfl
   rw [hdr]
   refine Tr.many_out (i := 0) (r := ownS 4 1 qa row.length qc (boV row)) (by repeat (first | exact Del.here | apply Del.there)) rfl ?_
   rw [show (bwR 4 ((qa, qc, row) :: q.drop (i + 1))).eraseIdx 0 = bwR 4 (q.drop (i + 1)) from rfl]
   (refine rQ ?_)
   refine ftQ (r := box bf 78 _) ?_
   have hrl3 : row.length ≤ 5 := by
    simp only [fitsT, List.getElem?_map, hsp, Option.map_some, Option.some.injEq] at hrow2
    rw [← hrow2, List.length_map]; exact hrl
   have hgt : nthL (bwV (p ++ (qa, qc, row) :: q.drop (i + 1))) (i : Int).toNat = some (.slice qa row.length qc) := by rw [nthL_eq, Int.toNat_natCast]; exact hget
   generalize hcells : bwV (p ++ (qa, qc, row) :: q.drop (i + 1)) = cells at hcl3 hgt ⊢
   refine Tr.cut (α := Option Addr × Nat) (fun y => ⟨287, [(26, .int .i64 (i : Int)), (23, .pointer (some ⟨b23, 0, none⟩)), (18, .slice (some ⟨bf, 0, none⟩) k.sups.length k.sups.length), (15, .slice cB ((psF w k r).map Int.ofNat).length cc), (14, .slice A8 (k.reqs ++ [r]).length c8), (4, .pointer (some ⟨b4, 0, none⟩)), (3, .pointer (some ⟨b3, 0, none⟩))], [], M7, box bf 78 (bwV ((p ++ [(y.1, y.2, row ++ [bb])]) ++ q.drop (i + 1))) :: ownS 4 1 y.1 (row ++ [bb]).length y.2 (boV (row ++ [bb])) :: many (bwR 4 (q.drop (i + 1))) :: box b23 44 [.int .i64 kO.known, .slice Es kO.sups.length es, .slice Er kO.reqs.length er, .slice Ef kO.fits.length ef, .slice Ed kO.rds.length ed] :: box b4 44 [.int .i64 k.known, .slice As k.sups.length cs, .slice Ar k.reqs.length cr, .slice Af k.fits.length cf, .slice Ad k.rds.length cd] :: box b3 38 ws :: ([] ++ F)⟩)
    (fun y => y.2 ≤ 9223372036854775807) ?_ (fun y hy => ?_)
   ·(((apply Tr.draw ((box b23 44 _ :: _))); (kernel_rfl)); (refine tkQ 0 (hB := by exact (Sub.mem (by repeat (first | exact Sub.refl | apply Sub.cons)))) (s := by exact Stab.move rfl) ?_); (refine tkQ 1 (s := by exact Stab.move rfl) ?_); (refine tkQ 2 (s := by exact Stab.move rfl) ?_); (refine tkQ 3 (s := by exact Stab.move rfl) ?_); (refine tkQ 4 (s := by exact Stab.indexB0 rfl rfl (tysOk.get rfl) rfl (tysOk.get rfl) rfl (by omega) (by omega)) ?_); (refine tkQ 6 (s := by exact sfQ) ?_); (refine tkQ 7 (s := by exact slQ) ?_); (refine tkQ 8 (s := by exact Stab.move rfl) ?_); (refine tkQ 9 (s := by exact sxQ) ?_); (refine tkQ 10 (s := by exact sMQ) ?_); (refine tkQ 11 (s := by exact sxQ) ?_); (refine tkQ 12 (s := by exact sMQ) ?_))
    ((refine TrM.start1 _ (PA.build 13 [(262, .bool bb)] rfl (by exact .inl rfl) (tysOk.get rfl) rfl (tysOk.get rfl) rfl rfl rfl rfl rfl (by repeat (first | exact BuildP.nil | ((apply BuildP.one); (rfl); (rfl); (first | rfl | assumption); (repeat (first | exact SetL.z | apply SetL.s))))) rfl) (by kernel_rfl) ?_); (refine TrM.eff 5 rfl (by kernel_rfl) (by exact .inl rfl) (by repeat (first | exact PendOk.nil | refine PendOk.cons rfl (by repeat (first | exact SubFr.nil | refine SubFr.cons rfl ?_)) ?_)) (by exact (Sub.mem (by repeat (first | exact Sub.refl | apply Sub.cons)))) (by repeat (first | apply AppF.cons | exact AppF.nil)) (by repeat (first | apply AppF.cons | exact AppF.app)) (fun Y X => ?_)))
    refine Exec.stab rfl (Stab.load rfl (tysOk.get rfl) rfl (by repeat (first | exact Has.here | apply Has.there)) hgt) rfl ?_
    (refine ⟨_, _, (by repeat (first | apply App.cons | exact App.nil | exact App.app)), (by repeat (first | apply App.cons | exact App.nil | exact App.app)), rfl, (by first | exact Mem.le.refl _ | assumption), (by exact (Sub.mem (by repeat (first | exact Sub.refl | apply Sub.cons)))), ?_⟩)
    ((refine TrM.settle (by kernel_rfl) (by repeat (first | exact PendOk.nil | refine PendOk.cons rfl (by repeat (first | exact SubFr.nil | refine SubFr.cons rfl ?_)) ?_)) (by exact (Sub.mem (by repeat (first | exact Sub.refl | apply Sub.cons)))) (fun b => ?_)); dsimp only)
    ((refine TrM.eff 14 rfl (by kernel_rfl) (by exact .inl rfl) (by repeat (exact PendOk.nil)) (by exact (Sub.mem (by repeat (first | exact Sub.refl | apply Sub.cons)))) (by repeat (first | apply AppF.cons | exact AppF.nil)) (by repeat (first | apply AppF.cons | exact AppF.app)) (fun Y X => ?_)))
    refine Exec.append (news := boV [bb]) rfl rfl (tysOk.get rfl) rfl (tysOk.get rfl) rfl rfl rfl rfl (by repeat (first | exact Del.here | apply Del.there)) (Src.box (by repeat (first | exact Has.here | apply Has.there))) rfl (boW_one _) (by omega) (by omega) rfl (fun A3 c3 hc3 => ?_)
    (refine ⟨_, _, (by repeat (first | apply App.cons | exact App.nil | exact App.app)), (by repeat (first | apply App.cons | exact App.nil | exact App.app)), rfl, (by first | exact Mem.le.refl _ | assumption), (by exact (Sub.mem (by repeat (first | exact Sub.refl | apply Sub.cons)))), ?_⟩)
    rw [show boV row ++ boV [bb] = boV (row ++ [bb]) by simp [boV], show row.length + 1 = (row ++ [bb]).length by simp]
    ((refine TrM.fin ?_))
    ((refine tkQ 15 (s := by exact Stab.indexB0 rfl rfl (tysOk.get rfl) rfl (tysOk.get rfl) rfl (by omega) (by omega)) ?_); (refine TrA.eff 16 rfl (by kernel_rfl) (by exact .inl rfl) ?_); (((refine Knd.store ?_); ((refine Exec.storeS rfl rfl (tysOk.get rfl) rfl (by first | rfl | assumption) (by repeat (first | exact Upd.here | apply Upd.there)) (by omega) ?_)))); (refine ⟨(by first | exact Mem.le.refl _ | assumption), (by exact (Sub.mem (by repeat (first | exact Sub.refl | apply Sub.cons)))), ?_⟩); (refine TrA.done (by kernel_rfl) ?_))
    refine gvQ (r := box _ 4 _) ?_
    refine Tr.cells (b := bf) (cs' := bwV ((p ++ [(A3, c3, row ++ [bb])]) ++ q.drop (i + 1))) (by repeat (first | exact Upd.here | apply Upd.there)) (by rw [Int.toNat_natCast, ← hcells]; exact bwV_put p _ _ (A3, c3, row ++ [bb]) hpi) ?_
    refine ftQ (r := many _) ?_
    refine ftQ (r := ownS 4 1 _ _ _ _) ?_
    refine ftQ (r := box bf 78 _) ?_
    exact Tr.land (A3, c3) hc3 hsQ
   obtain ⟨A3, c3⟩ := y
   dsimp only at hy ⊢
   refine pbQ (r := ownS 4 1 A3 _ _ _) (fun M8 hm8 hok8 => ?_)
   have hb8 : Bools M8 (.slice A3 (row ++ [bb]).length c3) (row ++ [bb]) := SlOf.ofOwn hok8 rfl hy (boW_elems _ _)
   (repeat (first | ((with_reducible refine Tr.step rfl ?_); (first | (refine xmQ ?_) | (refine xaQ ?_) | (refine xdQ ?_))) | (with_reducible first | apply Tr.next | apply Tr.region | apply Tr.nil | apply Tr.in_normal)))
   refine Tr.again (i + 1, M8, p ++ [(A3, c3, row ++ [bb])]) ⟨by simp only; omega, hm7.trans hm8, by simp [hpi], ?_, ?_⟩ (by simp only; omega) hsQ
   ·simp only [List.map_append, hpf, List.map_cons, List.map_nil]
    rw [List.take_add_one, happ]
    rfl
   ·intro a ha
    rcases List.mem_append.1 ha with h | h
    ·exact ⟨(hpc a h).1, (hpc a h).2.mono RBo.mono hm8⟩
    ·simp at h; subst h; exact ⟨hy, hb8⟩
  have ei : i = k.sups.length := by omega
  subst ei
  have hqd : q.drop k.sups.length = [] := List.drop_of_length_le (by omega)
  rw [hqd, List.append_nil]
  have hfl3 : (fitsT w k.known k.sups (k.reqs ++ [r])).length = k.sups.length := by simp [fitsT]
  rw [List.take_of_length_le (by omega)] at hpf
  refine Tr.box_own 1 k.sups.length (b := bf) (by repeat (first | exact Upd.here | apply Upd.there)) (by simp [bwV, hpi]) (by intro u hu; simp only [bwV, List.mem_map] at hu; obtain ⟨a, -, rfl⟩ := hu; rfl) (by simp only [maxLen]; omega) ?_
  refine pbQ (r := ownS 78 1 _ _ _ _) (fun M8 hm8 hok8 => ?_)
  have hFT : Fits2 M8 (.slice (some ⟨bf, 0, none⟩) (fitsT w k.known k.sups (k.reqs ++ [r])).length k.sups.length) (fitsT w k.known k.sups (k.reqs ++ [r])) := by
   rw [← hpf]
   exact SlOf.ofOwn hok8 (by simp [hpi]) (by omega) (bwV_elems M8 p fun a ha => ⟨(hpc a ha).1, (hpc a ha).2.mono RBo.mono hm8⟩)
  have hm08 : Mem.le M M8 := hm06.trans (hm7.trans hm8)
  have hm38 : Mem.le M3 M8 := hm4.trans (hm46.trans (hm7.trans hm8))
  have hkb : RBp M8 (.agg #[.int .i64 0, .slice As k.sups.length cs, .slice A8 (k.reqs ++ [r]).length c8, .slice none 0 0, .slice none 0 0]) ⟨0, k.sups, k.reqs ++ [r], [], []⟩ := ⟨As, cs, A8, c8, none, 0, none, 0, rfl, h1.mono RSpC.mono hm08, hR.mono RRqC.mono hm38, SlOf.nil _ _ _, SlOf.nil _ _ _⟩
  have hv := okT_vld (w := w) (known := k.known) (askE_zero h0).2.2
  have rs : I64s (amS k.sups) := fun x hx => by have := hv.rs x hx; omega
  have rn : I64s (amR (k.reqs ++ [r])) := fun x hx => by have := hv.rn x hx; omega
  (repeat (first | ((with_reducible refine Tr.step rfl ?_); (first | (refine xmQ ?_) | (refine xlQ ?_) | (refine xfQ ?_) | (refine xnQ ?_) | (refine xiQ ?_) | ((with_reducible refine Knd.build ?_); (refine Exec.stab rfl (Stab.build tysOk rfl rfl rfl rfl (by repeat (first | exact BuildP.nil | ((apply BuildP.one); (rfl); (rfl); (first | rfl | assumption); (repeat (first | exact SetL.z | apply SetL.s)))))) rfl ?_)))) | (with_reducible first | apply Tr.next | apply Tr.seq | apply Tr.region | apply Tr.nil | apply Tr.exit | apply Tr.then_exit) | ((with_reducible refine Tr.in_exit ?_ ?_); (exact rfl)) | (refine Tr.cond_f rfl (by first | (with_reducible assumption) | omega) ?_)))
  ((refine Tr.step rfl ?_)); refine Exec.call0 rfl (lamounts_fn M8 _ ⟨0, k.sups, k.reqs ++ [r], [], []⟩ hkb (by show k.sups.length ≤ _; omega) (by show (k.reqs ++ [r]).length ≤ _; omega)) rfl ?_
  rintro _ M9 hm9 ⟨A3, c3, A4, c4, rfl, t1, t2⟩
  have hcut := cut_fn M9 (some ⟨bf, 0, none⟩) A3 A4 cB k.sups.length c3 c4 cc _ (amS k.sups) (amR (k.reqs ++ [r])) _ (hFT.mono RRowB.mono hm9) t1 t2 (hC.mono RI.mono (hm46.trans (hm7.trans (hm8.trans hm9)))) rs rn
  rw [hfl3] at hcut
  (repeat (first | ((with_reducible refine Tr.step rfl ?_); (first | (refine xmQ ?_) | (refine xaQ ?_) | ((with_reducible refine Knd.extract ?_); (refine Exec.stab rfl (Stab.extract rfl rfl) rfl ?_)))) | (with_reducible first | apply Tr.next | apply Tr.seq | apply Tr.region | apply Tr.nil)))
  ((refine Tr.step rfl ?_))
  refine Exec.call0 rfl hcut rfl ?_
  rintro _ _ hm10 ⟨⟨hvf, -⟩ | ⟨-, q2, rfl, hq2⟩, rfl⟩
  ·exact absurd (vld_iff.2 hv) (by rw [hvf]; simp)
  have hq3 : q2 = true := hq2.2 (cut_ok h0 hF)
  subst hq3
  have hm010 := hm08.trans hm9
  (refine rQ ?_)
  (refine dnQ (hL := by exact ⟨[_, _, _, _], rfl⟩) ⟨rfl, ?_⟩)
  rfl
end Go.Proofs.YtmikfjcdgkopkaaGreat

