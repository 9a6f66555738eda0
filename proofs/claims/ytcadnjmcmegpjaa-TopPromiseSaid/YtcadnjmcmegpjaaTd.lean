/-
  Texts of the proof, one after the other.
  Conditions: none.
-/
import Derived.Test.YtcadnjmcmegpjaaTBfTail
import Derived.Test.YtcadnjmcmegpjaaTBfPend
import Derived.Test.YtcadnjmcmegpjaaTBfRow
import Derived.Test.YtcadnjmcmegpjaaRows
import Derived.ProofKit
import Derived.Test.YtcadnjmcmegpjaaTBfStruct
import Derived.Test.YtcadnjmcmegpjaaTBfDelN
import Derived.Test.YtcadnjmcmegpjaaTXs
import Derived.Test.YtcadnjmcmegpjaaTc
/-
 Refusals: books that are small, lists that are equal.
 Conditions: none.
-/
namespace Go.Proofs.Ytcadnjmcmegpjaa
open Go Bf
attribute [local irreducible] Tr Exec Stab HasTy Go.Addr.add IntKind.wrap
structure FewB (w : Wd) (k : Bp) : Prop where
 fa : w.facts.length ≤ 30
 sw : w.swaps.length ≤ 12
 sl : k.sups.length ≤ 5
 rl : k.reqs.length ≤ 5
 fl : k.fits.length ≤ 12
 rows : ∀ x ∈ k.fits, x.length ≤ 12
 rd : k.rds.length ≤ 60
set_option maxRecDepth 20000 in
theorem few04_fn (M : Mem) (A : Option Addr) (n c : Nat) : Fn0 Try.prog 42 [.slice A n c] M (fun r M' => (∃ b : Bool, r = .bool b ∧ (b = true → n ≤ 30)) ∧ M = M') := by
 refine Fn.intro Try.func42 rfl rfl Try.ntmps42 rfl fun E F => ?_
 by_cases h : n ≤ 30
 ·(refine rQ ?_)
  (refine dnQ (hL := by exact ⟨[], rfl⟩) ⟨rfl, ?_⟩)
  exact ⟨⟨true, by rw [decide_eq_true (by omega)]; rfl, fun _ => h⟩, rfl⟩
 ·(refine rQ ?_)
  (refine dnQ (hL := by exact ⟨[], rfl⟩) ⟨rfl, ?_⟩)
  exact ⟨⟨false, by rw [decide_eq_false (by omega)]; rfl, fun h => (by cases h)⟩, rfl⟩
set_option maxRecDepth 20000 in
set_option maxHeartbeats 2000000 in
theorem few29_fn (M : Mem) (ws : List Value) (w : Wd) (hw : RWd M ws w) (A B : Option Addr) (n c m k : Nat) : Fn0 Try.prog 14 [.agg ws.toArray, .slice A n c, .slice B m k] M (fun r M' => (∃ b : Bool, r = .bool b ∧ (b = true → w.facts.length ≤ 30 ∧ w.swaps.length ≤ 12)) ∧ M = M') := by
 obtain ⟨h11, hone, ⟨A7, c7, h7, -⟩, A10, c10, h10, -⟩ := hw
 refine Fn.intro Try.func14 rfl rfl Try.ntmps14 rfl fun E F => ?_
 (repeat (first | ((with_reducible refine Tr.step rfl ?_); (first | (refine xaQ ?_) | ((with_reducible refine Knd.load ?_); (refine Exec.stab rfl (Stab.load rfl (tysOk.get rfl) rfl (by repeat (first | exact Has.here | apply Has.there)) (by assumption)) rfl ?_)) | (refine xfQ ?_) | ((with_reducible refine Knd.box ?_); (refine Exec.box rfl rfl (fun b => ?_))))) | (with_reducible first | apply Tr.next | apply Tr.seq | apply Tr.region | apply Tr.nil)))
 ((refine Tr.step rfl ?_)); refine Exec.call0 rfl (few04_fn M A10 w.facts.length c10) rfl ?_
 rintro _ _ _ ⟨⟨b, rfl, hb⟩, rfl⟩
 cases b with
 | false =>
  (refine rQ ?_)
  (refine dnQ (hL := by exact ⟨[_], rfl⟩) ⟨rfl, ?_⟩)
  exact ⟨⟨false, rfl, fun h => (by cases h)⟩, rfl⟩
 | true =>
 by_cases h1 : w.swaps.length ≤ 12
 rotate_left
 ·(repeat (first | ((with_reducible refine Tr.step rfl ?_); (first | (refine xmQ ?_) | (refine xaQ ?_) | ((with_reducible refine Knd.pick ?_); (first | (refine Exec.stab rfl (Stab.pick_t rfl (by (with_reducible rfl)) rfl) rfl ?_) | (refine Exec.stab rfl (Stab.pick_f rfl (by (with_reducible rfl)) rfl) rfl ?_) | (refine Exec.stab rfl (Stab.pick_fd rfl (by omega) rfl) rfl ?_))))) | (with_reducible first | apply Tr.next | apply Tr.nil) | ((refine Tr.guard_l rfl rfl rfl (by (with_reducible rfl)) ?_); (first | ((with_reducible refine Knd.load ?_); (refine Exec.stab rfl (Stab.load rfl (tysOk.get rfl) rfl (by repeat (first | exact Has.here | apply Has.there)) (by assumption)) rfl ?_)) | (refine xfQ ?_) | (refine xnQ ?_) | (refine xiQ ?_))) | (refine Tr.guard_s1 rfl rfl rfl (by (with_reducible rfl)) rfl rfl ?_) | (refine Tr.guard_n rfl rfl rfl (by first | (with_reducible assumption) | omega) rfl rfl ?_) | (with_reducible refine Tr.ret ?_)))
  (refine dnQ (hL := by exact ⟨[_], rfl⟩) ⟨rfl, ?_⟩)
  exact ⟨⟨false, rfl, fun h => (by cases h)⟩, rfl⟩
 by_cases h2 : n ≤ 8
 rotate_left
 ·(repeat (first | ((with_reducible refine Tr.step rfl ?_); (first | (refine xmQ ?_) | (refine xaQ ?_) | ((with_reducible refine Knd.pick ?_); (first | (refine Exec.stab rfl (Stab.pick_t rfl (by (with_reducible rfl)) rfl) rfl ?_) | (refine Exec.stab rfl (Stab.pick_td rfl (by omega) rfl) rfl ?_) | (refine Exec.stab rfl (Stab.pick_fd rfl (by omega) rfl) rfl ?_))))) | (with_reducible first | apply Tr.next | apply Tr.nil) | ((refine Tr.guard_l rfl rfl rfl (by (with_reducible rfl)) ?_); (first | ((with_reducible refine Knd.load ?_); (refine Exec.stab rfl (Stab.load rfl (tysOk.get rfl) rfl (by repeat (first | exact Has.here | apply Has.there)) (by assumption)) rfl ?_)) | (refine xfQ ?_) | (refine xnQ ?_) | (refine xiQ ?_))) | ((refine Tr.guard_y rfl rfl rfl (by first | (with_reducible assumption) | omega) ?_); (first | (refine xmQ ?_) | (refine xnQ ?_) | (refine xiQ ?_))) | (refine Tr.guard_n rfl rfl rfl (by first | (with_reducible assumption) | omega) rfl rfl ?_) | (with_reducible refine Tr.ret ?_)))
  (refine dnQ (hL := by exact ⟨[_], rfl⟩) ⟨rfl, ?_⟩)
  exact ⟨⟨false, rfl, fun h => (by cases h)⟩, rfl⟩
 (repeat (first | ((with_reducible refine Tr.step rfl ?_); (first | (refine xmQ ?_) | (refine xaQ ?_) | ((with_reducible refine Knd.pick ?_); (first | (refine Exec.stab rfl (Stab.pick_t rfl (by (with_reducible rfl)) rfl) rfl ?_) | (refine Exec.stab rfl (Stab.pick_td rfl (by omega) rfl) rfl ?_))))) | (with_reducible first | apply Tr.next | apply Tr.nil) | ((refine Tr.guard_l rfl rfl rfl (by (with_reducible rfl)) ?_); (first | ((with_reducible refine Knd.load ?_); (refine Exec.stab rfl (Stab.load rfl (tysOk.get rfl) rfl (by repeat (first | exact Has.here | apply Has.there)) (by assumption)) rfl ?_)) | (refine xfQ ?_) | (refine xnQ ?_) | (refine xiQ ?_))) | ((refine Tr.guard_y rfl rfl rfl (by first | (with_reducible assumption) | omega) ?_); (first | (refine xmQ ?_) | (refine xnQ ?_) | (refine xiQ ?_))) | (with_reducible refine Tr.ret ?_)))
 (refine dnQ (hL := by exact ⟨[_], rfl⟩) ⟨rfl, ?_⟩)
 exact ⟨⟨_, rfl, fun _ => ⟨hb rfl, h1⟩⟩, rfl⟩
set_option maxRecDepth 20000 in
set_option maxHeartbeats 2000000 in
theorem fewTab_fn (M : Mem) (A : Option Addr) (c : Nat) (l : List (List Bool)) (hl : Fits2 M (.slice A l.length c) l) : Fn0 Try.prog 15 [.slice A l.length c] M (fun r M' => (∃ b : Bool, r = .bool b ∧ (b = true → l.length ≤ 12 ∧ ∀ x ∈ l, x.length ≤ 12)) ∧ M = M') := by
 have hll := hl.len_le
 refine Fn.intro Try.func15 rfl rfl Try.ntmps15 rfl fun E F => ?_
 (refine rQ ?_)
 refine Tr.loop (α := Nat) (fun i => ⟨19, [(3, .int .i64 (i : Int)), (0, .slice A l.length c)], [], M, [] ++ F⟩) (fun i => i ≤ l.length ∧ ∀ x ∈ l.take i, x.length ≤ 12) (fun i => l.length - i) 0 ⟨by simp, by simp⟩ hsQ (fun i hi => ?_)
 obtain ⟨hi, hall⟩ := hi
 by_cases hlt : i < l.length
 ·obtain ⟨x, hx⟩ := get_of_lt hlt
  obtain ⟨hA, ch, hat, B, k, rfl, hB⟩ := hl.elem hx
  by_cases h : x.length ≤ 12
  ·(refine rQ ?_)
   refine Tr.again (i + 1) ⟨hlt, fun y hy => ?_⟩ (by omega) hsQ
   rw [List.take_add_one, hx, List.mem_append] at hy
   rcases hy with hy | hy
   ·exact hall y hy
   ·simp at hy; subst hy; exact h
  ·(refine rQ ?_)
   (refine dnQ (hL := by exact ⟨[], rfl⟩) ⟨rfl, ?_⟩)
   exact ⟨⟨false, rfl, fun h => (by cases h)⟩, rfl⟩
 ·have e : i = l.length := by omega
  subst e
  rw [List.take_length] at hall
  by_cases h : l.length ≤ 12
  ·(refine rQ ?_)
   (refine dnQ (hL := by exact ⟨[], rfl⟩) ⟨rfl, ?_⟩)
   exact ⟨⟨true, by rw [decide_eq_true (by omega)]; rfl, fun _ => ⟨h, hall⟩⟩, rfl⟩
  ·(refine rQ ?_)
   (refine dnQ (hL := by exact ⟨[], rfl⟩) ⟨rfl, ?_⟩)
   exact ⟨⟨false, by rw [decide_eq_false (by omega)]; rfl, fun h => (by cases h)⟩, rfl⟩
set_option maxRecDepth 20000 in
set_option maxHeartbeats 4000000 in
theorem few31_fn (M : Mem) (ws : List Value) (w : Wd) (hw : RWd M ws w) (v : Value) (k : Bp) (hk : RBp M v k) : Fn0 Try.prog 5 [.agg ws.toArray, v] M (fun r M' => (∃ b : Bool, r = .bool b ∧ (b = true → FewB w k)) ∧ M = M') := by
 have h11 := hw.len
 obtain ⟨As, cs, Ar, cr, Af, cf, Ad, cd, rfl, h1, h2, h3, h4⟩ := hk
 refine Fn.intro Try.func5 rfl rfl Try.ntmps5 rfl fun E F => ?_
 (repeat (first | ((with_reducible refine Tr.step rfl ?_); (first | (refine xaQ ?_) | ((with_reducible refine Knd.load ?_); (first | (refine xlQ ?_) | (refine Exec.stab rfl (Stab.loadW rfl (tysOk.get rfl) rfl (by repeat (first | exact Has.here | apply Has.there)) (by assumption)) rfl ?_))) | (refine xfQ ?_) | ((with_reducible refine Knd.box ?_); (refine Exec.box rfl rfl (fun b => ?_))))) | (with_reducible first | apply Tr.next | apply Tr.seq | apply Tr.region | apply Tr.nil)))
 ((refine Tr.step rfl ?_)); refine Exec.call0 rfl (few29_fn M ws w hw As Ar k.sups.length cs k.reqs.length cr) rfl ?_
 rintro _ _ _ ⟨⟨b, rfl, hb⟩, rfl⟩
 cases b with
 | false =>
  (refine rQ ?_)
  (refine dnQ (hL := by exact ⟨[_, _], rfl⟩) ⟨rfl, ?_⟩)
  exact ⟨⟨false, rfl, fun h => (by cases h)⟩, rfl⟩
 | true =>
 by_cases e1 : k.sups.length ≤ 5
 rotate_left
 ·(refine rQ ?_)
  (refine dnQ (hL := by exact ⟨[_, _], rfl⟩) ⟨rfl, ?_⟩)
  exact ⟨⟨false, rfl, fun h => (by cases h)⟩, rfl⟩
 by_cases e2 : k.reqs.length ≤ 5
 rotate_left
 ·(refine rQ ?_)
  (refine dnQ (hL := by exact ⟨[_, _], rfl⟩) ⟨rfl, ?_⟩)
  exact ⟨⟨false, rfl, fun h => (by cases h)⟩, rfl⟩
 (refine rQ ?_)
 ((refine Tr.guard_y rfl rfl rfl (by omega) ?_)); refine Exec.call0 rfl (fewTab_fn M Af cf k.fits h3) rfl ?_
 rintro _ _ _ ⟨⟨b, rfl, hb2⟩, rfl⟩
 cases b with
 | false =>
  (refine rQ ?_)
  (refine dnQ (hL := by exact ⟨[_, _], rfl⟩) ⟨rfl, ?_⟩)
  exact ⟨⟨false, rfl, fun h => (by cases h)⟩, rfl⟩
 | true =>
 by_cases e3 : k.rds.length ≤ 60
 ·(refine rQ ?_)
  (refine dnQ (hL := by exact ⟨[_, _], rfl⟩) ⟨rfl, ?_⟩)
  exact ⟨⟨true, by rw [decide_eq_true (by omega)]; rfl, fun _ => ⟨(hb rfl).1, (hb rfl).2, e1, e2, (hb2 rfl).1, (hb2 rfl).2, e3⟩⟩, rfl⟩
 ·(refine rQ ?_)
  (refine dnQ (hL := by exact ⟨[_, _], rfl⟩) ⟨rfl, ?_⟩)
  exact ⟨⟨false, by rw [decide_eq_false (by omega)]; rfl, fun h => (by cases h)⟩, rfl⟩
end Go.Proofs.Ytcadnjmcmegpjaa

/-
 Refusals: Check.
 Conditions: none.
-/
namespace Go.Proofs.Ytcadnjmcmegpjaa
open Go Bf
attribute [local irreducible] Tr Exec Stab HasTy Go.Addr.add IntKind.wrap
def idxN (reqs : List Rq) (n : Int) : Option Nat := (reqs.map (·.no)).findIdx? fun q => decide (q = n)
def MapAt (es : List MapEntry) (l : List Rq) : Prop := IntKeys es ∧ ∀ q : Int, valE q es = (idxN l q).map fun j => .int .i64 (j : Int)
theorem MapAt.nil : MapAt [] [] := ⟨IntKeys.nil, fun q => by simp [valE, lookE, idxN]⟩
theorem MapAt.add {es : List MapEntry} {l : List Rq} (h : MapAt es l) {x : Rq} (hx : x.no ∉ l.map (·.no)) (cl : Nat) : MapAt (updE x.no (.int .i64 (l.length : Int)) es cl).1 (l ++ [x]) := by
 refine ⟨updE_keys h.1, fun q => ?_⟩
 rw [updE_val, h.2 q]
 unfold idxN
 rw [List.map_append, List.findIdx?_append]
 by_cases e : q = x.no
 ·subst e
  rw [if_pos rfl]
  have : (l.map (·.no)).findIdx? (fun q => decide (q = x.no)) = none := by
   rw [List.findIdx?_eq_none_iff]
   intro y hy
   simp only [decide_eq_false_iff_not]
   exact fun h => hx (h ▸ hy)
  rw [this]
  simp
 ·rw [if_neg e]
  have : ([x].map (·.no)).findIdx? (fun q' => decide (q' = q)) = none := by
   rw [List.findIdx?_eq_none_iff]
   intro y hy
   simp at hy
   subst hy
   simp only [decide_eq_false_iff_not]
   exact fun h => e h.symm
  rw [this]
  simp
end Go.Proofs.Ytcadnjmcmegpjaa

/-
 Refusals, plain: what Least answers explains the refusal, and nothing of it can be left out; what Check accepts.
 Conditions: none.
-/
namespace Go.Proofs.Ytcadnjmcmegpjaa
open Go Bf
theorem keep_sub {α : Type} {o : Nat → Bool} : ∀ {l : List α} {i : Nat}, (keep o l i).Sublist l
 | [], _ => List.Sublist.slnil
 | x :: l, i => by
  rw [keep]
  split
  ·exact (keep_sub (l := l)).cons x
  ·exact (keep_sub (l := l)).cons_cons x
theorem keep_snoc {α : Type} (o : Nat → Bool) (l : List α) (x : α) : keep o (l ++ [x]) 0 = keep o l 0 ++ if o l.length = true then [] else [x] := by
 have h := keep_take o (l ++ [x]) 0 l.length x (by simp)
 simp only [Nat.zero_add, List.take_left'] at h
 rw [← h, List.take_of_length_le (by simp)]
theorem keep_idxN {o : Nat → Bool} (l : List Rq) : (keep o l 0).map (·.no) = (idx (fun i => !o i) l.length).map fun p => (l.map (·.no)).getD p 0 := by
 rw [← keep_mapf, keep_map o 0]
 simp [idx]
end Go.Proofs.Ytcadnjmcmegpjaa

/-
 Refusals, plain: the promises of layer 32.
 Conditions: none.
-/
namespace Go.Proofs.Ytcadnjmcmegpjaa
open Go Bf
theorem cutW_vld {w : Wd} {k : Bp} {r : Rq} (h : askE w k r = 0) : Vld (fitsT w k.known k.sups (k.reqs ++ [r])) (amS k.sups) (amR (k.reqs ++ [r])) := okT_vld (askE_zero h).2.2
noncomputable def cutRS (w : Wd) (k : Bp) (r : Rq) : Nat → Bool := cutFin (fitsT w k.known k.sups (k.reqs ++ [r])) (amS k.sups) (amR (k.reqs ++ [r]))
theorem amR_len (l : List Rq) : (amR l).length = l.length := by simp [amR]
theorem cutS_last {w : Wd} {k : Bp} {r : Rq} (h : askE w k r = 0) (hn : ¬ Feas (pbW w k.known k.sups (k.reqs ++ [r]))) : cutRS w k r k.reqs.length = true := by
 obtain ⟨hok, hno, ht⟩ := askE_zero h
 cases hc : cutRS w k r k.reqs.length with
 | true => rfl
 | false =>
  refine absurd ?_ (cutFin_props (cutW_vld h) hn).1
  refine (feasW_keep ht _).1 ?_
  rw [keep_snoc, if_pos (by show (!cutRS w k r k.reqs.length) = true; rw [hc]; rfl), List.append_nil]
  have hf : Feas (pbW w k.known k.sups k.reqs) := by rw [← hok.pb]; exact hok.2.2.2
  exact feasW_sub (SubInj.sub keep_sub) hf
theorem conf_eq {w : Wd} {k : Bp} {r : Rq} : confF w k r = (keep (fun c => !cutRS w k r c) (k.reqs ++ [r]) 0).map (·.no) := by
 rw [keep_idxN]
 unfold confF cutB memF
 rw [List.map_map, amR_len]
 simp only [Bool.not_not]
 refine List.map_congr_left fun p hp => ?_
 simp [Function.comp]
noncomputable def keptR (w : Wd) (k : Bp) (r : Rq) : List Rq := keep (fun c => !cutRS w k r c) k.reqs 0
theorem kept_all {w : Wd} {k : Bp} {r : Rq} (h : askE w k r = 0) (hn : ¬ Feas (pbW w k.known k.sups (k.reqs ++ [r]))) : keep (fun c => !cutRS w k r c) (k.reqs ++ [r]) 0 = keptR w k r ++ [r] := by
 rw [keep_snoc, if_neg (by rw [cutS_last h hn]; decide), keptR]
end Go.Proofs.Ytcadnjmcmegpjaa

/-
 From the promise to what is shipped, plain.
 Conditions: none.
-/
namespace Go.Proofs.Ytcadnjmcmegpjaa
open Go Bf
def bkOf (k : Bp) : Bk := ⟨k.known, k.sups, k.reqs, k.fits, k.rds.length⟩
theorem bkOf_mem {M : Mem} {v : Value} {k : Bp} (h : RBp M v k) : RBk M v (bkOf k) := by
 obtain ⟨As, cs, Ar, cr, Af, cf, Ad, cd, rfl, h1, h2, h3, h4⟩ := h
 exact ⟨As, cs, Ar, cr, Af, cf, Ad, cd, rfl, h1, h2, h3⟩
theorem fit_ready {w : Wd} {t : Int} {x : Sp} {y : Rq} (h : fitF w t x y = true) : x.ready ≤ y.due := by
 unfold fitF couldF at h
 exact of_decide_eq_true (Bool.and_eq_true_iff.1 (Bool.and_eq_true_iff.1 h).1).1
theorem bk_valid {w : Wd} {k : Bp} (h : okB w k) : validB (bkOf k) := by
 obtain ⟨-, ⟨⟨h1, h2⟩, h3, h4⟩, ⟨h5, -⟩, h6⟩ := h
 have hfb : formedB (bkOf k) := by
  refine ⟨h1, h2, fun x hx => ⟨(h3 x hx).2.2.2.2.2, (h3 x hx).2.2.2.1⟩, fun x hx => ⟨(h4 x hx).2.2.2.2.2, ?_⟩, ?_, ?_⟩
  ·have := (h4 x hx).2.2.2.1; omega
  ·show k.fits.length = k.sups.length
   rw [← h5]; simp [fitsT]
  ·show ∀ r ∈ k.fits, r.length = k.reqs.length
   rw [← h5]
   intro r hr
   simp only [fitsT, List.mem_map] at hr
   obtain ⟨x, -, rfl⟩ := hr
   simp
 refine ⟨hfb, fail_nil (begin_fit hfb) ?_ _⟩
 show Feas (pbOf (tabL k.fits (k.reqs.map (·.due)) (k.sups.map (·.ready))) (k.sups.map (·.amount)) (mskL (k.reqs.map (·.amount)) _))
 refine Feas.more (p := pbB k) rfl (by show (mskL _ _).length = _; rw [mskL_length]; rfl) (fun i hi j hj hf => ?_) (fun _ _ => Int.le_refl _) (fun j hj => .inl ?_) h6
 ·have hi : i < k.sups.length := by simpa [pbB, pbOf] using hi
  have hj : j < k.reqs.length := by simpa [pbB, pbOf] using hj
  obtain ⟨x, hx⟩ := get_of_lt hi
  obtain ⟨y, hy⟩ := get_of_lt hj
  have hf : (k.fits.getD i []).getD j false = true := hf
  show ((tabL k.fits (k.reqs.map (·.due)) (k.sups.map (·.ready))).getD i []).getD j false = true
  rw [tabL_get (by simpa using hi) (by simpa using hj), hf, Bool.true_and]
  have e1 : (k.sups.map (·.ready)).getD i 0 = x.ready := by simp [List.getD_eq_getElem?_getD, hx]
  have e2 : (k.reqs.map (·.due)).getD j 0 = y.due := by simp [List.getD_eq_getElem?_getD, hy]
  rw [e1, e2]
  rw [← h5, fitsT_get hx hy] at hf
  exact decide_eq_true (fit_ready hf)
 ·show (mskL _ _).getD j 0 = _
  have hj : j < k.reqs.length := by simpa [pbB, pbOf] using hj
  rw [mskL_getD, if_pos (askF_of (by simpa [beginF, bkOf] using hj) (by rw [begin_br _ _ hj]; omega))]
  rfl
theorem steps_ship {x : Fx} : ∀ {l : List Hp} {s s' : St} {at_ : Nat}, stepsF x s at_ l = some s' → ∀ z ∈ l, z.kind = 3 → ∃ i j : Nat, z.sup = (i : Int) ∧ z.req = (j : Int) ∧ i < s.am.length ∧ j < s.nd.length ∧ (x.fits.getD i []).getD j false = true ∧ s.dy.getD i 0 ≤ z.day ∧ z.day ≤ x.due.getD j 0
 | [], _, _, _, _, z, hz, _ => by cases hz
 | y :: l, s, s', at_, e, z, hz, hk => by
  rw [stepsF] at e
  cases hs : stepF x s y at_ with
  | none => rw [hs] at e; cases e
  | some t =>
   rw [hs] at e
   have st := stepF_some.1 hs
   rcases List.mem_cons.1 hz with rfl | hz
   ·cases st with
    | lose i k e1 e2 e3 e4 => omega
    | late i k => omega
    | ship i j k e1 f1 e2 f2 e3 e4 e5 e6 e7 e8 e9 => exact ⟨i, j, e1, f1, e2, f2, e4, e5, e6⟩
   ·obtain ⟨i, j, a1, a2, a3, a4, a5, a6, a7⟩ := steps_ship (l := l) e z hz hk
    have hl := st.len
    refine ⟨i, j, a1, a2, by omega, by omega, a5, Int.le_trans ?_ a6, a7⟩
    cases st with
    | lose i' k e1 e2 e3 e4 => exact Int.le_refl _
    | late i' k e1 e2 e3 e4 =>
     show s.dy.getD i 0 ≤ (s.dy.set i' y.day).getD i 0
     by_cases hlt : i' < s.dy.length
     ·rw [getD_set _ _ _ _ hlt]
      by_cases c : i = i'
      ·rw [if_pos c, c]; exact e3
      ·rw [if_neg c]; exact Int.le_refl _
     ·rw [List.set_eq_of_length_le (by omega)]; exact Int.le_refl _
    | ship i' j' k e1 f1 e2 f2 e3 e4 e5 e6 e7 e8 e9 => exact Int.le_refl _
theorem conf_last {w : Wd} {k : Bp} {r : Rq} (h : askE w k r = 0) (hn : ¬ Feas (pbW w k.known k.sups (k.reqs ++ [r]))) : ∃ m, (confF w k r).length = m + 1 ∧ (confF w k r)[m]? = some r.no := by
 have e := (conf_eq (w := w) (k := k) (r := r)).trans (congrArg (List.map fun x : Rq => x.no) (kept_all h hn))
 rw [e]
 exact ⟨(keptR w k r).length, by simp, by simp⟩
structure TopI (X0 : Bk) (l0 : List Hp) (s0 : St) (L : List Hp) (s : St) (d : Nat) : Prop where
 run : runF X0 (l0 ++ L) = some s
 br : s.br = s0.br
 kind : ∀ h ∈ L, h.kind = 3
 old : ∀ q, q < X0.reqs.length → (fxB X0).due.getD q 0 < (d : Int) → s.br.getD q 0 < 0 → s.nd.getD q 0 = 0
 len : (L.length : Int) ≤ sumN X0.reqs.length fun q => if (fxB X0).due.getD q 0 < (d : Int) then 25 else 0
theorem top_due {X0 : Bk} (h : validB X0) {q : Nat} (hq : q < X0.reqs.length) : 0 ≤ (fxB X0).due.getD q 0 := by
 have hf := begin_fit h.1
 have hl := begin_len X0
 have hdu := hf.dul
 exact (getD_all hf.dur (by omega)).1
theorem top_zero {X0 : Bk} {l0 : List Hp} {s0 : St} (hv : validB X0) (h : runF X0 l0 = some s0) : TopI X0 l0 s0 [] s0 0 := by
 refine ⟨by rw [List.append_nil]; exact h, rfl, fun h hh => (by cases hh), fun q hq hlt => ?_, ?_⟩
 ·have := top_due hv hq; omega
 ·rw [sumN_zero fun q hq => by rw [if_neg (by have := top_due hv hq; omega)]]
  simp
theorem top_skip {X0 : Bk} {l0 : List Hp} {s0 : St} {L : List Hp} {s : St} {d : Nat} (h : TopI X0 l0 s0 L s d) (hno : ∀ q, q < X0.reqs.length → (fxB X0).due.getD q 0 ≠ (d : Int)) : TopI X0 l0 s0 L s (d + 1) := by
 refine ⟨h.run, h.br, h.kind, fun q hq hlt => h.old q hq (by have := hno q hq; omega), Int.le_trans h.len (Int.le_of_eq (sumN_congr fun q hq => ?_))⟩
 have := hno q hq
 by_cases c : (fxB X0).due.getD q 0 < (d : Int)
 ·rw [if_pos c, if_pos (by omega)]
 ·rw [if_neg c, if_neg (by omega)]
theorem ships_len' (X0 : Bk) (s : St) (day : Int) (h1 : X0.sups.length ≤ 5) (h2 : X0.reqs.length ≤ 5) : (shipsOf (resF X0 s) day).length ≤ 25 := by
 have h := shOut_len (alF (resF X0 s).fits (beginF (resF X0 s)).am (beginF (resF X0 s)).nd) (resF X0 s).reqs day (resF X0 s).sups.length (resF X0 s).reqs.length
 rw [(res_len X0 s).1, (res_len X0 s).2] at h
 have h3 : X0.reqs.length * X0.sups.length ≤ 5 * 5 := Nat.mul_le_mul h2 h1
 unfold shipsOf
 rw [(res_len X0 s).1, (res_len X0 s).2]
 omega
theorem top_ship {X0 : Bk} {l0 : List Hp} {s0 : St} {L : List Hp} {s : St} {d : Nat} (h : TopI X0 l0 s0 L s d) (hsl : X0.sups.length ≤ 5) (hrl : X0.reqs.length ≤ 5) {p : Nat} (hp : p < X0.reqs.length) (hpd : (fxB X0).due.getD p 0 = (d : Int)) (hex : ∃ a, LexMax (pbOf (resF X0 s).fits (beginF (resF X0 s)).am (beginF (resF X0 s)).nd) a) :
  (∃ s2, TopI X0 l0 s0 (L ++ shipsOf (resF X0 s) (d : Int)) s2 (d + 1)) ∧ ∀ z ∈ shipsOf (resF X0 s) (d : Int), z.kind = 3 ∧ z.day = (d : Int) := by
 obtain ⟨s2, hrun2, hfit2, hbr2, l1, l2, hle, hne, hzero⟩ := ships_run h.run (day := (d : Int)) hex
 have hmem := fun (y : Hp) (hy : y ∈ shipsOf (resF X0 s) (d : Int)) => ships_mem h.run hex hy
 obtain ⟨z1, z2, z3, z4⟩ := run_len h.run
 refine ⟨⟨s2, by rw [← List.append_assoc]; exact hrun2, by rw [hbr2]; exact h.br, fun y hy => ?_, fun q hq hlt hb => ?_, ?_⟩, fun z hz => ⟨(hmem z hz).1, (hmem z hz).2.1⟩⟩
 ·rcases List.mem_append.1 hy with hy | hy
  ·exact h.kind y hy
  ·exact (hmem y hy).1
 ·rw [hbr2] at hb
  by_cases c : (fxB X0).due.getD q 0 = (d : Int)
  ·exact hzero q (by omega) (askF_of (by omega) hb) c
  ·rw [hne q c]
   exact h.old q hq (by omega) hb
 ·have h0 := ships_len' X0 s (d : Int) hsl hrl
  have h1 := h.len
  rw [List.length_append]
  have h2 : sumN X0.reqs.length (fun q => if (fxB X0).due.getD q 0 < ((d + 1 : Nat) : Int) then (25 : Int) else 0) = sumN X0.reqs.length (fun q => (if (fxB X0).due.getD q 0 < (d : Int) then (25 : Int) else 0) + if (fxB X0).due.getD q 0 = (d : Int) then 25 else 0) := sumN_congr fun q hq => by
   by_cases c : (fxB X0).due.getD q 0 = (d : Int)
   ·rw [if_pos (by omega), if_neg (by omega), if_pos c]; omega
   ·by_cases c2 : (fxB X0).due.getD q 0 < (d : Int)
    ·rw [if_pos (by omega), if_pos c2, if_neg c]; omega
    ·rw [if_neg (by omega), if_neg c2, if_neg c]; omega
  rw [h2, sumN_add]
  have h3 := sumN_le_of_mem (f := fun q => if (fxB X0).due.getD q 0 = (d : Int) then (25 : Int) else 0) (n := X0.reqs.length) (k := p) (fun i _ => by split <;> omega) hp
  rw [if_pos hpd] at h3
  omega
theorem top_len {X0 : Bk} {l0 : List Hp} {s0 : St} {L : List Hp} {s : St} {d : Nat} (h : TopI X0 l0 s0 L s d) (hrl : X0.reqs.length ≤ 5) : L.length ≤ 125 := by
 have h1 := h.len
 have h2 : sumN X0.reqs.length (fun q => if (fxB X0).due.getD q 0 < (d : Int) then (25 : Int) else 0) ≤ sumN X0.reqs.length (fun _ => (25 : Int)) := sumN_le fun i _ => by split <;> omega
 have h3 : ∀ n : Nat, sumN n (fun _ => (25 : Int)) = 25 * (n : Int) := fun n => by
  induction n with
  | zero => rfl
  | succ n ih => rw [sumN, ih]; omega
 rw [h3] at h2
 omega
structure TopE (X0 : Bk) (l0 l : List Hp) (s : St) : Prop where
 given : ∀ q, q < X0.reqs.length → shipN l q ≤ (beginF X0).nd.getD q 0 ∧ (s.br.getD q 0 < 0 → shipN l q = (beginF X0).nd.getD q 0)
 taken : ∀ i, i < X0.sups.length → shipA l i ≤ (beginF X0).am.getD i 0
 ship : ∀ z ∈ l, z.kind = 3 → ∃ i j : Nat, z.sup = (i : Int) ∧ z.req = (j : Int) ∧ i < X0.sups.length ∧ j < X0.reqs.length ∧ (X0.fits.getD i []).getD j false = true ∧ (beginF X0).dy.getD i 0 ≤ z.day ∧ z.day ≤ (fxB X0).due.getD j 0
 bec : ∀ x ∈ brkF X0 l s, x.1 < X0.reqs.length ∧ x.2 ≠ [] ∧ ∀ t ∈ x.2, t < l0.length ∧ t < l.length ∧ (l.getD t zH).kind ≠ 3
 phys : 0 < (brkF X0 l s).length → (l0.any fun h => decide (h.kind ≠ 3)) = true
 ok : ∀ z ∈ l, OkH X0.sups.length X0.reqs.length z
 amt : ∀ z ∈ l, z.kind ≠ 2 → 1 ≤ z.amt ∧ z.amt ≤ 1048576
theorem top_fin {X0 : Bk} {l0 : List Hp} {s0 : St} {L : List Hp} {s : St} (h : TopI X0 l0 s0 L s 1024) (h0 : runF X0 l0 = some s0) (hd : ∀ q, q < X0.reqs.length → (fxB X0).due.getD q 0 < 1024) : TopE X0 l0 (l0 ++ L) s := by
 have hrun := h.run
 have hok := run_ok hrun
 obtain ⟨hfb, hfit, -⟩ := run_keep hrun
 obtain ⟨z1, z2, z3, z4⟩ := run_len hrun
 have hl := begin_len X0
 have eff := (steps_eff (run_steps hrun).2 (by omega)).1
 have hbec : ∀ x ∈ brkF X0 (l0 ++ L) s, x.1 < X0.reqs.length ∧ x.2 ≠ [] ∧ ∀ t ∈ x.2, t < l0.length ∧ t < (l0 ++ L).length ∧ ((l0 ++ L).getD t zH).kind ≠ 3 := fun x hx => by
  obtain ⟨i, hi, e⟩ := List.getElem_of_mem hx
  obtain ⟨h1, h2, h3⟩ := brk_at (List.getElem?_eq_some_iff.2 ⟨hi, e⟩)
  have hq : x.1 < X0.reqs.length := by omega
  obtain ⟨j, pre, b1, b2, b3, b4⟩ := bec_facts hrun hq h2
  rw [← h3] at b3
  have hj : j < l0.length := by
   rcases run_brk h0 hq with e | ⟨t, e1, e2, -⟩
   ·rw [h.br] at b2; omega
   ·rw [h.br] at b2; omega
  exact ⟨hq, by rw [b3]; simp, fun t ht => by
   rw [b3] at ht
   obtain ⟨c1, c2⟩ := notShip_mem.1 (b4.subset ht)
   exact ⟨by omega, by omega, c2⟩⟩
 refine ⟨fun q hq => ?_, fun i hi => ?_, fun z hz hk => ?_, hbec, fun hlt => ?_, hok, run_amt hrun⟩
 ·have e := (eff q).2.1
  have hr := getD_rng hfit.ndr q
  refine ⟨by omega, fun hb => ?_⟩
  rw [h.old q hq (hd q hq) hb] at e
  omega
 ·have e := (eff i).1
  have hr := getD_rng hfit.amr i
  have := (lossA_sub (List.Sublist.refl _) hok i).2
  omega
 ·obtain ⟨i, j, a1, a2, a3, a4, a5, a6, a7⟩ := steps_ship (run_steps hrun).2 z hz hk
  exact ⟨i, j, a1, a2, by omega, by omega, a5, a6, a7⟩
 ·obtain ⟨x, hx⟩ := get_of_lt hlt
  obtain ⟨h1, h2, h3⟩ := hbec x (List.mem_of_getElem? hx)
  obtain ⟨t, ht⟩ := List.exists_mem_of_ne_nil _ h2
  obtain ⟨c1, c2, c3⟩ := h3 t ht
  rw [List.any_eq_true]
  refine ⟨l0.getD t zH, ?_, decide_eq_true ?_⟩
  ·rw [List.getD_eq_getElem?_getD, List.getElem?_eq_getElem c1]
   exact List.getElem_mem _
  ·rw [getD_app c1] at c3
   exact c3
end Go.Proofs.Ytcadnjmcmegpjaa

/-
 From the promise to what is shipped: the last part of the law, what was promised can be met together.
 Conditions: none.
-/
namespace Go.Proofs.Ytcadnjmcmegpjaa
open Go Bf
attribute [local irreducible] Tr Exec Stab HasTy Go.Addr.add IntKind.wrap
structure TopM (M : Mem) (w : Wd) (k : Bp) (As : Option Addr) (cs : Nat) (Pa : Option Addr) (pc : Nat) (Bs : Option Addr) (ds : Nat) (Br : Option Addr) (dr : Nat) (Bff : Option Addr) (df : Nat) (Bd : Option Addr) (dd : Nat) : Prop where
 ok : okB w k
 s : SlOf 6 RSpC M (.slice As k.sups.length cs) k.sups
 p : SlOf 6 RRqC M (.slice Pa k.reqs.length pc) k.reqs
 g1 : SlOf 6 RSpC M (.slice Bs k.sups.length ds) k.sups
 g2 : SlOf 6 RRqC M (.slice Br k.reqs.length dr) k.reqs
 g3 : Fits2 M (.slice Bff k.fits.length df) k.fits
 g4 : SlOf 5 RRd M (.slice Bd k.rds.length dd) k.rds
 sl : k.sups.length ≤ 5
 rl : k.reqs.length ≤ 5
theorem TopM.mono {M M' : Mem} {w : Wd} {k : Bp} {As : Option Addr} {cs : Nat} {Pa : Option Addr} {pc : Nat} {Bs : Option Addr} {ds : Nat} {Br : Option Addr} {dr : Nat} {Bff : Option Addr} {df : Nat} {Bd : Option Addr} {dd : Nat} (h : TopM M w k As cs Pa pc Bs ds Br dr Bff df Bd dd) (hm : Mem.le M M') : TopM M' w k As cs Pa pc Bs ds Br dr Bff df Bd dd :=
 ⟨h.ok, h.s.mono RSpC.mono hm, h.p.mono RRqC.mono hm, h.g1.mono RSpC.mono hm, h.g2.mono RRqC.mono hm, h.g3.mono RRowB.mono hm, h.g4.mono RRd.mono hm, h.sl, h.rl⟩
set_option maxHeartbeats 16000000 in
set_option maxRecDepth 20000 in
theorem top_e1 (E : World) (F : List Res) (M0 M : Mem) (hm0 : Mem.le M0 M) (w : Wd) (k : Bp) (As : Option Addr) (cs : Nat) (Pa : Option Addr) (pc : Nat) (Bs : Option Addr) (ds : Nat) (Br : Option Addr) (dr : Nat) (Bff : Option Addr) (df : Nat) (Bd : Option Addr) (dd : Nat) (hT : TopM M w k As cs Pa pc Bs ds Br dr Bff df Bd dd) (b11 : Nat) :
  Tr E ⟨481, [(1, .slice As k.sups.length cs), (13, .slice Pa k.reqs.length pc), (11, .pointer (some ⟨b11, 0, none⟩))], [], M, box b11 47 [.int .i64 k.known, .slice Bs k.sups.length ds, .slice Br k.reqs.length dr, .slice Bff k.fits.length df, .slice Bd k.rds.length dd] :: F⟩
   ((tailC 23 (Try.f3.body.getD .skip)).wpIn (rf none) 0 Try.prog (bodyPost Try.prog Try.f3 (Post E F M0 fun v M' A' => A' = [] ∧ (fun r _ => r = .bool true) v M'))) := by
 unfold Try.f3
 dsimp only [tailC, Option.getD_some]
 have hsl := hT.sl
 have hrl := hT.rl
 obtain ⟨hok, hs, hp, -, -, hf, -⟩ := hT
 have h1 := hs
 have h2 := hp
 (refine rQ ?_)
 refine Tr.own_nil 3 1 ?_
 refine Tr.loop (α := Nat × Option Addr × Nat) (fun y => ⟨481, [(444, .int .i64 (y.1 : Int)), (443, .int .i64 (k.sups.length : Int)), (442, .slice As k.sups.length cs), (57, .slice y.2.1 y.1 y.2.2), (58, .slice none 0 0), (13, .slice Pa k.reqs.length pc), (11, .pointer (some ⟨b11, 0, none⟩))], [], M, ownS 3 1 y.2.1 y.1 y.2.2 (intV ((k.sups.take y.1).map (·.amount))) :: box b11 47 [.int .i64 k.known, .slice Bs k.sups.length ds, .slice Br k.reqs.length dr, .slice Bff k.fits.length df, .slice Bd k.rds.length dd] :: F⟩)
  (fun y => y.1 ≤ k.sups.length ∧ y.2.2 ≤ 9223372036854775807) (fun y => k.sups.length - y.1) (0, none, 0) ⟨Nat.zero_le _, by simp⟩ hsQ (fun y hy => ?_)
 obtain ⟨i, A1, c1⟩ := y
 obtain ⟨hi, hc1⟩ := hy
 simp only at hi hc1
 dsimp only
 by_cases hlt : i < k.sups.length
 ·obtain ⟨y, hy⟩ := get_of_lt hlt
  obtain ⟨hA, ch, hat, rfl⟩ := h1.elem hy
  simp only [spC] at hat
  have e1 := nums_take (·.amount) hy
  (repeat (first | ((with_reducible refine Tr.step rfl ?_); (first | (refine xmQ ?_) | ((with_reducible refine Knd.load ?_); (first | (refine xlQ ?_) | (refine Exec.stab rfl (Stab.loadMA rfl (tysOk.get rfl) rfl (by assumption) (by first | rfl | assumption)) rfl ?_))) | (refine xfQ ?_) | (refine xiQ ?_) | ((with_reducible refine Knd.store ?_); (refine Exec.storeW rfl rfl (tysOk.get rfl) (by repeat (first | exact Upd.here | apply Upd.there)) rfl rfl (by repeat (first | (with_reducible assumption) | exact AllOne.nil | exact AllOne.bytes _ | refine AllOne.cons (by first | rfl | assumption) ?_)) ?_)) | ((with_reducible refine Knd.alloc ?_); (refine Exec.alloc (tysOk.get rfl) rfl rfl (fun b => ?_))) | (refine xxQ ?_) | ((with_reducible refine Knd.buildSlice ?_); (refine Exec.buildSlice (tysOk.get rfl) rfl (tysOk.get rfl) rfl rfl rfl rfl rfl (by repeat (first | exact BuildP.nil | ((apply BuildP.one); (rfl); (rfl); (first | rfl | assumption); (repeat (first | exact SetL.z | apply SetL.s))) | ((apply BuildP.many); (rfl); (rfl); (rfl); (rfl); (repeat (first | exact PutL.nil | ((apply PutL.cons); (repeat (first | exact SetL.z | apply SetL.s)))))))) rfl (fun b => ?_))))) | (with_reducible first | apply Tr.next | apply Tr.seq | apply Tr.region | apply Tr.nil | apply Tr.skip | apply Tr.block) | (refine Tr.cond_t rfl (by first | (with_reducible assumption) | (with_reducible rfl) | (with_reducible exact (not_not_intro rfl)) | omega) ?_)))
  rename_i b60
  ((refine Tr.step rfl ?_))
  refine Exec.append (news := [.int .i64 y.amount]) rfl rfl (tysOk.get rfl) rfl (tysOk.get rfl) rfl rfl rfl rfl (by repeat (first | exact Del.here | apply Del.there)) (Src.box (by repeat (first | exact Has.here | apply Has.there))) rfl (by intro u hu; simp at hu; subst hu; rfl) (by omega) (by omega) rfl (fun A3 c3 hc3 => ?_)
  refine gvQ (r := box _ 3 _) ?_
  refine gvQ (r := box _ 72 _) ?_
  rw [show intV ((k.sups.take i).map (·.amount)) ++ [Value.int .i64 y.amount] = intV ((k.sups.take (i + 1)).map (·.amount)) by rw [e1, intV_append]; rfl]
  (refine rQ ?_)
  exact Tr.again (i + 1, A3, c3) ⟨by simp only; omega, hc3⟩ (by simp only; omega) hsQ
 have ei : i = k.sups.length := by omega
 subst ei
 rw [List.take_length]
 (refine rQ ?_)
 refine Tr.own_nil 3 1 ?_
 refine Tr.loop (α := Nat × Option Addr × Nat) (fun y => ⟨481, [(456, .int .i64 (y.1 : Int)), (455, .int .i64 (k.reqs.length : Int)), (454, .slice Pa k.reqs.length pc), (58, .slice y.2.1 y.1 y.2.2), (57, .slice A1 k.sups.length c1), (11, .pointer (some ⟨b11, 0, none⟩))], [], M, ownS 3 1 y.2.1 y.1 y.2.2 (intV ((k.reqs.take y.1).map (·.amount))) :: ownS 3 1 A1 k.sups.length c1 (intV (k.sups.map (·.amount))) :: box b11 47 [.int .i64 k.known, .slice Bs k.sups.length ds, .slice Br k.reqs.length dr, .slice Bff k.fits.length df, .slice Bd k.rds.length dd] :: F⟩)
  (fun y => y.1 ≤ k.reqs.length ∧ y.2.2 ≤ 9223372036854775807) (fun y => k.reqs.length - y.1) (0, none, 0) ⟨Nat.zero_le _, by simp⟩ hsQ (fun y hy => ?_)
 obtain ⟨i, A2, c2⟩ := y
 obtain ⟨hi, hc2⟩ := hy
 simp only at hi hc2
 dsimp only
 by_cases hlt : i < k.reqs.length
 ·obtain ⟨y, hy⟩ := get_of_lt hlt
  obtain ⟨hA, ch, hat, rfl⟩ := h2.elem hy
  simp only [rqC] at hat
  have e1 := nums_take (·.amount) hy
  (repeat (first | ((with_reducible refine Tr.step rfl ?_); (first | (refine xmQ ?_) | ((with_reducible refine Knd.load ?_); (first | (refine xlQ ?_) | (refine Exec.stab rfl (Stab.loadMA rfl (tysOk.get rfl) rfl (by assumption) (by first | rfl | assumption)) rfl ?_))) | (refine xfQ ?_) | (refine xiQ ?_) | ((with_reducible refine Knd.store ?_); (refine Exec.storeW rfl rfl (tysOk.get rfl) (by repeat (first | exact Upd.here | apply Upd.there)) rfl rfl (by repeat (first | (with_reducible assumption) | exact AllOne.nil | exact AllOne.bytes _ | refine AllOne.cons (by first | rfl | assumption) ?_)) ?_)) | ((with_reducible refine Knd.alloc ?_); (refine Exec.alloc (tysOk.get rfl) rfl rfl (fun b => ?_))) | (refine xxQ ?_) | ((with_reducible refine Knd.buildSlice ?_); (refine Exec.buildSlice (tysOk.get rfl) rfl (tysOk.get rfl) rfl rfl rfl rfl rfl (by repeat (first | exact BuildP.nil | ((apply BuildP.one); (rfl); (rfl); (first | rfl | assumption); (repeat (first | exact SetL.z | apply SetL.s))) | ((apply BuildP.many); (rfl); (rfl); (rfl); (rfl); (repeat (first | exact PutL.nil | ((apply PutL.cons); (repeat (first | exact SetL.z | apply SetL.s)))))))) rfl (fun b => ?_))))) | (with_reducible first | apply Tr.next | apply Tr.seq | apply Tr.region | apply Tr.nil | apply Tr.skip | apply Tr.block) | (refine Tr.cond_t rfl (by first | (with_reducible assumption) | (with_reducible rfl) | (with_reducible exact (not_not_intro rfl)) | omega) ?_)))
  ((refine Tr.step rfl ?_))
  refine Exec.append (news := [.int .i64 y.amount]) rfl rfl (tysOk.get rfl) rfl (tysOk.get rfl) rfl rfl rfl rfl (by repeat (first | exact Del.here | apply Del.there)) (Src.box (by repeat (first | exact Has.here | apply Has.there))) rfl (by intro u hu; simp at hu; subst hu; rfl) (by omega) (by omega) rfl (fun A3 c3 hc3 => ?_)
  refine gvQ (r := box _ 3 _) ?_
  refine gvQ (r := box _ 52 _) ?_
  rw [show intV ((k.reqs.take i).map (·.amount)) ++ [Value.int .i64 y.amount] = intV ((k.reqs.take (i + 1)).map (·.amount)) by rw [e1, intV_append]; rfl]
  (refine rQ ?_)
  exact Tr.again (i + 1, A3, c3) ⟨by simp only; omega, hc3⟩ (by simp only; omega) hsQ
 have ei : i = k.reqs.length := by omega
 subst ei
 rw [List.take_length]
 refine pbQ (r := ownS 3 1 A2 _ _ _) (fun M2 hm2 hok2 => ?_)
 refine pbQ (r := ownS 3 1 A1 _ _ _) (fun M3 hm3 hok3 => ?_)
 have hI1 : Ints M3 (.slice A1 (amS k.sups).length c1) (amS k.sups) := Ints.ofOwn hok3 (by simp [amS]) hc1
 have hI2 : Ints M3 (.slice A2 (amR k.reqs).length c2) (amR k.reqs) := (Ints.ofOwn hok2 (by simp) hc2).mono RI.mono hm3
 have hmm := hm2.trans hm3
 have hm03 := hm0.trans hmm
 rw [show k.sups.length = (amS k.sups).length by simp [amS], show k.reqs.length = (amR k.reqs).length by simp [amR]]
 have hv : Vld k.fits (amS k.sups) (amR k.reqs) := by rw [← hok.2.2.1.1]; exact okT_vld hok.2.1
 have rs : I64s (amS k.sups) := fun x hx => by have := hv.rs x hx; omega
 have rn : I64s (amR k.reqs) := fun x hx => by have := hv.rn x hx; omega
 have hF : Feas (pbOf k.fits (amS k.sups) (amR k.reqs)) := hok.2.2.2
 (refine rQ ?_)
 ((refine Tr.step rfl ?_)); refine Exec.call0 rfl (flow_fn M3 Bff A1 A2 df c1 c2 k.fits (amS k.sups) (amR k.reqs) (hf.mono RRowB.mono hmm) hI1 hI2 rs rn) rfl ?_
 rintro _ M7 hm7 (⟨hvf, -⟩ | ⟨-, hnf, -⟩ | ⟨-, a, hmax, A5, c5, rfl, t5⟩)
 ·exact absurd (vld_iff.2 hv) (by rw [hvf]; simp)
 ·exact absurd hF hnf
 have hm07 := hm03.trans hm7
 (refine rQ ?_)
 (refine dnQ (hL := by exact ⟨[_], rfl⟩) ⟨rfl, ?_⟩)
 rfl
end Go.Proofs.Ytcadnjmcmegpjaa

/-
 From the promise to what is shipped: what is given, taken and shipped.
 Conditions: none.
-/
namespace Go.Proofs.Ytcadnjmcmegpjaa
open Go Bf
attribute [local irreducible] Tr Exec Stab HasTy Go.Addr.add IntKind.wrap
theorem req_amt {k : Bk} {q : Nat} {y : Rq} (h : k.reqs[q]? = some y) : y.amount = (beginF k).nd.getD q 0 := by
 show y.amount = (k.reqs.map (·.amount)).getD q 0
 rw [List.getD_eq_getElem?_getD, List.getElem?_map, h]; rfl
theorem sup_amt {k : Bk} {q : Nat} {y : Sp} (h : k.sups[q]? = some y) : y.amount = (beginF k).am.getD q 0 := by
 show y.amount = (k.sups.map (·.amount)).getD q 0
 rw [List.getD_eq_getElem?_getD, List.getElem?_map, h]; rfl
theorem sup_dy {k : Bk} {q : Nat} {y : Sp} (h : k.sups[q]? = some y) : y.ready = (beginF k).dy.getD q 0 := by
 show y.ready = (k.sups.map (·.ready)).getD q 0
 rw [List.getD_eq_getElem?_getD, List.getElem?_map, h]; rfl
theorem req_due' {k : Bk} {q : Nat} {y : Rq} (h : k.reqs[q]? = some y) : y.due = (fxB k).due.getD q 0 := by
 show y.due = (k.reqs.map (·.due)).getD q 0
 rw [List.getD_eq_getElem?_getD, List.getElem?_map, h]; rfl
set_option maxHeartbeats 16000000 in
set_option maxRecDepth 20000 in
theorem top_e2 (E : World) (F : List Res) (M0 M : Mem) (hm0 : Mem.le M0 M) (ws : List Value) (w : Wd) (hw : RWd M ws w) (k : Bp) (As : Option Addr) (cs : Nat) (Pa : Option Addr) (pc : Nat) (Bs : Option Addr) (ds : Nat) (Br : Option Addr) (dr : Nat) (Bff : Option Addr) (df : Nat) (Bd : Option Addr) (dd : Nat) (hT : TopM M w k As cs Pa pc Bs ds Br dr Bff df Bd dd) (b5 b11 : Nat)
  (l0 l : List Hp) (st : St) (hE : TopE (bkOf k) l0 l st) (hll : l.length ≤ 1000) (Da : Option Addr) (dc : Nat) (hl : SlOf 5 RHp M (.slice Da l.length dc) l) (G T : Option Addr) (g t : Nat) (hG : Ints M (.slice G k.reqs.length g) (givL k.reqs.length l)) (hTk : Ints M (.slice T k.sups.length t) (takL k.sups.length l))
  (mb : Nat) (es : List MapEntry) (cl : Nat) (o : Nat → Bool) (hes : saysB es o k.reqs.length) (ho : ∀ q, q < k.reqs.length → o q = false → st.br.getD q 0 < 0) :
  Tr E ⟨481, [(41, .slice G k.reqs.length g), (42, .slice T k.sups.length t), (44, .map (some mb)), (21, .slice Da l.length dc), (5, .pointer (some ⟨b5, 0, none⟩)), (2, .int .i64 k.known), (1, .slice As k.sups.length cs), (13, .slice Pa k.reqs.length pc), (11, .pointer (some ⟨b11, 0, none⟩))], [], M, mapR mb es cl :: box b5 38 ws :: box b11 47 [.int .i64 k.known, .slice Bs k.sups.length ds, .slice Br k.reqs.length dr, .slice Bff k.fits.length df, .slice Bd k.rds.length dd] :: F⟩
   ((tailC 20 (Try.f3.body.getD .skip)).wpIn (rf none) 0 Try.prog (bodyPost Try.prog Try.f3 (Post E F M0 fun v M' A' => A' = [] ∧ (fun r _ => r = .bool true) v M'))) := by
 unfold Try.f3
 dsimp only [tailC, Option.getD_some]
 have hsl := hT.sl
 have hrl := hT.rl
 have h11 := hw.len
 have hkeys := hes.1
 have hs := hT.s
 have hp := hT.p
 have hok := hT.ok
 have hss := ship_small (l := l) (fun z hz hk => hE.amt z hz (by omega))
 have hl9 := hl.len_le
 refine Tr.seq ?_
 refine Tr.cutQ (α := Unit) (fun _ => ⟨481, [(42, .slice T k.sups.length t), (21, .slice Da l.length dc), (5, .pointer (some ⟨b5, 0, none⟩)), (2, .int .i64 k.known), (1, .slice As k.sups.length cs), (13, .slice Pa k.reqs.length pc), (11, .pointer (some ⟨b11, 0, none⟩))], [], M, box b5 38 ws :: box b11 47 [.int .i64 k.known, .slice Bs k.sups.length ds, .slice Br k.reqs.length dr, .slice Bff k.fits.length df, .slice Bd k.rds.length dd] :: F⟩) (fun _ => True) ?_ (fun _ _ => Tr.next ?_)
 ·(refine rQ ?_)
  refine Tr.loop (α := Nat) (fun i => ⟨481, [(349, .int .i64 (i : Int)), (348, .int .i64 (k.reqs.length : Int)), (347, .slice Pa k.reqs.length pc), (41, .slice G k.reqs.length g), (42, .slice T k.sups.length t), (44, .map (some mb)), (21, .slice Da l.length dc), (5, .pointer (some ⟨b5, 0, none⟩)), (2, .int .i64 k.known), (1, .slice As k.sups.length cs), (13, .slice Pa k.reqs.length pc), (11, .pointer (some ⟨b11, 0, none⟩))], [], M, mapR mb es cl :: box b5 38 ws :: box b11 47 [.int .i64 k.known, .slice Bs k.sups.length ds, .slice Br k.reqs.length dr, .slice Bff k.fits.length df, .slice Bd k.rds.length dd] :: F⟩)
   (fun i => i ≤ k.reqs.length) (fun i => k.reqs.length - i) 0 (Nat.zero_le _) hsQ (fun i hi => ?_)
  by_cases hlt : i < k.reqs.length
  ·obtain ⟨y, hy⟩ := get_of_lt hlt
   obtain ⟨hA, ch, hat, rfl⟩ := hp.elem hy
   simp only [rqC] at hat
   have ha := req_amt (k := bkOf k) hy
   obtain ⟨hg1, hg2⟩ := hE.given i hlt
   rw [← ha] at hg1 hg2
   obtain ⟨hAg, hatg⟩ := Ints.at (n := k.reqs.length) (c := g) hG (givL_get l hlt)
   have hov := hes.2 i hlt
   have hn := (hss i).1
   by_cases hlt2 : shipN l i < y.amount
   ·have hoi : o i = true := by
     cases ho2 : o i with
     | true => rfl
     | false => have := hg2 (ho i hlt ho2); omega
    rw [hoi] at hov
    (repeat (first | ((with_reducible refine Tr.step rfl ?_); (first | (refine xmQ ?_) | (refine xaQ ?_) | ((with_reducible refine Knd.load ?_); (refine Exec.stab rfl (Stab.loadMA rfl (tysOk.get rfl) rfl (by assumption) (by first | rfl | assumption)) rfl ?_)) | (refine xiQ ?_) | ((with_reducible refine Knd.store ?_); (refine Exec.storeW rfl rfl (tysOk.get rfl) (by repeat (first | exact Upd.here | apply Upd.there)) rfl rfl (by repeat (first | (with_reducible assumption) | exact AllOne.nil | exact AllOne.bytes _ | refine AllOne.cons (by first | rfl | assumption) ?_)) ?_)) | ((with_reducible refine Knd.alloc ?_); (refine Exec.alloc (tysOk.get rfl) rfl rfl (fun b => ?_))) | (refine xxQ ?_))) | (with_reducible first | apply Tr.next | apply Tr.seq | apply Tr.region | apply Tr.nil | apply Tr.skip | apply Tr.block) | (refine Tr.cond_t rfl (by first | (with_reducible assumption) | (with_reducible rfl) | (with_reducible exact (not_not_intro rfl)) | omega) ?_)))
    (((apply Tr.draw); (kernel_rfl)); (refine tkQ 0 (hB := by exact fun _ h => h) (s := by exact Stab.move rfl) ?_); (refine tkQ 1 (s := by exact Stab.move rfl) ?_); (refine tkQ 4 (s := by exact sfQ) ?_); (refine tkQ 2 (s := by exact sxQ) ?_); (refine tkQ 5 (s := by exact slQ) ?_); (refine tkQ 3 (s := by exact sMQ) ?_); (refine tkQ 6 (s := by exact siQ) ?_); (refine tkQ 7 (s := by exact Stab.move rfl) ?_); ((refine tgQ 8 (q := (decide_eq_false (by first | (with_reducible assumption) | (with_reducible rfl) | (with_reducible exact (not_not_intro rfl)) | omega))) (s := by exact Stab.move rfl) ?_)); ((refine tgQ 9 (q := (decide_eq_false (by first | (with_reducible assumption) | (with_reducible rfl) | (with_reducible exact (not_not_intro rfl)) | omega))) (s := by exact Stab.move rfl) ?_)); ((refine tgQ 12 (q := (decide_eq_false (by first | (with_reducible assumption) | (with_reducible rfl) | (with_reducible exact (not_not_intro rfl)) | omega))) (s := by exact sfQ) ?_)); ((refine tgQ 10 (q := (decide_eq_false (by first | (with_reducible assumption) | (with_reducible rfl) | (with_reducible exact (not_not_intro rfl)) | omega))) (s := by exact sxQ) ?_)); ((refine tgQ 13 (q := (decide_eq_false (by first | (with_reducible assumption) | (with_reducible rfl) | (with_reducible exact (not_not_intro rfl)) | omega))) (s := by exact slQ) ?_)); ((refine tgQ 11 (q := (decide_eq_false (by first | (with_reducible assumption) | (with_reducible rfl) | (with_reducible exact (not_not_intro rfl)) | omega))) (s := by exact sMQ) ?_)); ((refine tgQ 14 (q := (decide_eq_false (by first | (with_reducible assumption) | (with_reducible rfl) | (with_reducible exact (not_not_intro rfl)) | omega))) (s := by exact siQ) ?_)); ((refine tgQ 15 (q := (decide_eq_false (by first | (with_reducible assumption) | (with_reducible rfl) | (with_reducible exact (not_not_intro rfl)) | omega))) (s := by exact Stab.move rfl) ?_)); ((refine tgQ 16 (q := (decide_eq_true (by first | (with_reducible assumption) | (with_reducible rfl) | (with_reducible exact (not_not_intro rfl)) | omega))) (s := by exact Stab.move rfl) ?_)); ((refine tgQ 17 (q := (decide_eq_true (by first | (with_reducible assumption) | (with_reducible rfl) | (with_reducible exact (not_not_intro rfl)) | omega))) (s := by exact Stab.move rfl) ?_)); ((refine tgQ 18 (q := (decide_eq_true (by first | (with_reducible assumption) | (with_reducible rfl) | (with_reducible exact (not_not_intro rfl)) | omega))) (s := by exact Stab.lookupI rfl rfl (tysOk.get rfl) rfl (tysOk.get rfl) rfl (tysOk.get rfl) rfl (by repeat (first | exact Has.here | apply Has.there)) (by assumption)) ?_)))
    rw [hov]
    (((refine tgQ 19 (q := (decide_eq_true (by first | (with_reducible assumption) | (with_reducible rfl) | (with_reducible exact (not_not_intro rfl)) | omega))) (s := by first | exact Stab.notw rfl | exact Stab.notd rfl | exact Stab.not rfl | exact Stab.neg rfl (by omega)) ?_)); ((refine tgQ 20 (q := (decide_eq_false (by first | (with_reducible assumption) | (with_reducible rfl) | (with_reducible exact (not_not_intro rfl)) | omega))) (s := by exact Stab.pick_td rfl (by first | (with_reducible assumption) | (with_reducible rfl) | (with_reducible exact (not_not_intro rfl)) | omega) rfl) ?_)); (refine tkQ 21 (s := by exact Stab.pick_fd rfl (by first | (with_reducible assumption) | (with_reducible rfl) | (with_reducible exact (not_not_intro rfl)) | omega) rfl) ?_); (refine TrA.done (by kernel_rfl) ?_))
    (refine rQ ?_)
    refine gvQ (r := box _ 52 _) ?_
    exact Tr.again (i + 1) (by omega) (by omega) hsQ
   ·(repeat (first | ((with_reducible refine Tr.step rfl ?_); (first | (refine xmQ ?_) | (refine xaQ ?_) | ((with_reducible refine Knd.load ?_); (refine Exec.stab rfl (Stab.loadMA rfl (tysOk.get rfl) rfl (by assumption) (by first | rfl | assumption)) rfl ?_)) | (refine xiQ ?_) | ((with_reducible refine Knd.store ?_); (refine Exec.storeW rfl rfl (tysOk.get rfl) (by repeat (first | exact Upd.here | apply Upd.there)) rfl rfl (by repeat (first | (with_reducible assumption) | exact AllOne.nil | exact AllOne.bytes _ | refine AllOne.cons (by first | rfl | assumption) ?_)) ?_)) | ((with_reducible refine Knd.alloc ?_); (refine Exec.alloc (tysOk.get rfl) rfl rfl (fun b => ?_))) | (refine xxQ ?_))) | (with_reducible first | apply Tr.next | apply Tr.seq | apply Tr.region | apply Tr.nil | apply Tr.skip | apply Tr.block) | (refine Tr.cond_t rfl (by first | (with_reducible assumption) | (with_reducible rfl) | (with_reducible exact (not_not_intro rfl)) | omega) ?_)))
    (((apply Tr.draw); (kernel_rfl)); (refine tkQ 0 (hB := by exact fun _ h => h) (s := by exact Stab.move rfl) ?_); (refine tkQ 1 (s := by exact Stab.move rfl) ?_); (refine tkQ 4 (s := by exact sfQ) ?_); (refine tkQ 2 (s := by exact sxQ) ?_); (refine tkQ 5 (s := by exact slQ) ?_); (refine tkQ 3 (s := by exact sMQ) ?_); (refine tkQ 6 (s := by exact siQ) ?_); (refine tkQ 7 (s := by exact Stab.move rfl) ?_); ((refine tgQ 8 (q := (decide_eq_false (by first | (with_reducible assumption) | (with_reducible rfl) | (with_reducible exact (not_not_intro rfl)) | omega))) (s := by exact Stab.move rfl) ?_)); ((refine tgQ 9 (q := (decide_eq_false (by first | (with_reducible assumption) | (with_reducible rfl) | (with_reducible exact (not_not_intro rfl)) | omega))) (s := by exact Stab.move rfl) ?_)); ((refine tgQ 12 (q := (decide_eq_false (by first | (with_reducible assumption) | (with_reducible rfl) | (with_reducible exact (not_not_intro rfl)) | omega))) (s := by exact sfQ) ?_)); ((refine tgQ 10 (q := (decide_eq_false (by first | (with_reducible assumption) | (with_reducible rfl) | (with_reducible exact (not_not_intro rfl)) | omega))) (s := by exact sxQ) ?_)); ((refine tgQ 13 (q := (decide_eq_false (by first | (with_reducible assumption) | (with_reducible rfl) | (with_reducible exact (not_not_intro rfl)) | omega))) (s := by exact slQ) ?_)); ((refine tgQ 11 (q := (decide_eq_false (by first | (with_reducible assumption) | (with_reducible rfl) | (with_reducible exact (not_not_intro rfl)) | omega))) (s := by exact sMQ) ?_)); ((refine tgQ 14 (q := (decide_eq_false (by first | (with_reducible assumption) | (with_reducible rfl) | (with_reducible exact (not_not_intro rfl)) | omega))) (s := by exact siQ) ?_)); ((refine tgQ 15 (q := (decide_eq_false (by first | (with_reducible assumption) | (with_reducible rfl) | (with_reducible exact (not_not_intro rfl)) | omega))) (s := by exact Stab.move rfl) ?_)); ((refine tuQ 16 ?_)); ((refine tuQ 17 ?_)); ((refine tuQ 18 ?_)); ((refine tuQ 19 ?_)); ((refine tgQ 20 (q := (decide_eq_false (by first | (with_reducible assumption) | (with_reducible rfl) | (with_reducible exact (not_not_intro rfl)) | omega))) (s := by exact Stab.pick_fd rfl (by first | (with_reducible assumption) | (with_reducible rfl) | (with_reducible exact (not_not_intro rfl)) | omega) rfl) ?_)); (refine tkQ 21 (s := by exact Stab.pick_fd rfl (by first | (with_reducible assumption) | (with_reducible rfl) | (with_reducible exact (not_not_intro rfl)) | omega) rfl) ?_); (refine TrA.done (by kernel_rfl) ?_))
    (refine rQ ?_)
    refine gvQ (r := box _ 52 _) ?_
    exact Tr.again (i + 1) (by omega) (by omega) hsQ
  have ei : i = k.reqs.length := by omega
  subst ei
  refine gvQ (r := mapR mb es cl) ?_
  (refine rQ ?_)
  exact Tr.landQ () trivial hsQ
 refine Tr.seq ?_
 refine Tr.cutQ (α := Unit) (fun _ => ⟨481, [(21, .slice Da l.length dc), (5, .pointer (some ⟨b5, 0, none⟩)), (2, .int .i64 k.known), (1, .slice As k.sups.length cs), (13, .slice Pa k.reqs.length pc), (11, .pointer (some ⟨b11, 0, none⟩))], [], M, box b5 38 ws :: box b11 47 [.int .i64 k.known, .slice Bs k.sups.length ds, .slice Br k.reqs.length dr, .slice Bff k.fits.length df, .slice Bd k.rds.length dd] :: F⟩) (fun _ => True) ?_ (fun _ _ => Tr.next ?_)
 ·(refine rQ ?_)
  refine Tr.loop (α := Nat) (fun i => ⟨481, [(379, .int .i64 (i : Int)), (378, .int .i64 (k.sups.length : Int)), (377, .slice As k.sups.length cs), (42, .slice T k.sups.length t), (21, .slice Da l.length dc), (5, .pointer (some ⟨b5, 0, none⟩)), (2, .int .i64 k.known), (1, .slice As k.sups.length cs), (13, .slice Pa k.reqs.length pc), (11, .pointer (some ⟨b11, 0, none⟩))], [], M, box b5 38 ws :: box b11 47 [.int .i64 k.known, .slice Bs k.sups.length ds, .slice Br k.reqs.length dr, .slice Bff k.fits.length df, .slice Bd k.rds.length dd] :: F⟩)
   (fun i => i ≤ k.sups.length) (fun i => k.sups.length - i) 0 (Nat.zero_le _) hsQ (fun i hi => ?_)
  by_cases hlt : i < k.sups.length
  ·obtain ⟨y, hy⟩ := get_of_lt hlt
   obtain ⟨hA, ch, hat, rfl⟩ := hs.elem hy
   simp only [spC] at hat
   have ha := sup_amt (k := bkOf k) hy
   have hg1 := hE.taken i hlt
   rw [← ha] at hg1
   obtain ⟨hAg, hatg⟩ := Ints.at (n := k.sups.length) (c := t) hTk (takL_get l hlt)
   (repeat (first | ((with_reducible refine Tr.step rfl ?_); (first | (refine xmQ ?_) | (refine xaQ ?_) | ((with_reducible refine Knd.load ?_); (refine Exec.stab rfl (Stab.loadMA rfl (tysOk.get rfl) rfl (by assumption) (by first | rfl | assumption)) rfl ?_)) | (refine xiQ ?_) | ((with_reducible refine Knd.store ?_); (refine Exec.storeW rfl rfl (tysOk.get rfl) (by repeat (first | exact Upd.here | apply Upd.there)) rfl rfl (by repeat (first | (with_reducible assumption) | exact AllOne.nil | exact AllOne.bytes _ | refine AllOne.cons (by first | rfl | assumption) ?_)) ?_)) | ((with_reducible refine Knd.alloc ?_); (refine Exec.alloc (tysOk.get rfl) rfl rfl (fun b => ?_))) | (refine xxQ ?_))) | (with_reducible first | apply Tr.next | apply Tr.seq | apply Tr.region | apply Tr.nil | apply Tr.skip | apply Tr.block) | (refine Tr.cond_t rfl (by first | (with_reducible assumption) | (with_reducible rfl) | (with_reducible exact (not_not_intro rfl)) | omega) ?_)))
   (((apply Tr.draw); (kernel_rfl)); (refine tkQ 0 (hB := by exact fun _ h => h) (s := by exact Stab.move rfl) ?_); (refine tkQ 1 (s := by exact Stab.move rfl) ?_); (refine tkQ 4 (s := by exact sfQ) ?_); (refine tkQ 2 (s := by exact sxQ) ?_); (refine tkQ 5 (s := by exact slQ) ?_); (refine tkQ 3 (s := by exact sMQ) ?_); (refine tkQ 6 (s := by exact siQ) ?_); (refine TrA.done (by kernel_rfl) ?_))
   (refine rQ ?_)
   refine gvQ (r := box _ 72 _) ?_
   exact Tr.again (i + 1) (by omega) (by omega) hsQ
  have ei : i = k.sups.length := by omega
  subst ei
  (refine rQ ?_)
  exact Tr.landQ () trivial hsQ
 refine Tr.seq ?_
 refine Tr.cutQ (α := Mem) (fun M1 => ⟨481, [(1, .slice As k.sups.length cs), (13, .slice Pa k.reqs.length pc), (11, .pointer (some ⟨b11, 0, none⟩))], [], M1, box b11 47 [.int .i64 k.known, .slice Bs k.sups.length ds, .slice Br k.reqs.length dr, .slice Bff k.fits.length df, .slice Bd k.rds.length dd] :: F⟩) (fun M1 => Mem.le M M1) ?_ (fun M1 hm1 => Tr.next ?_)
 ·(refine rQ ?_)
  refine Tr.loop (α := Nat × Mem) (fun y => ⟨481, [(394, .int .i64 (y.1 : Int)), (393, .int .i64 (l.length : Int)), (392, .slice Da l.length dc), (5, .pointer (some ⟨b5, 0, none⟩)), (2, .int .i64 k.known), (1, .slice As k.sups.length cs), (13, .slice Pa k.reqs.length pc), (11, .pointer (some ⟨b11, 0, none⟩))], [], y.2, box b5 38 ws :: box b11 47 [.int .i64 k.known, .slice Bs k.sups.length ds, .slice Br k.reqs.length dr, .slice Bff k.fits.length df, .slice Bd k.rds.length dd] :: F⟩)
   (fun y => y.1 ≤ l.length ∧ Mem.le M y.2) (fun y => l.length - y.1) (0, M) ⟨Nat.zero_le _, Mem.le.refl _⟩ hsQ (fun y hy => ?_)
  obtain ⟨i, M1⟩ := y
  obtain ⟨hi, hm1⟩ := hy
  dsimp only at hi hm1
  dsimp only
  replace hs := hs.mono RSpC.mono hm1
  replace hp := hp.mono RRqC.mono hm1
  replace hl := hl.mono RHp.mono hm1
  replace hw := hw.mono hm1
  by_cases hlt : i < l.length
  rotate_left
  ·(refine rQ ?_)
   exact Tr.landQ M1 hm1 hsQ
  obtain ⟨z, hz⟩ := get_of_lt hlt
  obtain ⟨hA, ch, hat, rfl⟩ := hl.elem hz
  have hsh := hE.ship z (List.mem_of_getElem? hz)
  by_cases hk : z.kind = 3
  rotate_left
  ·(repeat (first | ((with_reducible refine Tr.step rfl ?_); (first | (refine xmQ ?_) | ((with_reducible refine Knd.load ?_); (first | (refine xlQ ?_) | (refine Exec.stab rfl (Stab.loadMA rfl (tysOk.get rfl) rfl (by assumption) (by first | rfl | assumption)) rfl ?_))) | (refine xfQ ?_) | ((with_reducible refine Knd.binOp ?_); (first | (refine xdQ ?_) | (refine xiQ ?_))) | ((with_reducible refine Knd.store ?_); (refine Exec.storeW rfl rfl (tysOk.get rfl) (by repeat (first | exact Upd.here | apply Upd.there)) rfl rfl (by repeat (first | (with_reducible assumption) | exact AllOne.nil | exact AllOne.bytes _ | refine AllOne.cons (by first | rfl | assumption) ?_)) ?_)) | ((with_reducible refine Knd.alloc ?_); (refine Exec.alloc (tysOk.get rfl) rfl rfl (fun b => ?_))) | (refine xxQ ?_))) | (with_reducible first | apply Tr.next | apply Tr.seq | apply Tr.region | apply Tr.nil | apply Tr.skip | apply Tr.block | apply Tr.exit | apply Tr.then_exit) | ((with_reducible refine Tr.in_exit ?_ ?_); (exact rfl)) | (refine Tr.cond_t rfl (by first | (with_reducible assumption) | (with_reducible rfl) | (with_reducible exact (not_not_intro rfl)) | omega) ?_)))
   refine gvQ (r := box _ 59 _) ?_
   exact Tr.again (i + 1, M1) ⟨by simp only; omega, hm1⟩ (by simp only; omega) hsQ
  obtain ⟨p, q, e1, e2, hpl, hql, hfit, hd1, hd2⟩ := hsh hk
  obtain ⟨kd, sup, req, day, amt⟩ := z
  dsimp only at hk e1 e2 hd1 hd2 hat
  subst hk e1 e2
  have hpl : p < k.sups.length := hpl
  have hql : q < k.reqs.length := hql
  obtain ⟨x, hx⟩ := get_of_lt hpl
  obtain ⟨y, hy⟩ := get_of_lt hql
  obtain ⟨hA1, ch1, hat1, rfl⟩ := hs.elem hx
  obtain ⟨hA2, ch2, hat2, rfl⟩ := hp.elem hy
  simp only [spC] at hat1
  simp only [rqC] at hat2
  rw [← sup_dy (k := bkOf k) hx] at hd1
  rw [← req_due' (k := bkOf k) hy] at hd2
  have hfit : (k.fits.getD p []).getD q false = true := hfit
  rw [← hok.2.2.1.1, fitsT_get hx hy] at hfit
  have hfi := cfits_fn M1 ws w hw x y (hok.2.1.2.1 x (List.mem_of_getElem? hx)) (hok.2.1.2.2 y (List.mem_of_getElem? hy)) k.known
  rw [hfit] at hfi
  (repeat (first | ((with_reducible refine Tr.step rfl ?_); (first | ((with_reducible refine Knd.load ?_); (first | (refine xlQ ?_) | (refine Exec.stab rfl (Stab.loadMA rfl (tysOk.get rfl) rfl (by assumption) (by first | rfl | assumption)) rfl ?_))) | (refine xfQ ?_) | (refine xiQ ?_) | ((with_reducible refine Knd.store ?_); (refine Exec.storeW rfl rfl (tysOk.get rfl) (by repeat (first | exact Upd.here | apply Upd.there)) rfl rfl (by repeat (first | (with_reducible assumption) | exact AllOne.nil | exact AllOne.bytes _ | refine AllOne.cons (by first | rfl | assumption) ?_)) ?_)) | ((with_reducible refine Knd.alloc ?_); (refine Exec.alloc (tysOk.get rfl) rfl rfl (fun b => ?_))) | (refine xxQ ?_))) | (with_reducible first | apply Tr.next | apply Tr.seq | apply Tr.region | apply Tr.nil | apply Tr.skip | apply Tr.block) | (refine Tr.cond_t rfl (by first | (with_reducible assumption) | (with_reducible rfl) | (with_reducible exact (not_not_intro rfl)) | omega) ?_) | (refine Tr.cond_f rfl (by first | (with_reducible assumption) | (with_reducible rfl) | (with_reducible exact (not_not_intro rfl)) | omega) ?_)))
  (((apply Tr.draw); (kernel_rfl)); (refine tkQ 0 (hB := by exact fun _ h => h) (s := by exact Stab.loadW rfl (tysOk.get rfl) rfl (by repeat (first | exact Has.here | apply Has.there)) (by assumption)) ?_); (refine tkQ 1 (s := by exact Stab.move rfl) ?_); (refine tkQ 2 (s := by exact sfQ) ?_); (refine tkQ 6 (s := by exact Stab.move rfl) ?_); (refine tkQ 7 (s := by exact sfQ) ?_); (refine tkQ 11 (s := by exact Stab.move rfl) ?_); (refine tkQ 3 (s := by exact slQ) ?_); (refine tkQ 8 (s := by exact slQ) ?_); (refine tkQ 4 (s := by exact sxQ) ?_); (refine tkQ 9 (s := by exact sxQ) ?_); (refine tkQ 5 (s := by exact Stab.loadMA rfl (tysOk.get rfl) rfl (by assumption) (by first | rfl | assumption)) ?_); (refine tkQ 10 (s := by exact Stab.loadMA rfl (tysOk.get rfl) rfl (by assumption) (by first | rfl | assumption)) ?_); (refine TrA.eff 12 rfl (by kernel_rfl) (by first | exact .inl rfl | exact .inr ⟨_, _, _, rfl, rfl, rfl⟩) ?_))
  refine Exec.call0 rfl hfi rfl ?_
  rintro _ M2 hm2 ⟨A9, n9, c9, rfl⟩
  refine ⟨hm2, (by exact fun _ h => h), ?_⟩
  have f1 := (hat1.mono hm2).drop 3
  have f2 := (hat2.mono hm2).drop 3
  dsimp only [List.drop] at f1 f2
  ((refine tkQ 13 (s := by exact Stab.move rfl) ?_); (refine tkQ 14 (s := by exact Stab.extract rfl rfl) ?_); (refine tkQ 15 (s := by exact Stab.extract rfl rfl) ?_); (refine tkQ 16 (s := by exact Stab.assign rfl) ?_); (refine tkQ 17 (s := by exact Stab.assign rfl) ?_); (refine TrA.done (by kernel_rfl) ?_))
  (repeat (first | (with_reducible first | apply Tr.next | apply Tr.seq)))
  (((apply Tr.draw); (kernel_rfl)); (refine tkQ 0 (hB := by exact fun _ h => h) (s := by exact Stab.move rfl) ?_); (refine tkQ 1 (s := by first | exact Stab.notw rfl | exact Stab.notd rfl | exact Stab.not rfl | exact Stab.neg rfl (by omega)) ?_); (refine tkQ 2 (s := by exact Stab.move rfl) ?_); ((refine tgQ 3 (q := (by first | (with_reducible rfl) | (with_reducible assumption) | (with_reducible exact Bool.not_true) | (with_reducible exact Bool.not_false))) (s := by exact sfQ) ?_)); ((refine tgQ 5 (q := (by first | (with_reducible rfl) | (with_reducible assumption) | (with_reducible exact Bool.not_true) | (with_reducible exact Bool.not_false))) (s := by exact Stab.move rfl) ?_)); ((refine tgQ 6 (q := (by first | (with_reducible rfl) | (with_reducible assumption) | (with_reducible exact Bool.not_true) | (with_reducible exact Bool.not_false))) (s := by exact sfQ) ?_)); ((refine tgQ 4 (q := (by first | (with_reducible rfl) | (with_reducible assumption) | (with_reducible exact Bool.not_true) | (with_reducible exact Bool.not_false))) (s := by exact slQ) ?_)); ((refine tgQ 7 (q := (by first | (with_reducible rfl) | (with_reducible assumption) | (with_reducible exact Bool.not_true) | (with_reducible exact Bool.not_false))) (s := by exact slQ) ?_)); ((refine tgQ 8 (q := (by first | (with_reducible rfl) | (with_reducible assumption) | (with_reducible exact Bool.not_true) | (with_reducible exact Bool.not_false))) (s := by exact sxQ) ?_)); ((refine tgQ 9 (q := (by first | (with_reducible rfl) | (with_reducible assumption) | (with_reducible exact Bool.not_true) | (with_reducible exact Bool.not_false))) (s := by exact Stab.fieldD rfl (tysOk.get rfl) rfl rfl (tysOk.get rfl) rfl) ?_)); ((refine tgQ 10 (q := (by first | (with_reducible rfl) | (with_reducible assumption) | (with_reducible exact Bool.not_true) | (with_reducible exact Bool.not_false))) (s := by exact sMQ) ?_)); ((refine tgQ 11 (q := (by first | (with_reducible rfl) | (with_reducible assumption) | (with_reducible exact Bool.not_true) | (with_reducible exact Bool.not_false))) (s := by exact siQ) ?_)); (refine tkQ 12 (s := by exact Stab.pick_f rfl (by first | (with_reducible rfl) | (with_reducible assumption) | (with_reducible exact Bool.not_true) | (with_reducible exact Bool.not_false)) rfl) ?_); (refine tkQ 13 (s := by exact Stab.move rfl) ?_); ((refine tgQ 14 (q := (decide_eq_false (by first | (with_reducible assumption) | (with_reducible rfl) | (with_reducible exact (not_not_intro rfl)) | omega))) (s := by exact sfQ) ?_)); ((refine tgQ 16 (q := (decide_eq_false (by first | (with_reducible assumption) | (with_reducible rfl) | (with_reducible exact (not_not_intro rfl)) | omega))) (s := by exact Stab.move rfl) ?_)); ((refine tgQ 17 (q := (decide_eq_false (by first | (with_reducible assumption) | (with_reducible rfl) | (with_reducible exact (not_not_intro rfl)) | omega))) (s := by exact sfQ) ?_)); ((refine tgQ 15 (q := (decide_eq_false (by first | (with_reducible assumption) | (with_reducible rfl) | (with_reducible exact (not_not_intro rfl)) | omega))) (s := by exact slQ) ?_)); ((refine tgQ 18 (q := (decide_eq_false (by first | (with_reducible assumption) | (with_reducible rfl) | (with_reducible exact (not_not_intro rfl)) | omega))) (s := by exact slQ) ?_)); ((refine tgQ 19 (q := (decide_eq_false (by first | (with_reducible assumption) | (with_reducible rfl) | (with_reducible exact (not_not_intro rfl)) | omega))) (s := by exact sxQ) ?_)); ((refine tgQ 20 (q := (decide_eq_false (by first | (with_reducible assumption) | (with_reducible rfl) | (with_reducible exact (not_not_intro rfl)) | omega))) (s := by exact Stab.fieldD rfl (tysOk.get rfl) rfl rfl (tysOk.get rfl) rfl) ?_)); ((refine tgQ 21 (q := (decide_eq_false (by first | (with_reducible assumption) | (with_reducible rfl) | (with_reducible exact (not_not_intro rfl)) | omega))) (s := by exact sMQ) ?_)); ((refine tgQ 22 (q := (decide_eq_false (by first | (with_reducible assumption) | (with_reducible rfl) | (with_reducible exact (not_not_intro rfl)) | omega))) (s := by exact siQ) ?_)); (refine tkQ 23 (s := by exact Stab.pick_fd rfl (by first | (with_reducible assumption) | (with_reducible rfl) | (with_reducible exact (not_not_intro rfl)) | omega) rfl) ?_); (refine TrA.done (by kernel_rfl) ?_))
  (refine rQ ?_)
  refine gvQ (r := box _ 59 _) ?_
  exact Tr.again (i + 1, M2) ⟨by simp only; omega, hm1.trans hm2⟩ (by simp only; omega) hsQ
 exact top_e1 E F M0 M1 (hm0.trans hm1) w k As cs Pa pc Bs ds Br dr Bff df Bd dd (hT.mono hm1) b11
end Go.Proofs.Ytcadnjmcmegpjaa

/-
 From the promise to what is shipped: what was broken, and why.
 Conditions: none.
-/
namespace Go.Proofs.Ytcadnjmcmegpjaa
open Go Bf
attribute [local irreducible] Tr Exec Stab HasTy Go.Addr.add IntKind.wrap
def inBr (bl : List (Nat × List Nat)) (i q : Nat) : Bool := (bl.take i).any fun x => decide (x.1 = q)
theorem inBr_succ {bl : List (Nat × List Nat)} {i : Nat} {x : Nat × List Nat} (h : bl[i]? = some x) (q : Nat) : inBr bl (i + 1) q = (inBr bl i q || decide (x.1 = q)) := by
 unfold inBr
 rw [List.take_add_one, h, List.any_append]
 simp
theorem says_upd {bl : List (Nat × List Nat)} {i n : Nat} {x : Nat × List Nat} {es : List MapEntry} (h : bl[i]? = some x) (hs : saysB es (inBr bl i) n) (cl : Nat) : saysB (updE (x.1 : Int) (.bool true) es cl).1 (inBr bl (i + 1)) n := by
 refine ⟨updE_keys hs.1, fun q hq => ?_⟩
 rw [updE_val, inBr_succ h]
 by_cases e : x.1 = q
 ·rw [if_pos (by omega), decide_eq_true e, Bool.or_true]; rfl
 ·rw [if_neg (by omega), decide_eq_false e, Bool.or_false]; exact hs.2 q hq
set_option maxHeartbeats 16000000 in
set_option maxRecDepth 20000 in
theorem top_e3 (E : World) (F : List Res) (M0 M : Mem) (hm0 : Mem.le M0 M) (ws : List Value) (w : Wd) (hw : RWd M ws w) (k : Bp) (As : Option Addr) (cs : Nat) (Pa : Option Addr) (pc : Nat) (Bs : Option Addr) (ds : Nat) (Br : Option Addr) (dr : Nat) (Bff : Option Addr) (df : Nat) (Bd : Option Addr) (dd : Nat) (hT : TopM M w k As cs Pa pc Bs ds Br dr Bff df Bd dd) (b5 b11 : Nat)
  (l0 l : List Hp) (st : St) (hE : TopE (bkOf k) l0 l st) (hll : l.length ≤ 1000) (_ : l0.length ≤ 1000) (Da : Option Addr) (dc : Nat) (hl : SlOf 5 RHp M (.slice Da l.length dc) l) (G T : Option Addr) (g t : Nat) (hG : Ints M (.slice G k.reqs.length g) (givL k.reqs.length l)) (hTk : Ints M (.slice T k.sups.length t) (takL k.sups.length l))
  (A9 : Option Addr) (c9 : Nat) (bl : List (Nat × List Nat)) (hbl : bl = brkF (bkOf k) l st) (hI : SlOf 2 RBr M (.slice A9 bl.length c9) bl) (hbrl : st.br.length = k.reqs.length) :
  Tr E ⟨481, [(39, .slice A9 bl.length c9), (41, .slice G k.reqs.length g), (42, .slice T k.sups.length t), (28, .int .i64 (l0.length : Int)), (21, .slice Da l.length dc), (5, .pointer (some ⟨b5, 0, none⟩)), (2, .int .i64 k.known), (1, .slice As k.sups.length cs), (13, .slice Pa k.reqs.length pc), (11, .pointer (some ⟨b11, 0, none⟩))], [], M, box b5 38 ws :: box b11 47 [.int .i64 k.known, .slice Bs k.sups.length ds, .slice Br k.reqs.length dr, .slice Bff k.fits.length df, .slice Bd k.rds.length dd] :: F⟩
   ((tailC 18 (Try.f3.body.getD .skip)).wpIn (rf none) 0 Try.prog (bodyPost Try.prog Try.f3 (Post E F M0 fun v M' A' => A' = [] ∧ (fun r _ => r = .bool true) v M'))) := by
 unfold Try.f3
 dsimp only [tailC, Option.getD_some]
 have hsl := hT.sl
 have hrl := hT.rl
 have hbec := hE.bec
 rw [← hbl] at hbec
 have hbll := hI.len_le
 have hl9 := hl.len_le
 refine Tr.seq ?_
 refine Tr.cutQ (α := Nat) (fun mb => ⟨481, [(44, .map (some mb)), (39, .slice A9 bl.length c9), (41, .slice G k.reqs.length g), (42, .slice T k.sups.length t), (28, .int .i64 (l0.length : Int)), (21, .slice Da l.length dc), (5, .pointer (some ⟨b5, 0, none⟩)), (2, .int .i64 k.known), (1, .slice As k.sups.length cs), (13, .slice Pa k.reqs.length pc), (11, .pointer (some ⟨b11, 0, none⟩))], [], M, mapR mb [] 0 :: box b5 38 ws :: box b11 47 [.int .i64 k.known, .slice Bs k.sups.length ds, .slice Br k.reqs.length dr, .slice Bff k.fits.length df, .slice Bd k.rds.length dd] :: F⟩) (fun _ => True) ?_ (fun mb _ => Tr.next ?_)
 ·(repeat (first | ((with_reducible refine Tr.step rfl ?_); (first | (refine xaQ ?_) | ((with_reducible refine Knd.makeMap ?_); (refine Exec.makeMap rfl (fun b => ?_))))) | (with_reducible first | apply Tr.region | apply Tr.nil)))
  exact Tr.landQ _ trivial hsQ
 refine Tr.seq ?_
 refine Tr.cutQ (α := List MapEntry × Nat) (fun y => ⟨481, [(41, .slice G k.reqs.length g), (42, .slice T k.sups.length t), (44, .map (some mb)), (21, .slice Da l.length dc), (5, .pointer (some ⟨b5, 0, none⟩)), (2, .int .i64 k.known), (1, .slice As k.sups.length cs), (13, .slice Pa k.reqs.length pc), (11, .pointer (some ⟨b11, 0, none⟩))], [], M, mapR mb y.1 y.2 :: box b5 38 ws :: box b11 47 [.int .i64 k.known, .slice Bs k.sups.length ds, .slice Br k.reqs.length dr, .slice Bff k.fits.length df, .slice Bd k.rds.length dd] :: F⟩)
  (fun y => saysB y.1 (inBr bl bl.length) k.reqs.length) ?_ (fun y hy => Tr.next ?_)
 ·(refine rQ ?_)
  refine Tr.loop (α := Nat × List MapEntry × Nat) (fun y => ⟨481, [(300, .int .i64 (y.1 : Int)), (299, .int .i64 (bl.length : Int)), (298, .slice A9 bl.length c9), (44, .map (some mb)), (41, .slice G k.reqs.length g), (42, .slice T k.sups.length t), (28, .int .i64 (l0.length : Int)), (21, .slice Da l.length dc), (5, .pointer (some ⟨b5, 0, none⟩)), (2, .int .i64 k.known), (1, .slice As k.sups.length cs), (13, .slice Pa k.reqs.length pc), (11, .pointer (some ⟨b11, 0, none⟩))], [], M, mapR mb y.2.1 y.2.2 :: box b5 38 ws :: box b11 47 [.int .i64 k.known, .slice Bs k.sups.length ds, .slice Br k.reqs.length dr, .slice Bff k.fits.length df, .slice Bd k.rds.length dd] :: F⟩)
   (fun y => y.1 ≤ bl.length ∧ saysB y.2.1 (inBr bl y.1) k.reqs.length) (fun y => bl.length - y.1) (0, [], 0) ⟨Nat.zero_le _, IntKeys.nil, fun q hq => rfl⟩ hsQ (fun y hy => ?_)
  obtain ⟨i, es, cl⟩ := y
  obtain ⟨hi, hes⟩ := hy
  dsimp only at hi hes
  dsimp only
  have hkeys := hes.1
  by_cases hlt : i < bl.length
  rotate_left
  ·have ei : i = bl.length := by omega
   subst ei
   (refine rQ ?_)
   exact Tr.landQ (es, cl) hes hsQ
  obtain ⟨x, hx⟩ := get_of_lt hlt
  obtain ⟨hq, hne, hbx⟩ := hbec x (List.mem_of_getElem? hx)
  have hq : x.1 < k.reqs.length := hq
  have hxl : 0 < x.2.length := List.length_pos_iff.2 hne
  obtain ⟨hA, ch, hat, Ax, nx, rfl, hIx⟩ := hI.elem hx
  have hnl : (nats_ x.2).length = x.2.length := nats__length _
  have hxll := hIx.len_le
  (repeat (first | ((with_reducible refine Tr.step rfl ?_); (first | (refine xmQ ?_) | ((with_reducible refine Knd.load ?_); (first | (refine xlQ ?_) | (refine Exec.stab rfl (Stab.loadMA rfl (tysOk.get rfl) rfl (by assumption) (by first | rfl | assumption)) rfl ?_))) | (refine xfQ ?_) | (refine xnQ ?_) | (refine xiQ ?_) | ((with_reducible refine Knd.pick ?_); (refine Exec.stab rfl (Stab.pick_fd rfl (by first | (with_reducible assumption) | (with_reducible rfl) | (with_reducible exact (not_not_intro rfl)) | omega) rfl) rfl ?_)) | ((with_reducible refine Knd.store ?_); (refine Exec.storeW rfl rfl (tysOk.get rfl) (by repeat (first | exact Upd.here | apply Upd.there)) rfl rfl (by repeat (first | (with_reducible assumption) | exact AllOne.nil | exact AllOne.bytes _ | refine AllOne.cons (by first | rfl | assumption) ?_)) ?_)) | ((with_reducible refine Knd.alloc ?_); (refine Exec.alloc (tysOk.get rfl) rfl rfl (fun b => ?_))) | (refine xxQ ?_))) | (with_reducible first | apply Tr.next | apply Tr.seq | apply Tr.region | apply Tr.nil) | ((refine Tr.guard_y' rfl rfl rfl (by first | (with_reducible assumption) | (with_reducible rfl) | (with_reducible exact (not_not_intro rfl)) | omega) ?_); (first | (refine xmQ ?_) | (refine xlQ ?_) | (refine xfQ ?_) | (refine xnQ ?_) | (refine xiQ ?_))) | (with_reducible first | apply Tr.skip | apply Tr.block) | (refine Tr.cond_t rfl (by first | (with_reducible assumption) | (with_reducible rfl) | (with_reducible exact (not_not_intro rfl)) | omega) ?_) | (refine Tr.cond_f rfl (by first | (with_reducible assumption) | (with_reducible rfl) | (with_reducible exact (not_not_intro rfl)) | omega) ?_)))
  generalize b = b46
  refine Tr.loop (α := Nat) (fun j => ⟨481, [(323, .int .i64 (j : Int)), (322, .int .i64 (x.2.length : Int)), (321, .slice Ax x.2.length nx), (46, .pointer (some ⟨b46, 0, none⟩)), (300, .int .i64 (i : Int)), (299, .int .i64 (bl.length : Int)), (298, .slice A9 bl.length c9), (44, .map (some mb)), (41, .slice G k.reqs.length g), (42, .slice T k.sups.length t), (28, .int .i64 (l0.length : Int)), (21, .slice Da l.length dc), (5, .pointer (some ⟨b5, 0, none⟩)), (2, .int .i64 k.known), (1, .slice As k.sups.length cs), (13, .slice Pa k.reqs.length pc), (11, .pointer (some ⟨b11, 0, none⟩))], [], M, box b46 70 [.int .i64 (x.1 : Int), .slice Ax x.2.length nx] :: mapR mb es cl :: box b5 38 ws :: box b11 47 [.int .i64 k.known, .slice Bs k.sups.length ds, .slice Br k.reqs.length dr, .slice Bff k.fits.length df, .slice Bd k.rds.length dd] :: F⟩)
   (fun j => j ≤ x.2.length) (fun j => x.2.length - j) 0 (Nat.zero_le _) hsQ (fun j hj => ?_)
  by_cases hjl : j < x.2.length
  ·obtain ⟨u, hu⟩ := get_of_lt hjl
   obtain ⟨c1, c2, c3⟩ := hbx u (List.mem_of_getElem? hu)
   obtain ⟨hA2, hat2⟩ := Ints.at (n := x.2.length) (c := nx) hIx (nats__get hu)
   obtain ⟨z, hz⟩ := get_of_lt c2
   rw [getD_of (d := zH) hz] at c3
   obtain ⟨hA3, ch3, hat3, rfl⟩ := hl.elem hz
   replace hat3 : At M (((Da.getD default).add (u * 5)).add 0) [.int .i64 z.kind, .int .i64 z.sup, .int .i64 z.req, .int .i64 z.day, .int .i64 z.amt] := hat3.drop 0
   (refine rQ ?_)
   exact Tr.again (j + 1) (by omega) (by omega) hsQ
  have ej : j = x.2.length := by omega
  subst ej
  (repeat (first | ((with_reducible refine Tr.step rfl ?_); (first | (refine xmQ ?_) | (refine xlQ ?_) | (refine xfQ ?_) | ((with_reducible refine Knd.binOp ?_); (first | (refine xdQ ?_) | (refine xiQ ?_))) | ((with_reducible refine Knd.mapUpdate ?_); (refine Exec.mapUpdate rfl rfl rfl (tysOk.get rfl) rfl (tysOk.get rfl) rfl (by assumption) (by repeat (first | exact Upd.here | apply Upd.there)) ?_)))) | (with_reducible first | apply Tr.next | apply Tr.seq | apply Tr.region | apply Tr.nil | apply Tr.exit | apply Tr.then_exit | apply Tr.in_normal) | ((with_reducible refine Tr.in_exit ?_ ?_); (exact rfl)) | (refine Tr.cond_f rfl (by first | (with_reducible assumption) | (with_reducible rfl) | (with_reducible exact (not_not_intro rfl)) | omega) ?_)))
  refine gvQ (r := box b46 _ _) ?_
  exact Tr.again (i + 1, _, _) ⟨by simp only; omega, says_upd hx hes cl⟩ (by simp only; omega) hsQ
 obtain ⟨es, cl⟩ := y
 dsimp only at hy
 dsimp only
 exact top_e2 E F M0 M hm0 ws w hw k As cs Pa pc Bs ds Br dr Bff df Bd dd hT b5 b11 l0 l st hE hll Da dc hl G T g t hG hTk mb es cl _ hy (fun q hq ho => Int.not_le.1 fun hge => by
  obtain ⟨x, hx, e⟩ := (brk_mem (k := bkOf k) (l := l) (s := st) (q := q)).2 ⟨by omega, hge⟩
  rw [← hbl] at hx
  have : inBr bl bl.length q = true := by
   unfold inBr
   rw [List.take_length]
   exact List.any_eq_true.2 ⟨x, hx, decide_eq_true e⟩
  rw [this] at ho
  cases ho)
end Go.Proofs.Ytcadnjmcmegpjaa

/-
 From the promise to what is shipped: what has happened in the end.
 Conditions: none.
-/
namespace Go.Proofs.Ytcadnjmcmegpjaa
open Go Bf
attribute [local irreducible] Tr Exec Stab HasTy Go.Addr.add IntKind.wrap
theorem TopM.book {M : Mem} {w : Wd} {k : Bp} {As : Option Addr} {cs : Nat} {Pa : Option Addr} {pc : Nat} {Bs : Option Addr} {ds : Nat} {Br : Option Addr} {dr : Nat} {Bff : Option Addr} {df : Nat} {Bd : Option Addr} {dd : Nat} (h : TopM M w k As cs Pa pc Bs ds Br dr Bff df Bd dd) : RBk M (.agg #[.int .i64 k.known, .slice Bs k.sups.length ds, .slice Br k.reqs.length dr, .slice Bff k.fits.length df, .slice Bd k.rds.length dd]) (bkOf k) :=
 bkOf_mem ⟨Bs, ds, Br, dr, Bff, df, Bd, dd, rfl, h.g1, h.g2, h.g3, h.g4⟩
set_option maxHeartbeats 16000000 in
set_option maxRecDepth 20000 in
theorem top_e4 (E : World) (F : List Res) (M0 M : Mem) (hm0 : Mem.le M0 M) (ws : List Value) (w : Wd) (hw : RWd M ws w) (k : Bp) (As : Option Addr) (cs : Nat) (Pa : Option Addr) (pc : Nat) (Bs : Option Addr) (ds : Nat) (Br : Option Addr) (dr : Nat) (Bff : Option Addr) (df : Nat) (Bd : Option Addr) (dd : Nat) (hT : TopM M w k As cs Pa pc Bs ds Br dr Bff df Bd dd) (b5 b11 : Nat)
  (l0 l : List Hp) (st : St) (hrun : runF (bkOf k) l = some st) (hE : TopE (bkOf k) l0 l st) (hll : l.length ≤ 1000) (hll0 : l0.length ≤ 1000) (Da : Option Addr) (dc : Nat) (hl : SlOf 5 RHp M (.slice Da l.length dc) l) :
  Tr E ⟨481, [(22, .bool (l0.any fun h => decide (h.kind ≠ 3))), (28, .int .i64 (l0.length : Int)), (21, .slice Da l.length dc), (5, .pointer (some ⟨b5, 0, none⟩)), (2, .int .i64 k.known), (1, .slice As k.sups.length cs), (13, .slice Pa k.reqs.length pc), (11, .pointer (some ⟨b11, 0, none⟩))], [], M, box b5 38 ws :: box b11 47 [.int .i64 k.known, .slice Bs k.sups.length ds, .slice Br k.reqs.length dr, .slice Bff k.fits.length df, .slice Bd k.rds.length dd] :: F⟩
   ((tailC 14 (Try.f3.body.getD .skip)).wpIn (rf none) 0 Try.prog (bodyPost Try.prog Try.f3 (Post E F M0 fun v M' A' => A' = [] ∧ (fun r _ => r = .bool true) v M'))) := by
 unfold Try.f3
 dsimp only [tailC, Option.getD_some]
 have hsl := hT.sl
 have hrl := hT.rl
 have hl9 := hl.len_le
 have hphys := hE.phys
 have hbk := hT.book
 have hbrl : st.br.length = k.reqs.length := (run_len hrun).2.2.2
 have hdo := do_fn M _ (bkOf k) hbk Da dc l hl
 rw [show doF (bkOf k) l = (resF (bkOf k) st, 0) by rw [doF, hrun]] at hdo
 dsimp only at hdo
 refine Tr.seq ?_
 refine Tr.cutQ (α := Mem × Nat × List Value) (fun y => ⟨481, [(37, .pointer (some ⟨y.2.1, 0, none⟩)), (38, .int .i64 0), (22, .bool (l0.any fun h => decide (h.kind ≠ 3))), (28, .int .i64 (l0.length : Int)), (21, .slice Da l.length dc), (5, .pointer (some ⟨b5, 0, none⟩)), (2, .int .i64 k.known), (1, .slice As k.sups.length cs), (13, .slice Pa k.reqs.length pc), (11, .pointer (some ⟨b11, 0, none⟩))], [], y.1, box y.2.1 47 y.2.2 :: box b5 38 ws :: box b11 47 [.int .i64 k.known, .slice Bs k.sups.length ds, .slice Br k.reqs.length dr, .slice Bff k.fits.length df, .slice Bd k.rds.length dd] :: F⟩)
  (fun y => Mem.le M y.1 ∧ ∃ v1 v2 C c v4 v5, y.2.2 = [v1, v2, .slice C k.reqs.length c, v4, v5]) ?_ (fun y hy => Tr.next ?_)
 ·(refine rQ ?_)
  ((refine Tr.step rfl ?_)); refine Exec.call0 rfl (hdo) rfl ?_
  rintro _ M2 hm2 ⟨v, rfl, hB⟩
  obtain ⟨As2, cs2, Ar2, cr2, Af2, cf2, Ad2, cd2, rfl, f1, f2, f3⟩ := hB
  rw [show (resF (bkOf k) st).reqs.length = k.reqs.length from (res_len (bkOf k) st).2]
  (repeat (first | ((with_reducible refine Tr.step rfl ?_); (first | (refine xmQ ?_) | (refine xaQ ?_) | ((with_reducible refine Knd.store ?_); (refine Exec.storeW rfl rfl (tysOk.get rfl) (by repeat (first | exact Upd.here | apply Upd.there)) rfl rfl (by repeat (first | (with_reducible assumption) | exact AllOne.nil | exact AllOne.bytes _ | refine AllOne.cons (by first | rfl | assumption) ?_)) ?_)) | ((with_reducible refine Knd.alloc ?_); (refine Exec.alloc (tysOk.get rfl) rfl rfl (fun b => ?_))) | ((with_reducible refine Knd.extract ?_); (refine Exec.stab rfl (Stab.extract rfl rfl) rfl ?_)))) | (with_reducible refine Tr.nil ?_)))
  exact Tr.landQ (M2, _, _) ⟨hm2, _, _, _, _, _, _, rfl⟩ hsQ
 obtain ⟨M2, b37, vs⟩ := y
 obtain ⟨hm2, v1, v2, C, c, v4, v5, e⟩ := hy
 dsimp only at hm2 e
 subst e
 dsimp only
 have hbr := broken_fn M2 _ (bkOf k) (hbk.mono hm2) Da dc l (hl.mono RHp.mono hm2) hll
 rw [show brokenF (bkOf k) l = (brkF (bkOf k) l st, 0) by rw [brokenF, hrun]] at hbr
 dsimp only at hbr
 generalize hbl : brkF (bkOf k) l st = bl at hbr hphys
 refine Tr.seq ?_
 refine Tr.cutQ (α := Mem × Option Addr × Nat) (fun y => ⟨481, [(39, .slice y.2.1 bl.length y.2.2), (40, .int .i64 0), (37, .pointer (some ⟨b37, 0, none⟩)), (38, .int .i64 0), (22, .bool (l0.any fun h => decide (h.kind ≠ 3))), (28, .int .i64 (l0.length : Int)), (21, .slice Da l.length dc), (5, .pointer (some ⟨b5, 0, none⟩)), (2, .int .i64 k.known), (1, .slice As k.sups.length cs), (13, .slice Pa k.reqs.length pc), (11, .pointer (some ⟨b11, 0, none⟩))], [], y.1, box b37 47 [v1, v2, .slice C k.reqs.length c, v4, v5] :: box b5 38 ws :: box b11 47 [.int .i64 k.known, .slice Bs k.sups.length ds, .slice Br k.reqs.length dr, .slice Bff k.fits.length df, .slice Bd k.rds.length dd] :: F⟩)
  (fun y => Mem.le M2 y.1 ∧ SlOf 2 RBr y.1 (.slice y.2.1 bl.length y.2.2) bl) ?_ (fun y hy => Tr.next ?_)
 ·(refine rQ ?_)
  ((refine Tr.step rfl ?_)); refine Exec.call0 rfl (hbr) rfl ?_
  rintro _ M3 hm3 ⟨A9, c9, rfl, hI⟩
  (refine rQ ?_)
  exact Tr.landQ (M3, A9, c9) ⟨hm3, hI⟩ hsQ
 obtain ⟨M3, A9, c9⟩ := y
 obtain ⟨hm3, hI⟩ := hy
 dsimp only at hm3 hI
 dsimp only
 have hm13 := hm2.trans hm3
 have hbll := hI.len_le
 refine Tr.seq ?_
 refine Tr.cutQ (α := Mem × (Option Addr × Nat) × (Option Addr × Nat)) (fun y => ⟨481, [(41, .slice y.2.1.1 k.reqs.length y.2.1.2), (42, .slice y.2.2.1 k.sups.length y.2.2.2), (43, .bool true), (39, .slice A9 bl.length c9), (40, .int .i64 0), (37, .pointer (some ⟨b37, 0, none⟩)), (38, .int .i64 0), (22, .bool (l0.any fun h => decide (h.kind ≠ 3))), (28, .int .i64 (l0.length : Int)), (21, .slice Da l.length dc), (5, .pointer (some ⟨b5, 0, none⟩)), (2, .int .i64 k.known), (1, .slice As k.sups.length cs), (13, .slice Pa k.reqs.length pc), (11, .pointer (some ⟨b11, 0, none⟩))], [], y.1, box b37 47 [v1, v2, .slice C k.reqs.length c, v4, v5] :: box b5 38 ws :: box b11 47 [.int .i64 k.known, .slice Bs k.sups.length ds, .slice Br k.reqs.length dr, .slice Bff k.fits.length df, .slice Bd k.rds.length dd] :: F⟩)
  (fun y => Mem.le M3 y.1 ∧ Ints y.1 (.slice y.2.1.1 k.reqs.length y.2.1.2) (givL k.reqs.length l) ∧ Ints y.1 (.slice y.2.2.1 k.sups.length y.2.2.2) (takL k.sups.length l)) ?_ (fun y hy => Tr.next ?_)
 ·have hsu := sums_fn M3 _ (bkOf k) (hbk.mono hm13) (by show k.sups.length ≤ 64; omega) (by show k.reqs.length ≤ 64; omega) Da dc l (hl.mono RHp.mono hm13) hll hE.ok (fun z hz hk => hE.amt z hz (by omega))
  (refine rQ ?_)
  ((refine Tr.step rfl ?_)); refine Exec.call0 rfl (hsu) rfl ?_
  rintro _ M4 hm4 ⟨G, g, T, t, rfl, hG, hTk⟩
  (refine rQ ?_)
  exact Tr.landQ (M4, (G, g), (T, t)) ⟨hm4, hG, hTk⟩ hsQ
 obtain ⟨M4, ⟨G, g⟩, ⟨T, t⟩⟩ := y
 obtain ⟨hm4, hG, hTk⟩ := hy
 dsimp only at hm4 hG hTk
 dsimp only
 have hm14 := hm13.trans hm4
 refine Tr.seq ?_
 refine Tr.cutQ (α := Unit) (fun _ => ⟨481, [(39, .slice A9 bl.length c9), (41, .slice G k.reqs.length g), (42, .slice T k.sups.length t), (28, .int .i64 (l0.length : Int)), (21, .slice Da l.length dc), (5, .pointer (some ⟨b5, 0, none⟩)), (2, .int .i64 k.known), (1, .slice As k.sups.length cs), (13, .slice Pa k.reqs.length pc), (11, .pointer (some ⟨b11, 0, none⟩))], [], M4, box b5 38 ws :: box b11 47 [.int .i64 k.known, .slice Bs k.sups.length ds, .slice Br k.reqs.length dr, .slice Bff k.fits.length df, .slice Bd k.rds.length dd] :: F⟩) (fun _ => True) ?_ (fun _ _ => Tr.next ?_)
 ·generalize (l0.any fun h => decide (h.kind ≠ 3)) = ph at hphys
  by_cases hp : 0 < bl.length
  ·obtain rfl := hphys hp
   (refine rQ ?_)
   refine gvQ (r := box b37 _ _) ?_
   exact Tr.landQ () trivial hsQ
  ·(refine rQ ?_)
   refine gvQ (r := box b37 _ _) ?_
   exact Tr.landQ () trivial hsQ
 exact top_e3 E F M0 M4 (hm0.trans hm14) ws w (hw.mono hm14) k As cs Pa pc Bs ds Br dr Bff df Bd dd (hT.mono hm14) b5 b11 l0 l st hE hll hll0 Da dc (hl.mono RHp.mono hm14) G T g t hG hTk A9 c9 bl hbl.symm (hI.mono RBr.mono hm4) hbrl
end Go.Proofs.Ytcadnjmcmegpjaa

/-
 From the promise to what is shipped: day by day.
 Conditions: none.
-/
namespace Go.Proofs.Ytcadnjmcmegpjaa
open Go Bf
attribute [local irreducible] Tr Exec Stab HasTy Go.Addr.add IntKind.wrap
theorem any_not {l : List Rq} {d : Int} (h : (l.any fun r => decide (r.due = d)) = false) (k : Bk) (hk : k.reqs = l) : ∀ q, q < k.reqs.length → (fxB k).due.getD q 0 ≠ d := fun q hq e => by
 obtain ⟨y, hy⟩ := get_of_lt hq
 rw [← req_due' hy] at e
 have : (l.any fun r => decide (r.due = d)) = true := List.any_eq_true.2 ⟨y, by rw [← hk]; exact List.mem_of_getElem? hy, decide_eq_true e⟩
 rw [h] at this
 cases this
theorem any_yes {l : List Rq} {d : Int} (h : (l.any fun r => decide (r.due = d)) = true) (k : Bk) (hk : k.reqs = l) : ∃ q, q < k.reqs.length ∧ (fxB k).due.getD q 0 = d := by
 obtain ⟨y, hy, e⟩ := List.any_eq_true.1 h
 have e := of_decide_eq_true e
 rw [← hk] at hy
 obtain ⟨q, hq, hqy⟩ := List.getElem_of_mem hy
 exact ⟨q, hq, by rw [← req_due' (y := y) (by rw [List.getElem?_eq_getElem hq, hqy]), e]⟩
theorem hp_elems (M : Mem) (l : List Hp) : Elems 5 RHp M (l.flatMap hpC) l := Elems.flat (R := RHp) hpC_len (fun _ => rfl) l
set_option maxHeartbeats 32000000 in
set_option maxRecDepth 20000 in
theorem top_e5 (E : World) (F : List Res) (M0 M : Mem) (hm0 : Mem.le M0 M) (ws : List Value) (w : Wd) (hw : RWd M ws w) (k : Bp) (As : Option Addr) (cs : Nat) (Pa : Option Addr) (pc : Nat) (Bs : Option Addr) (ds : Nat) (Br : Option Addr) (dr : Nat) (Bff : Option Addr) (df : Nat) (Bd : Option Addr) (dd : Nat) (hT : TopM M w k As cs Pa pc Bs ds Br dr Bff df Bd dd) (b5 b11 : Nat)
  (l0 : List Hp) (s0 : St) (h0 : runF (bkOf k) l0 = some s0) (hl06 : l0.length ≤ 6) (Da0 : Option Addr) (dc0 : Nat) (hl0 : SlOf 5 RHp M (.slice Da0 l0.length dc0) l0) :
  Tr E ⟨481, [(22, .bool (l0.any fun h => decide (h.kind ≠ 3))), (21, .slice Da0 l0.length dc0), (5, .pointer (some ⟨b5, 0, none⟩)), (2, .int .i64 k.known), (1, .slice As k.sups.length cs), (13, .slice Pa k.reqs.length pc), (11, .pointer (some ⟨b11, 0, none⟩))], [], M, box b5 38 ws :: box b11 47 [.int .i64 k.known, .slice Bs k.sups.length ds, .slice Br k.reqs.length dr, .slice Bff k.fits.length df, .slice Bd k.rds.length dd] :: F⟩
   ((tailC 12 (Try.f3.body.getD .skip)).wpIn (rf none) 0 Try.prog (bodyPost Try.prog Try.f3 (Post E F M0 fun v M' A' => A' = [] ∧ (fun r _ => r = .bool true) v M'))) := by
 unfold Try.f3
 dsimp only [tailC, Option.getD_some]
 have hsl := hT.sl
 have hrl := hT.rl
 have hbk := hT.book
 have hp := hT.p
 have hv : validB (bkOf k) := bk_valid hT.ok
 have hdue : ∀ q, q < (bkOf k).reqs.length → (fxB (bkOf k)).due.getD q 0 < 1024 := fun q hq => by
  obtain ⟨y, hy⟩ := get_of_lt hq
  rw [← req_due' hy]
  have := (hT.ok.2.1.2.2 y (List.mem_of_getElem? hy)).2.2.2.1
  omega
 generalize hph0 : (l0.any fun h => decide (h.kind ≠ 3)) = ph
 refine Tr.seq ?_
 refine Tr.cutQ (α := Unit) (fun _ => ⟨481, [(28, .int .i64 (l0.length : Int)), (22, .bool ph), (21, .slice Da0 l0.length dc0), (5, .pointer (some ⟨b5, 0, none⟩)), (2, .int .i64 k.known), (1, .slice As k.sups.length cs), (13, .slice Pa k.reqs.length pc), (11, .pointer (some ⟨b11, 0, none⟩))], [], M, box b5 38 ws :: box b11 47 [.int .i64 k.known, .slice Bs k.sups.length ds, .slice Br k.reqs.length dr, .slice Bff k.fits.length df, .slice Bd k.rds.length dd] :: F⟩) (fun _ => True) ?_ (fun _ _ => Tr.next ?_)
 ·(refine rQ ?_)
  exact Tr.landQ () trivial hsQ
 refine Tr.seq ?_
 refine Tr.cutQ (α := Mem × List Hp × St × (Option Addr × Nat)) (fun y => ⟨481, [(22, .bool ph), (28, .int .i64 (l0.length : Int)), (21, .slice y.2.2.2.1 y.2.1.length y.2.2.2.2), (5, .pointer (some ⟨b5, 0, none⟩)), (2, .int .i64 k.known), (1, .slice As k.sups.length cs), (13, .slice Pa k.reqs.length pc), (11, .pointer (some ⟨b11, 0, none⟩))], [], y.1, box b5 38 ws :: box b11 47 [.int .i64 k.known, .slice Bs k.sups.length ds, .slice Br k.reqs.length dr, .slice Bff k.fits.length df, .slice Bd k.rds.length dd] :: F⟩)
  (fun y => Mem.le M y.1 ∧ (∃ L, y.2.1 = l0 ++ L ∧ TopI (bkOf k) l0 s0 L y.2.2.1 1024) ∧ SlOf 5 RHp y.1 (.slice y.2.2.2.1 y.2.1.length y.2.2.2.2) y.2.1) ?_ (fun y hy => Tr.next ?_)
 ·(refine rQ ?_)
  refine Tr.loop (α := Nat × Mem × List Hp × St × (Option Addr × Nat)) (fun y => ⟨481, [(201, .int .i64 (y.1 : Int)), (22, .bool ph), (28, .int .i64 (l0.length : Int)), (21, .slice y.2.2.2.2.1 y.2.2.1.length y.2.2.2.2.2), (5, .pointer (some ⟨b5, 0, none⟩)), (2, .int .i64 k.known), (1, .slice As k.sups.length cs), (13, .slice Pa k.reqs.length pc), (11, .pointer (some ⟨b11, 0, none⟩))], [], y.2.1, box b5 38 ws :: box b11 47 [.int .i64 k.known, .slice Bs k.sups.length ds, .slice Br k.reqs.length dr, .slice Bff k.fits.length df, .slice Bd k.rds.length dd] :: F⟩)
   (fun y => y.1 ≤ 1024 ∧ Mem.le M y.2.1 ∧ (∃ L, y.2.2.1 = l0 ++ L ∧ TopI (bkOf k) l0 s0 L y.2.2.2.1 y.1) ∧ SlOf 5 RHp y.2.1 (.slice y.2.2.2.2.1 y.2.2.1.length y.2.2.2.2.2) y.2.2.1) (fun y => 1024 - y.1) (0, M, l0, s0, Da0, dc0) ⟨Nat.zero_le _, Mem.le.refl _, ⟨[], (List.append_nil _).symm, top_zero hv h0⟩, hl0⟩ hsQ (fun y hy => ?_)
  obtain ⟨d, M1, l, st, Da, dc⟩ := y
  obtain ⟨hd, hm1, ⟨L, hlL, hI⟩, hl⟩ := hy
  dsimp only at hd hm1 hlL hI hl
  dsimp only
  have hll : l.length ≤ 131 := by
   have := top_len hI hrl
   rw [hlL, List.length_append]; omega
  by_cases hlt : d < 1024
  rotate_left
  ·have ed : d = 1024 := by omega
   subst ed
   (refine rQ ?_)
   exact Tr.landQ (M1, l, st, Da, dc) ⟨hm1, ⟨L, hlL, hI⟩, hl⟩ hsQ
  (refine rQ ?_)
  refine Tr.loop (α := Nat) (fun j => ⟨481, [(206, .int .i64 (j : Int)), (205, .int .i64 (k.reqs.length : Int)), (204, .slice Pa k.reqs.length pc), (30, .bool ((k.reqs.take j).any fun r => decide (r.due = (d : Int)))), (29, .int .i64 (d : Int)), (201, .int .i64 (d : Int)), (22, .bool ph), (28, .int .i64 (l0.length : Int)), (21, .slice Da l.length dc), (5, .pointer (some ⟨b5, 0, none⟩)), (2, .int .i64 k.known), (1, .slice As k.sups.length cs), (13, .slice Pa k.reqs.length pc), (11, .pointer (some ⟨b11, 0, none⟩))], [], M1, box b5 38 ws :: box b11 47 [.int .i64 k.known, .slice Bs k.sups.length ds, .slice Br k.reqs.length dr, .slice Bff k.fits.length df, .slice Bd k.rds.length dd] :: F⟩)
   (fun j => j ≤ k.reqs.length) (fun j => k.reqs.length - j) 0 (Nat.zero_le _) hsQ (fun j hj => ?_)
  by_cases hlt2 : j < k.reqs.length
  ·obtain ⟨r, hr⟩ := get_of_lt hlt2
   obtain ⟨hA, ch, hat, rfl⟩ := (hp.mono RRqC.mono hm1).elem hr
   simp only [rqC] at hat
   have hat0 := any_take (p := fun r : Rq => decide (r.due = (d : Int))) hr
   cases hph : (k.reqs.take j).any fun r => decide (r.due = (d : Int)) with
   | true =>
    rw [hph, Bool.true_or] at hat0
    (repeat (first | ((with_reducible refine Tr.step rfl ?_); (first | (refine xmQ ?_) | (refine xaQ ?_) | ((with_reducible refine Knd.load ?_); (refine Exec.stab rfl (Stab.loadMA rfl (tysOk.get rfl) rfl (by assumption) (by first | rfl | assumption)) rfl ?_)) | ((with_reducible refine Knd.binOp ?_); (first | (refine xdQ ?_) | (refine xiQ ?_))) | ((with_reducible refine Knd.pick ?_); (refine Exec.stab rfl (Stab.pick_t rfl (by first | (with_reducible rfl) | (with_reducible assumption) | (with_reducible exact Bool.not_true) | (with_reducible exact Bool.not_false)) rfl) rfl ?_)) | ((with_reducible refine Knd.store ?_); (refine Exec.storeW rfl rfl (tysOk.get rfl) (by repeat (first | exact Upd.here | apply Upd.there)) rfl rfl (by repeat (first | (with_reducible assumption) | exact AllOne.nil | exact AllOne.bytes _ | refine AllOne.cons (by first | rfl | assumption) ?_)) ?_)) | ((with_reducible refine Knd.alloc ?_); (refine Exec.alloc (tysOk.get rfl) rfl rfl (fun b => ?_))) | (refine xxQ ?_))) | (with_reducible first | apply Tr.next | apply Tr.seq | apply Tr.region | apply Tr.nil) | (refine Tr.guard_s0 rfl rfl rfl (by first | (with_reducible rfl) | (with_reducible assumption) | (with_reducible exact Bool.not_true) | (with_reducible exact Bool.not_false)) rfl rfl ?_) | (with_reducible first | apply Tr.skip | apply Tr.block | apply Tr.in_normal) | (refine Tr.cond_t rfl (by first | (with_reducible assumption) | (with_reducible rfl) | (with_reducible exact (not_not_intro rfl)) | omega) ?_)))
    refine gvQ (r := box _ 52 _) ?_
    rw [← hat0]
    exact Tr.again (j + 1) (by omega) (by omega) hsQ
   | false =>
    rw [hph, Bool.false_or] at hat0
    (repeat (first | ((with_reducible refine Tr.step rfl ?_); (first | (refine xmQ ?_) | (refine xaQ ?_) | ((with_reducible refine Knd.load ?_); (refine Exec.stab rfl (Stab.loadMA rfl (tysOk.get rfl) rfl (by assumption) (by first | rfl | assumption)) rfl ?_)) | ((with_reducible refine Knd.binOp ?_); (first | (refine xdQ ?_) | (refine xiQ ?_))) | ((with_reducible refine Knd.pick ?_); (refine Exec.stab rfl (Stab.pick_f rfl (by first | (with_reducible rfl) | (with_reducible assumption) | (with_reducible exact Bool.not_true) | (with_reducible exact Bool.not_false)) rfl) rfl ?_)) | ((with_reducible refine Knd.store ?_); (refine Exec.storeW rfl rfl (tysOk.get rfl) (by repeat (first | exact Upd.here | apply Upd.there)) rfl rfl (by repeat (first | (with_reducible assumption) | exact AllOne.nil | exact AllOne.bytes _ | refine AllOne.cons (by first | rfl | assumption) ?_)) ?_)) | ((with_reducible refine Knd.alloc ?_); (refine Exec.alloc (tysOk.get rfl) rfl rfl (fun b => ?_))) | (refine xxQ ?_))) | (with_reducible first | apply Tr.next | apply Tr.seq | apply Tr.region | apply Tr.nil) | ((refine Tr.guard_l rfl rfl rfl (by first | (with_reducible rfl) | (with_reducible assumption) | (with_reducible exact Bool.not_true) | (with_reducible exact Bool.not_false)) ?_); (first | (refine xmQ ?_) | (refine xlQ ?_) | (refine xfQ ?_) | (refine xiQ ?_))) | (with_reducible first | apply Tr.skip | apply Tr.block | apply Tr.in_normal) | (refine Tr.cond_t rfl (by first | (with_reducible assumption) | (with_reducible rfl) | (with_reducible exact (not_not_intro rfl)) | omega) ?_)))
    refine gvQ (r := box _ 52 _) ?_
    rw [← hat0]
    exact Tr.again (j + 1) (by omega) (by omega) hsQ
  have ej : j = k.reqs.length := by omega
  subst ej
  rw [List.take_length]
  clear hj hlt2
  cases hany : k.reqs.any fun r => decide (r.due = (d : Int)) with
  | false =>
   have hI2 := top_skip hI (any_not hany (bkOf k) rfl)
   (refine rQ ?_)
   exact Tr.again (d + 1, M1, l, st, Da, dc) ⟨by simp only; omega, hm1, ⟨L, hlL, hI2⟩, hl⟩ (by simp only; omega) hsQ
  | true =>
  obtain ⟨p, hpl, hpd⟩ := any_yes hany (bkOf k) rfl
  have hrun : runF (bkOf k) l = some st := by rw [hlL]; exact hI.run
  have hsh := ship0_fn M1 _ (bkOf k) (hbk.mono hm1) Da dc l hl (d : Int)
  rw [show shipL (bkOf k) l (d : Int) = (shipsOf (resF (bkOf k) st) (d : Int), 0) by rw [shipL, hrun]; exact if_pos (by omega)] at hsh
  dsimp only at hsh
  (refine rQ ?_)
  ((refine Tr.step rfl ?_)); refine Exec.call0 rfl (hsh) rfl ?_
  rintro _ M2 hm2 ⟨A9, c9, rfl, hS, hex⟩
  have hmx := hex st hrun (by omega)
  clear hex hsh
  have hsl25 := ships_len' (bkOf k) st (d : Int) hsl hrl
  obtain ⟨⟨s2, hI2⟩, hkd⟩ := top_ship hI hsl hrl hpl hpd hmx
  clear hmx
  generalize shipsOf (resF (bkOf k) st) (d : Int) = sh at hS hI2 hkd hsl25
  have hl2 := hl.mono RHp.mono hm2
  have hm02 := hm1.trans hm2
  (refine rQ ?_)
  refine Tr.loop (α := Nat) (fun j => ⟨481, [(231, .int .i64 (j : Int)), (230, .int .i64 (sh.length : Int)), (229, .slice A9 sh.length c9), (33, .slice A9 sh.length c9), (29, .int .i64 (d : Int)), (201, .int .i64 (d : Int)), (22, .bool ph), (28, .int .i64 (l0.length : Int)), (21, .slice Da l.length dc), (5, .pointer (some ⟨b5, 0, none⟩)), (2, .int .i64 k.known), (1, .slice As k.sups.length cs), (13, .slice Pa k.reqs.length pc), (11, .pointer (some ⟨b11, 0, none⟩))], [], M2, box b5 38 ws :: box b11 47 [.int .i64 k.known, .slice Bs k.sups.length ds, .slice Br k.reqs.length dr, .slice Bff k.fits.length df, .slice Bd k.rds.length dd] :: F⟩)
   (fun j => j ≤ sh.length) (fun j => sh.length - j) 0 (Nat.zero_le _) hsQ (fun j hj => ?_)
  by_cases hlt2 : j < sh.length
  ·obtain ⟨z, hz⟩ := get_of_lt hlt2
   obtain ⟨hA, ch, hat, rfl⟩ := hS.elem hz
   obtain ⟨hk3, hkday⟩ := hkd z (List.mem_of_getElem? hz)
   (repeat (first | ((with_reducible refine Tr.step rfl ?_); (first | (refine xmQ ?_) | ((with_reducible refine Knd.load ?_); (first | (refine xlQ ?_) | (refine Exec.stab rfl (Stab.loadMA rfl (tysOk.get rfl) rfl (by assumption) (by first | rfl | assumption)) rfl ?_))) | (refine xfQ ?_) | ((with_reducible refine Knd.binOp ?_); (first | (refine xdQ ?_) | (refine xiQ ?_))) | ((with_reducible refine Knd.pick ?_); (refine Exec.stab rfl (Stab.pick_fd rfl (by first | (with_reducible assumption) | (with_reducible rfl) | (with_reducible exact (not_not_intro rfl)) | omega) rfl) rfl ?_)) | ((with_reducible refine Knd.store ?_); (refine Exec.storeW rfl rfl (tysOk.get rfl) (by repeat (first | exact Upd.here | apply Upd.there)) rfl rfl (by repeat (first | (with_reducible assumption) | exact AllOne.nil | exact AllOne.bytes _ | refine AllOne.cons (by first | rfl | assumption) ?_)) ?_)) | ((with_reducible refine Knd.alloc ?_); (refine Exec.alloc (tysOk.get rfl) rfl rfl (fun b => ?_))) | (refine xxQ ?_))) | (with_reducible first | apply Tr.next | apply Tr.seq | apply Tr.region | apply Tr.nil) | ((refine Tr.guard_y' rfl rfl rfl (by first | (with_reducible assumption) | (with_reducible rfl) | (with_reducible exact (not_not_intro rfl)) | omega) ?_); (first | (refine xmQ ?_) | (refine xlQ ?_) | (refine xfQ ?_) | (refine xiQ ?_))) | (with_reducible first | apply Tr.skip | apply Tr.block | apply Tr.in_normal) | (refine Tr.cond_t rfl (by first | (with_reducible assumption) | (with_reducible rfl) | (with_reducible exact (not_not_intro rfl)) | omega) ?_) | (refine Tr.cond_f rfl (by first | (with_reducible assumption) | (with_reducible rfl) | (with_reducible exact (not_not_intro rfl)) | omega) ?_)))
   refine gvQ (r := box _ 59 _) ?_
   exact Tr.again (j + 1) (by omega) (by omega) hsQ
  have ej : j = sh.length := by omega
  subst ej
  clear hj hlt2
  have hrow := SlOf.row (R := RHp) hl2 (fun _ _ h => h) hpC_len
  have hrow2 := SlOf.row (R := RHp) hS (fun _ _ h => h) hpC_len
  (repeat (first | ((with_reducible refine Tr.step rfl ?_); (first | (refine xmQ ?_) | (refine xiQ ?_) | ((with_reducible refine Knd.buildSlice ?_); (refine Exec.buildSlice (tysOk.get rfl) rfl (tysOk.get rfl) rfl rfl rfl rfl rfl (by repeat (first | exact BuildP.nil | ((apply BuildP.one); (rfl); (rfl); (first | rfl | assumption); (repeat (first | exact SetL.z | apply SetL.s))) | ((apply BuildP.many); (rfl); (rfl); (rfl); (rfl); (repeat (first | exact PutL.nil | ((apply PutL.cons); (repeat (first | exact SetL.z | apply SetL.s)))))))) rfl (fun b => ?_))))) | (with_reducible first | apply Tr.next | apply Tr.seq | apply Tr.region | apply Tr.nil | apply Tr.exit | apply Tr.then_exit) | ((with_reducible refine Tr.in_exit ?_ ?_); (exact rfl)) | (refine Tr.cond_f rfl (by first | (with_reducible assumption) | (with_reducible rfl) | (with_reducible exact (not_not_intro rfl)) | omega) ?_)))
  generalize b = bq
  refine Tr.box_own 5 0 (b := bq) (by repeat (first | exact Upd.here | apply Upd.there)) rfl (by intro u hu; cases hu) (by simp [maxLen]) ?_
  ((refine Tr.step rfl ?_))
  refine Exec.append (news := l.flatMap hpC) rfl rfl (tysOk.get rfl) rfl (tysOk.get rfl) rfl rfl rfl rfl (by repeat (first | exact Del.here | apply Del.there)) (Src.row hrow) (flatMap_len hpC_len _) (flatMap_one hpC_one _) (by omega) (by omega) rfl (fun A6 c6 hc6 => ?_)
  rw [Nat.zero_add, zeros0_app]
  (repeat (((with_reducible refine Tr.step rfl ?_); (with_reducible refine Knd.move ?_); (refine xmQ ?_))))
  ((refine Tr.step rfl ?_))
  refine Exec.append (news := sh.flatMap hpC) rfl rfl (tysOk.get rfl) rfl (tysOk.get rfl) rfl rfl rfl rfl (by repeat (first | exact Del.here | apply Del.there)) (Src.row hrow2) (flatMap_len hpC_len _) (flatMap_one hpC_one _) (by omega) (by omega) rfl (fun A8 c8 hc8 => ?_)
  rw [← List.flatMap_append, ← List.length_append]
  refine pbQ (r := ownS 59 5 _ _ _ _) (fun M3 hm3 hok3 => ?_)
  have hl3 : SlOf 5 RHp M3 (.slice A8 (l ++ sh).length c8) (l ++ sh) := SlOf.ofOwn hok3 rfl hc8 (hp_elems _ _)
  (refine rQ ?_)
  exact Tr.again (d + 1, M3, l ++ sh, s2, A8, c8) ⟨by simp only; omega, hm02.trans hm3, ⟨L ++ sh, by simp only [hlL, List.append_assoc], hI2⟩, hl3⟩ (by simp only; omega) hsQ
 obtain ⟨M1, l, st, Da, dc⟩ := y
 obtain ⟨hm1, ⟨L, hlL, hI⟩, hl⟩ := hy
 dsimp only at hm1 hlL hI hl
 dsimp only
 have hll : l.length ≤ 131 := by
  have := top_len hI hrl
  rw [hlL, List.length_append]; omega
 have hE := top_fin hI h0 hdue
 have hrun := hI.run
 rw [← hlL] at hE hrun
 rw [← hph0]
 exact top_e4 E F M0 M1 (hm0.trans hm1) ws w (hw.mono hm1) k As cs Pa pc Bs ds Br dr Bff df Bd dd (hT.mono hm1) b5 b11 l0 l st hrun hE (by omega) (by omega) Da dc hl
end Go.Proofs.Ytcadnjmcmegpjaa

/-
 From the promise to what is shipped: what happens, as far as it is allowed.
 Conditions: none.
-/
namespace Go.Proofs.Ytcadnjmcmegpjaa
open Go Bf
attribute [local irreducible] Tr Exec Stab HasTy Go.Addr.add IntKind.wrap
theorem any_snoc {α : Type} (p : α → Bool) (l : List α) (z : α) : (l ++ [z]).any p = (l.any p || p z) := by
 rw [List.any_append]; simp
set_option maxHeartbeats 32000000 in
set_option maxRecDepth 20000 in
theorem top_e6 (E : World) (F : List Res) (M0 M : Mem) (hm0 : Mem.le M0 M) (ws : List Value) (w : Wd) (hw : RWd M ws w) (k : Bp) (As : Option Addr) (cs : Nat) (Pa : Option Addr) (pc : Nat) (Bs : Option Addr) (ds : Nat) (Br : Option Addr) (dr : Nat) (Bff : Option Addr) (df : Nat) (Bd : Option Addr) (dd : Nat) (hT : TopM M w k As cs Pa pc Bs ds Br dr Bff df Bd dd) (b5 b11 : Nat)
  (l : List Hp) (hl6 : l.length ≤ 6) (La : Option Addr) (lc : Nat) (hl : SlOf 5 RHp M (.slice La l.length lc) l) :
  Tr E ⟨481, [(4, .slice La l.length lc), (5, .pointer (some ⟨b5, 0, none⟩)), (2, .int .i64 k.known), (1, .slice As k.sups.length cs), (13, .slice Pa k.reqs.length pc), (11, .pointer (some ⟨b11, 0, none⟩))], [], M, box b5 38 ws :: box b11 47 [.int .i64 k.known, .slice Bs k.sups.length ds, .slice Br k.reqs.length dr, .slice Bff k.fits.length df, .slice Bd k.rds.length dd] :: F⟩
   ((tailC 9 (Try.f3.body.getD .skip)).wpIn (rf none) 0 Try.prog (bodyPost Try.prog Try.f3 (Post E F M0 fun v M' A' => A' = [] ∧ (fun r _ => r = .bool true) v M'))) := by
 unfold Try.f3
 dsimp only [tailC, Option.getD_some]
 have hbk := hT.book
 have hv : validB (bkOf k) := bk_valid hT.ok
 have hl9 := hl.len_le
 refine Tr.seq ?_
 refine Tr.cutQ (α := Unit) (fun _ => ⟨481, [(21, .slice none 0 0), (4, .slice La l.length lc), (5, .pointer (some ⟨b5, 0, none⟩)), (2, .int .i64 k.known), (1, .slice As k.sups.length cs), (13, .slice Pa k.reqs.length pc), (11, .pointer (some ⟨b11, 0, none⟩))], [], M, box b5 38 ws :: box b11 47 [.int .i64 k.known, .slice Bs k.sups.length ds, .slice Br k.reqs.length dr, .slice Bff k.fits.length df, .slice Bd k.rds.length dd] :: F⟩) (fun _ => True) ?_ (fun _ _ => Tr.next ?_)
 ·(refine rQ ?_)
  exact Tr.landQ () trivial hsQ
 refine Tr.seq ?_
 refine Tr.cutQ (α := Unit) (fun _ => ⟨481, [(22, .bool false), (21, .slice none 0 0), (4, .slice La l.length lc), (5, .pointer (some ⟨b5, 0, none⟩)), (2, .int .i64 k.known), (1, .slice As k.sups.length cs), (13, .slice Pa k.reqs.length pc), (11, .pointer (some ⟨b11, 0, none⟩))], [], M, box b5 38 ws :: box b11 47 [.int .i64 k.known, .slice Bs k.sups.length ds, .slice Br k.reqs.length dr, .slice Bff k.fits.length df, .slice Bd k.rds.length dd] :: F⟩) (fun _ => True) ?_ (fun _ _ => Tr.next ?_)
 ·(refine rQ ?_)
  exact Tr.landQ () trivial hsQ
 refine Tr.seq ?_
 refine Tr.cutQ (α := Mem × List Hp × (Option Addr × Nat)) (fun y => ⟨481, [(22, .bool (y.2.1.any fun h => decide (h.kind ≠ 3))), (21, .slice y.2.2.1 y.2.1.length y.2.2.2), (5, .pointer (some ⟨b5, 0, none⟩)), (2, .int .i64 k.known), (1, .slice As k.sups.length cs), (13, .slice Pa k.reqs.length pc), (11, .pointer (some ⟨b11, 0, none⟩))], [], y.1, box b5 38 ws :: box b11 47 [.int .i64 k.known, .slice Bs k.sups.length ds, .slice Br k.reqs.length dr, .slice Bff k.fits.length df, .slice Bd k.rds.length dd] :: F⟩)
  (fun y => Mem.le M y.1 ∧ y.2.1.length ≤ 6 ∧ (∃ s0, runF (bkOf k) y.2.1 = some s0) ∧ SlOf 5 RHp y.1 (.slice y.2.2.1 y.2.1.length y.2.2.2) y.2.1) ?_ (fun y hy => Tr.next ?_)
 ·(refine rQ ?_)
  refine Tr.loop (α := Nat × Mem × List Hp × (Option Addr × Nat)) (fun y => ⟨481, [(173, .int .i64 (y.1 : Int)), (172, .int .i64 (l.length : Int)), (171, .slice La l.length lc), (22, .bool (y.2.2.1.any fun h => decide (h.kind ≠ 3))), (21, .slice y.2.2.2.1 y.2.2.1.length y.2.2.2.2), (5, .pointer (some ⟨b5, 0, none⟩)), (2, .int .i64 k.known), (1, .slice As k.sups.length cs), (13, .slice Pa k.reqs.length pc), (11, .pointer (some ⟨b11, 0, none⟩))], [], y.2.1, box b5 38 ws :: box b11 47 [.int .i64 k.known, .slice Bs k.sups.length ds, .slice Br k.reqs.length dr, .slice Bff k.fits.length df, .slice Bd k.rds.length dd] :: F⟩)
   (fun y => y.1 ≤ l.length ∧ Mem.le M y.2.1 ∧ y.2.2.1.length ≤ y.1 ∧ (∃ s0, runF (bkOf k) y.2.2.1 = some s0) ∧ SlOf 5 RHp y.2.1 (.slice y.2.2.2.1 y.2.2.1.length y.2.2.2.2) y.2.2.1) (fun y => l.length - y.1) (0, M, [], none, 0) ⟨Nat.zero_le _, Mem.le.refl _, Nat.le_refl _, ⟨_, run_nil hv⟩, SlOf.nil _ _ _⟩ hsQ (fun y hy => ?_)
  obtain ⟨i, M1, l0, Da, dc⟩ := y
  obtain ⟨hi, hm1, hl0i, hr0, hD⟩ := hy
  dsimp only at hi hm1 hl0i hr0 hD
  dsimp only
  by_cases hlt : i < l.length
  rotate_left
  ·have ei : i = l.length := by omega
   subst ei
   (refine rQ ?_)
   exact Tr.landQ (M1, l0, Da, dc) ⟨hm1, by simp only; omega, hr0, hD⟩ hsQ
  obtain ⟨z, hz⟩ := get_of_lt hlt
  obtain ⟨hA, ch, hat, rfl⟩ := (hl.mono RHp.mono hm1).elem hz
  have hrow := SlOf.row (R := RHp) hD (fun _ _ h => h) hpC_len
  (repeat (first | ((with_reducible refine Tr.step rfl ?_); (first | ((with_reducible refine Knd.load ?_); (refine Exec.stab rfl (Stab.loadMA rfl (tysOk.get rfl) rfl (by assumption) (by first | rfl | assumption)) rfl ?_)) | (refine xiQ ?_) | ((with_reducible refine Knd.store ?_); (refine Exec.storeW rfl rfl (tysOk.get rfl) (by repeat (first | exact Upd.here | apply Upd.there)) rfl rfl (by repeat (first | (with_reducible assumption) | exact AllOne.nil | exact AllOne.bytes _ | refine AllOne.cons (by first | rfl | assumption) ?_)) ?_)) | ((with_reducible refine Knd.alloc ?_); (refine Exec.alloc (tysOk.get rfl) rfl rfl (fun b => ?_))) | (refine xxQ ?_))) | (with_reducible first | apply Tr.next | apply Tr.seq | apply Tr.region | apply Tr.nil | apply Tr.skip | apply Tr.block) | (refine Tr.cond_t rfl (by first | (with_reducible assumption) | (with_reducible rfl) | (with_reducible exact (not_not_intro rfl)) | omega) ?_)))
  generalize b = b24
  (((apply Tr.draw); (kernel_rfl)); (refine tkQ 1 (hB := by exact fun _ h => h) (s := by exact Stab.move rfl) ?_); (refine tkQ 3 (s := by exact swQ) ?_))
  ((refine TrM.start2 _ (PA.build 0 [] rfl (by first | exact .inl rfl | exact .inr ⟨_, _, _, rfl, rfl, rfl⟩) (tysOk.get rfl) rfl (tysOk.get rfl) rfl rfl rfl rfl rfl (by repeat (exact BuildP.nil)) rfl) (PA.build1 4 [(180, .agg #[.int .i64 z.kind, .int .i64 z.sup, .int .i64 z.req, .int .i64 z.day, .int .i64 z.amt])] rfl (by first | exact .inl rfl | exact .inr ⟨_, _, _, rfl, rfl, rfl⟩) rfl (tysOk.get rfl) rfl (tysOk.get rfl) rfl rfl rfl rfl rfl (by first | rfl | assumption) rfl) (by kernel_rfl) (by kernel_rfl) (by kernel_rfl) ?_); (refine TrM.settle (by kernel_rfl) (by repeat (first | exact PendOk.nil | refine PendOk.cons rfl (by repeat (first | exact SubFr.nil | refine SubFr.cons rfl ?_)) ?_)) (by exact fun _ h => h) (fun b => ?_)); dsimp only)
  refine TrM.box_own 5 0 (by repeat (first | exact Upd.here | apply Upd.there)) rfl (by intro u hu; cases hu) (by simp [maxLen]) ?_
  ((refine TrM.eff 2 rfl (by kernel_rfl) (by first | exact .inl rfl | exact .inr ⟨_, _, _, rfl, rfl, rfl⟩) (by repeat (first | exact PendOk.nil | refine PendOk.cons rfl (by repeat (first | exact SubFr.nil | refine SubFr.cons rfl ?_)) ?_)) (by exact (Sub.mem (by repeat (first | exact Sub.refl | apply Sub.cons)))) (by repeat (first | apply AppF.cons | exact AppF.nil | exact AppF.app)) (by repeat (first | apply AppF.cons | exact AppF.nil | exact AppF.app)) (fun Y X => ?_)))
  refine Exec.append (news := l0.flatMap hpC) rfl rfl (tysOk.get rfl) rfl (tysOk.get rfl) rfl rfl rfl rfl (by repeat (first | exact Del.here | apply Del.there)) (Src.row hrow) (flatMap_len hpC_len _) (flatMap_one hpC_one _) (by omega) (by omega) rfl (fun A6 c6 hc6 => ?_)
  (refine ⟨_, _, (by repeat (first | apply App.cons | exact App.nil | exact App.app)), (by repeat (first | apply App.cons | exact App.nil | exact App.app)), rfl, (by first | exact Mem.le.refl _ | assumption), (by exact (Sub.mem (by repeat (first | exact Sub.refl | apply Sub.cons)))), ?_⟩)
  rw [zeros0_app, Nat.zero_add]
  ((refine TrM.settle (by kernel_rfl) (by repeat (first | exact PendOk.nil | refine PendOk.cons rfl (by repeat (first | exact SubFr.nil | refine SubFr.cons rfl ?_)) ?_)) (by exact (Sub.mem (by repeat (first | exact Sub.refl | apply Sub.cons)))) (fun b => ?_)); dsimp only)
  ((refine TrM.eff 5 rfl (by kernel_rfl) (by first | exact .inl rfl | exact .inr ⟨_, _, _, rfl, rfl, rfl⟩) (by repeat (first | exact PendOk.nil | refine PendOk.cons rfl (by repeat (first | exact SubFr.nil | refine SubFr.cons rfl ?_)) ?_)) (by exact (Sub.mem (by repeat (first | exact Sub.refl | apply Sub.cons)))) (by repeat (first | apply AppF.cons | exact AppF.nil | exact AppF.app)) (by repeat (first | apply AppF.cons | exact AppF.nil | exact AppF.app)) (fun Y X => ?_)))
  refine Exec.append (news := hpC z) rfl rfl (tysOk.get rfl) rfl (tysOk.get rfl) rfl rfl rfl rfl (by repeat (first | exact Del.here | apply Del.there)) (Src.box (by repeat (first | exact Has.here | apply Has.there))) rfl (hpC_one _) (by omega) (by omega) rfl (fun A8 c8 hc8 => ?_)
  (refine ⟨_, _, (by repeat (first | apply App.cons | exact App.nil | exact App.app)), (by repeat (first | apply App.cons | exact App.nil | exact App.app)), rfl, (by first | exact Mem.le.refl _ | assumption), (by exact (Sub.mem (by repeat (first | exact Sub.refl | apply Sub.cons)))), ?_⟩)
  rw [show l0.flatMap hpC ++ hpC z = (l0 ++ [z]).flatMap hpC by rw [List.flatMap_append]; simp, show l0.length + 1 = (l0 ++ [z]).length by simp]
  refine TrM.publish (x := ownS 59 5 _ _ _ _) (by repeat (first | exact Del.here | apply Del.there)) (fun M2 hm2 hok2 => ?_)
  have hD2 : SlOf 5 RHp M2 (.slice A8 (l0 ++ [z]).length c8) (l0 ++ [z]) := SlOf.ofOwn hok2 rfl hc8 (hp_elems _ _)
  ((refine TrM.fin ?_))
  ((refine tkQ 6 (s := by exact Stab.assign rfl) ?_); (refine TrA.done (by kernel_rfl) ?_))
  have hlen : (l0 ++ [z]).length = l0.length + 1 := by simp
  have hany := any_snoc (fun h : Hp => decide (h.kind ≠ 3)) l0 z
  generalize hl1 : l0 ++ [z] = l1 at hD2 hlen hany ⊢
  have hm02 := hm1.trans hm2
  have hdo := do_fn M2 _ (bkOf k) (hbk.mono hm02) A8 c8 l1 hD2
  cases hrun : runF (bkOf k) l1 with
  | none =>
   rw [show doF (bkOf k) l1 = (zB, 330) by rw [doF, hrun]] at hdo
   dsimp only at hdo
   (refine rQ ?_)
   ((refine Tr.step rfl ?_)); refine Exec.call0 rfl (hdo) rfl ?_
   rintro _ M3 hm3 ⟨v, rfl, As2, cs2, Ar2, cr2, Af2, cf2, Ad2, cd2, rfl, -, -, -⟩
   (repeat (first | ((with_reducible refine Tr.step rfl ?_); (first | (refine xmQ ?_) | (refine xaQ ?_) | ((with_reducible refine Knd.binOp ?_); (first | (refine xdQ ?_) | (refine xiQ ?_))) | ((with_reducible refine Knd.store ?_); (refine Exec.storeW rfl rfl (tysOk.get rfl) (by repeat (first | exact Upd.here | apply Upd.there)) rfl rfl (by repeat (first | (with_reducible assumption) | exact AllOne.nil | exact AllOne.bytes _ | refine AllOne.cons (by first | rfl | assumption) ?_)) ?_)) | ((with_reducible refine Knd.alloc ?_); (refine Exec.alloc (tysOk.get rfl) rfl rfl (fun b => ?_))) | ((with_reducible refine Knd.extract ?_); (refine Exec.stab rfl (Stab.extract rfl rfl) rfl ?_)))) | (with_reducible first | apply Tr.next | apply Tr.seq | apply Tr.region | apply Tr.nil | apply Tr.skip | apply Tr.in_normal) | (refine Tr.cond_f rfl (by first | (with_reducible assumption) | (with_reducible rfl) | (with_reducible exact (not_not_intro rfl)) | omega) ?_)))
   refine gvQ (r := box _ 47 _) ?_
   refine gvQ (r := box _ 59 _) ?_
   refine gvQ (r := box _ 59 _) ?_
   exact Tr.again (i + 1, M3, l0, Da, dc) ⟨by simp only; omega, hm02.trans hm3, by simp only; omega, hr0, hD.mono RHp.mono (hm2.trans hm3)⟩ (by simp only; omega) hsQ
  | some s1 =>
   rw [show doF (bkOf k) l1 = (resF (bkOf k) s1, 0) by rw [doF, hrun]] at hdo
   dsimp only at hdo
   (refine rQ ?_)
   ((refine Tr.step rfl ?_)); refine Exec.call0 rfl (hdo) rfl ?_
   rintro _ M3 hm3 ⟨v, rfl, As2, cs2, Ar2, cr2, Af2, cf2, Ad2, cd2, rfl, -, -, -⟩
   cases hph : l0.any fun h => decide (h.kind ≠ 3) with
   | true =>
    rw [hph, Bool.true_or] at hany
    (repeat (first | ((with_reducible refine Tr.step rfl ?_); (first | (refine xmQ ?_) | (refine xaQ ?_) | (refine xiQ ?_) | ((with_reducible refine Knd.store ?_); (refine Exec.storeW rfl rfl (tysOk.get rfl) (by repeat (first | exact Upd.here | apply Upd.there)) rfl rfl (by repeat (first | (with_reducible assumption) | exact AllOne.nil | exact AllOne.bytes _ | refine AllOne.cons (by first | rfl | assumption) ?_)) ?_)) | ((with_reducible refine Knd.alloc ?_); (refine Exec.alloc (tysOk.get rfl) rfl rfl (fun b => ?_))) | ((with_reducible refine Knd.extract ?_); (refine Exec.stab rfl (Stab.extract rfl rfl) rfl ?_)))) | (with_reducible first | apply Tr.next | apply Tr.seq | apply Tr.region | apply Tr.nil) | (refine Tr.cond_t rfl (by first | (with_reducible assumption) | (with_reducible rfl) | (with_reducible exact (not_not_intro rfl)) | omega) ?_)))
    (((apply Tr.draw); (kernel_rfl)); (refine tkQ 0 (hB := by exact fun _ h => h) (s := by exact Stab.move rfl) ?_); (refine tkQ 1 (s := by exact Stab.move rfl) ?_); (refine tkQ 2 (s := by exact Stab.move rfl) ?_); ((refine tuQ 3 ?_)); (refine tkQ 7 (s := by exact Stab.assign rfl) ?_); ((refine tuQ 4 ?_)); ((refine tuQ 5 ?_)); (refine tkQ 6 (s := by exact Stab.pick_t rfl (by first | (with_reducible rfl) | (with_reducible assumption) | (with_reducible exact Bool.not_true) | (with_reducible exact Bool.not_false)) rfl) ?_); (refine tkQ 8 (s := by exact Stab.assign rfl) ?_); (refine TrA.done (by kernel_rfl) ?_))
    (refine rQ ?_)
    refine gvQ (r := box _ 47 _) ?_
    refine gvQ (r := box _ 59 _) ?_
    refine gvQ (r := box _ 59 _) ?_
    rw [← hany]
    exact Tr.again (i + 1, M3, l1, A8, c8) ⟨by simp only; omega, hm02.trans hm3, by simp only; omega, ⟨s1, hrun⟩, hD2.mono RHp.mono hm3⟩ (by simp only; omega) hsQ
   | false =>
    rw [hph, Bool.false_or] at hany
    (repeat (first | ((with_reducible refine Tr.step rfl ?_); (first | (refine xmQ ?_) | (refine xaQ ?_) | (refine xiQ ?_) | ((with_reducible refine Knd.store ?_); (refine Exec.storeW rfl rfl (tysOk.get rfl) (by repeat (first | exact Upd.here | apply Upd.there)) rfl rfl (by repeat (first | (with_reducible assumption) | exact AllOne.nil | exact AllOne.bytes _ | refine AllOne.cons (by first | rfl | assumption) ?_)) ?_)) | ((with_reducible refine Knd.alloc ?_); (refine Exec.alloc (tysOk.get rfl) rfl rfl (fun b => ?_))) | ((with_reducible refine Knd.extract ?_); (refine Exec.stab rfl (Stab.extract rfl rfl) rfl ?_)))) | (with_reducible first | apply Tr.next | apply Tr.seq | apply Tr.region | apply Tr.nil) | (refine Tr.cond_t rfl (by first | (with_reducible assumption) | (with_reducible rfl) | (with_reducible exact (not_not_intro rfl)) | omega) ?_)))
    (((apply Tr.draw); (kernel_rfl)); (refine tkQ 0 (hB := by exact fun _ h => h) (s := by exact Stab.move rfl) ?_); (refine tkQ 1 (s := by exact Stab.move rfl) ?_); (refine tkQ 2 (s := by exact Stab.move rfl) ?_); ((refine tgQ 3 (q := (by first | (with_reducible rfl) | (with_reducible assumption) | (with_reducible exact Bool.not_true) | (with_reducible exact Bool.not_false))) (s := by exact sfQ) ?_)); (refine tkQ 7 (s := by exact Stab.assign rfl) ?_); ((refine tgQ 4 (q := (by first | (with_reducible rfl) | (with_reducible assumption) | (with_reducible exact Bool.not_true) | (with_reducible exact Bool.not_false))) (s := by exact slQ) ?_)); ((refine tgQ 5 (q := (by first | (with_reducible rfl) | (with_reducible assumption) | (with_reducible exact Bool.not_true) | (with_reducible exact Bool.not_false))) (s := by exact siQ) ?_)); (refine tkQ 6 (s := by exact Stab.pick_f rfl (by first | (with_reducible rfl) | (with_reducible assumption) | (with_reducible exact Bool.not_true) | (with_reducible exact Bool.not_false)) rfl) ?_); (refine tkQ 8 (s := by exact Stab.assign rfl) ?_); (refine TrA.done (by kernel_rfl) ?_))
    (refine rQ ?_)
    refine gvQ (r := box _ 47 _) ?_
    refine gvQ (r := box _ 59 _) ?_
    refine gvQ (r := box _ 59 _) ?_
    rw [← hany]
    exact Tr.again (i + 1, M3, l1, A8, c8) ⟨by simp only; omega, hm02.trans hm3, by simp only; omega, ⟨s1, hrun⟩, hD2.mono RHp.mono hm3⟩ (by simp only; omega) hsQ
 obtain ⟨M1, l0, Da, dc⟩ := y
 obtain ⟨hm1, hl06, ⟨s0, h0⟩, hD⟩ := hy
 dsimp only at hm1 hl06 h0 hD
 dsimp only
 exact top_e5 E F M0 M1 (hm0.trans hm1) ws w (hw.mono hm1) k As cs Pa pc Bs ds Br dr Bff df Bd dd (hT.mono hm1) b5 b11 l0 s0 h0 hl06 Da dc hD
end Go.Proofs.Ytcadnjmcmegpjaa

/-
 Matching, plain: the chapter's examples.
 Conditions: none.
-/
namespace Go.Proofs.Ytcadnjmcmegpjaa
open Go Bf
theorem possD (fits : List (List Bool)) (sup need : List Int) (set : Nat) : Poss fits sup need set ↔ ∀ s, s ≤ set → (1 ≤ s → s &&& set = s → lackB fits sup need s ≤ 0) := ⟨fun h s h1 h2 h3 => h s h2 h1 h3, fun h s h1 h2 h3 => h s h2 h1 h3⟩
end Go.Proofs.Ytcadnjmcmegpjaa

/-
 From the promise to what is shipped: the sample, computed.
 Conditions: none.
-/
namespace Go.Proofs.Ytcadnjmcmegpjaa
open Go Bf
theorem askE_ok {w : Wd} {k : Bp} {r : Rq} (h : okB w k) (h1 : r.no ∉ k.reqs.map (·.no)) (h2 : okRq r) (h3 : k.reqs.length + 1 ≤ 64) : askE w k r = 0 := by
 rw [askE, if_neg (fun hn => hn h), if_neg h1, if_neg (fun h => h.elim (fun h => h h2) (fun h => by omega))]
def w0 : Wd := ⟨[], []⟩
def s9 : List Sp := [⟨1, 0, 0, 0, 20, 5⟩]
def k9 : Bp := ⟨1, s9, [], [[]], []⟩
def q91 : Rq := ⟨1, 0, 0, 4, 0, 3⟩
def q92 : Rq := ⟨2, 0, 0, 5, 0, 2⟩
def k10 : Bp := ⟨1, s9, [q91], [[true]], [((7, 0, 0), 4, 5)]⟩
def k11 : Bp := ⟨1, s9, [q91, q92], [[true, true]], [((7, 0, 0), 4, 5), ((7, 0, 0), 5, 6)]⟩
theorem k9_mk : mkF w0 (bkN 1 s9) [] = k9 := rfl
theorem k10_mk : more w0 k9 q91 = k10 := by
 show mkF w0 k9 [q91] = k10
 unfold mkF k10
 congr 1
theorem k11_mk : more w0 k10 q92 = k11 := by
 show mkF w0 k10 [q91, q92] = k11
 unfold mkF k11
 congr 1
theorem okB_k9 : okB w0 k9 := okB_new (known := 1) (s := s9) (by decide) (by decide)
theorem ask_91 : askE w0 k9 q91 = 0 := askE_ok okB_k9 (by decide) (by decide) (by decide)
theorem fe_91 : Feas (pbW w0 k9.known k9.sups (k9.reqs ++ [q91])) := by
 unfold pbW
 rw [show fitsT w0 k9.known k9.sups (k9.reqs ++ [q91]) = [[true]] by decide]
 show Feas (pbOf [[true]] [5] [3])
 rw [feas_poss (vld_iff.1 (by decide)), possD]
 decide
theorem okB_k10 : okB w0 k10 := by
 rw [← k10_mk]
 exact okB_more okB_k9 (by decide) (by decide) (by decide) fe_91
theorem ask_92 : askE w0 k10 q92 = 0 := askE_ok okB_k10 (by decide) (by decide) (by decide)
theorem fe_92 : Feas (pbW w0 k10.known k10.sups (k10.reqs ++ [q92])) := by
 unfold pbW
 rw [show fitsT w0 k10.known k10.sups (k10.reqs ++ [q92]) = [[true, true]] by decide]
 show Feas (pbOf [[true, true]] [5] [3, 2])
 rw [feas_poss (vld_iff.1 (by decide)), possD]
 decide
theorem t_run : runF (bkOf k11) [⟨1, 0, 0, 0, 1⟩] = some ⟨[4], [0], [3, 2], [-1, 0]⟩ := by rw [runF_comp]; kernel_rfl
theorem t_brk : brokenF (bkOf k11) [⟨1, 0, 0, 0, 1⟩] = ([(1, [0])], 0) := by
 rw [brokenF, t_run]
 show (brkF (bkOf k11) _ _, (0 : Int)) = _
 rw [brkF_comp t_run]
 kernel_rfl
end Go.Proofs.Ytcadnjmcmegpjaa

/-
 From the promise to what is shipped: the sample, walked.
 Conditions: none.
-/
namespace Go.Proofs.Ytcadnjmcmegpjaa
open Go Bf
attribute [local irreducible] Tr Exec Stab HasTy Go.Addr.add IntKind.wrap
def ws0 : List Value := [.slice none 0 0, .slice none 0 0, .slice none 0 0, .slice none 0 0, .slice none 0 0, .slice none 0 0, .slice none 0 0, .slice none 0 0, .slice none 0 0, .slice none 0 0, .slice none 0 0]
theorem rwd_w0 (M : Mem) : RWd M ws0 w0 :=
 ⟨rfl, by unfold ws0; repeat (first | exact AllOne.nil | refine AllOne.cons (by rfl) ?_), ⟨none, 0, rfl, SlOf.nil _ _ _⟩, none, 0, rfl, SlOf.nil _ _ _⟩
set_option maxHeartbeats 16000000 in
set_option maxRecDepth 20000 in
theorem sane33_fn (M : Mem) : Fn0 Try.prog 4 [] M (fun v _ => v = .bool true) := by
 refine Fn.intro Try.func4 rfl rfl Try.ntmps4 rfl fun E F => ?_
 (repeat (first | ((with_reducible refine Tr.step rfl ?_); (first | (refine xmQ ?_) | (refine xaQ ?_) | ((with_reducible refine Knd.build ?_); (refine Exec.stab rfl (Stab.build tysOk rfl rfl rfl rfl (by repeat (first | exact BuildP.nil | ((apply BuildP.one); (rfl); (rfl); (first | rfl | assumption); (repeat (first | exact SetL.z | apply SetL.s))) | ((apply BuildP.many); (rfl); (rfl); (rfl); (rfl); (repeat (first | exact PutL.nil | ((apply PutL.cons); (repeat (first | exact SetL.z | apply SetL.s))))))))) rfl ?_)) | ((with_reducible refine Knd.buildSlice ?_); (refine Exec.buildSlice (tysOk.get rfl) rfl (tysOk.get rfl) rfl rfl rfl rfl rfl (by repeat (first | exact BuildP.nil | ((apply BuildP.one); (rfl); (rfl); (first | rfl | assumption); (repeat (first | exact SetL.z | apply SetL.s))) | ((apply BuildP.many); (rfl); (rfl); (rfl); (rfl); (repeat (first | exact PutL.nil | ((apply PutL.cons); (repeat (first | exact SetL.z | apply SetL.s)))))))) rfl (fun b => ?_))))) | (with_reducible first | apply Tr.next | apply Tr.seq | apply Tr.region | apply Tr.nil)))
 refine pbQ (r := box b 72 _) (fun M1 hM1 hok1 => ?_)
 have hs9 : SlOf 6 RSpC M1 (.slice (some ⟨_, 0, none⟩) s9.length 1) s9 := SlOf.ofBoxC (sz := 6) (n := 1) (c := 1) (xs := s9) hok1 rfl rfl (Nat.le_refl _) (by decide) (flatMap_one spC_one s9) (spC_elems M1 s9)
 clear hok1
 ((refine Tr.step rfl ?_)); refine Exec.call0 rfl (new_fn M1 _ w0 (rwd_w0 M1) _ 1 s9 hs9 1) rfl ?_
 rintro _ M2 hM2 (⟨hbad, -⟩ | ⟨-, hbad, -⟩ | ⟨-, -, x, rfl, hx⟩)
 ·exact absurd (by decide) hbad
 ·exact absurd (by decide) hbad
 rw [k9_mk] at hx
 obtain ⟨z1, z2, z3, z4, z5, z6, z7, z8, rfl⟩ := hx.lit
 have hM02 : Mem.le M M2 := Mem.le.trans hM1 hM2
 (repeat (first | ((with_reducible refine Tr.step rfl ?_); (first | (refine xmQ ?_) | (refine xaQ ?_) | (refine xwQ ?_) | ((with_reducible refine Knd.store ?_); (refine Exec.storeW rfl rfl (tysOk.get rfl) (by repeat (first | exact Upd.here | apply Upd.there)) rfl rfl (by repeat (first | (with_reducible assumption) | exact AllOne.nil | exact AllOne.bytes _ | refine AllOne.cons (by first | rfl | assumption) ?_)) ?_)) | ((with_reducible refine Knd.alloc ?_); (refine Exec.alloc (tysOk.get rfl) rfl rfl (fun b => ?_))) | ((with_reducible refine Knd.extract ?_); (refine Exec.stab rfl (Stab.extract rfl rfl) rfl ?_)) | ((with_reducible refine Knd.build ?_); (refine Exec.stab rfl (Stab.build tysOk rfl rfl rfl rfl (by repeat (first | exact BuildP.nil | ((apply BuildP.one); (rfl); (rfl); (first | rfl | assumption); (repeat (first | exact SetL.z | apply SetL.s))) | ((apply BuildP.many); (rfl); (rfl); (rfl); (rfl); (repeat (first | exact PutL.nil | ((apply PutL.cons); (repeat (first | exact SetL.z | apply SetL.s))))))))) rfl ?_)))) | (with_reducible first | apply Tr.next | apply Tr.seq | apply Tr.region | apply Tr.nil)))
 generalize b = b2
 ((refine Tr.step rfl ?_)); refine Exec.call0 rfl (askA_fn M2 _ w0 (rwd_w0 M2) _ k9 hx (by decide) q91) rfl ?_
 rintro _ M3 hM3 (⟨-, -, x, a, rfl, D3, cD3, hD3, ⟨hF, hx3, al, A3, c3, hlex, rfl, hal3⟩ | ⟨hF, -⟩⟩ | ⟨hne, -⟩)
 rotate_left
 ·exact absurd fe_91 hF
 ·exact absurd ask_91 hne
 rw [k10_mk] at hx3
 obtain ⟨y1, y2, y3, y4, y5, y6, y7, y8, rfl⟩ := hx3.lit
 clear hx hal3 hD3 hlex
 (repeat (first | ((with_reducible refine Tr.step rfl ?_); (first | (refine xmQ ?_) | (refine xaQ ?_) | (refine xwQ ?_) | ((with_reducible refine Knd.store ?_); (refine Exec.storeW rfl rfl (tysOk.get rfl) (by repeat (first | exact Upd.here | apply Upd.there)) rfl rfl (by repeat (first | (with_reducible assumption) | exact AllOne.nil | exact AllOne.bytes _ | refine AllOne.cons (by first | rfl | assumption) ?_)) ?_)) | ((with_reducible refine Knd.alloc ?_); (refine Exec.alloc (tysOk.get rfl) rfl rfl (fun b => ?_))) | ((with_reducible refine Knd.extract ?_); (refine Exec.stab rfl (Stab.extract rfl rfl) rfl ?_)) | ((with_reducible refine Knd.build ?_); (refine Exec.stab rfl (Stab.build tysOk rfl rfl rfl rfl (by repeat (first | exact BuildP.nil | ((apply BuildP.one); (rfl); (rfl); (first | rfl | assumption); (repeat (first | exact SetL.z | apply SetL.s))) | ((apply BuildP.many); (rfl); (rfl); (rfl); (rfl); (repeat (first | exact PutL.nil | ((apply PutL.cons); (repeat (first | exact SetL.z | apply SetL.s))))))))) rfl ?_)))) | (with_reducible first | apply Tr.next | apply Tr.seq | apply Tr.region | apply Tr.nil)))
 generalize b = b4
 ((refine Tr.step rfl ?_)); refine Exec.call0 rfl (askA_fn M3 _ w0 (rwd_w0 M3) _ k10 hx3 (by decide) q92) rfl ?_
 rintro _ M4 hM4 (⟨-, -, x, a, rfl, D4, cD4, hD4, ⟨hF, hx4, al, A4, c4, hlex, rfl, hal4⟩ | ⟨hF, -⟩⟩ | ⟨hne, -⟩)
 rotate_left
 ·exact absurd fe_92 hF
 ·exact absurd ask_92 hne
 rw [k11_mk] at hx4
 obtain ⟨t1, t2, t3, t4, t5, t6, t7, t8, rfl⟩ := hx4.lit
 clear hx3 hal4 hD4 hlex
 (repeat (first | ((with_reducible refine Tr.step rfl ?_); (first | (refine xmQ ?_) | (refine xaQ ?_) | (refine xwQ ?_) | ((with_reducible refine Knd.store ?_); (refine Exec.storeW rfl rfl (tysOk.get rfl) (by repeat (first | exact Upd.here | apply Upd.there)) rfl rfl (by repeat (first | (with_reducible assumption) | exact AllOne.nil | exact AllOne.bytes _ | refine AllOne.cons (by first | rfl | assumption) ?_)) ?_)) | ((with_reducible refine Knd.alloc ?_); (refine Exec.alloc (tysOk.get rfl) rfl rfl (fun b => ?_))) | ((with_reducible refine Knd.extract ?_); (refine Exec.stab rfl (Stab.extract rfl rfl) rfl ?_)) | ((with_reducible refine Knd.build ?_); (refine Exec.stab rfl (Stab.build tysOk rfl rfl rfl rfl (by repeat (first | exact BuildP.nil | ((apply BuildP.one); (rfl); (rfl); (first | rfl | assumption); (repeat (first | exact SetL.z | apply SetL.s))) | ((apply BuildP.many); (rfl); (rfl); (rfl); (rfl); (repeat (first | exact PutL.nil | ((apply PutL.cons); (repeat (first | exact SetL.z | apply SetL.s))))))))) rfl ?_)) | ((with_reducible refine Knd.buildSlice ?_); (refine Exec.buildSlice (tysOk.get rfl) rfl (tysOk.get rfl) rfl rfl rfl rfl rfl (by repeat (first | exact BuildP.nil | ((apply BuildP.one); (rfl); (rfl); (first | rfl | assumption); (repeat (first | exact SetL.z | apply SetL.s))) | ((apply BuildP.many); (rfl); (rfl); (rfl); (rfl); (repeat (first | exact PutL.nil | ((apply PutL.cons); (repeat (first | exact SetL.z | apply SetL.s)))))))) rfl (fun b => ?_))))) | (with_reducible first | apply Tr.next | apply Tr.seq | apply Tr.region | apply Tr.nil)))
 refine pbQ (r := box b 59 _) (fun M5 hM5 hok5 => ?_)
 have hh : SlOf 5 RHp M5 (.slice (some ⟨_, 0, none⟩) [(⟨1, 0, 0, 0, 1⟩ : Hp)].length 1) [⟨1, 0, 0, 0, 1⟩] := ofH (l := [⟨1, 0, 0, 0, 1⟩]) hok5 (by decide)
 clear hok5
 have hM05 := hM02.trans (hM3.trans (hM4.trans hM5))
 have hbr := broken_fn M5 _ (bkOf k11) (bkOf_mem (hx4.mono hM5)) _ 1 [⟨1, 0, 0, 0, 1⟩] hh (by decide)
 rw [t_brk] at hbr
 dsimp only at hbr
 ((refine Tr.step rfl ?_)); refine Exec.call0 rfl (hbr) rfl ?_
 rintro _ M6 hM6 ⟨A9, c9, rfl, hI⟩
 obtain ⟨hA, ch, hat, Ax, nx, rfl, hJ⟩ := hI.elem (i := 0) rfl
 obtain ⟨hA2, hat2⟩ := hJ.at (i := 0) rfl
 have hM06 := hM05.trans hM6
 rw [show ([(1, [0])] : List (Nat × List Nat)).length = 1 from rfl]
 have g0 : At M6 (((A9.getD default).add (Int.toNat 0 * 2)).add 0) [.int .i64 1, .slice Ax 1 nx] := hat.drop 0
 have g1 : At M6 (((A9.getD default).add (Int.toNat 0 * 2)).add 1) [.slice Ax 1 nx] := hat.drop 1
 have g2 : At M6 ((Ax.getD default).add (Int.toNat 0 * 1)) [.int .i64 0] := hat2
 (refine rQ ?_)
 (refine dnQ (hL := by exact ⟨[_, _, _], rfl⟩) ⟨rfl, ?_⟩)
 rfl
end Go.Proofs.Ytcadnjmcmegpjaa

/-
 From the promise to what is shipped: the law TopPromise.
 Conditions: none.
-/
namespace Go.Proofs.Ytcadnjmcmegpjaa
open Go Bf
attribute [local irreducible] Tr Exec Stab HasTy Go.Addr.add IntKind.wrap
theorem fits_len {w : Wd} {k : Bp} (h : okB w k) : k.fits.length = k.sups.length := by
 rw [← h.2.2.1.1]; simp [fitsT]
set_option maxHeartbeats 32000000 in
set_option maxRecDepth 20000 in
theorem toplaw_fn (M : Mem) (ws : List Value) (w : Wd) (hw : RWd M ws w) (As : Option Addr) (cs : Nat) (s : List Sp) (hs : SlOf 6 RSpC M (.slice As s.length cs) s) (known : Int) (Ra : Option Addr) (rc : Nat) (r : List Rq) (hr : SlOf 6 RRqC M (.slice Ra r.length rc) r) (La : Option Addr) (lc : Nat) (l : List Hp) (hl : SlOf 5 RHp M (.slice La l.length lc) l) :
  Fn0 Try.prog 3 [.agg ws.toArray, .slice As s.length cs, .int .i64 known, .slice Ra r.length rc, .slice La l.length lc] M (fun v _ => v = .bool true) := by
 have h11 := hw.len
 have hrl9 := hr.len_le
 have hll9 := hl.len_le
 have hsl9 := hs.len_le
 refine Fn.intro Try.func3 rfl rfl Try.ntmps3 rfl fun E F => ?_
 refine Tr.seq ?_
 refine Tr.cutQ (α := Nat) (fun b5 => ⟨481, [(5, .pointer (some ⟨b5, 0, none⟩)), (4, .slice La l.length lc), (3, .slice Ra r.length rc), (2, .int .i64 known), (1, .slice As s.length cs)], [], M, box b5 38 ws :: ([] ++ F)⟩) (fun _ => True) ?_ (fun b5 _ => Tr.next ?_)
 ·(repeat (first | ((with_reducible refine Tr.step rfl ?_); (first | (refine xaQ ?_) | ((with_reducible refine Knd.box ?_); (refine Exec.box rfl rfl (fun b => ?_))))) | (with_reducible first | apply Tr.region | apply Tr.nil)))
  exact Tr.landQ _ trivial hsQ
 refine Tr.seq ?_
 refine Tr.cutQ (α := Mem) (fun M1 => ⟨481, [(5, .pointer (some ⟨b5, 0, none⟩)), (4, .slice La l.length lc), (3, .slice Ra r.length rc), (2, .int .i64 known), (1, .slice As s.length cs)], [], M1, box b5 38 ws :: ([] ++ F)⟩) (fun M1 => Mem.le M M1) ?_ (fun M1 hm1 => Tr.next ?_)
 ·(repeat (first | (with_reducible first | apply Tr.seq | apply Tr.region)))
  ((refine Tr.step rfl ?_)); refine Exec.call0 rfl (sane33_fn M) rfl ?_
  rintro _ M1 hm1 rfl
  (refine rQ ?_)
  exact Tr.landQ M1 hm1 hsQ
 refine Tr.seq ?_
 refine Tr.cutQ (α := Unit) (fun _ => ⟨481, [(5, .pointer (some ⟨b5, 0, none⟩)), (4, .slice La l.length lc), (3, .slice Ra r.length rc), (2, .int .i64 known), (1, .slice As s.length cs)], [], M1, box b5 38 ws :: ([] ++ F)⟩) (fun _ => s.length ≤ 5 ∧ r.length ≤ 5 ∧ l.length ≤ 6) ?_ (fun _ hlen => Tr.next ?_)
 ·(repeat (first | ((with_reducible refine Tr.step rfl ?_); (first | (refine xmQ ?_) | ((with_reducible refine Knd.load ?_); (refine Exec.stab rfl (Stab.loadW rfl (tysOk.get rfl) rfl (by repeat (first | exact Has.here | apply Has.there)) (by assumption)) rfl ?_)) | ((with_reducible refine Knd.build ?_); (refine Exec.stab rfl (Stab.build tysOk rfl rfl rfl rfl (by repeat (first | exact BuildP.nil | ((apply BuildP.one); (rfl); (rfl); (first | rfl | assumption); (repeat (first | exact SetL.z | apply SetL.s))) | ((apply BuildP.many); (rfl); (rfl); (rfl); (rfl); (repeat (first | exact PutL.nil | ((apply PutL.cons); (repeat (first | exact SetL.z | apply SetL.s))))))))) rfl ?_)))) | (with_reducible first | apply Tr.seq | apply Tr.region)))
  ((refine Tr.step rfl ?_)); refine Exec.call0 rfl (few31_fn M1 ws w (hw.mono hm1) _ ⟨0, s, [], [], []⟩ ⟨As, cs, none, 0, none, 0, none, 0, rfl, hs.mono RSpC.mono hm1, SlOf.nil _ _ _, SlOf.nil _ _ _, SlOf.nil _ _ _⟩) rfl ?_
  rintro _ _ _ ⟨⟨q, rfl, hq⟩, rfl⟩
  cases q
  ·(repeat (first | ((with_reducible refine Tr.step rfl ?_); (first | (refine xmQ ?_) | (refine xaQ ?_) | ((with_reducible refine Knd.pick ?_); (refine Exec.stab rfl (Stab.pick_t rfl (by first | (with_reducible rfl) | (with_reducible assumption) | (with_reducible exact Bool.not_true) | (with_reducible exact Bool.not_false)) rfl) rfl ?_)) | ((with_reducible refine Knd.unOp ?_); (refine Exec.stab rfl (Stab.not rfl) rfl ?_)))) | (with_reducible first | apply Tr.next | apply Tr.seq | apply Tr.region | apply Tr.nil) | (refine Tr.guard_s0 rfl rfl rfl (by first | (with_reducible rfl) | (with_reducible assumption) | (with_reducible exact Bool.not_true) | (with_reducible exact Bool.not_false)) rfl rfl ?_) | (with_reducible first | apply Tr.ret | apply Tr.landQ_ret | apply Tr.then_ret) | (refine Tr.cond_bt rfl (by first | (with_reducible rfl) | (with_reducible assumption) | (with_reducible exact Bool.not_true) | (with_reducible exact Bool.not_false)) ?_)))
   (refine dnQ (hL := by exact ⟨[_], rfl⟩) ⟨rfl, ?_⟩)
   rfl
  have hsl : s.length ≤ 5 := (hq rfl).sl
  by_cases hr5 : r.length > 5
  ·(repeat (first | ((with_reducible refine Tr.step rfl ?_); (first | (refine xmQ ?_) | (refine xaQ ?_) | ((with_reducible refine Knd.pick ?_); (first | (refine Exec.stab rfl (Stab.pick_f rfl (by first | (with_reducible rfl) | (with_reducible assumption) | (with_reducible exact Bool.not_true) | (with_reducible exact Bool.not_false)) rfl) rfl ?_) | (refine Exec.stab rfl (Stab.pick_td rfl (by first | (with_reducible assumption) | (with_reducible rfl) | (with_reducible exact (not_not_intro rfl)) | omega) rfl) rfl ?_))) | ((with_reducible refine Knd.unOp ?_); (refine Exec.stab rfl (Stab.not rfl) rfl ?_)))) | (with_reducible first | apply Tr.next | apply Tr.seq | apply Tr.region | apply Tr.nil) | ((refine Tr.guard_l rfl rfl rfl (by first | (with_reducible rfl) | (with_reducible assumption) | (with_reducible exact Bool.not_true) | (with_reducible exact Bool.not_false)) ?_); (first | (refine xmQ ?_) | (refine xnQ ?_) | (refine xiQ ?_))) | (refine Tr.guard_n' rfl rfl rfl (by first | (with_reducible assumption) | (with_reducible rfl) | (with_reducible exact (not_not_intro rfl)) | omega) rfl rfl ?_) | (with_reducible first | apply Tr.ret | apply Tr.landQ_ret | apply Tr.then_ret) | (refine Tr.cond_bt rfl (by first | (with_reducible rfl) | (with_reducible assumption) | (with_reducible exact Bool.not_true) | (with_reducible exact Bool.not_false)) ?_)))
   (refine dnQ (hL := by exact ⟨[_], rfl⟩) ⟨rfl, ?_⟩)
   rfl
  by_cases hl6 : l.length > 6
  ·(repeat (first | ((with_reducible refine Tr.step rfl ?_); (first | (refine xmQ ?_) | (refine xaQ ?_) | ((with_reducible refine Knd.pick ?_); (first | (refine Exec.stab rfl (Stab.pick_f rfl (by first | (with_reducible rfl) | (with_reducible assumption) | (with_reducible exact Bool.not_true) | (with_reducible exact Bool.not_false)) rfl) rfl ?_) | (refine Exec.stab rfl (Stab.pick_fd rfl (by first | (with_reducible assumption) | (with_reducible rfl) | (with_reducible exact (not_not_intro rfl)) | omega) rfl) rfl ?_))) | ((with_reducible refine Knd.unOp ?_); (refine Exec.stab rfl (Stab.not rfl) rfl ?_)))) | (with_reducible first | apply Tr.next | apply Tr.seq | apply Tr.region | apply Tr.nil) | ((refine Tr.guard_l rfl rfl rfl (by first | (with_reducible rfl) | (with_reducible assumption) | (with_reducible exact Bool.not_true) | (with_reducible exact Bool.not_false)) ?_); (first | (refine xmQ ?_) | (refine xnQ ?_) | (refine xiQ ?_))) | ((refine Tr.guard_y' rfl rfl rfl (by first | (with_reducible assumption) | (with_reducible rfl) | (with_reducible exact (not_not_intro rfl)) | omega) ?_); (first | (refine xmQ ?_) | (refine xnQ ?_) | (refine xiQ ?_))) | (with_reducible first | apply Tr.ret | apply Tr.landQ_ret | apply Tr.then_ret) | (refine Tr.cond_t rfl (by first | (with_reducible assumption) | (with_reducible rfl) | (with_reducible exact (not_not_intro rfl)) | omega) ?_)))
   (refine dnQ (hL := by exact ⟨[_], rfl⟩) ⟨rfl, ?_⟩)
   rfl
  (refine rQ ?_)
  exact Tr.landQ () ⟨hsl, by omega, by omega⟩ hsQ
 obtain ⟨hsl, hrl, hl6⟩ := hlen
 refine Tr.seq ?_
 refine Tr.cutQ (α := Mem × Nat × List Value × Int) (fun y => ⟨481, [(11, .pointer (some ⟨y.2.1, 0, none⟩)), (12, .int .i64 y.2.2.2), (5, .pointer (some ⟨b5, 0, none⟩)), (4, .slice La l.length lc), (3, .slice Ra r.length rc), (2, .int .i64 known), (1, .slice As s.length cs)], [], y.1, box y.2.1 47 y.2.2.1 :: box b5 38 ws :: ([] ++ F)⟩)
  (fun y => Mem.le M1 y.1 ∧ (y.2.2.2 ≠ 0 ∨ (y.2.2.2 = 0 ∧ okB w (mkF w (bkN known s) []) ∧ RBp y.1 (.agg y.2.2.1.toArray) (mkF w (bkN known s) [])))) ?_ (fun y hy => Tr.next ?_)
 ·(repeat (first | ((with_reducible refine Tr.step rfl ?_); (first | (refine xmQ ?_) | ((with_reducible refine Knd.load ?_); (refine Exec.stab rfl (Stab.loadW rfl (tysOk.get rfl) rfl (by repeat (first | exact Has.here | apply Has.there)) (by assumption)) rfl ?_)))) | (with_reducible refine Tr.region ?_)))
  ((refine Tr.step rfl ?_)); refine Exec.call0 rfl (new_fn M1 ws w (hw.mono hm1) As cs s (hs.mono RSpC.mono hm1) known) rfl ?_
  rintro _ M2 hm2 (⟨-, rfl⟩ | ⟨-, -, rfl⟩ | ⟨hokT, hnd, x, rfl, hx⟩)
  ·(repeat (first | ((with_reducible refine Tr.step rfl ?_); (first | (refine xmQ ?_) | (refine xaQ ?_) | ((with_reducible refine Knd.store ?_); (refine Exec.storeW rfl rfl (tysOk.get rfl) (by repeat (first | exact Upd.here | apply Upd.there)) rfl rfl (by repeat (first | (with_reducible assumption) | exact AllOne.nil | exact AllOne.bytes _ | refine AllOne.cons (by first | rfl | assumption) ?_)) ?_)) | ((with_reducible refine Knd.alloc ?_); (refine Exec.alloc (tysOk.get rfl) rfl rfl (fun b => ?_))) | ((with_reducible refine Knd.extract ?_); (refine Exec.stab rfl (Stab.extract rfl rfl) rfl ?_)))) | (with_reducible refine Tr.nil ?_)))
   exact Tr.landQ (M2, _, _, 290) ⟨hm2, .inl (show (290 : Int) ≠ 0 from (by decide))⟩ hsQ
  ·(repeat (first | ((with_reducible refine Tr.step rfl ?_); (first | (refine xmQ ?_) | (refine xaQ ?_) | ((with_reducible refine Knd.store ?_); (refine Exec.storeW rfl rfl (tysOk.get rfl) (by repeat (first | exact Upd.here | apply Upd.there)) rfl rfl (by repeat (first | (with_reducible assumption) | exact AllOne.nil | exact AllOne.bytes _ | refine AllOne.cons (by first | rfl | assumption) ?_)) ?_)) | ((with_reducible refine Knd.alloc ?_); (refine Exec.alloc (tysOk.get rfl) rfl rfl (fun b => ?_))) | ((with_reducible refine Knd.extract ?_); (refine Exec.stab rfl (Stab.extract rfl rfl) rfl ?_)))) | (with_reducible refine Tr.nil ?_)))
   exact Tr.landQ (M2, _, _, 310) ⟨hm2, .inl (show (310 : Int) ≠ 0 from (by decide))⟩ hsQ
  obtain ⟨y1, y2, y3, y4, y5, y6, y7, y8, rfl⟩ := hx.lit
  (repeat (first | ((with_reducible refine Tr.step rfl ?_); (first | (refine xmQ ?_) | (refine xaQ ?_) | ((with_reducible refine Knd.store ?_); (refine Exec.storeW rfl rfl (tysOk.get rfl) (by repeat (first | exact Upd.here | apply Upd.there)) rfl rfl (by repeat (first | (with_reducible assumption) | exact AllOne.nil | exact AllOne.bytes _ | refine AllOne.cons (by first | rfl | assumption) ?_)) ?_)) | ((with_reducible refine Knd.alloc ?_); (refine Exec.alloc (tysOk.get rfl) rfl rfl (fun b => ?_))) | ((with_reducible refine Knd.extract ?_); (refine Exec.stab rfl (Stab.extract rfl rfl) rfl ?_)))) | (with_reducible refine Tr.nil ?_)))
  exact Tr.landQ (M2, _, _, 0) ⟨hm2, .inr ⟨rfl, okB_new hokT hnd, hx⟩⟩ hsQ
 obtain ⟨M2, b11, xb0, e⟩ := y
 obtain ⟨hm2, hcase⟩ := hy
 dsimp only at hm2 hcase
 dsimp only
 have hm02 := hm1.trans hm2
 refine Tr.seq ?_
 refine Tr.cutQ (α := Unit) (fun _ => ⟨481, [(11, .pointer (some ⟨b11, 0, none⟩)), (5, .pointer (some ⟨b5, 0, none⟩)), (4, .slice La l.length lc), (3, .slice Ra r.length rc), (2, .int .i64 known), (1, .slice As s.length cs)], [], M2, box b11 47 xb0 :: box b5 38 ws :: ([] ++ F)⟩) (fun _ => okB w (mkF w (bkN known s) []) ∧ RBp M2 (.agg xb0.toArray) (mkF w (bkN known s) [])) ?_ (fun _ hk0 => Tr.next ?_)
 ·rcases hcase with hne | ⟨rfl, hk0⟩
  ·(repeat (first | ((with_reducible refine Tr.step rfl ?_); (first | (refine xmQ ?_) | (refine xaQ ?_) | (refine xiQ ?_))) | (with_reducible first | apply Tr.next | apply Tr.seq | apply Tr.region | apply Tr.nil | apply Tr.ret | apply Tr.landQ_ret | apply Tr.then_ret) | (refine Tr.cond_t rfl (by first | (with_reducible assumption) | (with_reducible rfl) | (with_reducible exact (not_not_intro rfl)) | omega) ?_)))
   (refine dnQ (hL := by exact ⟨[_, _], rfl⟩) ⟨rfl, ?_⟩)
   rfl
  ·(refine rQ ?_)
   exact Tr.landQ () hk0 hsQ
 clear hcase
 obtain ⟨hk0, hx0⟩ := hk0
 refine Tr.seq ?_
 refine Tr.cutQ (α := Unit) (fun _ => ⟨481, [(13, .slice none 0 0), (11, .pointer (some ⟨b11, 0, none⟩)), (5, .pointer (some ⟨b5, 0, none⟩)), (4, .slice La l.length lc), (3, .slice Ra r.length rc), (2, .int .i64 known), (1, .slice As s.length cs)], [], M2, box b11 47 xb0 :: box b5 38 ws :: ([] ++ F)⟩) (fun _ => True) ?_ (fun _ _ => Tr.next ?_)
 ·(refine rQ ?_)
  exact Tr.landQ () trivial hsQ
 refine Tr.seq ?_
 refine Tr.cutQ (α := Mem × Bp × List Value × (Option Addr × Nat)) (fun y => ⟨481, [(13, .slice y.2.2.2.1 y.2.1.reqs.length y.2.2.2.2), (11, .pointer (some ⟨b11, 0, none⟩)), (5, .pointer (some ⟨b5, 0, none⟩)), (4, .slice La l.length lc), (2, .int .i64 known), (1, .slice As s.length cs)], [], y.1, box b11 47 y.2.2.1 :: box b5 38 ws :: ([] ++ F)⟩)
  (fun y => Mem.le M2 y.1 ∧ okB w y.2.1 ∧ RBp y.1 (.agg y.2.2.1.toArray) y.2.1 ∧ y.2.1.sups = s ∧ y.2.1.known = known ∧ y.2.1.reqs.length ≤ 5 ∧ SlOf 6 RRqC y.1 (.slice y.2.2.2.1 y.2.1.reqs.length y.2.2.2.2) y.2.1.reqs) ?_ (fun y hy => Tr.next ?_)
 ·(refine rQ ?_)
  refine Tr.own_nil 52 6 ?_
  refine Tr.loop (α := Nat × Mem × Bp × List Value × (Option Addr × Nat)) (fun y => ⟨481, [(95, .int .i64 (y.1 : Int)), (94, .int .i64 (r.length : Int)), (93, .slice Ra r.length rc), (13, .slice y.2.2.2.2.1 y.2.2.1.reqs.length y.2.2.2.2.2), (11, .pointer (some ⟨b11, 0, none⟩)), (5, .pointer (some ⟨b5, 0, none⟩)), (4, .slice La l.length lc), (2, .int .i64 known), (1, .slice As s.length cs)], [], y.2.1, ownS 52 6 y.2.2.2.2.1 y.2.2.1.reqs.length y.2.2.2.2.2 (y.2.2.1.reqs.flatMap rqC) :: box b11 47 y.2.2.2.1 :: box b5 38 ws :: ([] ++ F)⟩)
   (fun y => y.1 ≤ r.length ∧ Mem.le M2 y.2.1 ∧ okB w y.2.2.1 ∧ RBp y.2.1 (.agg y.2.2.2.1.toArray) y.2.2.1 ∧ y.2.2.1.sups = s ∧ y.2.2.1.known = known ∧ y.2.2.1.reqs.length ≤ y.1 ∧ y.2.2.2.2.2 ≤ 9223372036854775807) (fun y => r.length - y.1) (0, M2, mkF w (bkN known s) [], xb0, (none, 0)) ⟨Nat.zero_le _, Mem.le.refl _, hk0, hx0, rfl, rfl, Nat.le_refl _, by simp⟩ hsQ (fun y hy => ?_)
  obtain ⟨i, M3, k, xb, kB, kc⟩ := y
  obtain ⟨hi, hm3, hok, hk, hks, hkn, hkr, hkc⟩ := hy
  dsimp only at hi hm3 hok hk hks hkn hkr hkc ⊢
  have hm03 := hm02.trans hm3
  obtain ⟨Bs, ds, Br, dr, Bff, df, Bd, dd, ev, h1, h2, h3, h4⟩ := id hk
  injection ev with ev
  have ev := congrArg Array.toList ev
  simp only at ev
  subst ev
  have hfc : k.fits.length ≤ 9223372036854775807 := h3.len_le
  by_cases hlt : i < r.length
  rotate_left
  ·have ei : i = r.length := by omega
   subst ei
   (refine rQ ?_)
   refine pbQ (r := ownS 52 6 _ _ _ _) (fun M4 hm4 ok4 => ?_)
   exact Tr.landQ (M4, k, _, (kB, kc)) ⟨hm3.trans hm4, hok, hk.mono hm4, hks, hkn, by simp only; omega, SlOf.ofOwn ok4 rfl hkc (rqC_elems _ _)⟩ hsQ
  obtain ⟨y, hy⟩ := get_of_lt hlt
  obtain ⟨hA, ch, hat, rfl⟩ := (hr.mono RRqC.mono hm03).elem hy
  simp only [rqC] at hat
  have hak := askA_fn M3 ws w (hw.mono hm03) _ k hk hfc y
  (repeat (first | ((with_reducible refine Tr.step rfl ?_); (first | ((with_reducible refine Knd.load ?_); (first | (refine xwQ ?_) | (refine Exec.stab rfl (Stab.loadW rfl (tysOk.get rfl) rfl (by repeat (first | exact Has.here | apply Has.there)) (by assumption)) rfl ?_) | (refine Exec.stab rfl (Stab.loadMA rfl (tysOk.get rfl) rfl (by assumption) (by first | rfl | assumption)) rfl ?_))) | (refine xiQ ?_) | ((with_reducible refine Knd.store ?_); (refine Exec.storeW rfl rfl (tysOk.get rfl) (by repeat (first | exact Upd.here | apply Upd.there)) rfl rfl (by repeat (first | (with_reducible assumption) | exact AllOne.nil | exact AllOne.bytes _ | refine AllOne.cons (by first | rfl | assumption) ?_)) ?_)) | ((with_reducible refine Knd.alloc ?_); (refine Exec.alloc (tysOk.get rfl) rfl rfl (fun b => ?_))) | (refine xxQ ?_))) | (with_reducible first | apply Tr.next | apply Tr.seq | apply Tr.region | apply Tr.nil | apply Tr.skip | apply Tr.block) | (refine Tr.cond_t rfl (by first | (with_reducible assumption) | (with_reducible rfl) | (with_reducible exact (not_not_intro rfl)) | omega) ?_)))
  generalize b = b15
  ((refine Tr.step rfl ?_)); refine Exec.call0 rfl (hak) rfl ?_
  rintro _ M4 hm4 (⟨h0, -, x, a, rfl, D, cD, hD, ⟨hF, hx, al, A, c, hlex, rfl, hal⟩ | ⟨hF, hx, B, c, rfl, hB⟩⟩ | ⟨hne, rfl⟩)
  all_goals have hm4 : Mem.le M3 M4 := hm4
  ·obtain ⟨z1, z2, z3, z4, z5, z6, z7, z8, rfl⟩ := hx.lit
   obtain ⟨-, hno, hT⟩ := askE_zero h0
   have hT2 := (okT_app hok.2.1).1 hT
   have hml : (more w k y).reqs.length ≤ i + 1 := by
    show (k.reqs ++ [y]).length ≤ _
    rw [List.length_append, List.length_singleton]
    omega
   (repeat (first | ((with_reducible refine Tr.step rfl ?_); (first | (refine xmQ ?_) | (refine xaQ ?_) | ((with_reducible refine Knd.load ?_); (first | (refine xlQ ?_) | (refine xwQ ?_))) | (refine xfQ ?_) | (refine xiQ ?_) | ((with_reducible refine Knd.store ?_); (refine Exec.storeW rfl rfl (tysOk.get rfl) (by repeat (first | exact Upd.here | apply Upd.there)) rfl rfl (by repeat (first | (with_reducible assumption) | exact AllOne.nil | exact AllOne.bytes _ | refine AllOne.cons (by first | rfl | assumption) ?_)) ?_)) | ((with_reducible refine Knd.alloc ?_); (refine Exec.alloc (tysOk.get rfl) rfl rfl (fun b => ?_))) | ((with_reducible refine Knd.extract ?_); (refine Exec.stab rfl (Stab.extract rfl rfl) rfl ?_)) | ((with_reducible refine Knd.buildSlice ?_); (refine Exec.buildSlice (tysOk.get rfl) rfl (tysOk.get rfl) rfl rfl rfl rfl rfl (by repeat (first | exact BuildP.nil | ((apply BuildP.one); (rfl); (rfl); (first | rfl | assumption); (repeat (first | exact SetL.z | apply SetL.s))) | ((apply BuildP.many); (rfl); (rfl); (rfl); (rfl); (repeat (first | exact PutL.nil | ((apply PutL.cons); (repeat (first | exact SetL.z | apply SetL.s)))))))) rfl (fun b => ?_))))) | (with_reducible first | apply Tr.next | apply Tr.seq | apply Tr.region | apply Tr.nil | apply Tr.skip) | (refine Tr.cond_bt rfl (by first | (with_reducible rfl) | (with_reducible assumption) | (with_reducible exact Bool.not_true) | (with_reducible exact Bool.not_false)) ?_) | (refine Tr.cond_f rfl (by first | (with_reducible assumption) | (with_reducible rfl) | (with_reducible exact (not_not_intro rfl)) | omega) ?_)))
   ((refine Tr.step rfl ?_))
   refine Exec.append (news := rqC y) rfl rfl (tysOk.get rfl) rfl (tysOk.get rfl) rfl rfl rfl rfl (by repeat (first | exact Del.here | apply Del.there)) (Src.box (by repeat (first | exact Has.here | apply Has.there))) rfl (rqC_one _) (by omega) (by omega) rfl (fun A3 c3 hc3 => ?_)
   rw [show k.reqs.flatMap rqC ++ rqC y = (more w k y).reqs.flatMap rqC by show _ = (k.reqs ++ [y]).flatMap rqC; rw [List.flatMap_append]; simp, show k.reqs.length + 1 = (more w k y).reqs.length by show _ = (k.reqs ++ [y]).length; simp]
   (repeat (first | ((with_reducible refine Tr.step rfl ?_); (first | (refine xmQ ?_) | (refine xaQ ?_) | (refine xwQ ?_) | (refine xdQ ?_) | ((with_reducible refine Knd.store ?_); (refine Exec.storeW rfl rfl (tysOk.get rfl) (by repeat (first | exact Upd.here | apply Upd.there)) rfl rfl (by repeat (first | (with_reducible assumption) | exact AllOne.nil | exact AllOne.bytes _ | refine AllOne.cons (by first | rfl | assumption) ?_)) ?_)))) | (with_reducible first | apply Tr.next | apply Tr.region | apply Tr.nil | apply Tr.in_normal)))
   refine gvQ (r := box _ 52 _) ?_
   refine gvQ (r := box _ 55 _) ?_
   refine gvQ (r := box _ 47 _) ?_
   refine gvQ (r := box _ 52 _) ?_
   exact Tr.again (i + 1, M4, more w k y, _, (A3, c3)) ⟨by simp only; omega, hm3.trans hm4, okB_more hok hno hT2.1 hT2.2 hF, hx, hks, hkn, hml, hc3⟩ (by simp only; omega) hsQ
  ·obtain ⟨z1, z2, z3, z4, z5, z6, z7, z8, rfl⟩ := hx.lit
   obtain ⟨m, hlen, hlast⟩ := conf_last h0 hF
   generalize confF w k y = cf at hB hlen hlast ⊢
   obtain ⟨hA2, hat2⟩ := hB.at hlast
   have em : ((cf.length : Int) - 1) = (m : Int) := by omega
   have hcl := hB.len_le
   (repeat (first | ((with_reducible refine Tr.step rfl ?_); (first | (refine xmQ ?_) | (refine xaQ ?_) | (refine xlQ ?_) | (refine xfQ ?_) | (refine xiQ ?_) | ((with_reducible refine Knd.store ?_); (refine Exec.storeW rfl rfl (tysOk.get rfl) (by repeat (first | exact Upd.here | apply Upd.there)) rfl rfl (by repeat (first | (with_reducible assumption) | exact AllOne.nil | exact AllOne.bytes _ | refine AllOne.cons (by first | rfl | assumption) ?_)) ?_)) | ((with_reducible refine Knd.alloc ?_); (refine Exec.alloc (tysOk.get rfl) rfl rfl (fun b => ?_))) | ((with_reducible refine Knd.extract ?_); (refine Exec.stab rfl (Stab.extract rfl rfl) rfl ?_)))) | (with_reducible first | apply Tr.next | apply Tr.seq | apply Tr.region | apply Tr.nil | apply Tr.skip) | (refine Tr.cond_bf rfl (by first | (with_reducible rfl) | (with_reducible assumption) | (with_reducible exact Bool.not_true) | (with_reducible exact Bool.not_false)) ?_) | (refine Tr.cond_f rfl (by first | (with_reducible assumption) | (with_reducible rfl) | (with_reducible exact (not_not_intro rfl)) | omega) ?_)))
   (((apply Tr.draw); (kernel_rfl)); (refine tkQ 0 (hB := by exact fun _ h => h) (s := by exact sfQ) ?_); (refine tkQ 1 (s := by exact slQ) ?_); (refine tkQ 2 (s := by exact snQ) ?_); (refine tkQ 3 (s := by exact siQ) ?_); (refine tkQ 4 (s := by exact Stab.move rfl) ?_); ((refine tgQ 5 (q := (decide_eq_false (by first | (with_reducible assumption) | (with_reducible rfl) | (with_reducible exact (not_not_intro rfl)) | omega))) (s := by exact sfQ) ?_)); ((refine tgQ 7 (q := (decide_eq_false (by first | (with_reducible assumption) | (with_reducible rfl) | (with_reducible exact (not_not_intro rfl)) | omega))) (s := by exact sfQ) ?_)); ((refine tgQ 13 (q := (decide_eq_false (by first | (with_reducible assumption) | (with_reducible rfl) | (with_reducible exact (not_not_intro rfl)) | omega))) (s := by exact sfQ) ?_)); ((refine tgQ 6 (q := (decide_eq_false (by first | (with_reducible assumption) | (with_reducible rfl) | (with_reducible exact (not_not_intro rfl)) | omega))) (s := by exact slQ) ?_)); ((refine tgQ 8 (q := (decide_eq_false (by first | (with_reducible assumption) | (with_reducible rfl) | (with_reducible exact (not_not_intro rfl)) | omega))) (s := by exact slQ) ?_)); ((refine tgQ 14 (q := (decide_eq_false (by first | (with_reducible assumption) | (with_reducible rfl) | (with_reducible exact (not_not_intro rfl)) | omega))) (s := by exact slQ) ?_)); ((refine tgQ 9 (q := (decide_eq_false (by first | (with_reducible assumption) | (with_reducible rfl) | (with_reducible exact (not_not_intro rfl)) | omega))) (s := by exact snQ) ?_)); ((refine tgQ 10 (q := (decide_eq_false (by first | (with_reducible assumption) | (with_reducible rfl) | (with_reducible exact (not_not_intro rfl)) | omega))) (s := by exact Stab.subi rfl rfl (by omega)) ?_)))
   rw [em]
   (((refine tgQ 11 (q := (decide_eq_false (by first | (with_reducible assumption) | (with_reducible rfl) | (with_reducible exact (not_not_intro rfl)) | omega))) (s := by exact sxQ) ?_)); ((refine tgQ 12 (q := (decide_eq_false (by first | (with_reducible assumption) | (with_reducible rfl) | (with_reducible exact (not_not_intro rfl)) | omega))) (s := by exact sMQ) ?_)); ((refine tgQ 15 (q := (decide_eq_false (by first | (with_reducible assumption) | (with_reducible rfl) | (with_reducible exact (not_not_intro rfl)) | omega))) (s := by exact siQ) ?_)); (refine tkQ 16 (s := by exact Stab.pick_fd rfl (by first | (with_reducible assumption) | (with_reducible rfl) | (with_reducible exact (not_not_intro rfl)) | omega) rfl) ?_); (refine TrA.done (by kernel_rfl) ?_))
   (repeat (first | ((with_reducible refine Tr.step rfl ?_); (first | (refine xmQ ?_) | (refine xwQ ?_) | (refine xdQ ?_) | ((with_reducible refine Knd.store ?_); (refine Exec.storeW rfl rfl (tysOk.get rfl) (by repeat (first | exact Upd.here | apply Upd.there)) rfl rfl (by repeat (first | (with_reducible assumption) | exact AllOne.nil | exact AllOne.bytes _ | refine AllOne.cons (by first | rfl | assumption) ?_)) ?_)))) | (with_reducible first | apply Tr.next | apply Tr.region | apply Tr.nil | apply Tr.skip | apply Tr.in_normal) | (refine Tr.cond_f rfl (by first | (with_reducible assumption) | (with_reducible rfl) | (with_reducible exact (not_not_intro rfl)) | omega) ?_)))
   refine gvQ (r := box _ 55 _) ?_
   refine gvQ (r := box _ 47 _) ?_
   refine gvQ (r := box _ 52 _) ?_
   exact Tr.again (i + 1, M4, k, _, (kB, kc)) ⟨by simp only; omega, hm3.trans hm4, hok, hx, hks, hkn, by simp only; omega, hkc⟩ (by simp only; omega) hsQ
  ·(repeat (first | ((with_reducible refine Tr.step rfl ?_); (first | (refine xmQ ?_) | (refine xaQ ?_) | ((with_reducible refine Knd.binOp ?_); (first | (refine xdQ ?_) | (refine xiQ ?_))) | ((with_reducible refine Knd.store ?_); (refine Exec.storeW rfl rfl (tysOk.get rfl) (by repeat (first | exact Upd.here | apply Upd.there)) rfl rfl (by repeat (first | (with_reducible assumption) | exact AllOne.nil | exact AllOne.bytes _ | refine AllOne.cons (by first | rfl | assumption) ?_)) ?_)) | ((with_reducible refine Knd.alloc ?_); (refine Exec.alloc (tysOk.get rfl) rfl rfl (fun b => ?_))) | ((with_reducible refine Knd.extract ?_); (refine Exec.stab rfl (Stab.extract rfl rfl) rfl ?_)))) | (with_reducible first | apply Tr.next | apply Tr.seq | apply Tr.region | apply Tr.nil | apply Tr.exit | apply Tr.then_exit) | ((with_reducible refine Tr.in_exit ?_ ?_); (exact rfl)) | (refine Tr.cond_t rfl (by first | (with_reducible assumption) | (with_reducible rfl) | (with_reducible exact (not_not_intro rfl)) | omega) ?_)))
   refine gvQ (r := box _ 55 _) ?_
   refine gvQ (r := box _ 47 _) ?_
   refine gvQ (r := box _ 52 _) ?_
   exact Tr.again (i + 1, M4, k, _, (kB, kc)) ⟨by simp only; omega, hm3.trans hm4, hok, hk.mono hm4, hks, hkn, by simp only; omega, hkc⟩ (by simp only; omega) hsQ
 obtain ⟨M3, k, xb, Pa, pc⟩ := y
 obtain ⟨hm3, hok, hk, hks, hkn, hkr, hp⟩ := hy
 dsimp only at hm3 hok hk hks hkn hkr hp
 dsimp only
 subst hks hkn
 have hm03 := hm02.trans hm3
 clear hk0 hx0
 obtain ⟨Bs, ds, Br, dr, Bff, df, Bd, dd, ev, h1, h2, h3, h4⟩ := id hk
 injection ev with ev
 have ev := congrArg Array.toList ev
 simp only at ev
 subst ev
 have hfl := fits_len hok
 have hT : TopM M3 w k As cs Pa pc Bs ds Br dr Bff df Bd dd := ⟨hok, hs.mono RSpC.mono hm03, hp, h1, h2, h3, h4, hsl, hkr⟩
 refine Tr.seq ?_
 refine Tr.cutQ (α := Unit) (fun _ => ⟨481, [(13, .slice Pa k.reqs.length pc), (11, .pointer (some ⟨b11, 0, none⟩)), (5, .pointer (some ⟨b5, 0, none⟩)), (4, .slice La l.length lc), (2, .int .i64 k.known), (1, .slice As k.sups.length cs)], [], M3, box b11 47 [.int .i64 k.known, .slice Bs k.sups.length ds, .slice Br k.reqs.length dr, .slice Bff k.fits.length df, .slice Bd k.rds.length dd] :: box b5 38 ws :: ([] ++ F)⟩) (fun _ => True) ?_ (fun _ _ => Tr.next ?_)
 ·(refine rQ ?_)
  exact Tr.landQ () trivial hsQ
 refine Tr.seq ?_
 refine Tr.cutQ (α := Unit) (fun _ => ⟨481, [(4, .slice La l.length lc), (5, .pointer (some ⟨b5, 0, none⟩)), (2, .int .i64 k.known), (1, .slice As k.sups.length cs), (13, .slice Pa k.reqs.length pc), (11, .pointer (some ⟨b11, 0, none⟩))], [], M3, box b5 38 ws :: box b11 47 [.int .i64 k.known, .slice Bs k.sups.length ds, .slice Br k.reqs.length dr, .slice Bff k.fits.length df, .slice Bd k.rds.length dd] :: ([] ++ F)⟩) (fun _ => True) ?_ (fun _ _ => Tr.next ?_)
 ·(refine rQ ?_)
  refine Tr.loop (α := Nat) (fun j => ⟨481, [(158, .int .i64 (j : Int)), (157, .int .i64 (k.reqs.length : Int)), (156, .slice Pa k.reqs.length pc), (13, .slice Pa k.reqs.length pc), (11, .pointer (some ⟨b11, 0, none⟩)), (5, .pointer (some ⟨b5, 0, none⟩)), (4, .slice La l.length lc), (2, .int .i64 k.known), (1, .slice As k.sups.length cs)], [], M3, box b11 47 [.int .i64 k.known, .slice Bs k.sups.length ds, .slice Br k.reqs.length dr, .slice Bff k.fits.length df, .slice Bd k.rds.length dd] :: box b5 38 ws :: ([] ++ F)⟩)
   (fun j => j ≤ k.reqs.length) (fun j => k.reqs.length - j) 0 (Nat.zero_le _) hsQ (fun j hj => ?_)
  by_cases hlt : j < k.reqs.length
  rotate_left
  ·(refine rQ ?_)
   refine ftQ (r := box b5 _ _) ?_
   exact Tr.landQ () trivial hsQ
  obtain ⟨y, hy⟩ := get_of_lt hlt
  obtain ⟨hA, ch, hat, rfl⟩ := hp.elem hy
  obtain ⟨hA2, ch2, hat2, rfl⟩ := h2.elem hy
  simp only [rqC] at hat hat2
  (repeat (first | ((with_reducible refine Tr.step rfl ?_); (first | (refine xmQ ?_) | (refine xaQ ?_) | ((with_reducible refine Knd.load ?_); (refine Exec.stab rfl (Stab.loadMA rfl (tysOk.get rfl) rfl (by assumption) (by first | rfl | assumption)) rfl ?_)) | (refine xiQ ?_) | ((with_reducible refine Knd.store ?_); (refine Exec.storeW rfl rfl (tysOk.get rfl) (by repeat (first | exact Upd.here | apply Upd.there)) rfl rfl (by repeat (first | (with_reducible assumption) | exact AllOne.nil | exact AllOne.bytes _ | refine AllOne.cons (by first | rfl | assumption) ?_)) ?_)) | ((with_reducible refine Knd.alloc ?_); (refine Exec.alloc (tysOk.get rfl) rfl rfl (fun b => ?_))) | (refine xxQ ?_))) | (with_reducible first | apply Tr.next | apply Tr.seq | apply Tr.region | apply Tr.nil | apply Tr.skip | apply Tr.block) | (refine Tr.cond_t rfl (by first | (with_reducible assumption) | (with_reducible rfl) | (with_reducible exact (not_not_intro rfl)) | omega) ?_)))
  (((apply Tr.draw); (kernel_rfl)); (refine tkQ 0 (hB := by exact fun _ h => h) (s := by exact sfQ) ?_); (refine tkQ 2 (s := by exact Stab.move rfl) ?_); (refine tkQ 5 (s := by exact swQ) ?_); (refine tkQ 1 (s := by exact slQ) ?_); (refine tkQ 3 (s := by exact sxQ) ?_); (refine tkQ 4 (s := by exact Stab.loadMA rfl (tysOk.get rfl) rfl (by assumption) (by first | rfl | assumption)) ?_); (refine tkQ 6 (s := by exact Stab.stneL rfl rfl (by repeat (first | exact IntsL.nil | apply IntsL.cons)) (by repeat (first | exact IntsL.nil | apply IntsL.cons)) (tysOk.get rfl) rfl (by kernel_rfl) (by kernel_rfl) rfl rfl) ?_); (refine TrA.done (by kernel_rfl) ?_))
  (refine rQ ?_)
  refine gvQ (r := box _ 52 _) ?_
  exact Tr.again (j + 1) (by omega) (by omega) hsQ
 exact top_e6 E F M M3 hm03 ws w (hw.mono hm03) k As cs Pa pc Bs ds Br dr Bff df Bd dd hT b5 b11 l hl6 La lc (hl.mono RHp.mono hm03)
end Go.Proofs.Ytcadnjmcmegpjaa

/-
 Worlds, books, requests: how the arguments of the laws read.
 Conditions: none.
-/
namespace Go.Proofs.Ytcadnjmcmegpjaa
open Go Bf
open Go.ChangeShapes Go.WideShapes Go.ChangeAt Go.RowKit
set_option maxRecDepth 100000
section
variable {H : Type} {enc : TypeId × Value → H} {W : World} {base : Nat} {v : Value} {w : World} {sp : Nat → Bool} {held : Bool}
theorem uINT : Try.prog.underlying 3 = some (.int .i64) := (tysOk.get (t := 3) rfl).1
theorem uSTR : Try.prog.underlying 9 = some (.string) := (tysOk.get (t := 9) rfl).1
theorem uSW : Try.prog.underlying 29 = some (.slice 163) := (tysOk.get (t := 29) rfl).1
theorem uFA : Try.prog.underlying 36 = some (.slice 167) := (tysOk.get (t := 36) rfl).1
theorem uSPS : Try.prog.underlying 39 = some (.slice 72) := (tysOk.get (t := 39) rfl).1
theorem uRQS : Try.prog.underlying 40 = some (.slice 52) := (tysOk.get (t := 40) rfl).1
theorem uLV : Try.prog.underlying 32 = some (.slice 3) := (tysOk.get (t := 32) rfl).1
theorem uS0 : ∃ e, Try.prog.underlying 22 = some (.slice e) := ⟨_, (tysOk.get (t := 22) rfl).1⟩
theorem uS1 : ∃ e, Try.prog.underlying 23 = some (.slice e) := ⟨_, (tysOk.get (t := 23) rfl).1⟩
theorem uS2 : ∃ e, Try.prog.underlying 24 = some (.slice e) := ⟨_, (tysOk.get (t := 24) rfl).1⟩
theorem uS3 : ∃ e, Try.prog.underlying 25 = some (.slice e) := ⟨_, (tysOk.get (t := 25) rfl).1⟩
theorem uS4 : ∃ e, Try.prog.underlying 26 = some (.slice e) := ⟨_, (tysOk.get (t := 26) rfl).1⟩
theorem uS5 : ∃ e, Try.prog.underlying 27 = some (.slice e) := ⟨_, (tysOk.get (t := 27) rfl).1⟩
theorem uS6 : ∃ e, Try.prog.underlying 28 = some (.slice e) := ⟨_, (tysOk.get (t := 28) rfl).1⟩
theorem uCD : ∃ e, Try.prog.underlying 33 = some (.slice e) := ⟨_, (tysOk.get (t := 33) rfl).1⟩
theorem cINT : Try.prog.cellsOf 3 = 1 := by kernel_rfl
theorem cSTR : Try.prog.cellsOf 9 = 1 := by kernel_rfl
theorem cSW : Try.prog.cellsOf 29 = 1 := by kernel_rfl
theorem cFA : Try.prog.cellsOf 36 = 1 := by kernel_rfl
theorem cLV : Try.prog.cellsOf 32 = 1 := by kernel_rfl
theorem cCD : Try.prog.cellsOf 33 = 1 := by kernel_rfl
theorem cS0 : Try.prog.cellsOf 22 = 1 := by kernel_rfl
theorem cS1 : Try.prog.cellsOf 23 = 1 := by kernel_rfl
theorem cS2 : Try.prog.cellsOf 24 = 1 := by kernel_rfl
theorem cS3 : Try.prog.cellsOf 25 = 1 := by kernel_rfl
theorem cS4 : Try.prog.cellsOf 26 = 1 := by kernel_rfl
theorem cS5 : Try.prog.cellsOf 27 = 1 := by kernel_rfl
theorem cS6 : Try.prog.cellsOf 28 = 1 := by kernel_rfl
theorem cW : Try.prog.cellsOf 38 = 11 := by kernel_rfl
theorem cTB : Try.prog.cellsOf 35 = 10 := by kernel_rfl
theorem cSRC : Try.prog.cellsOf 31 = 8 := by kernel_rfl
theorem cRQ : Try.prog.cellsOf 52 = 6 := by kernel_rfl
theorem cSP : Try.prog.cellsOf 72 = 6 := by kernel_rfl
theorem cFC : Try.prog.cellsOf 167 = 8 := by kernel_rfl
theorem cKEY : Try.prog.cellsOf 98 = 3 := by kernel_rfl
theorem cSPAN : Try.prog.cellsOf 165 = 2 := by kernel_rfl
theorem cSWE : Try.prog.cellsOf 163 = 4 := by kernel_rfl
theorem int_bounds {n : Int} (hw : (Lit.int .i64 n).wf = true) : -9223372036854775808 ≤ n ∧ n ≤ 9223372036854775807 := by
 have hmin : IntKind.i64.min = -9223372036854775808 := by decide
 have hmax : IntKind.i64.max = 9223372036854775807 := by decide
 simpa [Lit.wf, hmin, hmax] using hw
theorem one_slice {t e : TypeId} {fuel : Nat} {v : Value} {x : DataW H × List MemPlace} (hu : Try.prog.underlying t = some (.slice e)) (h : DataW.trod enc Try.prog w 0 sp held fuel t [v] = some x) : v.oneCell' = true := by
 rcases read_slice hu h with rfl | ⟨a, len, cap, f, rfl, -⟩ <;> rfl
theorem lenL3 {l : List Value} (h : l.length = 3) : ∃ a0 a1 a2, l = [a0, a1, a2] := by
 match l, h with
 | [a0, a1, a2], _ => exact ⟨a0, a1, a2, rfl⟩
theorem lenL4 {l : List Value} (h : l.length = 4) : ∃ a0 a1 a2 a3, l = [a0, a1, a2, a3] := by
 match l, h with
 | [a0, a1, a2, a3], _ => exact ⟨a0, a1, a2, a3, rfl⟩
theorem lenL5 {l : List Value} (h : l.length = 5) : ∃ a0 a1 a2 a3 a4, l = [a0, a1, a2, a3, a4] := by
 match l, h with
 | [a0, a1, a2, a3, a4], _ => exact ⟨a0, a1, a2, a3, a4, rfl⟩
theorem lenL6 {l : List Value} (h : l.length = 6) : ∃ a0 a1 a2 a3 a4 a5, l = [a0, a1, a2, a3, a4, a5] := by
 match l, h with
 | [a0, a1, a2, a3, a4, a5], _ => exact ⟨a0, a1, a2, a3, a4, a5, rfl⟩
theorem lenL8 {l : List Value} (h : l.length = 8) : ∃ a0 a1 a2 a3 a4 a5 a6 a7, l = [a0, a1, a2, a3, a4, a5, a6, a7] := by
 match l, h with
 | [a0, a1, a2, a3, a4, a5, a6, a7], _ => exact ⟨a0, a1, a2, a3, a4, a5, a6, a7, rfl⟩
theorem lenL11 {l : List Value} (h : l.length = 11) : ∃ a0 a1 a2 a3 a4 a5 a6 a7 a8 a9 a10, l = [a0, a1, a2, a3, a4, a5, a6, a7, a8, a9, a10] := by
 match l, h with
 | [a0, a1, a2, a3, a4, a5, a6, a7, a8, a9, a10], _ => exact ⟨a0, a1, a2, a3, a4, a5, a6, a7, a8, a9, a10, rfl⟩
theorem open_key {cs : List Value} {fuel : Nat} {x : DataW H × List MemPlace} (h : DataW.trod enc Try.prog w 0 sp held fuel 98 cs = some x) : ∃ z0 z1 z2 : Int, cs = [.int .i64 z0, .int .i64 z1, .int .i64 z2] ∧ -9223372036854775808 ≤ z2 ∧ z2 ≤ 9223372036854775807 := by
 obtain ⟨hl, g, hg⟩ := read_struct Try.underlying98 h
 rw [cKEY] at hl
 obtain ⟨a0, a1, a2, rfl⟩ := lenL3 hl
 obtain ⟨y0, h0⟩ : ∃ y, DataW.trod enc Try.prog w 0 sp held g 3 (([a0, a1, a2].drop 0).take (Try.prog.cellsOf 3)) = some y := hg 0 _ rfl
 rw [cINT] at h0
 obtain ⟨y1, h1⟩ : ∃ y, DataW.trod enc Try.prog w 0 sp held g 3 (([a0, a1, a2].drop 1).take (Try.prog.cellsOf 3)) = some y := hg 1 _ rfl
 rw [cINT] at h1
 obtain ⟨y2, h2⟩ : ∃ y, DataW.trod enc Try.prog w 0 sp held g 3 (([a0, a1, a2].drop 2).take (Try.prog.cellsOf 3)) = some y := hg 2 _ rfl
 rw [cINT] at h2
 obtain ⟨n0, e0, b0⟩ := read_int uINT h0
 obtain ⟨n1, e1, b1⟩ := read_int uINT h1
 obtain ⟨n2, e2, b2⟩ := read_int uINT h2
 cases e0
 cases e1
 cases e2
 exact ⟨_, _, _, rfl, int_bounds b2⟩
theorem open_rq {cs : List Value} {fuel : Nat} {x : DataW H × List MemPlace} (h : DataW.trod enc Try.prog w 0 sp held fuel 52 cs = some x) : ∃ z0 z1 z2 z3 z4 z5 : Int, cs = [.int .i64 z0, .int .i64 z1, .int .i64 z2, .int .i64 z3, .int .i64 z4, .int .i64 z5] ∧ -9223372036854775808 ≤ z5 ∧ z5 ≤ 9223372036854775807 := by
 obtain ⟨hl, g, hg⟩ := read_struct Try.underlying52 h
 rw [cRQ] at hl
 obtain ⟨a0, a1, a2, a3, a4, a5, rfl⟩ := lenL6 hl
 obtain ⟨y0, h0⟩ : ∃ y, DataW.trod enc Try.prog w 0 sp held g 3 (([a0, a1, a2, a3, a4, a5].drop 0).take (Try.prog.cellsOf 3)) = some y := hg 0 _ rfl
 rw [cINT] at h0
 obtain ⟨y1, h1⟩ : ∃ y, DataW.trod enc Try.prog w 0 sp held g 3 (([a0, a1, a2, a3, a4, a5].drop 1).take (Try.prog.cellsOf 3)) = some y := hg 1 _ rfl
 rw [cINT] at h1
 obtain ⟨y2, h2⟩ : ∃ y, DataW.trod enc Try.prog w 0 sp held g 3 (([a0, a1, a2, a3, a4, a5].drop 2).take (Try.prog.cellsOf 3)) = some y := hg 2 _ rfl
 rw [cINT] at h2
 obtain ⟨y3, h3⟩ : ∃ y, DataW.trod enc Try.prog w 0 sp held g 3 (([a0, a1, a2, a3, a4, a5].drop 3).take (Try.prog.cellsOf 3)) = some y := hg 3 _ rfl
 rw [cINT] at h3
 obtain ⟨y4, h4⟩ : ∃ y, DataW.trod enc Try.prog w 0 sp held g 3 (([a0, a1, a2, a3, a4, a5].drop 4).take (Try.prog.cellsOf 3)) = some y := hg 4 _ rfl
 rw [cINT] at h4
 obtain ⟨y5, h5⟩ : ∃ y, DataW.trod enc Try.prog w 0 sp held g 3 (([a0, a1, a2, a3, a4, a5].drop 5).take (Try.prog.cellsOf 3)) = some y := hg 5 _ rfl
 rw [cINT] at h5
 obtain ⟨n0, e0, b0⟩ := read_int uINT h0
 obtain ⟨n1, e1, b1⟩ := read_int uINT h1
 obtain ⟨n2, e2, b2⟩ := read_int uINT h2
 obtain ⟨n3, e3, b3⟩ := read_int uINT h3
 obtain ⟨n4, e4, b4⟩ := read_int uINT h4
 obtain ⟨n5, e5, b5⟩ := read_int uINT h5
 cases e0
 cases e1
 cases e2
 cases e3
 cases e4
 cases e5
 exact ⟨_, _, _, _, _, _, rfl, int_bounds b5⟩
theorem open_sp {cs : List Value} {fuel : Nat} {x : DataW H × List MemPlace} (h : DataW.trod enc Try.prog w 0 sp held fuel 72 cs = some x) : ∃ z0 z1 z2 z3 z4 z5 : Int, cs = [.int .i64 z0, .int .i64 z1, .int .i64 z2, .int .i64 z3, .int .i64 z4, .int .i64 z5] ∧ -9223372036854775808 ≤ z5 ∧ z5 ≤ 9223372036854775807 := by
 obtain ⟨hl, g, hg⟩ := read_struct Try.underlying72 h
 rw [cSP] at hl
 obtain ⟨a0, a1, a2, a3, a4, a5, rfl⟩ := lenL6 hl
 obtain ⟨y0, h0⟩ : ∃ y, DataW.trod enc Try.prog w 0 sp held g 3 (([a0, a1, a2, a3, a4, a5].drop 0).take (Try.prog.cellsOf 3)) = some y := hg 0 _ rfl
 rw [cINT] at h0
 obtain ⟨y1, h1⟩ : ∃ y, DataW.trod enc Try.prog w 0 sp held g 3 (([a0, a1, a2, a3, a4, a5].drop 1).take (Try.prog.cellsOf 3)) = some y := hg 1 _ rfl
 rw [cINT] at h1
 obtain ⟨y2, h2⟩ : ∃ y, DataW.trod enc Try.prog w 0 sp held g 3 (([a0, a1, a2, a3, a4, a5].drop 2).take (Try.prog.cellsOf 3)) = some y := hg 2 _ rfl
 rw [cINT] at h2
 obtain ⟨y3, h3⟩ : ∃ y, DataW.trod enc Try.prog w 0 sp held g 3 (([a0, a1, a2, a3, a4, a5].drop 3).take (Try.prog.cellsOf 3)) = some y := hg 3 _ rfl
 rw [cINT] at h3
 obtain ⟨y4, h4⟩ : ∃ y, DataW.trod enc Try.prog w 0 sp held g 3 (([a0, a1, a2, a3, a4, a5].drop 4).take (Try.prog.cellsOf 3)) = some y := hg 4 _ rfl
 rw [cINT] at h4
 obtain ⟨y5, h5⟩ : ∃ y, DataW.trod enc Try.prog w 0 sp held g 3 (([a0, a1, a2, a3, a4, a5].drop 5).take (Try.prog.cellsOf 3)) = some y := hg 5 _ rfl
 rw [cINT] at h5
 obtain ⟨n0, e0, b0⟩ := read_int uINT h0
 obtain ⟨n1, e1, b1⟩ := read_int uINT h1
 obtain ⟨n2, e2, b2⟩ := read_int uINT h2
 obtain ⟨n3, e3, b3⟩ := read_int uINT h3
 obtain ⟨n4, e4, b4⟩ := read_int uINT h4
 obtain ⟨n5, e5, b5⟩ := read_int uINT h5
 cases e0
 cases e1
 cases e2
 cases e3
 cases e4
 cases e5
 exact ⟨_, _, _, _, _, _, rfl, int_bounds b5⟩
theorem open_fcb {cs : List Value} {fuel : Nat} {x : DataW H × List MemPlace} (h : DataW.trod enc Try.prog w 0 sp held fuel 167 cs = some x) : ∃ z0 z1 z2 z3 z4 z5 z6 z7 : Int, cs = [.int .i64 z0, .int .i64 z1, .int .i64 z2, .int .i64 z3, .int .i64 z4, .int .i64 z5, .int .i64 z6, .int .i64 z7] ∧ (-9223372036854775808 ≤ z4 ∧ z4 ≤ 9223372036854775807) ∧ (-9223372036854775808 ≤ z5 ∧ z5 ≤ 9223372036854775807) := by
 obtain ⟨hl, g, hg⟩ := read_struct Try.underlying167 h
 rw [cFC] at hl
 obtain ⟨a0, a1, a2, a3, a4, a5, a6, a7, rfl⟩ := lenL8 hl
 obtain ⟨y0, h0⟩ : ∃ y, DataW.trod enc Try.prog w 0 sp held g 98 (([a0, a1, a2, a3, a4, a5, a6, a7].drop 0).take (Try.prog.cellsOf 98)) = some y := hg 0 _ rfl
 rw [cKEY] at h0
 obtain ⟨y1, h1⟩ : ∃ y, DataW.trod enc Try.prog w 0 sp held g 3 (([a0, a1, a2, a3, a4, a5, a6, a7].drop 3).take (Try.prog.cellsOf 3)) = some y := hg 1 _ rfl
 rw [cINT] at h1
 obtain ⟨y2, h2⟩ : ∃ y, DataW.trod enc Try.prog w 0 sp held g 165 (([a0, a1, a2, a3, a4, a5, a6, a7].drop 4).take (Try.prog.cellsOf 165)) = some y := hg 2 _ rfl
 rw [cSPAN] at h2
 obtain ⟨y3, h3⟩ : ∃ y, DataW.trod enc Try.prog w 0 sp held g 3 (([a0, a1, a2, a3, a4, a5, a6, a7].drop 6).take (Try.prog.cellsOf 3)) = some y := hg 3 _ rfl
 rw [cINT] at h3
 obtain ⟨y4, h4⟩ : ∃ y, DataW.trod enc Try.prog w 0 sp held g 3 (([a0, a1, a2, a3, a4, a5, a6, a7].drop 7).take (Try.prog.cellsOf 3)) = some y := hg 4 _ rfl
 rw [cINT] at h4
 obtain ⟨n0, n1, n2, e0, -⟩ := open_key h0
 obtain ⟨n3, e1, -⟩ := read_int uINT h1
 obtain ⟨hl2, g2, hg2⟩ := read_struct Try.underlying165 h2
 obtain ⟨y5, k0⟩ : ∃ y, DataW.trod enc Try.prog w 0 sp held g2 3 (([a4, a5].drop 0).take (Try.prog.cellsOf 3)) = some y := hg2 0 _ rfl
 rw [cINT] at k0
 obtain ⟨y6, k1⟩ : ∃ y, DataW.trod enc Try.prog w 0 sp held g2 3 (([a4, a5].drop 1).take (Try.prog.cellsOf 3)) = some y := hg2 1 _ rfl
 rw [cINT] at k1
 obtain ⟨n4, e4, b4⟩ := read_int uINT k0
 obtain ⟨n5, e5, b5⟩ := read_int uINT k1
 obtain ⟨n6, e6, -⟩ := read_int uINT h3
 obtain ⟨n7, e7, -⟩ := read_int uINT h4
 cases e0
 cases e1
 cases e4
 cases e5
 cases e6
 cases e7
 exact ⟨_, _, _, _, _, _, _, _, rfl, int_bounds b4, int_bounds b5⟩
theorem slOf_split {α : Type} {sz : Nat} {R R' : Mem → List Value → α → Prop} {Q : α → Prop} {M : Mem} {v : Value} {xs : List α} (h : SlOf sz R M v xs) (hR : ∀ c x, R M c x → R' M c x ∧ Q x) : SlOf sz R' M v xs ∧ ∀ x ∈ xs, Q x := by
 obtain ⟨A, k, cells, h1, h2, h3, h4, hr, he⟩ := h
 refine ⟨⟨A, k, cells, h1, h2, h3, h4, hr, fun i x hx => (hR _ _ (he i x hx)).1⟩, fun x hx => ?_⟩
 obtain ⟨i, hi, rfl⟩ := List.getElem_of_mem hx
 exact (hR _ _ (he i _ (List.getElem?_eq_getElem hi))).2
def FDay (f : Fc) : Prop := (-9223372036854775808 ≤ f.lo ∧ f.lo ≤ 9223372036854775807) ∧ (-9223372036854775808 ≤ f.hi ∧ f.hi ≤ 9223372036854775807)
theorem open_sw {cs : List Value} {fuel : Nat} {x : DataW H × List MemPlace} (h : DataW.trod enc Try.prog w 0 sp held fuel 163 cs = some x) : ∃ (s1 s2 : ByteArray) (a b : Int), cs = [.string s1, .string s2, .int .i64 a, .int .i64 b] := by
 obtain ⟨hl, g, hg⟩ := read_struct Try.underlying163 h
 rw [cSWE] at hl
 obtain ⟨a0, a1, a2, a3, rfl⟩ := lenL4 hl
 obtain ⟨y0, h0⟩ : ∃ y, DataW.trod enc Try.prog w 0 sp held g 9 (([a0, a1, a2, a3].drop 0).take (Try.prog.cellsOf 9)) = some y := hg 0 _ rfl
 rw [cSTR] at h0
 obtain ⟨y1, h1⟩ : ∃ y, DataW.trod enc Try.prog w 0 sp held g 9 (([a0, a1, a2, a3].drop 1).take (Try.prog.cellsOf 9)) = some y := hg 1 _ rfl
 rw [cSTR] at h1
 obtain ⟨y2, h2⟩ : ∃ y, DataW.trod enc Try.prog w 0 sp held g 3 (([a0, a1, a2, a3].drop 2).take (Try.prog.cellsOf 3)) = some y := hg 2 _ rfl
 rw [cINT] at h2
 obtain ⟨y3, h3⟩ : ∃ y, DataW.trod enc Try.prog w 0 sp held g 3 (([a0, a1, a2, a3].drop 3).take (Try.prog.cellsOf 3)) = some y := hg 3 _ rfl
 rw [cINT] at h3
 obtain ⟨s1, e0, -⟩ := read_string uSTR h0
 obtain ⟨s2, e1, -⟩ := read_string uSTR h1
 obtain ⟨n2, e2, -⟩ := read_int uINT h2
 obtain ⟨n3, e3, -⟩ := read_int uINT h3
 cases e0; cases e1; cases e2; cases e3
 exact ⟨_, _, _, _, rfl⟩
theorem open_world {cs : List Value} {fuel : Nat} {x : DataW H × List MemPlace} (h : DataW.trod enc Try.prog w 0 sp held fuel 38 cs = some x) : ∃ d : Wd, RWd (Bf.hp w) cs d ∧ ∀ f ∈ d.facts, FDay f := by
 obtain ⟨hl, g, hg⟩ := read_struct Try.underlying38 h
 rw [cW] at hl
 obtain ⟨a0, a1, a2, a3, a4, a5, a6, a7, a8, a9, a10, rfl⟩ := lenL11 hl
 obtain ⟨y0, h0⟩ : ∃ y, DataW.trod enc Try.prog w 0 sp held g 35 (([a0, a1, a2, a3, a4, a5, a6, a7, a8, a9, a10].drop 0).take (Try.prog.cellsOf 35)) = some y := hg 0 _ rfl
 rw [cTB] at h0
 obtain ⟨y1, h1⟩ : ∃ y, DataW.trod enc Try.prog w 0 sp held g 36 (([a0, a1, a2, a3, a4, a5, a6, a7, a8, a9, a10].drop 10).take (Try.prog.cellsOf 36)) = some y := hg 1 _ rfl
 rw [cFA] at h1
 have h0 : DataW.trod enc Try.prog w 0 sp held g 35 [a0, a1, a2, a3, a4, a5, a6, a7, a8, a9] = some y0 := h0
 obtain ⟨-, g2, hg2⟩ := read_struct Try.underlying35 h0
 obtain ⟨z0, k0⟩ : ∃ y, DataW.trod enc Try.prog w 0 sp held g2 31 (([a0, a1, a2, a3, a4, a5, a6, a7, a8, a9].drop 0).take (Try.prog.cellsOf 31)) = some y := hg2 0 _ rfl
 rw [cSRC] at k0
 obtain ⟨z1, k1⟩ : ∃ y, DataW.trod enc Try.prog w 0 sp held g2 32 (([a0, a1, a2, a3, a4, a5, a6, a7, a8, a9].drop 8).take (Try.prog.cellsOf 32)) = some y := hg2 1 _ rfl
 rw [cLV] at k1
 obtain ⟨z2, k2⟩ : ∃ y, DataW.trod enc Try.prog w 0 sp held g2 33 (([a0, a1, a2, a3, a4, a5, a6, a7, a8, a9].drop 9).take (Try.prog.cellsOf 33)) = some y := hg2 2 _ rfl
 rw [cCD] at k2
 have k0 : DataW.trod enc Try.prog w 0 sp held g2 31 [a0, a1, a2, a3, a4, a5, a6, a7] = some z0 := k0
 obtain ⟨-, g3, hg3⟩ := read_struct Try.underlying31 k0
 obtain ⟨x0, m0⟩ : ∃ y, DataW.trod enc Try.prog w 0 sp held g3 22 (([a0, a1, a2, a3, a4, a5, a6, a7].drop 0).take (Try.prog.cellsOf 22)) = some y := hg3 0 _ rfl
 rw [cS0] at m0
 obtain ⟨x1, m1⟩ : ∃ y, DataW.trod enc Try.prog w 0 sp held g3 23 (([a0, a1, a2, a3, a4, a5, a6, a7].drop 1).take (Try.prog.cellsOf 23)) = some y := hg3 1 _ rfl
 rw [cS1] at m1
 obtain ⟨x2, m2⟩ : ∃ y, DataW.trod enc Try.prog w 0 sp held g3 24 (([a0, a1, a2, a3, a4, a5, a6, a7].drop 2).take (Try.prog.cellsOf 24)) = some y := hg3 2 _ rfl
 rw [cS2] at m2
 obtain ⟨x3, m3⟩ : ∃ y, DataW.trod enc Try.prog w 0 sp held g3 25 (([a0, a1, a2, a3, a4, a5, a6, a7].drop 3).take (Try.prog.cellsOf 25)) = some y := hg3 3 _ rfl
 rw [cS3] at m3
 obtain ⟨x4, m4⟩ : ∃ y, DataW.trod enc Try.prog w 0 sp held g3 26 (([a0, a1, a2, a3, a4, a5, a6, a7].drop 4).take (Try.prog.cellsOf 26)) = some y := hg3 4 _ rfl
 rw [cS4] at m4
 obtain ⟨x5, m5⟩ : ∃ y, DataW.trod enc Try.prog w 0 sp held g3 27 (([a0, a1, a2, a3, a4, a5, a6, a7].drop 5).take (Try.prog.cellsOf 27)) = some y := hg3 5 _ rfl
 rw [cS5] at m5
 obtain ⟨x6, m6⟩ : ∃ y, DataW.trod enc Try.prog w 0 sp held g3 28 (([a0, a1, a2, a3, a4, a5, a6, a7].drop 6).take (Try.prog.cellsOf 28)) = some y := hg3 6 _ rfl
 rw [cS6] at m6
 obtain ⟨x7, m7⟩ : ∃ y, DataW.trod enc Try.prog w 0 sp held g3 29 (([a0, a1, a2, a3, a4, a5, a6, a7].drop 7).take (Try.prog.cellsOf 29)) = some y := hg3 7 _ rfl
 rw [cSW] at m7
 obtain ⟨e0, he0⟩ := uS0
 have o0 := one_slice he0 m0
 obtain ⟨e1, he1⟩ := uS1
 have o1 := one_slice he1 m1
 obtain ⟨e2, he2⟩ := uS2
 have o2 := one_slice he2 m2
 obtain ⟨e3, he3⟩ := uS3
 have o3 := one_slice he3 m3
 obtain ⟨e4, he4⟩ := uS4
 have o4 := one_slice he4 m4
 obtain ⟨e5, he5⟩ := uS5
 have o5 := one_slice he5 m5
 obtain ⟨e6, he6⟩ := uS6
 have o6 := one_slice he6 m6
 have o8 := one_slice uLV k1
 obtain ⟨e9, he9⟩ := uCD
 have o9 := one_slice he9 k2
 obtain ⟨swaps, A, c, rfl, hs⟩ := read_slOf (R := RSw) uSW cSWE (by omega) (fun f cs y hl hy => by
  obtain ⟨s1, s2, p, q, rfl⟩ := open_sw hy
  exact ⟨by intro u hu; simp at hu; rcases hu with rfl | rfl | rfl | rfl <;> rfl, (p, q), s1, s2, rfl⟩) m7
 obtain ⟨facts, B, d, rfl, hf0⟩ := read_slOf (R := fun M c x => RFc M c x ∧ FDay x) uFA cFC (by omega) (fun f cs y hl hy => by
  obtain ⟨z0, z1, z2, z3, z4, z5, z6, z7, rfl, hb1, hb2⟩ := open_fcb hy
  exact ⟨by intro u hu; simp at hu; rcases hu with rfl | rfl | rfl | rfl | rfl | rfl | rfl | rfl <;> rfl, ⟨(z0, z1, z2), z3, z4, z5, z6, z7⟩, rfl, hb1, hb2⟩) h1
 obtain ⟨hf, hfb⟩ := slOf_split (R' := RFc) (Q := FDay) hf0 fun c x hx => hx
 refine ⟨⟨swaps, facts⟩, ⟨rfl, ?_, ⟨A, c, rfl, hs⟩, ⟨B, d, rfl, hf⟩⟩, hfb⟩
 repeat (first | exact AllOne.nil | refine AllOne.cons (by first | assumption | rfl) ?_)
theorem arg_world (h : Arg enc Try.prog W base 38 v) : ∃ ws d, v = .agg ws.toArray ∧ RWd (Bf.hp W) ws d ∧ ∀ f ∈ d.facts, FDay f := by
 obtain ⟨k0, f0, x, g0⟩ := h
 unfold Value.okWide at k0
 rw [Try.underlying38] at k0
 obtain ⟨cs, rfl, -, -⟩ := k0
 obtain ⟨d, hd⟩ := open_world (cs := cs.toList) (by simpa [Value.cells] using g0)
 exact ⟨cs.toList, d, by simp, hd⟩
theorem arg_sups (h : Arg enc Try.prog W base 39 v) : ∃ (l : List Sp) (A : Option Addr) (c : Nat), v = .slice A l.length c ∧ SlOf 6 RSpC (Bf.hp W) (.slice A l.length c) l := by
 obtain ⟨k0, f0, x, g0⟩ := h
 obtain ⟨A, len, cap, rfl⟩ := okWide_slice uSPS k0
 exact read_slOf (R := RSpC) uSPS cSP (by omega) (fun f cs y hl hy => by
  obtain ⟨z0, z1, z2, z3, z4, z5, rfl, -⟩ := open_sp hy
  exact ⟨by intro u hu; simp at hu; rcases hu with rfl | rfl | rfl | rfl | rfl | rfl <;> rfl, ⟨z0, z1, z2, z3, z4, z5⟩, rfl⟩) (by simpa [Value.cells] using g0)
theorem uHPS : Try.prog.underlying 41 = some (.slice 59) := (tysOk.get (t := 41) rfl).1
theorem cHP : Try.prog.cellsOf 59 = 5 := by kernel_rfl
theorem open_hap {cs : List Value} {fuel : Nat} {x : DataW H × List MemPlace} (h : DataW.trod enc Try.prog w 0 sp held fuel 59 cs = some x) : ∃ y : Hp, cs = [.int .i64 y.kind, .int .i64 y.sup, .int .i64 y.req, .int .i64 y.day, .int .i64 y.amt] := by
 obtain ⟨hl, g, hg⟩ := read_struct Try.underlying59 h
 rw [cHP] at hl
 obtain ⟨a, c, d, e, f, rfl⟩ := lenL5 hl
 obtain ⟨y0, h0⟩ : ∃ y, DataW.trod enc Try.prog w 0 sp held g 3 (([a, c, d, e, f].drop 0).take (Try.prog.cellsOf 3)) = some y := hg 0 _ rfl
 rw [cINT] at h0
 obtain ⟨y1, h1⟩ : ∃ y, DataW.trod enc Try.prog w 0 sp held g 3 (([a, c, d, e, f].drop 1).take (Try.prog.cellsOf 3)) = some y := hg 1 _ rfl
 rw [cINT] at h1
 obtain ⟨y2, h2⟩ : ∃ y, DataW.trod enc Try.prog w 0 sp held g 3 (([a, c, d, e, f].drop 2).take (Try.prog.cellsOf 3)) = some y := hg 2 _ rfl
 rw [cINT] at h2
 obtain ⟨y3, h3⟩ : ∃ y, DataW.trod enc Try.prog w 0 sp held g 3 (([a, c, d, e, f].drop 3).take (Try.prog.cellsOf 3)) = some y := hg 3 _ rfl
 rw [cINT] at h3
 obtain ⟨y4, h4⟩ : ∃ y, DataW.trod enc Try.prog w 0 sp held g 3 (([a, c, d, e, f].drop 4).take (Try.prog.cellsOf 3)) = some y := hg 4 _ rfl
 rw [cINT] at h4
 obtain ⟨n0, e0, -⟩ := read_int uINT h0
 obtain ⟨n1, e1, -⟩ := read_int uINT h1
 obtain ⟨n2, e2, -⟩ := read_int uINT h2
 obtain ⟨n3, e3, -⟩ := read_int uINT h3
 obtain ⟨n4, e4, -⟩ := read_int uINT h4
 cases e0; cases e1; cases e2; cases e3; cases e4
 exact ⟨⟨n0, n1, n2, n3, n4⟩, rfl⟩
theorem arg_haps (h : Arg enc Try.prog W base 41 v) : ∃ (l : List Hp) (A : Option Addr) (c : Nat), v = .slice A l.length c ∧ SlOf 5 RHp (Bf.hp W) (.slice A l.length c) l := by
 obtain ⟨k0, f0, x, g0⟩ := h
 obtain ⟨A, len, cap, rfl⟩ := okWide_slice uHPS k0
 exact read_slOf (R := RHp) uHPS cHP (by omega) (fun f cs y hl hy => by
  obtain ⟨z, rfl⟩ := open_hap hy
  exact ⟨by intro u hu; simp at hu; rcases hu with rfl | rfl | rfl | rfl | rfl <;> rfl, z, rfl⟩) (by simpa [Value.cells] using g0)
theorem arg_reqs (h : Arg enc Try.prog W base 40 v) : ∃ (l : List Rq) (A : Option Addr) (c : Nat), v = .slice A l.length c ∧ SlOf 6 RRqC (Bf.hp W) (.slice A l.length c) l := by
 obtain ⟨k0, f0, x, g0⟩ := h
 obtain ⟨A, len, cap, rfl⟩ := okWide_slice uRQS k0
 exact read_slOf (R := RRqC) uRQS cRQ (by omega) (fun f cs y hl hy => by
  obtain ⟨z0, z1, z2, z3, z4, z5, rfl, -⟩ := open_rq hy
  exact ⟨by intro u hu; simp at hu; rcases hu with rfl | rfl | rfl | rfl | rfl | rfl <;> rfl, ⟨z0, z1, z2, z3, z4, z5⟩, rfl⟩) (by simpa [Value.cells] using g0)
theorem arg_int (h : Arg enc Try.prog W base 3 v) : ∃ a : Int, v = .int .i64 a ∧ -9223372036854775808 ≤ a ∧ a ≤ 9223372036854775807 := by
 obtain ⟨k0, f0, x, g0⟩ := h
 obtain ⟨n, rfl⟩ := okWide_int uINT k0
 obtain ⟨m, e, hw⟩ := read_int uINT g0
 simp [Value.cells] at e
 subst e
 exact ⟨n, rfl, int_bounds hw⟩
end
theorem len5 {l : List Value} (h : l.length = 5) : ∃ a b c d e, l = [a, b, c, d, e] := lenL5 h
theorem ownT' : ownKnob Try.checked.prog.godebug = none := by kernel_rfl
theorem laidT' : laidOutB Try.checked.prog = true := by kernel_rfl
end Go.Proofs.Ytcadnjmcmegpjaa

