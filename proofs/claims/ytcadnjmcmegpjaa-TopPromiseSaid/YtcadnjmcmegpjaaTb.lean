/-
  Texts of the proof, one after the other.
  Conditions: none.
-/
import Derived.Test.YtcadnjmcmegpjaaTBfBuild
import Derived.Test.YtcadnjmcmegpjaaTBfInj
import Derived.Test.YtcadnjmcmegpjaaTBfPend
import Derived.Test.YtcadnjmcmegpjaaTBfRec
import Derived.Test.YtcadnjmcmegpjaaTBfTake
import Derived.Test.YtcadnjmcmegpjaaTBfPan
import Derived.Test.YtcadnjmcmegpjaaTBfLend
import Derived.Test.YtcadnjmcmegpjaaTBfClear
import Derived.Test.YtcadnjmcmegpjaaTBfStruct
import Derived.Test.YtcadnjmcmegpjaaTBfDelN
import Derived.Test.YtcadnjmcmegpjaaTXs
import Derived.Test.YtcadnjmcmegpjaaTa
/-
 Classes: the contract of Table.
 Conditions: none.
-/
namespace Go.Proofs.Ytcadnjmcmegpjaa
open Go Bf
attribute [local irreducible] Tr Exec Stab HasTy Go.Addr.add IntKind.wrap
set_option maxRecDepth 20000 in
theorem boW_elems (M : Mem) (l : List Bool) : Elems 1 RBo M (boV l) l := by
 refine ⟨by simp, fun i x hx => ?_⟩
 show _ = _
 rw [Nat.mul_one, List.take_one, List.head?_drop, boV_get hx]
 rfl
set_option maxRecDepth 20000 in
theorem boW_one (l : List Bool) : ∀ u ∈ boV l, u.oneCell' = true := by
 intro u hu
 simp only [boV, List.mem_map] at hu
 obtain ⟨x, _, rfl⟩ := hu
 rfl
def rdI (y : Rd) : List Int := [y.1.1, y.1.2.1, y.1.2.2, y.2.1, y.2.2]
set_option maxRecDepth 20000 in
theorem rdI_inj {a b : Rd} (h : ints (rdI a) = ints (rdI b)) : a = b := by
 have := ints_inj h
 obtain ⟨⟨a1, a2, a3⟩, a4, a5⟩ := a
 obtain ⟨⟨b1, b2, b3⟩, b4, b5⟩ := b
 simp only [rdI, List.cons.injEq, and_true] at this
 obtain ⟨rfl, rfl, rfl, rfl, rfl⟩ := this
 rfl
def MapRd (w : Wd) (known : Int) (es : List MapEntry) (l : List Rd) : Prop := KeysIn (IntsN 5) es ∧ ∀ y : Rd, valV (ints (rdI y)) es = if y ∈ l then some (.bool (refusedF w y known)) else none
set_option maxRecDepth 20000 in
theorem MapRd.nil (w : Wd) (known : Int) : MapRd w known [] [] := ⟨KeysIn.nil, fun y => by simp [valV, lookV]⟩
set_option maxRecDepth 20000 in
theorem MapRd.add {w : Wd} {known : Int} {es : List MapEntry} {l : List Rd} (h : MapRd w known es l) {y : Rd} (hy : y ∉ l) (cl : Nat) : MapRd w known (updV (ints (rdI y)) (.bool (refusedF w y known)) es cl).1 (addNew l y) := by
 classical
 refine ⟨updV_keys h.1 ⟨rdI y, rfl, rfl⟩, fun z => ?_⟩
 rw [updV_val, h.2 z]
 unfold addNew
 rw [if_neg hy]
 by_cases e : z = y
 ·subst e; simp
 ·have : ¬ ints (rdI z) = ints (rdI y) := fun h => e (rdI_inj h)
  simp [this, e]
def rdsI (w : Wd) (s : List Sp) (r : List Rq) (i : Nat) : List Rd := readsF w (s.take i) r
def rdsJ (w : Wd) (s : List Sp) (r : List Rq) (i : Nat) (x : Sp) (j : Nat) : List Rd := (looksR w x (r.take j)).foldl addNew (rdsI w s r i)
set_option maxRecDepth 20000 in
theorem rdsJ_no {w : Wd} {s : List Sp} {r : List Rq} {i j : Nat} {x : Sp} {y : Rq} (hy : r[j]? = some y) (hc : couldF w x y = false) : rdsJ w s r i x (j + 1) = rdsJ w s r i x j := by
 unfold rdsJ looksR
 rw [List.take_add_one, hy]
 simp [hc]
set_option maxRecDepth 20000 in
theorem rdsJ_yes {w : Wd} {s : List Sp} {r : List Rq} {i j : Nat} {x : Sp} {y : Rq} (hy : r[j]? = some y) (hc : couldF w x y = true) : rdsJ w s r i x (j + 1) = addNew (rdsJ w s r i x j) (lookF x y) := by
 unfold rdsJ looksR
 rw [List.take_add_one, hy]
 simp [hc, List.foldl_append]
set_option maxRecDepth 20000 in
theorem rdsJ_end {w : Wd} {s : List Sp} {r : List Rq} {i : Nat} {x : Sp} (hx : s[i]? = some x) : rdsI w s r (i + 1) = rdsJ w s r i x r.length := by
 unfold rdsI rdsJ readsF
 rw [List.take_add_one, hx, List.take_length]
 simp only [Option.toList_some, List.flatMap_append, List.flatMap_cons, List.flatMap_nil, List.append_nil, List.foldl_append]
 rfl
def TabR (w : Wd) (s : List Sp) (r : List Rq) (known : Int) (v : Value) (M : Mem) : Prop :=
 (¬ okT s r ∧ v = .tuple #[.slice none 0 0, .slice none 0 0, .int .i64 290]) ∨
 (okT s r ∧ ∃ A c B k, v = .tuple #[.slice A (fitsT w known s r).length c, .slice B (readsF w s r).length k, .int .i64 0] ∧ Fits2 M (.slice A (fitsT w known s r).length c) (fitsT w known s r) ∧ SlOf 5 RRd M (.slice B (readsF w s r).length k) (readsF w s r))
set_option maxHeartbeats 16000000 in
set_option maxRecDepth 20000 in
theorem table_fn (M : Mem) (ws : List Value) (w : Wd) (hw : RWd M ws w) (A1 A2 : Option Addr) (c1 c2 : Nat) (s : List Sp) (r : List Rq) (known : Int) (hs : SlOf 6 RSpC M (.slice A1 s.length c1) s) (hr : SlOf 6 RRqC M (.slice A2 r.length c2) r) :
  Fn0 Try.prog 44 [.agg ws.toArray, .slice A1 s.length c1, .slice A2 r.length c2, .int .i64 known] M (fun v M' => TabR w s r known v M') := by
 have hl1 := hs.len_le
 have hl2 := hr.len_le
 have h11 := hw.len
 have hKey : KeyOk Try.prog 100 (IntsN 5) := KeyOk.ofTy (tysOk.get rfl) rfl (by kernel_rfl)
 refine Fn.intro Try.func44 rfl rfl Try.ntmps44 rfl fun E F => ?_
 by_cases h1 : 64 < s.length
 ·(repeat (first | ((with_reducible refine Tr.step rfl ?_); (first | (refine xmQ ?_) | (refine xaQ ?_) | (refine xnQ ?_) | (refine xiQ ?_) | ((with_reducible refine Knd.pick ?_); (refine Exec.stab rfl (Stab.pick_td rfl (by omega) rfl) rfl ?_)) | ((with_reducible refine Knd.box ?_); (refine Exec.box rfl rfl (fun b => ?_))))) | (with_reducible first | apply Tr.next | apply Tr.seq | apply Tr.region | apply Tr.nil) | (refine Tr.guard_n' rfl rfl rfl (by first | (with_reducible assumption) | omega) rfl rfl ?_) | (with_reducible first | apply Tr.ret | apply Tr.then_ret) | (refine Tr.cond_bt rfl (by (with_reducible rfl)) ?_)))
  (refine dnQ (hL := by exact ⟨[_], rfl⟩) ⟨rfl, ?_⟩)
  exact .inl ⟨fun h => by have := h.1.1; omega, rfl⟩
 by_cases h2 : 64 < r.length
 ·(repeat (first | ((with_reducible refine Tr.step rfl ?_); (first | (refine xmQ ?_) | (refine xaQ ?_) | (refine xnQ ?_) | (refine xiQ ?_) | ((with_reducible refine Knd.pick ?_); (refine Exec.stab rfl (Stab.pick_fd rfl (by omega) rfl) rfl ?_)) | ((with_reducible refine Knd.box ?_); (refine Exec.box rfl rfl (fun b => ?_))))) | (with_reducible first | apply Tr.next | apply Tr.seq | apply Tr.region | apply Tr.nil) | ((refine Tr.guard_y' rfl rfl rfl (by first | (with_reducible assumption) | omega) ?_); (first | (refine xmQ ?_) | (refine xnQ ?_) | (refine xiQ ?_))) | (with_reducible first | apply Tr.ret | apply Tr.then_ret) | (refine Tr.cond_t rfl (by first | (with_reducible assumption) | omega) ?_)))
  (refine dnQ (hL := by exact ⟨[_], rfl⟩) ⟨rfl, ?_⟩)
  exact .inl ⟨fun h => by have := h.1.2; omega, rfl⟩
 (repeat (first | ((with_reducible refine Tr.step rfl ?_); (first | (refine xmQ ?_) | (refine xaQ ?_) | (refine xnQ ?_) | (refine xiQ ?_) | ((with_reducible refine Knd.pick ?_); (refine Exec.stab rfl (Stab.pick_fd rfl (by omega) rfl) rfl ?_)) | ((with_reducible refine Knd.box ?_); (refine Exec.box rfl rfl (fun b => ?_))))) | (with_reducible first | apply Tr.next | apply Tr.seq | apply Tr.region | apply Tr.nil) | ((refine Tr.guard_y' rfl rfl rfl (by first | (with_reducible assumption) | omega) ?_); (first | (refine xmQ ?_) | (refine xnQ ?_) | (refine xiQ ?_))) | (with_reducible refine Tr.skip ?_) | (refine Tr.cond_f rfl (by first | (with_reducible assumption) | omega) ?_)))
 generalize b = b4
 ((refine Tr.step rfl ?_)); refine Exec.call0 rfl (containsS_fn M A1 c1 s hs 76 [] (fun x => !decide (okSp x)) (fun x _ => table1_fn M x)) rfl ?_
 rintro _ _ _ ⟨rfl, rfl⟩
 by_cases h3 : ∀ x ∈ s, okSp x
 rotate_left
 ·have e : (s.any fun x => !decide (okSp x)) = true := by
   rw [List.any_eq_true]
   simpa using h3
  rw [e]
  (refine rQ ?_)
  (refine dnQ (hL := by exact ⟨[_], rfl⟩) ⟨rfl, ?_⟩)
  exact .inl ⟨fun h => h3 h.2.1, rfl⟩
 have e3 : (s.any fun x => !decide (okSp x)) = false := by
  rw [List.any_eq_false]
  intro x hx
  simp [h3 x hx]
 rw [e3]
 (refine rQ ?_)
 ((refine Tr.guard_l rfl rfl rfl (by (with_reducible rfl)) ?_)); refine Exec.call0 rfl (containsR_fn M A2 c2 r hr 77 [] (fun x => !decide (okRq x)) (fun x _ => table2_fn M x)) rfl ?_
 rintro _ _ _ ⟨rfl, rfl⟩
 by_cases h4 : ∀ x ∈ r, okRq x
 rotate_left
 ·have e : (r.any fun x => !decide (okRq x)) = true := by
   rw [List.any_eq_true]
   simpa using h4
  rw [e]
  (refine rQ ?_)
  (refine dnQ (hL := by exact ⟨[_], rfl⟩) ⟨rfl, ?_⟩)
  exact .inl ⟨fun h => h4 h.2.2, rfl⟩
 have e4 : (r.any fun x => !decide (okRq x)) = false := by
  rw [List.any_eq_false]
  intro x hx
  simp [h4 x hx]
 rw [e4]
 (repeat (first | ((with_reducible refine Tr.step rfl ?_); (first | (refine xmQ ?_) | (refine xaQ ?_) | (refine xnQ ?_) | ((with_reducible refine Knd.pick ?_); (refine Exec.stab rfl (Stab.pick_f rfl (by (with_reducible rfl)) rfl) rfl ?_)) | ((with_reducible refine Knd.makeMap ?_); (refine Exec.makeMap rfl (fun b => ?_))) | ((with_reducible refine Knd.makeSlice ?_); (refine Exec.make rfl rfl (tysOk.get rfl) rfl (tysOk.get rfl) rfl rfl rfl (by omega) (by omega) (by first | omega | (simp; done) | (simp; omega)) (by omega) rfl (fun b => ?_))))) | (with_reducible first | apply Tr.next | apply Tr.seq | apply Tr.region | apply Tr.nil | apply Tr.skip | apply Tr.block) | (refine Tr.cond_bf rfl (by (with_reducible rfl)) ?_)))
 simp only [Int.toNat_natCast]
 rename_i mb
 generalize b = bf
 refine Tr.own_nil 100 5 ?_
 refine Tr.loop (α := Nat × List Value × Mem × (List MapEntry × Nat) × (Option Addr × Nat)) (fun y => ⟨98, [(41, .int .i64 (y.1 : Int)), (40, .int .i64 (s.length : Int)), (39, .slice A1 s.length c1), (8, .slice (some ⟨bf, 0, none⟩) s.length s.length), (9, .slice y.2.2.2.2.1 (rdsI w s r y.1).length y.2.2.2.2.2), (12, .map (some mb)), (2, .slice A2 r.length c2), (3, .int .i64 known), (4, .pointer (some ⟨b4, 0, none⟩))], [], y.2.2.1, ownS 100 5 y.2.2.2.2.1 (rdsI w s r y.1).length y.2.2.2.2.2 ((rdsI w s r y.1).flatMap rdC) :: box bf 112 y.2.1 :: mapR mb y.2.2.2.1.1 y.2.2.2.1.2 :: box b4 38 ws :: F⟩)
  (fun y => y.1 ≤ s.length ∧ y.2.1.length = s.length ∧ Mem.le M y.2.2.1 ∧ Elems 1 RRowB y.2.2.1 (y.2.1.take y.1) (fitsT w known (s.take y.1) r) ∧ MapRd w known y.2.2.2.1.1 (rdsI w s r y.1) ∧ y.2.2.2.2.2 ≤ 9223372036854775807 ∧ (rdsI w s r y.1).length ≤ 64 * y.1) (fun y => s.length - y.1) (0, List.replicate s.length (.slice none 0 0), M, ([], 0), (none, 0)) ⟨Nat.zero_le _, by simp, Mem.le.refl _, Elems.nil, MapRd.nil w known, by simp, by simp [rdsI, readsF]⟩ hsQ (fun y hy => ?_)
 obtain ⟨i, cells, M1, ⟨es, cl⟩, Ar, cr⟩ := y
 obtain ⟨hi, hcl, hM, hel, hmap, hcr, hrl⟩ := hy
 simp only at hi hcl hM hel hmap hcr hrl
 dsimp only
 have hs1 := hs.mono RSpC.mono hM
 have hr1 := hr.mono RRqC.mono hM
 have hw1 := hw.mono hM
 by_cases hlt : i < s.length
 rotate_left
 ·have ei : i = s.length := by omega
  subst ei
  rw [List.take_of_length_le (by omega), List.take_length] at hel
  have e0 : rdsI w s r s.length = readsF w s r := by rw [rdsI, List.take_length]
  rw [e0] at hmap hrl ⊢
  (refine rQ ?_)
  refine pbQ (r := ownS 100 5 _ _ _ _) (fun M2 hm2 hok => ?_)
  refine pbQ (r := box bf _ _) (fun M3 hm3 hok2 => ?_)
  have hfl : (fitsT w known s r).length = s.length := by simp [fitsT]
  have hF : Fits2 M3 (.slice (some ⟨bf, 0, none⟩) (fitsT w known s r).length s.length) (fitsT w known s r) := SlOf.ofBoxC hok2 rfl (by rw [Nat.mul_one]; exact hcl) (by omega) (by omega) (by
   rw [hfl, Nat.mul_one, List.take_of_length_le (by omega)]
   intro u hu
   obtain ⟨j, hj, rfl⟩ := List.getElem_of_mem hu
   have hj2 : j < (fitsT w known s r).length := by omega
   obtain ⟨A, k, h, -⟩ := hel.2 j _ (List.getElem?_eq_getElem hj2)
   rw [Nat.mul_one, List.take_one, List.head?_drop, List.getElem?_eq_getElem hj] at h
   simp only [Option.toList_some, List.cons.injEq, and_true] at h
   rw [h]
   rfl) (by
   rw [hfl, Nat.mul_one, List.take_of_length_le (by omega)]
   exact hel.mono RRowB.mono (hm2.trans hm3))
  have hR : SlOf 5 RRd M3 (.slice Ar (readsF w s r).length cr) (readsF w s r) := (SlOf.ofOwn hok rfl hcr (rdC_elems _ _)).mono RRd.mono hm3
  have hmm := hM.trans (hm2.trans hm3)
  rw [← hfl]
  rw [← hfl] at hF
  (refine dnQ (hL := by exact ⟨[_, _], rfl⟩) ⟨rfl, ?_⟩)
  exact .inr ⟨⟨⟨by omega, by omega⟩, h3, h4⟩, _, _, _, _, rfl, hF, hR⟩
 obtain ⟨x, hx⟩ := get_of_lt hlt
 have hxo := h3 x (List.mem_of_getElem? hx)
 obtain ⟨hA, ch, hat, rfl⟩ := hs1.elem hx
 simp only [spC] at hat
 (repeat (first | ((with_reducible refine Tr.step rfl ?_); (first | (refine xmQ ?_) | (refine xaQ ?_) | ((with_reducible refine Knd.load ?_); (refine Exec.stab rfl (Stab.loadMA rfl (tysOk.get rfl) rfl (by assumption) (by first | rfl | assumption)) rfl ?_)) | (refine xnQ ?_) | (refine xiQ ?_) | ((with_reducible refine Knd.store ?_); (first | (refine xWQ ?_) | (refine Exec.storeS rfl rfl (tysOk.get rfl) rfl (by first | rfl | assumption) (by repeat (first | exact Upd.here | apply Upd.there)) (by omega) ?_))) | ((with_reducible refine Knd.alloc ?_); (refine Exec.alloc (tysOk.get rfl) rfl rfl (fun b => ?_))) | ((with_reducible refine Knd.indexAddr ?_); (first | (refine Exec.stab rfl (Stab.indexB0 rfl rfl (tysOk.get rfl) rfl (tysOk.get rfl) rfl (by omega) (by omega)) rfl ?_) | (refine xxQ ?_))) | ((with_reducible refine Knd.makeSlice ?_); (refine Exec.make rfl rfl (tysOk.get rfl) rfl (tysOk.get rfl) rfl rfl rfl (by omega) (by omega) (by first | omega | (simp; done) | (simp; omega)) (by omega) rfl (fun b => ?_))))) | (with_reducible first | apply Tr.next | apply Tr.seq | apply Tr.region | apply Tr.nil | apply Tr.skip | apply Tr.block) | (refine Tr.cond_t rfl (by first | (with_reducible assumption) | omega) ?_)))
 simp only [Int.toNat_natCast]
 rename_i b14
 generalize b = br
 refine ftQ (r := ownS 100 5 _ _ _ _) ?_
 refine Tr.loop (α := Nat × List Bool × (List MapEntry × Nat) × (Option Addr × Nat)) (fun y => ⟨98, [(54, .int .i64 (y.1 : Int)), (53, .int .i64 (r.length : Int)), (52, .slice A2 r.length c2), (9, .slice y.2.2.2.1 (rdsJ w s r i x y.1).length y.2.2.2.2), (13, .int .i64 (i : Int)), (14, .pointer (some ⟨b14, 0, none⟩)), (41, .int .i64 (i : Int)), (40, .int .i64 (s.length : Int)), (39, .slice A1 s.length c1), (8, .slice (some ⟨bf, 0, none⟩) s.length s.length), (12, .map (some mb)), (2, .slice A2 r.length c2), (3, .int .i64 known), (4, .pointer (some ⟨b4, 0, none⟩))], [], M1, ownS 100 5 y.2.2.2.1 (rdsJ w s r i x y.1).length y.2.2.2.2 ((rdsJ w s r i x y.1).flatMap rdC) :: box br 4 (boV y.2.1) :: box b14 72 [.int .i64 x.no, .int .i64 x.item, .int .i64 x.plant, .int .i64 x.ready, .int .i64 x.expiry, .int .i64 x.amount] :: box bf 112 (cells.set i (.slice (some ⟨br, 0, none⟩) r.length r.length)) :: mapR mb y.2.2.1.1 y.2.2.1.2 :: box b4 38 ws :: F⟩)
  (fun y => y.1 ≤ r.length ∧ y.2.1 = (r.take y.1).map (fitF w known x) ++ List.replicate (r.length - y.1) false ∧ MapRd w known y.2.2.1.1 (rdsJ w s r i x y.1) ∧ y.2.2.2.2 ≤ 9223372036854775807 ∧ (rdsJ w s r i x y.1).length ≤ 64 * i + y.1) (fun y => r.length - y.1) (0, List.replicate r.length false, (es, cl), (Ar, cr)) ⟨Nat.zero_le _, by simp, by simpa [rdsJ, looksR] using hmap, hcr, by simpa [rdsJ, looksR] using hrl⟩ (by simpa [rdsJ, looksR, boV] using (hsQ)) (fun y hy => ?_)
 obtain ⟨j, row, ⟨es2, cl2⟩, Ar2, cr2⟩ := y
 obtain ⟨hj, hrow, hmap2, hcr2, hrl2⟩ := hy
 simp only at hj hrow hmap2 hcr2 hrl2
 dsimp only
 have hrowl : row.length = r.length := by rw [hrow]; simp; omega
 by_cases hjlt : j < r.length
 rotate_left
 ·have ej : j = r.length := by omega
  subst ej
  rw [← rdsJ_end hx] at hmap2 hrl2 ⊢
  rw [Nat.sub_self, List.replicate_zero, List.append_nil, List.take_length] at hrow
  subst hrow
  (refine rQ ?_)
  refine pbQ (r := box br _ _) (fun M2 hm2 hok => ?_)
  have hB : Bools M2 (.slice (some ⟨br, 0, none⟩) (r.map (fitF w known x)).length r.length) (r.map (fitF w known x)) := SlOf.ofBoxC hok rfl (by simp) (by simp) (by omega) (fun u hu => boW_one _ u (List.mem_of_mem_take hu)) (by
   rw [Nat.mul_one, List.take_of_length_le (by simp)]
   exact boW_elems _ _)
  refine gvQ (r := box b14 _ _) ?_
  refine Tr.again (i + 1, cells.set i (.slice (some ⟨br, 0, none⟩) r.length r.length), M2, (es2, cl2), (Ar2, cr2)) ⟨by simp only; omega, by simpa using hcl, hM.trans hm2, ?_, hmap2, hcr2, by simp only; omega⟩ (by simp only; omega) hsQ
  simp only
  have e1 : (cells.set i (Value.slice (some ⟨br, 0, none⟩) r.length r.length)).take (i + 1) = cells.take i ++ [.slice (some ⟨br, 0, none⟩) r.length r.length] := by
   rw [List.take_add_one, List.getElem?_set_self (by omega), List.take_set_of_le (Nat.le_refl _)]
   rfl
  have e2 : fitsT w known (s.take (i + 1)) r = fitsT w known (s.take i) r ++ [r.map (fitF w known x)] := by
   unfold fitsT
   rw [List.take_add_one, hx]
   simp
  rw [e1, e2]
  refine (hel.mono RRowB.mono hm2).append (Elems.one rfl ⟨some ⟨br, 0, none⟩, r.length, ?_, hB⟩)
  rw [List.length_map]
 obtain ⟨y, hy⟩ := get_of_lt hjlt
 have hyo := h4 y (List.mem_of_getElem? hy)
 obtain ⟨hA2, ch2, hat2, rfl⟩ := hr1.elem hy
 simp only [rqC] at hat2
 have hbl : (boV row).length = r.length := by simp [hrowl]
 have hset : nthL (cells.set i (Value.slice (some ⟨br, 0, none⟩) r.length r.length)) i = some (.slice (some ⟨br, 0, none⟩) r.length r.length) := by
  rw [nthL_eq, List.getElem?_set_self (by omega)]
 have hrowset : ∀ v, row.set j v = (r.take j).map (fitF w known x) ++ v :: List.replicate (r.length - (j + 1)) false := fun v => by
  rw [hrow, List.set_append_right _ _ (by simp; omega), List.length_map, List.length_take, Nat.min_eq_left (by omega), Nat.sub_self, show r.length - j = (r.length - (j + 1)) + 1 by omega, List.replicate_succ, List.set_cons_zero]
 have htk : ∀ v, fitF w known x y = v → row.set j v = (r.take (j + 1)).map (fitF w known x) ++ List.replicate (r.length - (j + 1)) false := fun v hv => by
  rw [hrowset, List.take_add_one, hy, ← hv]
  simp
 (repeat (first | ((with_reducible refine Tr.step rfl ?_); (first | (refine xmQ ?_) | (refine xaQ ?_) | ((with_reducible refine Knd.load ?_); (first | (refine xwQ ?_) | (refine Exec.stab rfl (Stab.loadW rfl (tysOk.get rfl) rfl (by repeat (first | exact Has.here | apply Has.there)) (by assumption)) rfl ?_) | (refine Exec.stab rfl (Stab.loadMA rfl (tysOk.get rfl) rfl (by assumption) (by first | rfl | assumption)) rfl ?_))) | (refine xiQ ?_) | (refine xWQ ?_) | ((with_reducible refine Knd.alloc ?_); (refine Exec.alloc (tysOk.get rfl) rfl rfl (fun b => ?_))) | (refine xxQ ?_))) | (with_reducible first | apply Tr.next | apply Tr.seq | apply Tr.region | apply Tr.nil | apply Tr.skip | apply Tr.block) | (refine Tr.cond_t rfl (by first | (with_reducible assumption) | omega) ?_)))
 ((refine Tr.step rfl ?_)); refine Exec.call0 rfl (couldFit_fn M1 ws w hw1 x y hyo) rfl ?_
 rintro _ _ _ ⟨rfl, rfl⟩
 cases hc : couldF w x y with
 | false =>
  have hf : fitF w known x y = false := by rw [fitF, hc, Bool.false_and]
  have hrow2 : row = (r.take (j + 1)).map (fitF w known x) ++ List.replicate (r.length - (j + 1)) false := by
   rw [← htk false hf, hrowset, hrow, show r.length - j = (r.length - (j + 1)) + 1 by omega, List.replicate_succ]
  have hno := rdsJ_no (s := s) (i := i) hy hc
  rw [← hno] at hmap2 ⊢
  (refine rQ ?_)
  refine Tr.again (j + 1, row, (es2, cl2), (Ar2, cr2)) ⟨by simp only; omega, hrow2, hmap2, hcr2, by simp only; rw [hno]; omega⟩ (by simp only; omega) hsQ
 | true =>
  have hyes := rdsJ_yes (s := s) (i := i) hy hc
  (refine rQ ?_)
  ((refine Tr.step rfl ?_)); refine Exec.call0 rfl (look_fn M1 x y hyo) rfl ?_
  rintro _ _ _ ⟨rfl, rfl⟩
  (repeat (first | ((with_reducible refine Tr.step rfl ?_); (first | (refine xmQ ?_) | (refine xwQ ?_) | (refine xWQ ?_) | ((with_reducible refine Knd.alloc ?_); (refine Exec.alloc (tysOk.get rfl) rfl rfl (fun b => ?_))))) | (with_reducible first | apply Tr.next | apply Tr.seq | apply Tr.region | apply Tr.nil)))
  have hval := hmap2.2 (lookF x y)
  have hkey : ints (rdI (lookF x y)) = .agg #[.int .i64 7, .int .i64 y.cust, .int .i64 x.item, .int .i64 y.due, .int .i64 (y.due + 1)] := rfl
  rw [hkey] at hval
  refine Tr.step rfl ?_
  refine Exec.stab rfl (Stab.lookupV2 hKey rfl rfl (tysOk.get rfl) rfl (tysOk.get rfl) rfl (by repeat (first | exact Has.here | apply Has.there)) hmap2.1 ⟨rdI (lookF x y), rfl, rfl⟩) rfl ?_
  rw [hval]
  by_cases hin : lookF x y ∈ rdsJ w s r i x j
  ·rw [if_pos hin]
   simp only [Option.getD_some, Option.isSome_some]
   have hadd : addNew (rdsJ w s r i x j) (lookF x y) = rdsJ w s r i x j := by rw [addNew, if_pos hin]
   rw [hadd] at hyes
   have hf : fitF w known x y = !refusedF w (lookF x y) known := by rw [fitF, hc, Bool.true_and]
   rw [← hyes] at hmap2 ⊢
   cases hre : refusedF w (lookF x y) known
   all_goals
    rw [hre] at hf
    (repeat (first | ((with_reducible refine Tr.step rfl ?_); (first | (refine xmQ ?_) | (refine xaQ ?_) | ((with_reducible refine Knd.load ?_); (refine Exec.stab rfl (Stab.load rfl (tysOk.get rfl) rfl (by repeat (first | exact Has.here | apply Has.there)) (by assumption)) rfl ?_)) | (refine xdQ ?_) | ((with_reducible refine Knd.unOp ?_); (refine Exec.stab rfl (Stab.not rfl) rfl ?_)) | ((with_reducible refine Knd.store ?_); (refine Exec.storeS rfl rfl (tysOk.get rfl) rfl (by first | rfl | assumption) (by repeat (first | exact Upd.here | apply Upd.there)) (by omega) ?_)) | ((with_reducible refine Knd.extract ?_); (refine Exec.stab rfl (Stab.extract rfl rfl) rfl ?_)) | ((with_reducible refine Knd.indexAddr ?_); (refine Exec.stab rfl (Stab.indexB0 rfl rfl (tysOk.get rfl) rfl (tysOk.get rfl) rfl (by omega) (by omega)) rfl ?_)))) | (with_reducible first | apply Tr.next | apply Tr.seq | apply Tr.region | apply Tr.nil | apply Tr.skip | apply Tr.in_normal) | (refine Tr.cond_bf rfl (by first | (with_reducible rfl) | (with_reducible exact Bool.not_true)) ?_)))
    rw [boV_set]
    refine Tr.again (j + 1, row.set j _, (es2, cl2), (Ar2, cr2)) ⟨by simp only; omega, htk _ hf, hmap2, hcr2, by simp only; rw [hyes]; omega⟩ (by simp only; omega) hsQ
  ·rw [if_neg hin]
   simp only [Option.getD_none, Option.isSome_none]
   (repeat (first | ((with_reducible refine Tr.step rfl ?_); (first | (refine xmQ ?_) | (refine xaQ ?_) | ((with_reducible refine Knd.load ?_); (first | (refine xwQ ?_) | (refine Exec.stab rfl (Stab.loadW rfl (tysOk.get rfl) rfl (by repeat (first | exact Has.here | apply Has.there)) (by assumption)) rfl ?_))) | ((with_reducible refine Knd.unOp ?_); (refine Exec.stab rfl (Stab.not rfl) rfl ?_)) | ((with_reducible refine Knd.extract ?_); (refine Exec.stab rfl (Stab.extract rfl rfl) rfl ?_)))) | (with_reducible first | apply Tr.next | apply Tr.seq | apply Tr.region | apply Tr.nil) | (refine Tr.cond_bt rfl (by first | (with_reducible rfl) | (with_reducible exact Bool.not_false)) ?_)))
   ((refine Tr.step rfl ?_)); refine Exec.call0 rfl (refused_fn M1 ws w hw1 (lookF x y) known) rfl ?_
   rintro _ _ _ ⟨rfl, rfl⟩
   (refine rQ ?_)
   refine Tr.step rfl ?_
   refine Exec.mapUpdateV hKey rfl rfl rfl (tysOk.get rfl) rfl hmap2.1 ⟨rdI (lookF x y), rfl, rfl⟩ (by repeat (first | exact Upd.here | apply Upd.there)) ?_
   (repeat (first | ((with_reducible refine Tr.step rfl ?_); (first | (refine xmQ ?_) | (refine xwQ ?_) | ((with_reducible refine Knd.buildSlice ?_); (refine Exec.buildSlice (tysOk.get rfl) rfl (tysOk.get rfl) rfl rfl rfl rfl rfl (by repeat (first | exact BuildP.nil | ((apply BuildP.many); (rfl); (rfl); (rfl); (rfl); (repeat (first | exact PutL.nil | ((apply PutL.cons); (repeat (first | exact SetL.z | apply SetL.s)))))))) rfl (fun b => ?_))))) | (with_reducible first | apply Tr.next | apply Tr.region | apply Tr.nil)))
   ((refine Tr.step rfl ?_))
   refine Exec.append (news := rdC (lookF x y)) rfl rfl (tysOk.get rfl) rfl (tysOk.get rfl) rfl rfl rfl rfl (by repeat (first | exact Del.here | apply Del.there)) (Src.box (by repeat (first | exact Has.here | apply Has.there))) rfl (rdC_one _) (by omega) (by omega) rfl (fun A6 c6 hc6 => ?_)
   refine gvQ (r := box _ 100 _) ?_
   have hadd : addNew (rdsJ w s r i x j) (lookF x y) = rdsJ w s r i x j ++ [lookF x y] := by rw [addNew, if_neg hin]
   have hm3 := hmap2.add hin cl2
   have hfl : (rdsJ w s r i x j).flatMap rdC ++ rdC (lookF x y) = (addNew (rdsJ w s r i x j) (lookF x y)).flatMap rdC := by rw [hadd, List.flatMap_append]; simp
   have hln : (rdsJ w s r i x j).length + 1 = (addNew (rdsJ w s r i x j) (lookF x y)).length := by rw [hadd]; simp
   have hf : fitF w known x y = !refusedF w (lookF x y) known := by rw [fitF, hc, Bool.true_and]
   rw [hfl, hln]
   cases hre : refusedF w (lookF x y) known
   all_goals
    rw [hre] at hf hm3
    (repeat (first | ((with_reducible refine Tr.step rfl ?_); (first | (refine xmQ ?_) | (refine xaQ ?_) | ((with_reducible refine Knd.load ?_); (refine Exec.stab rfl (Stab.load rfl (tysOk.get rfl) rfl (by repeat (first | exact Has.here | apply Has.there)) (by assumption)) rfl ?_)) | (refine xdQ ?_) | ((with_reducible refine Knd.unOp ?_); (refine Exec.stab rfl (Stab.not rfl) rfl ?_)) | ((with_reducible refine Knd.store ?_); (refine Exec.storeS rfl rfl (tysOk.get rfl) rfl (by first | rfl | assumption) (by repeat (first | exact Upd.here | apply Upd.there)) (by omega) ?_)) | ((with_reducible refine Knd.indexAddr ?_); (refine Exec.stab rfl (Stab.indexB0 rfl rfl (tysOk.get rfl) rfl (tysOk.get rfl) rfl (by omega) (by omega)) rfl ?_)))) | (with_reducible first | apply Tr.next | apply Tr.region | apply Tr.nil | apply Tr.in_normal)))
    rw [boV_set]
    refine gvQ (r := box _ 100 _) ?_
    refine gvQ (r := box _ 52 _) ?_
    refine Tr.again (j + 1, row.set j _, ((updV _ _ es2 cl2).1, (updV _ _ es2 cl2).2), (A6, c6)) ⟨by simp only; omega, htk _ hf, by rw [hyes]; exact hm3, hc6, by simp only; rw [hyes, ← hln]; omega⟩ (by simp only; omega) (by rw [hyes]; exact hsQ)
end Go.Proofs.Ytcadnjmcmegpjaa

/-
 Promises: books that are made of a list of requests, and whether they can be kept, plain.
 Conditions: none.
-/
namespace Go.Proofs.Ytcadnjmcmegpjaa
open Go Bf
def amS (s : List Sp) : List Int := s.map (·.amount)
def amR (r : List Rq) : List Int := r.map (·.amount)
def pbW (w : Wd) (known : Int) (s : List Sp) (r : List Rq) : Pb := pbOf (fitsT w known s r) (amS s) (amR r)
theorem fitsT_get {w : Wd} {known : Int} {s : List Sp} {r : List Rq} {i j : Nat} {x : Sp} {y : Rq} (hx : s[i]? = some x) (hy : r[j]? = some y) : ((fitsT w known s r).getD i []).getD j false = fitF w known x y := by
 simp [fitsT, List.getD_eq_getElem?_getD, hx, hy]
theorem okT_vld {w : Wd} {known : Int} {s : List Sp} {r : List Rq} (h : okT s r) : Vld (fitsT w known s r) (amS s) (amR r) := by
 obtain ⟨⟨h1, h2⟩, h3, h4⟩ := h
 refine ⟨by simpa [amS] using h1, by simpa [amR] using h2, by simp [fitsT, amS], ?_, ?_, ?_⟩
 ·intro x hx
  simp only [fitsT, List.mem_map] at hx
  obtain ⟨y, _, rfl⟩ := hx
  simp [amR]
 ·intro x hx
  simp only [amS, List.mem_map] at hx
  obtain ⟨y, hy, rfl⟩ := hx
  exact (h3 y hy).2.2.2.2.2
 ·intro x hx
  simp only [amR, List.mem_map] at hx
  obtain ⟨y, hy, rfl⟩ := hx
  exact (h4 y hy).2.2.2.2.2
theorem okB.pb {w : Wd} {b : Bp} (h : okB w b) : pbB b = pbW w b.known b.sups b.reqs := by
 unfold pbB pbW
 rw [h.2.2.1.1]
 rfl
theorem feasW_sub {w : Wd} {known : Int} {s : List Sp} {r r' : List Rq} (hs : SubInj r' r) (h : Feas (pbW w known s r)) : Feas (pbW w known s r') := by
 obtain ⟨f, h1, h2⟩ := hs
 refine Feas.inj (p := pbW w known s r) f (by simp [pbW, pbOf]) (fun j hj => ?_) (fun i j hi hj => h2 i j (by simpa [pbW, pbOf, amR] using hi) (by simpa [pbW, pbOf, amR] using hj)) (fun k hk j hj hf => ?_) (fun k hk => Int.le_refl _) (fun j hj => ?_) h
 ·have := (h1 j (by simpa [pbW, pbOf, amR] using hj)).1
  simpa [pbW, pbOf, amR] using this
 ·simp only [pbW, pbOf, amS, amR, List.length_map] at hk hj hf ⊢
  obtain ⟨x, hx⟩ := get_of_lt hk
  obtain ⟨y, hy⟩ := get_of_lt hj
  have e := (h1 j hj).2
  rw [hy] at e
  rw [fitsT_get hx e] at hf
  rw [fitsT_get hx hy]
  exact hf
 ·simp only [pbW, pbOf, amR, List.length_map] at hj ⊢
  have e := (h1 j hj).2
  simp only [List.getD_eq_getElem?_getD, List.getElem?_map, ← e]
theorem feasW_nil (w : Wd) (known : Int) (s : List Sp) (hs : ∀ x ∈ s, okSp x) : Feas (pbW w known s []) := by
 refine feas_part.2 ⟨fun _ _ => 0, fun k hk b hb => Int.le_refl _, fun k hk b hb h => absurd rfl h, fun k hk => ?_, fun b hb => ?_⟩
 ·obtain ⟨x, hx⟩ := get_of_lt (xs := s) (i := k) (by simpa [pbW, pbOf, amS] using hk)
  have := (hs x (List.mem_of_getElem? hx)).2.2.2.2.2.1
  show (0 : Int) ≤ (amS s).getD k 0
  simp [amS, List.getD_eq_getElem?_getD, hx, this]
 ·simp [pbW, pbOf, amR] at hb
theorem okT_app {s : List Sp} {r : List Rq} {x : Rq} (h : okT s r) : okT s (r ++ [x]) ↔ okRq x ∧ r.length + 1 ≤ 64 := by
 constructor
 ·intro h2
  exact ⟨h2.2.2 x (by simp), by simpa using h2.1.2⟩
 ·rintro ⟨h1, h2⟩
  exact ⟨⟨h.1.1, by simpa using h2⟩, h.2.1, fun y hy => by
   rcases List.mem_append.1 hy with h3 | h3
   ·exact h.2.2 y h3
   ·simp at h3; subst h3; exact h1⟩
theorem okB_mk {w : Wd} {b : Bp} {r : List Rq} (hn : (r.map (·.no)).Nodup) (hs : (b.sups.map (·.no)).Nodup) (ht : okT b.sups r) (hf : Feas (pbW w b.known b.sups r)) : okB w (mkF w b r) := ⟨⟨hn, hs⟩, ht, ⟨rfl, rfl⟩, hf⟩
theorem okB_new {w : Wd} {known : Int} {s : List Sp} (ht : okT s []) (hs : (s.map (·.no)).Nodup) : okB w (mkF w ⟨known, s, [], [], []⟩ []) := okB_mk List.nodup_nil hs ht (feasW_nil w known s ht.2.1)
theorem okB_more {w : Wd} {b : Bp} {r : Rq} (h : okB w b) (hno : r.no ∉ b.reqs.map (·.no)) (hr : okRq r) (hl : b.reqs.length + 1 ≤ 64) (hf : Feas (pbW w b.known b.sups (b.reqs ++ [r]))) : okB w (more w b r) := by
 refine okB_mk ?_ h.1.2 ((okT_app h.2.1).2 ⟨hr, hl⟩) hf
 rw [List.map_append, List.nodup_append]
 refine ⟨h.1.1, by simp, fun x hx y hy => ?_⟩
 simp at hy
 subst hy
 exact fun e => hno (e ▸ hx)
end Go.Proofs.Ytcadnjmcmegpjaa

/-
 Matching: the contract of Flow.
 Conditions: none.
-/
namespace Go.Proofs.Ytcadnjmcmegpjaa
open Go Bf
attribute [local irreducible] Tr Exec Stab HasTy Go.Addr.add IntKind.wrap
set_option maxHeartbeats 8000000 in
set_option maxRecDepth 20000 in
theorem flow_fn (M : Mem) (A0 A1 A2 : Option Addr) (c0 c1 c2 : Nat) (fits : List (List Bool)) (sup need : List Int) (hf : Fits2 M (.slice A0 fits.length c0) fits) (hs : Ints M (.slice A1 sup.length c1) sup) (hn : Ints M (.slice A2 need.length c2) need) (rs : I64s sup) (rn : I64s need) :
  Fn0 Try.prog 13 [.slice A0 fits.length c0, .slice A1 sup.length c1, .slice A2 need.length c2] M (fun r M' => FlowR fits sup need r M') := by
 refine Fn.intro Try.func13 rfl rfl Try.ntmps13 rfl fun E F => ?_
 refine rQ ?_
 ((refine Tr.step rfl ?_)); refine Exec.call0 rfl (valid_fn M A0 A1 A2 c0 c1 c2 fits sup need hf hs hn rs rn) rfl ?_
 rintro _ _ _ ⟨rfl, rfl⟩
 cases hvv : validF fits sup need
 ·refine rQ ?_
  (refine dnQ (hL := by exact ⟨[], rfl⟩) ⟨rfl, ?_⟩)
  exact .inl ⟨hvv, rfl⟩
 have hv := vld_iff.1 hvv
 have l1 := hv.ls
 have l2 := hv.ln
 have l3 := hv.lf
 refine rQ ?_
 ((refine Tr.step rfl ?_))
 refine Exec.call (A := []) rfl (begin_fn M A0 fits.length c0 A1 A2 c1 c2 sup need hs hn hv.ls hv.ln) (List.Perm.refl _) rfl ?_
 rintro _ _ _ _ ⟨o, rws0, rfl, ho, ho1, ho2, hrw, rfl, rfl⟩
 refine rQ ?_
 ((refine Tr.step rfl ?_))
 refine Exec.call (A := stL o (need.length + 1) rws0 need (List.replicate 64 0) (List.replicate 65 0)) rfl (fill_fn M o A0 c0 fits sup need hv hf ho ho1 ho2 _ rws0 need _ _ (begin_shape hrw) rfl (begin_flow hv hrw) (by simp) (by simp)) (List.Perm.refl _) rfl ?_
 rintro _ _ _ _ ⟨rfl, rws, lack, tk, gv, rfl, hsh, hll, ltk, lgv, hfi⟩
 generalize rws0.map (·.1) = bs at hsh
 have hlk := lack_rng hv hll hfi.1
 have hL := hfi.isLack
 have hL0 := hL.zero hv.sup0 hv.need0
 have hls := sumN_list lack
 rw [hll] at hls
 rw [← hls] at hL hL0
 have r1 := sum_rng (by omega) hlk
 simp only [stL, List.cons_append, List.nil_append]
 refine rQ ?_
 refine own_cap o.Al (by repeat (first | exact Has.here | apply Has.there)) (fun hA1 hA2 => ?_)
 ((refine Tr.step rfl ?_))
 refine Exec.call (A := [ownS 3 1 o.Al lack.length o.cl (intV lack)]) (F := box o.sb 110 _ :: ownS 32 1 o.Am _ _ _ :: rowsR rws :: F) rfl (sum_fn M [ownS 3 1 o.Al lack.length o.cl (intV lack)] o.Al o.cl lack hA1 (fun h => by
  cases hAl : o.Al with
  | none => exact absurd (List.eq_nil_of_length_eq_zero (hA2 hAl)) h
  | some a => rfl) (Src.own .here) (small_of (by omega) hlk)) (List.perm_middle (l₁ := [_, _, _])).symm rfl ?_
 rintro _ _ _ _ ⟨rfl, rfl, rfl⟩
 by_cases hs0 : 0 < lack.sum
 ·refine rQ ?_
  ((refine Tr.step rfl ?_)); refine Exec.call0 rfl (cutOf_fn M A0 A1 A2 c0 c1 c2 fits sup need hf hs hn hv) rfl ?_
  rintro _ M2 hm2 ⟨B, k, rfl, hI⟩
  refine rQ ?_
  (refine dnQ (hL := by exact ⟨[_, _, _, _], rfl⟩) ⟨rfl, ?_⟩)
  exact .inr (.inl ⟨hv, fun h => by have := hL0.2 h; omega, B, k, rfl, hI⟩)
 have hz : lack.sum = 0 := by omega
 have hfl : Bf.Flow (pbOf fits sup need) (amt rws) fun _ => 0 := hfi.1.zero (hls.symm.trans hz)
 refine rQ ?_
 simp only [List.cons_append, List.nil_append]
 refine ftQ (r := rowsR _) ?_
 refine ftQ (r := ownS 32 1 _ _ _ _) ?_
 refine ftQ (r := box o.sb 110 _) ?_
 refine Tr.own_nil 32 1 ?_
 refine Tr.loop (α := Nat × List (Nat × List Int) × List Int × List Int × Mem × Option Addr × Nat × List Value) (fun y => ⟨72, [(36, .int .i64 (y.1 : Int)), (35, .int .i64 (sup.length : Int)), (6, .slice y.2.2.2.2.2.1 y.1 y.2.2.2.2.2.2.1), (10, .pointer (some ⟨o.sb, 0, none⟩)), (0, .slice A0 fits.length c0), (2, .slice A2 need.length c2)], [], y.2.2.2.2.1, ownS 32 1 y.2.2.2.2.2.1 y.1 y.2.2.2.2.2.2.1 y.2.2.2.2.2.2.2 :: (stL o (need.length + 1) y.2.1 lack y.2.2.1 y.2.2.2.1 ++ F)⟩)
  (fun y => y.1 ≤ sup.length ∧ Shape sup.length need.length bs y.2.1 ∧ y.2.2.1.length = 64 ∧ y.2.2.2.1.length = 65 ∧ (Bf.Flow (pbOf fits sup need) (amt y.2.1) fun _ => 0) ∧ LexTo (pbOf fits sup need) (amt y.2.1) y.1 0 ∧ Mem.le M y.2.2.2.2.1 ∧ y.2.2.2.2.2.2.1 ≤ 9223372036854775807 ∧ Elems 1 RRowI y.2.2.2.2.1 y.2.2.2.2.2.2.2 (allocOf (amt y.2.1) need.length y.1)) (fun y => sup.length - y.1) (0, rws, tk, gv, M, none, 0, []) ⟨Nat.zero_le _, hsh, ltk, lgv, hfl, LexTo.start _ _, Mem.le.refl _, by simp, Elems.nil⟩ hsQ (fun y hy => ?_)
 clear hsh ltk lgv hfl hfi hL hL0 hls hs0
 clear rws tk gv
 obtain ⟨i, rws, tk, gv, M1, A6, c6, cells⟩ := y
 obtain ⟨hi, hsh, ltk, lgv, hfl, hlex, hM, hc6, hel⟩ := hy
 simp only at hi hsh ltk lgv hfl hlex hM hc6 hel
 dsimp only
 have hcl : cells.length = i := by have := hel.1; simpa using this
 simp only [stL, List.cons_append, List.nil_append]
 by_cases hin : i < sup.length
 rotate_left
 ·have ei : i = sup.length := by omega
  subst ei
  refine rQ ?_
  refine pbQ (r := ownS 32 1 A6 _ _ _) (fun M2 hm2 hok => ?_)
  have hfin := hM.trans hm2
  have hI : Ints2 M2 (.slice A6 (allocOf (amt rws) need.length sup.length).length c6) (allocOf (amt rws) need.length sup.length) := SlOf.ofOwn hok (by simp) hc6 (hel.mono RRowI.mono hm2)
  (refine dnQ (hL := by exact ⟨[_, _, _, _], rfl⟩) ⟨rfl, ?_⟩)
  exact .inr (.inr ⟨hv, amt rws, LexTo.max hlex hfl, A6, c6, by simp only [allocOf_length]; rfl, hI⟩)
 obtain ⟨frow, hfr⟩ := get_of_lt (xs := fits) (i := i) (by omega)
 have hfrl := hv.rows frow (List.mem_of_getElem? hfr)
 have hf1 : Fits2 M1 (.slice A0 fits.length c0) fits := hf.mono RRowB.mono hM
 obtain ⟨hA0, fch, fat, fB, fk, rfl, hfB⟩ := hf1.elem hfr
 refine rQ ?_
 refine Tr.loop (α := Nat × List (Nat × List Int) × List Int × List Int) (fun y => ⟨72, [(41, .int .i64 (y.1 : Int)), (40, .int .i64 (need.length : Int)), (11, .int .i64 (i : Int)), (36, .int .i64 (i : Int)), (35, .int .i64 (sup.length : Int)), (6, .slice A6 i c6), (10, .pointer (some ⟨o.sb, 0, none⟩)), (0, .slice A0 fits.length c0), (2, .slice A2 need.length c2)], [], M1, ownS 32 1 A6 i c6 cells :: (stL o (need.length + 1) y.2.1 lack y.2.2.1 y.2.2.2 ++ F)⟩)
  (fun y => y.1 ≤ need.length ∧ Shape sup.length need.length bs y.2.1 ∧ y.2.2.1.length = 64 ∧ y.2.2.2.length = 65 ∧ (Bf.Flow (pbOf fits sup need) (amt y.2.1) fun _ => 0) ∧ LexTo (pbOf fits sup need) (amt y.2.1) i y.1 ∧ Elems 1 RRowI M1 cells (allocOf (amt y.2.1) need.length i)) (fun y => need.length - y.1) (0, rws, tk, gv) ⟨Nat.zero_le _, hsh, ltk, lgv, hfl, hlex, hel⟩ hsQ (fun y hy => ?_)
 clear hsh ltk lgv hfl hlex hel
 obtain ⟨j, rws, tk, gv⟩ := y
 obtain ⟨hj, hsh, ltk, lgv, hfl, hlex, hel⟩ := hy
 simp only at hj hsh ltk lgv hfl hlex hel
 dsimp only
 simp only [stL, List.cons_append, List.nil_append]
 by_cases hjn : j < need.length
 ·obtain ⟨x, hx⟩ := get_of_lt (xs := frow) (i := j) (by omega)
  obtain ⟨hA, hat⟩ := hfB.at hx
  have hfx : (fits.getD i []).getD j false = x := by rw [getD_of (d := []) hfr, getD_of (d := false) hx]
  cases x
  ·refine rQ ?_
   refine Tr.again (j + 1, rws, tk, gv) ⟨by simp only; omega, hsh, ltk, lgv, hfl, hlex.skip hfl hin hjn hfx, hel⟩ (by simp only; omega) hsQ
  ·refine rQ ?_
   ((refine Tr.step rfl ?_))
   refine Exec.call (A := stL o (need.length + 1) rws lack tk gv) (F := ownS 32 1 A6 i c6 cells :: F) rfl (raise_fn M1 o A0 c0 fits sup need hv hf1 ho ho1 ho2 bs rws lack tk gv hsh hll hfl ltk lgv i j hin hjn hfx) (List.perm_middle (l₁ := [_, _, _, _])) rfl ?_
   rintro _ _ _ _ ⟨rfl, rws', tk', gv', rfl, hsh', ltk', lgv', hra, htop⟩
   have hco : allocOf (amt rws') need.length i = allocOf (amt rws) need.length i := allocOf_congr fun k hk c _ => by rw [hra.2.1 k hk]
   refine rQ ?_
   refine ftQ (r := ownS 32 1 A6 _ _ _) ?_
   refine Tr.again (j + 1, rws', tk', gv') ⟨by simp only; omega, hsh', ltk', lgv', hra.1, hlex.step hra htop hin hjn, by simp only [hco]; exact hel⟩ (by simp only; omega) hsQ
 have ej : j = need.length := by omega
 subst ej
 obtain ⟨⟨bi, row⟩, hr0⟩ := get_of_lt (xs := rws) (i := i) (by rw [hsh.n]; exact hin)
 have hrl : row.length = need.length + 1 := hsh.row _ (List.mem_of_getElem? hr0)
 have hp' : (ptrV (need.length + 1) rws)[i]? = some (.slice (some ⟨bi, 0, none⟩) (need.length + 1) (need.length + 1)) := by simp [ptrV, hr0]
 have hn' := hsh.n
 refine Tr.own_some o.Am (by repeat (first | exact Has.here | apply Has.there)) (by omega) (fun hAm => ?_)
 unfold rowsR
 refine Tr.many_out (by repeat (first | exact Del.here | apply Del.there)) (rows_get hr0) ?_
 repeat (first | ((with_reducible refine Tr.step rfl ?_); (first | (refine xmQ ?_) | ((with_reducible refine Knd.load ?_); (first | (refine xlQ ?_) | (refine Exec.stab rfl (Stab.loadO rfl (tysOk.get rfl) rfl (by repeat (first | exact Has.here | apply Has.there)) (by assumption)) rfl ?_))) | (refine xfQ ?_) | (refine xnQ ?_) | ((with_reducible refine Knd.nilCheck ?_); (refine Exec.stab rfl (Stab.nilCheck rfl) rfl ?_)) | (refine xiQ ?_) | (refine xxQ ?_) | ((with_reducible refine Knd.slice ?_); ((refine Exec.stab rfl (Stab.slice_h rfl rfl (tysOk.get rfl) rfl (tysOk.get rfl) (by omega) (by omega)) rfl ?_))))) | (with_reducible first | apply Tr.next | apply Tr.seq | apply Tr.region | apply Tr.nil | apply Tr.exit | apply Tr.then_exit) | ((with_reducible refine Tr.in_exit ?_ ?_); (exact rfl)) | (refine Tr.cond_f rfl (by first | (with_reducible assumption) | omega) ?_))
 rw [show ((need.length : Int)).toNat = (row.take need.length).length by simp; omega]
 have htk : row.take need.length = rowOf (amt rws) need.length i := row_take hr0 hrl
 have htl : (row.take need.length).length = need.length := by simp; omega
 have hcln := clone_lend M1 bi need.length row hrl l2
 ((refine Tr.step rfl ?_))
 refine Exec.call (A := [box bi 3 (intV row)]) rfl hcln (List.Perm.refl _) rfl ?_
 rintro _ _ _ _ ⟨A1, rfl, rfl, B, k, rfl, hk, rfl⟩
 simp only [List.cons_append, List.nil_append]
 refine pbQ (r := ownS 3 1 B _ _ _) (fun M2 hm2 hok => ?_)
 have hI : Ints M2 (.slice B (row.take need.length).length k) (row.take need.length) := Ints.ofOwn hok rfl hk
 refine Tr.many_in (rows_get hr0) ?_
 rw [rows_set, set_same hr0]
 refine ftQ (r := ownS 32 1 o.Am _ _ _) ?_
 refine ftQ (r := box o.sb 110 _) ?_
 repeat (((with_reducible refine Tr.step rfl ?_); (((with_reducible refine Knd.buildSlice ?_); ((refine Exec.buildSlice (tysOk.get rfl) rfl (tysOk.get rfl) rfl rfl rfl rfl rfl (by repeat (first | exact BuildP.nil | ((apply BuildP.one); (rfl); (rfl); (first | rfl | assumption); (repeat (first | exact SetL.z | apply SetL.s))))) rfl (fun b => ?_)))))))
 refine Tr.cells (cs' := [.slice B (row.take need.length).length k]) (by repeat (first | exact Upd.here | apply Upd.there)) rfl ?_
 ((refine Tr.step rfl ?_))
 refine Exec.append (A := A6) (news := [.slice B (row.take need.length).length k]) rfl rfl (tysOk.get rfl) rfl (tysOk.get rfl) rfl rfl rfl rfl (by repeat (first | exact Del.here | apply Del.there)) (Src.box (by repeat (first | exact Has.here | apply Has.there))) rfl (by intro u hu; simp at hu; subst hu; rfl) (by omega) (by omega) rfl (fun A7 c7 hc7 => ?_)
 have hel2 : Elems 1 RRowI M2 (cells ++ [.slice B (row.take need.length).length k]) (allocOf (amt rws) need.length (i + 1)) := by
  rw [allocOf_succ, ← htk]
  exact (hel.mono RRowI.mono hm2).append (Elems.one rfl ⟨B, k, rfl, hI⟩)
 refine rQ ?_
 refine gvQ (r := box _ 32 [_]) ?_

 refine Tr.again (i + 1, rws, tk, gv, M2, A7, c7, cells ++ [.slice B (row.take need.length).length k]) ⟨by simp only; omega, hsh, ltk, lgv, hfl, hlex.row (Nat.le_refl _), hM.trans hm2, hc7, hel2⟩ (by simp only; omega) hsQ
end Go.Proofs.Ytcadnjmcmegpjaa

/-
 Promises: require, must, twins, amounts and possible.
 Conditions: none.
-/
namespace Go.Proofs.Ytcadnjmcmegpjaa
open Go Bf
attribute [local irreducible] Tr Exec Stab HasTy Go.Addr.add IntKind.wrap
def RBp (M : Mem) (v : Value) (k : Bp) : Prop := ∃ As cs Ar cr Af cf Ad cd, v = .agg #[.int .i64 k.known, .slice As k.sups.length cs, .slice Ar k.reqs.length cr, .slice Af k.fits.length cf, .slice Ad k.rds.length cd] ∧
 SlOf 6 RSpC M (.slice As k.sups.length cs) k.sups ∧ SlOf 6 RRqC M (.slice Ar k.reqs.length cr) k.reqs ∧ Fits2 M (.slice Af k.fits.length cf) k.fits ∧ SlOf 5 RRd M (.slice Ad k.rds.length cd) k.rds
set_option maxRecDepth 20000 in
theorem RBp.mono {M M' : Mem} {v : Value} {k : Bp} (h : RBp M v k) (hm : Mem.le M M') : RBp M' v k := by
 obtain ⟨As, cs, Ar, cr, Af, cf, Ad, cd, rfl, h1, h2, h3, h4⟩ := h
 exact ⟨As, cs, Ar, cr, Af, cf, Ad, cd, rfl, h1.mono RSpC.mono hm, h2.mono RRqC.mono hm, h3.mono RRowB.mono hm, h4.mono RRd.mono hm⟩
set_option maxRecDepth 20000 in
theorem RBp.zero (M : Mem) : RBp M (.agg #[.int .i64 0, .slice none 0 0, .slice none 0 0, .slice none 0 0, .slice none 0 0]) zP := ⟨none, 0, none, 0, none, 0, none, 0, rfl, SlOf.nil _ _ _, SlOf.nil _ _ _, SlOf.nil _ _ _, SlOf.nil _ _ _⟩
def prCh (e : Int) : List PanicEntry := [{ v := .iface 48 (.int .i64 e), recovered := false }]
set_option maxRecDepth 20000 in
theorem prequire_y (M : Mem) : Fn0 Try.prog 48 [.bool true] M (fun _ M' => M = M') := by
 refine Fn.intro Try.func48 rfl rfl Try.ntmps48 rfl fun E F => ?_
 (refine rQ ?_)
 (refine Tr.done (by first | exact .inl rfl | exact .inr rfl) rfl (by repeat (exact RVs.nil)) (by first | exact Mem.le.refl _ | assumption) (by exact ⟨[], rfl⟩) ⟨rfl, ?_⟩)
 rfl
set_option maxRecDepth 20000 in
theorem prequire_n (M : Mem) : FnP Try.prog 48 [.bool false] M [] (fun _ _ _ => False) (fun ch M' A' => ch = prCh 310 ∧ A' = [] ∧ M = M') := by
 refine FnP.intro Try.func48 rfl rfl Try.ntmps48 rfl fun E F => ?_
 (repeat (first | ((with_reducible refine Tr.step rfl ?_); (first | (refine xmQ ?_) | ((with_reducible refine Knd.makeInterface ?_); (refine Exec.stab rfl (Stab.makeIface rfl (by kernel_rfl)) rfl ?_)) | ((with_reducible refine Knd.panic ?_); (refine Exec.panic rfl ?_)) | ((with_reducible refine Knd.unOp ?_); (refine Exec.stab rfl (Stab.not rfl) rfl ?_)))) | (with_reducible first | apply Tr.next | apply Tr.seq | apply Tr.region | apply Tr.nil) | (refine Tr.cond_bt rfl (by first | (with_reducible rfl) | (with_reducible exact Bool.not_false)) ?_)))
 exact Tr.doneP (A' := []) (Mem.le.refl _) (by repeat (first | exact DropL.refl | apply DropL.skip)) ⟨rfl, rfl, rfl⟩
set_option maxRecDepth 20000 in
theorem must_y (M : Mem) : Fn0 Try.prog 54 [.int .i64 0] M (fun _ M' => M = M') := by
 refine Fn.intro Try.func54 rfl rfl Try.ntmps54 rfl fun E F => ?_
 (refine rQ ?_)
 (refine Tr.done (by first | exact .inl rfl | exact .inr rfl) rfl (by repeat (exact RVs.nil)) (by first | exact Mem.le.refl _ | assumption) (by exact ⟨[], rfl⟩) ⟨rfl, ?_⟩)
 rfl
set_option maxRecDepth 20000 in
theorem must_n (M : Mem) (e : Int) (he : e ≠ 0) : FnP Try.prog 54 [.int .i64 e] M [] (fun _ _ _ => False) (fun ch M' A' => ch = prCh e ∧ A' = [] ∧ M = M') := by
 refine FnP.intro Try.func54 rfl rfl Try.ntmps54 rfl fun E F => ?_
 (repeat (first | ((with_reducible refine Tr.step rfl ?_); (first | (refine xmQ ?_) | ((with_reducible refine Knd.makeInterface ?_); (refine Exec.stab rfl (Stab.makeIface rfl (by kernel_rfl)) rfl ?_)) | ((with_reducible refine Knd.panic ?_); (refine Exec.panic rfl ?_)) | (refine xiQ ?_))) | (with_reducible first | apply Tr.next | apply Tr.seq | apply Tr.region | apply Tr.nil) | (refine Tr.cond_t rfl (by (with_reducible assumption)) ?_)))
 exact Tr.doneP (A' := []) (Mem.le.refl _) (by repeat (first | exact DropL.refl | apply DropL.skip)) ⟨rfl, rfl, rfl⟩
def Nums (es : List MapEntry) (l : List Int) : Prop := IntKeys es ∧ (∀ k, (valE k es).isSome = true ↔ k ∈ l) ∧ es.length ≤ l.length ∧ (es.length = l.length ↔ l.Nodup)
set_option maxRecDepth 20000 in
theorem Nums.nil : Nums [] [] := ⟨IntKeys.nil, fun k => by simp [valE, lookE], by simp, by simp⟩
set_option maxRecDepth 20000 in
theorem Nums.add {es : List MapEntry} {l : List Int} (h : Nums es l) (x : Int) (v : Value) (cl : Nat) : Nums (updE x v es cl).1 (l ++ [x]) := by
 obtain ⟨h1, h2, h3, h4⟩ := h
 refine ⟨updE_keys h1, fun k => ?_, ?_, ?_⟩
 ·rw [updE_val]
  by_cases e : k = x
  ·subst e; simp
  ·simp [e, h2 k]
 ·rw [updE_len]
  split <;> simp <;> omega
 ·rw [updE_len]
  by_cases hx : x ∈ l
  ·rw [if_pos ((h2 x).2 hx)]
   constructor
   ·intro h; simp at h; omega
   ·intro h
    rw [List.nodup_append] at h
    exact absurd rfl (h.2.2 x hx x (by simp))
  ·rw [if_neg (fun h => hx ((h2 x).1 h))]
   constructor
   ·intro h
    have h5 := h4.1 (by simpa using h)
    rw [List.nodup_append]
    exact ⟨h5, by simp, fun a ha b hb => by simp at hb; subst hb; exact fun e => hx (e ▸ ha)⟩
   ·intro h
    have := h4.2 (List.nodup_append.1 h).1
    simp [this]
set_option maxRecDepth 20000 in
theorem nums_take {α : Type} (f : α → Int) {l : List α} {i : Nat} {x : α} (h : l[i]? = some x) : (l.take (i + 1)).map f = (l.take i).map f ++ [f x] := by
 rw [List.take_add_one, h, List.map_append]; rfl
set_option maxRecDepth 20000 in
set_option maxHeartbeats 4000000 in
theorem twins_fn (M : Mem) (A : Option Addr) (c : Nat) (l : List Sp) (hl : SlOf 6 RSpC M (.slice A l.length c) l) : Fn0 Try.prog 17 [.slice A l.length c] M (fun r M' => (∃ b : Bool, r = .bool b ∧ (b = false ↔ (l.map (·.no)).Nodup)) ∧ M = M') := by
 have hll := hl.len_le
 refine Fn.intro Try.func17 rfl rfl Try.ntmps17 rfl fun E F => ?_
 (repeat (first | ((with_reducible refine Tr.step rfl ?_); (first | (refine xmQ ?_) | (refine xaQ ?_) | (refine xnQ ?_) | ((with_reducible refine Knd.makeMap ?_); (refine Exec.makeMap rfl (fun b => ?_))))) | (with_reducible first | apply Tr.next | apply Tr.seq | apply Tr.region | apply Tr.nil | apply Tr.block)))
 generalize b = mb
 refine Tr.loop (α := Nat × List MapEntry × Nat) (fun y => ⟨22, [(9, .int .i64 (y.1 : Int)), (8, .int .i64 (l.length : Int)), (7, .slice A l.length c), (3, .map (some mb)), (0, .slice A l.length c)], [], M, mapR mb y.2.1 y.2.2 :: F⟩)
  (fun y => y.1 ≤ l.length ∧ Nums y.2.1 ((l.take y.1).map (·.no))) (fun y => l.length - y.1) (0, [], 0) ⟨Nat.zero_le _, Nums.nil⟩ hsQ (fun y hy => ?_)
 obtain ⟨i, es, cl⟩ := y
 obtain ⟨hi, hn⟩ := hy
 simp only at hi hn
 dsimp only
 by_cases hlt : i < l.length
 ·obtain ⟨x, hx⟩ := get_of_lt hlt
  obtain ⟨hA, ch, hat, rfl⟩ := hl.elem hx
  simp only [spC] at hat
  have hkeys := hn.1
  (repeat (first | ((with_reducible refine Tr.step rfl ?_); (first | (refine xmQ ?_) | ((with_reducible refine Knd.load ?_); (first | (refine xlQ ?_) | (refine Exec.stab rfl (Stab.loadMA rfl (tysOk.get rfl) rfl (by assumption) (by first | rfl | assumption)) rfl ?_))) | (refine xfQ ?_) | ((with_reducible refine Knd.binOp ?_); (first | (refine xdQ ?_) | (refine xiQ ?_))) | (refine xWQ ?_) | ((with_reducible refine Knd.alloc ?_); (refine Exec.alloc (tysOk.get rfl) rfl rfl (fun b => ?_))) | ((with_reducible refine Knd.mapUpdate ?_); (refine Exec.mapUpdate rfl rfl rfl (tysOk.get rfl) rfl (tysOk.get rfl) rfl (by assumption) (by repeat (first | exact Upd.here | apply Upd.there)) ?_)) | (refine xxQ ?_))) | (with_reducible first | apply Tr.next | apply Tr.seq | apply Tr.region | apply Tr.nil | apply Tr.skip | apply Tr.block | apply Tr.in_normal) | (refine Tr.cond_t rfl (by first | (with_reducible assumption) | omega) ?_)))
  refine Tr.again (i + 1, (updE x.no (.bool true) es cl).1, (updE x.no (.bool true) es cl).2) ⟨by simp only; omega, ?_⟩ (by simp only; omega) hsQ
  simp only
  rw [nums_take (·.no) hx]
  exact hn.add _ _ _
 ·have ei : i = l.length := by omega
  subst ei
  rw [List.take_length] at hn
  obtain ⟨-, -, n1, n2⟩ := hn
  rw [List.length_map] at n1 n2
  by_cases hb : es.length < l.length
  ·(repeat (first | ((with_reducible refine Tr.step rfl ?_); (first | (refine xmQ ?_) | (refine xaQ ?_) | ((with_reducible refine Knd.len ?_); (first | (refine xnQ ?_) | (refine Exec.stab rfl (Stab.lenMap rfl (tysOk.get rfl) rfl (by repeat (first | exact Has.here | apply Has.there))) rfl ?_))) | (refine xiQ ?_))) | (with_reducible first | apply Tr.next | apply Tr.seq | apply Tr.region | apply Tr.nil | apply Tr.exit | apply Tr.ret | apply Tr.then_exit) | ((with_reducible refine Tr.in_exit ?_ ?_); (exact rfl)) | (refine Tr.cond_f rfl (by first | (with_reducible assumption) | omega) ?_)))
   (refine dnQ (hL := by exact ⟨[_], rfl⟩) ⟨rfl, ?_⟩)
   exact ⟨⟨true, by rw [decide_eq_true (by omega)]; rfl, by simp only [Bool.true_eq_false, false_iff, ← n2]; omega⟩, rfl⟩
  ·(repeat (first | ((with_reducible refine Tr.step rfl ?_); (first | (refine xmQ ?_) | (refine xaQ ?_) | ((with_reducible refine Knd.len ?_); (first | (refine xnQ ?_) | (refine Exec.stab rfl (Stab.lenMap rfl (tysOk.get rfl) rfl (by repeat (first | exact Has.here | apply Has.there))) rfl ?_))) | (refine xiQ ?_))) | (with_reducible first | apply Tr.next | apply Tr.seq | apply Tr.region | apply Tr.nil | apply Tr.exit | apply Tr.ret | apply Tr.then_exit) | ((with_reducible refine Tr.in_exit ?_ ?_); (exact rfl)) | (refine Tr.cond_f rfl (by first | (with_reducible assumption) | omega) ?_)))
   (refine dnQ (hL := by exact ⟨[_], rfl⟩) ⟨rfl, ?_⟩)
   exact ⟨⟨false, by rw [decide_eq_false (by omega)]; rfl, by simp only [true_iff, ← n2]; omega⟩, rfl⟩
set_option maxRecDepth 20000 in
set_option maxHeartbeats 8000000 in
theorem amounts_fn (M : Mem) (k : Bp) (As Ar Af Ad : Option Addr) (cs cr cf cd : Nat) (h1 : SlOf 6 RSpC M (.slice As k.sups.length cs) k.sups) (h2 : SlOf 6 RRqC M (.slice Ar k.reqs.length cr) k.reqs) (_ : Fits2 M (.slice Af k.fits.length cf) k.fits) (_ : SlOf 5 RRd M (.slice Ad k.rds.length cd) k.rds) (hs64 : k.sups.length ≤ 1000000) (hr64 : k.reqs.length ≤ 1000000) :
  Fn0 Try.prog 55 [.agg #[.int .i64 k.known, .slice As k.sups.length cs, .slice Ar k.reqs.length cr, .slice Af k.fits.length cf, .slice Ad k.rds.length cd]] M (fun r M' => ∃ A1 c1 A2 c2, r = .tuple #[.slice A1 (amS k.sups).length c1, .slice A2 (amR k.reqs).length c2] ∧ Ints M' (.slice A1 (amS k.sups).length c1) (amS k.sups) ∧ Ints M' (.slice A2 (amR k.reqs).length c2) (amR k.reqs)) := by
 refine Fn.intro Try.func55 rfl rfl Try.ntmps55 rfl fun E F => ?_
 (repeat (first | ((with_reducible refine Tr.step rfl ?_); (first | (refine xmQ ?_) | (refine xaQ ?_) | (refine xlQ ?_) | (refine xfQ ?_) | (refine xnQ ?_) | ((with_reducible refine Knd.box ?_); (refine Exec.box rfl rfl (fun b => ?_))))) | (with_reducible first | apply Tr.next | apply Tr.seq | apply Tr.region | apply Tr.nil | apply Tr.block)))
 generalize b = b1
 refine Tr.own_nil 3 1 ?_
 refine Tr.loop (α := Nat × Option Addr × Nat) (fun y => ⟨36, [(11, .int .i64 (y.1 : Int)), (10, .int .i64 (k.sups.length : Int)), (9, .slice As k.sups.length cs), (2, .slice y.2.1 y.1 y.2.2), (3, .slice none 0 0), (1, .pointer (some ⟨b1, 0, none⟩))], [], M, ownS 3 1 y.2.1 y.1 y.2.2 (intV ((k.sups.take y.1).map (·.amount))) :: box b1 47 [.int .i64 k.known, .slice As k.sups.length cs, .slice Ar k.reqs.length cr, .slice Af k.fits.length cf, .slice Ad k.rds.length cd] :: F⟩)
  (fun y => y.1 ≤ k.sups.length ∧ y.2.2 ≤ 9223372036854775807) (fun y => k.sups.length - y.1) (0, none, 0) ⟨Nat.zero_le _, by simp⟩ hsQ (fun y hy => ?_)
 obtain ⟨i, A1, c1⟩ := y
 obtain ⟨hi, hc1⟩ := hy
 simp only at hi hc1
 dsimp only
 by_cases hlt : i < k.sups.length
 ·obtain ⟨y, hy⟩ := get_of_lt hlt
  obtain ⟨hA, ch, hat, rfl⟩ := h1.elem hy
  simp only [spC] at hat
  have e1 := nums_take (·.amount) hy
  (repeat (first | ((with_reducible refine Tr.step rfl ?_); (first | (refine xmQ ?_) | ((with_reducible refine Knd.load ?_); (first | (refine xlQ ?_) | (refine Exec.stab rfl (Stab.loadMA rfl (tysOk.get rfl) rfl (by assumption) (by first | rfl | assumption)) rfl ?_))) | (refine xfQ ?_) | (refine xiQ ?_) | (refine xWQ ?_) | ((with_reducible refine Knd.alloc ?_); (refine Exec.alloc (tysOk.get rfl) rfl rfl (fun b => ?_))) | (refine xxQ ?_) | ((with_reducible refine Knd.buildSlice ?_); (refine Exec.buildSlice (tysOk.get rfl) rfl (tysOk.get rfl) rfl rfl rfl rfl rfl (by repeat (first | exact BuildP.nil | ((apply BuildP.one); (rfl); (rfl); (first | rfl | assumption); (repeat (first | exact SetL.z | apply SetL.s))))) rfl (fun b => ?_))))) | (with_reducible first | apply Tr.next | apply Tr.seq | apply Tr.region | apply Tr.nil | apply Tr.skip | apply Tr.block) | (refine Tr.cond_t rfl (by first | (with_reducible assumption) | omega) ?_)))
  ((refine Tr.step rfl ?_))
  refine Exec.append (news := [.int .i64 y.amount]) rfl rfl (tysOk.get rfl) rfl (tysOk.get rfl) rfl rfl rfl rfl (by repeat (first | exact Del.here | apply Del.there)) (Src.box (by repeat (first | exact Has.here | apply Has.there))) rfl (by intro u hu; simp at hu; subst hu; rfl) (by omega) (by omega) rfl (fun A3 c3 hc3 => ?_)
  refine gvQ (r := box b 3 _) ?_
  rw [show intV ((k.sups.take i).map (·.amount)) ++ [Value.int .i64 y.amount] = intV ((k.sups.take (i + 1)).map (·.amount)) by rw [e1, intV_append]; rfl]
  (refine rQ ?_)
  refine gvQ (r := box _ 72 _) ?_
  exact Tr.again (i + 1, A3, c3) ⟨by simp only; omega, hc3⟩ (by simp only; omega) hsQ
 have ei : i = k.sups.length := by omega
 subst ei
 rw [List.take_length]
 (refine rQ ?_)
 refine Tr.own_nil 3 1 ?_
 refine Tr.loop (α := Nat × Option Addr × Nat) (fun y => ⟨36, [(24, .int .i64 (y.1 : Int)), (23, .int .i64 (k.reqs.length : Int)), (22, .slice Ar k.reqs.length cr), (3, .slice y.2.1 y.1 y.2.2), (2, .slice A1 k.sups.length c1), (1, .pointer (some ⟨b1, 0, none⟩))], [], M, ownS 3 1 y.2.1 y.1 y.2.2 (intV ((k.reqs.take y.1).map (·.amount))) :: ownS 3 1 A1 k.sups.length c1 (intV (k.sups.map (·.amount))) :: box b1 47 [.int .i64 k.known, .slice As k.sups.length cs, .slice Ar k.reqs.length cr, .slice Af k.fits.length cf, .slice Ad k.rds.length cd] :: F⟩)
  (fun y => y.1 ≤ k.reqs.length ∧ y.2.2 ≤ 9223372036854775807) (fun y => k.reqs.length - y.1) (0, none, 0) ⟨Nat.zero_le _, by simp⟩ hsQ (fun y hy => ?_)
 obtain ⟨i, A2, c2⟩ := y
 obtain ⟨hi, hc2⟩ := hy
 simp only at hi hc2
 dsimp only
 by_cases hlt : i < k.reqs.length
 ·obtain ⟨y, hy⟩ := get_of_lt hlt
  obtain ⟨hA, ch, hat, rfl⟩ := h2.elem hy
  simp only [rqC] at hat
  have e1 := nums_take (·.amount) hy
  (repeat (first | ((with_reducible refine Tr.step rfl ?_); (first | (refine xmQ ?_) | ((with_reducible refine Knd.load ?_); (first | (refine xlQ ?_) | (refine Exec.stab rfl (Stab.loadMA rfl (tysOk.get rfl) rfl (by assumption) (by first | rfl | assumption)) rfl ?_))) | (refine xfQ ?_) | (refine xiQ ?_) | (refine xWQ ?_) | ((with_reducible refine Knd.alloc ?_); (refine Exec.alloc (tysOk.get rfl) rfl rfl (fun b => ?_))) | (refine xxQ ?_) | ((with_reducible refine Knd.buildSlice ?_); (refine Exec.buildSlice (tysOk.get rfl) rfl (tysOk.get rfl) rfl rfl rfl rfl rfl (by repeat (first | exact BuildP.nil | ((apply BuildP.one); (rfl); (rfl); (first | rfl | assumption); (repeat (first | exact SetL.z | apply SetL.s))))) rfl (fun b => ?_))))) | (with_reducible first | apply Tr.next | apply Tr.seq | apply Tr.region | apply Tr.nil | apply Tr.skip | apply Tr.block) | (refine Tr.cond_t rfl (by first | (with_reducible assumption) | omega) ?_)))
  ((refine Tr.step rfl ?_))
  refine Exec.append (news := [.int .i64 y.amount]) rfl rfl (tysOk.get rfl) rfl (tysOk.get rfl) rfl rfl rfl rfl (by repeat (first | exact Del.here | apply Del.there)) (Src.box (by repeat (first | exact Has.here | apply Has.there))) rfl (by intro u hu; simp at hu; subst hu; rfl) (by omega) (by omega) rfl (fun A3 c3 hc3 => ?_)
  refine gvQ (r := box b 3 _) ?_
  rw [show intV ((k.reqs.take i).map (·.amount)) ++ [Value.int .i64 y.amount] = intV ((k.reqs.take (i + 1)).map (·.amount)) by rw [e1, intV_append]; rfl]
  (refine rQ ?_)
  refine gvQ (r := box _ 52 _) ?_
  exact Tr.again (i + 1, A3, c3) ⟨by simp only; omega, hc3⟩ (by simp only; omega) hsQ
 have ei : i = k.reqs.length := by omega
 subst ei
 rw [List.take_length]
 refine pbQ (r := ownS 3 1 A2 _ _ _) (fun M2 hm2 hok => ?_)
 refine pbQ (r := ownS 3 1 A1 _ _ _) (fun M3 hm3 hok2 => ?_)
 have hI1 : Ints M3 (.slice A1 (amS k.sups).length c1) (amS k.sups) := Ints.ofOwn hok2 (by simp [amS]) hc1
 have hI2 : Ints M3 (.slice A2 (amR k.reqs).length c2) (amR k.reqs) := (Ints.ofOwn hok (by simp) hc2).mono RI.mono hm3
 have hmm := hm2.trans hm3
 rw [show k.sups.length = (amS k.sups).length by simp [amS], show k.reqs.length = (amR k.reqs).length by simp [amR]]
 (refine rQ ?_)
 (refine dnQ (hL := by exact ⟨[_], rfl⟩) ⟨rfl, ?_⟩)
 exact ⟨_, _, _, _, rfl, hI1, hI2⟩
set_option maxRecDepth 20000 in
theorem sum_take {l : List Int} {i : Nat} {x : Int} (h : l[i]? = some x) : (l.take (i + 1)).sum = (l.take i).sum + x := by
 rw [List.take_add_one, h, Option.toList_some, List.sum_append]
 simp
set_option maxRecDepth 20000 in
theorem sum_bound : ∀ {l : List Int} {n : Nat}, (∀ x ∈ l, 0 ≤ x ∧ x ≤ 1048576) → l.length ≤ n → 0 ≤ l.sum ∧ l.sum ≤ 1048576 * (n : Int)
 | [], n, _, _ => by simp; omega
 | x :: l, n, h, hn => by
  obtain ⟨n, rfl⟩ : ∃ m, n = m + 1 := ⟨n - 1, by simp at hn; omega⟩
  have h1 := sum_bound (l := l) (n := n) (fun y hy => h y (by simp [hy])) (by simpa using hn)
  have h2 := h x (by simp)
  rw [List.sum_cons]
  omega
set_option maxRecDepth 20000 in
set_option maxHeartbeats 8000000 in
theorem bpossible_fn0 (M : Mem) (k : Bp) (As Ar Af Ad : Option Addr) (cs cr cf cd : Nat) (h1 : SlOf 6 RSpC M (.slice As k.sups.length cs) k.sups) (h2 : SlOf 6 RRqC M (.slice Ar k.reqs.length cr) k.reqs) (h3 : Fits2 M (.slice Af k.fits.length cf) k.fits) (h4 : SlOf 5 RRd M (.slice Ad k.rds.length cd) k.rds) (hv : Vld k.fits (amS k.sups) (amR k.reqs)) :
  Fn0 Try.prog 51 [.agg #[.int .i64 k.known, .slice As k.sups.length cs, .slice Ar k.reqs.length cr, .slice Af k.fits.length cf, .slice Ad k.rds.length cd]] M (fun r _ => ∃ b : Bool, r = .bool b ∧ (b = true ↔ Feas (pbB k))) := by
 have v1 := hv.ls
 have v2 := hv.ln
 simp only [amS, amR, List.length_map] at v1 v2
 refine Fn.intro Try.func51 rfl rfl Try.ntmps51 rfl fun E F => ?_
 (repeat (first | ((with_reducible refine Tr.step rfl ?_); (first | (refine xaQ ?_) | (refine xwQ ?_) | ((with_reducible refine Knd.box ?_); (refine Exec.box rfl rfl (fun b => ?_))))) | (with_reducible first | apply Tr.next | apply Tr.seq | apply Tr.region | apply Tr.nil)))
 ((refine Tr.step rfl ?_)); refine Exec.call0 rfl (amounts_fn M k As Ar Af Ad cs cr cf cd h1 h2 h3 h4 (by omega) (by omega)) rfl ?_
 rintro _ M1 hm1 ⟨A1, c1, A2, c2, rfl, hI1, hI2⟩
 (refine rQ ?_)
 generalize b = b1
 refine Tr.loop (α := Nat) (fun i => ⟨40, [(17, .int .i64 (i : Int)), (16, .int .i64 ((amR k.reqs).length : Int)), (15, .slice A2 (amR k.reqs).length c2), (5, .int .i64 ((amR k.reqs).take i).sum), (3, .slice A1 (amS k.sups).length c1), (4, .slice A2 (amR k.reqs).length c2), (1, .pointer (some ⟨b1, 0, none⟩))], [], M1, box b1 47 [.int .i64 k.known, .slice As k.sups.length cs, .slice Ar k.reqs.length cr, .slice Af k.fits.length cf, .slice Ad k.rds.length cd] :: F⟩)
  (fun i => i ≤ (amR k.reqs).length) (fun i => (amR k.reqs).length - i) 0 (Nat.zero_le _) hsQ (fun i hi => ?_)
 have v3 := hv.ln
 by_cases hlt : i < (amR k.reqs).length
 ·obtain ⟨x, hx⟩ := get_of_lt hlt
  obtain ⟨hA, hat⟩ := hI2.at hx
  have e := sum_take hx
  have b1 := sum_bound (l := (amR k.reqs).take i) (n := 64) (fun y hy => hv.rn y (List.mem_of_mem_take hy)) (by simp; omega)
  have b2 := hv.rn x (List.mem_of_getElem? hx)
  (refine rQ ?_)
  rw [← e]
  exact Tr.again (i + 1) (by omega) (by omega) hsQ
 have ei : i = (amR k.reqs).length := by omega
 subst ei
 rw [List.take_length]
 have rs : I64s (amS k.sups) := fun x hx => by have := hv.rs x hx; omega
 have rn : I64s (amR k.reqs) := fun x hx => by have := hv.rn x hx; omega
 (refine rQ ?_)
 ((refine Tr.step rfl ?_)); refine Exec.call0 rfl (most2_fn M1 Af A1 A2 cf c1 c2 k.fits (amS k.sups) (amR k.reqs) (h3.mono RRowB.mono hm1) hI1 hI2 rs rn) rfl ?_
 rintro _ _ _ ⟨⟨hbad, -⟩ | ⟨-, L, rfl, hL⟩, rfl⟩
 ·rw [vld_iff.2 hv] at hbad
  cases hbad
 have hz := hL.zero hv.sup0 hv.need0
 by_cases h0 : (amR k.reqs).sum - L = (amR k.reqs).sum
 ·(refine rQ ?_)
  (refine dnQ (hL := by exact ⟨[_], rfl⟩) ⟨rfl, ?_⟩)
  exact ⟨true, by rw [decide_eq_true h0]; rfl, ⟨fun _ => hz.1 (by omega), fun _ => rfl⟩⟩
 ·(refine rQ ?_)
  (refine dnQ (hL := by exact ⟨[_], rfl⟩) ⟨rfl, ?_⟩)
  exact ⟨false, by rw [decide_eq_false h0]; rfl, ⟨fun h => (by cases h), fun h => absurd (by rw [hz.2 h]; omega) h0⟩⟩
set_option maxRecDepth 20000 in
theorem bpossible_fn (M : Mem) (k : Bp) (As Ar Af Ad : Option Addr) (cs cr cf cd : Nat) (h1 : SlOf 6 RSpC M (.slice As k.sups.length cs) k.sups) (h2 : SlOf 6 RRqC M (.slice Ar k.reqs.length cr) k.reqs) (h3 : Fits2 M (.slice Af k.fits.length cf) k.fits) (h4 : SlOf 5 RRd M (.slice Ad k.rds.length cd) k.rds) (hv : Vld k.fits (amS k.sups) (amR k.reqs)) :
  Fn0 Try.prog 51 [.agg #[.int .i64 k.known, .slice As k.sups.length cs, .slice Ar k.reqs.length cr, .slice Af k.fits.length cf, .slice Ad k.rds.length cd]] M (fun r M' => (∃ b : Bool, r = .bool b ∧ (b = true ↔ Feas (pbB k))) ∧ M = M') :=
 Fn.mono (Fn.forget (R := fun r A' => A' = [] ∧ ∃ b : Bool, r = .bool b ∧ (b = true ↔ Feas (pbB k))) (bpossible_fn0 M k As Ar Af Ad cs cr cf cd h1 h2 h3 h4 hv)) fun _ _ _ _ ⟨⟨a, b⟩, c⟩ => ⟨a, b, c⟩
end Go.Proofs.Ytcadnjmcmegpjaa

/-
 Promises: maker and check.
 Conditions: none.
-/
namespace Go.Proofs.Ytcadnjmcmegpjaa
open Go Bf
attribute [local irreducible] Tr Exec Stab HasTy Go.Addr.add IntKind.wrap
set_option maxRecDepth 20000 in
theorem maker_fn (M : Mem) (ws : List Value) (k : Bp) (As Ar Af Ad : Option Addr) (cs cr cf cd : Nat) :
  Bf.Fn Try.prog 16 [.agg ws.toArray, .agg #[.int .i64 k.known, .slice As k.sups.length cs, .slice Ar k.reqs.length cr, .slice Af k.fits.length cf, .slice Ad k.rds.length cd]] M [] (fun v M' A' => ∃ b2 b3, v = .func (.func 43) #[] #[.pointer (some ⟨b2, 0, none⟩), .pointer (some ⟨b3, 0, none⟩)] ∧ M = M' ∧ A' = [box b3 47 [.int .i64 k.known, .slice As k.sups.length cs, .slice Ar k.reqs.length cr, .slice Af k.fits.length cf, .slice Ad k.rds.length cd], box b2 38 ws]) := by
 refine Fn.intro Try.func16 rfl rfl Try.ntmps16 rfl fun E F => ?_
 (repeat (first | ((with_reducible refine Tr.step rfl ?_); (first | (refine xaQ ?_) | ((with_reducible refine Knd.makeFunc ?_); (refine Exec.stab rfl (Stab.makeFunc rfl rfl) rfl ?_)) | ((with_reducible refine Knd.box ?_); (refine Exec.box rfl rfl (fun b => ?_))))) | (with_reducible first | apply Tr.next | apply Tr.seq | apply Tr.region | apply Tr.nil | apply Tr.ret)))
 refine Tr.doneA (A' := [box _ 47 [.int .i64 k.known, .slice As k.sups.length cs, .slice Ar k.reqs.length cr, .slice Af k.fits.length cf, .slice Ad k.rds.length cd], box _ 38 ws]) (by first | exact .inl rfl | exact .inr rfl) rfl (by repeat (first | exact RVs.nil | (apply RVs.cons; (exact RV.tmp rfl)))) (Mem.le.refl _) ⟨fun _ h => h, fun h => h⟩ ⟨_, _, rfl, rfl, rfl⟩
def MkR (w : Wd) (k : Bp) (r : List Rq) (v : Value) (M : Mem) : Prop :=
 (¬ okT k.sups r ∧ v = .tuple #[.agg #[.int .i64 0, .slice none 0 0, .slice none 0 0, .slice none 0 0, .slice none 0 0], .int .i64 290]) ∨ (okT k.sups r ∧ ∃ x, v = .tuple #[x, .int .i64 0] ∧ RBp M x (mkF w k r))
set_option maxHeartbeats 8000000 in
set_option maxRecDepth 20000 in
theorem maker1_fn (M : Mem) (ws : List Value) (w : Wd) (hw : RWd M ws w) (k : Bp) (As Ar Af Ad : Option Addr) (cs cr cf cd : Nat) (h1 : SlOf 6 RSpC M (.slice As k.sups.length cs) k.sups) (_ : SlOf 6 RRqC M (.slice Ar k.reqs.length cr) k.reqs) (_ : Fits2 M (.slice Af k.fits.length cf) k.fits) (_ : SlOf 5 RRd M (.slice Ad k.rds.length cd) k.rds) (b2 b3 : Nat) (Ax : Option Addr) (cx : Nat) (r : List Rq) (hr : SlOf 6 RRqC M (.slice Ax r.length cx) r) :
  Bf.Fn Try.prog 43 [.slice Ax r.length cx, .pointer (some ⟨b2, 0, none⟩), .pointer (some ⟨b3, 0, none⟩)] M [box b3 47 [.int .i64 k.known, .slice As k.sups.length cs, .slice Ar k.reqs.length cr, .slice Af k.fits.length cf, .slice Ad k.rds.length cd], box b2 38 ws] (fun v M' A' => A' = [box b3 47 [.int .i64 k.known, .slice As k.sups.length cs, .slice Ar k.reqs.length cr, .slice Af k.fits.length cf, .slice Ad k.rds.length cd], box b2 38 ws] ∧ MkR w k r v M') := by
 have h11 := hw.len
 refine Fn.intro Try.func43 rfl rfl Try.ntmps43 rfl fun E F => ?_
 (repeat (first | ((with_reducible refine Tr.step rfl ?_); (first | (refine xmQ ?_) | (refine xaQ ?_) | ((with_reducible refine Knd.load ?_); (first | (refine xlQ ?_) | (refine Exec.stab rfl (Stab.loadW rfl (tysOk.get rfl) rfl (by repeat (first | exact Has.here | apply Has.there)) (by assumption)) rfl ?_))) | (refine xfQ ?_) | ((with_reducible refine Knd.alloc ?_); (refine Exec.alloc (tysOk.get rfl) rfl rfl (fun b => ?_))))) | (with_reducible first | apply Tr.next | apply Tr.seq | apply Tr.region | apply Tr.nil)))
 generalize b = b4
 ((refine Tr.step rfl ?_)); refine Exec.call0 rfl (table_fn M ws w hw As Ax cs cx k.sups r k.known h1 hr) rfl ?_
 rintro _ M1 hm1 (⟨hno, rfl⟩ | ⟨hok, A5, c5, B5, k5, rfl, hf, hrd⟩)
 ·(repeat (first | ((with_reducible refine Tr.step rfl ?_); (first | (refine xmQ ?_) | (refine xaQ ?_) | (refine xiQ ?_) | (refine xWQ ?_) | ((with_reducible refine Knd.extract ?_); (refine Exec.stab rfl (Stab.extract rfl rfl) rfl ?_)) | ((with_reducible refine Knd.build ?_); (refine Exec.stab rfl (Stab.build tysOk rfl rfl rfl rfl (by repeat (exact BuildP.nil))) rfl ?_)))) | (with_reducible first | apply Tr.next | apply Tr.seq | apply Tr.region | apply Tr.nil | apply Tr.ret | apply Tr.then_ret) | (refine Tr.cond_t rfl (by first | (with_reducible assumption) | omega) ?_)))
  exact Tr.doneB (A' := [box b3 47 [.int .i64 k.known, .slice As k.sups.length cs, .slice Ar k.reqs.length cr, .slice Af k.fits.length cf, .slice Ad k.rds.length cd], box b2 38 ws]) [_] (by first | exact .inl rfl | exact .inr rfl) rfl (by repeat (first | exact RVs.nil | (apply RVs.cons; (first | exact RV.tmp rfl | exact RV.cellW (by rfl) (tysOk.get (by rfl)) (by rfl) (by repeat (first | exact Has.here | apply Has.there)) (by first | rfl | assumption))))) hm1 (List.Perm.refl _) ⟨rfl, .inl ⟨hno, rfl⟩⟩
 have l1 := hok.1.1
 have l2 := hok.1.2
 (repeat (first | ((with_reducible refine Tr.step rfl ?_); (first | (refine xmQ ?_) | (refine xaQ ?_) | (refine xlQ ?_) | (refine xfQ ?_) | (refine xiQ ?_) | (refine xWQ ?_) | ((with_reducible refine Knd.alloc ?_); (refine Exec.alloc (tysOk.get rfl) rfl rfl (fun b => ?_))) | ((with_reducible refine Knd.extract ?_); (refine Exec.stab rfl (Stab.extract rfl rfl) rfl ?_)) | ((with_reducible refine Knd.build ?_); (refine Exec.stab rfl (Stab.build tysOk rfl rfl rfl rfl (by repeat (first | exact BuildP.nil | ((apply BuildP.one); (rfl); (rfl); (first | rfl | assumption); (repeat (first | exact SetL.z | apply SetL.s)))))) rfl ?_)))) | (with_reducible first | apply Tr.next | apply Tr.seq | apply Tr.region | apply Tr.nil | apply Tr.skip) | (refine Tr.cond_f rfl (by (with_reducible exact (not_not_intro rfl))) ?_)))
 generalize b = b9
 ((refine Tr.step rfl ?_))
 refine Exec.call (A := []) rfl (cloneSp_fn M1 As cs k.sups (h1.mono RSpC.mono hm1) (by omega)) (List.Perm.refl _) rfl ?_
 rintro _ _ _ _ ⟨⟨B6, k6, rfl, hk6, rfl⟩, rfl⟩
 (refine rQ ?_)
 ((refine Tr.step rfl ?_))
 refine Exec.call (A := []) rfl (cloneRq_fn M1 Ax cx r (hr.mono RRqC.mono hm1) (by omega)) (List.Perm.refl _) rfl ?_
 rintro _ _ _ _ ⟨⟨B7, k7, rfl, hk7, rfl⟩, rfl⟩
 (refine rQ ?_)
 refine pbQ (r := ownS 52 6 B7 _ _ _) (fun M2 hm2 hok2 => ?_)
 refine pbQ (r := ownS 72 6 B6 _ _ _) (fun M3 hm3 hok3 => ?_)
 have g1 : SlOf 6 RSpC M3 (.slice B6 k.sups.length k6) k.sups := SlOf.ofOwn hok3 rfl hk6 (spC_elems _ _)
 have g2 : SlOf 6 RRqC M3 (.slice B7 r.length k7) r := (SlOf.ofOwn hok2 rfl hk7 (rqC_elems _ _)).mono RRqC.mono hm3
 have hm23 := hm2.trans hm3
 exact Tr.doneB (A' := [box b3 47 [.int .i64 k.known, .slice As k.sups.length cs, .slice Ar k.reqs.length cr, .slice Af k.fits.length cf, .slice Ad k.rds.length cd], box b2 38 ws]) [_, _] (by first | exact .inl rfl | exact .inr rfl) rfl (by repeat (first | exact RVs.nil | (apply RVs.cons; (first | exact RV.tmp rfl | exact RV.cellW (by rfl) (tysOk.get (by rfl)) (by rfl) (by repeat (first | exact Has.here | apply Has.there)) (by first | rfl | assumption))))) (hm1.trans hm23) (List.Perm.refl _) ⟨rfl, .inr ⟨hok, _, rfl, B6, k6, B7, k7, A5, c5, B5, k5, rfl, g1, g2, hf.mono RRowB.mono hm23, hrd.mono RRd.mono hm23⟩⟩
set_option maxHeartbeats 16000000 in
set_option maxRecDepth 20000 in
theorem check_fn (M : Mem) (ws : List Value) (w : Wd) (hw : RWd M ws w) (k : Bp) (As Ar Af Ad : Option Addr) (cs cr cf cd : Nat) (h1 : SlOf 6 RSpC M (.slice As k.sups.length cs) k.sups) (h2 : SlOf 6 RRqC M (.slice Ar k.reqs.length cr) k.reqs) (h3 : Fits2 M (.slice Af k.fits.length cf) k.fits) (h4 : SlOf 5 RRd M (.slice Ad k.rds.length cd) k.rds) (_ : cf ≤ 9223372036854775807) :
  FnP Try.prog 20 [.agg ws.toArray, .agg #[.int .i64 k.known, .slice As k.sups.length cs, .slice Ar k.reqs.length cr, .slice Af k.fits.length cf, .slice Ad k.rds.length cd]] M [] (fun _ _ A' => A' = [] ∧ okB w k) (fun ch _ A' => ch = prCh 310 ∧ A' = [] ∧ ¬ okB w k) := by
 have h11 := hw.len
 have hl1 := h1.len_le
 have hl2 := h2.len_le
 refine FnP.intro Try.func20 rfl rfl Try.ntmps20 rfl fun E F => ?_
 (repeat (first | ((with_reducible refine Tr.step rfl ?_); (first | (refine xmQ ?_) | (refine xaQ ?_) | (refine xlQ ?_) | (refine xfQ ?_) | (refine xnQ ?_) | ((with_reducible refine Knd.box ?_); (refine Exec.box rfl rfl (fun b => ?_))) | ((with_reducible refine Knd.makeMap ?_); (refine Exec.makeMap rfl (fun b => ?_))))) | (with_reducible first | apply Tr.next | apply Tr.seq | apply Tr.region | apply Tr.nil | apply Tr.block)))
 rename_i b2 b3
 generalize b = mb
 refine Tr.loop (α := Nat × List MapEntry × Nat) (fun y => ⟨62, [(13, .int .i64 (y.1 : Int)), (12, .int .i64 (k.reqs.length : Int)), (11, .slice Ar k.reqs.length cr), (4, .map (some mb)), (2, .pointer (some ⟨b2, 0, none⟩)), (3, .pointer (some ⟨b3, 0, none⟩))], [], M, mapR mb y.2.1 y.2.2 :: box b3 47 [.int .i64 k.known, .slice As k.sups.length cs, .slice Ar k.reqs.length cr, .slice Af k.fits.length cf, .slice Ad k.rds.length cd] :: box b2 38 ws :: ([] ++ F)⟩)
  (fun y => y.1 ≤ k.reqs.length ∧ Nums y.2.1 ((k.reqs.take y.1).map (·.no))) (fun y => k.reqs.length - y.1) (0, [], 0) ⟨Nat.zero_le _, Nums.nil⟩ hsQ (fun y hy => ?_)
 obtain ⟨i, es, cl⟩ := y
 obtain ⟨hi, hn⟩ := hy
 simp only at hi hn
 dsimp only
 by_cases hlt : i < k.reqs.length
 ·obtain ⟨x, hx⟩ := get_of_lt hlt
  obtain ⟨hA, ch, hat, rfl⟩ := h2.elem hx
  simp only [rqC] at hat
  have hkeys := hn.1
  (repeat (first | ((with_reducible refine Tr.step rfl ?_); (first | (refine xmQ ?_) | ((with_reducible refine Knd.load ?_); (first | (refine xlQ ?_) | (refine Exec.stab rfl (Stab.loadMA rfl (tysOk.get rfl) rfl (by assumption) (by first | rfl | assumption)) rfl ?_))) | (refine xfQ ?_) | ((with_reducible refine Knd.binOp ?_); (first | (refine xdQ ?_) | (refine xiQ ?_))) | (refine xWQ ?_) | ((with_reducible refine Knd.alloc ?_); (refine Exec.alloc (tysOk.get rfl) rfl rfl (fun b => ?_))) | ((with_reducible refine Knd.mapUpdate ?_); (refine Exec.mapUpdate rfl rfl rfl (tysOk.get rfl) rfl (tysOk.get rfl) rfl (by assumption) (by repeat (first | exact Upd.here | apply Upd.there)) ?_)) | (refine xxQ ?_))) | (with_reducible first | apply Tr.next | apply Tr.seq | apply Tr.region | apply Tr.nil | apply Tr.skip | apply Tr.block | apply Tr.in_normal) | (refine Tr.cond_t rfl (by first | (with_reducible assumption) | omega) ?_)))
  refine Tr.again (i + 1, (updE x.no (.bool true) es cl).1, (updE x.no (.bool true) es cl).2) ⟨by simp only; omega, ?_⟩ (by simp only; omega) hsQ
  simp only
  rw [nums_take (·.no) hx]
  exact hn.add _ _ _
 have ei : i = k.reqs.length := by omega
 subst ei
 rw [List.take_length] at hn
 obtain ⟨-, -, n1, n2⟩ := hn
 rw [List.length_map] at n1 n2
 by_cases hb : (es.length : Int) = (k.reqs.length : Int)
 rotate_left
 ·(repeat (first | ((with_reducible refine Tr.step rfl ?_); (first | (refine xmQ ?_) | (refine xlQ ?_) | (refine xfQ ?_) | ((with_reducible refine Knd.len ?_); (first | (refine xnQ ?_) | (refine Exec.stab rfl (Stab.lenMap rfl (tysOk.get rfl) rfl (by repeat (first | exact Has.here | apply Has.there))) rfl ?_))) | (refine xiQ ?_) | ((with_reducible refine Knd.pick ?_); (refine Exec.stab rfl (Stab.pick_fd rfl (by (with_reducible assumption)) rfl) rfl ?_)))) | (with_reducible first | apply Tr.next | apply Tr.seq | apply Tr.region | apply Tr.nil) | (refine Tr.guard_n rfl rfl rfl (by (with_reducible assumption)) rfl rfl ?_) | (with_reducible first | apply Tr.exit | apply Tr.then_exit) | ((with_reducible refine Tr.in_exit ?_ ?_); (exact rfl)) | (refine Tr.cond_f rfl (by first | (with_reducible assumption) | omega) ?_)))
  ((refine Tr.step rfl ?_))
  refine Exec.callP rfl (prequire_n M) (List.Perm.refl _) rfl (fun v M' A' hm hR => hR.elim) (fun ch M' A' hm hR => ?_)
  obtain ⟨rfl, rfl, rfl⟩ := hR
  (repeat ((with_reducible refine Tr.then_panic ?_)))
  exact Tr.doneP (A' := []) hm (by repeat (first | exact DropL.refl | apply DropL.skip)) ⟨rfl, rfl, fun h => hb (by have := n2.2 h.1.1; omega)⟩
 have hnr : (k.reqs.map (·.no)).Nodup := n2.1 (by omega)
 (repeat (first | ((with_reducible refine Tr.step rfl ?_); (first | (refine xmQ ?_) | (refine xlQ ?_) | (refine xfQ ?_) | ((with_reducible refine Knd.len ?_); (first | (refine xnQ ?_) | (refine Exec.stab rfl (Stab.lenMap rfl (tysOk.get rfl) rfl (by repeat (first | exact Has.here | apply Has.there))) rfl ?_))) | (refine xiQ ?_))) | (with_reducible first | apply Tr.next | apply Tr.seq | apply Tr.region | apply Tr.nil) | ((refine Tr.guard_y rfl rfl rfl (by (with_reducible assumption)) ?_); (first | (refine xlQ ?_) | (refine xfQ ?_))) | (with_reducible first | apply Tr.exit | apply Tr.then_exit) | ((with_reducible refine Tr.in_exit ?_ ?_); (exact rfl)) | (refine Tr.cond_f rfl (by first | (with_reducible assumption) | omega) ?_)))
 ((refine Tr.guard_y rfl rfl rfl (by (with_reducible assumption)) ?_)); refine Exec.call0 rfl (twins_fn M As cs k.sups h1) rfl ?_
 rintro _ _ _ ⟨⟨tw, rfl, htw⟩, rfl⟩
 cases tw with
 | true =>
  (refine rQ ?_)
  ((refine Tr.step rfl ?_))
  refine Exec.callP rfl (prequire_n M) (List.Perm.refl _) rfl (fun v M' A' hm hR => hR.elim) (fun ch M' A' hm hR => ?_)
  obtain ⟨rfl, rfl, rfl⟩ := hR
  (repeat ((with_reducible refine Tr.then_panic ?_)))
  exact Tr.doneP (A' := []) hm (by repeat (first | exact DropL.refl | apply DropL.skip)) ⟨rfl, rfl, fun h => by have := htw.2 h.1.2; cases this⟩
 | false =>
 have hns := htw.1 rfl
 (refine rQ ?_)
 ((refine Tr.step rfl ?_)); refine Exec.call0 rfl (prequire_y M) rfl ?_
 rintro _ _ _ rfl
 (repeat (first | (with_reducible first | apply Tr.next | apply Tr.seq | apply Tr.nil)))
 (((apply Tr.draw); (kernel_rfl)); (refine tkQ 0 (hB := by exact fun _ h => h) (s := by exact Stab.loadW rfl (tysOk.get rfl) rfl (by repeat (first | exact Has.here | apply Has.there)) (by assumption)) ?_); (refine tkQ 1 (s := by exact swQ) ?_); (refine tkQ 3 (s := by exact sfQ) ?_); (refine tkQ 4 (s := by exact slQ) ?_))
 ((refine TrM.start1 _ (by exact PA.alloc 9 rfl (tysOk.get rfl) rfl rfl) (by kernel_rfl) ?_); (refine TrM.eff 2 rfl (by kernel_rfl) (by exact .inl rfl) (by repeat (first | exact PendOk.nil | refine PendOk.cons rfl (by repeat (first | exact SubFr.nil | refine SubFr.cons rfl ?_)) ?_)) (by exact fun _ h => h) (by repeat (first | apply AppF.cons | exact AppF.nil)) (by repeat (first | apply AppF.cons | exact AppF.app)) (fun Y X => ?_)))
 refine Exec.call (A := []) rfl (maker_fn M ws k As Ar Af Ad cs cr cf cd) (List.Perm.refl _) rfl ?_
 rintro _ _ _ _ ⟨b5, b6, rfl, rfl, rfl⟩
 (refine ⟨_, _, (by repeat (first | apply App.cons | exact App.nil | exact App.app)), (by repeat (first | apply App.cons | exact App.nil | exact App.app)), rfl, (by first | exact Mem.le.refl _ | assumption), (by exact (Sub.mem (by repeat (first | exact Sub.refl | apply Sub.cons)))), ?_⟩)
 ((refine TrM.eff 5 rfl (by kernel_rfl) (by exact .inl rfl) (by repeat (first | exact PendOk.nil | refine PendOk.cons rfl (by repeat (first | exact SubFr.nil | refine SubFr.cons rfl ?_)) ?_)) (by exact (Sub.mem (by repeat (first | exact Sub.refl | apply Sub.cons)))) (by repeat (first | apply AppF.cons | exact AppF.nil)) (by repeat (first | apply AppF.cons | exact AppF.app)) (fun Y X => ?_)))
 refine Exec.callv (first := []) (cap := [.pointer (some ⟨b5, 0, none⟩), .pointer (some ⟨b6, 0, none⟩)]) (A := [box b6 47 [.int .i64 k.known, .slice As k.sups.length cs, .slice Ar k.reqs.length cr, .slice Af k.fits.length cf, .slice Ad k.rds.length cd], box b5 38 ws]) rfl rfl (maker1_fn M ws w hw k As Ar Af Ad cs cr cf cd h1 h2 h3 h4 b5 b6 Ar cr k.reqs h2) (List.Perm.refl _) rfl ?_
 rintro v M1 _ hm1 ⟨rfl, hmk⟩
 (refine ⟨_, _, (by repeat (first | apply App.cons | exact App.nil | exact App.app)), (by repeat (first | apply App.cons | exact App.nil | exact App.app)), rfl, (by first | exact Mem.le.refl _ | assumption), (by exact (Sub.mem (by repeat (first | exact Sub.refl | apply Sub.cons)))), ?_⟩)
 rcases hmk with ⟨hno, rfl⟩ | ⟨hok, x, rfl, As', cs', Ar', cr', Af', cf', Ad', cd', rfl, g1, g2, g3, g4⟩
 ·((refine TrM.take 6 (by kernel_rfl) rfl (by kernel_rfl) (by exact fun _ _ _ h => h) (by exact (Sub.mem (by repeat (first | exact Sub.refl | apply Sub.cons)))) rfl (by first | exact Stab.move rfl) rfl rfl ?_); (refine TrM.take 7 (by kernel_rfl) rfl (by kernel_rfl) (by exact fun _ _ _ h => h) (by exact (Sub.mem (by repeat (first | exact Sub.refl | apply Sub.cons)))) rfl (by first | exact Stab.extract rfl rfl) rfl rfl ?_); (refine TrM.take 8 (by kernel_rfl) rfl (by kernel_rfl) (by exact fun _ _ _ h => h) (by exact (Sub.mem (by repeat (first | exact Sub.refl | apply Sub.cons)))) rfl (by first | exact Stab.extract rfl rfl) rfl rfl ?_); (refine TrM.settle (by kernel_rfl) (by repeat (first | exact PendOk.nil | refine PendOk.cons rfl (by repeat (first | exact SubFr.nil | refine SubFr.cons rfl ?_)) ?_)) (by exact (Sub.mem (by repeat (first | exact Sub.refl | apply Sub.cons)))) (fun b => ?_)); dsimp only; (refine TrM.fin ?_))
  ((refine TrA.eff 10 rfl (by kernel_rfl) (by exact .inl rfl) ?_); (((refine Knd.store ?_); ((refine xWQ ?_)))); (refine ⟨(by first | exact Mem.le.refl _ | assumption), (by exact (Sub.mem (by repeat (first | exact Sub.refl | apply Sub.cons)))), ?_⟩); (refine tkQ 11 (s := by exact Stab.assign rfl) ?_); (refine TrA.done (by kernel_rfl) ?_))
  (refine rQ ?_)
  ((refine Tr.step rfl ?_))
  refine Exec.callP rfl (prequire_n _) (List.Perm.refl _) rfl (fun v M' A' hm hR => hR.elim) (fun ch M' A' hm hR => ?_)
  obtain ⟨rfl, rfl, rfl⟩ := hR
  (repeat ((with_reducible refine Tr.then_panic ?_)))
  exact Tr.doneP (A' := []) (hm1.trans hm) (by repeat (first | exact DropL.refl | apply DropL.skip)) ⟨rfl, rfl, fun h => hno h.2.1⟩
 ((refine TrM.take 6 (by kernel_rfl) rfl (by kernel_rfl) (by exact fun _ _ _ h => h) (by exact (Sub.mem (by repeat (first | exact Sub.refl | apply Sub.cons)))) rfl (by first | exact Stab.move rfl) rfl rfl ?_); (refine TrM.take 7 (by kernel_rfl) rfl (by kernel_rfl) (by exact fun _ _ _ h => h) (by exact (Sub.mem (by repeat (first | exact Sub.refl | apply Sub.cons)))) rfl (by first | exact Stab.extract rfl rfl) rfl rfl ?_); (refine TrM.take 8 (by kernel_rfl) rfl (by kernel_rfl) (by exact fun _ _ _ h => h) (by exact (Sub.mem (by repeat (first | exact Sub.refl | apply Sub.cons)))) rfl (by first | exact Stab.extract rfl rfl) rfl rfl ?_); (refine TrM.settle (by kernel_rfl) (by repeat (first | exact PendOk.nil | refine PendOk.cons rfl (by repeat (first | exact SubFr.nil | refine SubFr.cons rfl ?_)) ?_)) (by exact (Sub.mem (by repeat (first | exact Sub.refl | apply Sub.cons)))) (fun b => ?_)); dsimp only; (refine TrM.fin ?_))
 ((refine TrA.eff 10 rfl (by kernel_rfl) (by exact .inl rfl) ?_); (((refine Knd.store ?_); ((refine xWQ ?_)))); (refine ⟨(by first | exact Mem.le.refl _ | assumption), (by exact (Sub.mem (by repeat (first | exact Sub.refl | apply Sub.cons)))), ?_⟩); (refine tkQ 11 (s := by exact Stab.assign rfl) ?_); (refine TrA.done (by kernel_rfl) ?_))
 (refine rQ ?_)
 ((refine Tr.step rfl ?_)); refine Exec.call0 rfl (prequire_y M1) rfl ?_
 rintro _ _ _ rfl
 (refine rQ ?_)
 ((refine Tr.step rfl ?_)); refine Exec.call0 rfl (sameRows_fn M1 (mkF w k k.reqs).fits k.fits Af' Af cf' cf g3 (h3.mono RRowB.mono hm1)) rfl ?_
 rintro _ _ _ ⟨⟨q1, rfl, hq1⟩, rfl⟩
 cases q1 with
 | false =>
  (refine rQ ?_)
  ((refine Tr.step rfl ?_))
  refine Exec.callP rfl (prequire_n _) (List.Perm.refl _) rfl (fun v M' A' hm hR => hR.elim) (fun ch M' A' hm hR => ?_)
  obtain ⟨rfl, rfl, rfl⟩ := hR
  (repeat ((with_reducible refine Tr.then_panic ?_)))
  exact Tr.doneP (A' := []) (hm1.trans hm) (by repeat (first | exact DropL.refl | apply DropL.skip)) ⟨rfl, rfl, fun h => by have := hq1.2 h.2.2.1.1; cases this⟩
 | true =>
 (refine rQ ?_)
 ((refine Tr.guard_l rfl rfl rfl (by (with_reducible rfl)) ?_)); refine Exec.call0 rfl (equalRd_fn M1 (mkF w k k.reqs).rds k.rds Ad' Ad cd' cd g4 (h4.mono RRd.mono hm1)) rfl ?_
 rintro _ _ _ ⟨⟨q2, rfl, hq2⟩, rfl⟩
 cases q2 with
 | false =>
  (refine rQ ?_)
  ((refine Tr.step rfl ?_))
  refine Exec.callP rfl (prequire_n _) (List.Perm.refl _) rfl (fun v M' A' hm hR => hR.elim) (fun ch M' A' hm hR => ?_)
  obtain ⟨rfl, rfl, rfl⟩ := hR
  (repeat ((with_reducible refine Tr.then_panic ?_)))
  exact Tr.doneP (A' := []) (hm1.trans hm) (by repeat (first | exact DropL.refl | apply DropL.skip)) ⟨rfl, rfl, fun h => by have := hq2.2 h.2.2.1.2; cases this⟩
 | true =>
 (refine rQ ?_)
 ((refine Tr.step rfl ?_)); refine Exec.call0 rfl (prequire_y M1) rfl ?_
 rintro _ _ _ rfl
 (refine rQ ?_)
 ((refine Tr.step rfl ?_)); refine Exec.call0 rfl (bpossible_fn M1 (mkF w k k.reqs) As' Ar' Af' Ad' cs' cr' cf' cd' g1 g2 g3 g4 (okT_vld hok)) rfl ?_
 rintro _ _ _ ⟨⟨q3, rfl, hq3⟩, rfl⟩
 have hpb : pbB (mkF w k k.reqs) = pbB k := by
  unfold pbB
  rw [hq1.1 rfl]
  rfl
 rw [hpb] at hq3
 cases q3 with
 | false =>
  (skip)
  ((refine Tr.step rfl ?_))
  refine Exec.callP rfl (prequire_n _) (List.Perm.refl _) rfl (fun v M' A' hm hR => hR.elim) (fun ch M' A' hm hR => ?_)
  obtain ⟨rfl, rfl, rfl⟩ := hR
  (skip)
  exact Tr.doneP (A' := []) (hm1.trans hm) (by repeat (first | exact DropL.refl | apply DropL.skip)) ⟨rfl, rfl, fun h => by have := hq3.2 h.2.2.2; cases this⟩
 | true =>
 (skip)
 ((refine Tr.step rfl ?_)); refine Exec.call0 rfl (prequire_y M1) rfl ?_
 rintro _ _ _ rfl
 (repeat ((with_reducible refine Tr.nil ?_)))
 refine Tr.ofPost ?_
 (refine Tr.done (by first | exact .inl rfl | exact .inr rfl) rfl (by repeat (exact RVs.nil)) (by first | exact Mem.le.refl _ | assumption) (by exact ⟨[_, _, _, _, _, _], rfl⟩) ⟨rfl, ?_⟩)
 exact ⟨⟨hnr, hns⟩, hok, ⟨hq1.1 rfl, hq2.1 rfl⟩, hq3.1 rfl⟩
end Go.Proofs.Ytcadnjmcmegpjaa

/-
 Promises: attempt and ask.
 Conditions: none.
-/
namespace Go.Proofs.Ytcadnjmcmegpjaa
open Go Bf
attribute [local irreducible] Tr Exec Stab HasTy Go.Addr.add IntKind.wrap
def prDone (e : Int) : List PanicEntry := [{ v := .iface 48 (.int .i64 e), recovered := true }]
set_option maxRecDepth 20000 in
set_option maxHeartbeats 1000000 in
theorem patt_panic (M : Mem) (b2 : Nat) (e0 : Value) (e : Int) :
  CD Try.prog 47 [.pointer (some ⟨b2, 0, none⟩)] (.panicking (prCh e)) M [box b2 48 [e0]]
   (fun u' M' A' => u' = .panicking (prDone e) ∧ M = M' ∧ A' = [box b2 48 [.int .i64 e]]) := by
 refine CD.intro1 Try.func47 rfl rfl Try.ntmps47 rfl rfl (v := .iface 48 (.int .i64 e)) (.inl ⟨[], rfl, rfl⟩) fun E F => ?_
 (repeat (first | ((with_reducible refine Tr.step rfl ?_); (first | (refine xmQ ?_) | (refine xaQ ?_) | ((with_reducible refine Knd.binOp ?_); (refine Exec.stab rfl (Stab.ifaceeq rfl (tysOk.get rfl) rfl) rfl ?_)) | (refine xSQ ?_) | ((with_reducible refine Knd.typeAssert ?_); (refine Exec.stab rfl (Stab.assertY rfl (tysOk.get rfl) rfl) rfl ?_)) | ((with_reducible refine Knd.extract ?_); (refine Exec.stab rfl (Stab.extract rfl rfl) rfl ?_)))) | (with_reducible first | apply Tr.next | apply Tr.seq | apply Tr.region | apply Tr.nil | apply Tr.block | apply Tr.in_normal) | (refine Tr.cond_bt rfl (by (with_reducible rfl)) ?_) | (refine Tr.cond_bf rfl (by (with_reducible rfl)) ?_)))
 refine Tr.doneC (by first | exact .inl rfl | exact .inr rfl) rfl (by repeat (exact RVs.nil)) (Mem.le.refl _) DropL.refl ⟨rfl, rfl, rfl⟩
set_option maxRecDepth 20000 in
set_option maxHeartbeats 1000000 in
theorem patt_idle (M : Mem) (b2 : Nat) (A : List Res) :
  CD Try.prog 47 [.pointer (some ⟨b2, 0, none⟩)] .returning M A
   (fun u' M' A' => u' = .returning ∧ M = M' ∧ A' = A) := by
 refine CD.intro1 Try.func47 rfl rfl Try.ntmps47 rfl rfl (v := .nilIface) (.inr ⟨rfl, rfl, rfl⟩) fun E F => ?_
 (repeat (first | ((with_reducible refine Tr.step rfl ?_); (first | (refine xaQ ?_) | ((with_reducible refine Knd.binOp ?_); (refine Exec.stab rfl (Stab.nileq rfl (tysOk.get rfl) rfl) rfl ?_)))) | (with_reducible first | apply Tr.next | apply Tr.seq | apply Tr.region | apply Tr.nil | apply Tr.block | apply Tr.in_normal) | (refine Tr.cond_bt rfl (by (with_reducible rfl)) ?_)))
 refine Tr.doneC (by first | exact .inl rfl | exact .inr rfl) rfl (by repeat (exact RVs.nil)) (Mem.le.refl _) DropL.refl ⟨rfl, rfl, rfl⟩
set_option maxRecDepth 20000 in
set_option maxHeartbeats 2000000 in
theorem pattempt_fn (M : Mem) (g : FuncId) (cap : List Value) (A : List Res) (R : Value → Mem → List Res → Prop) (RP : Int → Mem → List Res → Prop) (hg : FnP Try.prog g cap M A R (fun ch M' A' => ∃ e, ch = prCh e ∧ RP e M' A')) :
  Bf.Fn Try.prog 18 [.func (.func g) #[] cap.toArray] M A (fun r M' A' => (r = .int .i64 0 ∧ ∃ v, R v M' A') ∨ ∃ e, r = .int .i64 e ∧ RP e M' A') := by
 refine Fn.introD Try.func18 rfl rfl Try.ntmps18 rfl fun E F => ?_
 (repeat (first | ((with_reducible refine Tr.step rfl ?_); (first | ((with_reducible refine Knd.makeFunc ?_); (refine Exec.stab rfl (Stab.makeFunc rfl rfl) rfl ?_)) | ((with_reducible refine Knd.alloc ?_); (refine Exec.alloc1 (tysOk.get rfl) rfl rfl rfl (fun b => ?_))))) | (with_reducible first | apply Tr.next | apply Tr.seq | apply Tr.region | apply Tr.nil)))
 refine Tr.step rfl ?_
 refine Exec.defer (first := []) (vs := []) rfl rfl ?_
 (refine rQ ?_)
 ((refine Tr.step rfl ?_))
 refine Exec.callPv (first := []) (cap := cap) (vs := []) (A := A) (F := box b 48 [.int .i64 0] :: F) rfl rfl (by simpa using hg) List.perm_middle rfl (fun v M' A' hm hR => ?_) (fun ch M' A' hm hR => ?_)
 rotate_left
 ·obtain ⟨e, rfl, hR⟩ := hR
  (repeat ((with_reducible refine Tr.then_panic ?_)))
  refine Tr.panicD (vs0 := []) (cap := [.pointer (some ⟨b, 0, none⟩)]) (A := [box b 48 [.int .i64 0]]) (F1 := A' ++ F) (patt_panic M' b _ e) (show (box b 48 [.int .i64 0] :: (A' ++ F)).Perm (A' ++ box b 48 [.int .i64 0] :: F) from List.perm_middle.symm) rfl ?_
  rintro u' M'' A'' hm' ⟨rfl, rfl, rfl⟩
  exact ⟨rfl, _, (by repeat (first | exact RVs.nil | (apply RVs.cons; (exact RV.cell (by rfl) (tysOk.get (by rfl)) (by rfl) (by repeat (first | exact Has.here | apply Has.there)))))), hm, [box b 48 [.int .i64 e]], A', List.Perm.refl _, .inr ⟨e, rfl, hR⟩⟩
 refine Tr.reorder List.perm_middle.symm ?_
 (refine rQ ?_)
 refine Tr.doneD (vs0 := []) (cap := [.pointer (some ⟨b, 0, none⟩)]) (A := []) (by first | exact .inl rfl | exact .inr rfl) (patt_idle M' b []) (List.Perm.refl _) rfl ?_
 rintro u' M'' A'' hm' ⟨rfl, rfl, rfl⟩
 exact ⟨rfl, _, (by repeat (first | exact RVs.nil | (apply RVs.cons; (exact RV.cell (by rfl) (tysOk.get (by rfl)) (by rfl) (by repeat (first | exact Has.here | apply Has.there)))))), hm, [box b 48 [.int .i64 0]], A', List.Perm.refl _, .inl ⟨rfl, v, hR⟩⟩
end Go.Proofs.Ytcadnjmcmegpjaa

/-
 Promises: ask.
 Conditions: none.
-/
namespace Go.Proofs.Ytcadnjmcmegpjaa
open Go Bf
attribute [local irreducible] Tr Exec Stab HasTy Go.Addr.add IntKind.wrap
noncomputable def cutB (w : Wd) (k : Bp) (r : Rq) : List Int := memF (cutFin (fitsT w k.known k.sups (k.reqs ++ [r])) (amS k.sups) (amR (k.reqs ++ [r]))) (amR (k.reqs ++ [r])).length
noncomputable def confF (w : Wd) (k : Bp) (r : Rq) : List Int := (cutB w k r).map fun j => ((k.reqs ++ [r]).map (·.no)).getD j.toNat 0
def AskR (w : Wd) (k : Bp) (r : Rq) (x a : Value) (M : Mem) : Prop :=
 ∃ D cd, SlOf 5 RRd M (.slice D (readsF w k.sups [r]).length cd) (readsF w k.sups [r]) ∧
  ((Feas (pbW w k.known k.sups (k.reqs ++ [r])) ∧ RBp M x (more w k r) ∧ ∃ al A c, LexMax (pbW w k.known k.sups (k.reqs ++ [r])) al ∧ a = .agg #[.bool true, .slice A (allocOf al (amR (k.reqs ++ [r])).length (amS k.sups).length).length c, .slice none 0 0, .slice D (readsF w k.sups [r]).length cd] ∧ Ints2 M (.slice A (allocOf al (amR (k.reqs ++ [r])).length (amS k.sups).length).length c) (allocOf al (amR (k.reqs ++ [r])).length (amS k.sups).length)) ∨
  (¬ Feas (pbW w k.known k.sups (k.reqs ++ [r])) ∧ RBp M x k ∧ ∃ B c, a = .agg #[.bool false, .slice none 0 0, .slice B (confF w k r).length c, .slice D (readsF w k.sups [r]).length cd] ∧ Ints M (.slice B (confF w k r).length c) (confF w k r)))
set_option maxRecDepth 20000 in
theorem ask1_fn (M : Mem) (b5 : Nat) (r y : Rq) (hb : (box b5 52 [.int .i64 r.no, .int .i64 r.item, .int .i64 r.cust, .int .i64 r.due, .int .i64 r.shelf, .int .i64 r.amount]).ok M) : Fn0 Try.prog 53 ([.agg #[.int .i64 y.no, .int .i64 y.item, .int .i64 y.cust, .int .i64 y.due, .int .i64 y.shelf, .int .i64 y.amount]] ++ [.pointer (some ⟨b5, 0, none⟩)]) M (fun v M' => v = .bool (decide (y.no = r.no)) ∧ M = M') := by
 have hrow := Row.of_box (n := 1) (sz := 6) hb (by simp) (by intro u hu; simp at hu; rcases hu with rfl | rfl | rfl | rfl | rfl | rfl <;> rfl)
 have hat2 := (hrow.pos (by decide)).2
 refine Fn.intro Try.func53 rfl rfl Try.ntmps53 rfl fun E F => ?_
 simp only [List.cons_append, List.nil_append]
 (repeat (first | ((with_reducible refine Tr.step rfl ?_); (first | (refine xaQ ?_) | ((with_reducible refine Knd.load ?_); (first | (refine xlQ ?_) | (refine xMQ ?_))) | (refine xfQ ?_) | (refine xiQ ?_) | ((with_reducible refine Knd.box ?_); (refine Exec.box rfl rfl (fun b => ?_))))) | (with_reducible first | apply Tr.next | apply Tr.seq | apply Tr.region | apply Tr.nil | apply Tr.ret)))
 (refine dnQ (hL := by exact ⟨[_], rfl⟩) ⟨rfl, ?_⟩)
 exact ⟨rfl, rfl⟩
set_option maxRecDepth 20000 in
theorem askc_lend (M : Mem) (b5 : Nat) (r : Rq) (A : Option Addr) (c : Nat) (l : List Rq) (hl : SlOf 6 RRqC M (.slice A l.length c) l) :
  Bf.Fn Try.prog 52 [.slice A l.length c, .func (.func 53) #[] #[.pointer (some ⟨b5, 0, none⟩)]] M [box b5 52 [.int .i64 r.no, .int .i64 r.item, .int .i64 r.cust, .int .i64 r.due, .int .i64 r.shelf, .int .i64 r.amount]] (fun v M' A' => A' = [box b5 52 [.int .i64 r.no, .int .i64 r.item, .int .i64 r.cust, .int .i64 r.due, .int .i64 r.shelf, .int .i64 r.amount]] ∧ M = M' ∧ v = .bool (l.any fun y => decide (y.no = r.no))) :=
 Fn.lend (rs := [box b5 52 [.int .i64 r.no, .int .i64 r.item, .int .i64 r.cust, .int .i64 r.due, .int .i64 r.shelf, .int .i64 r.amount]]) (R := fun v => v = .bool (l.any fun y => decide (y.no = r.no))) (clone_ok _ _ _ _ _ _ (containsR_fn M none 0 [] (SlOf.nil _ _ _) 0 [] (fun _ => false) (by simp))) (fun M' hm hok =>
  containsR_fn M' A c l (hl.mono RRqC.mono hm) 53 [.pointer (some ⟨b5, 0, none⟩)] (fun y => decide (y.no = r.no)) (fun y _ => ask1_fn M' b5 r y (hok _ (by simp))))
set_option maxHeartbeats 16000000 in
set_option maxRecDepth 20000 in
theorem ask_fn (M : Mem) (ws : List Value) (w : Wd) (hw : RWd M ws w) (k : Bp) (As Ar Af Ad : Option Addr) (cs cr cf cd : Nat) (h1 : SlOf 6 RSpC M (.slice As k.sups.length cs) k.sups) (h2 : SlOf 6 RRqC M (.slice Ar k.reqs.length cr) k.reqs) (h3 : Fits2 M (.slice Af k.fits.length cf) k.fits) (h4 : SlOf 5 RRd M (.slice Ad k.rds.length cd) k.rds) (hv : okB w k) (r : Rq) :
  FnP Try.prog 21 [.agg ws.toArray, .agg #[.int .i64 k.known, .slice As k.sups.length cs, .slice Ar k.reqs.length cr, .slice Af k.fits.length cf, .slice Ad k.rds.length cd], .agg #[.int .i64 r.no, .int .i64 r.item, .int .i64 r.cust, .int .i64 r.due, .int .i64 r.shelf, .int .i64 r.amount]] M [] (fun v M' A' => A' = [] ∧ askE w k r = 0 ∧ ∃ x a, v = .tuple #[x, a] ∧ AskR w k r x a M') (fun ch _ A' => ∃ e, ch = prCh e ∧ A' = [] ∧ askE w k r = e ∧ e ≠ 0) := by
 have h11 := hw.len
 have hl1 := h1.len_le
 have hl2 := h2.len_le
 have l64 := hv.2.1.1
 refine FnP.intro Try.func21 rfl rfl Try.ntmps21 rfl fun E F => ?_
 (repeat (first | ((with_reducible refine Tr.step rfl ?_); (first | (refine xlQ ?_) | (refine xfQ ?_) | ((with_reducible refine Knd.makeFunc ?_); (refine Exec.stab rfl (Stab.makeFunc rfl rfl) rfl ?_)) | ((with_reducible refine Knd.box ?_); (refine Exec.box rfl rfl (fun b => ?_))) | ((with_reducible refine Knd.alloc ?_); (refine Exec.alloc (tysOk.get rfl) rfl rfl (fun b => ?_))))) | (with_reducible first | apply Tr.next | apply Tr.seq | apply Tr.region | apply Tr.nil)))
 rename_i b3 b4 b5 b6
 generalize b = b7
 ((refine Tr.step rfl ?_))
 refine Exec.call (A := [box b5 52 [.int .i64 r.no, .int .i64 r.item, .int .i64 r.cust, .int .i64 r.due, .int .i64 r.shelf, .int .i64 r.amount]]) rfl (askc_lend M b5 r Ar cr k.reqs h2) (take1 (by repeat (first | exact Del.here | apply Del.there))) rfl ?_
 rintro _ _ _ _ ⟨rfl, rfl, rfl⟩
 by_cases hno : r.no ∈ k.reqs.map (·.no)
 ·have e : (k.reqs.any fun y => decide (y.no = r.no)) = true := by
   rw [List.any_eq_true]
   obtain ⟨y, hy, hyn⟩ := List.mem_map.1 hno
   exact ⟨y, hy, by simpa using hyn⟩
  rw [e]
  (refine rQ ?_)
  ((refine Tr.step rfl ?_))
  refine Exec.callP rfl (prequire_n _) (List.Perm.refl _) rfl (fun v M' A' hm hR => hR.elim) (fun ch M' A' hm hR => ?_)
  obtain ⟨rfl, rfl, rfl⟩ := hR
  (repeat ((with_reducible refine Tr.then_panic ?_)))
  exact Tr.doneP (A' := []) hm (by repeat (first | exact DropL.refl | apply DropL.skip)) ⟨310, rfl, rfl, by rw [askE, if_neg (fun h => h hv), if_pos hno], by decide⟩
 have e : (k.reqs.any fun y => decide (y.no = r.no)) = false := by
  rw [List.any_eq_false]
  intro y hy
  simp only [decide_eq_true_eq]
  exact fun h => hno (List.mem_map.2 ⟨y, hy, h⟩)
 rw [e]
 (refine rQ ?_)
 ((refine Tr.step rfl ?_)); refine Exec.call0 rfl (prequire_y M) rfl ?_
 rintro _ _ _ rfl
 (repeat (first | ((with_reducible refine Tr.step rfl ?_); (with_reducible refine Knd.load ?_); (first | (refine xwQ ?_) | (refine Exec.stab rfl (Stab.loadW rfl (tysOk.get rfl) rfl (by repeat (first | exact Has.here | apply Has.there)) (by assumption)) rfl ?_))) | (with_reducible first | apply Tr.next | apply Tr.seq | apply Tr.region | apply Tr.nil)))
 ((refine Tr.step rfl ?_))
 refine Exec.call (A := []) rfl (maker_fn M ws k As Ar Af Ad cs cr cf cd) (List.Perm.refl _) rfl ?_
 rintro _ _ _ _ ⟨b8, b9, rfl, rfl, rfl⟩
 (refine rQ ?_)
 (((apply Tr.draw (box b5 52 [.int .i64 r.no, .int .i64 r.item, .int .i64 r.cust, .int .i64 r.due, .int .i64 r.shelf, .int .i64 r.amount] :: box b7 55 [.bool false, .slice none 0 0, .slice none 0 0, .slice none 0 0] :: box b6 47 [.int .i64 0, .slice none 0 0, .slice none 0 0, .slice none 0 0, .slice none 0 0] :: box b4 47 [.int .i64 k.known, .slice As k.sups.length cs, .slice Ar k.reqs.length cr, .slice Af k.fits.length cf, .slice Ad k.rds.length cd] :: box b3 38 ws :: ([] ++ F))); (kernel_rfl)); (refine tkQ 0 (s := by exact Stab.move rfl) ?_); (refine tkQ 1 (s := by exact sfQ) ?_); (refine tkQ 4 (s := by exact swQ) ?_); (refine tkQ 2 (s := by exact slQ) ?_))
 ((refine TrM.start2 _ (PA.build1 5 [(33, .agg #[.int .i64 r.no, .int .i64 r.item, .int .i64 r.cust, .int .i64 r.due, .int .i64 r.shelf, .int .i64 r.amount])] rfl (by exact .inl rfl) rfl (tysOk.get rfl) rfl (tysOk.get rfl) rfl rfl rfl rfl rfl (by first | rfl | assumption) rfl) (by exact PA.alloc 11 rfl (tysOk.get rfl) rfl rfl) (by kernel_rfl) (by kernel_rfl) (by kernel_rfl) ?_); (refine TrM.eff 3 rfl (by kernel_rfl) (by exact .inl rfl) (by repeat (first | exact PendOk.nil | refine PendOk.cons rfl (by repeat (first | exact SubFr.nil | refine SubFr.cons rfl ?_)) ?_)) (by exact (Sub.mem (by repeat (first | exact Sub.refl | apply Sub.cons)))) (by repeat (first | apply AppF.cons | exact AppF.nil)) (by repeat (first | apply AppF.cons | exact AppF.app)) (fun Y X => ?_)))
 refine Exec.call (A := []) rfl (cloneRq_fn M Ar cr k.reqs h2 (by omega)) (List.Perm.refl _) rfl ?_
 rintro _ _ _ _ ⟨⟨B6, k6, rfl, hk6, rfl⟩, rfl⟩
 (refine ⟨_, _, (by repeat (first | apply App.cons | exact App.nil | exact App.app)), (by repeat (first | apply App.cons | exact App.nil | exact App.app)), rfl, (by first | exact Mem.le.refl _ | assumption), (by exact (Sub.mem (by repeat (first | exact Sub.refl | apply Sub.cons)))), ?_⟩)
 ((refine TrM.settle (by kernel_rfl) (by repeat (first | exact PendOk.nil | refine PendOk.cons rfl (by repeat (first | exact SubFr.nil | refine SubFr.cons rfl ?_)) ?_)) (by exact (Sub.mem (by repeat (first | exact Sub.refl | apply Sub.cons)))) (fun b => ?_)); dsimp only)
 ((refine TrM.eff 6 rfl (by kernel_rfl) (by exact .inl rfl) (by repeat (first | exact PendOk.nil | refine PendOk.cons rfl (by repeat (first | exact SubFr.nil | refine SubFr.cons rfl ?_)) ?_)) (by exact (Sub.mem (by repeat (first | exact Sub.refl | apply Sub.cons)))) (by repeat (first | apply AppF.cons | exact AppF.nil)) (by repeat (first | apply AppF.cons | exact AppF.app)) (fun Y X => ?_)))
 refine Exec.append (news := rqC r) rfl rfl (tysOk.get rfl) rfl (tysOk.get rfl) rfl rfl rfl rfl (by repeat (first | exact Del.here | apply Del.there)) (Src.box (by repeat (first | exact Has.here | apply Has.there))) rfl (rqC_one _) (by omega) (by omega) rfl (fun A8 c8 hc8 => ?_)
 (refine ⟨_, _, (by repeat (first | apply App.cons | exact App.nil | exact App.app)), (by repeat (first | apply App.cons | exact App.nil | exact App.app)), rfl, (by first | exact Mem.le.refl _ | assumption), (by exact (Sub.mem (by repeat (first | exact Sub.refl | apply Sub.cons)))), ?_⟩)
 rw [show k.reqs.flatMap rqC ++ rqC r = (k.reqs ++ [r]).flatMap rqC by rw [List.flatMap_append]; simp, show k.reqs.length + 1 = (k.reqs ++ [r]).length by simp]
 refine TrM.publish (x := ownS 52 6 _ _ _ _) (by repeat (first | exact Del.here | apply Del.there)) (fun M8 hm8 hok8 => ?_)
 have hm8 : Mem.le M M8 := hm8
 have hR8 : SlOf 6 RRqC M8 (.slice A8 (k.reqs ++ [r]).length c8) (k.reqs ++ [r]) := SlOf.ofOwn hok8 rfl hc8 (rqC_elems _ _)
 ((refine TrM.eff 7 rfl (by kernel_rfl) (by exact .inl rfl) (by repeat (first | exact PendOk.nil | refine PendOk.cons rfl (by repeat (first | exact SubFr.nil | refine SubFr.cons rfl ?_)) ?_)) (by exact (Sub.mem (by repeat (first | exact Sub.refl | apply Sub.cons)))) (by repeat (first | apply AppF.cons | exact AppF.nil)) (by repeat (first | apply AppF.cons | exact AppF.app)) (fun Y X => ?_)))
 refine Exec.callv (first := []) (cap := [.pointer (some ⟨b8, 0, none⟩), .pointer (some ⟨b9, 0, none⟩)]) (A := [box b9 47 [.int .i64 k.known, .slice As k.sups.length cs, .slice Ar k.reqs.length cr, .slice Af k.fits.length cf, .slice Ad k.rds.length cd], box b8 38 ws]) rfl rfl (maker1_fn M8 ws w (hw.mono hm8) k As Ar Af Ad cs cr cf cd (h1.mono RSpC.mono hm8) (h2.mono RRqC.mono hm8) (h3.mono RRowB.mono hm8) (h4.mono RRd.mono hm8) b8 b9 A8 c8 (k.reqs ++ [r]) hR8) (take2 (by repeat (first | exact Del.here | apply Del.there)) (by repeat (first | exact Del.here | apply Del.there))) rfl ?_
 rintro v M1 _ hm1 ⟨rfl, hmk⟩
 (refine ⟨_, _, (by repeat (first | apply App.cons | exact App.nil | exact App.app)), (by repeat (first | apply App.cons | exact App.nil | exact App.app)), rfl, (by first | exact Mem.le.refl _ | assumption), (by exact (Sub.mem (by repeat (first | exact Sub.refl | apply Sub.cons)))), ?_⟩)
 have hm1 := hm8.trans hm1
 rcases hmk with ⟨hnk, rfl⟩ | ⟨hok, x, rfl, As', cs', Ar', cr', Af', cf', Ad', cd', rfl, g1, g2, g3, g4⟩
 ·((refine TrM.take 8 (by kernel_rfl) rfl (by kernel_rfl) (by exact fun _ _ _ h => h) (by exact (Sub.mem (by repeat (first | exact Sub.refl | apply Sub.cons)))) rfl (by first | exact Stab.move rfl) rfl rfl ?_); (refine TrM.take 9 (by kernel_rfl) rfl (by kernel_rfl) (by exact fun _ _ _ h => h) (by exact (Sub.mem (by repeat (first | exact Sub.refl | apply Sub.cons)))) rfl (by first | exact Stab.extract rfl rfl) rfl rfl ?_); (refine TrM.take 10 (by kernel_rfl) rfl (by kernel_rfl) (by exact fun _ _ _ h => h) (by exact (Sub.mem (by repeat (first | exact Sub.refl | apply Sub.cons)))) rfl (by first | exact Stab.extract rfl rfl) rfl rfl ?_); (refine TrM.settle (by kernel_rfl) (by repeat (first | exact PendOk.nil | refine PendOk.cons rfl (by repeat (first | exact SubFr.nil | refine SubFr.cons rfl ?_)) ?_)) (by exact (Sub.mem (by repeat (first | exact Sub.refl | apply Sub.cons)))) (fun b => ?_)); dsimp only; (refine TrM.fin ?_))
  ((refine TrA.eff 12 rfl (by kernel_rfl) (by exact .inl rfl) ?_); (((refine Knd.store ?_); ((refine xWQ ?_)))); (refine ⟨(by first | exact Mem.le.refl _ | assumption), (by exact (Sub.mem (by repeat (first | exact Sub.refl | apply Sub.cons)))), ?_⟩); (refine tkQ 13 (s := by exact Stab.assign rfl) ?_); (refine TrA.done (by kernel_rfl) ?_))
  (refine rQ ?_)
  ((refine Tr.step rfl ?_))
  refine Exec.callP rfl (must_n M1 290 (by decide)) (List.Perm.refl _) rfl (fun v M' A' hm hR => hR.elim) (fun ch M' A' hm hR => ?_)
  obtain ⟨rfl, rfl, rfl⟩ := hR
  (repeat ((with_reducible refine Tr.then_panic ?_)))
  refine Tr.doneP (A' := []) (hm1.trans hm) (by repeat (first | exact DropL.refl | apply DropL.skip)) ⟨290, rfl, rfl, ?_, by decide⟩
  rw [okT_app hv.2.1] at hnk
  rw [askE, if_neg (fun h => h hv), if_neg hno, if_pos]
  by_cases hq : okRq r
  ·have := not_and.1 hnk hq
   exact .inr (by omega)
  ·exact .inl hq
 have hbase : okRq r := hok.2.2 r (by simp)
 have hrl : k.reqs.length + 1 ≤ 64 := by have := hok.1.2; simpa using this
 dsimp only [mkF] at g1 g2 g3 g4 ⊢
 ((refine TrM.take 8 (by kernel_rfl) rfl (by kernel_rfl) (by exact fun _ _ _ h => h) (by exact (Sub.mem (by repeat (first | exact Sub.refl | apply Sub.cons)))) rfl (by first | exact Stab.move rfl) rfl rfl ?_); (refine TrM.take 9 (by kernel_rfl) rfl (by kernel_rfl) (by exact fun _ _ _ h => h) (by exact (Sub.mem (by repeat (first | exact Sub.refl | apply Sub.cons)))) rfl (by first | exact Stab.extract rfl rfl) rfl rfl ?_); (refine TrM.take 10 (by kernel_rfl) rfl (by kernel_rfl) (by exact fun _ _ _ h => h) (by exact (Sub.mem (by repeat (first | exact Sub.refl | apply Sub.cons)))) rfl (by first | exact Stab.extract rfl rfl) rfl rfl ?_); (refine TrM.settle (by kernel_rfl) (by repeat (first | exact PendOk.nil | refine PendOk.cons rfl (by repeat (first | exact SubFr.nil | refine SubFr.cons rfl ?_)) ?_)) (by exact (Sub.mem (by repeat (first | exact Sub.refl | apply Sub.cons)))) (fun b => ?_)); dsimp only; (refine TrM.fin ?_))
 ((refine TrA.eff 12 rfl (by kernel_rfl) (by exact .inl rfl) ?_); (((refine Knd.store ?_); ((refine xWQ ?_)))); (refine ⟨(by first | exact Mem.le.refl _ | assumption), (by exact (Sub.mem (by repeat (first | exact Sub.refl | apply Sub.cons)))), ?_⟩); (refine tkQ 13 (s := by exact Stab.assign rfl) ?_); (refine TrA.done (by kernel_rfl) ?_))
 (refine rQ ?_)
 generalize b = bx
 ((refine Tr.step rfl ?_)); refine Exec.call0 rfl (must_y M1) rfl ?_
 rintro _ _ _ rfl
 (repeat (first | ((with_reducible refine Tr.step rfl ?_); (first | (refine xmQ ?_) | (refine xwQ ?_) | ((with_reducible refine Knd.buildSlice ?_); (refine Exec.buildSlice (tysOk.get rfl) rfl (tysOk.get rfl) rfl rfl rfl rfl rfl (by repeat (first | exact BuildP.nil | ((apply BuildP.many); (rfl); (rfl); (rfl); (rfl); (repeat (first | exact PutL.nil | ((apply PutL.cons); (repeat (first | exact SetL.z | apply SetL.s)))))))) rfl (fun b => ?_))))) | (with_reducible first | apply Tr.next | apply Tr.seq | apply Tr.region | apply Tr.nil)))
 refine pbQ (r := box b 52 _) (fun M2 hm2 hokb => ?_)
 have hokb : (box b 52 (rqC r)).ok M2 := hokb
 have hone : SlOf 6 RRqC M2 (.slice (some ⟨b, 0, none⟩) 1 1) [r] := SlOf.ofBoxC (n := 1) (c := 1) (xs := [r]) hokb rfl rfl (Nat.le_refl _) (by decide) (rqC_one r) (rqC_elems M2 [r])
 have hm02 := hm1.trans hm2
 ((refine Tr.step rfl ?_))
 refine Exec.callv (first := []) (cap := [.pointer (some ⟨b8, 0, none⟩), .pointer (some ⟨b9, 0, none⟩)]) (A := [box b9 47 [.int .i64 k.known, .slice As k.sups.length cs, .slice Ar k.reqs.length cr, .slice Af k.fits.length cf, .slice Ad k.rds.length cd], box b8 38 ws]) rfl rfl (maker1_fn M2 ws w (hw.mono hm02) k As Ar Af Ad cs cr cf cd (h1.mono RSpC.mono hm02) (h2.mono RRqC.mono hm02) (h3.mono RRowB.mono hm02) (h4.mono RRd.mono hm02) b8 b9 (some ⟨b, 0, none⟩) 1 [r] hone) (take2 (by repeat (first | exact Del.here | apply Del.there)) (by repeat (first | exact Del.here | apply Del.there))) rfl ?_
 rintro v M3 _ hm3 ⟨rfl, hmk⟩
 rcases hmk with ⟨hnk, rfl⟩ | ⟨-, x, rfl, A1, c1, A2, c2, A3, c3, D, cD, rfl, -, -, -, hD⟩
 ·exact absurd ⟨⟨hok.1.1, by simp⟩, hok.2.1, fun y hy => by simp at hy; subst hy; exact hbase⟩ hnk
 dsimp only [mkF] at hD ⊢
 (repeat (first | ((with_reducible refine Tr.step rfl ?_); (first | (refine xmQ ?_) | (refine xaQ ?_) | (refine xWQ ?_) | ((with_reducible refine Knd.alloc ?_); (refine Exec.alloc (tysOk.get rfl) rfl rfl (fun b => ?_))) | ((with_reducible refine Knd.extract ?_); (refine Exec.stab rfl (Stab.extract rfl rfl) rfl ?_)))) | (with_reducible first | apply Tr.next | apply Tr.seq | apply Tr.region | apply Tr.nil)))
 ((refine Tr.step rfl ?_)); refine Exec.call0 rfl (must_y M3) rfl ?_
 rintro _ _ _ rfl
 (refine rQ ?_)
 have hm13 := hm2.trans hm3
 have ga : (amR (k.reqs ++ [r])).length = k.reqs.length + 1 := by simp [amR]
 ((refine Tr.step rfl ?_)); refine Exec.call0 rfl (amounts_fn M3 (mkF w k (k.reqs ++ [r])) As' Ar' Af' Ad' cs' cr' cf' cd' (g1.mono RSpC.mono hm13) (g2.mono RRqC.mono hm13) (g3.mono RRowB.mono hm13) (g4.mono RRd.mono hm13) (by show k.sups.length ≤ _; omega) (by show (k.reqs ++ [r]).length ≤ _; simp; omega)) rfl ?_
 rintro _ M4 hm4 ⟨P1, q1, P2, q2, rfl, hI1, hI2⟩
 dsimp only [mkF] at hI1 hI2 ⊢
 (refine rQ ?_)
 have hvld := okT_vld (w := w) (known := k.known) hok
 have rs : I64s (amS k.sups) := fun x hx => by have := hvld.rs x hx; omega
 have rn : I64s (amR (k.reqs ++ [r])) := fun x hx => by have := hvld.rn x hx; omega
 have hm14 := hm13.trans hm4
 ((refine Tr.step rfl ?_)); refine Exec.call0 rfl (flow_fn M4 Af' P1 P2 cf' q1 q2 (fitsT w k.known k.sups (k.reqs ++ [r])) (amS k.sups) (amR (k.reqs ++ [r])) (g3.mono RRowB.mono hm14) hI1 hI2 rs rn) rfl ?_
 have hask : askE w k r = 0 := by rw [askE, if_neg (fun h => h hv), if_neg hno, if_neg (fun h => h.elim (fun h => h hbase) (fun h => by omega))]
 rintro _ M5 hm5 (⟨hbad, -⟩ | ⟨-, hnf, B, kk, rfl, hI⟩ | ⟨-, al, hlex, A9, c9, rfl, hI⟩)
 ·rw [vld_iff.2 hvld] at hbad
  cases hbad
 rotate_left
 ·(refine rQ ?_)
  ((refine Tr.step rfl ?_)); refine Exec.call0 rfl (must_y M5) rfl ?_
  rintro _ _ _ rfl
  (refine rQ ?_)
  refine ftQ (r := box bx 47 _) ?_
  refine ftQ (r := box b7 55 _) ?_
  refine ftQ (r := box b6 47 _) ?_
  (((apply Tr.draw ((box b7 55 _ :: _))); (kernel_rfl)); (refine tkQ 0 (hB := by exact (Sub.mem (by repeat (first | exact Sub.refl | apply Sub.cons)))) (s := by exact swQ) ?_); (refine tkQ 1 (s := by exact swQ) ?_); (refine TrA.eff 2 rfl (by kernel_rfl) (by exact .inl rfl) ?_); (((refine Knd.store ?_); ((refine xWQ ?_)))); (refine ⟨(by first | exact Mem.le.refl _ | assumption), (by exact (Sub.mem (by repeat (first | exact Sub.refl | apply Sub.cons)))), ?_⟩); (refine TrA.effD 3 rfl (by kernel_rfl) (by kernel_rfl) (by exact .inl rfl) ?_); (((refine Knd.store ?_); ((refine xWQ ?_)))); (refine ⟨_, fun _ h => h, ?_⟩); (refine TrA.done (by kernel_rfl) ?_))
  (repeat (first | (with_reducible first | apply Tr.next | apply Tr.ret | apply Tr.then_ret)))
  have hm15 := hm14.trans hm5
  have hm05 := hm1.trans hm15
  have hm35 := hm4.trans hm5
  refine Tr.ofPost ?_
  (refine Tr.done (by first | exact .inl rfl | exact .inr rfl) rfl (by repeat (first | exact RVs.nil | (apply RVs.cons; (exact RV.cellW (by rfl) (tysOk.get (by rfl)) (by rfl) (by repeat (first | exact Has.here | apply Has.there)) (by first | rfl | assumption))))) (by first | exact Mem.le.refl _ | assumption) (by exact ⟨[_, _, _, _, _, _, _, _, _, _], rfl⟩) ⟨rfl, ?_⟩)
  exact ⟨hask, _, _, rfl, D, cD, hD.mono RRd.mono hm35, .inl ⟨⟨al, hlex.1⟩, ⟨As', cs', Ar', cr', Af', cf', Ad', cd', rfl, g1.mono RSpC.mono hm15, g2.mono RRqC.mono hm15, g3.mono RRowB.mono hm15, g4.mono RRd.mono hm15⟩, al, A9, c9, hlex, rfl, hI⟩⟩
 (refine rQ ?_)
 ((refine Tr.step rfl ?_)); refine Exec.call0 rfl (must_y M5) rfl ?_
 rintro _ _ _ rfl
 (refine rQ ?_)
 generalize b = ba
 refine gvQ (r := box ba _ _) ?_
 refine gvQ (r := box b9 _ _) ?_
 refine gvQ (r := box b8 _ _) ?_
 refine gvQ (r := box _ 52 _) ?_
 refine gvQ (r := box b5 _ _) ?_
 refine gvQ (r := box b3 _ _) ?_
 refine Tr.own_nil 3 1 ?_
 have hI : Ints M5 (.slice B (cutB w k r).length kk) (cutB w k r) := hI
 have hcl : (cutB w k r).length ≤ 64 := Nat.le_trans (memF_len _ _) (by omega)
 have hcm : ∀ x ∈ cutB w k r, ∃ n : Nat, n < (k.reqs ++ [r]).length ∧ x = (n : Int) := fun x hx => by
  simp only [cutB, memF, List.mem_map, List.mem_filter, List.mem_range] at hx
  obtain ⟨n, ⟨hn, -⟩, rfl⟩ := hx
  exact ⟨n, by simpa [amR] using hn, rfl⟩
 refine Tr.loop (α := Nat × Option Addr × Nat) (fun y => ⟨96, [(78, .int .i64 (y.1 : Int)), (77, .int .i64 ((cutB w k r).length : Int)), (76, .slice B (cutB w k r).length kk), (9, .pointer (some ⟨bx, 0, none⟩)), (7, .pointer (some ⟨b7, 0, none⟩)), (6, .pointer (some ⟨b6, 0, none⟩)), (4, .pointer (some ⟨b4, 0, none⟩))], [], M5,
   ownS 3 1 y.2.1 y.1 y.2.2 (intV ((confF w k r).take y.1)) :: box bx 47 [.int .i64 k.known, .slice As' k.sups.length cs', .slice Ar' (k.reqs ++ [r]).length cr', .slice Af' (fitsT w k.known k.sups (k.reqs ++ [r])).length cf', .slice Ad' (readsF w k.sups (k.reqs ++ [r])).length cd'] :: box b7 55 [.bool false, .slice none 0 0, .slice y.2.1 y.1 y.2.2, .slice D (readsF w k.sups [r]).length cD] :: box b6 47 [.int .i64 0, .slice none 0 0, .slice none 0 0, .slice none 0 0, .slice none 0 0] :: box b4 47 [.int .i64 k.known, .slice As k.sups.length cs, .slice Ar k.reqs.length cr, .slice Af k.fits.length cf, .slice Ad k.rds.length cd] :: ([] ++ F)⟩)
  (fun y => y.1 ≤ (cutB w k r).length ∧ y.2.2 ≤ 9223372036854775807) (fun y => (cutB w k r).length - y.1) (0, none, 0) ⟨Nat.zero_le _, by simp⟩ hsQ (fun y hy => ?_)
 obtain ⟨i, C, cc⟩ := y
 obtain ⟨hi, hcc⟩ := hy
 simp only at hi hcc
 dsimp only
 have hm15 := hm14.trans hm5
 have hm05 := hm1.trans hm15
 have hm35 := hm4.trans hm5
 by_cases hlt : i < (cutB w k r).length
 ·obtain ⟨x, hx⟩ := get_of_lt hlt
  obtain ⟨hA, hat⟩ := hI.at hx
  obtain ⟨n, hn, rfl⟩ := hcm x (List.mem_of_getElem? hx)
  obtain ⟨y, hy⟩ := get_of_lt hn
  obtain ⟨hA2, ch2, hat2, rfl⟩ := (g2.mono RRqC.mono hm15).elem hy
  have hat3 : At M5 (((Ar'.getD default).add (n * 6)).add 0) [.int .i64 y.no, .int .i64 y.item, .int .i64 y.cust, .int .i64 y.due, .int .i64 y.shelf, .int .i64 y.amount] := hat2.drop 0
  have hcf : (confF w k r).take (i + 1) = (confF w k r).take i ++ [y.no] := by
   unfold confF
   have e2 : ((k.reqs ++ [r]).map (·.no)).getD ((n : Int)).toNat 0 = y.no := by
    rw [List.getD_eq_getElem?_getD, Int.toNat_natCast, List.getElem?_map, hy]; rfl
   rw [← List.map_take, ← List.map_take, nums_take _ hx, e2]
  (refine rQ ?_)
  (((apply Tr.draw ((box bx 47 _ :: _))); (kernel_rfl)); (refine tkQ 0 (hB := by exact (Sub.mem (by repeat (first | exact Sub.refl | apply Sub.cons)))) (s := by exact sfQ) ?_); (refine tkQ 2 (s := by exact sfQ) ?_); (refine tkQ 4 (s := by exact Stab.move rfl) ?_); (refine tkQ 1 (s := by exact slQ) ?_); (refine tkQ 3 (s := by exact slQ) ?_); (refine tkQ 5 (s := by exact sxQ) ?_); (refine tkQ 6 (s := by exact Stab.fieldD rfl (tysOk.get rfl) rfl rfl (tysOk.get rfl) rfl) ?_); (refine tkQ 7 (s := by exact sMQ) ?_); (refine TrA.eff 8 rfl (by kernel_rfl) (by exact .inl rfl) ?_); (((refine Knd.buildSlice ?_); ((refine Exec.buildSlice (tysOk.get rfl) rfl (tysOk.get rfl) rfl rfl rfl rfl rfl (by repeat (first | exact BuildP.nil | ((apply BuildP.one); (rfl); (rfl); (first | rfl | assumption); (repeat (first | exact SetL.z | apply SetL.s))))) rfl (fun b => ?_))))); (refine ⟨(by first | exact Mem.le.refl _ | assumption), (by exact (Sub.mem (by repeat (first | exact Sub.refl | apply Sub.cons)))), ?_⟩); (refine TrA.eff 9 rfl (by kernel_rfl) (by exact .inl rfl) ?_))
  refine Exec.append (news := [.int .i64 y.no]) rfl rfl (tysOk.get rfl) rfl (tysOk.get rfl) rfl rfl rfl rfl (by repeat (first | exact Del.here | apply Del.there)) (Src.box (by repeat (first | exact Has.here | apply Has.there))) rfl (by intro u hu; simp at hu; subst hu; rfl) (by omega) (by omega) rfl (fun C2 cc2 hcc2 => ?_)
  refine ⟨(by first | exact Mem.le.refl _ | assumption), (by exact (Sub.mem (by repeat (first | exact Sub.refl | apply Sub.cons)))), ?_⟩
  ((refine tkQ 10 (s := by exact sfQ) ?_); (refine TrA.effD 11 rfl (by kernel_rfl) (by kernel_rfl) (by exact .inl rfl) ?_); (((refine Knd.store ?_); ((refine xSQ ?_)))); (refine ⟨_, fun _ h => h, ?_⟩); (refine TrA.done (by kernel_rfl) ?_))
  refine gvQ (r := box _ 3 _) ?_
  rw [show intV ((confF w k r).take i) ++ [Value.int .i64 y.no] = intV ((confF w k r).take (i + 1)) by rw [hcf, intV_append]; rfl]
  (refine rQ ?_)
  exact Tr.again (i + 1, C2, cc2) ⟨by simp only; omega, hcc2⟩ (by simp only; omega) hsQ
 have ei : i = (cutB w k r).length := by omega
 subst ei
 have hcfl : (confF w k r).length = (cutB w k r).length := by simp [confF]
 rw [← hcfl, List.take_length]
 refine pbQ (r := ownS 3 1 C _ _ _) (fun M6 hm6 hok6 => ?_)
 have hC : Ints M6 (.slice C (confF w k r).length cc) (confF w k r) := Ints.ofOwn hok6 rfl hcc
 have hm06 := hm05.trans hm6
 have hm36 := hm35.trans hm6
 (refine rQ ?_)
 refine ftQ (r := box b6 47 _) ?_
 (((apply Tr.draw ((box bx 47 _ :: _))); (kernel_rfl)); (refine tkQ 0 (hB := by exact (Sub.mem (by repeat (first | exact Sub.refl | apply Sub.cons)))) (s := by exact swQ) ?_); (refine tkQ 1 (s := by exact swQ) ?_); (refine TrA.eff 2 rfl (by kernel_rfl) (by exact .inl rfl) ?_); (((refine Knd.store ?_); ((refine xWQ ?_)))); (refine ⟨(by first | exact Mem.le.refl _ | assumption), (by exact (Sub.mem (by repeat (first | exact Sub.refl | apply Sub.cons)))), ?_⟩); (refine TrA.effD 3 rfl (by kernel_rfl) (by kernel_rfl) (by exact .inl rfl) ?_); (((refine Knd.store ?_); ((refine xWQ ?_)))); (refine ⟨_, fun _ h => h, ?_⟩); (refine TrA.done (by kernel_rfl) ?_))
 (repeat (first | (with_reducible first | apply Tr.next | apply Tr.ret)))
 refine Tr.ofPost ?_
 (refine Tr.done (by first | exact .inl rfl | exact .inr rfl) rfl (by repeat (first | exact RVs.nil | (apply RVs.cons; (exact RV.cellW (by rfl) (tysOk.get (by rfl)) (by rfl) (by repeat (first | exact Has.here | apply Has.there)) (by first | rfl | assumption))))) (by first | exact Mem.le.refl _ | assumption) (by exact ⟨[_, _, _, _], rfl⟩) ⟨rfl, ?_⟩)
 exact ⟨hask, _, _, rfl, D, cD, hD.mono RRd.mono hm36, .inr ⟨hnf, ⟨As, cs, Ar, cr, Af, cf, Ad, cd, rfl, h1.mono RSpC.mono hm06, h2.mono RRqC.mono hm06, h3.mono RRowB.mono hm06, h4.mono RRd.mono hm06⟩, C, cc, rfl, hC⟩⟩
end Go.Proofs.Ytcadnjmcmegpjaa

/-
 Promises: Ask and New.
 Conditions: none.
-/
namespace Go.Proofs.Ytcadnjmcmegpjaa
open Go Bf
attribute [local irreducible] Tr Exec Stab HasTy Go.Addr.add IntKind.wrap
set_option maxRecDepth 20000 in
theorem RBp.lit {M : Mem} {v : Value} {k : Bp} (h : RBp M v k) : ∃ As cs Ar cr Af cf Ad cd, v = .agg #[.int .i64 k.known, .slice As k.sups.length cs, .slice Ar k.reqs.length cr, .slice Af k.fits.length cf, .slice Ad k.rds.length cd] := by
 obtain ⟨As, cs, Ar, cr, Af, cf, Ad, cd, rfl, -⟩ := h
 exact ⟨As, cs, Ar, cr, Af, cf, Ad, cd, rfl⟩
set_option maxRecDepth 20000 in
theorem AskR.lit {w : Wd} {k : Bp} {r : Rq} {x a : Value} {M : Mem} (h : AskR w k r x a M) : ∃ x1 x2 x3 x4 x5 a1 a2 a3 a4, x = .agg #[x1, x2, x3, x4, x5] ∧ a = .agg #[a1, a2, a3, a4] ∧ (x1.oneCell' = true ∧ x2.oneCell' = true ∧ x3.oneCell' = true ∧ x4.oneCell' = true ∧ x5.oneCell' = true) ∧ a1.oneCell' = true ∧ a2.oneCell' = true ∧ a3.oneCell' = true ∧ a4.oneCell' = true := by
 obtain ⟨D, cd, -, ⟨-, hx, al, A, c, -, rfl, -⟩ | ⟨-, hx, B, c, rfl, -⟩⟩ := h <;> obtain ⟨As, cs, Ar, cr, Af, cf, Ad, cd, rfl⟩ := hx.lit <;> exact ⟨_, _, _, _, _, _, _, _, _, rfl, rfl, ⟨rfl, rfl, rfl, rfl, rfl⟩, rfl, rfl, rfl, rfl⟩
def AskV (w : Wd) (k : Bp) (r : Rq) (v : Value) (M : Mem) : Prop :=
 (askE w k r = 0 ∧ okB w k ∧ ∃ x a, v = .tuple #[x, a, .int .i64 0] ∧ AskR w k r x a M) ∨ (askE w k r ≠ 0 ∧ v = .tuple #[.agg #[.int .i64 0, .slice none 0 0, .slice none 0 0, .slice none 0 0, .slice none 0 0], .agg #[.bool false, .slice none 0 0, .slice none 0 0, .slice none 0 0], .int .i64 (askE w k r)])
set_option maxRecDepth 20000 in
set_option maxHeartbeats 8000000 in
theorem ask1c_fn (M : Mem) (ws : List Value) (w : Wd) (hw : RWd M ws w) (k : Bp) (As Ar Af Ad : Option Addr) (cs cr cf cd : Nat) (h1 : SlOf 6 RSpC M (.slice As k.sups.length cs) k.sups) (h2 : SlOf 6 RRqC M (.slice Ar k.reqs.length cr) k.reqs) (h3 : Fits2 M (.slice Af k.fits.length cf) k.fits) (h4 : SlOf 5 RRd M (.slice Ad k.rds.length cd) k.rds) (hfc : cf ≤ 9223372036854775807) (r : Rq) (b3 b4 b5 b6 b7 : Nat) :
  FnP Try.prog 19 [.pointer (some ⟨b3, 0, none⟩), .pointer (some ⟨b4, 0, none⟩), .pointer (some ⟨b5, 0, none⟩), .pointer (some ⟨b6, 0, none⟩), .pointer (some ⟨b7, 0, none⟩)] M [box b3 38 ws, box b4 47 [.int .i64 k.known, .slice As k.sups.length cs, .slice Ar k.reqs.length cr, .slice Af k.fits.length cf, .slice Ad k.rds.length cd], box b5 52 [.int .i64 r.no, .int .i64 r.item, .int .i64 r.cust, .int .i64 r.due, .int .i64 r.shelf, .int .i64 r.amount], box b6 47 [.int .i64 0, .slice none 0 0, .slice none 0 0, .slice none 0 0, .slice none 0 0], box b7 55 [.bool false, .slice none 0 0, .slice none 0 0, .slice none 0 0]]
   (fun _ M' A' => okB w k ∧ askE w k r = 0 ∧ ∃ x1 x2 x3 x4 x5 a1 a2 a3 a4, AskR w k r (.agg #[x1, x2, x3, x4, x5]) (.agg #[a1, a2, a3, a4]) M' ∧ A' = [box b6 47 [x1, x2, x3, x4, x5], box b7 55 [a1, a2, a3, a4]])
   (fun ch _ A' => ∃ e, ch = prCh e ∧ A' = [box b6 47 [.int .i64 0, .slice none 0 0, .slice none 0 0, .slice none 0 0, .slice none 0 0], box b7 55 [.bool false, .slice none 0 0, .slice none 0 0, .slice none 0 0]] ∧ askE w k r = e ∧ e ≠ 0) := by
 have h11 := hw.len
 refine FnP.intro Try.func19 rfl rfl Try.ntmps19 rfl fun E F => ?_
 (repeat (first | ((with_reducible refine Tr.step rfl ?_); (with_reducible refine Knd.load ?_); (first | (refine xwQ ?_) | (refine Exec.stab rfl (Stab.loadW rfl (tysOk.get rfl) rfl (by repeat (first | exact Has.here | apply Has.there)) (by assumption)) rfl ?_))) | (with_reducible first | apply Tr.seq | apply Tr.region)))
 ((refine Tr.step rfl ?_))
 refine Exec.callP rfl (check_fn M ws w hw k As Ar Af Ad cs cr cf cd h1 h2 h3 h4 hfc) (List.Perm.refl _) rfl (fun v M' A' hm hR => ?_) (fun ch M' A' hm hR => ?_)
 rotate_left
 ·obtain ⟨rfl, rfl, hn⟩ := hR
  (repeat ((with_reducible refine Tr.then_panic ?_)))
  exact Tr.doneP (A' := [box b6 47 [.int .i64 0, .slice none 0 0, .slice none 0 0, .slice none 0 0, .slice none 0 0], box b7 55 [.bool false, .slice none 0 0, .slice none 0 0, .slice none 0 0]]) hm (by repeat (first | exact DropL.refl | apply DropL.skip)) ⟨310, rfl, rfl, by rw [askE, if_pos hn], by decide⟩
 obtain ⟨rfl, hv⟩ := hR
 (repeat (first | ((with_reducible refine Tr.step rfl ?_); (with_reducible refine Knd.load ?_); (first | (refine xwQ ?_) | (refine Exec.stab rfl (Stab.loadW rfl (tysOk.get rfl) rfl (by repeat (first | exact Has.here | apply Has.there)) (by assumption)) rfl ?_))) | (with_reducible first | apply Tr.next | apply Tr.region | apply Tr.nil)))
 ((refine Tr.step rfl ?_))
 refine Exec.callP rfl (ask_fn M' ws w (hw.mono hm) k As Ar Af Ad cs cr cf cd (h1.mono RSpC.mono hm) (h2.mono RRqC.mono hm) (h3.mono RRowB.mono hm) (h4.mono RRd.mono hm) hv r) (List.Perm.refl _) rfl (fun v M2 A' hm2 hR => ?_) (fun ch M2 A' hm2 hR => ?_)
 rotate_left
 ·obtain ⟨e, rfl, rfl, he, hne⟩ := hR
  (skip)
  exact Tr.doneP (A' := [box b6 47 [.int .i64 0, .slice none 0 0, .slice none 0 0, .slice none 0 0, .slice none 0 0], box b7 55 [.bool false, .slice none 0 0, .slice none 0 0, .slice none 0 0]]) (hm.trans hm2) (by repeat (first | exact DropL.refl | apply DropL.skip)) ⟨e, rfl, rfl, he, hne⟩
 obtain ⟨rfl, hask, x, a, rfl, hR⟩ := hR
 obtain ⟨x1, x2, x3, x4, x5, a1, a2, a3, a4, rfl, rfl, ⟨o1, o2, o3, o4, o5⟩, o6, o7, o8, o9⟩ := hR.lit
 (refine rQ ?_)
 refine Tr.ofPost ?_
 refine Tr.doneB (A' := [box b6 47 [x1, x2, x3, x4, x5], box b7 55 [a1, a2, a3, a4]]) [_, _, _] (by first | exact .inl rfl | exact .inr rfl) rfl (by repeat (exact RVs.nil)) (hm.trans hm2) (List.Perm.refl _) ⟨hv, hask, x1, x2, x3, x4, x5, a1, a2, a3, a4, hR, rfl⟩
set_option maxRecDepth 20000 in
set_option maxHeartbeats 8000000 in
theorem askA_fn (M : Mem) (ws : List Value) (w : Wd) (hw : RWd M ws w) (v : Value) (k : Bp) (hk : RBp M v k) (_ : k.fits.length ≤ 9223372036854775807) (r : Rq) :
  Fn0 Try.prog 7 [.agg ws.toArray, v, .agg #[.int .i64 r.no, .int .i64 r.item, .int .i64 r.cust, .int .i64 r.due, .int .i64 r.shelf, .int .i64 r.amount]] M (fun v M' => AskV w k r v M') := by
 have h11 := hw.len
 obtain ⟨As, cs, Ar, cr, Af, cf, Ad, cd, rfl, h1, h2, h3, h4⟩ := hk
 have hfc2 := fits_cap h3
 refine Fn.intro Try.func7 rfl rfl Try.ntmps7 rfl fun E F => ?_
 (repeat (first | ((with_reducible refine Tr.step rfl ?_); (first | (refine xaQ ?_) | ((with_reducible refine Knd.makeFunc ?_); (refine Exec.stab rfl (Stab.makeFunc rfl rfl) rfl ?_)) | ((with_reducible refine Knd.box ?_); (refine Exec.box rfl rfl (fun b => ?_))) | ((with_reducible refine Knd.alloc ?_); (refine Exec.alloc (tysOk.get rfl) rfl rfl (fun b => ?_))))) | (with_reducible first | apply Tr.next | apply Tr.seq | apply Tr.region | apply Tr.nil)))
 rename_i b3 b4 b5 b6
 generalize b = b7
 ((refine Tr.step rfl ?_))
 refine Exec.call (A := [box b3 38 ws, box b4 47 [.int .i64 k.known, .slice As k.sups.length cs, .slice Ar k.reqs.length cr, .slice Af k.fits.length cf, .slice Ad k.rds.length cd], box b5 52 [.int .i64 r.no, .int .i64 r.item, .int .i64 r.cust, .int .i64 r.due, .int .i64 r.shelf, .int .i64 r.amount], box b6 47 [.int .i64 0, .slice none 0 0, .slice none 0 0, .slice none 0 0, .slice none 0 0], box b7 55 [.bool false, .slice none 0 0, .slice none 0 0, .slice none 0 0]]) rfl (pattempt_fn M 19 [.pointer (some ⟨b3, 0, none⟩), .pointer (some ⟨b4, 0, none⟩), .pointer (some ⟨b5, 0, none⟩), .pointer (some ⟨b6, 0, none⟩), .pointer (some ⟨b7, 0, none⟩)] _ _ (fun e _ A' => A' = [box b6 47 [.int .i64 0, .slice none 0 0, .slice none 0 0, .slice none 0 0, .slice none 0 0], box b7 55 [.bool false, .slice none 0 0, .slice none 0 0, .slice none 0 0]] ∧ askE w k r = e ∧ e ≠ 0) (ask1c_fn M ws w hw k As Ar Af Ad cs cr cf cd h1 h2 h3 h4 hfc2.2 r b3 b4 b5 b6 b7)) (take5 (by repeat (first | exact Del.here | apply Del.there)) (by repeat (first | exact Del.here | apply Del.there)) (by repeat (first | exact Del.here | apply Del.there)) (by repeat (first | exact Del.here | apply Del.there)) (by repeat (first | exact Del.here | apply Del.there))) rfl ?_
 rintro _ M1 A' hm (⟨rfl, -, hv, hask, x1, x2, x3, x4, x5, a1, a2, a3, a4, hR, rfl⟩ | ⟨e, rfl, rfl, he, hne⟩)
 ·simp only [List.cons_append, List.nil_append]
  obtain ⟨y1, y2, y3, y4, y5, z1, z2, z3, z4, e1, e2, ⟨o1, o2, o3, o4, o5⟩, o6, o7, o8, o9⟩ := hR.lit
  injection e1 with e1
  injection e2 with e2
  simp only [Array.mk.injEq, List.cons.injEq, and_true] at e1 e2
  obtain ⟨rfl, rfl, rfl, rfl, rfl⟩ := e1
  obtain ⟨rfl, rfl, rfl, rfl⟩ := e2
  (refine rQ ?_)
  (((apply Tr.draw); (kernel_rfl)); (refine tkQ 0 (hB := by exact fun _ h => h) (s := by exact swQ) ?_); (refine tkQ 1 (s := by exact swQ) ?_); (refine tkQ 2 (s := by exact Stab.move rfl) ?_); (refine TrA.eff 3 rfl (by kernel_rfl) (by exact .inl rfl) ?_); (((refine Knd.store ?_); ((refine xWQ ?_)))); (refine ⟨(by first | exact Mem.le.refl _ | assumption), (by exact fun _ h => h), ?_⟩); (refine TrA.eff 4 rfl (by kernel_rfl) (by exact .inl rfl) ?_); (((refine Knd.store ?_); ((refine xWQ ?_)))); (refine ⟨(by first | exact Mem.le.refl _ | assumption), (by exact fun _ h => h), ?_⟩); (refine tkQ 5 (s := by exact Stab.assign rfl) ?_); (refine TrA.done (by kernel_rfl) ?_))
  (repeat (first | (with_reducible first | apply Tr.next | apply Tr.ret)))
  (refine Tr.done (by first | exact .inl rfl | exact .inr rfl) rfl (by repeat (first | exact RVs.nil | (apply RVs.cons; (first | exact RV.tmp rfl | exact RV.cellW (by rfl) (tysOk.get (by rfl)) (by rfl) (by repeat (first | exact Has.here | apply Has.there)) (by first | rfl | assumption))))) (by first | exact Mem.le.refl _ | assumption) (by exact ⟨[_, _], rfl⟩) ⟨rfl, ?_⟩)
  exact .inl ⟨hask, hv, _, _, rfl, hR⟩
 ·simp only [List.cons_append, List.nil_append]
  (refine rQ ?_)
  (((apply Tr.draw); (kernel_rfl)); (refine tkQ 0 (hB := by exact fun _ h => h) (s := by exact swQ) ?_); (refine tkQ 1 (s := by exact swQ) ?_); (refine tkQ 2 (s := by exact Stab.move rfl) ?_); (refine TrA.eff 3 rfl (by kernel_rfl) (by exact .inl rfl) ?_); (((refine Knd.store ?_); ((refine xWQ ?_)))); (refine ⟨(by first | exact Mem.le.refl _ | assumption), (by exact fun _ h => h), ?_⟩); (refine TrA.eff 4 rfl (by kernel_rfl) (by exact .inl rfl) ?_); (((refine Knd.store ?_); ((refine xWQ ?_)))); (refine ⟨(by first | exact Mem.le.refl _ | assumption), (by exact fun _ h => h), ?_⟩); (refine tkQ 5 (s := by exact Stab.assign rfl) ?_); (refine TrA.done (by kernel_rfl) ?_))
  (repeat (first | (with_reducible first | apply Tr.next | apply Tr.ret)))
  (refine Tr.done (by first | exact .inl rfl | exact .inr rfl) rfl (by repeat (first | exact RVs.nil | (apply RVs.cons; (first | exact RV.tmp rfl | exact RV.cellW (by rfl) (tysOk.get (by rfl)) (by rfl) (by repeat (first | exact Has.here | apply Has.there)) (by first | rfl | assumption))))) (by first | exact Mem.le.refl _ | assumption) (by exact ⟨[_, _], rfl⟩) ⟨rfl, ?_⟩)
  exact .inr ⟨he ▸ hne, by rw [he]; rfl⟩
end Go.Proofs.Ytcadnjmcmegpjaa

/-
 Honour: what is not broken can be met together, whatever happens. Plain.
 Conditions: none.
-/
namespace Go.Proofs.Ytcadnjmcmegpjaa
open Go Bf
theorem askF_lt {s : St} {j : Nat} (h : askF s j = true) : j < s.br.length ∧ s.br.getD j 0 < 0 := by
 have h2 := Bool.and_eq_true_iff.1 h
 exact ⟨of_decide_eq_true h2.1, of_decide_eq_true h2.2⟩
theorem askF_of {s : St} {j : Nat} (h1 : j < s.br.length) (h2 : s.br.getD j 0 < 0) : askF s j = true := Bool.and_eq_true_iff.2 ⟨decide_eq_true h1, decide_eq_true h2⟩
theorem fail_nil {x : Fx} {s : St} (hf : Fit x s) (hh : Held x s) (e : Nat) : failF x s e = [] :=
 failL_all (fun S T h hS => srvP_mono hf.amr S T h hS) (srvP_mono hf.amr _ _ (fun _ hb => (Bool.and_eq_true_iff.1 hb).2) hh)
theorem fail_nil_iff {x : Fx} {s : St} (hf : Fit x s) : failF x s s.nd.length = [] ↔ Held x s := by
 refine ⟨fun h => srvP_mono hf.amr _ _ (fun b hb => ?_) (acc_ok (ask := askF s) (srvP_none hf) s.nd.length), fun h => fail_nil hf h _⟩
 have h1 := askF_lt hb
 cases hc : acc (srvP x s) (askF s) s.nd.length b with
 | true => rfl
 | false =>
  have := mem_failL.2 ⟨by have := hf.brl; omega, hb, hc⟩
  rw [show failL (srvP x s) (askF s) s.nd.length = failF x s s.nd.length from rfl, h] at this
  cases this
theorem markF_br {x : Fx} {s : St} {at_ j : Nat} (h : j < s.br.length) : (markF x s at_).br.getD j 0 = if j ∈ failF x s s.nd.length then (at_ : Int) else s.br.getD j 0 := by
 simp [markF, List.getD_eq_getElem?_getD, h]
theorem markF_brl {x : Fx} {s : St} {at_ : Nat} : (markF x s at_).br.length = s.br.length := by simp [markF]
theorem held_mark {x : Fx} {s : St} (hf : Fit x s) (at_ : Nat) : Held x (markF x s at_) := by
 refine srvP_mono (s := markF x s at_) hf.amr _ _ (fun b hb => ?_) (show srvP x (markF x s at_) (acc (srvP x s) (askF s) s.nd.length) from acc_ok (srvP_none hf) s.nd.length)
 obtain ⟨h1, h2⟩ := askF_lt hb
 rw [markF_brl] at h1
 rw [markF_br h1] at h2
 by_cases hm : b ∈ failF x s s.nd.length
 ·rw [if_pos hm] at h2; omega
 ·rw [if_neg hm] at h2
  cases hc : acc (srvP x s) (askF s) s.nd.length b with
  | true => rfl
  | false => exact absurd (mem_failL.2 ⟨by have := hf.brl; omega, askF_of h1 h2, hc⟩) hm
theorem Fit.mark {x : Fx} {s : St} (h : Fit x s) (at_ : Nat) : Fit x (markF x s at_) :=
 ⟨h.l64, h.r64, h.dyl, by rw [markF_brl]; exact h.brl, h.dul, h.fil, h.row, h.amr, h.ndr, h.dyr, h.dur⟩
theorem set_all {l : List Int} {R : Int → Prop} (h : ∀ a ∈ l, R a) {v : Int} (hv : R v) (i : Nat) : ∀ a ∈ l.set i v, R a := fun a ha => (List.mem_or_eq_of_mem_set ha).elim (h a) (fun e => e ▸ hv)
theorem Fit.setAm {x : Fx} {s : St} (h : Fit x s) {v : Int} (hv : 0 ≤ v ∧ v ≤ 1048576) (i : Nat) : Fit x { s with am := s.am.set i v } :=
 ⟨by show (s.am.set i v).length ≤ 64; rw [List.length_set]; exact h.l64, h.r64, by show s.dy.length = (s.am.set i v).length; rw [List.length_set]; exact h.dyl, h.brl, h.dul, by show _ = (s.am.set i v).length; rw [List.length_set]; exact h.fil, h.row, set_all h.amr hv i, h.ndr, h.dyr, h.dur⟩
theorem Fit.setDy {x : Fx} {s : St} (h : Fit x s) {v : Int} (hv : 0 ≤ v ∧ v ≤ 1024) (i : Nat) : Fit x { s with dy := s.dy.set i v } :=
 ⟨h.l64, h.r64, by show (s.dy.set i v).length = _; rw [List.length_set]; exact h.dyl, h.brl, h.dul, h.fil, h.row, h.amr, h.ndr, set_all h.dyr hv i, h.dur⟩
theorem Fit.setNd {x : Fx} {s : St} (h : Fit x s) {v : Int} (hv : 0 ≤ v ∧ v ≤ 1048576) (i : Nat) : Fit x { s with nd := s.nd.set i v } :=
 ⟨h.l64, by show (s.nd.set i v).length ≤ 64; rw [List.length_set]; exact h.r64, h.dyl, by show _ = (s.nd.set i v).length; rw [List.length_set]; exact h.brl, by show _ = (s.nd.set i v).length; rw [List.length_set]; exact h.dul, h.fil, by show ∀ r ∈ x.fits, r.length = (s.nd.set i v).length; rw [List.length_set]; exact h.row, h.amr, set_all h.ndr hv i, h.dyr, h.dur⟩
inductive Stp (x : Fx) (s : St) (h : Hp) (at_ : Nat) : St → Prop
 | lose (i : Nat) : h.kind = 1 → h.sup = (i : Int) → i < s.am.length → 1 ≤ h.amt → h.amt ≤ s.am.getD i 0 → Stp x s h at_ (markF x { s with am := s.am.set i (s.am.getD i 0 - h.amt) } at_)
 | late (i : Nat) : h.kind = 2 → h.sup = (i : Int) → i < s.am.length → s.dy.getD i 0 ≤ h.day → h.day ≤ 1024 → Stp x s h at_ (markF x { s with dy := s.dy.set i h.day } at_)
 | ship (i j : Nat) : h.kind = 3 → h.sup = (i : Int) → h.req = (j : Int) → i < s.am.length → j < s.nd.length → s.br.getD j 0 < 0 → (x.fits.getD i []).getD j false = true → s.dy.getD i 0 ≤ h.day → h.day ≤ x.due.getD j 0 → 1 ≤ h.amt → h.amt ≤ s.am.getD i 0 → h.amt ≤ s.nd.getD j 0 →
   failF x { s with am := s.am.set i (s.am.getD i 0 - h.amt), nd := s.nd.set j (s.nd.getD j 0 - h.amt) } s.nd.length = [] → Stp x s h at_ { s with am := s.am.set i (s.am.getD i 0 - h.amt), nd := s.nd.set j (s.nd.getD j 0 - h.amt) }
theorem nat_of {z : Int} {n : Nat} (h : 0 ≤ z ∧ z ≤ (n : Int) - 1) : ∃ i : Nat, z = (i : Int) ∧ z.toNat = i ∧ i < n := ⟨z.toNat, by omega, rfl, by omega⟩
theorem stepF_some {x : Fx} {s s' : St} {h : Hp} {at_ : Nat} : stepF x s h at_ = some s' ↔ Stp x s h at_ s' := by
 unfold stepF
 constructor
 ·intro e
  by_cases k1 : h.kind = 1
  ·rw [if_pos k1] at e
   split at e
   ·rename_i c
    obtain ⟨i, e1, e2, e3⟩ := nat_of c.1
    rw [e2] at e c
    cases e
    exact .lose i k1 e1 e3 c.2.1 c.2.2
   ·cases e
  rw [if_neg k1] at e
  by_cases k2 : h.kind = 2
  ·rw [if_pos k2] at e
   split at e
   ·rename_i c
    obtain ⟨i, e1, e2, e3⟩ := nat_of c.1
    rw [e2] at e c
    cases e
    exact .late i k2 e1 e3 c.2.1 c.2.2
   ·cases e
  rw [if_neg k2] at e
  by_cases k3 : h.kind = 3
  ·rw [if_pos k3] at e
   split at e
   ·rename_i c
    obtain ⟨i, e1, e2, e3⟩ := nat_of c.1.1
    obtain ⟨j, f1, f2, f3⟩ := nat_of c.1.2
    rw [e2, f2] at e c
    cases e
    obtain ⟨-, ⟨c1, ⟨c2, c3⟩, c4, c5⟩, ⟨c6, c7⟩, c8⟩ := c
    exact .ship i j k3 e1 f1 e3 f3 c1 c2 c4 c5 c6 (by omega) (by omega) c8
   ·cases e
  rw [if_neg k3] at e
  cases e
 ·intro e
  cases e with
  | lose i k e1 e2 e3 e4 =>
   have e5 : h.sup.toNat = i := by omega
   rw [if_pos k, e5, if_pos ⟨by omega, e3, e4⟩]
  | late i k e1 e2 e3 e4 =>
   have e5 : h.sup.toNat = i := by omega
   rw [if_neg (by omega), if_pos k, e5, if_pos ⟨by omega, e3, e4⟩]
  | ship i j k e1 e2 e3 e4 e5 e6 e7 e8 e9 e10 e11 e12 =>
   have f1 : h.sup.toNat = i := by omega
   have f2 : h.req.toNat = j := by omega
   rw [if_neg (by omega), if_neg (by omega), if_pos k, f1, f2, if_pos ⟨⟨by omega, by omega⟩, ⟨e5, ⟨e6, by omega⟩, e7, e8⟩, ⟨e9, by omega⟩, e12⟩]
theorem Stp.keep {x : Fx} {s s' : St} {h : Hp} {at_ : Nat} (hs : Stp x s h at_ s') (hf : Fit x s) : Fit x s' ∧ Held x s' := by
 cases hs with
 | lose i k e1 e2 e3 e4 =>
  have hr := getD_rng hf.amr i
  have hf' := hf.setAm (v := s.am.getD i 0 - h.amt) (by omega) i
  exact ⟨hf'.mark at_, held_mark hf' at_⟩
 | late i k e1 e2 e3 e4 =>
  have h0 : 0 ≤ s.dy.getD i 0 := by
   rw [List.getD_eq_getElem?_getD, List.getElem?_eq_getElem (by have := hf.dyl; omega)]
   exact (hf.dyr _ (List.getElem_mem _)).1
  have hf' := hf.setDy (v := h.day) (by omega) i
  exact ⟨hf'.mark at_, held_mark hf' at_⟩
 | ship i j k e1 e2 e3 e4 e5 e6 e7 e8 e9 e10 e11 e12 =>
  have hr := getD_rng hf.amr i
  have hr2 := getD_rng hf.ndr j
  have hf' := (hf.setAm (v := s.am.getD i 0 - h.amt) (by omega) i).setNd (v := s.nd.getD j 0 - h.amt) (by show 0 ≤ s.nd.getD j 0 - h.amt ∧ s.nd.getD j 0 - h.amt ≤ 1048576; omega) j
  refine ⟨hf', (fail_nil_iff hf').1 ?_⟩
  show failF x _ (s.nd.set j (s.nd.getD j 0 - h.amt)).length = []
  rw [List.length_set]
  exact e12
theorem stepsF_keep {x : Fx} : ∀ {l : List Hp} {s s' : St} {at_ : Nat}, stepsF x s at_ l = some s' → Fit x s → Held x s → Fit x s' ∧ Held x s'
 | [], s, s', at_, h, hf, hh => by
  cases h
  exact ⟨hf, hh⟩
 | y :: l, s, s', at_, h, hf, hh => by
  rw [stepsF] at h
  cases hs : stepF x s y at_ with
  | none => rw [hs] at h; cases h
  | some t =>
   rw [hs] at h
   have := (stepF_some.1 hs).keep hf
   exact stepsF_keep (l := l) h this.1 this.2
theorem begin_fit {b : Bk} (h : formedB b) : Fit (fxB b) (beginF b) := by
 obtain ⟨h1, h2, h3, h4, h5, h6⟩ := h
 refine ⟨by simp [beginF]; exact h1, by simp [beginF]; exact h2, by simp [beginF], by simp [beginF], by simp [fxB, beginF], by simp [fxB, beginF]; exact h5, ?_, ?_, ?_, ?_, ?_⟩
 ·intro r hr
  simp only [beginF, List.length_map]
  exact h6 r hr
 ·intro a ha
  simp only [beginF, List.mem_map] at ha
  obtain ⟨y, hy, rfl⟩ := ha
  exact (h3 y hy).1
 ·intro a ha
  simp only [beginF, List.mem_map] at ha
  obtain ⟨y, hy, rfl⟩ := ha
  exact (h4 y hy).1
 ·intro a ha
  simp only [beginF, List.mem_map] at ha
  obtain ⟨y, hy, rfl⟩ := ha
  exact (h3 y hy).2
 ·intro a ha
  simp only [fxB, List.mem_map] at ha
  obtain ⟨y, hy, rfl⟩ := ha
  exact (h4 y hy).2
theorem run_keep {b : Bk} {l : List Hp} {s : St} (h : runF b l = some s) : formedB b ∧ Fit (fxB b) s ∧ Held (fxB b) s := by
 unfold runF at h
 split at h
 ·rename_i hv
  have hf := begin_fit hv.1
  have hh := (fail_nil_iff hf).1 (by show failF _ _ (b.reqs.map (·.amount)).length = []; rw [List.length_map]; exact hv.2)
  exact ⟨hv.1, stepsF_keep h hf hh⟩
 ·cases h
end Go.Proofs.Ytcadnjmcmegpjaa

/-
 Honour: between, require, serves.
 Conditions: none.
-/
namespace Go.Proofs.Ytcadnjmcmegpjaa
open Go Bf
attribute [local irreducible] Tr Exec Stab HasTy Go.Addr.add IntKind.wrap
def RSt (M : Mem) (v : Value) (x : Fx) (s : St) : Prop := ∃ Af cf Aa ca Ad cd An cn Au cu Ab cb, v = .agg #[.slice Af x.fits.length cf, .slice Aa s.am.length ca, .slice Ad s.dy.length cd, .slice An s.nd.length cn, .slice Au x.due.length cu, .slice Ab s.br.length cb] ∧
 Fits2 M (.slice Af x.fits.length cf) x.fits ∧ Ints M (.slice Aa s.am.length ca) s.am ∧ Ints M (.slice Ad s.dy.length cd) s.dy ∧ Ints M (.slice An s.nd.length cn) s.nd ∧ Ints M (.slice Au x.due.length cu) x.due ∧ Ints M (.slice Ab s.br.length cb) s.br
theorem RSt.mono {M M' : Mem} {v : Value} {x : Fx} {s : St} (h : RSt M v x s) (hm : Mem.le M M') : RSt M' v x s := by
 obtain ⟨Af, cf, Aa, ca, Ad, cd, An, cn, Au, cu, Ab, cb, rfl, h1, h2, h3, h4, h5, h6⟩ := h
 exact ⟨Af, cf, Aa, ca, Ad, cd, An, cn, Au, cu, Ab, cb, rfl, h1.mono RRowB.mono hm, h2.mono RI.mono hm, h3.mono RI.mono hm, h4.mono RI.mono hm, h5.mono RI.mono hm, h6.mono RI.mono hm⟩
theorem between_fn (M : Mem) (n lo hi : Int) : Fn0 Try.prog 26 [.int .i64 n, .int .i64 lo, .int .i64 hi] M (fun r M' => r = .bool (decide (lo ≤ n ∧ n ≤ hi)) ∧ M = M') := by
 refine Fn.intro Try.func26 rfl rfl Try.ntmps26 rfl fun E F => ?_
 by_cases h1 : lo ≤ n
 ·refine rQ ?_
  (refine dnQ (hL := by exact ⟨[], rfl⟩) ⟨rfl, ?_⟩)
  refine ⟨?_, rfl⟩
  rw [show decide (lo ≤ n ∧ n ≤ hi) = decide (n ≤ hi) from decide_eq_decide.2 ⟨fun h => h.2, fun h => ⟨h1, h⟩⟩]
  rfl
 ·refine rQ ?_
  (refine dnQ (hL := by exact ⟨[], rfl⟩) ⟨rfl, ?_⟩)
  refine ⟨?_, rfl⟩
  rw [show decide (lo ≤ n ∧ n ≤ hi) = false from decide_eq_false (fun h => h1 h.1)]
  rfl
def refCh : List PanicEntry := [{ v := .iface 48 (.int .i64 330), recovered := false }]
theorem refuse_fn (M : Mem) : FnP Try.prog 87 [] M [] (fun _ _ _ => False) (fun ch M' A' => ch = refCh ∧ A' = [] ∧ M = M') := by
 refine FnP.intro Try.func87 rfl rfl Try.ntmps87 rfl fun E F => ?_
 repeat (first | ((with_reducible refine Tr.step rfl ?_); (first | ((with_reducible refine Knd.makeInterface ?_); (refine Exec.stab rfl (Stab.makeIface rfl (by kernel_rfl)) rfl ?_)) | ((with_reducible refine Knd.panic ?_); (refine Exec.panic rfl ?_)))) | (with_reducible refine Tr.region ?_))
 exact Tr.doneP (A' := []) (Mem.le.refl _) (by repeat (first | exact DropL.refl | apply DropL.skip)) ⟨rfl, rfl, rfl⟩
theorem require_y (M : Mem) : Fn0 Try.prog 60 [.bool true] M (fun _ M' => M = M') := by
 refine Fn.intro Try.func60 rfl rfl Try.ntmps60 rfl fun E F => ?_
 refine rQ ?_
 (refine Tr.done (by first | exact .inl rfl | exact .inr rfl) rfl (by repeat (exact RVs.nil)) (by first | exact Mem.le.refl _ | assumption) (by exact ⟨[], rfl⟩) ⟨rfl, ?_⟩)
 rfl
theorem require_n (M : Mem) : FnP Try.prog 60 [.bool false] M [] (fun _ _ _ => False) (fun ch M' A' => ch = refCh ∧ A' = [] ∧ M = M') := by
 refine FnP.intro Try.func60 rfl rfl Try.ntmps60 rfl fun E F => ?_
 refine rQ ?_
 ((refine Tr.step rfl ?_))
 refine Exec.callP rfl (refuse_fn M) (List.Perm.refl _) rfl (fun v M' A' hm hR => hR.elim) (fun ch M' A' hm hR => ?_)
 obtain ⟨rfl, rfl, rfl⟩ := hR
 repeat (fail)
 exact Tr.doneP (A' := []) (Mem.le.refl _) (by repeat (first | exact DropL.refl | apply DropL.skip)) ⟨rfl, rfl, rfl⟩
theorem hserves_fn (M : Mem) (v : Value) (x : Fx) (s : St) (i j : Nat) (h : RSt M v x s) (hi : i < x.fits.length) (hi2 : i < s.dy.length) (hj : j < x.due.length) (hr : ∀ r ∈ x.fits, r.length = x.due.length) :
  Fn0 Try.prog 83 [v, .int .i64 (i : Int), .int .i64 (j : Int)] M (fun r M' => r = .bool ((x.fits.getD i []).getD j false && decide (s.dy.getD i 0 ≤ x.due.getD j 0)) ∧ M = M') := by
 obtain ⟨Af, cf, Aa, ca, Ad, cd, An, cn, Au, cu, Ab, cb, rfl, h1, h2, h3, h4, h5, h6⟩ := h
 obtain ⟨row, hrow⟩ := get_of_lt hi
 have hrl := hr row (List.mem_of_getElem? hrow)
 obtain ⟨hA1, ch, hat1, Ar, kr, rfl, hb⟩ := h1.elem hrow
 obtain ⟨t, ht⟩ := get_of_lt (xs := row) (i := j) (by omega)
 obtain ⟨hA2, hat2⟩ := hb.at ht
 obtain ⟨d, hd⟩ := get_of_lt hi2
 obtain ⟨hA3, hat3⟩ := h3.at hd
 obtain ⟨u, hu⟩ := get_of_lt hj
 obtain ⟨hA4, hat4⟩ := h5.at hu
 rw [getD_of hrow, getD_of ht, getD_of hd, getD_of hu]
 refine Fn.intro Try.func83 rfl rfl Try.ntmps83 rfl fun E F => ?_
 cases t
 ·repeat (first | ((with_reducible refine Tr.step rfl ?_); (first | (refine xaQ ?_) | ((with_reducible refine Knd.box ?_); ((refine Exec.box rfl rfl (fun b => ?_)))))) | (with_reducible first | apply Tr.next | apply Tr.seq | apply Tr.region | apply Tr.nil))
  (((apply Tr.draw); (kernel_rfl)); (refine tkQ 0 (hB := by exact fun _ h => h) (s := by exact sfQ) ?_); (refine tkQ 2 (s := by exact Stab.move rfl) ?_); (refine tkQ 5 (s := by exact Stab.move rfl) ?_); (refine tkQ 1 (s := by exact slQ) ?_); (refine tkQ 3 (s := by exact sxQ) ?_); (refine tkQ 4 (s := by exact sMQ) ?_); (refine tkQ 6 (s := by exact sxQ) ?_); (refine tkQ 7 (s := by exact sMQ) ?_); (refine tkQ 8 (s := by exact Stab.move rfl) ?_); ((refine tuQ 9 ?_)); ((refine tuQ 11 ?_)); ((refine tuQ 14 ?_)); ((refine tuQ 16 ?_)); ((refine tuQ 10 ?_)); ((refine tuQ 15 ?_)); ((refine tuQ 12 ?_)); ((refine tuQ 17 ?_)); ((refine tuQ 13 ?_)); ((refine tuQ 18 ?_)); ((refine tuQ 19 ?_)); (refine tkQ 20 (s := by exact Stab.pick_f rfl (by (with_reducible rfl)) rfl) ?_); (refine tkQ 21 (s := by exact Stab.assign rfl) ?_); (refine TrA.done (by kernel_rfl) ?_))
  repeat (first | (with_reducible first | apply Tr.next | apply Tr.ret))
  (refine dnQ (hL := by exact ⟨[_], rfl⟩) ⟨rfl, ?_⟩)
  exact ⟨rfl, rfl⟩
 ·repeat (first | ((with_reducible refine Tr.step rfl ?_); (first | (refine xaQ ?_) | ((with_reducible refine Knd.box ?_); ((refine Exec.box rfl rfl (fun b => ?_)))))) | (with_reducible first | apply Tr.next | apply Tr.seq | apply Tr.region | apply Tr.nil))
  (((apply Tr.draw); (kernel_rfl)); (refine tkQ 0 (hB := by exact fun _ h => h) (s := by exact sfQ) ?_); (refine tkQ 2 (s := by exact Stab.move rfl) ?_); (refine tkQ 5 (s := by exact Stab.move rfl) ?_); (refine tkQ 1 (s := by exact slQ) ?_); (refine tkQ 3 (s := by exact sxQ) ?_); (refine tkQ 4 (s := by exact sMQ) ?_); (refine tkQ 6 (s := by exact sxQ) ?_); (refine tkQ 7 (s := by exact sMQ) ?_); (refine tkQ 8 (s := by exact Stab.move rfl) ?_); ((refine tgQ 9 (s := by exact sfQ) ?_)); ((refine tgQ 11 (s := by exact Stab.move rfl) ?_)); ((refine tgQ 14 (s := by exact sfQ) ?_)); ((refine tgQ 16 (s := by exact Stab.move rfl) ?_)); ((refine tgQ 10 (s := by exact slQ) ?_)); ((refine tgQ 15 (s := by exact slQ) ?_)); ((refine tgQ 12 (s := by exact sxQ) ?_)); ((refine tgQ 17 (s := by exact sxQ) ?_)); ((refine tgQ 13 (s := by exact sMQ) ?_)); ((refine tgQ 18 (s := by exact sMQ) ?_)); ((refine tgQ 19 (s := by exact siQ) ?_)); (refine tkQ 20 (s := by exact Stab.pick_t rfl (by (with_reducible rfl)) rfl) ?_); (refine tkQ 21 (s := by exact Stab.assign rfl) ?_); (refine TrA.done (by kernel_rfl) ?_))
  repeat (first | (with_reducible first | apply Tr.next | apply Tr.ret))
  (refine dnQ (hL := by exact ⟨[_], rfl⟩) ⟨rfl, ?_⟩)
  exact ⟨rfl, rfl⟩
end Go.Proofs.Ytcadnjmcmegpjaa

/-
 Matching: the contract of copyRows; rows of truth values that are owned, lent.
 Conditions: none.
-/
namespace Go.Proofs.Ytcadnjmcmegpjaa
open Go Bf
attribute [local irreducible] Tr Exec Stab HasTy Go.Addr.add IntKind.wrap
abbrev RowC := Option Addr × Nat × List Bool
def ptrC (l : List RowC) : List Value := l.map fun x => .slice x.1 x.2.2.length x.2.1
@[simp] theorem ptrC_length (a : List RowC) : (ptrC a).length = a.length := by simp [ptrC]
theorem boV_one (l : List Bool) : ∀ u ∈ boV l, u.oneCell' = true := by
 intro u hu
 obtain ⟨x, _, rfl⟩ := List.mem_map.1 hu
 rfl
theorem boV_elems (M : Mem) (l : List Bool) : Elems 1 RBo M (boV l) l := by
 refine ⟨by simp, fun i x hx => ?_⟩
 show _ = _
 rw [Nat.mul_one, List.take_one, List.head?_drop, boV_get hx]
 rfl
theorem boV_cells {M : Mem} {cells : List Value} {l : List Bool} (h : Elems 1 RBo M cells l) : cells = boV l := by
 apply List.ext_getElem?
 intro i
 have hl := h.1
 rw [Nat.mul_one] at hl
 by_cases hi : i < l.length
 ·have := h.2 i l[i] (by simp [hi])
  have e : cells[i]? = some (.bool l[i]) := by
   have : (cells.drop (i * 1)).take 1 = [.bool l[i]] := this
   rw [Nat.mul_one, List.take_one, List.head?_drop] at this
   cases hc : cells[i]? with
   | none => rw [hc] at this; cases this
   | some v => rw [hc] at this; simp at this; rw [this]
  rw [e, boV_get (x := l[i]) (by simp [hi])]
 ·rw [List.getElem?_eq_none (by omega), List.getElem?_eq_none (by simp; omega)]
theorem Bools.row {M : Mem} {A : Option Addr} {n c : Nat} {l : List Bool} (h : Bools M (.slice A n c) l) : Row M A l.length 1 (boV l) ∧ l.length ≤ c ∧ c ≤ 9223372036854775807 ∧ (A = none → l.length = 0) := by
 obtain ⟨cells, h1, h2, h3, h4, hr, he⟩ := h.cells
 exact ⟨boV_cells he ▸ hr, h2, h3, h4⟩
end Go.Proofs.Ytcadnjmcmegpjaa

/-
 Honour: serving.
 Conditions: none.
-/
namespace Go.Proofs.Ytcadnjmcmegpjaa
open Go Bf
attribute [local irreducible] Tr Exec Stab HasTy Go.Addr.add IntKind.wrap
theorem boV_app (a b : List Bool) : boV (a ++ b) = boV a ++ boV b := by simp [boV]
def rowT (x : Fx) (s : St) (i : Nat) : List Bool := (List.range x.due.length).map fun j => (x.fits.getD i []).getD j false && decide (s.dy.getD i 0 ≤ x.due.getD j 0)
theorem rowT_length (x : Fx) (s : St) (i : Nat) : (rowT x s i).length = x.due.length := by simp [rowT]
theorem rowT_take (x : Fx) (s : St) (i j : Nat) (h : j < x.due.length) : (rowT x s i).take (j + 1) = (rowT x s i).take j ++ [(x.fits.getD i []).getD j false && decide (s.dy.getD i 0 ≤ x.due.getD j 0)] := by
 rw [List.take_add_one]
 congr 1
 simp [rowT, h]
theorem tabL_rows (x : Fx) (s : St) : tabL x.fits x.due s.dy = (List.range s.dy.length).map (rowT x s) := rfl
theorem set_mid {α : Type} (a : List α) (n i : Nat) (z v : α) (ha : a.length = i) (hi : i < n) : (a ++ List.replicate (n - i) z).set i v = (a ++ [v]) ++ List.replicate (n - (i + 1)) z := by
 rw [List.set_append_right _ _ (by omega), ha, Nat.sub_self, show n - i = (n - (i + 1)) + 1 by omega, List.replicate_succ, List.set_cons_zero, List.append_assoc]
 rfl
set_option maxHeartbeats 4000000 in
theorem serving_fn (M : Mem) (v : Value) (x : Fx) (s : St) (h : RSt M v x s) (hf : Fit x s) :
  Fn0 Try.prog 57 [v] M (fun r M' => ∃ A c, r = .slice A (tabL x.fits x.due s.dy).length c ∧ Fits2 M' (.slice A (tabL x.fits x.due s.dy).length c) (tabL x.fits x.due s.dy)) := by
 have hS := h
 obtain ⟨Af, cf, Aa, ca, Ad, cd, An, cn, Au, cu, Ab, cb, rfl, h1, h2, h3, h4, h5, h6⟩ := h
 have l1 := hf.l64
 have l2 := hf.r64
 have l3 := hf.dyl
 have l4 := hf.dul
 have l5 := hf.fil
 have hrow : ∀ r ∈ x.fits, r.length = x.due.length := fun r hr => by rw [l4]; exact hf.row r hr
 refine Fn.intro Try.func57 rfl rfl Try.ntmps57 rfl fun E F => ?_
 repeat (first | ((with_reducible refine Tr.step rfl ?_); (first | (refine xmQ ?_) | (refine xaQ ?_) | (refine xlQ ?_) | (refine xfQ ?_) | (refine xnQ ?_) | ((with_reducible refine Knd.box ?_); ((refine Exec.box rfl rfl (fun b => ?_)))) | ((with_reducible refine Knd.makeSlice ?_); (refine Exec.make rfl rfl (tysOk.get rfl) rfl (tysOk.get rfl) rfl rfl rfl (by omega) (by omega) (by first | omega | (simp; done) | (simp; omega)) (by omega) rfl (fun b => ?_))))) | (with_reducible first | apply Tr.next | apply Tr.seq | apply Tr.region | apply Tr.nil | apply Tr.block))
 generalize b = bo
 rename_i bs
 refine Tr.loop (α := Nat × Mem × List Value) (fun y => ⟨43, [(12, .int .i64 (y.1 : Int)), (11, .int .i64 (s.am.length : Int)), (3, .slice (some ⟨bo, 0, none⟩) s.am.length s.am.length), (1, .pointer (some ⟨bs, 0, none⟩))], [], y.2.1, box bo 112 (y.2.2 ++ List.replicate (s.am.length - y.1) (.slice none 0 0)) :: box bs 89 [.slice Af x.fits.length cf, .slice Aa s.am.length ca, .slice Ad s.dy.length cd, .slice An s.nd.length cn, .slice Au x.due.length cu, .slice Ab s.br.length cb] :: ([] ++ F)⟩)
  (fun y => y.1 ≤ s.am.length ∧ Mem.le M y.2.1 ∧ y.2.2.length = y.1 ∧ Elems 1 RRowB y.2.1 y.2.2 ((List.range y.1).map (rowT x s))) (fun y => s.am.length - y.1) (0, M, []) ⟨Nat.zero_le _, Mem.le.refl _, rfl, Elems.nil⟩ hsQ (fun y hy => ?_)
 obtain ⟨i, M1, cs⟩ := y
 obtain ⟨hi, hm1, hcl, hel⟩ := hy
 simp only at hi hm1 hcl hel
 dsimp only
 by_cases hlt : i < s.am.length
 rotate_left
 ·have e : i = s.am.length := by omega
  subst e
  rw [Nat.sub_self, List.replicate_zero, List.append_nil]
  refine rQ ?_
  refine pbQ (r := box bo _ _) (fun M2 hm2 hok => ?_)
  have hlast := hm1.trans hm2
  (refine dnQ (hL := by exact ⟨[_], rfl⟩) ⟨rfl, ?_⟩)
  rw [tabL_rows, l3]
  have ht := SlOf.ofBox hok (fun u hu => ?_) (by simp; omega) (hel.mono RRowB.mono hm2)
  ·rw [List.length_map, List.length_range] at ht ⊢
   exact ⟨_, _, rfl, ht⟩
  ·obtain ⟨j, hj, rfl⟩ := List.getElem_of_mem hu
   obtain ⟨A9, k9, e9, -⟩ := hel.2 j _ (List.getElem?_eq_getElem (by simp; omega))
   rw [Nat.mul_one, List.take_one, List.head?_drop, List.getElem?_eq_getElem hj] at e9
   simp at e9
   rw [e9]
   rfl
 have hlen : (cs ++ List.replicate (s.am.length - i) (Value.slice none 0 0)).length = s.am.length := by simp; omega
 have hset := fun (v : Value) => set_mid cs s.am.length i (Value.slice none 0 0) v hcl hlt
 repeat (first | ((with_reducible refine Tr.step rfl ?_); (first | (refine xmQ ?_) | (refine xaQ ?_) | (refine xlQ ?_) | (refine xfQ ?_) | (refine xnQ ?_) | (refine xiQ ?_) | ((with_reducible refine Knd.store ?_); ((refine Exec.storeS rfl rfl (tysOk.get rfl) rfl (by first | rfl | assumption) (by repeat (first | exact Upd.here | apply Upd.there)) (by omega) ?_))) | ((with_reducible refine Knd.indexAddr ?_); ((refine Exec.stab rfl (Stab.indexB0 rfl rfl (tysOk.get rfl) rfl (tysOk.get rfl) rfl (by omega) (by omega)) rfl ?_))) | ((with_reducible refine Knd.makeSlice ?_); (refine Exec.make rfl rfl (tysOk.get rfl) rfl (tysOk.get rfl) rfl rfl rfl (by omega) (by omega) (by first | omega | (simp; done) | (simp; omega)) (by omega) rfl (fun b => ?_))))) | (with_reducible first | apply Tr.next | apply Tr.seq | apply Tr.region | apply Tr.nil | apply Tr.skip | apply Tr.block) | (refine Tr.cond_t rfl (by first | (with_reducible assumption) | omega) ?_))
 generalize b = bi
 simp only [Int.toNat_natCast]
 rw [hset]
 have hv : nthL (cs ++ [Value.slice (some ⟨bi, 0, none⟩) s.nd.length s.nd.length] ++ List.replicate (s.am.length - (i + 1)) (Value.slice none 0 0)) i = some (Value.slice (some ⟨bi, 0, none⟩) s.nd.length s.nd.length) := by
  rw [nthL_eq, List.append_assoc, List.getElem?_append_right (by omega), hcl, Nat.sub_self]
  rfl
 generalize hcs : cs ++ [Value.slice (some ⟨bi, 0, none⟩) s.nd.length s.nd.length] ++ List.replicate (s.am.length - (i + 1)) (Value.slice none 0 0) = cs2 at hv
 repeat (first | ((with_reducible refine Tr.step rfl ?_); (first | (refine xmQ ?_) | ((with_reducible refine Knd.load ?_); ((refine Exec.stab rfl (Stab.load rfl (tysOk.get rfl) rfl (by repeat (first | exact Has.here | apply Has.there)) (by assumption)) rfl ?_))) | (refine xnQ ?_))) | (with_reducible first | apply Tr.next | apply Tr.nil | apply Tr.block))
 refine Tr.loop (α := Nat) (fun y => ⟨43, [(27, .int .i64 (y : Int)), (26, .int .i64 (s.nd.length : Int)), (4, .int .i64 (i : Int)), (12, .int .i64 (i : Int)), (11, .int .i64 (s.am.length : Int)), (3, .slice (some ⟨bo, 0, none⟩) s.am.length s.am.length), (1, .pointer (some ⟨bs, 0, none⟩))], [], M1, box bi 4 (boV ((rowT x s i).take y) ++ List.replicate (s.nd.length - y) (.bool false)) :: box bo 112 cs2 :: box bs 89 [.slice Af x.fits.length cf, .slice Aa s.am.length ca, .slice Ad s.dy.length cd, .slice An s.nd.length cn, .slice Au x.due.length cu, .slice Ab s.br.length cb] :: ([] ++ F)⟩)
  (fun y => y ≤ s.nd.length) (fun y => s.nd.length - y) 0 (Nat.zero_le _) hsQ (fun y hy => ?_)
 by_cases hlt2 : y < s.nd.length
 ·have hsv := hserves_fn M1 _ x s i y (hS.mono hm1) (by omega) (by omega) (by omega) hrow
  have htk := rowT_take x s i y (by omega)
  have hbl : (boV ((rowT x s i).take y)).length = y := by rw [boV_length, List.length_take, rowT_length]; omega
  have hlen2 : (boV ((rowT x s i).take y) ++ List.replicate (s.nd.length - y) (Value.bool false)).length = s.nd.length := by rw [List.length_append, hbl, List.length_replicate]; omega
  have hset2 := fun (v : Value) => set_mid (boV ((rowT x s i).take y)) s.nd.length y (Value.bool false) v hbl hlt2
  generalize hq : ((x.fits.getD i []).getD y false && decide (s.dy.getD i 0 ≤ x.due.getD y 0)) = q at hsv htk
  refine rQ ?_
  (((apply Tr.draw ((box bo 112 _ :: _))); (kernel_rfl)); (refine tkQ 0 (hB := by exact (Sub.mem (by repeat (first | exact Sub.refl | apply Sub.cons)))) (s := by exact Stab.move rfl) ?_); (refine tkQ 1 (s := by exact Stab.move rfl) ?_); (refine tkQ 4 (s := by exact Stab.move rfl) ?_); (refine tkQ 5 (s := by exact swQ) ?_); (refine tkQ 6 (s := by exact Stab.move rfl) ?_); (refine tkQ 7 (s := by exact Stab.move rfl) ?_); (refine tkQ 2 (s := by exact Stab.indexB0 rfl rfl (tysOk.get rfl) rfl (tysOk.get rfl) rfl (by omega) (by omega)) ?_); (refine tkQ 3 (s := by exact Stab.load rfl (tysOk.get rfl) rfl (by repeat (first | exact Has.here | apply Has.there)) (by assumption)) ?_); (refine TrA.eff 8 rfl (by kernel_rfl) (by exact .inl rfl) ?_))
  refine Exec.call0 rfl hsv rfl ?_
  rintro _ _ _ ⟨rfl, rfl⟩
  refine ⟨Mem.le.refl _, (by exact (Sub.mem (by repeat (first | exact Sub.refl | apply Sub.cons)))), ?_⟩
  ((refine tkQ 9 (s := by exact Stab.indexB0 rfl rfl (tysOk.get rfl) rfl (tysOk.get rfl) rfl (by omega) (by omega)) ?_); (refine TrA.eff 10 rfl (by kernel_rfl) (by exact .inl rfl) ?_); (((refine Knd.store ?_); ((refine Exec.storeS rfl rfl (tysOk.get rfl) rfl (by first | rfl | assumption) (by repeat (first | exact Upd.here | apply Upd.there)) (by omega) ?_)))); (refine ⟨(by first | exact Mem.le.refl _ | assumption), (by exact (Sub.mem (by repeat (first | exact Sub.refl | apply Sub.cons)))), ?_⟩); (refine TrA.done (by kernel_rfl) ?_))
  rw [Int.toNat_natCast y, hset2, show boV ((rowT x s i).take y) ++ [Value.bool q] = boV ((rowT x s i).take (y + 1)) by rw [htk, boV_app]; rfl]
  refine rQ ?_
  exact Tr.again (y + 1) (by omega) (by omega) hsQ
 have e : y = s.nd.length := by omega
 subst e
 rw [Nat.sub_self, List.replicate_zero, List.append_nil, List.take_of_length_le (by rw [rowT_length]; omega)]
 refine rQ ?_
 refine pbQ (r := box bi 4 _) (fun M2 hm2 hok => ?_)
 have hB : Bools M2 (.slice (some ⟨bi, 0, none⟩) (rowT x s i).length (rowT x s i).length) (rowT x s i) := SlOf.ofBox hok (boV_one _) (by rw [rowT_length]; omega) (boV_elems M2 _)
 rw [rowT_length, l4] at hB
 rw [← hcs]
 refine Tr.again (i + 1, M2, cs ++ [Value.slice (some ⟨bi, 0, none⟩) s.nd.length s.nd.length]) ⟨by simp only; omega, hm1.trans hm2, by simp only [List.length_append, List.length_singleton]; omega, ?_⟩ (by simp only; omega) hsQ
 simp only
 rw [List.range_succ, List.map_append]
 exact (hel.mono RRowB.mono hm2).append (Elems.one rfl ⟨_, _, by rw [rowT_length, l4], by rw [rowT_length, l4]; exact hB⟩)
end Go.Proofs.Ytcadnjmcmegpjaa

/-
 Honour: is it possible to meet requests together?
 Conditions: none.
-/
namespace Go.Proofs.Ytcadnjmcmegpjaa
open Go Bf
attribute [local irreducible] Tr Exec Stab HasTy Go.Addr.add IntKind.wrap
theorem isLack_feas {p : Pb} {L : Int} (h : IsLack p L) (hs : ∀ k, k < p.n → 0 ≤ p.sup k) (hn : ∀ b, b < p.m → 0 ≤ p.need b) : L = 0 ↔ Feas p := by
 have h0 : lackOf p (fun _ => false) = 0 := by
  unfold lackOf
  have e1 : sumN p.m (fun b => if (fun _ => false) b = true then p.need b else 0) = 0 := sumN_zero fun _ _ => rfl
  have e2 : sumN p.n (fun k => if touches p (fun _ => false) k = true then p.sup k else 0) = 0 := sumN_zero fun k _ => by
   rw [if_neg]
   rw [touches_iff]
   rintro ⟨b, -, hb, -⟩
   cases hb
  rw [e1, e2]; rfl
 rw [feas_iff hs hn]
 constructor
 ·rintro rfl D
  exact h.2 D
 ·intro hD
  obtain ⟨⟨D, hL⟩, h2⟩ := h
  have h3 := h2 fun _ => false
  have h4 := hD D
  omega
theorem vld_feas {fits : List (List Bool)} {sup need : List Int} (hv : Vld fits sup need) {L : Int} (h : IsLack (pbOf fits sup need) L) : L = 0 ↔ Feas (pbOf fits sup need) := by
 obtain ⟨-, -, -, -, h5, h6⟩ := hv
 exact isLack_feas h (fun k _ => (getD_rng h5 k).1) (fun b _ => (getD_rng h6 b).1)
theorem take_sum {l : List Int} {i : Nat} {x : Int} (h : l[i]? = some x) : (l.take (i + 1)).sum = (l.take i).sum + x := by
 rw [List.take_add_one, h, List.sum_append]
 simp
theorem take_sum_rng {l : List Int} (hl : l.length ≤ 64) (h : ∀ x ∈ l, 0 ≤ x ∧ x ≤ 1048576) (i : Nat) : 0 ≤ (l.take i).sum ∧ (l.take i).sum ≤ 67108864 :=
 sum_rng (by rw [List.length_take]; omega) fun x hx => h x (List.mem_of_mem_take hx)
set_option maxHeartbeats 4000000 in
theorem possible_own (M : Mem) (bm b6 b5 b2 : Nat) (At_ : Option Addr) (ct : Nat) (v0 v2 v3 v4 v5 : Value) (Aa : Option Addr) (ca : Nat) (tab : List (List Bool)) (am met : List Int) (ht : Fits2 M (.slice At_ tab.length ct) tab) (ha : Ints M (.slice Aa am.length ca) am) (hv : Vld tab am met) :
  Bf.Fn Try.prog 89 [.pointer (some ⟨b6, 0, none⟩), .pointer (some ⟨b5, 0, none⟩), .pointer (some ⟨b2, 0, none⟩)] M
   [box bm 3 (intV met), box b6 32 [.slice (some ⟨bm, 0, none⟩) met.length met.length], box b5 44 [.slice At_ tab.length ct], box b2 89 [v0, .slice Aa am.length ca, v2, v3, v4, v5]]
   (fun r M' A' => M = M' ∧ A' = [box bm 3 (intV met), box b6 32 [.slice (some ⟨bm, 0, none⟩) met.length met.length], box b5 44 [.slice At_ tab.length ct], box b2 89 [v0, .slice Aa am.length ca, v2, v3, v4, v5]] ∧ ∃ q, r = .bool q ∧ (q = true ↔ Feas (pbOf tab am met))) := by
 have hv' := hv
 obtain ⟨w1, w2, w3, w4, w5, w6⟩ := hv'
 refine Fn.intro Try.func89 rfl rfl Try.ntmps89 rfl fun E F => ?_
 refine rQ ?_
 refine Tr.loop (α := Nat) (fun y => ⟨34, [(11, .int .i64 (y : Int)), (10, .int .i64 (met.length : Int)), (9, .slice (some ⟨bm, 0, none⟩) met.length met.length), (4, .int .i64 (met.take y).sum), (0, .pointer (some ⟨b6, 0, none⟩)), (1, .pointer (some ⟨b5, 0, none⟩)), (2, .pointer (some ⟨b2, 0, none⟩))], [], M, _⟩) (fun y => y ≤ met.length) (fun y => met.length - y) 0 (Nat.zero_le _) hsQ (fun y hy => ?_)
 by_cases hlt : y < met.length
 ·obtain ⟨z, hz⟩ := get_of_lt hlt
  have hst := take_sum hz
  have r1 := take_sum_rng w2 w6 y
  have r2 := take_sum_rng w2 w6 (y + 1)
  have hnv : nthL (intV met) (y : Int).toNat = some (.int .i64 z) := by rw [nthL_eq, Int.toNat_natCast]; exact intV_get hz
  repeat (first | ((with_reducible refine Tr.step rfl ?_); (first | (refine xmQ ?_) | (refine xaQ ?_) | ((with_reducible refine Knd.load ?_); ((refine Exec.stab rfl (Stab.load rfl (tysOk.get rfl) rfl (by repeat (first | exact Has.here | apply Has.there)) (by assumption)) rfl ?_))) | ((with_reducible refine Knd.binOp ?_); (first | (refine xdQ ?_) | (refine xiQ ?_))) | ((with_reducible refine Knd.indexAddr ?_); ((refine Exec.stab rfl (Stab.indexB0 rfl rfl (tysOk.get rfl) rfl (tysOk.get rfl) rfl (by omega) (by omega)) rfl ?_))))) | (with_reducible first | apply Tr.next | apply Tr.seq | apply Tr.region | apply Tr.nil | apply Tr.skip | apply Tr.block | apply Tr.in_normal) | (refine Tr.cond_t rfl (by first | (with_reducible assumption) | (with_reducible rfl) | (with_reducible exact (not_not_intro rfl)) | omega) ?_))
  rw [← hst]
  exact Tr.again (y + 1) (by omega) (by omega) hsQ
 have e : y = met.length := by omega
 subst e
 rw [List.take_length]
 have hmost : Bf.Fn Try.prog 81 [.slice At_ tab.length ct, .slice Aa am.length ca, .slice (some ⟨bm, 0, none⟩) met.length met.length] M [box bm 3 (intV met)] (fun r M' A' => A' = [box bm 3 (intV met)] ∧ M = M' ∧ ∃ L, r = .tuple #[.int .i64 (met.sum - L), .int .i64 0] ∧ IsLack (pbOf tab am met) L) :=
  Fn.lend (most2_fn M none none none 0 0 0 [] [] [] (SlOf.nil _ _ _) (SlOf.nil _ _ _) (SlOf.nil _ _ _) (by intro x hx; cases hx) (by intro x hx; cases hx)).1 fun M' hm hok => by
   have hI := Ints.ofBox (hok _ List.mem_cons_self) (by omega)
   refine Fn0.mono (most2_fn M' At_ Aa (some ⟨bm, 0, none⟩) ct ca met.length tab am met (ht.mono RRowB.mono hm) (ha.mono RI.mono hm) hI (fun x hx => by have := w5 x hx; omega) (fun x hx => by have := w6 x hx; omega)) fun v M'' _ h => ?_
   obtain ⟨h1, rfl⟩ := h
   rcases h1 with ⟨h1, -⟩ | ⟨-, L, rfl, hL⟩
   ·rw [vld_iff.2 hv] at h1; cases h1
   ·exact ⟨⟨L, rfl, hL⟩, rfl⟩
 refine rQ ?_
 ((refine Tr.step rfl ?_))
 refine Exec.call (A := [box bm 3 (intV met)]) rfl hmost (List.Perm.refl _) rfl ?_
 rintro _ _ _ - ⟨rfl, rfl, L, rfl, hL⟩
 refine rQ ?_
 refine Tr.doneA (A' := [box bm 3 (intV met), box b6 32 [.slice (some ⟨bm, 0, none⟩) met.length met.length], box b5 44 [.slice At_ tab.length ct], box b2 89 [v0, .slice Aa am.length ca, v2, v3, v4, v5]]) (by first | exact .inl rfl | exact .inr rfl) rfl (by repeat (first | exact RVs.nil | (apply RVs.cons; (exact RV.tmp rfl)))) (Mem.le.refl _) ⟨fun _ h => h, fun h => h⟩ ⟨rfl, rfl, _, rfl, ?_⟩
 have := vld_feas hv hL
 rw [← this]
 rw [decide_eq_true_iff]
 omega
end Go.Proofs.Ytcadnjmcmegpjaa

/-
 Honour: failing.
 Conditions: none.
-/
namespace Go.Proofs.Ytcadnjmcmegpjaa
open Go Bf
attribute [local irreducible] Tr Exec Stab HasTy Go.Addr.add IntKind.wrap
theorem perm4 {α : Type} (a b c d e : α) (F : List α) : (a :: b :: c :: d :: e :: F).Perm (b :: c :: d :: e :: a :: F) := (List.perm_middle (l₁ := [b, c, d, e]) (l₂ := F)).symm
theorem mskL_ext {nd : List Int} {S T : Nat → Bool} (h : ∀ b, b < nd.length → S b = T b) : mskL nd S = mskL nd T := by
 unfold mskL
 refine List.map_congr_left fun j hj => ?_
 rw [h j (List.mem_range.1 hj)]
theorem ext_getD {l m : List Int} (hl : l.length = m.length) (h : ∀ i, i < l.length → l.getD i 0 = m.getD i 0) : l = m := by
 apply List.ext_getElem hl
 intro i h1 h2
 have := h i h1
 rwa [List.getD_eq_getElem?_getD, List.getD_eq_getElem?_getD, List.getElem?_eq_getElem h1, List.getElem?_eq_getElem h2] at this
theorem setD (l : List Int) (i k : Nat) (v : Int) (h : i < l.length) : (l.set i v).getD k 0 = if k = i then v else l.getD k 0 := by
 rw [List.getD_eq_getElem?_getD, List.getD_eq_getElem?_getD]
 by_cases e : k = i
 ·subst e; rw [if_pos rfl, List.getElem?_set_self h]; rfl
 ·rw [if_neg e, List.getElem?_set_ne (by omega)]
theorem mskL_add {nd : List Int} {S : Nat → Bool} {j : Nat} (hj : j < nd.length) : (mskL nd S).set j (nd.getD j 0) = mskL nd (fun b => S b || decide (b = j)) := by
 refine ext_getD (by rw [List.length_set, mskL_length, mskL_length]) fun i hi => ?_
 rw [setD _ _ _ _ (by rw [mskL_length]; exact hj), mskL_getD, mskL_getD]
 by_cases e : i = j
 ·subst e; simp
 ·simp [e]
theorem mskL_del {nd : List Int} {S : Nat → Bool} {j : Nat} (hj : j < nd.length) (hS : S j = false) : (mskL nd (fun b => S b || decide (b = j))).set j 0 = mskL nd S := by
 refine ext_getD (by rw [List.length_set, mskL_length, mskL_length]) fun i hi => ?_
 rw [setD _ _ _ _ (by rw [mskL_length]; exact hj), mskL_getD, mskL_getD]
 by_cases e : i = j
 ·subst e; simp [hS]
 ·simp [e]
theorem mskL_none (nd : List Int) : mskL nd (fun _ => false) = List.replicate nd.length 0 := by
 refine ext_getD (by rw [mskL_length, List.length_replicate]) fun i hi => ?_
 rw [mskL_getD]
 rw [mskL_length] at hi
 simp [List.getD_eq_getElem?_getD, hi]
theorem vld_tab {x : Fx} {s : St} (hf : Fit x s) (S : Nat → Bool) : Vld (tabL x.fits x.due s.dy) s.am (mskL s.nd S) := by
 refine ⟨hf.l64, by rw [mskL_length]; exact hf.r64, by rw [tabL_length]; exact hf.dyl, fun r hr => by rw [tabL_row hr, mskL_length]; exact hf.dul, hf.amr, fun a ha => ?_⟩
 simp only [mskL, List.mem_map, List.mem_range] at ha
 obtain ⟨j, hj, rfl⟩ := ha
 split
 ·exact getD_rng hf.ndr j
 ·exact ⟨Int.le_refl _, by decide⟩
def nats_ (l : List Nat) : List Int := l.map (fun n : Nat => (n : Int))
theorem nats__length (l : List Nat) : (nats_ l).length = l.length := by simp [nats_]
theorem nats__snoc (l : List Nat) (n : Nat) : nats_ (l ++ [n]) = nats_ l ++ [(n : Int)] := by simp [nats_]
theorem askF_iff {s : St} {j : Nat} {a : Int} (h : s.br[j]? = some a) : askF s j = decide (a < 0) := by
 have hj := (List.getElem?_eq_some_iff.1 h).1
 rw [askF, getD_of h]
 simp [hj]
theorem failF_succ (x : Fx) (s : St) (j : Nat) : failF x s (j + 1) = failF x s j ++ if (askF s j && !acc (srvP x s) (askF s) (j + 1) j) = true then [j] else [] := failL_succ j
set_option maxHeartbeats 16000000 in
theorem failing_own (M : Mem) (v : Value) (x : Fx) (s : St) (e : Nat) (h : RSt M v x s) (hf : Fit x s) (he : e ≤ s.nd.length) :
  Bf.Fn Try.prog 64 [v, .int .i64 (e : Int)] M [] (fun r _ A' => ∃ A c, c ≤ 9223372036854775807 ∧ r = .slice A (failF x s e).length c ∧ A' = [ownS 3 1 A (failF x s e).length c (intV (nats_ (failF x s e)))]) := by
 have hS := h
 obtain ⟨Af, cf, Aa, ca, Ad, cd, An, cn, Au, cu, Ab, cb, rfl, h1, h2, h3, h4, h5, h6⟩ := h
 have l1 := hf.l64
 have l2 := hf.r64
 have l3 := hf.brl
 refine Fn.intro Try.func64 rfl rfl Try.ntmps64 rfl fun E F => ?_
 repeat (first | ((with_reducible refine Tr.step rfl ?_); (first | (refine xaQ ?_) | (refine xwQ ?_) | ((with_reducible refine Knd.box ?_); ((refine Exec.box rfl rfl (fun b => ?_)))))) | (with_reducible first | apply Tr.next | apply Tr.seq | apply Tr.region | apply Tr.nil))
 ((refine Tr.step rfl ?_)); refine Exec.call0 rfl (serving_fn M _ x s hS hf) rfl ?_
 rintro _ M1 hm1 ⟨At_, ct, rfl, ht⟩
 have hvl := fun S => vld_tab hf S
 have hpos := fun (bm b6 b5 b2 : Nat) (S : Nat → Bool) => possible_own M1 bm b6 b5 b2 At_ ct (.slice Af x.fits.length cf) (.slice Ad s.dy.length cd) (.slice An s.nd.length cn) (.slice Au x.due.length cu) (.slice Ab s.br.length cb) Aa ca (tabL x.fits x.due s.dy) s.am (mskL s.nd S) ht (h2.mono RI.mono hm1) (hvl S)
 have hpos' : ∀ (bm b6 b5 b2 : Nat) (S : Nat → Bool), Bf.Fn Try.prog 89 [.pointer (some ⟨b6, 0, none⟩), .pointer (some ⟨b5, 0, none⟩), .pointer (some ⟨b2, 0, none⟩)] M1
   [box bm 3 (intV (mskL s.nd S)), box b6 32 [.slice (some ⟨bm, 0, none⟩) s.nd.length s.nd.length], box b5 44 [.slice At_ (tabL x.fits x.due s.dy).length ct], box b2 89 [.slice Af x.fits.length cf, .slice Aa s.am.length ca, .slice Ad s.dy.length cd, .slice An s.nd.length cn, .slice Au x.due.length cu, .slice Ab s.br.length cb]]
   (fun r M' A' => M1 = M' ∧ A' = [box bm 3 (intV (mskL s.nd S)), box b6 32 [.slice (some ⟨bm, 0, none⟩) s.nd.length s.nd.length], box b5 44 [.slice At_ (tabL x.fits x.due s.dy).length ct], box b2 89 [.slice Af x.fits.length cf, .slice Aa s.am.length ca, .slice Ad s.dy.length cd, .slice An s.nd.length cn, .slice Au x.due.length cu, .slice Ab s.br.length cb]] ∧ ∃ q, r = .bool q ∧ (q = true ↔ srvP x s S)) := fun bm b6 b5 b2 S => by
  have := hpos bm b6 b5 b2 S
  rw [mskL_length] at this
  exact this
 clear hpos
 generalize (tabL x.fits x.due s.dy).length = nt at hpos'
 repeat (first | ((with_reducible refine Tr.step rfl ?_); (first | (refine xmQ ?_) | (refine xaQ ?_) | (refine xlQ ?_) | (refine xfQ ?_) | (refine xnQ ?_) | ((with_reducible refine Knd.makeFunc ?_); (refine Exec.stab rfl (Stab.makeFunc rfl rfl) rfl ?_)) | (refine xSQ ?_) | ((with_reducible refine Knd.alloc ?_); ((refine Exec.alloc1 (tysOk.get rfl) rfl rfl rfl (fun b => ?_)))) | ((with_reducible refine Knd.makeSlice ?_); (refine Exec.make rfl rfl (tysOk.get rfl) rfl (tysOk.get rfl) rfl rfl rfl (by omega) (by omega) (by first | omega | (simp; done) | (simp; omega)) (by omega) rfl (fun b => ?_))))) | (with_reducible first | apply Tr.next | apply Tr.seq | apply Tr.region | apply Tr.nil | apply Tr.block))
 simp only [Int.toNat_natCast]
 rename_i b2 b5 bm
 generalize b = b6
 refine ftQ (r := box bm 3 _) ?_
 have hz0 : List.replicate s.nd.length (Value.int .i64 0) = intV (mskL s.nd fun b => decide (b < 0) && askF s b) := by
  rw [mskL_ext (T := fun _ => false) (fun b _ => by simp), mskL_none]
  simp [intV]
 rw [hz0]
 refine Tr.loop (α := Nat) (fun y => ⟨69, [(18, .int .i64 (y : Int)), (17, .int .i64 (e : Int)), (7, .func (.func 89) #[] #[.pointer (some ⟨b6, 0, none⟩), .pointer (some ⟨b5, 0, none⟩), .pointer (some ⟨b2, 0, none⟩)]), (6, .pointer (some ⟨b6, 0, none⟩)), (5, .pointer (some ⟨b5, 0, none⟩)), (4, .slice none 0 0), (2, .pointer (some ⟨b2, 0, none⟩)), (1, .int .i64 (e : Int))], [], M1,
   box bm 3 (intV (mskL s.nd fun b => decide (b < y) && askF s b)) :: box b6 32 [.slice (some ⟨bm, 0, none⟩) s.nd.length s.nd.length] :: box b5 44 [.slice At_ nt ct] :: box b2 89 [.slice Af x.fits.length cf, .slice Aa s.am.length ca, .slice Ad s.dy.length cd, .slice An s.nd.length cn, .slice Au x.due.length cu, .slice Ab s.br.length cb] :: ([] ++ F)⟩)
  (fun y => y ≤ e) (fun y => e - y) 0 (Nat.zero_le _) hsQ (fun y hy => ?_)
 by_cases hlt : y < e
 ·obtain ⟨z, hz⟩ := get_of_lt (xs := s.br) (i := y) (by omega)
  obtain ⟨hA6, hat6⟩ := Ints.at (h6.mono RI.mono hm1) hz
  have hask := askF_iff hz
  by_cases hz0 : z < 0
  ·obtain ⟨u, hu⟩ := get_of_lt (xs := s.nd) (i := y) (by omega)
   obtain ⟨hA4, hat4⟩ := Ints.at (h4.mono RI.mono hm1) hu
   have hlen : (intV (mskL s.nd fun b => decide (b < y) && askF s b)).length = s.nd.length := by rw [intV_length, mskL_length]
   have hnew : (intV (mskL s.nd fun b => decide (b < y) && askF s b)).set y (.int .i64 u) = intV (mskL s.nd fun b => decide (b < y + 1) && askF s b) := by
    rw [intV_set, show u = s.nd.getD y 0 from (getD_of hu).symm, mskL_add (by omega)]
    refine congrArg intV (mskL_ext fun b _ => ?_)
    by_cases e1 : b = y
    ·subst e1; simp [hask, hz0]
    ·by_cases e2 : b < y
     ·simp [e1, e2, show b < y + 1 by omega]
     ·simp [e1, e2, show ¬ b < y + 1 by omega]
   refine rQ ?_
   (((apply Tr.draw ((box b6 32 _ :: _))); (kernel_rfl)); (refine tkQ 0 (hB := by exact (Sub.mem (by repeat (first | exact Sub.refl | apply Sub.cons)))) (s := by exact slQ) ?_); (refine tkQ 1 (s := by exact Stab.move rfl) ?_); (refine tkQ 2 (s := by exact sfQ) ?_); (refine tkQ 4 (s := by exact Stab.move rfl) ?_); (refine tkQ 3 (s := by exact slQ) ?_); (refine tkQ 5 (s := by exact sxQ) ?_); (refine tkQ 6 (s := by exact sMQ) ?_); (refine tkQ 7 (s := by exact Stab.indexB0 rfl rfl (tysOk.get rfl) rfl (tysOk.get rfl) rfl (by omega) (by omega)) ?_); (refine TrA.eff 8 rfl (by kernel_rfl) (by exact .inl rfl) ?_); (((refine Knd.store ?_); ((refine Exec.storeS rfl rfl (tysOk.get rfl) rfl (by first | rfl | assumption) (by repeat (first | exact Upd.here | apply Upd.there)) (by omega) ?_)))); (refine ⟨(by first | exact Mem.le.refl _ | assumption), (by exact (Sub.mem (by repeat (first | exact Sub.refl | apply Sub.cons)))), ?_⟩); (refine TrA.done (by kernel_rfl) ?_))
   rw [Int.toNat_natCast y, hnew]
   refine rQ ?_
   exact Tr.again (y + 1) (by omega) (by omega) hsQ
  ·have hnew : mskL s.nd (fun b => decide (b < y) && askF s b) = mskL s.nd fun b => decide (b < y + 1) && askF s b := mskL_ext fun b _ => by
    by_cases e1 : b = y
    ·subst e1; simp [hask, hz0]
    ·by_cases e2 : b < y
     ·simp [e2, show b < y + 1 by omega]
     ·simp [e2, show ¬ b < y + 1 by omega]
   rw [hnew]
   refine rQ ?_
   exact Tr.again (y + 1) (by omega) (by omega) hsQ
 have ey : y = e := by omega
 subst ey
 refine rQ ?_
 ((refine Tr.step rfl ?_))
 refine Exec.callv (first := []) (cap := [.pointer (some ⟨b6, 0, none⟩), .pointer (some ⟨b5, 0, none⟩), .pointer (some ⟨b2, 0, none⟩)]) (A := [box bm 3 _, box b6 _ _, box b5 _ _, box b2 _ _]) rfl rfl (hpos' bm b6 b5 b2 fun b => decide (b < y) && askF s b) (List.Perm.refl _) rfl ?_
 rintro _ _ _ - ⟨rfl, rfl, q, rfl, hq⟩
 cases q
 rotate_left
 ·have hnil : failF x s y = [] := failL_all (fun S T h hS => srvP_mono hf.amr S T h hS) (hq.1 rfl)
  refine rQ ?_
  refine Tr.own_nil 3 1 ?_
  refine Tr.doneB (A' := [ownS 3 1 none 0 0 []]) [box bm 3 _, box b6 _ _, box b5 _ _, box b2 _ _] (by first | exact .inl rfl | exact .inr rfl) rfl (by repeat (first | exact RVs.nil | (apply RVs.cons; (exact RV.tmp rfl)))) hm1 (perm4 _ _ _ _ _ _) ?_
  rw [hnil]
  exact ⟨none, 0, by decide, rfl, rfl⟩
 refine rQ ?_
 simp only [List.cons_append, List.nil_append]
 ((refine Tr.step rfl ?_))
 refine Exec.clear rfl (tysOk.get rfl) rfl (tysOk.get rfl) rfl rfl rfl (by repeat (first | exact Upd.here | apply Upd.there)) (by rw [intV_length, mskL_length]) ?_
 have hz1 : List.replicate s.nd.length (Value.int .i64 0) = intV (mskL s.nd (acc (srvP x s) (askF s) 0)) := by
  rw [show acc (srvP x s) (askF s) 0 = fun _ => false from rfl, mskL_none]
  simp [intV]
 rw [hz1]
 refine Tr.own_nil 3 1 ?_
 refine rQ ?_
 refine Tr.loop (α := Nat × Option Addr × Nat) (fun z => ⟨69, [(40, .int .i64 (z.1 : Int)), (39, .int .i64 (y : Int)), (7, .func (.func 89) #[] #[.pointer (some ⟨b6, 0, none⟩), .pointer (some ⟨b5, 0, none⟩), .pointer (some ⟨b2, 0, none⟩)]), (6, .pointer (some ⟨b6, 0, none⟩)), (5, .pointer (some ⟨b5, 0, none⟩)), (4, .slice z.2.1 (failF x s z.1).length z.2.2), (2, .pointer (some ⟨b2, 0, none⟩))], [], M1,
   ownS 3 1 z.2.1 (failF x s z.1).length z.2.2 (intV (nats_ (failF x s z.1))) :: box bm 3 (intV (mskL s.nd (acc (srvP x s) (askF s) z.1))) :: box b6 32 [.slice (some ⟨bm, 0, none⟩) s.nd.length s.nd.length] :: box b5 44 [.slice At_ nt ct] :: box b2 89 [.slice Af x.fits.length cf, .slice Aa s.am.length ca, .slice Ad s.dy.length cd, .slice An s.nd.length cn, .slice Au x.due.length cu, .slice Ab s.br.length cb] :: ([] ++ F)⟩)
  (fun z => z.1 ≤ y ∧ z.2.2 ≤ 9223372036854775807) (fun z => y - z.1) (0, none, 0) ⟨Nat.zero_le _, by show (0 : Nat) ≤ _; omega⟩ hsQ (fun z hz => ?_)
 obtain ⟨j, A5, c5⟩ := z
 obtain ⟨hj, hc5⟩ := hz
 simp only at hj hc5
 dsimp only
 by_cases hlt2 : j < y
 rotate_left
 ·have e1 : j = y := by omega
  subst e1
  refine rQ ?_
  refine Tr.doneB (A' := [ownS 3 1 A5 (failF x s j).length c5 (intV (nats_ (failF x s j)))]) [box bm 3 _, box b6 _ _, box b5 _ _, box b2 _ _] (by first | exact .inl rfl | exact .inr rfl) rfl (by repeat (first | exact RVs.nil | (apply RVs.cons; (exact RV.tmp rfl)))) hm1 (perm4 _ _ _ _ _ _) ⟨A5, c5, hc5, rfl, rfl⟩
 obtain ⟨z, hz⟩ := get_of_lt (xs := s.br) (i := j) (by omega)
 obtain ⟨hA6, hat6⟩ := Ints.at (h6.mono RI.mono hm1) hz
 have hask := askF_iff hz
 have hfs := failF_succ x s j
 by_cases hz0 : z < 0
 rotate_left
 ·have ha : askF s j = false := by rw [hask]; simp [hz0]
  rw [ha, Bool.false_and, if_neg (by decide), List.append_nil] at hfs
  have hac : acc (srvP x s) (askF s) (j + 1) = acc (srvP x s) (askF s) j := acc_no (fun h => by rw [ha] at h; cases h.1)
  rw [← hfs, ← hac]
  refine rQ ?_
  exact Tr.again (j + 1, A5, c5) ⟨by simp only; omega, hc5⟩ (by simp only; omega) hsQ
 have ha : askF s j = true := by rw [hask]; simp [hz0]
 rw [ha, Bool.true_and] at hfs
 obtain ⟨u, hu⟩ := get_of_lt (xs := s.nd) (i := j) (by omega)
 obtain ⟨hA4, hat4⟩ := Ints.at (h4.mono RI.mono hm1) hu
 have hjl : acc (srvP x s) (askF s) j j = false := by
  cases hc : acc (srvP x s) (askF s) j j with
  | false => rfl
  | true => have := (acc_lt hc).1; omega
 have hlen : (intV (mskL s.nd (acc (srvP x s) (askF s) j))).length = s.nd.length := by rw [intV_length, mskL_length]
 have hnew : (intV (mskL s.nd (acc (srvP x s) (askF s) j))).set j (.int .i64 u) = intV (mskL s.nd fun b => acc (srvP x s) (askF s) j b || decide (b = j)) := by
  rw [intV_set, show u = s.nd.getD j 0 from (getD_of hu).symm, mskL_add (by omega)]
 have hlen2 : (intV (mskL s.nd fun b => acc (srvP x s) (askF s) j b || decide (b = j))).length = s.nd.length := by rw [intV_length, mskL_length]
 have hdel : (intV (mskL s.nd fun b => acc (srvP x s) (askF s) j b || decide (b = j))).set j (.int .i64 0) = intV (mskL s.nd (acc (srvP x s) (askF s) j)) := by
  rw [intV_set, mskL_del (by omega) hjl]
 have hfl : (failF x s j).length ≤ j := by
  have := List.length_filter_le (fun j => askF s j && !acc (srvP x s) (askF s) (j + 1) j) (List.range j)
  rwa [List.length_range] at this
 refine rQ ?_
 (((apply Tr.draw ((box b6 32 _ :: _))); (kernel_rfl)); (refine tkQ 0 (hB := by exact (Sub.mem (by repeat (first | exact Sub.refl | apply Sub.cons)))) (s := by exact slQ) ?_); (refine tkQ 1 (s := by exact Stab.move rfl) ?_); (refine tkQ 2 (s := by exact sfQ) ?_); (refine tkQ 4 (s := by exact Stab.move rfl) ?_); (refine tkQ 3 (s := by exact slQ) ?_); (refine tkQ 5 (s := by exact sxQ) ?_); (refine tkQ 6 (s := by exact sMQ) ?_); (refine tkQ 7 (s := by exact Stab.indexB0 rfl rfl (tysOk.get rfl) rfl (tysOk.get rfl) rfl (by omega) (by omega)) ?_); (refine TrA.eff 8 rfl (by kernel_rfl) (by exact .inl rfl) ?_); (((refine Knd.store ?_); ((refine Exec.storeS rfl rfl (tysOk.get rfl) rfl (by first | rfl | assumption) (by repeat (first | exact Upd.here | apply Upd.there)) (by omega) ?_)))); (refine ⟨(by first | exact Mem.le.refl _ | assumption), (by exact (Sub.mem (by repeat (first | exact Sub.refl | apply Sub.cons)))), ?_⟩); (refine TrA.done (by kernel_rfl) ?_))
 rw [Int.toNat_natCast j, hnew]
 refine rQ ?_
 ((refine Tr.step rfl ?_))
 refine Exec.callv (first := []) (cap := [.pointer (some ⟨b6, 0, none⟩), .pointer (some ⟨b5, 0, none⟩), .pointer (some ⟨b2, 0, none⟩)]) (A := [box bm 3 _, box b6 _ _, box b5 _ _, box b2 _ _]) rfl rfl (hpos' bm b6 b5 b2 fun b => acc (srvP x s) (askF s) j b || decide (b = j)) (perm4 _ _ _ _ _ _).symm rfl ?_
 rintro _ _ _ - ⟨rfl, rfl, q, rfl, hq⟩
 cases q
 ·have hac : acc (srvP x s) (askF s) (j + 1) = acc (srvP x s) (askF s) j := acc_no (fun h => by have := hq.2 h.2; cases this)
  rw [hac, hjl, Bool.not_false, if_pos rfl] at hfs
  have hfl2 : (failF x s j).length + 1 = (failF x s (j + 1)).length := by rw [hfs, List.length_append, List.length_singleton]
  repeat (first | ((with_reducible refine Tr.step rfl ?_); (first | (refine xmQ ?_) | (refine xlQ ?_) | ((with_reducible refine Knd.unOp ?_); ((refine Exec.stab rfl (Stab.not rfl) rfl ?_))) | ((with_reducible refine Knd.store ?_); ((refine Exec.storeS rfl rfl (tysOk.get rfl) rfl (by first | rfl | assumption) (by repeat (first | exact Upd.here | apply Upd.there)) (by omega) ?_))) | ((with_reducible refine Knd.indexAddr ?_); ((refine Exec.stab rfl (Stab.indexB0 rfl rfl (tysOk.get rfl) rfl (tysOk.get rfl) rfl (by omega) (by omega)) rfl ?_))) | ((with_reducible refine Knd.buildSlice ?_); ((refine Exec.buildSlice (tysOk.get rfl) rfl (tysOk.get rfl) rfl rfl rfl rfl rfl (by repeat (first | exact BuildP.nil | ((apply BuildP.one); (rfl); (rfl); (first | rfl | assumption); (repeat (first | exact SetL.z | apply SetL.s))))) rfl (fun b => ?_)))))) | (with_reducible first | apply Tr.next | apply Tr.seq | apply Tr.region | apply Tr.nil) | (refine Tr.cond_bt rfl (by first | (with_reducible rfl) | (with_reducible exact Bool.not_false)) ?_))
  rw [Int.toNat_natCast j, hdel, ← hac]
  ((refine Tr.step rfl ?_))
  refine Exec.append (news := [.int .i64 (j : Int)]) rfl rfl (tysOk.get rfl) rfl (tysOk.get rfl) rfl rfl rfl rfl (by repeat (first | exact Del.here | apply Del.there)) (Src.box (by repeat (first | exact Has.here | apply Has.there))) rfl (by intro u hu; simp at hu; subst hu; rfl) (by omega) (by omega) rfl (fun A7 c7 hc7 => ?_)
  rw [show intV (nats_ (failF x s j)) ++ [Value.int .i64 (j : Int)] = intV (nats_ (failF x s (j + 1))) by rw [hfs, nats__snoc, intV_append]; rfl, hfl2]
  refine gvQ (r := box b 3 _) ?_
  refine rQ ?_
  exact Tr.again (j + 1, A7, c7) ⟨by simp only; omega, hc7⟩ (by simp only; omega) hsQ
 ·have hac : acc (srvP x s) (askF s) (j + 1) = fun b => acc (srvP x s) (askF s) j b || decide (b = j) := acc_yes ha (hq.1 rfl)
  rw [hac, show (!(acc (srvP x s) (askF s) j j || decide (j = j))) = false by simp, if_neg (by decide), List.append_nil] at hfs
  rw [← hfs, ← hac]
  refine rQ ?_
  refine ftQ (r := ownS 3 1 _ _ _ _) ?_
  exact Tr.again (j + 1, A5, c5) ⟨by simp only; omega, hc5⟩ (by simp only; omega) hsQ
end Go.Proofs.Ytcadnjmcmegpjaa

/-
 Honour: clone, fail.
 Conditions: none.
-/
namespace Go.Proofs.Ytcadnjmcmegpjaa
open Go Bf
attribute [local irreducible] Tr Exec Stab HasTy Go.Addr.add IntKind.wrap
theorem perm42 {α : Type} (a b c d e f : α) (F : List α) : (a :: b :: c :: d :: e :: f :: F).Perm (e :: f :: a :: b :: c :: d :: F) := (List.perm_append_comm (l₁ := [a, b, c, d]) (l₂ := [e, f])).append_right F
set_option maxHeartbeats 4000000 in
theorem stclone_own (M : Mem) (v : Value) (x : Fx) (s : St) (h : RSt M v x s) (hf : Fit x s) :
  Bf.Fn Try.prog 97 [v] M [] (fun r M' A' => M = M' ∧ ∃ Af cf Au cu Aa ca Ad cd An cn Ab cb, r = .agg #[.slice Af x.fits.length cf, .slice Aa s.am.length ca, .slice Ad s.dy.length cd, .slice An s.nd.length cn, .slice Au x.due.length cu, .slice Ab s.br.length cb] ∧
   Fits2 M (.slice Af x.fits.length cf) x.fits ∧ Ints M (.slice Au x.due.length cu) x.due ∧ (ca ≤ 9223372036854775807 ∧ cd ≤ 9223372036854775807 ∧ cn ≤ 9223372036854775807 ∧ cb ≤ 9223372036854775807) ∧
   A' = [ownS 3 1 Ab s.br.length cb (intV s.br), ownS 3 1 An s.nd.length cn (intV s.nd), ownS 3 1 Ad s.dy.length cd (intV s.dy), ownS 3 1 Aa s.am.length ca (intV s.am)]) := by
 have z1 := hf.l64
 have z2 := hf.r64
 have z3 := hf.dyl
 have z4 := hf.brl
 obtain ⟨Af, cf, Aa, ca, Ad, cd, An, cn, Au, cu, Ab, cb, rfl, h1, h2, h3, h4, h5, h6⟩ := h
 refine Fn.intro Try.func97 rfl rfl Try.ntmps97 rfl fun E F => ?_
 repeat (first | ((with_reducible refine Tr.step rfl ?_); (first | (refine xlQ ?_) | (refine xfQ ?_) | ((with_reducible refine Knd.box ?_); ((refine Exec.box rfl rfl (fun b => ?_)))) | ((with_reducible refine Knd.alloc ?_); ((refine Exec.alloc (tysOk.get rfl) rfl rfl (fun b => ?_)))))) | (with_reducible first | apply Tr.next | apply Tr.seq | apply Tr.region | apply Tr.nil))
 ((refine Tr.step rfl ?_))
 refine Exec.call (A := []) rfl (clone_fn M Aa ca s.am h2 (by omega)) (List.Perm.refl _) rfl ?_
 rintro _ _ _ - ⟨⟨A1, k1, rfl, q1, rfl⟩, rfl⟩
 refine rQ ?_
 ((refine Tr.step rfl ?_))
 refine Exec.call (A := []) rfl (clone_fn M Ad cd s.dy h3 (by omega)) (List.Perm.refl _) rfl ?_
 rintro _ _ _ - ⟨⟨A2, k2, rfl, q2, rfl⟩, rfl⟩
 refine rQ ?_
 ((refine Tr.step rfl ?_))
 refine Exec.call (A := []) rfl (clone_fn M An cn s.nd h4 (by omega)) (List.Perm.refl _) rfl ?_
 rintro _ _ _ - ⟨⟨A3, k3, rfl, q3, rfl⟩, rfl⟩
 refine rQ ?_
 ((refine Tr.step rfl ?_))
 refine Exec.call (A := []) rfl (clone_fn M Ab cb s.br h6 (by omega)) (List.Perm.refl _) rfl ?_
 rintro _ _ _ - ⟨⟨A4, k4, rfl, q4, rfl⟩, rfl⟩
 refine rQ ?_
 refine Tr.doneB (A' := [ownS 3 1 A4 s.br.length k4 (intV s.br), ownS 3 1 A3 s.nd.length k3 (intV s.nd), ownS 3 1 A2 s.dy.length k2 (intV s.dy), ownS 3 1 A1 s.am.length k1 (intV s.am)]) [box _ 89 _, box _ 89 _] (by first | exact .inl rfl | exact .inr rfl) rfl (by repeat (first | exact RVs.nil | (apply RVs.cons; (exact RV.cellW (by rfl) (tysOk.get (by rfl)) (by rfl) (by repeat (first | exact Has.here | apply Has.there)) (by first | rfl | assumption))))) (Mem.le.refl _) (perm42 _ _ _ _ _ _ _)
  ⟨rfl, Af, cf, Au, cu, A1, k1, A2, k2, A3, k3, A4, k4, rfl, h1, h5, ⟨q1, q2, q3, q4⟩, rfl⟩
def setAll (l : List Nat) (a : Int) (br : List Int) : List Int := l.foldl (fun b j => b.set j a) br
theorem setAll_length (l : List Nat) (a : Int) : ∀ br, (setAll l a br).length = br.length := by
 induction l with
 | nil => exact fun _ => rfl
 | cons j l ih => intro br; show (setAll l a (br.set j a)).length = _; rw [ih, List.length_set]
theorem setAll_getD (l : List Nat) (a : Int) : ∀ (br : List Int), (∀ j ∈ l, j < br.length) → ∀ k, (setAll l a br).getD k 0 = if k ∈ l then a else br.getD k 0 := by
 induction l with
 | nil => exact fun br _ k => (if_neg List.not_mem_nil).symm
 | cons j l ih =>
  intro br hb k
  show (setAll l a (br.set j a)).getD k 0 = _
  rw [ih (br.set j a) (fun i hi => by rw [List.length_set]; exact hb i (List.mem_cons_of_mem _ hi)) k, setD _ _ _ _ (hb j (List.mem_cons_self ..))]
  by_cases h1 : k ∈ l
  ·rw [if_pos h1, if_pos (List.mem_cons_of_mem _ h1)]
  ·rw [if_neg h1]
   by_cases h2 : k = j
   ·rw [if_pos h2, if_pos (by rw [h2]; exact List.mem_cons_self ..)]
   ·rw [if_neg h2, if_neg (fun h => (List.mem_cons.1 h).elim h2 h1)]
theorem setAll_mark {x : Fx} {s : St} (hf : Fit x s) (at_ : Nat) : setAll (failF x s s.nd.length) (at_ : Int) s.br = (markF x s at_).br := by
 have hm : ∀ j ∈ failF x s s.nd.length, j < s.br.length := fun j hj => by have := (mem_failL.1 hj).1; have := hf.brl; omega
 refine ext_getD (by rw [setAll_length, markF_brl]) fun i hi => ?_
 rw [setAll_length] at hi
 rw [setAll_getD _ _ _ hm, markF_br hi]
theorem setAll_take {l : List Nat} {a : Int} {br : List Int} {i j : Nat} (h : l[i]? = some j) : setAll (l.take (i + 1)) a br = (setAll (l.take i) a br).set j a := by
 rw [List.take_add_one, h]
 simp [setAll, List.foldl_append]
theorem nats_get {l : List Nat} {i j : Nat} (h : l[i]? = some j) : (intV (nats_ l))[i]? = some (.int .i64 (j : Int)) := intV_get (by simp [nats_, h])
set_option maxHeartbeats 8000000 in
theorem hfail_own (M : Mem) (x : Fx) (s : St) (at_ : Nat) (Af Aa Ad An Au Ab : Option Addr) (cf ca cd cn cu cb : Nat) (hf : Fit x s) (h1 : Fits2 M (.slice Af x.fits.length cf) x.fits) (h2 : Ints M (.slice Aa s.am.length ca) s.am) (h3 : Ints M (.slice Ad s.dy.length cd) s.dy) (h4 : Ints M (.slice An s.nd.length cn) s.nd) (h5 : Ints M (.slice Au x.due.length cu) x.due) (hcb : cb ≤ 9223372036854775807) :
  Bf.Fn Try.prog 98 [.agg #[.slice Af x.fits.length cf, .slice Aa s.am.length ca, .slice Ad s.dy.length cd, .slice An s.nd.length cn, .slice Au x.due.length cu, .slice Ab s.br.length cb], .int .i64 (at_ : Int)] M [ownS 3 1 Ab s.br.length cb (intV s.br)]
   (fun _ M' A' => M = M' ∧ A' = [ownS 3 1 Ab s.br.length cb (intV (markF x s at_).br)]) := by
 have hcall : Bf.Fn Try.prog 64 [.agg #[.slice Af x.fits.length cf, .slice Aa s.am.length ca, .slice Ad s.dy.length cd, .slice An s.nd.length cn, .slice Au x.due.length cu, .slice Ab s.br.length cb], .int .i64 (s.nd.length : Int)] M [ownS 3 1 Ab s.br.length cb (intV s.br)] (fun r M' A' => ∃ A1, A' = [ownS 3 1 Ab s.br.length cb (intV s.br)] ++ A1 ∧ M = M' ∧ ∃ A c, c ≤ 9223372036854775807 ∧ r = .slice A (failF x s s.nd.length).length c ∧ A1 = [ownS 3 1 A (failF x s s.nd.length).length c (intV (nats_ (failF x s s.nd.length)))]) := by
  have key : ∀ M', Mem.le M M' → (∀ r ∈ [ownS 3 1 Ab s.br.length cb (intV s.br)], r.ok M') → Bf.Fn Try.prog 64 [.agg #[.slice Af x.fits.length cf, .slice Aa s.am.length ca, .slice Ad s.dy.length cd, .slice An s.nd.length cn, .slice Au x.due.length cu, .slice Ab s.br.length cb], .int .i64 (s.nd.length : Int)] M' [] (fun v M'' A' => (∃ A c, c ≤ 9223372036854775807 ∧ v = .slice A (failF x s s.nd.length).length c ∧ A' = [ownS 3 1 A (failF x s s.nd.length).length c (intV (nats_ (failF x s s.nd.length)))]) ∧ M' = M'') := fun M' hm hok =>
   Fn.forget (failing_own M' _ x s s.nd.length ⟨Af, cf, Aa, ca, Ad, cd, An, cn, Au, cu, Ab, cb, rfl, h1.mono RRowB.mono hm, h2.mono RI.mono hm, h3.mono RI.mono hm, h4.mono RI.mono hm, h5.mono RI.mono hm, Ints.ofOwn (hok _ List.mem_cons_self) rfl hcb⟩ hf (Nat.le_refl _))
  exact Fn.lendA ⟨Try.f64, Try.func64, rfl, rfl⟩ key
 have hfl : (failF x s s.nd.length).length ≤ s.nd.length := by
  have := List.length_filter_le (fun j => askF s j && !acc (srvP x s) (askF s) (j + 1) j) (List.range s.nd.length)
  rwa [List.length_range] at this
 have hmem : ∀ j ∈ failF x s s.nd.length, j < s.br.length := fun j hj => by have := (mem_failL.1 hj).1; have := hf.brl; omega
 have hmk := setAll_mark hf at_
 have hr64 := hf.r64
 generalize failF x s s.nd.length = l at hcall hfl hmem hmk
 refine Fn.intro Try.func98 rfl rfl Try.ntmps98 rfl fun E F => ?_
 repeat (first | ((with_reducible refine Tr.step rfl ?_); (first | ((with_reducible refine Knd.load ?_); (first | (refine xlQ ?_) | (refine xwQ ?_))) | (refine xfQ ?_) | (refine xnQ ?_) | ((with_reducible refine Knd.box ?_); ((refine Exec.box rfl rfl (fun b => ?_)))))) | (with_reducible first | apply Tr.next | apply Tr.seq | apply Tr.region | apply Tr.nil))
 ((refine Tr.step rfl ?_))
 refine Exec.call (A := [ownS 3 1 Ab s.br.length cb (intV s.br)]) rfl hcall (List.Perm.swap _ _ _) rfl ?_
 rintro _ _ _ - ⟨_, rfl, rfl, A5, c5, hc5, rfl, rfl⟩
 simp only [List.cons_append, List.nil_append]
 refine rQ ?_
 generalize b = bs
 refine Tr.loop (α := Nat) (fun y => ⟨22, [(12, .int .i64 (y : Int)), (11, .int .i64 (l.length : Int)), (10, .slice A5 l.length c5), (2, .pointer (some ⟨bs, 0, none⟩)), (1, .int .i64 (at_ : Int))], [], M, ownS 3 1 Ab s.br.length cb (intV (setAll (l.take y) (at_ : Int) s.br)) :: ownS 3 1 A5 l.length c5 (intV (nats_ l)) :: box bs 89 [.slice Af x.fits.length cf, .slice Aa s.am.length ca, .slice Ad s.dy.length cd, .slice An s.nd.length cn, .slice Au x.due.length cu, .slice Ab s.br.length cb] :: ([] ++ F)⟩)
  (fun y => y ≤ l.length) (fun y => l.length - y) 0 (Nat.zero_le _) hsQ (fun y hy => ?_)
 by_cases hlt : y < l.length
 ·obtain ⟨j, hj⟩ := get_of_lt hlt
  have hjb := hmem j (List.mem_of_getElem? hj)
  have hst := setAll_take (a := (at_ : Int)) (br := s.br) hj
  have hnv : (intV (nats_ l))[(y : Int).toNat]? = some (.int .i64 (j : Int)) := by rw [Int.toNat_natCast]; exact nats_get hj
  have hl2 : (intV (setAll (l.take y) (at_ : Int) s.br)).length = s.br.length := by rw [intV_length, setAll_length]
  refine Tr.own_some A5 (e := 3) (sz := 1) (m := l.length) (c := c5) (xs := intV (nats_ l)) (by repeat (first | exact Has.here | apply Has.there)) (by omega) (fun hA5 => ?_)
  refine Tr.own_some Ab (e := 3) (sz := 1) (m := s.br.length) (c := cb) (xs := intV (setAll (l.take y) (at_ : Int) s.br)) (by repeat (first | exact Has.here | apply Has.there)) (by omega) (fun hAb => ?_)
  repeat (first | ((with_reducible refine Tr.step rfl ?_); (first | (refine xmQ ?_) | (refine xaQ ?_) | ((with_reducible refine Knd.load ?_); (first | (refine xlQ ?_) | (refine Exec.stab rfl (Stab.loadO rfl (tysOk.get rfl) rfl (by repeat (first | exact Has.here | apply Has.there)) (by assumption)) rfl ?_))) | (refine xfQ ?_) | ((with_reducible refine Knd.binOp ?_); (first | (refine xdQ ?_) | (refine xiQ ?_))) | ((with_reducible refine Knd.store ?_); ((refine Exec.storeO rfl rfl (tysOk.get rfl) rfl (by first | rfl | assumption) (by repeat (first | exact Upd.here | apply Upd.there)) (by omega) ?_))) | (refine xxQ ?_))) | (with_reducible first | apply Tr.next | apply Tr.seq | apply Tr.region | apply Tr.nil | apply Tr.skip | apply Tr.block | apply Tr.in_normal) | (refine Tr.cond_t rfl (by first | (with_reducible assumption) | omega) ?_))
  rw [Int.toNat_natCast j, intV_set, ← hst]
  exact Tr.again (y + 1) (by omega) (by omega) hsQ
 have ey : y = l.length := by omega
 subst ey
 rw [List.take_length, hmk]
 refine rQ ?_
 refine Tr.doneA (A' := [ownS 3 1 Ab s.br.length cb (intV (markF x s at_).br)]) (by first | exact .inl rfl | exact .inr rfl) rfl (by repeat (exact RVs.nil)) (Mem.le.refl _) ⟨fun r hr => ?_, fun hn => ?_⟩ ⟨rfl, rfl⟩
 ·rcases List.mem_cons.1 hr with rfl | hr
  ·exact List.mem_cons_self ..
  ·exact List.mem_cons_of_mem _ (List.mem_cons_of_mem _ (List.mem_cons_of_mem _ hr))
 ·simp only [List.flatMap_cons, List.nodup_append, List.nil_append, List.singleton_append] at hn ⊢
  refine ⟨hn.1, hn.2.1.2.1.2.1, fun a ha b hb => hn.2.2 a ha b ?_⟩
  simp only [List.mem_append]
  exact .inr (.inr hb)
end Go.Proofs.Ytcadnjmcmegpjaa

/-
 Honour: begin.
 Conditions: none.
-/
namespace Go.Proofs.Ytcadnjmcmegpjaa
open Go Bf
attribute [local irreducible] Tr Exec Stab HasTy Go.Addr.add IntKind.wrap
def RSp (_ : Mem) (c : List Value) (y : Sp) : Prop := c = [.int .i64 y.no, .int .i64 y.item, .int .i64 y.plant, .int .i64 y.ready, .int .i64 y.expiry, .int .i64 y.amount]
def RRq (_ : Mem) (c : List Value) (y : Rq) : Prop := c = [.int .i64 y.no, .int .i64 y.item, .int .i64 y.cust, .int .i64 y.due, .int .i64 y.shelf, .int .i64 y.amount]
theorem RSp.mono (M M' : Mem) (c : List Value) (y : Sp) (_ : Mem.le M M') (h : RSp M c y) : RSp M' c y := h
theorem RRq.mono (M M' : Mem) (c : List Value) (y : Rq) (_ : Mem.le M M') (h : RRq M c y) : RRq M' c y := h
def RBk (M : Mem) (v : Value) (b : Bk) : Prop := ∃ As cs Ar cr Af cf Ad cd, v = .agg #[.int .i64 b.known, .slice As b.sups.length cs, .slice Ar b.reqs.length cr, .slice Af b.fits.length cf, .slice Ad b.reads cd] ∧
 SlOf 6 RSp M (.slice As b.sups.length cs) b.sups ∧ SlOf 6 RRq M (.slice Ar b.reqs.length cr) b.reqs ∧ Fits2 M (.slice Af b.fits.length cf) b.fits
theorem RBk.mono {M M' : Mem} {v : Value} {b : Bk} (h : RBk M v b) (hm : Mem.le M M') : RBk M' v b := by
 obtain ⟨As, cs, Ar, cr, Af, cf, Ad, cd, rfl, h1, h2, h3⟩ := h
 exact ⟨As, cs, Ar, cr, Af, cf, Ad, cd, rfl, h1.mono RSp.mono hm, h2.mono RRq.mono hm, h3.mono RRowB.mono hm⟩
theorem map_take_succ {α : Type} (f : α → Int) {l : List α} {i : Nat} {y : α} (h : l[i]? = some y) : (l.take (i + 1)).map f = (l.take i).map f ++ [f y] := by
 rw [List.take_add_one, h, List.map_append]; rfl
set_option maxHeartbeats 8000000 in
theorem hbegin_fn (M : Mem) (v : Value) (k : Bk) (h : RBk M v k) (hs : k.sups.length ≤ 1000000) (hr : k.reqs.length ≤ 1000000) :
  Fn0 Try.prog 27 [v] M (fun r M' => RSt M' r (fxB k) (beginF k)) := by
 obtain ⟨As, cs, Ar, cr, Af, cf, Ad, cd, rfl, h1, h2, h3⟩ := h
 refine Fn.intro Try.func27 rfl rfl Try.ntmps27 rfl fun E F => ?_
 repeat (first | ((with_reducible refine Tr.step rfl ?_); (first | (refine xmQ ?_) | (refine xlQ ?_) | (refine xfQ ?_) | (refine xnQ ?_) | (refine xSQ ?_) | ((with_reducible refine Knd.box ?_); ((refine Exec.box rfl rfl (fun b => ?_)))) | ((with_reducible refine Knd.alloc ?_); ((refine Exec.alloc (tysOk.get rfl) rfl rfl (fun b => ?_)))))) | (with_reducible first | apply Tr.next | apply Tr.seq | apply Tr.region | apply Tr.nil | apply Tr.block))
 rename_i b1
 generalize b = b2
 refine Tr.own_nil 3 1 ?_
 refine Tr.own_nil 3 1 ?_
 refine Tr.loop (α := Nat × (Option Addr × Nat) × (Option Addr × Nat)) (fun y => ⟨60, [(13, .int .i64 (y.1 : Int)), (12, .int .i64 (k.sups.length : Int)), (11, .slice As k.sups.length cs), (2, .pointer (some ⟨b2, 0, none⟩)), (1, .pointer (some ⟨b1, 0, none⟩))], [], M,
   ownS 3 1 y.2.1.1 y.1 y.2.1.2 (intV ((k.sups.take y.1).map (·.amount))) :: ownS 3 1 y.2.2.1 y.1 y.2.2.2 (intV ((k.sups.take y.1).map (·.ready))) :: box b2 89 [.slice Af k.fits.length cf, .slice y.2.1.1 y.1 y.2.1.2, .slice y.2.2.1 y.1 y.2.2.2, .slice none 0 0, .slice none 0 0, .slice none 0 0] :: box b1 47 [.int .i64 k.known, .slice As k.sups.length cs, .slice Ar k.reqs.length cr, .slice Af k.fits.length cf, .slice Ad k.reads cd] :: ([] ++ F)⟩)
  (fun y => y.1 ≤ k.sups.length ∧ y.2.1.2 ≤ 9223372036854775807 ∧ y.2.2.2 ≤ 9223372036854775807) (fun y => k.sups.length - y.1) (0, (none, 0), (none, 0)) ⟨Nat.zero_le _, by show (0 : Nat) ≤ _; omega, by show (0 : Nat) ≤ _; omega⟩ hsQ (fun y hy => ?_)
 obtain ⟨i, ⟨A1, c1⟩, ⟨A2, c2⟩⟩ := y
 obtain ⟨hi, hc1, hc2⟩ := hy
 simp only at hi hc1 hc2
 dsimp only
 by_cases hlt : i < k.sups.length
 ·obtain ⟨y, hy⟩ := get_of_lt hlt
  obtain ⟨hA, ch, hat, rfl⟩ := h1.elem hy
  have e1 := map_take_succ (·.amount) hy
  have e2 := map_take_succ (·.ready) hy
  repeat (first | ((with_reducible refine Tr.step rfl ?_); (first | ((with_reducible refine Knd.load ?_); (first | (refine xlQ ?_) | (refine Exec.stab rfl (Stab.loadMA rfl (tysOk.get rfl) rfl (by assumption) (by first | rfl | assumption)) rfl ?_))) | (refine xfQ ?_) | (refine xiQ ?_) | (refine xWQ ?_) | ((with_reducible refine Knd.alloc ?_); ((refine Exec.alloc (tysOk.get rfl) rfl rfl (fun b => ?_)))) | (refine xxQ ?_) | ((with_reducible refine Knd.buildSlice ?_); ((refine Exec.buildSlice (tysOk.get rfl) rfl (tysOk.get rfl) rfl rfl rfl rfl rfl (by repeat (first | exact BuildP.nil | ((apply BuildP.one); (rfl); (rfl); (first | rfl | assumption); (repeat (first | exact SetL.z | apply SetL.s))))) rfl (fun b => ?_)))))) | (with_reducible first | apply Tr.next | apply Tr.seq | apply Tr.region | apply Tr.nil | apply Tr.skip | apply Tr.block) | (refine Tr.cond_t rfl (by first | (with_reducible assumption) | omega) ?_))
  rename_i b4
  ((refine Tr.step rfl ?_))
  refine Exec.append (news := [.int .i64 (y.amount)]) rfl rfl (tysOk.get rfl) rfl (tysOk.get rfl) rfl rfl rfl rfl (by repeat (first | exact Del.here | apply Del.there)) (Src.box (by repeat (first | exact Has.here | apply Has.there))) rfl (by intro u hu; simp at hu; subst hu; rfl) (by omega) (by omega) rfl (fun A3 c3 hc3 => ?_)
  refine gvQ (r := box b 3 _) ?_
  rw [show intV ((k.sups.take i).map (·.amount)) ++ [Value.int .i64 y.amount] = intV ((k.sups.take (i + 1)).map (·.amount)) by rw [e1, intV_append]; rfl]
  repeat (first | ((with_reducible refine Tr.step rfl ?_); (first | (refine xlQ ?_) | (refine xfQ ?_) | (refine xSQ ?_) | ((with_reducible refine Knd.buildSlice ?_); ((refine Exec.buildSlice (tysOk.get rfl) rfl (tysOk.get rfl) rfl rfl rfl rfl rfl (by repeat (first | exact BuildP.nil | ((apply BuildP.one); (rfl); (rfl); (first | rfl | assumption); (repeat (first | exact SetL.z | apply SetL.s))))) rfl (fun b => ?_)))))) | (with_reducible first | apply Tr.next | apply Tr.region | apply Tr.nil))
  ((refine Tr.step rfl ?_))
  refine Exec.append (news := [.int .i64 (y.ready)]) rfl rfl (tysOk.get rfl) rfl (tysOk.get rfl) rfl rfl rfl rfl (by repeat (first | exact Del.here | apply Del.there)) (Src.box (by repeat (first | exact Has.here | apply Has.there))) rfl (by intro u hu; simp at hu; subst hu; rfl) (by omega) (by omega) rfl (fun A4 c4 hc4 => ?_)
  refine gvQ (r := box b 3 _) ?_
  rw [show intV ((k.sups.take i).map (·.ready)) ++ [Value.int .i64 y.ready] = intV ((k.sups.take (i + 1)).map (·.ready)) by rw [e2, intV_append]; rfl]
  refine rQ ?_
  refine gvQ (r := box b4 _ _) ?_
  refine ftQ (r := ownS 3 1 A3 _ _ _) ?_
  exact Tr.again (i + 1, (A3, c3), (A4, c4)) ⟨by simp only; omega, hc3, hc4⟩ (by simp only; omega) hsQ
 have ei : i = k.sups.length := by omega
 subst ei
 rw [List.take_length]
 refine rQ ?_
 refine Tr.own_nil 3 1 ?_
 refine Tr.own_nil 3 1 ?_
 refine Tr.own_nil 3 1 ?_
 refine Tr.loop (α := Nat × (Option Addr × Nat) × (Option Addr × Nat) × (Option Addr × Nat)) (fun y => ⟨60, [(35, .int .i64 (y.1 : Int)), (34, .int .i64 (k.reqs.length : Int)), (33, .slice Ar k.reqs.length cr), (2, .pointer (some ⟨b2, 0, none⟩)), (1, .pointer (some ⟨b1, 0, none⟩))], [], M,
   ownS 3 1 y.2.1.1 y.1 y.2.1.2 (intV ((k.reqs.take y.1).map (·.amount))) :: ownS 3 1 y.2.2.1.1 y.1 y.2.2.1.2 (intV ((k.reqs.take y.1).map (·.due))) :: ownS 3 1 y.2.2.2.1 y.1 y.2.2.2.2 (intV ((k.reqs.take y.1).map fun _ => -1)) :: ownS 3 1 A1 k.sups.length c1 (intV (k.sups.map (·.amount))) :: ownS 3 1 A2 k.sups.length c2 (intV (k.sups.map (·.ready))) :: box b2 89 [.slice Af k.fits.length cf, .slice A1 k.sups.length c1, .slice A2 k.sups.length c2, .slice y.2.1.1 y.1 y.2.1.2, .slice y.2.2.1.1 y.1 y.2.2.1.2, .slice y.2.2.2.1 y.1 y.2.2.2.2] :: box b1 47 [.int .i64 k.known, .slice As k.sups.length cs, .slice Ar k.reqs.length cr, .slice Af k.fits.length cf, .slice Ad k.reads cd] :: ([] ++ F)⟩)
  (fun y => y.1 ≤ k.reqs.length ∧ y.2.1.2 ≤ 9223372036854775807 ∧ y.2.2.1.2 ≤ 9223372036854775807 ∧ y.2.2.2.2 ≤ 9223372036854775807) (fun y => k.reqs.length - y.1) (0, (none, 0), (none, 0), (none, 0)) ⟨Nat.zero_le _, by show (0 : Nat) ≤ _; omega, by show (0 : Nat) ≤ _; omega, by show (0 : Nat) ≤ _; omega⟩ hsQ (fun y hy => ?_)
 obtain ⟨i, ⟨A3, c3⟩, ⟨A4, c4⟩, ⟨A5, c5⟩⟩ := y
 obtain ⟨hi, hc3, hc4, hc5⟩ := hy
 simp only at hi hc3 hc4 hc5
 dsimp only
 by_cases hlt2 : i < k.reqs.length
 ·obtain ⟨y, hy⟩ := get_of_lt hlt2
  obtain ⟨hA, ch, hat, rfl⟩ := h2.elem hy
  have e1 := map_take_succ (·.amount) hy
  have e2 := map_take_succ (·.due) hy
  have e3 := map_take_succ (fun _ : Rq => (-1 : Int)) hy
  repeat (first | ((with_reducible refine Tr.step rfl ?_); (first | ((with_reducible refine Knd.load ?_); (first | (refine xlQ ?_) | (refine Exec.stab rfl (Stab.loadMA rfl (tysOk.get rfl) rfl (by assumption) (by first | rfl | assumption)) rfl ?_))) | (refine xfQ ?_) | (refine xiQ ?_) | (refine xWQ ?_) | ((with_reducible refine Knd.alloc ?_); ((refine Exec.alloc (tysOk.get rfl) rfl rfl (fun b => ?_)))) | (refine xxQ ?_) | ((with_reducible refine Knd.buildSlice ?_); ((refine Exec.buildSlice (tysOk.get rfl) rfl (tysOk.get rfl) rfl rfl rfl rfl rfl (by repeat (first | exact BuildP.nil | ((apply BuildP.one); (rfl); (rfl); (first | rfl | assumption); (repeat (first | exact SetL.z | apply SetL.s))))) rfl (fun b => ?_)))))) | (with_reducible first | apply Tr.next | apply Tr.seq | apply Tr.region | apply Tr.nil | apply Tr.skip | apply Tr.block) | (refine Tr.cond_t rfl (by first | (with_reducible assumption) | omega) ?_))
  rename_i b4
  ((refine Tr.step rfl ?_))
  refine Exec.append (news := [.int .i64 (y.amount)]) rfl rfl (tysOk.get rfl) rfl (tysOk.get rfl) rfl rfl rfl rfl (by repeat (first | exact Del.here | apply Del.there)) (Src.box (by repeat (first | exact Has.here | apply Has.there))) rfl (by intro u hu; simp at hu; subst hu; rfl) (by omega) (by omega) rfl (fun A6 c6 hc6 => ?_)
  refine gvQ (r := box b 3 _) ?_
  rw [show intV ((k.reqs.take i).map (·.amount)) ++ [Value.int .i64 y.amount] = intV ((k.reqs.take (i + 1)).map (·.amount)) by rw [e1, intV_append]; rfl]
  repeat (first | ((with_reducible refine Tr.step rfl ?_); (first | (refine xlQ ?_) | (refine xfQ ?_) | (refine xSQ ?_) | ((with_reducible refine Knd.buildSlice ?_); ((refine Exec.buildSlice (tysOk.get rfl) rfl (tysOk.get rfl) rfl rfl rfl rfl rfl (by repeat (first | exact BuildP.nil | ((apply BuildP.one); (rfl); (rfl); (first | rfl | assumption); (repeat (first | exact SetL.z | apply SetL.s))))) rfl (fun b => ?_)))))) | (with_reducible first | apply Tr.next | apply Tr.seq | apply Tr.region | apply Tr.nil))
  ((refine Tr.step rfl ?_))
  refine Exec.append (news := [.int .i64 (y.due)]) rfl rfl (tysOk.get rfl) rfl (tysOk.get rfl) rfl rfl rfl rfl (by repeat (first | exact Del.here | apply Del.there)) (Src.box (by repeat (first | exact Has.here | apply Has.there))) rfl (by intro u hu; simp at hu; subst hu; rfl) (by omega) (by omega) rfl (fun A7 c7 hc7 => ?_)
  refine gvQ (r := box b 3 _) ?_
  rw [show intV ((k.reqs.take i).map (·.due)) ++ [Value.int .i64 y.due] = intV ((k.reqs.take (i + 1)).map (·.due)) by rw [e2, intV_append]; rfl]
  repeat (first | ((with_reducible refine Tr.step rfl ?_); (first | (refine xlQ ?_) | (refine xfQ ?_) | (refine xSQ ?_) | ((with_reducible refine Knd.buildSlice ?_); ((refine Exec.buildSlice (tysOk.get rfl) rfl (tysOk.get rfl) rfl rfl rfl rfl rfl (by repeat (first | exact BuildP.nil | ((apply BuildP.one); (rfl); (rfl); (first | rfl | assumption); (repeat (first | exact SetL.z | apply SetL.s))))) rfl (fun b => ?_)))))) | (with_reducible first | apply Tr.next | apply Tr.region | apply Tr.nil))
  ((refine Tr.step rfl ?_))
  refine Exec.append (news := [.int .i64 (-1)]) rfl rfl (tysOk.get rfl) rfl (tysOk.get rfl) rfl rfl rfl rfl (by repeat (first | exact Del.here | apply Del.there)) (Src.box (by repeat (first | exact Has.here | apply Has.there))) rfl (by intro u hu; simp at hu; subst hu; rfl) (by omega) (by omega) rfl (fun A8 c8 hc8 => ?_)
  refine gvQ (r := box b 3 _) ?_
  rw [show intV ((k.reqs.take i).map fun _ => -1) ++ [Value.int .i64 (-1)] = intV ((k.reqs.take (i + 1)).map fun _ => -1) by rw [e3, intV_append]; rfl]
  refine rQ ?_
  refine gvQ (r := box b4 _ _) ?_
  refine ftQ (r := ownS 3 1 A7 _ _ _) ?_
  refine ftQ (r := ownS 3 1 A6 _ _ _) ?_
  exact Tr.again (i + 1, (A6, c6), (A7, c7), (A8, c8)) ⟨by simp only; omega, hc6, hc7, hc8⟩ (by simp only; omega) hsQ
 have ei : i = k.reqs.length := by omega
 subst ei
 rw [List.take_length]
 refine pbQ (r := ownS 3 1 A1 _ _ _) (fun M1 hm1 ok1 => ?_)
 refine pbQ (r := ownS 3 1 A2 _ _ _) (fun M2 hm2 ok2 => ?_)
 refine pbQ (r := ownS 3 1 A3 _ _ _) (fun M3 hm3 ok3 => ?_)
 refine pbQ (r := ownS 3 1 A4 _ _ _) (fun M4 hm4 ok4 => ?_)
 refine pbQ (r := ownS 3 1 A5 _ _ _) (fun M5 hm5 ok5 => ?_)
 have hlast := hm1.trans (hm2.trans (hm3.trans (hm4.trans hm5)))
 refine rQ ?_
 (refine Tr.done (by first | exact .inl rfl | exact .inr rfl) rfl (by repeat (first | exact RVs.nil | (apply RVs.cons; (exact RV.cellW (by rfl) (tysOk.get (by rfl)) (by rfl) (by repeat (first | exact Has.here | apply Has.there)) (by first | rfl | assumption))))) (by first | exact Mem.le.refl _ | assumption) (by exact ⟨[_, _], rfl⟩) ⟨rfl, ?_⟩)
 have i1 := Ints.ofOwn ok1 (by simp) hc1
 have i2 := Ints.ofOwn ok2 (by simp) hc2
 have i3 := Ints.ofOwn ok3 (by simp) hc3
 have i4 := Ints.ofOwn ok4 (by simp) hc4
 have i5 := Ints.ofOwn ok5 (by simp) hc5
 refine ⟨Af, cf, A1, c1, A2, c2, A3, c3, A4, c4, A5, c5, ?_, h3.mono RRowB.mono hlast, i1.mono RI.mono (hm2.trans (hm3.trans (hm4.trans hm5))), i2.mono RI.mono (hm3.trans (hm4.trans hm5)), i3.mono RI.mono (hm4.trans hm5), i4.mono RI.mono hm5, i5⟩
 simp only [fxB, beginF, List.length_map]
 rfl
end Go.Proofs.Ytcadnjmcmegpjaa

/-
 Honour: checkBook.
 Conditions: none.
-/
namespace Go.Proofs.Ytcadnjmcmegpjaa
open Go Bf
attribute [local irreducible] Tr Exec Stab HasTy Go.Addr.add IntKind.wrap
theorem formed_of {k : Bk} (h1 : k.sups.length ≤ 64) (h2 : k.reqs.length ≤ 64) (h3 : ∀ t y, t < k.sups.length → k.sups[t]? = some y → (0 ≤ y.amount ∧ y.amount ≤ 1048576) ∧ 0 ≤ y.ready ∧ y.ready ≤ 1024) (h4 : ∀ t y, t < k.reqs.length → k.reqs[t]? = some y → (0 ≤ y.amount ∧ y.amount ≤ 1048576) ∧ 0 ≤ y.due ∧ y.due ≤ 1024) (h5 : k.fits.length = k.sups.length) (h6 : ∀ t (y : List Bool), t < k.fits.length → k.fits[t]? = some y → y.length = k.reqs.length) : formedB k := by
 refine ⟨h1, h2, fun y hy => ?_, fun y hy => ?_, h5, fun y hy => ?_⟩
 ·obtain ⟨t, ht, rfl⟩ := List.getElem_of_mem hy
  exact h3 t _ ht (List.getElem?_eq_getElem ht)
 ·obtain ⟨t, ht, rfl⟩ := List.getElem_of_mem hy
  exact h4 t _ ht (List.getElem?_eq_getElem ht)
 ·obtain ⟨t, ht, rfl⟩ := List.getElem_of_mem hy
  exact h6 t _ ht (List.getElem?_eq_getElem ht)
set_option maxHeartbeats 16000000 in
theorem checkBook_fn (M : Mem) (v : Value) (k : Bk) (h : RBk M v k) :
  FnP Try.prog 58 [v] M [] (fun _ _ A' => A' = [] ∧ validB k) (fun ch _ A' => ch = refCh ∧ A' = [] ∧ ¬ validB k) := by
 have hB := h
 obtain ⟨As, cs, Ar, cr, Af, cf, Ad, cd, rfl, h1, h2, h3⟩ := h
 have hpan := require_n M
 have hlS := h1.len_le
 have hlR := h2.len_le
 have hlF := h3.len_le
 refine FnP.intro Try.func58 rfl rfl Try.ntmps58 rfl fun E F => ?_
 by_cases g1 : k.sups.length ≤ 64 ∧ k.reqs.length ≤ 64
 rotate_left
 ·by_cases g2 : k.sups.length ≤ 64
  ·have g3 : decide ((k.reqs.length : Int) ≤ 64) = false := decide_eq_false (fun h => g1 ⟨g2, by omega⟩)
   (repeat (first | ((with_reducible refine Tr.step rfl ?_); (first | (refine xmQ ?_) | (refine xlQ ?_) | (refine xfQ ?_) | (refine xnQ ?_) | (refine xiQ ?_) | ((with_reducible refine Knd.pick ?_); (refine Exec.stab rfl (Stab.pick_td rfl (by omega) rfl) rfl ?_)) | ((with_reducible refine Knd.box ?_); (refine Exec.box rfl rfl (fun b => ?_))))) | (with_reducible first | apply Tr.next | apply Tr.seq | apply Tr.region | apply Tr.nil) | ((refine Tr.guard_y rfl rfl rfl (by first | (with_reducible assumption) | omega) ?_); (first | (refine xlQ ?_) | (refine xfQ ?_) | (refine xnQ ?_) | (refine xiQ ?_)))))
   rw [g3]
   ((refine Tr.step rfl ?_))
   refine Exec.callP rfl hpan (List.Perm.refl _) rfl (fun v M' A' hm hR => hR.elim) (fun ch M' A' hm hR => ?_)
   obtain ⟨rfl, rfl, rfl⟩ := hR
   (repeat ((with_reducible refine Tr.then_panic ?_)))
   exact Tr.doneP (A' := []) (Mem.le.refl _) (by repeat (first | exact DropL.refl | apply DropL.skip)) ⟨rfl, rfl, fun hv => g1 ⟨hv.1.1, hv.1.2.1⟩⟩
  ·(repeat (first | ((with_reducible refine Tr.step rfl ?_); (first | (refine xmQ ?_) | (refine xlQ ?_) | (refine xfQ ?_) | (refine xnQ ?_) | (refine xiQ ?_) | ((with_reducible refine Knd.pick ?_); (refine Exec.stab rfl (Stab.pick_fd rfl (by omega) rfl) rfl ?_)) | ((with_reducible refine Knd.box ?_); (refine Exec.box rfl rfl (fun b => ?_))))) | (with_reducible first | apply Tr.next | apply Tr.seq | apply Tr.region | apply Tr.nil) | (refine Tr.guard_n rfl rfl rfl (by first | (with_reducible assumption) | omega) rfl rfl ?_)))
   ((refine Tr.step rfl ?_))
   refine Exec.callP rfl hpan (List.Perm.refl _) rfl (fun v M' A' hm hR => hR.elim) (fun ch M' A' hm hR => ?_)
   obtain ⟨rfl, rfl, rfl⟩ := hR
   (repeat ((with_reducible refine Tr.then_panic ?_)))
   exact Tr.doneP (A' := []) (Mem.le.refl _) (by repeat (first | exact DropL.refl | apply DropL.skip)) ⟨rfl, rfl, fun hv => g2 hv.1.1⟩
 have g3 : decide ((k.reqs.length : Int) ≤ 64) = true := decide_eq_true (by omega)
 (repeat (first | ((with_reducible refine Tr.step rfl ?_); (first | (refine xmQ ?_) | (refine xlQ ?_) | (refine xfQ ?_) | (refine xnQ ?_) | (refine xiQ ?_) | ((with_reducible refine Knd.pick ?_); (refine Exec.stab rfl (Stab.pick_td rfl (by omega) rfl) rfl ?_)) | ((with_reducible refine Knd.box ?_); (refine Exec.box rfl rfl (fun b => ?_))))) | (with_reducible first | apply Tr.next | apply Tr.seq | apply Tr.region | apply Tr.nil) | ((refine Tr.guard_y rfl rfl rfl (by first | (with_reducible assumption) | omega) ?_); (first | (refine xlQ ?_) | (refine xfQ ?_) | (refine xnQ ?_) | (refine xiQ ?_)))))
 rw [g3]
 ((refine Tr.step rfl ?_)); refine Exec.call0 rfl (require_y M) rfl ?_
 rintro _ _ _ rfl
 (refine rQ ?_)
 generalize b = b1
 refine Tr.loop (α := Nat) (fun y => ⟨85, [(22, .int .i64 (y : Int)), (21, .int .i64 (k.sups.length : Int)), (20, .slice As k.sups.length cs), (1, .pointer (some ⟨b1, 0, none⟩))], [], M, box b1 47 [.int .i64 k.known, .slice As k.sups.length cs, .slice Ar k.reqs.length cr, .slice Af k.fits.length cf, .slice Ad k.reads cd] :: ([] ++ F)⟩)
  (fun y => y ≤ k.sups.length ∧ ∀ t z, t < y → k.sups[t]? = some z → (0 ≤ z.amount ∧ z.amount ≤ 1048576) ∧ 0 ≤ z.ready ∧ z.ready ≤ 1024) (fun y => k.sups.length - y) 0 ⟨Nat.zero_le _, fun t _ ht => by omega⟩ hsQ (fun y hy => ?_)
 obtain ⟨hy, hall⟩ := hy
 by_cases hlt : y < k.sups.length
 ·obtain ⟨z, hz⟩ := get_of_lt hlt
  obtain ⟨hA, ch, hat, rfl⟩ := h1.elem hz
  (repeat (first | ((with_reducible refine Tr.step rfl ?_); (first | ((with_reducible refine Knd.load ?_); (first | (refine xlQ ?_) | (refine Exec.stab rfl (Stab.loadMA rfl (tysOk.get rfl) rfl (by assumption) (by first | rfl | assumption)) rfl ?_))) | (refine xfQ ?_) | (refine xiQ ?_) | (refine xWQ ?_) | ((with_reducible refine Knd.alloc ?_); (refine Exec.alloc (tysOk.get rfl) rfl rfl (fun b => ?_))) | (refine xxQ ?_))) | (with_reducible first | apply Tr.next | apply Tr.seq | apply Tr.region | apply Tr.nil | apply Tr.skip | apply Tr.block) | (refine Tr.cond_t rfl (by first | (with_reducible assumption) | omega) ?_)))
  ((refine Tr.step rfl ?_)); refine Exec.call0 rfl (between_fn M z.amount 0 1048576) rfl ?_
  rintro _ _ _ ⟨rfl, rfl⟩
  by_cases q1 : 0 ≤ z.amount ∧ z.amount ≤ 1048576
  rotate_left
  ·rw [decide_eq_false q1]
   (refine rQ ?_)
   ((refine Tr.step rfl ?_))
   refine Exec.callP rfl hpan (List.Perm.refl _) rfl (fun v M' A' hm hR => hR.elim) (fun ch M' A' hm hR => ?_)
   obtain ⟨rfl, rfl, rfl⟩ := hR
   (repeat (first | (with_reducible first | apply Tr.then_panic | apply Tr.in_panic)))
   exact Tr.doneP (A' := []) (Mem.le.refl _) (by repeat (first | exact DropL.refl | apply DropL.skip)) ⟨rfl, rfl, fun hv => q1 (hv.1.2.2.1 z (List.mem_of_getElem? hz)).1⟩
  rw [decide_eq_true q1]
  (refine rQ ?_)
  ((refine Tr.guard_l rfl rfl rfl (by (with_reducible rfl)) ?_)); refine Exec.call0 rfl (between_fn M z.ready 0 1024) rfl ?_
  rintro _ _ _ ⟨rfl, rfl⟩
  by_cases q2 : 0 ≤ z.ready ∧ z.ready ≤ 1024
  rotate_left
  ·rw [decide_eq_false q2]
   (refine rQ ?_)
   ((refine Tr.step rfl ?_))
   refine Exec.callP rfl hpan (List.Perm.refl _) rfl (fun v M' A' hm hR => hR.elim) (fun ch M' A' hm hR => ?_)
   obtain ⟨rfl, rfl, rfl⟩ := hR
   (repeat (first | (with_reducible first | apply Tr.then_panic | apply Tr.in_panic)))
   exact Tr.doneP (A' := []) (Mem.le.refl _) (by repeat (first | exact DropL.refl | apply DropL.skip)) ⟨rfl, rfl, fun hv => q2 (hv.1.2.2.1 z (List.mem_of_getElem? hz)).2⟩
  rw [decide_eq_true q2]
  (refine rQ ?_)
  ((refine Tr.step rfl ?_)); refine Exec.call0 rfl (require_y M) rfl ?_
  rintro _ _ _ rfl
  (refine rQ ?_)
  refine gvQ (r := box b _ _) ?_
  refine Tr.again (y + 1) ⟨by omega, fun t w ht hw => ?_⟩ (by omega) hsQ
  by_cases ht2 : t < y
  ·exact hall t w ht2 hw
  ·have : t = y := by omega
   subst this
   rw [hz] at hw
   cases hw
   exact ⟨q1, q2⟩
 have ey : y = k.sups.length := by omega
 subst ey
 (refine rQ ?_)
 refine Tr.loop (α := Nat) (fun y => ⟨85, [(39, .int .i64 (y : Int)), (38, .int .i64 (k.reqs.length : Int)), (37, .slice Ar k.reqs.length cr), (1, .pointer (some ⟨b1, 0, none⟩))], [], M, box b1 47 [.int .i64 k.known, .slice As k.sups.length cs, .slice Ar k.reqs.length cr, .slice Af k.fits.length cf, .slice Ad k.reads cd] :: ([] ++ F)⟩)
  (fun y => y ≤ k.reqs.length ∧ ∀ t z, t < y → k.reqs[t]? = some z → (0 ≤ z.amount ∧ z.amount ≤ 1048576) ∧ 0 ≤ z.due ∧ z.due ≤ 1024) (fun y => k.reqs.length - y) 0 ⟨Nat.zero_le _, fun t _ ht => by omega⟩ hsQ (fun y hy => ?_)
 have hsup := hall
 obtain ⟨hy, hall⟩ := hy
 by_cases hlt : y < k.reqs.length
 ·obtain ⟨z, hz⟩ := get_of_lt hlt
  obtain ⟨hA, ch, hat, rfl⟩ := h2.elem hz
  (repeat (first | ((with_reducible refine Tr.step rfl ?_); (first | ((with_reducible refine Knd.load ?_); (first | (refine xlQ ?_) | (refine Exec.stab rfl (Stab.loadMA rfl (tysOk.get rfl) rfl (by assumption) (by first | rfl | assumption)) rfl ?_))) | (refine xfQ ?_) | (refine xiQ ?_) | (refine xWQ ?_) | ((with_reducible refine Knd.alloc ?_); (refine Exec.alloc (tysOk.get rfl) rfl rfl (fun b => ?_))) | (refine xxQ ?_))) | (with_reducible first | apply Tr.next | apply Tr.seq | apply Tr.region | apply Tr.nil | apply Tr.skip | apply Tr.block) | (refine Tr.cond_t rfl (by first | (with_reducible assumption) | omega) ?_)))
  ((refine Tr.step rfl ?_)); refine Exec.call0 rfl (between_fn M z.amount 0 1048576) rfl ?_
  rintro _ _ _ ⟨rfl, rfl⟩
  by_cases q1 : 0 ≤ z.amount ∧ z.amount ≤ 1048576
  rotate_left
  ·rw [decide_eq_false q1]
   (refine rQ ?_)
   ((refine Tr.step rfl ?_))
   refine Exec.callP rfl hpan (List.Perm.refl _) rfl (fun v M' A' hm hR => hR.elim) (fun ch M' A' hm hR => ?_)
   obtain ⟨rfl, rfl, rfl⟩ := hR
   (repeat (first | (with_reducible first | apply Tr.then_panic | apply Tr.in_panic)))
   exact Tr.doneP (A' := []) (Mem.le.refl _) (by repeat (first | exact DropL.refl | apply DropL.skip)) ⟨rfl, rfl, fun hv => q1 (hv.1.2.2.2.1 z (List.mem_of_getElem? hz)).1⟩
  rw [decide_eq_true q1]
  (refine rQ ?_)
  ((refine Tr.guard_l rfl rfl rfl (by (with_reducible rfl)) ?_)); refine Exec.call0 rfl (between_fn M z.due 0 1024) rfl ?_
  rintro _ _ _ ⟨rfl, rfl⟩
  by_cases q2 : 0 ≤ z.due ∧ z.due ≤ 1024
  rotate_left
  ·rw [decide_eq_false q2]
   (refine rQ ?_)
   ((refine Tr.step rfl ?_))
   refine Exec.callP rfl hpan (List.Perm.refl _) rfl (fun v M' A' hm hR => hR.elim) (fun ch M' A' hm hR => ?_)
   obtain ⟨rfl, rfl, rfl⟩ := hR
   (repeat (first | (with_reducible first | apply Tr.then_panic | apply Tr.in_panic)))
   exact Tr.doneP (A' := []) (Mem.le.refl _) (by repeat (first | exact DropL.refl | apply DropL.skip)) ⟨rfl, rfl, fun hv => q2 (hv.1.2.2.2.1 z (List.mem_of_getElem? hz)).2⟩
  rw [decide_eq_true q2]
  (refine rQ ?_)
  ((refine Tr.step rfl ?_)); refine Exec.call0 rfl (require_y M) rfl ?_
  rintro _ _ _ rfl
  (refine rQ ?_)
  refine gvQ (r := box b _ _) ?_
  refine Tr.again (y + 1) ⟨by omega, fun t w ht hw => ?_⟩ (by omega) hsQ
  by_cases ht2 : t < y
  ·exact hall t w ht2 hw
  ·have : t = y := by omega
   subst this
   rw [hz] at hw
   cases hw
   exact ⟨q1, q2⟩
 have ey : y = k.reqs.length := by omega
 subst ey
 have hreq := hall
 by_cases g5 : k.fits.length = k.sups.length
 rotate_left
 ·have g6 : decide ((k.fits.length : Int) = (k.sups.length : Int)) = false := decide_eq_false (by omega)
  (refine rQ ?_)
  rw [g6]
  ((refine Tr.step rfl ?_))
  refine Exec.callP rfl hpan (List.Perm.refl _) rfl (fun v M' A' hm hR => hR.elim) (fun ch M' A' hm hR => ?_)
  obtain ⟨rfl, rfl, rfl⟩ := hR
  (repeat ((with_reducible refine Tr.then_panic ?_)))
  exact Tr.doneP (A' := []) (Mem.le.refl _) (by repeat (first | exact DropL.refl | apply DropL.skip)) ⟨rfl, rfl, fun hv => g5 hv.1.2.2.2.2.1⟩
 have g6 : decide ((k.fits.length : Int) = (k.sups.length : Int)) = true := decide_eq_true (by omega)
 (refine rQ ?_)
 rw [g6]
 ((refine Tr.step rfl ?_)); refine Exec.call0 rfl (require_y M) rfl ?_
 rintro _ _ _ rfl
 (refine rQ ?_)
 refine Tr.loop (α := Nat) (fun y => ⟨85, [(64, .int .i64 (y : Int)), (63, .int .i64 (k.fits.length : Int)), (62, .slice Af k.fits.length cf), (1, .pointer (some ⟨b1, 0, none⟩))], [], M, box b1 47 [.int .i64 k.known, .slice As k.sups.length cs, .slice Ar k.reqs.length cr, .slice Af k.fits.length cf, .slice Ad k.reads cd] :: ([] ++ F)⟩)
  (fun y => y ≤ k.fits.length ∧ ∀ t (z : List Bool), t < y → k.fits[t]? = some z → z.length = k.reqs.length) (fun y => k.fits.length - y) 0 ⟨Nat.zero_le _, fun t _ ht => by omega⟩ hsQ (fun y hy => ?_)
 obtain ⟨hy, hall⟩ := hy
 by_cases hlt : y < k.fits.length
 ·obtain ⟨z, hz⟩ := get_of_lt hlt
  obtain ⟨hA, ch, hat, Aw, kw, rfl, hzb⟩ := h3.elem hz
  by_cases q1 : z.length = k.reqs.length
  rotate_left
  ·have g7 : decide ((z.length : Int) = (k.reqs.length : Int)) = false := decide_eq_false (by omega)
   (refine rQ ?_)
   rw [g7]
   ((refine Tr.step rfl ?_))
   refine Exec.callP rfl hpan (List.Perm.refl _) rfl (fun v M' A' hm hR => hR.elim) (fun ch M' A' hm hR => ?_)
   obtain ⟨rfl, rfl, rfl⟩ := hR
   (repeat (first | (with_reducible first | apply Tr.then_panic | apply Tr.in_panic)))
   exact Tr.doneP (A' := []) (Mem.le.refl _) (by repeat (first | exact DropL.refl | apply DropL.skip)) ⟨rfl, rfl, fun hv => q1 (hv.1.2.2.2.2.2 z (List.mem_of_getElem? hz))⟩
  have g7 : decide ((z.length : Int) = (k.reqs.length : Int)) = true := decide_eq_true (by omega)
  (refine rQ ?_)
  rw [g7]
  ((refine Tr.step rfl ?_)); refine Exec.call0 rfl (require_y M) rfl ?_
  rintro _ _ _ rfl
  (refine rQ ?_)
  refine Tr.again (y + 1) ⟨by omega, fun t w ht hw => ?_⟩ (by omega) hsQ
  by_cases ht2 : t < y
  ·exact hall t w ht2 hw
  ·have : t = y := by omega
   subst this
   rw [hz] at hw
   cases hw
   exact q1
 have ey : y = k.fits.length := by omega
 subst ey
 have hfb := formed_of g1.1 g1.2 hsup hreq g5 hall
 have hfit := begin_fit hfb
 have hbl : (beginF k).nd.length = k.reqs.length := by simp [beginF]
 (refine rQ ?_)
 (((apply Tr.draw); (kernel_rfl)); (refine tkQ 0 (hB := by exact fun _ h => h) (s := by exact swQ) ?_); (refine tkQ 2 (s := by exact sfQ) ?_); (refine tkQ 3 (s := by exact slQ) ?_); (refine tkQ 4 (s := by exact snQ) ?_); (refine TrA.eff 1 rfl (by kernel_rfl) (by exact .inl rfl) ?_))
 refine Exec.call0 rfl (hbegin_fn M _ k hB (by omega) (by omega)) rfl ?_
 rintro r1 M1 hm1 hR1
 refine ⟨hm1, (by exact fun _ h => h), ?_⟩
 have hfl := failing_own M1 _ (fxB k) (beginF k) k.reqs.length hR1 hfit (by omega)
 have hno : failF (fxB k) (beginF k) k.reqs.length ≠ [] → ¬ validB k := fun hne hv => hne hv.2
 have hyes : failF (fxB k) (beginF k) k.reqs.length = [] → validB k := fun he => ⟨hfb, he⟩
 generalize failF (fxB k) (beginF k) k.reqs.length = l at hfl hno hyes
 ((refine TrA.eff 5 rfl (by kernel_rfl) (by exact .inl rfl) ?_))
 refine Exec.call (A := []) rfl hfl (List.Perm.refl _) rfl ?_
 rintro _ M5 _ hm5 ⟨A9, c9, hc9, rfl, rfl⟩
 refine ⟨hm5, (by exact (Sub.mem (by repeat (first | exact Sub.refl | apply Sub.cons)))), ?_⟩
 ((refine tkQ 6 (s := by exact snQ) ?_); (refine tkQ 7 (s := by exact siQ) ?_))
 by_cases c7 : l = []
 rotate_left
 ·have hl0 : ¬ ((l.length : Int) = 0) := fun h => c7 (List.eq_nil_of_length_eq_zero (by omega))
  rw [decide_eq_false hl0]
  ((refine TrA.eff 8 rfl (by kernel_rfl) (by exact .inl rfl) ?_))
  refine Exec.callP rfl (require_n M5) (List.Perm.refl _) rfl (fun v M' A' hm hR => hR.elim) (fun ch M' A' hm hR => ?_)
  obtain ⟨rfl, rfl, rfl⟩ := hR
  (skip)
  exact Tr.doneP (A' := []) (hm1.trans hm5) (by repeat (first | exact DropL.refl | apply DropL.skip)) ⟨rfl, rfl, hno c7⟩
 have hl0 : (l.length : Int) = 0 := by rw [c7]; rfl
 rw [decide_eq_true hl0]
 ((refine TrA.eff 8 rfl (by kernel_rfl) (by exact .inl rfl) ?_))
 refine Exec.call0 rfl (require_y M5) rfl ?_
 rintro _ _ _ rfl
 refine ⟨Mem.le.refl _, (by exact (Sub.mem (by repeat (first | exact Sub.refl | apply Sub.cons)))), ?_⟩
 have hlast := hm1.trans hm5
 ((refine TrA.done (by kernel_rfl) ?_))
 (skip)
 refine Tr.ofPost ?_
 (refine Tr.done (by first | exact .inl rfl | exact .inr rfl) rfl (by repeat (exact RVs.nil)) (by first | exact Mem.le.refl _ | assumption) (by exact ⟨[_, _], rfl⟩) ⟨rfl, ?_⟩)
 exact hyes c7
end Go.Proofs.Ytcadnjmcmegpjaa

/-
 Honour: lose, late.
 Conditions: none.
-/
namespace Go.Proofs.Ytcadnjmcmegpjaa
open Go Bf
attribute [local irreducible] Tr Exec Stab HasTy Go.Addr.add IntKind.wrap
def hpV (h : Hp) : Value := .agg #[.int .i64 h.kind, .int .i64 h.sup, .int .i64 h.req, .int .i64 h.day, .int .i64 h.amt]
set_option maxHeartbeats 16000000 in
theorem lose_fn (M : Mem) (v : Value) (x : Fx) (s : St) (h : Hp) (at_ : Nat) (hS : RSt M v x s) (hf : Fit x s) (hk : h.kind = 1) :
  FnP Try.prog 84 [v, hpV h, .int .i64 (at_ : Int)] M [] (fun r M' A' => A' = [] ∧ ∃ s', stepF x s h at_ = some s' ∧ RSt M' r x s') (fun ch _ A' => ch = refCh ∧ A' = [] ∧ stepF x s h at_ = none) := by
 have hS0 := hS
 obtain ⟨Af, cf, Aa, ca, Ad, cd, An, cn, Au, cu, Ab, cb, rfl, h1, h2, h3, h4, h5, h6⟩ := hS
 have z1 := hf.l64
 have z2 := hf.r64
 have z3 := hf.dyl
 have z4 := hf.brl
 obtain ⟨kd, sup, req, day, amt⟩ := h
 simp only at hk
 subst hk
 simp only [hpV]
 refine FnP.intro Try.func84 rfl rfl Try.ntmps84 rfl fun E F => ?_
 repeat (first | ((with_reducible refine Tr.step rfl ?_); (first | ((with_reducible refine Knd.box ?_); ((refine Exec.box rfl rfl (fun b => ?_)))) | ((with_reducible refine Knd.alloc ?_); ((refine Exec.alloc (tysOk.get rfl) rfl rfl (fun b => ?_)))))) | (with_reducible first | apply Tr.next | apply Tr.seq | apply Tr.region | apply Tr.nil))
 rename_i b3 b4
 generalize b = b6
 (((apply Tr.draw); (kernel_rfl)); (refine tkQ 0 (hB := by exact fun _ h => h) (s := by exact sfQ) ?_); (refine tkQ 2 (s := by exact sfQ) ?_); (refine tkQ 1 (s := by exact slQ) ?_); (refine tkQ 3 (s := by exact slQ) ?_); (refine tkQ 4 (s := by exact snQ) ?_); (refine tkQ 5 (s := by exact Stab.subi rfl rfl (by omega)) ?_); (refine TrA.eff 6 rfl (by kernel_rfl) (by exact .inl rfl) ?_))
 refine Exec.call0 rfl (between_fn M sup 0 ((s.am.length : Int) - 1)) rfl ?_
 rintro _ _ _ ⟨rfl, rfl⟩
 refine ⟨Mem.le.refl _, (by exact fun _ h => h), ?_⟩
 by_cases c1 : 0 ≤ sup ∧ sup ≤ (s.am.length : Int) - 1
 rotate_left
 ·rw [decide_eq_false c1]
  ((refine tkQ 7 (s := by exact Stab.move rfl) ?_); ((refine tuQ 8 ?_)); ((refine tuQ 9 ?_)); ((refine tuQ 10 ?_)); ((refine tuQ 11 ?_)); ((refine tuQ 12 ?_)); ((refine tuQ 13 ?_)); ((refine tuQ 14 ?_)); ((refine tuQ 15 ?_)); ((refine tuQ 16 ?_)); (refine tkQ 17 (s := by exact Stab.pick_f rfl (by (with_reducible rfl)) rfl) ?_); (refine TrA.eff 18 rfl (by kernel_rfl) (by exact .inl rfl) ?_))
  refine Exec.callP rfl (require_n M) (List.Perm.refl _) rfl (fun v M' A' hm hR => hR.elim) (fun ch M' A' hm hR => ?_)
  obtain ⟨rfl, rfl, rfl⟩ := hR
  repeat ((with_reducible refine Tr.then_panic ?_))
  exact Tr.doneP (A' := []) (Mem.le.refl _) (by repeat (first | exact DropL.refl | apply DropL.skip)) ⟨rfl, rfl, by rw [stepF, if_pos rfl, if_neg (fun h => c1 h.1)]⟩
 rw [decide_eq_true c1]
 obtain ⟨i, rfl, e1, hil⟩ := nat_of c1
 obtain ⟨a, ha⟩ := get_of_lt hil
 obtain ⟨hAa, hata⟩ := Ints.at h2 ha
 have had := getD_of (d := (0 : Int)) ha
 ((refine tkQ 7 (s := by exact Stab.move rfl) ?_); ((refine tgQ 8 (s := by exact sfQ) ?_)); ((refine tgQ 10 (s := by exact sfQ) ?_)); ((refine tgQ 12 (s := by exact sfQ) ?_)); ((refine tgQ 9 (s := by exact slQ) ?_)); ((refine tgQ 11 (s := by exact slQ) ?_)); ((refine tgQ 13 (s := by exact slQ) ?_)); ((refine tgQ 14 (s := by exact sxQ) ?_)); ((refine tgQ 15 (s := by exact sMQ) ?_)); (refine TrA.eff 16 rfl (by kernel_rfl) (by exact .inr ⟨_, _, _, rfl, rfl, rfl⟩) ?_))
 refine Exec.call0 rfl (between_fn M amt 1 a) rfl ?_
 rintro _ _ _ ⟨rfl, rfl⟩
 refine ⟨Mem.le.refl _, (by exact fun _ h => h), ?_⟩
 by_cases c2 : 1 ≤ amt ∧ amt ≤ a
 rotate_left
 ·rw [decide_eq_false c2]
  ((refine tkQ 17 (s := by exact Stab.pick_t rfl (by (with_reducible rfl)) rfl) ?_); (refine TrA.eff 18 rfl (by kernel_rfl) (by exact .inl rfl) ?_))
  refine Exec.callP rfl (require_n M) (List.Perm.refl _) rfl (fun v M' A' hm hR => hR.elim) (fun ch M' A' hm hR => ?_)
  obtain ⟨rfl, rfl, rfl⟩ := hR
  repeat ((with_reducible refine Tr.then_panic ?_))
  exact Tr.doneP (A' := []) (Mem.le.refl _) (by repeat (first | exact DropL.refl | apply DropL.skip)) ⟨rfl, rfl, by rw [stepF, if_pos rfl, if_neg (fun h => c2 (by have := h.2; rw [e1, had] at this; exact this))]⟩
 rw [decide_eq_true c2]
 ((refine tkQ 17 (s := by exact Stab.pick_t rfl (by (with_reducible rfl)) rfl) ?_); (refine TrA.eff 18 rfl (by kernel_rfl) (by exact .inl rfl) ?_))
 refine Exec.call0 rfl (require_y M) rfl ?_
 rintro _ _ _ rfl
 refine ⟨Mem.le.refl _, (by exact fun _ h => h), ?_⟩
 ((refine TrA.done (by kernel_rfl) ?_))
 refine rQ ?_
 ((refine Tr.step rfl ?_))
 refine Exec.call (A := []) rfl (stclone_own M _ x s hS0 hf) (List.Perm.refl _) rfl ?_
 rintro _ _ _ - ⟨rfl, Af2, cf2, Au2, cu2, Aa2, ca2, Ad2, cd2, An2, cn2, Ab2, cb2, rfl, g1, g5, ⟨q1, q2, q3, q4⟩, rfl⟩
 simp only [List.cons_append, List.nil_append]
 repeat (first | ((with_reducible refine Tr.step rfl ?_); (first | (refine xWQ ?_) | ((with_reducible refine Knd.alloc ?_); ((refine Exec.alloc (tysOk.get rfl) rfl rfl (fun b => ?_)))))) | (with_reducible first | apply Tr.next | apply Tr.seq | apply Tr.nil))
 generalize b = b7
 refine Tr.own_some Aa2 (e := 3) (sz := 1) (m := s.am.length) (c := ca2) (xs := intV s.am) (by repeat (first | exact Has.here | apply Has.there)) (by omega) (fun hA2 => ?_)
 have hra := hf.amr a (List.mem_of_getElem? ha)
 have hnv : (intV s.am)[(i : Int).toNat]? = some (.int .i64 a) := by rw [Int.toNat_natCast]; exact intV_get ha
 have hla : (intV s.am).length = s.am.length := by rw [intV_length]
 (((apply Tr.draw); (kernel_rfl)); (refine tkQ 0 (hB := by exact fun _ h => h) (s := by exact sfQ) ?_); (refine tkQ 2 (s := by exact sfQ) ?_); (refine tkQ 6 (s := by exact sfQ) ?_); (refine tkQ 1 (s := by exact slQ) ?_); (refine tkQ 3 (s := by exact slQ) ?_); (refine tkQ 7 (s := by exact slQ) ?_); (refine tkQ 4 (s := by exact sxQ) ?_); (refine tkQ 5 (s := by exact Stab.loadO rfl (tysOk.get rfl) rfl (by repeat (first | exact Has.here | apply Has.there)) (by assumption)) ?_); (refine tkQ 8 (s := by exact Stab.subi rfl rfl (by omega)) ?_); (refine tkQ 9 (s := by exact sxQ) ?_); (refine TrA.effD 10 rfl (by kernel_rfl) (by kernel_rfl) (by exact .inl rfl) ?_); (((refine Knd.store ?_); ((refine Exec.storeO rfl rfl (tysOk.get rfl) rfl (by first | rfl | assumption) (by repeat (first | exact Upd.here | apply Upd.there)) (by omega) ?_)))); (refine ⟨_, fun _ h => h, ?_⟩); (refine TrA.done (by kernel_rfl) ?_))
 rw [Int.toNat_natCast i, intV_set]
 refine pbQ (r := ownS 3 1 Aa2 _ _ _) (fun M1 hm1 ok1 => ?_)
 have hI1 : Ints M1 (.slice Aa2 (s.am.set i (a - amt)).length ca2) (s.am.set i (a - amt)) := Ints.ofOwn ok1 (by rw [List.length_set]) q1
 refine pbQ (r := ownS 3 1 Ad2 _ _ _) (fun M2 hm2 ok2 => ?_)
 have hI2 : Ints M2 (.slice Ad2 s.dy.length cd2) s.dy := Ints.ofOwn ok2 rfl q2
 refine pbQ (r := ownS 3 1 An2 _ _ _) (fun M3 hm3 ok3 => ?_)
 have hI3 : Ints M3 (.slice An2 s.nd.length cn2) s.nd := Ints.ofOwn ok3 rfl q3
 have hm13 := hm1.trans (hm2.trans hm3)
 have hf2 : Fit x { s with am := s.am.set i (a - amt) } := hf.setAm (by omega) i
 have hfl := hfail_own M3 x { s with am := s.am.set i (a - amt) } at_ Af2 Aa2 Ad2 An2 Au2 Ab2 cf2 ca2 cd2 cn2 cu2 cb2 hf2 (g1.mono RRowB.mono hm13) (hI1.mono RI.mono (hm2.trans hm3)) (hI2.mono RI.mono hm3) hI3 (g5.mono RI.mono hm13) q4
 have hl2 : (s.am.set i (a - amt)).length = s.am.length := List.length_set
 dsimp only at hfl
 rw [hl2] at hfl
 refine rQ ?_
 ((refine Tr.step rfl ?_))
 refine Exec.call (A := [ownS 3 1 Ab2 s.br.length cb2 (intV s.br)]) rfl hfl (List.Perm.swap _ _ _) rfl ?_
 rintro _ _ _ - ⟨rfl, rfl⟩
 simp only [List.cons_append, List.nil_append]
 refine pbQ (r := ownS 3 1 Ab2 _ _ _) (fun M4 hm4 ok4 => ?_)
 have hbl : (markF x { s with am := s.am.set i (a - amt) } at_).br.length = s.br.length := markF_brl
 have hI4 : Ints M4 (.slice Ab2 (markF x { s with am := s.am.set i (a - amt) } at_).br.length cb2) (markF x { s with am := s.am.set i (a - amt) } at_).br := Ints.ofOwn ok4 hbl.symm q4
 have hlast := hm13.trans hm4
 refine rQ ?_
 refine Tr.ofPost ?_
 (refine Tr.done (by first | exact .inl rfl | exact .inr rfl) rfl (by repeat (first | exact RVs.nil | (apply RVs.cons; (exact RV.cellW (by rfl) (tysOk.get (by rfl)) (by rfl) (by repeat (first | exact Has.here | apply Has.there)) (by first | rfl | assumption))))) (by first | exact Mem.le.refl _ | assumption) (by exact ⟨[_, _, _, _], rfl⟩) ⟨rfl, ?_⟩)
 refine ⟨markF x { s with am := s.am.set i (a - amt) } at_, stepF_some.2 ?_, ?_⟩
 ·have := Stp.lose (x := x) (s := s) (h := ⟨1, (i : Int), req, day, amt⟩) (at_ := at_) i rfl rfl hil c2.1 (by rw [had]; exact c2.2)
  rw [had] at this
  exact this
 ·refine ⟨Af2, cf2, Aa2, ca2, Ad2, cd2, An2, cn2, Au2, cu2, Ab2, cb2, ?_, g1.mono RRowB.mono hlast, hI1.mono RI.mono (hm2.trans (hm3.trans hm4)), hI2.mono RI.mono (hm3.trans hm4), hI3.mono RI.mono hm4, g5.mono RI.mono hlast, hI4⟩
  rw [hbl]
  show _ = Value.agg #[_, .slice Aa2 (s.am.set i (a - amt)).length ca2, _, _, _, _]
  rw [hl2]
  rfl
end Go.Proofs.Ytcadnjmcmegpjaa

/-
 Honour: late.
 Conditions: none.
-/
namespace Go.Proofs.Ytcadnjmcmegpjaa
open Go Bf
attribute [local irreducible] Tr Exec Stab HasTy Go.Addr.add IntKind.wrap
set_option maxHeartbeats 16000000 in
theorem late_fn (M : Mem) (v : Value) (x : Fx) (s : St) (h : Hp) (at_ : Nat) (hS : RSt M v x s) (hf : Fit x s) (hk : h.kind = 2) :
  FnP Try.prog 85 [v, hpV h, .int .i64 (at_ : Int)] M [] (fun r M' A' => A' = [] ∧ ∃ s', stepF x s h at_ = some s' ∧ RSt M' r x s') (fun ch _ A' => ch = refCh ∧ A' = [] ∧ stepF x s h at_ = none) := by
 have hS0 := hS
 obtain ⟨Af, cf, Aa, ca, Ad, cd, An, cn, Au, cu, Ab, cb, rfl, h1, h2, h3, h4, h5, h6⟩ := hS
 have z1 := hf.l64
 have z2 := hf.r64
 have z3 := hf.dyl
 have z4 := hf.brl
 obtain ⟨kd, sup, req, day, amt⟩ := h
 simp only at hk
 subst hk
 simp only [hpV]
 refine FnP.intro Try.func85 rfl rfl Try.ntmps85 rfl fun E F => ?_
 repeat (first | ((with_reducible refine Tr.step rfl ?_); (first | ((with_reducible refine Knd.box ?_); ((refine Exec.box rfl rfl (fun b => ?_)))) | ((with_reducible refine Knd.alloc ?_); ((refine Exec.alloc (tysOk.get rfl) rfl rfl (fun b => ?_)))))) | (with_reducible first | apply Tr.next | apply Tr.seq | apply Tr.region | apply Tr.nil))
 rename_i b3 b4
 generalize b = b6
 (((apply Tr.draw); (kernel_rfl)); (refine tkQ 0 (hB := by exact fun _ h => h) (s := by exact sfQ) ?_); (refine tkQ 2 (s := by exact sfQ) ?_); (refine tkQ 1 (s := by exact slQ) ?_); (refine tkQ 3 (s := by exact slQ) ?_); (refine tkQ 4 (s := by exact snQ) ?_); (refine tkQ 5 (s := by exact Stab.subi rfl rfl (by omega)) ?_); (refine TrA.eff 6 rfl (by kernel_rfl) (by exact .inl rfl) ?_))
 refine Exec.call0 rfl (between_fn M sup 0 ((s.am.length : Int) - 1)) rfl ?_
 rintro _ _ _ ⟨rfl, rfl⟩
 refine ⟨Mem.le.refl _, (by exact fun _ h => h), ?_⟩
 by_cases c1 : 0 ≤ sup ∧ sup ≤ (s.am.length : Int) - 1
 rotate_left
 ·rw [decide_eq_false c1]
  ((refine tkQ 7 (s := by exact Stab.move rfl) ?_); ((refine tuQ 8 ?_)); ((refine tuQ 9 ?_)); ((refine tuQ 10 ?_)); ((refine tuQ 11 ?_)); ((refine tuQ 12 ?_)); ((refine tuQ 13 ?_)); ((refine tuQ 14 ?_)); ((refine tuQ 15 ?_)); ((refine tuQ 16 ?_)); (refine tkQ 17 (s := by exact Stab.pick_f rfl (by (with_reducible rfl)) rfl) ?_); (refine TrA.eff 18 rfl (by kernel_rfl) (by exact .inl rfl) ?_))
  refine Exec.callP rfl (require_n M) (List.Perm.refl _) rfl (fun v M' A' hm hR => hR.elim) (fun ch M' A' hm hR => ?_)
  obtain ⟨rfl, rfl, rfl⟩ := hR
  repeat ((with_reducible refine Tr.then_panic ?_))
  exact Tr.doneP (A' := []) (Mem.le.refl _) (by repeat (first | exact DropL.refl | apply DropL.skip)) ⟨rfl, rfl, by rw [stepF, if_neg (show ¬ (2 : Int) = 1 by decide), if_pos rfl, if_neg (fun h => c1 h.1)]⟩
 rw [decide_eq_true c1]
 obtain ⟨i, rfl, e1, hil⟩ := nat_of c1
 obtain ⟨a, ha⟩ := get_of_lt (xs := s.dy) (i := i) (by omega)
 obtain ⟨hAa, hata⟩ := Ints.at h3 ha
 have had := getD_of (d := (0 : Int)) ha
 ((refine tkQ 7 (s := by exact Stab.move rfl) ?_); ((refine tgQ 8 (s := by exact sfQ) ?_)); ((refine tgQ 10 (s := by exact sfQ) ?_)); ((refine tgQ 12 (s := by exact sfQ) ?_)); ((refine tgQ 9 (s := by exact slQ) ?_)); ((refine tgQ 11 (s := by exact slQ) ?_)); ((refine tgQ 13 (s := by exact slQ) ?_)); ((refine tgQ 14 (s := by exact sxQ) ?_)); ((refine tgQ 15 (s := by exact sMQ) ?_)); (refine TrA.eff 16 rfl (by kernel_rfl) (by exact .inr ⟨_, _, _, rfl, rfl, rfl⟩) ?_))
 refine Exec.call0 rfl (between_fn M day a 1024) rfl ?_
 rintro _ _ _ ⟨rfl, rfl⟩
 refine ⟨Mem.le.refl _, (by exact fun _ h => h), ?_⟩
 by_cases c2 : a ≤ day ∧ day ≤ 1024
 rotate_left
 ·rw [decide_eq_false c2]
  ((refine tkQ 17 (s := by exact Stab.pick_t rfl (by (with_reducible rfl)) rfl) ?_); (refine TrA.eff 18 rfl (by kernel_rfl) (by exact .inl rfl) ?_))
  refine Exec.callP rfl (require_n M) (List.Perm.refl _) rfl (fun v M' A' hm hR => hR.elim) (fun ch M' A' hm hR => ?_)
  obtain ⟨rfl, rfl, rfl⟩ := hR
  repeat ((with_reducible refine Tr.then_panic ?_))
  exact Tr.doneP (A' := []) (Mem.le.refl _) (by repeat (first | exact DropL.refl | apply DropL.skip)) ⟨rfl, rfl, by rw [stepF, if_neg (show ¬ (2 : Int) = 1 by decide), if_pos rfl, if_neg (fun h => c2 (by have := h.2; rw [e1, had] at this; exact this))]⟩
 rw [decide_eq_true c2]
 ((refine tkQ 17 (s := by exact Stab.pick_t rfl (by (with_reducible rfl)) rfl) ?_); (refine TrA.eff 18 rfl (by kernel_rfl) (by exact .inl rfl) ?_))
 refine Exec.call0 rfl (require_y M) rfl ?_
 rintro _ _ _ rfl
 refine ⟨Mem.le.refl _, (by exact fun _ h => h), ?_⟩
 ((refine TrA.done (by kernel_rfl) ?_))
 refine rQ ?_
 ((refine Tr.step rfl ?_))
 refine Exec.call (A := []) rfl (stclone_own M _ x s hS0 hf) (List.Perm.refl _) rfl ?_
 rintro _ _ _ - ⟨rfl, Af2, cf2, Au2, cu2, Aa2, ca2, Ad2, cd2, An2, cn2, Ab2, cb2, rfl, g1, g5, ⟨q1, q2, q3, q4⟩, rfl⟩
 simp only [List.cons_append, List.nil_append]
 repeat (first | ((with_reducible refine Tr.step rfl ?_); (first | (refine xlQ ?_) | (refine xfQ ?_) | (refine xWQ ?_) | ((with_reducible refine Knd.alloc ?_); ((refine Exec.alloc (tysOk.get rfl) rfl rfl (fun b => ?_)))))) | (with_reducible first | apply Tr.next | apply Tr.seq | apply Tr.region | apply Tr.nil))
 generalize b = b7
 refine Tr.own_some Ad2 (e := 3) (sz := 1) (m := s.dy.length) (c := cd2) (xs := intV s.dy) (by repeat (first | exact Has.here | apply Has.there)) (by omega) (fun hA2 => ?_)
 have hra := hf.dyr a (List.mem_of_getElem? ha)
 have hla : (intV s.dy).length = s.dy.length := by rw [intV_length]
 repeat (first | ((with_reducible refine Tr.step rfl ?_); (first | (refine xmQ ?_) | (refine xwQ ?_) | ((with_reducible refine Knd.store ?_); ((refine Exec.storeO rfl rfl (tysOk.get rfl) rfl (by first | rfl | assumption) (by repeat (first | exact Upd.here | apply Upd.there)) (by omega) ?_))) | (refine xxQ ?_))) | (with_reducible first | apply Tr.next | apply Tr.seq | apply Tr.region | apply Tr.nil))
 rw [Int.toNat_natCast i, intV_set]
 refine pbQ (r := ownS 3 1 Aa2 _ _ _) (fun M1 hm1 ok1 => ?_)
 have hI1 : Ints M1 (.slice Aa2 s.am.length ca2) s.am := Ints.ofOwn ok1 rfl q1
 refine pbQ (r := ownS 3 1 Ad2 _ _ _) (fun M2 hm2 ok2 => ?_)
 have hI2 : Ints M2 (.slice Ad2 (s.dy.set i day).length cd2) (s.dy.set i day) := Ints.ofOwn ok2 (by rw [List.length_set]) q2
 refine pbQ (r := ownS 3 1 An2 _ _ _) (fun M3 hm3 ok3 => ?_)
 have hI3 : Ints M3 (.slice An2 s.nd.length cn2) s.nd := Ints.ofOwn ok3 rfl q3
 have hm13 := hm1.trans (hm2.trans hm3)
 have hf2 : Fit x { s with dy := s.dy.set i day } := hf.setDy (by omega) i
 have hfl := hfail_own M3 x { s with dy := s.dy.set i day } at_ Af2 Aa2 Ad2 An2 Au2 Ab2 cf2 ca2 cd2 cn2 cu2 cb2 hf2 (g1.mono RRowB.mono hm13) (hI1.mono RI.mono (hm2.trans hm3)) (hI2.mono RI.mono hm3) hI3 (g5.mono RI.mono hm13) q4
 have hl2 : (s.dy.set i day).length = s.dy.length := List.length_set
 dsimp only at hfl
 rw [hl2] at hfl
 repeat (fail)
 ((refine Tr.step rfl ?_))
 refine Exec.call (A := [ownS 3 1 Ab2 s.br.length cb2 (intV s.br)]) rfl hfl (List.Perm.swap _ _ _) rfl ?_
 rintro _ _ _ - ⟨rfl, rfl⟩
 simp only [List.cons_append, List.nil_append]
 refine pbQ (r := ownS 3 1 Ab2 _ _ _) (fun M4 hm4 ok4 => ?_)
 have hbl : (markF x { s with dy := s.dy.set i day } at_).br.length = s.br.length := markF_brl
 have hI4 : Ints M4 (.slice Ab2 (markF x { s with dy := s.dy.set i day } at_).br.length cb2) (markF x { s with dy := s.dy.set i day } at_).br := Ints.ofOwn ok4 hbl.symm q4
 have hlast := hm13.trans hm4
 refine rQ ?_
 refine Tr.ofPost ?_
 (refine Tr.done (by first | exact .inl rfl | exact .inr rfl) rfl (by repeat (first | exact RVs.nil | (apply RVs.cons; (exact RV.cellW (by rfl) (tysOk.get (by rfl)) (by rfl) (by repeat (first | exact Has.here | apply Has.there)) (by first | rfl | assumption))))) (by first | exact Mem.le.refl _ | assumption) (by exact ⟨[_, _, _, _], rfl⟩) ⟨rfl, ?_⟩)
 refine ⟨markF x { s with dy := s.dy.set i day } at_, stepF_some.2 ?_, ?_⟩
 ·have := Stp.late (x := x) (s := s) (h := ⟨2, (i : Int), req, day, amt⟩) (at_ := at_) i rfl rfl hil (by rw [had]; exact c2.1) c2.2
  exact this
 ·refine ⟨Af2, cf2, Aa2, ca2, Ad2, cd2, An2, cn2, Au2, cu2, Ab2, cb2, ?_, g1.mono RRowB.mono hlast, hI1.mono RI.mono (hm2.trans (hm3.trans hm4)), hI2.mono RI.mono (hm3.trans hm4), hI3.mono RI.mono hm4, g5.mono RI.mono hlast, hI4⟩
  rw [hbl]
  show _ = Value.agg #[_, _, .slice Ad2 (s.dy.set i day).length cd2, _, _, _]
  rw [hl2]
  rfl
end Go.Proofs.Ytcadnjmcmegpjaa

/-
 Honour: ship.
 Conditions: none.
-/
namespace Go.Proofs.Ytcadnjmcmegpjaa
open Go Bf
attribute [local irreducible] Tr Exec Stab HasTy Go.Addr.add IntKind.wrap
theorem ship_none {x : Fx} {s : St} {h : Hp} {at_ : Nat} (hk : h.kind = 3) (hn : ∀ i j : Nat, h.sup = (i : Int) → h.req = (j : Int) → i < s.am.length → j < s.nd.length → s.br.getD j 0 < 0 → (x.fits.getD i []).getD j false = true → s.dy.getD i 0 ≤ h.day → h.day ≤ x.due.getD j 0 → 1 ≤ h.amt → h.amt ≤ s.am.getD i 0 → h.amt ≤ s.nd.getD j 0 →
   failF x { s with am := s.am.set i (s.am.getD i 0 - h.amt), nd := s.nd.set j (s.nd.getD j 0 - h.amt) } s.nd.length = [] → False) : stepF x s h at_ = none := by
 cases hs : stepF x s h at_ with
 | none => rfl
 | some s' =>
  exfalso
  cases stepF_some.1 hs with
  | lose i k => omega
  | late i k => omega
  | ship i j k e1 e2 e3 e4 e5 e6 e7 e8 e9 e10 e11 e12 => exact hn i j e1 e2 e3 e4 e5 e6 e7 e8 e9 e10 e11 e12
set_option maxHeartbeats 16000000 in
theorem ship_fn (M : Mem) (v : Value) (x : Fx) (s : St) (h : Hp) (at_ : Nat) (hS : RSt M v x s) (hf : Fit x s) (hk : h.kind = 3) :
  FnP Try.prog 86 [v, hpV h, .int .i64 (at_ : Int)] M [] (fun r M' A' => A' = [] ∧ ∃ s', stepF x s h at_ = some s' ∧ RSt M' r x s') (fun ch _ A' => ch = refCh ∧ A' = [] ∧ stepF x s h at_ = none) := by
 have hS0 := hS
 obtain ⟨Af, cf, Aa, ca, Ad, cd, An, cn, Au, cu, Ab, cb, rfl, h1, h2, h3, h4, h5, h6⟩ := hS
 have z1 := hf.l64
 have z2 := hf.r64
 have z3 := hf.dyl
 have z4 := hf.brl
 have z5 := hf.dul
 have z6 := hf.fil
 have hnone := ship_none (x := x) (s := s) (h := h) (at_ := at_) hk
 obtain ⟨kd, sup, req, day, amt⟩ := h
 simp only at hk hnone
 subst hk
 simp only [hpV]
 refine FnP.intro Try.func86 rfl rfl Try.ntmps86 rfl fun E F => ?_
 repeat (first | ((with_reducible refine Tr.step rfl ?_); (first | ((with_reducible refine Knd.box ?_); ((refine Exec.box rfl rfl (fun b => ?_)))) | ((with_reducible refine Knd.alloc ?_); ((refine Exec.alloc (tysOk.get rfl) rfl rfl (fun b => ?_)))))) | (with_reducible first | apply Tr.next | apply Tr.seq | apply Tr.region | apply Tr.nil))
 rename_i b3 b4
 generalize b = b6
 (((apply Tr.draw); (kernel_rfl)); (refine tkQ 0 (hB := by exact fun _ h => h) (s := by exact sfQ) ?_); (refine tkQ 2 (s := by exact sfQ) ?_); (refine tkQ 1 (s := by exact slQ) ?_); (refine tkQ 3 (s := by exact slQ) ?_); (refine tkQ 4 (s := by exact Stab.assign rfl) ?_); (refine tkQ 5 (s := by exact Stab.assign rfl) ?_); (refine TrA.done (by kernel_rfl) ?_))
 refine rQ ?_
 ((refine Tr.step rfl ?_)); refine Exec.call0 rfl (between_fn M sup 0 ((s.am.length : Int) - 1)) rfl ?_
 rintro _ _ _ ⟨rfl, rfl⟩
 by_cases c1 : 0 ≤ sup ∧ sup ≤ (s.am.length : Int) - 1
 rotate_left
 ·rw [decide_eq_false c1]
  refine rQ ?_
  ((refine Tr.step rfl ?_))
  refine Exec.callP rfl (require_n M) (List.Perm.refl _) rfl (fun v M' A' hm hR => hR.elim) (fun ch M' A' hm hR => ?_)
  obtain ⟨rfl, rfl, rfl⟩ := hR
  repeat ((with_reducible refine Tr.then_panic ?_))
  exact Tr.doneP (A' := []) (Mem.le.refl _) (by repeat (first | exact DropL.refl | apply DropL.skip)) ⟨rfl, rfl, hnone fun i j a1 a2 a3 _ _ _ _ _ _ _ _ _ => c1 (by omega)⟩
 rw [decide_eq_true c1]
 obtain ⟨i, rfl, -, hil⟩ := nat_of c1
 refine rQ ?_
 ((refine Tr.guard_l rfl rfl rfl (by (with_reducible rfl)) ?_)); refine Exec.call0 rfl (between_fn M req 0 ((s.nd.length : Int) - 1)) rfl ?_
 rintro _ _ _ ⟨rfl, rfl⟩
 by_cases c2 : 0 ≤ req ∧ req ≤ (s.nd.length : Int) - 1
 rotate_left
 ·rw [decide_eq_false c2]
  refine rQ ?_
  ((refine Tr.step rfl ?_))
  refine Exec.callP rfl (require_n M) (List.Perm.refl _) rfl (fun v M' A' hm hR => hR.elim) (fun ch M' A' hm hR => ?_)
  obtain ⟨rfl, rfl, rfl⟩ := hR
  repeat ((with_reducible refine Tr.then_panic ?_))
  exact Tr.doneP (A' := []) (Mem.le.refl _) (by repeat (first | exact DropL.refl | apply DropL.skip)) ⟨rfl, rfl, hnone fun i j a1 a2 a3 a4 _ _ _ _ _ _ _ _ => c2 (by omega)⟩
 rw [decide_eq_true c2]
 obtain ⟨j, rfl, -, hjl⟩ := nat_of c2
 refine rQ ?_
 ((refine Tr.step rfl ?_)); refine Exec.call0 rfl (require_y M) rfl ?_
 rintro _ _ _ rfl
 obtain ⟨z, hz⟩ := get_of_lt (xs := s.br) (i := j) (by omega)
 obtain ⟨hAb, hatb⟩ := Ints.at h6 hz
 have hzd := getD_of (d := (0 : Int)) hz
 obtain ⟨a, ha⟩ := get_of_lt hil
 obtain ⟨hAa, hata⟩ := Ints.at h2 ha
 have had := getD_of (d := (0 : Int)) ha
 obtain ⟨u, hu⟩ := get_of_lt hjl
 obtain ⟨hAn, hatn⟩ := Ints.at h4 hu
 have hud := getD_of (d := (0 : Int)) hu
 obtain ⟨d, hd⟩ := get_of_lt (xs := s.dy) (i := i) (by omega)
 obtain ⟨hAd, hatd⟩ := Ints.at h3 hd
 have hdd := getD_of (d := (0 : Int)) hd
 obtain ⟨w, hw⟩ := get_of_lt (xs := x.due) (i := j) (by omega)
 obtain ⟨hAu, hatu⟩ := Ints.at h5 hw
 have hwd := getD_of (d := (0 : Int)) hw
 have hinj : ∀ i' j' : Nat, (i : Int) = (i' : Int) → (j : Int) = (j' : Int) → i' = i ∧ j' = j := fun _ _ e1 e2 => by omega
 have hpan := require_n M
 repeat (first | (with_reducible first | apply Tr.next | apply Tr.seq | apply Tr.nil))
 (((apply Tr.draw); (kernel_rfl)); (refine tkQ 0 (hB := by exact fun _ h => h) (s := by exact sfQ) ?_); (refine tkQ 2 (s := by exact Stab.move rfl) ?_); (refine tkQ 1 (s := by exact slQ) ?_); (refine tkQ 3 (s := by exact sxQ) ?_); (refine tkQ 4 (s := by exact sMQ) ?_); (refine tkQ 5 (s := by exact siQ) ?_))
 by_cases c3 : z < 0
 rotate_left
 ·rw [decide_eq_false c3]
  ((refine tkQ 6 (s := by exact Stab.move rfl) ?_); ((refine tuQ 7 ?_)); ((refine tuQ 8 ?_)); ((refine tuQ 9 ?_)); ((refine tuQ 10 ?_)); (refine tkQ 11 (s := by exact Stab.pick_f rfl (by (with_reducible rfl)) rfl) ?_); (refine tkQ 12 (s := by exact Stab.move rfl) ?_); ((refine tuQ 13 ?_)); ((refine tuQ 14 ?_)); ((refine tuQ 15 ?_)); ((refine tuQ 16 ?_)); ((refine tuQ 17 ?_)); ((refine tuQ 18 ?_)); ((refine tuQ 19 ?_)); ((refine tuQ 20 ?_)); ((refine tuQ 21 ?_)); ((refine tuQ 22 ?_)); ((refine tuQ 23 ?_)); ((refine tuQ 24 ?_)); ((refine tuQ 25 ?_)); (refine tkQ 26 (s := by exact Stab.pick_f rfl (by (with_reducible rfl)) rfl) ?_); (refine TrA.eff 27 rfl (by kernel_rfl) (by exact .inl rfl) ?_))
  refine Exec.callP rfl hpan (List.Perm.refl _) rfl (fun v M' A' hm hR => hR.elim) (fun ch M' A' hm hR => ?_)
  obtain ⟨rfl, rfl, rfl⟩ := hR
  repeat ((with_reducible refine Tr.then_panic ?_))
  exact Tr.doneP (A' := []) (Mem.le.refl _) (by repeat (first | exact DropL.refl | apply DropL.skip)) ⟨rfl, rfl, hnone fun i' j' a1 a2 a3 a4 a5 _ _ _ _ _ _ _ => c3 (by obtain ⟨rfl, rfl⟩ := hinj i' j' a1 a2; rw [hzd] at a5; exact a5)⟩
 rw [decide_eq_true c3]
 ((refine tkQ 6 (s := by exact Stab.move rfl) ?_); ((refine tgQ 7 (s := by exact swQ) ?_)); ((refine tgQ 8 (s := by exact Stab.move rfl) ?_)); ((refine tgQ 9 (s := by exact Stab.move rfl) ?_)); (refine TrA.eff 10 rfl (by kernel_rfl) (by exact .inr ⟨_, _, _, rfl, rfl, rfl⟩) ?_))
 refine Exec.call0 rfl (hserves_fn M _ x s i j hS0 (by omega) (by omega) (by omega) (fun r hr => by rw [z5]; exact hf.row r hr)) rfl ?_
 rintro _ _ _ ⟨rfl, rfl⟩
 refine ⟨Mem.le.refl _, (by exact fun _ h => h), ?_⟩
 generalize hq : ((x.fits.getD i []).getD j false && decide (s.dy.getD i 0 ≤ x.due.getD j 0)) = q
 cases q
 ·((refine tkQ 11 (s := by exact Stab.pick_t rfl (by (with_reducible rfl)) rfl) ?_); (refine tkQ 12 (s := by exact Stab.move rfl) ?_); ((refine tuQ 13 ?_)); ((refine tuQ 14 ?_)); ((refine tuQ 15 ?_)); ((refine tuQ 16 ?_)); ((refine tuQ 17 ?_)); ((refine tuQ 18 ?_)); ((refine tuQ 19 ?_)); ((refine tuQ 20 ?_)); ((refine tuQ 21 ?_)); ((refine tuQ 22 ?_)); ((refine tuQ 23 ?_)); ((refine tuQ 24 ?_)); ((refine tuQ 25 ?_)); (refine tkQ 26 (s := by exact Stab.pick_f rfl (by (with_reducible rfl)) rfl) ?_); (refine TrA.eff 27 rfl (by kernel_rfl) (by exact .inl rfl) ?_))
  refine Exec.callP rfl hpan (List.Perm.refl _) rfl (fun v M' A' hm hR => hR.elim) (fun ch M' A' hm hR => ?_)
  obtain ⟨rfl, rfl, rfl⟩ := hR
  repeat ((with_reducible refine Tr.then_panic ?_))
  exact Tr.doneP (A' := []) (Mem.le.refl _) (by repeat (first | exact DropL.refl | apply DropL.skip)) ⟨rfl, rfl, hnone fun i' j' a1 a2 a3 a4 a5 a6 a7 a8 _ _ _ _ => by
   obtain ⟨rfl, rfl⟩ := hinj i' j' a1 a2
   rw [a6, Bool.true_and, decide_eq_true (by omega)] at hq
   cases hq⟩
 have hq2 := (Bool.and_eq_true_iff.1 hq).1
 ((refine tkQ 11 (s := by exact Stab.pick_t rfl (by (with_reducible rfl)) rfl) ?_); (refine tkQ 12 (s := by exact Stab.move rfl) ?_); ((refine tgQ 13 (s := by exact sfQ) ?_)); ((refine tgQ 15 (s := by exact sfQ) ?_)); ((refine tgQ 17 (s := by exact Stab.move rfl) ?_)); ((refine tgQ 20 (s := by exact sfQ) ?_)); ((refine tgQ 22 (s := by exact Stab.move rfl) ?_)); ((refine tgQ 14 (s := by exact slQ) ?_)); ((refine tgQ 16 (s := by exact slQ) ?_)); ((refine tgQ 21 (s := by exact slQ) ?_)); ((refine tgQ 18 (s := by exact sxQ) ?_)); ((refine tgQ 23 (s := by exact sxQ) ?_)); ((refine tgQ 19 (s := by exact sMQ) ?_)); ((refine tgQ 24 (s := by exact sMQ) ?_)); (refine TrA.eff 25 rfl (by kernel_rfl) (by exact .inr ⟨_, _, _, rfl, rfl, rfl⟩) ?_))
 refine Exec.call0 rfl (between_fn M day d w) rfl ?_
 rintro _ _ _ ⟨rfl, rfl⟩
 refine ⟨Mem.le.refl _, (by exact fun _ h => h), ?_⟩
 by_cases c5 : d ≤ day ∧ day ≤ w
 rotate_left
 ·rw [decide_eq_false c5]
  ((refine tkQ 26 (s := by exact Stab.pick_t rfl (by (with_reducible rfl)) rfl) ?_); (refine TrA.eff 27 rfl (by kernel_rfl) (by exact .inl rfl) ?_))
  refine Exec.callP rfl hpan (List.Perm.refl _) rfl (fun v M' A' hm hR => hR.elim) (fun ch M' A' hm hR => ?_)
  obtain ⟨rfl, rfl, rfl⟩ := hR
  repeat ((with_reducible refine Tr.then_panic ?_))
  exact Tr.doneP (A' := []) (Mem.le.refl _) (by repeat (first | exact DropL.refl | apply DropL.skip)) ⟨rfl, rfl, hnone fun i' j' a1 a2 a3 a4 a5 a6 a7 a8 _ _ _ _ => c5 (by obtain ⟨rfl, rfl⟩ := hinj i' j' a1 a2; rw [hdd] at a7; rw [hwd] at a8; exact ⟨a7, a8⟩)⟩
 rw [decide_eq_true c5]
 ((refine tkQ 26 (s := by exact Stab.pick_t rfl (by (with_reducible rfl)) rfl) ?_); (refine TrA.eff 27 rfl (by kernel_rfl) (by exact .inl rfl) ?_))
 refine Exec.call0 rfl (require_y M) rfl ?_
 rintro _ _ _ rfl
 refine ⟨Mem.le.refl _, (by exact fun _ h => h), ?_⟩
 ((refine TrA.done (by kernel_rfl) ?_))
 repeat (first | (with_reducible first | apply Tr.next | apply Tr.seq))
 (((apply Tr.draw); (kernel_rfl)); (refine tkQ 0 (hB := by exact fun _ h => h) (s := by exact sfQ) ?_); (refine tkQ 2 (s := by exact sfQ) ?_); (refine tkQ 4 (s := by exact Stab.move rfl) ?_); (refine tkQ 7 (s := by exact sfQ) ?_); (refine tkQ 9 (s := by exact Stab.move rfl) ?_); (refine tkQ 1 (s := by exact slQ) ?_); (refine tkQ 3 (s := by exact slQ) ?_); (refine tkQ 8 (s := by exact slQ) ?_); (refine tkQ 5 (s := by exact sxQ) ?_); (refine tkQ 10 (s := by exact sxQ) ?_); (refine tkQ 6 (s := by exact sMQ) ?_); (refine tkQ 11 (s := by exact sMQ) ?_); (refine tkQ 12 (s := by exact Stab.min2 rfl rfl) ?_); (refine TrA.eff 13 rfl (by kernel_rfl) (by exact .inl rfl) ?_))
 refine Exec.call0 rfl (between_fn M amt 1 (min a u)) rfl ?_
 rintro _ _ _ ⟨rfl, rfl⟩
 refine ⟨Mem.le.refl _, (by exact fun _ h => h), ?_⟩
 by_cases c6 : 1 ≤ amt ∧ amt ≤ min a u
 rotate_left
 ·rw [decide_eq_false c6]
  ((refine TrA.eff 14 rfl (by kernel_rfl) (by exact .inl rfl) ?_))
  refine Exec.callP rfl hpan (List.Perm.refl _) rfl (fun v M' A' hm hR => hR.elim) (fun ch M' A' hm hR => ?_)
  obtain ⟨rfl, rfl, rfl⟩ := hR
  repeat ((with_reducible refine Tr.then_panic ?_))
  exact Tr.doneP (A' := []) (Mem.le.refl _) (by repeat (first | exact DropL.refl | apply DropL.skip)) ⟨rfl, rfl, hnone fun i' j' a1 a2 a3 a4 a5 a6 a7 a8 a9 a10 a11 _ => c6 (by obtain ⟨rfl, rfl⟩ := hinj i' j' a1 a2; rw [had] at a10; rw [hud] at a11; omega)⟩
 rw [decide_eq_true c6]
 ((refine TrA.eff 14 rfl (by kernel_rfl) (by exact .inl rfl) ?_))
 refine Exec.call0 rfl (require_y M) rfl ?_
 rintro _ _ _ rfl
 refine ⟨Mem.le.refl _, (by exact fun _ h => h), ?_⟩
 ((refine TrA.done (by kernel_rfl) ?_))
 refine rQ ?_
 ((refine Tr.step rfl ?_))
 refine Exec.call (A := []) rfl (stclone_own M _ x s hS0 hf) (List.Perm.refl _) rfl ?_
 rintro _ _ _ - ⟨rfl, Af2, cf2, Au2, cu2, Aa2, ca2, Ad2, cd2, An2, cn2, Ab2, cb2, rfl, g1, g5, ⟨q1, q2, q3, q4⟩, rfl⟩
 simp only [List.cons_append, List.nil_append]
 clear hatb hata hatn hatd hatu h1 h2 h3 h4 h5 h6 hS0
 repeat (first | ((with_reducible refine Tr.step rfl ?_); (first | (refine xWQ ?_) | ((with_reducible refine Knd.alloc ?_); ((refine Exec.alloc (tysOk.get rfl) rfl rfl (fun b => ?_)))))) | (with_reducible first | apply Tr.next | apply Tr.seq | apply Tr.nil))
 generalize b = b9
 refine Tr.own_some Aa2 (e := 3) (sz := 1) (m := s.am.length) (c := ca2) (xs := intV s.am) (by repeat (first | exact Has.here | apply Has.there)) (by omega) (fun hA2 => ?_)
 refine Tr.own_some An2 (e := 3) (sz := 1) (m := s.nd.length) (c := cn2) (xs := intV s.nd) (by repeat (first | exact Has.here | apply Has.there)) (by omega) (fun hN2 => ?_)
 have hra := hf.amr a (List.mem_of_getElem? ha)
 have hru := hf.ndr u (List.mem_of_getElem? hu)
 have hnv : (intV s.am)[(i : Int).toNat]? = some (.int .i64 a) := by rw [Int.toNat_natCast]; exact intV_get ha
 have hla : (intV s.am).length = s.am.length := by rw [intV_length]
 have hnv2 : (intV s.nd)[(j : Int).toNat]? = some (.int .i64 u) := by rw [Int.toNat_natCast]; exact intV_get hu
 have hln : (intV s.nd).length = s.nd.length := by rw [intV_length]
 (((apply Tr.draw); (kernel_rfl)); (refine tkQ 0 (hB := by exact fun _ h => h) (s := by exact sfQ) ?_); (refine tkQ 2 (s := by exact Stab.move rfl) ?_); (refine tkQ 5 (s := by exact sfQ) ?_); (refine tkQ 1 (s := by exact slQ) ?_); (refine tkQ 6 (s := by exact slQ) ?_); (refine tkQ 3 (s := by exact sxQ) ?_); (refine tkQ 4 (s := by exact Stab.loadO rfl (tysOk.get rfl) rfl (by repeat (first | exact Has.here | apply Has.there)) (by assumption)) ?_); (refine tkQ 7 (s := by exact Stab.subi rfl rfl (by omega)) ?_); (refine tkQ 8 (s := by exact sxQ) ?_); (refine TrA.effD 9 rfl (by kernel_rfl) (by kernel_rfl) (by exact .inl rfl) ?_); (((refine Knd.store ?_); ((refine Exec.storeO rfl rfl (tysOk.get rfl) rfl (by first | rfl | assumption) (by repeat (first | exact Upd.here | apply Upd.there)) (by omega) ?_)))); (refine ⟨_, fun _ h => h, ?_⟩); (refine TrA.done (by kernel_rfl) ?_))
 rw [Int.toNat_natCast i, intV_set]
 repeat (first | (with_reducible first | apply Tr.next | apply Tr.seq))
 (((apply Tr.draw); (kernel_rfl)); (refine tkQ 0 (hB := by exact fun _ h => h) (s := by exact sfQ) ?_); (refine tkQ 2 (s := by exact Stab.move rfl) ?_); (refine tkQ 5 (s := by exact sfQ) ?_); (refine tkQ 1 (s := by exact slQ) ?_); (refine tkQ 6 (s := by exact slQ) ?_); (refine tkQ 3 (s := by exact sxQ) ?_); (refine tkQ 4 (s := by exact Stab.loadO rfl (tysOk.get rfl) rfl (by repeat (first | exact Has.here | apply Has.there)) (by assumption)) ?_); (refine tkQ 7 (s := by exact Stab.subi rfl rfl (by omega)) ?_); (refine tkQ 8 (s := by exact sxQ) ?_); (refine TrA.effD 9 rfl (by kernel_rfl) (by kernel_rfl) (by exact .inl rfl) ?_); (((refine Knd.store ?_); ((refine Exec.storeO rfl rfl (tysOk.get rfl) rfl (by first | rfl | assumption) (by repeat (first | exact Upd.here | apply Upd.there)) (by omega) ?_)))); (refine ⟨_, fun _ h => h, ?_⟩); (refine TrA.done (by kernel_rfl) ?_))
 rw [Int.toNat_natCast j, intV_set]
 refine pbQ (r := ownS 3 1 Aa2 _ _ _) (fun M1 hm1 ok1 => ?_)
 have hI1 : Ints M1 (.slice Aa2 (s.am.set i (a - amt)).length ca2) (s.am.set i (a - amt)) := Ints.ofOwn ok1 (by rw [List.length_set]) q1
 refine pbQ (r := ownS 3 1 Ad2 _ _ _) (fun M2 hm2 ok2 => ?_)
 have hI2 : Ints M2 (.slice Ad2 s.dy.length cd2) s.dy := Ints.ofOwn ok2 rfl q2
 refine pbQ (r := ownS 3 1 An2 _ _ _) (fun M3 hm3 ok3 => ?_)
 have hI3 : Ints M3 (.slice An2 (s.nd.set j (u - amt)).length cn2) (s.nd.set j (u - amt)) := Ints.ofOwn ok3 (by rw [List.length_set]) q3
 refine pbQ (r := ownS 3 1 Ab2 _ _ _) (fun M4 hm4 ok4 => ?_)
 have hI4 : Ints M4 (.slice Ab2 s.br.length cb2) s.br := Ints.ofOwn ok4 rfl q4
 clear ok1 ok2 ok3 ok4
 have hm14 := hm1.trans (hm2.trans (hm3.trans hm4))
 have hf2 : Fit x { s with am := s.am.set i (a - amt), nd := s.nd.set j (u - amt) } := (hf.setAm (v := a - amt) (by omega) i).setNd (v := u - amt) (by show 0 ≤ u - amt ∧ u - amt ≤ 1048576; omega) j
 have hS2 : RSt M4 (.agg #[.slice Af2 x.fits.length cf2, .slice Aa2 s.am.length ca2, .slice Ad2 s.dy.length cd2, .slice An2 s.nd.length cn2, .slice Au2 x.due.length cu2, .slice Ab2 s.br.length cb2]) x { s with am := s.am.set i (a - amt), nd := s.nd.set j (u - amt) } := by
  refine ⟨Af2, cf2, Aa2, ca2, Ad2, cd2, An2, cn2, Au2, cu2, Ab2, cb2, ?_, g1.mono RRowB.mono hm14, hI1.mono RI.mono (hm2.trans (hm3.trans hm4)), hI2.mono RI.mono (hm3.trans hm4), hI3.mono RI.mono hm4, g5.mono RI.mono hm14, hI4⟩
  show _ = Value.agg #[_, .slice Aa2 (s.am.set i (a - amt)).length ca2, _, .slice An2 (s.nd.set j (u - amt)).length cn2, _, _]
  rw [List.length_set, List.length_set]
 have hfl := failing_own M4 _ x { s with am := s.am.set i (a - amt), nd := s.nd.set j (u - amt) } s.nd.length hS2 hf2 (by show s.nd.length ≤ (s.nd.set j (u - amt)).length; rw [List.length_set]; exact Nat.le_refl _)
 have hstep : failF x { s with am := s.am.set i (a - amt), nd := s.nd.set j (u - amt) } s.nd.length = [] → stepF x s ⟨3, (i : Int), (j : Int), day, amt⟩ at_ = some { s with am := s.am.set i (a - amt), nd := s.nd.set j (u - amt) } := fun hnil => stepF_some.2 (by
  have := Stp.ship (x := x) (s := s) (h := ⟨3, (i : Int), (j : Int), day, amt⟩) (at_ := at_) i j rfl rfl rfl hil hjl (by rw [hzd]; exact c3) hq2 (by rw [hdd]; exact c5.1) (by rw [hwd]; exact c5.2) c6.1 (by rw [had]; show amt ≤ a; omega) (by rw [hud]; show amt ≤ u; omega) (by rw [had, hud]; exact hnil)
  rw [had, hud] at this
  exact this)
 have hno : failF x { s with am := s.am.set i (a - amt), nd := s.nd.set j (u - amt) } s.nd.length ≠ [] → stepF x s ⟨3, (i : Int), (j : Int), day, amt⟩ at_ = none := fun hne => hnone fun i' j' a1 a2 a3 a4 a5 a6 a7 a8 a9 a10 a11 a12 => hne (by
  obtain ⟨rfl, rfl⟩ := hinj i' j' a1 a2
  rw [had, hud] at a12
  exact a12)
 clear hnone
 generalize failF x { s with am := s.am.set i (a - amt), nd := s.nd.set j (u - amt) } s.nd.length = l at hfl hstep hno
 refine rQ ?_
 ((refine Tr.step rfl ?_))
 refine Exec.call (A := []) rfl hfl (List.Perm.refl _) rfl ?_
 rintro _ M5 _ hm5 ⟨A9, c9, hc9, rfl, rfl⟩
 simp only [List.cons_append, List.nil_append]
 repeat (((with_reducible refine Tr.step rfl ?_); (first | (refine xnQ ?_) | (refine xiQ ?_))))
 by_cases c7 : l = []
 rotate_left
 ·have hl0 : ¬ ((l.length : Int) = 0) := fun h => c7 (List.eq_nil_of_length_eq_zero (by omega))
  rw [decide_eq_false hl0]
  ((refine Tr.step rfl ?_))
  refine Exec.callP rfl (require_n M5) (List.Perm.refl _) rfl (fun v M' A' hm hR => hR.elim) (fun ch M' A' hm hR => ?_)
  obtain ⟨rfl, rfl, rfl⟩ := hR
  repeat ((with_reducible refine Tr.then_panic ?_))
  exact Tr.doneP (A' := []) (hm14.trans hm5) (by repeat (first | exact DropL.refl | apply DropL.skip)) ⟨rfl, rfl, hno c7⟩
 ·have hl0 : (l.length : Int) = 0 := by rw [c7]; rfl
  rw [decide_eq_true hl0]
  ((refine Tr.step rfl ?_)); refine Exec.call0 rfl (require_y M5) rfl ?_
  rintro _ _ _ rfl
  have hlast := hm14.trans hm5
  refine rQ ?_
  refine Tr.ofPost ?_
  (refine Tr.done (by first | exact .inl rfl | exact .inr rfl) rfl (by repeat (first | exact RVs.nil | (apply RVs.cons; (exact RV.cellW (by rfl) (tysOk.get (by rfl)) (by rfl) (by repeat (first | exact Has.here | apply Has.there)) (by first | rfl | assumption))))) (by first | exact Mem.le.refl _ | assumption) (by exact ⟨[_, _, _, _, _], rfl⟩) ⟨rfl, ?_⟩)
  exact ⟨_, hstep c7, hS2.mono hm5⟩
end Go.Proofs.Ytcadnjmcmegpjaa

/-
 Honour: what happened before, and what is left of it. Plain.
 Conditions: none.
-/
namespace Go.Proofs.Ytcadnjmcmegpjaa
open Go Bf
def zH : Hp := ⟨0, 0, 0, 0, 0⟩
def shipA (l : List Hp) (i : Nat) : Int := (l.map fun h => if h.kind = 3 ∧ h.sup = (i : Int) then h.amt else 0).sum
def shipN (l : List Hp) (k : Nat) : Int := (l.map fun h => if h.kind = 3 ∧ h.req = (k : Int) then h.amt else 0).sum
def lossA (l : List Hp) (i : Nat) : Int := (l.map fun h => if h.kind = 1 ∧ h.sup = (i : Int) then h.amt else 0).sum
def lateD (i : Nat) : Int → List Hp → Int
 | d, [] => d
 | d, h :: l => lateD i (if h.kind = 2 ∧ h.sup = (i : Int) then max d h.day else d) l
def OkH (n m : Nat) (h : Hp) : Prop := (0 ≤ h.sup ∧ h.sup < (n : Int)) ∧ ((h.kind = 1 ∧ 1 ≤ h.amt) ∨ (h.kind = 2 ∧ h.day ≤ 1024) ∨ (h.kind = 3 ∧ 1 ≤ h.amt ∧ 0 ≤ h.req ∧ h.req < (m : Int)))
theorem getD_set (l : List Int) (i k : Nat) (v : Int) (h : i < l.length) : (l.set i v).getD k 0 = if k = i then v else l.getD k 0 := by
 rw [List.getD_eq_getElem?_getD, List.getD_eq_getElem?_getD]
 by_cases e : k = i
 ·subst e; rw [if_pos rfl, List.getElem?_set_self h]; rfl
 ·rw [if_neg e, List.getElem?_set_ne (by omega)]
theorem shipA_cons (h : Hp) (l : List Hp) (i : Nat) : shipA (h :: l) i = (if h.kind = 3 ∧ h.sup = (i : Int) then h.amt else 0) + shipA l i := rfl
theorem shipN_cons (h : Hp) (l : List Hp) (i : Nat) : shipN (h :: l) i = (if h.kind = 3 ∧ h.req = (i : Int) then h.amt else 0) + shipN l i := rfl
theorem lossA_cons (h : Hp) (l : List Hp) (i : Nat) : lossA (h :: l) i = (if h.kind = 1 ∧ h.sup = (i : Int) then h.amt else 0) + lossA l i := rfl
theorem Stp.len {x : Fx} {s s' : St} {h : Hp} {at_ : Nat} (hs : Stp x s h at_ s') : s'.am.length = s.am.length ∧ s'.nd.length = s.nd.length ∧ s'.dy.length = s.dy.length ∧ s'.br.length = s.br.length := by
 cases hs with
 | lose => exact ⟨List.length_set, rfl, rfl, markF_brl⟩
 | late => exact ⟨rfl, rfl, List.length_set, markF_brl⟩
 | ship => exact ⟨List.length_set, List.length_set, rfl, rfl⟩
theorem Stp.okH {x : Fx} {s s' : St} {h : Hp} {at_ : Nat} (hs : Stp x s h at_ s') : OkH s.am.length s.nd.length h := by
 cases hs with
 | lose i k e1 e2 e3 e4 => exact ⟨by omega, .inl ⟨k, e3⟩⟩
 | late i k e1 e2 e3 e4 => exact ⟨by omega, .inr (.inl ⟨k, e4⟩)⟩
 | ship i j k e1 e2 e3 e4 e5 e6 e7 e8 e9 => exact ⟨by omega, .inr (.inr ⟨k, e9, by omega, by omega⟩)⟩
theorem Stp.eff {x : Fx} {s s' : St} {h : Hp} {at_ : Nat} (hs : Stp x s h at_ s') (hd : s.dy.length = s.am.length) (i : Nat) :
  s'.am.getD i 0 = s.am.getD i 0 - (if h.kind = 3 ∧ h.sup = (i : Int) then h.amt else 0) - (if h.kind = 1 ∧ h.sup = (i : Int) then h.amt else 0) ∧ s'.nd.getD i 0 = s.nd.getD i 0 - (if h.kind = 3 ∧ h.req = (i : Int) then h.amt else 0) ∧
  s'.dy.getD i 0 = if h.kind = 2 ∧ h.sup = (i : Int) then max (s.dy.getD i 0) h.day else s.dy.getD i 0 := by
 cases hs with
 | lose t k e1 e2 e3 e4 =>
  refine ⟨?_, ?_, ?_⟩
  ·show (s.am.set t _).getD i 0 = _
   rw [getD_set _ _ _ _ e2, if_neg (show ¬ (h.kind = 3 ∧ h.sup = (i : Int)) by omega)]
   by_cases c : i = t
   ·subst c; rw [if_pos rfl, if_pos ⟨k, e1⟩]; omega
   ·rw [if_neg c, if_neg (by omega)]; omega
  ·rw [if_neg (by omega)]; show s.nd.getD i 0 = _; omega
  ·rw [if_neg (by omega)]; rfl
 | late t k e1 e2 e3 e4 =>
  refine ⟨?_, ?_, ?_⟩
  ·rw [if_neg (by omega), if_neg (by omega)]; show s.am.getD i 0 = _; omega
  ·rw [if_neg (by omega)]; show s.nd.getD i 0 = _; omega
  ·show (s.dy.set t _).getD i 0 = _
   rw [getD_set _ _ _ _ (by omega)]
   by_cases c : i = t
   ·subst c; rw [if_pos rfl, if_pos ⟨k, e1⟩]; omega
   ·rw [if_neg c, if_neg (by omega)]
 | ship t j k e1 f1 e2 e3 e4 e5 e6 e7 e8 e9 e10 e11 =>
  refine ⟨?_, ?_, ?_⟩
  ·show (s.am.set t _).getD i 0 = _
   rw [getD_set _ _ _ _ e2, if_neg (show ¬ (h.kind = 1 ∧ h.sup = (i : Int)) by omega)]
   by_cases c : i = t
   ·subst c; rw [if_pos rfl, if_pos ⟨k, e1⟩]; omega
   ·rw [if_neg c, if_neg (by omega)]; omega
  ·show (s.nd.set j _).getD i 0 = _
   rw [getD_set _ _ _ _ e3]
   by_cases c : i = j
   ·subst c; rw [if_pos rfl, if_pos ⟨k, f1⟩]
   ·rw [if_neg c, if_neg (by omega)]; omega
  ·rw [if_neg (by omega)]
theorem steps_eff {x : Fx} : ∀ {l : List Hp} {s s' : St} {at_ : Nat}, stepsF x s at_ l = some s' → s.dy.length = s.am.length → (∀ i, s'.am.getD i 0 = s.am.getD i 0 - shipA l i - lossA l i ∧ s'.nd.getD i 0 = s.nd.getD i 0 - shipN l i ∧ s'.dy.getD i 0 = lateD i (s.dy.getD i 0) l) ∧
  (s'.am.length = s.am.length ∧ s'.nd.length = s.nd.length ∧ s'.dy.length = s.dy.length ∧ s'.br.length = s.br.length) ∧ ∀ h ∈ l, OkH s.am.length s.nd.length h
 | [], s, s', at_, h, hd => by
  cases h
  refine ⟨fun i => ⟨?_, ?_, rfl⟩, ⟨rfl, rfl, rfl, rfl⟩, fun h hh => by cases hh⟩
  ·simp [shipA, lossA]
  ·simp [shipN]
 | y :: l, s, s', at_, h, hd => by
  rw [stepsF] at h
  cases hs : stepF x s y at_ with
  | none => rw [hs] at h; cases h
  | some t =>
   rw [hs] at h
   have st := stepF_some.1 hs
   have ln := st.len
   obtain ⟨ih, il, ik⟩ := steps_eff (l := l) (s := t) h (by omega)
   refine ⟨fun i => ?_, by omega, fun z hz => ?_⟩
   ·obtain ⟨a1, a2, a3⟩ := ih i
    obtain ⟨b1, b2, b3⟩ := st.eff hd i
    rw [shipA_cons, lossA_cons, shipN_cons, lateD]
    rw [b3] at a3
    exact ⟨by omega, by omega, a3⟩
   ·rcases List.mem_cons.1 hz with rfl | hz
    ·exact st.okH
    ·have := ik z hz
     rwa [ln.1, ln.2.1] at this
theorem stepsF_append {x : Fx} : ∀ (l1 l2 : List Hp) (s : St) (at_ : Nat), stepsF x s at_ (l1 ++ l2) = (stepsF x s at_ l1).bind fun s' => stepsF x s' (at_ + l1.length) l2
 | [], l2, s, at_ => rfl
 | y :: l1, l2, s, at_ => by
  rw [List.cons_append, stepsF, stepsF]
  cases hs : stepF x s y at_ with
  | none => rfl
  | some t =>
   show stepsF x t (at_ + 1) (l1 ++ l2) = _
   rw [stepsF_append l1 l2 t (at_ + 1), List.length_cons, show at_ + 1 + l1.length = at_ + (l1.length + 1) by omega]
   rfl
theorem Stp.brk {x : Fx} {s s' : St} {h : Hp} {at_ : Nat} (hs : Stp x s h at_ s') (_ : s.br.length = s.nd.length) (q : Nat) : s'.br.getD q 0 = s.br.getD q 0 ∨ (s.br.getD q 0 < 0 ∧ s'.br.getD q 0 = (at_ : Int) ∧ h.kind ≠ 3) := by
 have mk : ∀ (t : St), t.br = s.br → t.nd.length = s.nd.length → (markF x t at_).br.getD q 0 = s.br.getD q 0 ∨ (s.br.getD q 0 < 0 ∧ (markF x t at_).br.getD q 0 = (at_ : Int)) := fun t e1 e2 => by
  by_cases hq : q < t.br.length
  ·rw [markF_br hq, e1]
   by_cases hm : q ∈ failF x t t.nd.length
   ·rw [if_pos hm]
    have := (mem_failL.1 hm).2.1
    have := (askF_lt this).2
    rw [e1] at this
    exact .inr ⟨this, rfl⟩
   ·rw [if_neg hm]; exact .inl rfl
  ·left
   rw [List.getD_eq_getElem?_getD, List.getD_eq_getElem?_getD, List.getElem?_eq_none (by rw [markF_brl]; omega), List.getElem?_eq_none (by rw [← e1]; omega)]
 cases hs with
 | lose i k =>
  rcases mk { s with am := s.am.set i (s.am.getD i 0 - h.amt) } rfl rfl with h | h
  ·exact .inl h
  ·exact .inr ⟨h.1, h.2, by omega⟩
 | late i k =>
  rcases mk { s with dy := s.dy.set i h.day } rfl rfl with h | h
  ·exact .inl h
  ·exact .inr ⟨h.1, h.2, by omega⟩
 | ship i j k => exact .inl rfl
theorem steps_brk {x : Fx} : ∀ {l : List Hp} {s s' : St} {at_ : Nat}, stepsF x s at_ l = some s' → s.br.length = s.nd.length → ∀ q, s'.br.getD q 0 = s.br.getD q 0 ∨ (s.br.getD q 0 < 0 ∧ ∃ t, t < l.length ∧ s'.br.getD q 0 = ((at_ + t : Nat) : Int) ∧ (l.getD t zH).kind ≠ 3)
 | [], s, s', at_, h, hl, q => by
  cases h
  exact .inl rfl
 | y :: l, s, s', at_, h, hl, q => by
  rw [stepsF] at h
  cases hs : stepF x s y at_ with
  | none => rw [hs] at h; cases h
  | some t =>
   rw [hs] at h
   have st := stepF_some.1 hs
   have ln := st.len
   have ih := steps_brk (l := l) (s := t) h (by omega) q
   rcases st.brk hl q with e | ⟨e1, e2, e3⟩
   ·rcases ih with i1 | ⟨i1, k, i2, i3, i4⟩
    ·exact .inl (i1.trans e)
    ·rw [e] at i1
     exact .inr ⟨i1, k + 1, by rw [List.length_cons]; omega, by rw [i3]; omega, i4⟩
   ·rcases ih with i1 | ⟨i1, -⟩
    ·exact .inr ⟨e1, 0, by rw [List.length_cons]; omega, by rw [i1, e2]; omega, e3⟩
    ·rw [e2] at i1; omega
end Go.Proofs.Ytcadnjmcmegpjaa

/-
 Honour: the reasons. Plain.
 Conditions: none.
-/
namespace Go.Proofs.Ytcadnjmcmegpjaa
open Go Bf
def shipF (s : St) (h : Hp) : St := if h.kind = 3 then { s with am := s.am.set h.sup.toNat (s.am.getD h.sup.toNat 0 - h.amt), nd := s.nd.set h.req.toNat (s.nd.getD h.req.toNat 0 - h.amt) } else s
def lossF (s : St) (h : Hp) : St := if h.kind = 1 then { s with am := s.am.set h.sup.toNat (s.am.getD h.sup.toNat 0 - h.amt) } else { s with dy := s.dy.set h.sup.toNat (max (s.dy.getD h.sup.toNat 0) h.day) }
def brB (br : List Int) (j : Nat) : List Int := br.map fun a => if 0 ≤ a ∧ a < (j : Int) then a else -1
def withF (b : Bk) (l : List Hp) (br : List Int) (j : Nat) (idx : List Nat) : St :=
 { (idx.map fun t => l.getD t zH).foldl lossF ((l.take j).foldl shipF (beginF b)) with br := brB br j }
noncomputable def becL (b : Bk) (l : List Hp) (br : List Int) (j q : Nat) : Nat → List Nat → List Nat
 | 0, left => left
 | i + 1, left => becL b l br j q i (if q ∈ failF (fxB b) (withF b l br j (left.eraseIdx i)) (q + 1) then left.eraseIdx i else left)
def notShip (l : List Hp) (n : Nat) : List Nat := (List.range n).filter fun t => decide ((l.getD t zH).kind ≠ 3)
noncomputable def becF (b : Bk) (l : List Hp) (br : List Int) (q : Nat) : List Nat :=
 becL b l br (br.getD q 0).toNat q (notShip l ((br.getD q 0).toNat + 1)).length (notShip l ((br.getD q 0).toNat + 1))
theorem ships_eff : ∀ (l : List Hp) (s : St), (∀ h ∈ l, OkH s.am.length s.nd.length h) → (∀ i, (l.foldl shipF s).am.getD i 0 = s.am.getD i 0 - shipA l i ∧ (l.foldl shipF s).nd.getD i 0 = s.nd.getD i 0 - shipN l i) ∧ (l.foldl shipF s).dy = s.dy ∧ (l.foldl shipF s).am.length = s.am.length ∧ (l.foldl shipF s).nd.length = s.nd.length
 | [], s, _ => ⟨fun i => by simp [shipA, shipN], rfl, rfl, rfl⟩
 | h :: l, s, hl => by
  have hh := hl h (List.mem_cons_self ..)
  have e1 : (shipF s h).am.length = s.am.length ∧ (shipF s h).nd.length = s.nd.length ∧ (shipF s h).dy = s.dy := by
   unfold shipF; split
   ·exact ⟨List.length_set, List.length_set, rfl⟩
   ·exact ⟨rfl, rfl, rfl⟩
  obtain ⟨i1, i2, i3, i4⟩ := ships_eff l (shipF s h) (fun z hz => by rw [e1.1, e1.2.1]; exact hl z (List.mem_cons_of_mem _ hz))
  rw [List.foldl_cons]
  refine ⟨fun i => ?_, by rw [i2, e1.2.2], by rw [i3, e1.1], by rw [i4, e1.2.1]⟩
  obtain ⟨a1, a2⟩ := i1 i
  rw [a1, a2, shipA_cons, shipN_cons]
  unfold shipF
  by_cases k : h.kind = 3
  ·rw [if_pos k]
   obtain ⟨⟨o1, o2⟩, o3⟩ := hh
   have o4 : 0 ≤ h.req ∧ h.req < (s.nd.length : Int) := by rcases o3 with o | o | o <;> omega
   refine ⟨?_, ?_⟩
   ·show (s.am.set _ _).getD i 0 - _ = _
    rw [getD_set _ _ _ _ (by omega)]
    by_cases c : i = h.sup.toNat
    ·rw [if_pos c, if_pos ⟨k, by omega⟩, c]; omega
    ·rw [if_neg c, if_neg (by omega)]; omega
   ·show (s.nd.set _ _).getD i 0 - _ = _
    rw [getD_set _ _ _ _ (by omega)]
    by_cases c : i = h.req.toNat
    ·rw [if_pos c, if_pos ⟨k, by omega⟩, c]; omega
    ·rw [if_neg c, if_neg (by omega)]; omega
  ·rw [if_neg k, if_neg (fun h => k h.1), if_neg (fun h => k h.1)]
   exact ⟨by omega, by omega⟩
theorem losses_eff : ∀ (l : List Hp) (s : St), s.dy.length = s.am.length → (∀ h ∈ l, OkH s.am.length s.nd.length h ∧ h.kind ≠ 3) → (∀ i, (l.foldl lossF s).am.getD i 0 = s.am.getD i 0 - lossA l i ∧ (l.foldl lossF s).dy.getD i 0 = lateD i (s.dy.getD i 0) l) ∧ (l.foldl lossF s).nd = s.nd ∧ (l.foldl lossF s).am.length = s.am.length ∧ (l.foldl lossF s).dy.length = s.dy.length
 | [], s, _, _ => ⟨fun i => ⟨by simp [lossA], rfl⟩, rfl, rfl, rfl⟩
 | h :: l, s, hd, hl => by
  obtain ⟨hh, h3⟩ := hl h (List.mem_cons_self ..)
  have e1 : (lossF s h).am.length = s.am.length ∧ (lossF s h).nd = s.nd ∧ (lossF s h).dy.length = s.dy.length := by
   unfold lossF; split
   ·exact ⟨List.length_set, rfl, rfl⟩
   ·exact ⟨rfl, rfl, List.length_set⟩
  obtain ⟨i1, i2, i3, i4⟩ := losses_eff l (lossF s h) (by omega) (fun z hz => by rw [e1.1, e1.2.1]; exact hl z (List.mem_cons_of_mem _ hz))
  rw [List.foldl_cons]
  refine ⟨fun i => ?_, by rw [i2, e1.2.1], by rw [i3, e1.1], by rw [i4, e1.2.2]⟩
  obtain ⟨a1, a2⟩ := i1 i
  rw [a1, a2, lossA_cons, lateD]
  unfold lossF
  obtain ⟨⟨o1, o2⟩, o3⟩ := hh
  by_cases k : h.kind = 1
  ·rw [if_pos k]
   refine ⟨?_, ?_⟩
   ·show (s.am.set _ _).getD i 0 - _ = _
    rw [getD_set _ _ _ _ (by omega)]
    by_cases c : i = h.sup.toNat
    ·rw [if_pos c, if_pos ⟨k, by omega⟩, c]; omega
    ·rw [if_neg c, if_neg (by omega)]; omega
   ·rw [if_neg (show ¬ (h.kind = 2 ∧ h.sup = (i : Int)) by omega)]
  ·have k2 : h.kind = 2 := by rcases o3 with o | o | o <;> omega
   rw [if_neg k]
   refine ⟨?_, ?_⟩
   ·rw [if_neg (show ¬ (h.kind = 1 ∧ h.sup = (i : Int)) by omega)]
    show s.am.getD i 0 - _ = _
    omega
   ·show lateD i ((s.dy.set _ _).getD i 0) l = _
    rw [getD_set _ _ _ _ (by omega)]
    by_cases c : i = h.sup.toNat
    ·rw [if_pos c, if_pos ⟨k2, by omega⟩, c]
    ·rw [if_neg c, if_neg (by omega)]
/-! parts of a list of happenings -/
theorem lossA_sub {n m : Nat} {l1 l2 : List Hp} (h : l1.Sublist l2) (hl : ∀ z ∈ l2, OkH n m z) (i : Nat) : lossA l1 i ≤ lossA l2 i ∧ 0 ≤ lossA l2 i := by
 induction h with
 | slnil => exact ⟨Int.le_refl _, Int.le_refl _⟩
 | @cons l1 l2 a h ih =>
  have := ih fun z hz => hl z (List.mem_cons_of_mem _ hz)
  obtain ⟨-, o⟩ := hl a (List.mem_cons_self ..)
  rw [lossA_cons]
  by_cases c : a.kind = 1 ∧ a.sup = (i : Int)
  ·rw [if_pos c]
   rcases o with o | o | o <;> omega
  ·rw [if_neg c]; omega
 | @cons_cons l1 l2 a h ih =>
  have := ih fun z hz => hl z (List.mem_cons_of_mem _ hz)
  obtain ⟨-, o⟩ := hl a (List.mem_cons_self ..)
  rw [lossA_cons, lossA_cons]
  by_cases c : a.kind = 1 ∧ a.sup = (i : Int)
  ·rw [if_pos c]
   rcases o with o | o | o <;> omega
  ·rw [if_neg c]; omega
theorem lateD_mono (i : Nat) : ∀ (l : List Hp) (d e : Int), d ≤ e → lateD i d l ≤ lateD i e l
 | [], _, _, h => h
 | a :: l, d, e, h => by
  rw [lateD, lateD]
  refine lateD_mono i l _ _ ?_
  split <;> omega
theorem lateD_ge (i : Nat) : ∀ (l : List Hp) (d : Int), d ≤ lateD i d l
 | [], d => Int.le_refl _
 | a :: l, d => by
  rw [lateD]
  refine Int.le_trans ?_ (lateD_ge i l _)
  split <;> omega
theorem lateD_sub (i : Nat) {l1 l2 : List Hp} (h : l1.Sublist l2) : ∀ d, lateD i d l1 ≤ lateD i d l2 := by
 induction h with
 | slnil => exact fun d => Int.le_refl _
 | @cons l1 l2 a h ih =>
  intro d
  rw [lateD]
  refine Int.le_trans (ih d) (lateD_mono i _ _ _ ?_)
  split <;> omega
 | @cons_cons l1 l2 a h ih =>
  intro d
  rw [lateD, lateD]
  exact ih _
theorem shipA_take_le {n m : Nat} {l : List Hp} (hl : ∀ z ∈ l, OkH n m z) (i : Nat) : 0 ≤ shipA l i := by
 induction l with
 | nil => exact Int.le_refl _
 | cons a l ih =>
  have := ih fun z hz => hl z (List.mem_cons_of_mem _ hz)
  obtain ⟨-, o⟩ := hl a (List.mem_cons_self ..)
  rw [shipA_cons]
  by_cases c : a.kind = 3 ∧ a.sup = (i : Int)
  ·rw [if_pos c]; rcases o with o | o | o <;> omega
  ·rw [if_neg c]; omega
theorem pickH_sub {l : List Hp} : ∀ {idx : List Nat} {n : Nat}, idx.Sublist (List.range n) → n ≤ l.length → (idx.map fun t => l.getD t zH).Sublist (l.take n) := fun {idx n} h hn => by
 have h1 := h.map fun t => l.getD t zH
 have h2 : (List.range n).map (fun t => l.getD t zH) = l.take n := by
  apply List.ext_getElem?
  intro i
  rw [List.getElem?_map]
  by_cases hi : i < n
  ·rw [List.getElem?_range hi, List.getElem?_take, if_pos hi]
   simp [List.getD_eq_getElem?_getD, show i < l.length by omega]
  ·rw [List.getElem?_eq_none (by simp; omega), List.getElem?_eq_none (by simp; omega)]
   rfl
 rwa [h2] at h1
end Go.Proofs.Ytcadnjmcmegpjaa

