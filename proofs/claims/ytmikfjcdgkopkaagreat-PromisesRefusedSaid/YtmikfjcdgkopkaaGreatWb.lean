/-
  Texts of the proof, one after the other.
  Conditions: none.
-/
import Derived.Test.YtmikfjcdgkopkaaGreatWBfBuild
import Derived.Test.YtmikfjcdgkopkaaGreatWBfInj
import Derived.Test.YtmikfjcdgkopkaaGreatWBfPend
import Derived.Test.YtmikfjcdgkopkaaGreatWBfRec
import Derived.Test.YtmikfjcdgkopkaaGreatWBfTake
import Derived.Test.YtmikfjcdgkopkaaGreatWBfDelN
import Derived.MapKept
import Derived.Test.YtmikfjcdgkopkaaGreatWBfKey
import Derived.Shelf.SlIterI.Nil
import Derived.Shelf.SortM.Plain
import Derived.Shelf.SortM.SortNone
import Derived.Test.YtmikfjcdgkopkaaGreatWXs
import Derived.Test.YtmikfjcdgkopkaaGreatWa
/-
 Classes: the contract of Table.
 Conditions: none.
-/
namespace Go.Proofs.YtmikfjcdgkopkaaGreat
open Go Bf
attribute [local irreducible] Tr Exec Stab HasTy Go.Addr.add IntKind.wrap
theorem boW_elems (M : Mem) (l : List Bool) : Elems 1 RBo M (boV l) l := by
 refine ⟨by simp, fun i x hx => ?_⟩
 show _ = _
 rw [Nat.mul_one, List.take_one, List.head?_drop, boV_get hx]
 rfl
theorem boW_one (l : List Bool) : ∀ u ∈ boV l, u.oneCell' = true := by
 intro u hu
 simp only [boV, List.mem_map] at hu
 obtain ⟨x, _, rfl⟩ := hu
 rfl
def rdI (y : Rd) : List Int := [y.1.1, y.1.2.1, y.1.2.2, y.2.1, y.2.2]
theorem rdI_inj {a b : Rd} (h : ints (rdI a) = ints (rdI b)) : a = b := by
 have := ints_inj h
 obtain ⟨⟨a1, a2, a3⟩, a4, a5⟩ := a
 obtain ⟨⟨b1, b2, b3⟩, b4, b5⟩ := b
 simp only [rdI, List.cons.injEq, and_true] at this
 obtain ⟨rfl, rfl, rfl, rfl, rfl⟩ := this
 rfl
def MapRd (w : Wd) (known : Int) (es : List MapEntry) (l : List Rd) : Prop := KeysIn (IntsN 5) es ∧ ∀ y : Rd, valV (ints (rdI y)) es = if y ∈ l then some (.bool (refusedF w y known)) else none
theorem MapRd.nil (w : Wd) (known : Int) : MapRd w known [] [] := ⟨KeysIn.nil, fun y => by simp [valV, lookV]⟩
theorem MapRd.add {w : Wd} {known : Int} {es : List MapEntry} {l : List Rd} (h : MapRd w known es l) {y : Rd} (hy : y ∉ l) (cl : Nat) : MapRd w known (updV (ints (rdI y)) (.bool (refusedF w y known)) es cl).1 (addNew l y) := by
 classical
 refine ⟨updV_keys h.1 ⟨rdI y, rfl, rfl⟩, fun z => ?_⟩
 rw [updV_val, h.2 z]
 unfold addNew
 rw [if_neg hy]
 by_cases e : z = y
 ·subst e; simp
 ·have : ¬ ints (rdI z) = ints (rdI y) := fun h => e (rdI_inj h)
  simp [this, e]
def rdsI (w : Wd) (s : List Sp) (r : List Rq) (i : Nat) : List Rd := readsF w (s.take i) r
def rdsJ (w : Wd) (s : List Sp) (r : List Rq) (i : Nat) (x : Sp) (j : Nat) : List Rd := (looksR w x (r.take j)).foldl addNew (rdsI w s r i)
theorem rdsJ_no {w : Wd} {s : List Sp} {r : List Rq} {i j : Nat} {x : Sp} {y : Rq} (hy : r[j]? = some y) (hc : couldF w x y = false) : rdsJ w s r i x (j + 1) = rdsJ w s r i x j := by
 unfold rdsJ looksR
 rw [List.take_add_one, hy]
 simp [hc]
theorem rdsJ_yes {w : Wd} {s : List Sp} {r : List Rq} {i j : Nat} {x : Sp} {y : Rq} (hy : r[j]? = some y) (hc : couldF w x y = true) : rdsJ w s r i x (j + 1) = addNew (rdsJ w s r i x j) (lookF x y) := by
 unfold rdsJ looksR
 rw [List.take_add_one, hy]
 simp [hc, List.foldl_append]
theorem rdsJ_end {w : Wd} {s : List Sp} {r : List Rq} {i : Nat} {x : Sp} (hx : s[i]? = some x) : rdsI w s r (i + 1) = rdsJ w s r i x r.length := by
 unfold rdsI rdsJ readsF
 rw [List.take_add_one, hx, List.take_length]
 simp only [Option.toList_some, List.flatMap_append, List.flatMap_cons, List.flatMap_nil, List.append_nil, List.foldl_append]
 rfl
def TabR (w : Wd) (s : List Sp) (r : List Rq) (known : Int) (v : Value) (M : Mem) : Prop :=
 (¬ okT s r ∧ v = .tuple #[.slice none 0 0, .slice none 0 0, .int .i64 290]) ∨
 (okT s r ∧ ∃ A c B k, v = .tuple #[.slice A (fitsT w known s r).length c, .slice B (readsF w s r).length k, .int .i64 0] ∧ Fits2 M (.slice A (fitsT w known s r).length c) (fitsT w known s r) ∧ SlOf 5 RRd M (.slice B (readsF w s r).length k) (readsF w s r))
set_option maxHeartbeats 16000000 in
set_option maxRecDepth 20000 in
theorem table_fn (M : Mem) (ws : List Value) (w : Wd) (hw : RWd M ws w) (A1 A2 : Option Addr) (c1 c2 : Nat) (s : List Sp) (r : List Rq) (known : Int) (hs : SlOf 6 RSpC M (.slice A1 s.length c1) s) (hr : SlOf 6 RRqC M (.slice A2 r.length c2) r) :
  Fn0 Tryz.prog 76 [.agg ws.toArray, .slice A1 s.length c1, .slice A2 r.length c2, .int .i64 known] M (fun v M' => TabR w s r known v M') := by
 have hl1 := hs.len_le
 have hl2 := hr.len_le
 have h11 := hw.len
 have hKey : KeyOk Tryz.prog 88 (IntsN 5) := KeyOk.ofTy (tysOk.get rfl) rfl (by kernel_rfl)
 refine Fn.intro Tryz.func76 rfl rfl Tryz.ntmps76 rfl fun E F => ?_
 by_cases h1 : 64 < s.length
 ·(repeat (first | ((with_reducible refine Tr.step rfl ?_); (first | (refine xmQ ?_) | (refine xaQ ?_) | (refine xnQ ?_) | (refine xiQ ?_) | ((with_reducible refine Knd.pick ?_); (refine Exec.stab rfl (Stab.pick_td rfl (by omega) rfl) rfl ?_)) | ((with_reducible refine Knd.box ?_); (refine Exec.box rfl rfl (fun b => ?_))))) | (with_reducible first | apply Tr.next | apply Tr.seq | apply Tr.region | apply Tr.nil) | (refine Tr.guard_n' rfl rfl rfl (by first | (with_reducible assumption) | omega) rfl rfl ?_) | (with_reducible first | apply Tr.ret | apply Tr.then_ret) | (refine Tr.cond_bt rfl (by (with_reducible rfl)) ?_)))
  (refine dnQ (hL := by exact ⟨[_], rfl⟩) ⟨rfl, ?_⟩)
  exact .inl ⟨fun h => by have := h.1.1; omega, rfl⟩
 by_cases h2 : 64 < r.length
 ·(repeat (first | ((with_reducible refine Tr.step rfl ?_); (first | (refine xmQ ?_) | (refine xaQ ?_) | (refine xnQ ?_) | (refine xiQ ?_) | ((with_reducible refine Knd.pick ?_); (refine Exec.stab rfl (Stab.pick_fd rfl (by omega) rfl) rfl ?_)) | ((with_reducible refine Knd.box ?_); (refine Exec.box rfl rfl (fun b => ?_))))) | (with_reducible first | apply Tr.next | apply Tr.seq | apply Tr.region | apply Tr.nil) | ((refine Tr.guard_y' rfl rfl rfl (by first | (with_reducible assumption) | omega) ?_); (first | (refine xmQ ?_) | (refine xnQ ?_) | (refine xiQ ?_))) | (with_reducible first | apply Tr.ret | apply Tr.then_ret) | (refine Tr.cond_t rfl (by first | (with_reducible assumption) | omega) ?_)))
  (refine dnQ (hL := by exact ⟨[_], rfl⟩) ⟨rfl, ?_⟩)
  exact .inl ⟨fun h => by have := h.1.2; omega, rfl⟩
 (repeat (first | ((with_reducible refine Tr.step rfl ?_); (first | (refine xmQ ?_) | (refine xaQ ?_) | (refine xnQ ?_) | (refine xiQ ?_) | ((with_reducible refine Knd.pick ?_); (refine Exec.stab rfl (Stab.pick_fd rfl (by omega) rfl) rfl ?_)) | ((with_reducible refine Knd.box ?_); (refine Exec.box rfl rfl (fun b => ?_))))) | (with_reducible first | apply Tr.next | apply Tr.seq | apply Tr.region | apply Tr.nil) | ((refine Tr.guard_y' rfl rfl rfl (by first | (with_reducible assumption) | omega) ?_); (first | (refine xmQ ?_) | (refine xnQ ?_) | (refine xiQ ?_))) | (with_reducible refine Tr.skip ?_) | (refine Tr.cond_f rfl (by first | (with_reducible assumption) | omega) ?_)))
 generalize b = b4
 ((refine Tr.step rfl ?_)); refine Exec.call0 rfl (containsS_fn M A1 c1 s hs 107 [] (fun x => !decide (okSp x)) (fun x _ => table1_fn M x)) rfl ?_
 rintro _ _ _ ⟨rfl, rfl⟩
 by_cases h3 : ∀ x ∈ s, okSp x
 rotate_left
 ·have e : (s.any fun x => !decide (okSp x)) = true := by
   rw [List.any_eq_true]
   simpa using h3
  rw [e]
  (refine rQ ?_)
  (refine dnQ (hL := by exact ⟨[_], rfl⟩) ⟨rfl, ?_⟩)
  exact .inl ⟨fun h => h3 h.2.1, rfl⟩
 have e3 : (s.any fun x => !decide (okSp x)) = false := by
  rw [List.any_eq_false]
  intro x hx
  simp [h3 x hx]
 rw [e3]
 (refine rQ ?_)
 ((refine Tr.guard_l rfl rfl rfl (by (with_reducible rfl)) ?_)); refine Exec.call0 rfl (containsR_fn M A2 c2 r hr 109 [] (fun x => !decide (okRq x)) (fun x _ => table2_fn M x)) rfl ?_
 rintro _ _ _ ⟨rfl, rfl⟩
 by_cases h4 : ∀ x ∈ r, okRq x
 rotate_left
 ·have e : (r.any fun x => !decide (okRq x)) = true := by
   rw [List.any_eq_true]
   simpa using h4
  rw [e]
  (refine rQ ?_)
  (refine dnQ (hL := by exact ⟨[_], rfl⟩) ⟨rfl, ?_⟩)
  exact .inl ⟨fun h => h4 h.2.2, rfl⟩
 have e4 : (r.any fun x => !decide (okRq x)) = false := by
  rw [List.any_eq_false]
  intro x hx
  simp [h4 x hx]
 rw [e4]
 (repeat (first | ((with_reducible refine Tr.step rfl ?_); (first | (refine xmQ ?_) | (refine xaQ ?_) | (refine xnQ ?_) | ((with_reducible refine Knd.pick ?_); (refine Exec.stab rfl (Stab.pick_f rfl (by (with_reducible rfl)) rfl) rfl ?_)) | ((with_reducible refine Knd.makeMap ?_); (refine Exec.makeMap rfl (fun b => ?_))) | ((with_reducible refine Knd.makeSlice ?_); (refine Exec.make rfl rfl (tysOk.get rfl) rfl (tysOk.get rfl) rfl rfl rfl (by omega) (by omega) (by first | omega | (simp; done) | (simp; omega)) (by omega) rfl (fun b => ?_))))) | (with_reducible first | apply Tr.next | apply Tr.seq | apply Tr.region | apply Tr.nil | apply Tr.skip | apply Tr.block) | (refine Tr.cond_bf rfl (by (with_reducible rfl)) ?_)))
 simp only [Int.toNat_natCast]
 rename_i mb
 generalize b = bf
 refine Tr.own_nil 88 5 ?_
 refine Tr.loop (α := Nat × List Value × Mem × (List MapEntry × Nat) × (Option Addr × Nat)) (fun y => ⟨98, [(41, .int .i64 (y.1 : Int)), (40, .int .i64 (s.length : Int)), (39, .slice A1 s.length c1), (8, .slice (some ⟨bf, 0, none⟩) s.length s.length), (9, .slice y.2.2.2.2.1 (rdsI w s r y.1).length y.2.2.2.2.2), (12, .map (some mb)), (2, .slice A2 r.length c2), (3, .int .i64 known), (4, .pointer (some ⟨b4, 0, none⟩))], [], y.2.2.1, ownS 88 5 y.2.2.2.2.1 (rdsI w s r y.1).length y.2.2.2.2.2 ((rdsI w s r y.1).flatMap rdC) :: box bf 78 y.2.1 :: mapR mb y.2.2.2.1.1 y.2.2.2.1.2 :: box b4 38 ws :: F⟩)
  (fun y => y.1 ≤ s.length ∧ y.2.1.length = s.length ∧ Mem.le M y.2.2.1 ∧ Elems 1 RRowB y.2.2.1 (y.2.1.take y.1) (fitsT w known (s.take y.1) r) ∧ MapRd w known y.2.2.2.1.1 (rdsI w s r y.1) ∧ y.2.2.2.2.2 ≤ 9223372036854775807 ∧ (rdsI w s r y.1).length ≤ 64 * y.1) (fun y => s.length - y.1) (0, List.replicate s.length (.slice none 0 0), M, ([], 0), (none, 0)) ⟨Nat.zero_le _, by simp, Mem.le.refl _, Elems.nil, MapRd.nil w known, by simp, by simp [rdsI, readsF]⟩ hsQ (fun y hy => ?_)
 obtain ⟨i, cells, M1, ⟨es, cl⟩, Ar, cr⟩ := y
 obtain ⟨hi, hcl, hM, hel, hmap, hcr, hrl⟩ := hy
 simp only at hi hcl hM hel hmap hcr hrl
 dsimp only
 have hs1 := hs.mono RSpC.mono hM
 have hr1 := hr.mono RRqC.mono hM
 have hw1 := hw.mono hM
 by_cases hlt : i < s.length
 rotate_left
 ·have ei : i = s.length := by omega
  subst ei
  rw [List.take_of_length_le (by omega), List.take_length] at hel
  have e0 : rdsI w s r s.length = readsF w s r := by rw [rdsI, List.take_length]
  rw [e0] at hmap hrl ⊢
  (refine rQ ?_)
  refine pbQ (r := ownS 88 5 _ _ _ _) (fun M2 hm2 hok => ?_)
  refine pbQ (r := box bf _ _) (fun M3 hm3 hok2 => ?_)
  have hfl : (fitsT w known s r).length = s.length := by simp [fitsT]
  have hF : Fits2 M3 (.slice (some ⟨bf, 0, none⟩) (fitsT w known s r).length s.length) (fitsT w known s r) := SlOf.ofBoxC hok2 rfl (by rw [Nat.mul_one]; exact hcl) (by omega) (by omega) (by
   rw [hfl, Nat.mul_one, List.take_of_length_le (by omega)]
   intro u hu
   obtain ⟨j, hj, rfl⟩ := List.getElem_of_mem hu
   have hj2 : j < (fitsT w known s r).length := by omega
   obtain ⟨A, k, h, -⟩ := hel.2 j _ (List.getElem?_eq_getElem hj2)
   rw [Nat.mul_one, List.take_one, List.head?_drop, List.getElem?_eq_getElem hj] at h
   simp only [Option.toList_some, List.cons.injEq, and_true] at h
   rw [h]
   rfl) (by
   rw [hfl, Nat.mul_one, List.take_of_length_le (by omega)]
   exact hel.mono RRowB.mono (hm2.trans hm3))
  have hR : SlOf 5 RRd M3 (.slice Ar (readsF w s r).length cr) (readsF w s r) := (SlOf.ofOwn hok rfl hcr (rdC_elems _ _)).mono RRd.mono hm3
  have hmm := hM.trans (hm2.trans hm3)
  rw [← hfl]
  rw [← hfl] at hF
  (refine dnQ (hL := by exact ⟨[_, _], rfl⟩) ⟨rfl, ?_⟩)
  exact .inr ⟨⟨⟨by omega, by omega⟩, h3, h4⟩, _, _, _, _, rfl, hF, hR⟩
 obtain ⟨x, hx⟩ := get_of_lt hlt
 have hxo := h3 x (List.mem_of_getElem? hx)
 obtain ⟨hA, ch, hat, rfl⟩ := hs1.elem hx
 simp only [spC] at hat
 (repeat (first | ((with_reducible refine Tr.step rfl ?_); (first | (refine xmQ ?_) | (refine xaQ ?_) | ((with_reducible refine Knd.load ?_); (refine Exec.stab rfl (Stab.loadMA rfl (tysOk.get rfl) rfl (by assumption) (by first | rfl | assumption)) rfl ?_)) | (refine xnQ ?_) | (refine xiQ ?_) | ((with_reducible refine Knd.store ?_); (first | (refine xWQ ?_) | (refine Exec.storeS rfl rfl (tysOk.get rfl) rfl (by first | rfl | assumption) (by repeat (first | exact Upd.here | apply Upd.there)) (by omega) ?_))) | ((with_reducible refine Knd.alloc ?_); (refine Exec.alloc (tysOk.get rfl) rfl rfl (fun b => ?_))) | ((with_reducible refine Knd.indexAddr ?_); (first | (refine Exec.stab rfl (Stab.indexB0 rfl rfl (tysOk.get rfl) rfl (tysOk.get rfl) rfl (by omega) (by omega)) rfl ?_) | (refine xxQ ?_))) | ((with_reducible refine Knd.makeSlice ?_); (refine Exec.make rfl rfl (tysOk.get rfl) rfl (tysOk.get rfl) rfl rfl rfl (by omega) (by omega) (by first | omega | (simp; done) | (simp; omega)) (by omega) rfl (fun b => ?_))))) | (with_reducible first | apply Tr.next | apply Tr.seq | apply Tr.region | apply Tr.nil | apply Tr.skip | apply Tr.block) | (refine Tr.cond_t rfl (by first | (with_reducible assumption) | omega) ?_)))
 simp only [Int.toNat_natCast]
 rename_i b14
 generalize b = br
 refine ftQ (r := ownS 88 5 _ _ _ _) ?_
 refine Tr.loop (α := Nat × List Bool × (List MapEntry × Nat) × (Option Addr × Nat)) (fun y => ⟨98, [(54, .int .i64 (y.1 : Int)), (53, .int .i64 (r.length : Int)), (52, .slice A2 r.length c2), (9, .slice y.2.2.2.1 (rdsJ w s r i x y.1).length y.2.2.2.2), (13, .int .i64 (i : Int)), (14, .pointer (some ⟨b14, 0, none⟩)), (41, .int .i64 (i : Int)), (40, .int .i64 (s.length : Int)), (39, .slice A1 s.length c1), (8, .slice (some ⟨bf, 0, none⟩) s.length s.length), (12, .map (some mb)), (2, .slice A2 r.length c2), (3, .int .i64 known), (4, .pointer (some ⟨b4, 0, none⟩))], [], M1, ownS 88 5 y.2.2.2.1 (rdsJ w s r i x y.1).length y.2.2.2.2 ((rdsJ w s r i x y.1).flatMap rdC) :: box br 4 (boV y.2.1) :: box b14 82 [.int .i64 x.no, .int .i64 x.item, .int .i64 x.plant, .int .i64 x.ready, .int .i64 x.expiry, .int .i64 x.amount] :: box bf 78 (cells.set i (.slice (some ⟨br, 0, none⟩) r.length r.length)) :: mapR mb y.2.2.1.1 y.2.2.1.2 :: box b4 38 ws :: F⟩)
  (fun y => y.1 ≤ r.length ∧ y.2.1 = (r.take y.1).map (fitF w known x) ++ List.replicate (r.length - y.1) false ∧ MapRd w known y.2.2.1.1 (rdsJ w s r i x y.1) ∧ y.2.2.2.2 ≤ 9223372036854775807 ∧ (rdsJ w s r i x y.1).length ≤ 64 * i + y.1) (fun y => r.length - y.1) (0, List.replicate r.length false, (es, cl), (Ar, cr)) ⟨Nat.zero_le _, by simp, by simpa [rdsJ, looksR] using hmap, hcr, by simpa [rdsJ, looksR] using hrl⟩ (by simpa [rdsJ, looksR, boV] using (hsQ)) (fun y hy => ?_)
 obtain ⟨j, row, ⟨es2, cl2⟩, Ar2, cr2⟩ := y
 obtain ⟨hj, hrow, hmap2, hcr2, hrl2⟩ := hy
 simp only at hj hrow hmap2 hcr2 hrl2
 dsimp only
 have hrowl : row.length = r.length := by rw [hrow]; simp; omega
 by_cases hjlt : j < r.length
 rotate_left
 ·have ej : j = r.length := by omega
  subst ej
  rw [← rdsJ_end hx] at hmap2 hrl2 ⊢
  rw [Nat.sub_self, List.replicate_zero, List.append_nil, List.take_length] at hrow
  subst hrow
  (refine rQ ?_)
  refine pbQ (r := box br _ _) (fun M2 hm2 hok => ?_)
  have hB : Bools M2 (.slice (some ⟨br, 0, none⟩) (r.map (fitF w known x)).length r.length) (r.map (fitF w known x)) := SlOf.ofBoxC hok rfl (by simp) (by simp) (by omega) (fun u hu => boW_one _ u (List.mem_of_mem_take hu)) (by
   rw [Nat.mul_one, List.take_of_length_le (by simp)]
   exact boW_elems _ _)
  refine gvQ (r := box b14 _ _) ?_
  refine Tr.again (i + 1, cells.set i (.slice (some ⟨br, 0, none⟩) r.length r.length), M2, (es2, cl2), (Ar2, cr2)) ⟨by simp only; omega, by simpa using hcl, hM.trans hm2, ?_, hmap2, hcr2, by simp only; omega⟩ (by simp only; omega) hsQ
  simp only
  have e1 : (cells.set i (Value.slice (some ⟨br, 0, none⟩) r.length r.length)).take (i + 1) = cells.take i ++ [.slice (some ⟨br, 0, none⟩) r.length r.length] := by
   rw [List.take_add_one, List.getElem?_set_self (by omega), List.take_set_of_le (Nat.le_refl _)]
   rfl
  have e2 : fitsT w known (s.take (i + 1)) r = fitsT w known (s.take i) r ++ [r.map (fitF w known x)] := by
   unfold fitsT
   rw [List.take_add_one, hx]
   simp
  rw [e1, e2]
  refine (hel.mono RRowB.mono hm2).append (Elems.one rfl ⟨some ⟨br, 0, none⟩, r.length, ?_, hB⟩)
  rw [List.length_map]
 obtain ⟨y, hy⟩ := get_of_lt hjlt
 have hyo := h4 y (List.mem_of_getElem? hy)
 obtain ⟨hA2, ch2, hat2, rfl⟩ := hr1.elem hy
 simp only [rqC] at hat2
 have hbl : (boV row).length = r.length := by simp [hrowl]
 have hset : nthL (cells.set i (Value.slice (some ⟨br, 0, none⟩) r.length r.length)) i = some (.slice (some ⟨br, 0, none⟩) r.length r.length) := by
  rw [nthL_eq, List.getElem?_set_self (by omega)]
 have hrowset : ∀ v, row.set j v = (r.take j).map (fitF w known x) ++ v :: List.replicate (r.length - (j + 1)) false := fun v => by
  rw [hrow, List.set_append_right _ _ (by simp; omega), List.length_map, List.length_take, Nat.min_eq_left (by omega), Nat.sub_self, show r.length - j = (r.length - (j + 1)) + 1 by omega, List.replicate_succ, List.set_cons_zero]
 have htk : ∀ v, fitF w known x y = v → row.set j v = (r.take (j + 1)).map (fitF w known x) ++ List.replicate (r.length - (j + 1)) false := fun v hv => by
  rw [hrowset, List.take_add_one, hy, ← hv]
  simp
 (repeat (first | ((with_reducible refine Tr.step rfl ?_); (first | (refine xmQ ?_) | (refine xaQ ?_) | ((with_reducible refine Knd.load ?_); (first | (refine xwQ ?_) | (refine Exec.stab rfl (Stab.loadW rfl (tysOk.get rfl) rfl (by repeat (first | exact Has.here | apply Has.there)) (by assumption)) rfl ?_) | (refine Exec.stab rfl (Stab.loadMA rfl (tysOk.get rfl) rfl (by assumption) (by first | rfl | assumption)) rfl ?_))) | (refine xiQ ?_) | (refine xWQ ?_) | ((with_reducible refine Knd.alloc ?_); (refine Exec.alloc (tysOk.get rfl) rfl rfl (fun b => ?_))) | (refine xxQ ?_))) | (with_reducible first | apply Tr.next | apply Tr.seq | apply Tr.region | apply Tr.nil | apply Tr.skip | apply Tr.block) | (refine Tr.cond_t rfl (by first | (with_reducible assumption) | omega) ?_)))
 ((refine Tr.step rfl ?_)); refine Exec.call0 rfl (couldFit_fn M1 ws w hw1 x y hyo) rfl ?_
 rintro _ _ _ ⟨rfl, rfl⟩
 cases hc : couldF w x y with
 | false =>
  have hf : fitF w known x y = false := by rw [fitF, hc, Bool.false_and]
  have hrow2 : row = (r.take (j + 1)).map (fitF w known x) ++ List.replicate (r.length - (j + 1)) false := by
   rw [← htk false hf, hrowset, hrow, show r.length - j = (r.length - (j + 1)) + 1 by omega, List.replicate_succ]
  have hno := rdsJ_no (s := s) (i := i) hy hc
  rw [← hno] at hmap2 ⊢
  (refine rQ ?_)
  refine Tr.again (j + 1, row, (es2, cl2), (Ar2, cr2)) ⟨by simp only; omega, hrow2, hmap2, hcr2, by simp only; rw [hno]; omega⟩ (by simp only; omega) hsQ
 | true =>
  have hyes := rdsJ_yes (s := s) (i := i) hy hc
  (refine rQ ?_)
  ((refine Tr.step rfl ?_)); refine Exec.call0 rfl (look_fn M1 x y hyo) rfl ?_
  rintro _ _ _ ⟨rfl, rfl⟩
  (repeat (first | ((with_reducible refine Tr.step rfl ?_); (first | (refine xmQ ?_) | (refine xwQ ?_) | (refine xWQ ?_) | ((with_reducible refine Knd.alloc ?_); (refine Exec.alloc (tysOk.get rfl) rfl rfl (fun b => ?_))))) | (with_reducible first | apply Tr.next | apply Tr.seq | apply Tr.region | apply Tr.nil)))
  have hval := hmap2.2 (lookF x y)
  have hkey : ints (rdI (lookF x y)) = .agg #[.int .i64 7, .int .i64 y.cust, .int .i64 x.item, .int .i64 y.due, .int .i64 (y.due + 1)] := rfl
  rw [hkey] at hval
  refine Tr.step rfl ?_
  refine Exec.stab rfl (Stab.lookupV2 hKey rfl rfl (tysOk.get rfl) rfl (tysOk.get rfl) rfl (by repeat (first | exact Has.here | apply Has.there)) hmap2.1 ⟨rdI (lookF x y), rfl, rfl⟩) rfl ?_
  rw [hval]
  by_cases hin : lookF x y ∈ rdsJ w s r i x j
  ·rw [if_pos hin]
   simp only [Option.getD_some, Option.isSome_some]
   have hadd : addNew (rdsJ w s r i x j) (lookF x y) = rdsJ w s r i x j := by rw [addNew, if_pos hin]
   rw [hadd] at hyes
   have hf : fitF w known x y = !refusedF w (lookF x y) known := by rw [fitF, hc, Bool.true_and]
   rw [← hyes] at hmap2 ⊢
   cases hre : refusedF w (lookF x y) known
   all_goals
    rw [hre] at hf
    (repeat (first | ((with_reducible refine Tr.step rfl ?_); (first | (refine xmQ ?_) | (refine xaQ ?_) | ((with_reducible refine Knd.load ?_); (refine Exec.stab rfl (Stab.load rfl (tysOk.get rfl) rfl (by repeat (first | exact Has.here | apply Has.there)) (by assumption)) rfl ?_)) | (refine xdQ ?_) | ((with_reducible refine Knd.unOp ?_); (refine Exec.stab rfl (Stab.not rfl) rfl ?_)) | ((with_reducible refine Knd.store ?_); (refine Exec.storeS rfl rfl (tysOk.get rfl) rfl (by first | rfl | assumption) (by repeat (first | exact Upd.here | apply Upd.there)) (by omega) ?_)) | ((with_reducible refine Knd.extract ?_); (refine Exec.stab rfl (Stab.extract rfl rfl) rfl ?_)) | ((with_reducible refine Knd.indexAddr ?_); (refine Exec.stab rfl (Stab.indexB0 rfl rfl (tysOk.get rfl) rfl (tysOk.get rfl) rfl (by omega) (by omega)) rfl ?_)))) | (with_reducible first | apply Tr.next | apply Tr.seq | apply Tr.region | apply Tr.nil | apply Tr.skip | apply Tr.in_normal) | (refine Tr.cond_bf rfl (by first | (with_reducible rfl) | (with_reducible exact Bool.not_true)) ?_)))
    rw [boV_set]
    refine Tr.again (j + 1, row.set j _, (es2, cl2), (Ar2, cr2)) ⟨by simp only; omega, htk _ hf, hmap2, hcr2, by simp only; rw [hyes]; omega⟩ (by simp only; omega) hsQ
  ·rw [if_neg hin]
   simp only [Option.getD_none, Option.isSome_none]
   (repeat (first | ((with_reducible refine Tr.step rfl ?_); (first | (refine xmQ ?_) | (refine xaQ ?_) | ((with_reducible refine Knd.load ?_); (first | (refine xwQ ?_) | (refine Exec.stab rfl (Stab.loadW rfl (tysOk.get rfl) rfl (by repeat (first | exact Has.here | apply Has.there)) (by assumption)) rfl ?_))) | ((with_reducible refine Knd.unOp ?_); (refine Exec.stab rfl (Stab.not rfl) rfl ?_)) | ((with_reducible refine Knd.extract ?_); (refine Exec.stab rfl (Stab.extract rfl rfl) rfl ?_)))) | (with_reducible first | apply Tr.next | apply Tr.seq | apply Tr.region | apply Tr.nil) | (refine Tr.cond_bt rfl (by first | (with_reducible rfl) | (with_reducible exact Bool.not_false)) ?_)))
   ((refine Tr.step rfl ?_)); refine Exec.call0 rfl (refused_fn M1 ws w hw1 (lookF x y) known) rfl ?_
   rintro _ _ _ ⟨rfl, rfl⟩
   (repeat (first | ((with_reducible refine Tr.step rfl ?_); (first | (refine xmQ ?_) | (refine xaQ ?_) | (refine xwQ ?_))) | (with_reducible first | apply Tr.next | apply Tr.seq | apply Tr.region | apply Tr.nil)))
   refine Tr.step rfl ?_
   refine Exec.mapUpdateV hKey rfl rfl rfl (tysOk.get rfl) rfl hmap2.1 ⟨rdI (lookF x y), rfl, rfl⟩ (by repeat (first | exact Upd.here | apply Upd.there)) ?_
   (repeat (first | ((with_reducible refine Tr.step rfl ?_); (first | (refine xmQ ?_) | (refine xwQ ?_) | ((with_reducible refine Knd.buildSlice ?_); (refine Exec.buildSlice (tysOk.get rfl) rfl (tysOk.get rfl) rfl rfl rfl rfl rfl (by repeat (first | exact BuildP.nil | ((apply BuildP.many); (rfl); (rfl); (rfl); (rfl); (repeat (first | exact PutL.nil | ((apply PutL.cons); (repeat (first | exact SetL.z | apply SetL.s)))))))) rfl (fun b => ?_))))) | (with_reducible first | apply Tr.next | apply Tr.region | apply Tr.nil)))
   ((refine Tr.step rfl ?_))
   refine Exec.append (news := rdC (lookF x y)) rfl rfl (tysOk.get rfl) rfl (tysOk.get rfl) rfl rfl rfl rfl (by repeat (first | exact Del.here | apply Del.there)) (Src.box (by repeat (first | exact Has.here | apply Has.there))) rfl (rdC_one _) (by omega) (by omega) rfl (fun A6 c6 hc6 => ?_)
   refine gvQ (r := box _ 88 _) ?_
   have hadd : addNew (rdsJ w s r i x j) (lookF x y) = rdsJ w s r i x j ++ [lookF x y] := by rw [addNew, if_neg hin]
   have hm3 := hmap2.add hin cl2
   have hfl : (rdsJ w s r i x j).flatMap rdC ++ rdC (lookF x y) = (addNew (rdsJ w s r i x j) (lookF x y)).flatMap rdC := by rw [hadd, List.flatMap_append]; simp
   have hln : (rdsJ w s r i x j).length + 1 = (addNew (rdsJ w s r i x j) (lookF x y)).length := by rw [hadd]; simp
   have hf : fitF w known x y = !refusedF w (lookF x y) known := by rw [fitF, hc, Bool.true_and]
   rw [hfl, hln]
   cases hre : refusedF w (lookF x y) known
   all_goals
    rw [hre] at hf hm3
    (repeat (first | ((with_reducible refine Tr.step rfl ?_); (first | (refine xmQ ?_) | (refine xaQ ?_) | ((with_reducible refine Knd.load ?_); (refine Exec.stab rfl (Stab.load rfl (tysOk.get rfl) rfl (by repeat (first | exact Has.here | apply Has.there)) (by assumption)) rfl ?_)) | (refine xdQ ?_) | ((with_reducible refine Knd.unOp ?_); (refine Exec.stab rfl (Stab.not rfl) rfl ?_)) | ((with_reducible refine Knd.store ?_); (refine Exec.storeS rfl rfl (tysOk.get rfl) rfl (by first | rfl | assumption) (by repeat (first | exact Upd.here | apply Upd.there)) (by omega) ?_)) | ((with_reducible refine Knd.indexAddr ?_); (refine Exec.stab rfl (Stab.indexB0 rfl rfl (tysOk.get rfl) rfl (tysOk.get rfl) rfl (by omega) (by omega)) rfl ?_)))) | (with_reducible first | apply Tr.next | apply Tr.region | apply Tr.nil | apply Tr.in_normal)))
    rw [boV_set]
    refine gvQ (r := box _ 88 _) ?_
    refine gvQ (r := box _ 46 _) ?_
    refine Tr.again (j + 1, row.set j _, ((updV _ _ es2 cl2).1, (updV _ _ es2 cl2).2), (A6, c6)) ⟨by simp only; omega, htk _ hf, by rw [hyes]; exact hm3, hc6, by simp only; rw [hyes, ← hln]; omega⟩ (by simp only; omega) (by rw [hyes]; exact hsQ)
end Go.Proofs.YtmikfjcdgkopkaaGreat

/-
 Promises: books that are made of a list of requests, and whether they can be kept, plain.
 Conditions: none.
-/
namespace Go.Proofs.YtmikfjcdgkopkaaGreat
open Go Bf
def amS (s : List Sp) : List Int := s.map (·.amount)
def amR (r : List Rq) : List Int := r.map (·.amount)
def pbW (w : Wd) (known : Int) (s : List Sp) (r : List Rq) : Pb := pbOf (fitsT w known s r) (amS s) (amR r)
theorem fitsT_get {w : Wd} {known : Int} {s : List Sp} {r : List Rq} {i j : Nat} {x : Sp} {y : Rq} (hx : s[i]? = some x) (hy : r[j]? = some y) : ((fitsT w known s r).getD i []).getD j false = fitF w known x y := by
 simp [fitsT, List.getD_eq_getElem?_getD, hx, hy]
theorem okT_vld {w : Wd} {known : Int} {s : List Sp} {r : List Rq} (h : okT s r) : Vld (fitsT w known s r) (amS s) (amR r) := by
 obtain ⟨⟨h1, h2⟩, h3, h4⟩ := h
 refine ⟨by simpa [amS] using h1, by simpa [amR] using h2, by simp [fitsT, amS], ?_, ?_, ?_⟩
 ·intro x hx
  simp only [fitsT, List.mem_map] at hx
  obtain ⟨y, _, rfl⟩ := hx
  simp [amR]
 ·intro x hx
  simp only [amS, List.mem_map] at hx
  obtain ⟨y, hy, rfl⟩ := hx
  exact (h3 y hy).2.2.2.2.2
 ·intro x hx
  simp only [amR, List.mem_map] at hx
  obtain ⟨y, hy, rfl⟩ := hx
  exact (h4 y hy).2.2.2.2.2
theorem okB.pb {w : Wd} {b : Bp} (h : okB w b) : pbB b = pbW w b.known b.sups b.reqs := by
 unfold pbB pbW
 rw [h.2.2.1.1]
 rfl
theorem feasW_sub {w : Wd} {known : Int} {s : List Sp} {r r' : List Rq} (hs : SubInj r' r) (h : Feas (pbW w known s r)) : Feas (pbW w known s r') := by
 obtain ⟨f, h1, h2⟩ := hs
 refine Feas.inj (p := pbW w known s r) f (by simp [pbW, pbOf]) (fun j hj => ?_) (fun i j hi hj => h2 i j (by simpa [pbW, pbOf, amR] using hi) (by simpa [pbW, pbOf, amR] using hj)) (fun k hk j hj hf => ?_) (fun k hk => Int.le_refl _) (fun j hj => ?_) h
 ·have := (h1 j (by simpa [pbW, pbOf, amR] using hj)).1
  simpa [pbW, pbOf, amR] using this
 ·simp only [pbW, pbOf, amS, amR, List.length_map] at hk hj hf ⊢
  obtain ⟨x, hx⟩ := get_of_lt hk
  obtain ⟨y, hy⟩ := get_of_lt hj
  have e := (h1 j hj).2
  rw [hy] at e
  rw [fitsT_get hx e] at hf
  rw [fitsT_get hx hy]
  exact hf
 ·simp only [pbW, pbOf, amR, List.length_map] at hj ⊢
  have e := (h1 j hj).2
  simp only [List.getD_eq_getElem?_getD, List.getElem?_map, ← e]
theorem feasW_nil (w : Wd) (known : Int) (s : List Sp) (hs : ∀ x ∈ s, okSp x) : Feas (pbW w known s []) := by
 refine feas_part.2 ⟨fun _ _ => 0, fun k hk b hb => Int.le_refl _, fun k hk b hb h => absurd rfl h, fun k hk => ?_, fun b hb => ?_⟩
 ·obtain ⟨x, hx⟩ := get_of_lt (xs := s) (i := k) (by simpa [pbW, pbOf, amS] using hk)
  have := (hs x (List.mem_of_getElem? hx)).2.2.2.2.2.1
  show (0 : Int) ≤ (amS s).getD k 0
  simp [amS, List.getD_eq_getElem?_getD, hx, this]
 ·simp [pbW, pbOf, amR] at hb
theorem okT_sub {s : List Sp} {r r' : List Rq} (hs : SubInj r' r) (hl : r'.length ≤ 64) (h : okT s r) : okT s r' := by
 refine ⟨⟨h.1.1, hl⟩, h.2.1, fun x hx => ?_⟩
 obtain ⟨j, hj, rfl⟩ := List.getElem_of_mem hx
 obtain ⟨f, h1, -⟩ := hs
 have := (h1 j hj).2
 rw [List.getElem?_eq_getElem hj] at this
 exact h.2.2 _ (List.mem_of_getElem? this)
theorem okT_app {s : List Sp} {r : List Rq} {x : Rq} (h : okT s r) : okT s (r ++ [x]) ↔ okRq x ∧ r.length + 1 ≤ 64 := by
 constructor
 ·intro h2
  exact ⟨h2.2.2 x (by simp), by simpa using h2.1.2⟩
 ·rintro ⟨h1, h2⟩
  exact ⟨⟨h.1.1, by simpa using h2⟩, h.2.1, fun y hy => by
   rcases List.mem_append.1 hy with h3 | h3
   ·exact h.2.2 y h3
   ·simp at h3; subst h3; exact h1⟩
theorem okB_mk {w : Wd} {b : Bp} {r : List Rq} (hn : (r.map (·.no)).Nodup) (hs : (b.sups.map (·.no)).Nodup) (ht : okT b.sups r) (hf : Feas (pbW w b.known b.sups r)) : okB w (mkF w b r) := ⟨⟨hn, hs⟩, ht, ⟨rfl, rfl⟩, hf⟩
theorem okB_new {w : Wd} {known : Int} {s : List Sp} (ht : okT s []) (hs : (s.map (·.no)).Nodup) : okB w (mkF w ⟨known, s, [], [], []⟩ []) := okB_mk List.nodup_nil hs ht (feasW_nil w known s ht.2.1)
theorem okB_more {w : Wd} {b : Bp} {r : Rq} (h : okB w b) (hno : r.no ∉ b.reqs.map (·.no)) (hr : okRq r) (hl : b.reqs.length + 1 ≤ 64) (hf : Feas (pbW w b.known b.sups (b.reqs ++ [r]))) : okB w (more w b r) := by
 refine okB_mk ?_ h.1.2 ((okT_app h.2.1).2 ⟨hr, hl⟩) hf
 rw [List.map_append, List.nodup_append]
 refine ⟨h.1.1, by simp, fun x hx y hy => ?_⟩
 simp at hy
 subst hy
 exact fun e => hno (e ▸ hx)
theorem okB_sub {w : Wd} {b : Bp} {r : List Rq} (h : okB w b) (hs : r.Sublist b.reqs) : okB w (mkF w b r) := by
 have hl := hs.length_le
 have h64 := h.2.1.1.2
 refine okB_mk (h.1.1.sublist (hs.map _)) h.1.2 (okT_sub (SubInj.sub hs) (by omega) h.2.1) (feasW_sub (SubInj.sub hs) ?_)
 rw [← h.pb]
 exact h.2.2.2
end Go.Proofs.YtmikfjcdgkopkaaGreat

/-
 Matching: the contract of Flow.
 Conditions: none.
-/
namespace Go.Proofs.YtmikfjcdgkopkaaGreat
open Go Bf
attribute [local irreducible] Tr Exec Stab HasTy Go.Addr.add IntKind.wrap
set_option maxHeartbeats 8000000 in
set_option maxRecDepth 20000 in
theorem flow_fn (M : Mem) (A0 A1 A2 : Option Addr) (c0 c1 c2 : Nat) (fits : List (List Bool)) (sup need : List Int) (hf : Fits2 M (.slice A0 fits.length c0) fits) (hs : Ints M (.slice A1 sup.length c1) sup) (hn : Ints M (.slice A2 need.length c2) need) (rs : I64s sup) (rn : I64s need) :
  Fn0 Tryz.prog 25 [.slice A0 fits.length c0, .slice A1 sup.length c1, .slice A2 need.length c2] M (fun r M' => FlowR fits sup need r M') := by
 refine Fn.intro Tryz.func25 rfl rfl Tryz.ntmps25 rfl fun E F => ?_
 repeat (first | ((with_reducible refine Tr.step rfl ?_); (first | (refine xmQ ?_) | (refine xaQ ?_))) | (with_reducible first | apply Tr.next | apply Tr.seq | apply Tr.region | apply Tr.nil))
 ((refine Tr.step rfl ?_)); refine Exec.call0 rfl (valid_fn M A0 A1 A2 c0 c1 c2 fits sup need hf hs hn rs rn) rfl ?_
 rintro _ _ _ ⟨rfl, rfl⟩
 cases hvv : validF fits sup need
 ·refine rQ ?_
  (refine dnQ (hL := by exact ⟨[], rfl⟩) ⟨rfl, ?_⟩)
  exact .inl ⟨hvv, rfl⟩
 have hv := vld_iff.1 hvv
 have l1 := hv.ls
 have l2 := hv.ln
 have l3 := hv.lf
 refine rQ ?_
 ((refine Tr.step rfl ?_))
 refine Exec.call (A := []) rfl (begin_fn M A0 fits.length c0 A1 A2 c1 c2 sup need hs hn hv.ls hv.ln) (List.Perm.refl _) rfl ?_
 rintro _ _ _ _ ⟨o, rws0, rfl, ho, ho1, ho2, hrw, rfl, rfl⟩
 repeat (first | ((with_reducible refine Tr.step rfl ?_); (first | (refine xmQ ?_) | (refine xaQ ?_))) | (with_reducible first | apply Tr.next | apply Tr.seq | apply Tr.region | apply Tr.nil))
 ((refine Tr.step rfl ?_))
 refine Exec.call (A := stL o (need.length + 1) rws0 need (List.replicate 64 0) (List.replicate 65 0)) rfl (fill_fn M o A0 c0 fits sup need hv hf ho ho1 ho2 _ rws0 need _ _ (begin_shape hrw) rfl (begin_flow hv hrw) (by simp) (by simp)) (List.Perm.refl _) rfl ?_
 rintro _ _ _ _ ⟨rfl, rws, lack, tk, gv, rfl, hsh, hll, ltk, lgv, hfi⟩
 generalize rws0.map (·.1) = bs at hsh
 have hlk := lack_rng hv hll hfi.1
 have hL := hfi.isLack
 have hL0 := hL.zero hv.sup0 hv.need0
 have hls := sumN_list lack
 rw [hll] at hls
 rw [← hls] at hL hL0
 have r1 := sum_rng (by omega) hlk
 simp only [stL, List.cons_append, List.nil_append]
 refine rQ ?_
 refine own_cap o.Al (by repeat (first | exact Has.here | apply Has.there)) (fun hA1 hA2 => ?_)
 ((refine Tr.step rfl ?_))
 refine Exec.call (A := [ownS 3 1 o.Al lack.length o.cl (intV lack)]) (F := box o.sb 125 _ :: ownS 32 1 o.Am _ _ _ :: rowsR rws :: F) rfl (sum_fn M [ownS 3 1 o.Al lack.length o.cl (intV lack)] o.Al o.cl lack hA1 (fun h => by
  cases hAl : o.Al with
  | none => exact absurd (List.eq_nil_of_length_eq_zero (hA2 hAl)) h
  | some a => rfl) (Src.own .here) (small_of (by omega) hlk)) (List.perm_middle (l₁ := [_, _, _])).symm rfl ?_
 rintro _ _ _ _ ⟨rfl, rfl, rfl⟩
 by_cases hs0 : 0 < lack.sum
 ·repeat (first | ((with_reducible refine Tr.step rfl ?_); (first | (refine xmQ ?_) | (refine xiQ ?_))) | (with_reducible first | apply Tr.next | apply Tr.seq | apply Tr.region | apply Tr.nil) | (refine Tr.cond_t rfl (by (with_reducible assumption)) ?_))
  ((refine Tr.step rfl ?_)); refine Exec.call0 rfl (cutOf_fn M A0 A1 A2 c0 c1 c2 fits sup need hf hs hn hv) rfl ?_
  rintro _ M2 hm2 ⟨B, k, rfl, hI⟩
  repeat (first | ((with_reducible refine Tr.step rfl ?_); ((refine xaQ ?_))) | (with_reducible first | apply Tr.next | apply Tr.nil | apply Tr.ret | apply Tr.then_ret))
  (refine dnQ (hL := by exact ⟨[_, _, _, _], rfl⟩) ⟨rfl, ?_⟩)
  exact .inr (.inl ⟨hv, fun h => by have := hL0.2 h; omega, B, k, rfl, hI⟩)
 have hz : lack.sum = 0 := by omega
 have hfl : Bf.Flow (pbOf fits sup need) (amt rws) fun _ => 0 := hfi.1.zero (hls.symm.trans hz)
 refine rQ ?_
 simp only [List.cons_append, List.nil_append]
 refine ftQ (r := rowsR _) ?_
 refine ftQ (r := ownS 32 1 _ _ _ _) ?_
 refine ftQ (r := box o.sb 125 _) ?_
 refine Tr.own_nil 32 1 ?_
 refine Tr.loop (α := Nat × List (Nat × List Int) × List Int × List Int × Mem × Option Addr × Nat × List Value) (fun y => ⟨72, [(36, .int .i64 (y.1 : Int)), (35, .int .i64 (sup.length : Int)), (6, .slice y.2.2.2.2.2.1 y.1 y.2.2.2.2.2.2.1), (10, .pointer (some ⟨o.sb, 0, none⟩)), (0, .slice A0 fits.length c0), (2, .slice A2 need.length c2)], [], y.2.2.2.2.1, ownS 32 1 y.2.2.2.2.2.1 y.1 y.2.2.2.2.2.2.1 y.2.2.2.2.2.2.2 :: (stL o (need.length + 1) y.2.1 lack y.2.2.1 y.2.2.2.1 ++ F)⟩)
  (fun y => y.1 ≤ sup.length ∧ Shape sup.length need.length bs y.2.1 ∧ y.2.2.1.length = 64 ∧ y.2.2.2.1.length = 65 ∧ (Bf.Flow (pbOf fits sup need) (amt y.2.1) fun _ => 0) ∧ LexTo (pbOf fits sup need) (amt y.2.1) y.1 0 ∧ Mem.le M y.2.2.2.2.1 ∧ y.2.2.2.2.2.2.1 ≤ 9223372036854775807 ∧ Elems 1 RRowI y.2.2.2.2.1 y.2.2.2.2.2.2.2 (allocOf (amt y.2.1) need.length y.1)) (fun y => sup.length - y.1) (0, rws, tk, gv, M, none, 0, []) ⟨Nat.zero_le _, hsh, ltk, lgv, hfl, LexTo.start _ _, Mem.le.refl _, by simp, Elems.nil⟩ hsQ (fun y hy => ?_)
 clear hsh ltk lgv hfl hfi hL hL0 hls hs0
 clear rws tk gv
 obtain ⟨i, rws, tk, gv, M1, A6, c6, cells⟩ := y
 obtain ⟨hi, hsh, ltk, lgv, hfl, hlex, hM, hc6, hel⟩ := hy
 simp only at hi hsh ltk lgv hfl hlex hM hc6 hel
 dsimp only
 have hcl : cells.length = i := by have := hel.1; simpa using this
 simp only [stL, List.cons_append, List.nil_append]
 by_cases hin : i < sup.length
 rotate_left
 ·have ei : i = sup.length := by omega
  subst ei
  refine rQ ?_
  refine pbQ (r := ownS 32 1 A6 _ _ _) (fun M2 hm2 hok => ?_)
  have hfin := hM.trans hm2
  have hI : Ints2 M2 (.slice A6 (allocOf (amt rws) need.length sup.length).length c6) (allocOf (amt rws) need.length sup.length) := SlOf.ofOwn hok (by simp) hc6 (hel.mono RRowI.mono hm2)
  (refine dnQ (hL := by exact ⟨[_, _, _, _], rfl⟩) ⟨rfl, ?_⟩)
  exact .inr (.inr ⟨hv, amt rws, LexTo.max hlex hfl, A6, c6, by simp only [allocOf_length]; rfl, hI⟩)
 obtain ⟨frow, hfr⟩ := get_of_lt (xs := fits) (i := i) (by omega)
 have hfrl := hv.rows frow (List.mem_of_getElem? hfr)
 have hf1 : Fits2 M1 (.slice A0 fits.length c0) fits := hf.mono RRowB.mono hM
 obtain ⟨hA0, fch, fat, fB, fk, rfl, hfB⟩ := hf1.elem hfr
 refine rQ ?_
 refine Tr.loop (α := Nat × List (Nat × List Int) × List Int × List Int) (fun y => ⟨72, [(41, .int .i64 (y.1 : Int)), (40, .int .i64 (need.length : Int)), (11, .int .i64 (i : Int)), (36, .int .i64 (i : Int)), (35, .int .i64 (sup.length : Int)), (6, .slice A6 i c6), (10, .pointer (some ⟨o.sb, 0, none⟩)), (0, .slice A0 fits.length c0), (2, .slice A2 need.length c2)], [], M1, ownS 32 1 A6 i c6 cells :: (stL o (need.length + 1) y.2.1 lack y.2.2.1 y.2.2.2 ++ F)⟩)
  (fun y => y.1 ≤ need.length ∧ Shape sup.length need.length bs y.2.1 ∧ y.2.2.1.length = 64 ∧ y.2.2.2.length = 65 ∧ (Bf.Flow (pbOf fits sup need) (amt y.2.1) fun _ => 0) ∧ LexTo (pbOf fits sup need) (amt y.2.1) i y.1 ∧ Elems 1 RRowI M1 cells (allocOf (amt y.2.1) need.length i)) (fun y => need.length - y.1) (0, rws, tk, gv) ⟨Nat.zero_le _, hsh, ltk, lgv, hfl, hlex, hel⟩ hsQ (fun y hy => ?_)
 clear hsh ltk lgv hfl hlex hel
 obtain ⟨j, rws, tk, gv⟩ := y
 obtain ⟨hj, hsh, ltk, lgv, hfl, hlex, hel⟩ := hy
 simp only at hj hsh ltk lgv hfl hlex hel
 dsimp only
 simp only [stL, List.cons_append, List.nil_append]
 by_cases hjn : j < need.length
 ·obtain ⟨x, hx⟩ := get_of_lt (xs := frow) (i := j) (by omega)
  obtain ⟨hA, hat⟩ := hfB.at hx
  have hfx : (fits.getD i []).getD j false = x := by rw [getD_of (d := []) hfr, getD_of (d := false) hx]
  cases x
  ·refine rQ ?_
   refine Tr.again (j + 1, rws, tk, gv) ⟨by simp only; omega, hsh, ltk, lgv, hfl, hlex.skip hfl hin hjn hfx, hel⟩ (by simp only; omega) hsQ
  ·refine rQ ?_
   ((refine Tr.step rfl ?_))
   refine Exec.call (A := stL o (need.length + 1) rws lack tk gv) (F := ownS 32 1 A6 i c6 cells :: F) rfl (raise_fn M1 o A0 c0 fits sup need hv hf1 ho ho1 ho2 bs rws lack tk gv hsh hll hfl ltk lgv i j hin hjn hfx) (List.perm_middle (l₁ := [_, _, _, _])) rfl ?_
   rintro _ _ _ _ ⟨rfl, rws', tk', gv', rfl, hsh', ltk', lgv', hra, htop⟩
   have hco : allocOf (amt rws') need.length i = allocOf (amt rws) need.length i := allocOf_congr fun k hk c _ => by rw [hra.2.1 k hk]
   repeat (first | ((with_reducible refine Tr.step rfl ?_); (first | (refine xmQ ?_) | (refine xdQ ?_))) | (with_reducible first | apply Tr.next | apply Tr.region | apply Tr.nil | apply Tr.in_normal))
   refine ftQ (r := ownS 32 1 A6 _ _ _) ?_
   refine Tr.again (j + 1, rws', tk', gv') ⟨by simp only; omega, hsh', ltk', lgv', hra.1, hlex.step hra htop hin hjn, by simp only [hco]; exact hel⟩ (by simp only; omega) hsQ
 have ej : j = need.length := by omega
 subst ej
 obtain ⟨⟨bi, row⟩, hr0⟩ := get_of_lt (xs := rws) (i := i) (by rw [hsh.n]; exact hin)
 have hrl : row.length = need.length + 1 := hsh.row _ (List.mem_of_getElem? hr0)
 have hp' : (ptrV (need.length + 1) rws)[i]? = some (.slice (some ⟨bi, 0, none⟩) (need.length + 1) (need.length + 1)) := by simp [ptrV, hr0]
 have hn' := hsh.n
 refine Tr.own_some o.Am (by repeat (first | exact Has.here | apply Has.there)) (by omega) (fun hAm => ?_)
 unfold rowsR
 refine Tr.many_out (by repeat (first | exact Del.here | apply Del.there)) (rows_get hr0) ?_
 repeat (first | ((with_reducible refine Tr.step rfl ?_); (first | (refine xmQ ?_) | ((with_reducible refine Knd.load ?_); (first | (refine xlQ ?_) | (refine Exec.stab rfl (Stab.loadO rfl (tysOk.get rfl) rfl (by repeat (first | exact Has.here | apply Has.there)) (by assumption)) rfl ?_))) | (refine xfQ ?_) | (refine xnQ ?_) | ((with_reducible refine Knd.nilCheck ?_); (refine Exec.stab rfl (Stab.nilCheck rfl) rfl ?_)) | (refine xiQ ?_) | (refine xxQ ?_) | ((with_reducible refine Knd.slice ?_); ((refine Exec.stab rfl (Stab.slice_h rfl rfl (tysOk.get rfl) rfl (tysOk.get rfl) (by omega) (by omega)) rfl ?_))))) | (with_reducible first | apply Tr.next | apply Tr.seq | apply Tr.region | apply Tr.nil | apply Tr.exit | apply Tr.then_exit) | ((with_reducible refine Tr.in_exit ?_ ?_); (exact rfl)) | (refine Tr.cond_f rfl (by first | (with_reducible assumption) | omega) ?_))
 rw [show ((need.length : Int)).toNat = (row.take need.length).length by simp; omega]
 have htk : row.take need.length = rowOf (amt rws) need.length i := row_take hr0 hrl
 have htl : (row.take need.length).length = need.length := by simp; omega
 have hcln := clone_lend M1 bi need.length row hrl l2
 ((refine Tr.step rfl ?_))
 refine Exec.call (A := [box bi 3 (intV row)]) rfl hcln (List.Perm.refl _) rfl ?_
 rintro _ _ _ _ ⟨A1, rfl, rfl, B, k, rfl, hk, rfl⟩
 simp only [List.cons_append, List.nil_append]
 refine pbQ (r := ownS 3 1 B _ _ _) (fun M2 hm2 hok => ?_)
 have hI : Ints M2 (.slice B (row.take need.length).length k) (row.take need.length) := Ints.ofOwn hok rfl hk
 refine Tr.many_in (rows_get hr0) ?_
 rw [rows_set, set_same hr0]
 refine ftQ (r := ownS 32 1 o.Am _ _ _) ?_
 refine ftQ (r := box o.sb 125 _) ?_
 repeat (((with_reducible refine Tr.step rfl ?_); (((with_reducible refine Knd.buildSlice ?_); ((refine Exec.buildSlice (tysOk.get rfl) rfl (tysOk.get rfl) rfl rfl rfl rfl rfl (by repeat (first | exact BuildP.nil | ((apply BuildP.one); (rfl); (rfl); (first | rfl | assumption); (repeat (first | exact SetL.z | apply SetL.s))))) rfl (fun b => ?_)))))))
 refine Tr.cells (cs' := [.slice B (row.take need.length).length k]) (by repeat (first | exact Upd.here | apply Upd.there)) rfl ?_
 ((refine Tr.step rfl ?_))
 refine Exec.append (A := A6) (news := [.slice B (row.take need.length).length k]) rfl rfl (tysOk.get rfl) rfl (tysOk.get rfl) rfl rfl rfl rfl (by repeat (first | exact Del.here | apply Del.there)) (Src.box (by repeat (first | exact Has.here | apply Has.there))) rfl (by intro u hu; simp at hu; subst hu; rfl) (by omega) (by omega) rfl (fun A7 c7 hc7 => ?_)
 have hel2 : Elems 1 RRowI M2 (cells ++ [.slice B (row.take need.length).length k]) (allocOf (amt rws) need.length (i + 1)) := by
  rw [allocOf_succ, ← htk]
  exact (hel.mono RRowI.mono hm2).append (Elems.one rfl ⟨B, k, rfl, hI⟩)
 repeat (first | ((with_reducible refine Tr.step rfl ?_); (first | (refine xmQ ?_) | (refine xaQ ?_) | (refine xdQ ?_))) | (with_reducible first | apply Tr.next | apply Tr.region | apply Tr.nil | apply Tr.in_normal))
 refine gvQ (r := box _ 32 [_]) ?_

 refine Tr.again (i + 1, rws, tk, gv, M2, A7, c7, cells ++ [.slice B (row.take need.length).length k]) ⟨by simp only; omega, hsh, ltk, lgv, hfl, hlex.row (Nat.le_refl _), hM.trans hm2, hc7, hel2⟩ (by simp only; omega) hsQ
end Go.Proofs.YtmikfjcdgkopkaaGreat

/-
 Promises: require, must, twins, amounts and possible.
 Conditions: none.
-/
namespace Go.Proofs.YtmikfjcdgkopkaaGreat
open Go Bf
attribute [local irreducible] Tr Exec Stab HasTy Go.Addr.add IntKind.wrap
def RBp (M : Mem) (v : Value) (k : Bp) : Prop := ∃ As cs Ar cr Af cf Ad cd, v = .agg #[.int .i64 k.known, .slice As k.sups.length cs, .slice Ar k.reqs.length cr, .slice Af k.fits.length cf, .slice Ad k.rds.length cd] ∧
 SlOf 6 RSpC M (.slice As k.sups.length cs) k.sups ∧ SlOf 6 RRqC M (.slice Ar k.reqs.length cr) k.reqs ∧ Fits2 M (.slice Af k.fits.length cf) k.fits ∧ SlOf 5 RRd M (.slice Ad k.rds.length cd) k.rds
theorem RBp.mono {M M' : Mem} {v : Value} {k : Bp} (h : RBp M v k) (hm : Mem.le M M') : RBp M' v k := by
 obtain ⟨As, cs, Ar, cr, Af, cf, Ad, cd, rfl, h1, h2, h3, h4⟩ := h
 exact ⟨As, cs, Ar, cr, Af, cf, Ad, cd, rfl, h1.mono RSpC.mono hm, h2.mono RRqC.mono hm, h3.mono RRowB.mono hm, h4.mono RRd.mono hm⟩
theorem RBp.zero (M : Mem) : RBp M (.agg #[.int .i64 0, .slice none 0 0, .slice none 0 0, .slice none 0 0, .slice none 0 0]) zP := ⟨none, 0, none, 0, none, 0, none, 0, rfl, SlOf.nil _ _ _, SlOf.nil _ _ _, SlOf.nil _ _ _, SlOf.nil _ _ _⟩
def prCh (e : Int) : List PanicEntry := [{ v := .iface 49 (.int .i64 e), recovered := false }]
theorem prequire_y (M : Mem) : Fn0 Tryz.prog 60 [.bool true] M (fun _ M' => M = M') := by
 refine Fn.intro Tryz.func60 rfl rfl Tryz.ntmps60 rfl fun E F => ?_
 (refine rQ ?_)
 (refine Tr.done (by first | exact .inl rfl | exact .inr rfl) rfl (by repeat (exact RVs.nil)) (by first | exact Mem.le.refl _ | assumption) (by exact ⟨[], rfl⟩) ⟨rfl, ?_⟩)
 rfl
theorem prequire_n (M : Mem) : FnP Tryz.prog 60 [.bool false] M [] (fun _ _ _ => False) (fun ch M' A' => ch = prCh 310 ∧ A' = [] ∧ M = M') := by
 refine FnP.intro Tryz.func60 rfl rfl Tryz.ntmps60 rfl fun E F => ?_
 (repeat (first | ((with_reducible refine Tr.step rfl ?_); (first | (refine xmQ ?_) | ((with_reducible refine Knd.makeInterface ?_); (refine Exec.stab rfl (Stab.makeIface rfl (by kernel_rfl)) rfl ?_)) | ((with_reducible refine Knd.panic ?_); (refine Exec.panic rfl ?_)) | ((with_reducible refine Knd.unOp ?_); (refine Exec.stab rfl (Stab.not rfl) rfl ?_)))) | (with_reducible first | apply Tr.next | apply Tr.seq | apply Tr.region | apply Tr.nil) | (refine Tr.cond_bt rfl (by first | (with_reducible rfl) | (with_reducible exact Bool.not_false)) ?_)))
 exact Tr.doneP (A' := []) (Mem.le.refl _) (by repeat (first | exact DropL.refl | apply DropL.skip)) ⟨rfl, rfl, rfl⟩
theorem must_y (M : Mem) : Fn0 Tryz.prog 53 [.int .i64 0] M (fun _ M' => M = M') := by
 refine Fn.intro Tryz.func53 rfl rfl Tryz.ntmps53 rfl fun E F => ?_
 (repeat (first | ((with_reducible refine Tr.step rfl ?_); (first | (refine xmQ ?_) | (refine xiQ ?_))) | (with_reducible first | apply Tr.next | apply Tr.seq | apply Tr.region | apply Tr.nil | apply Tr.skip) | (refine Tr.cond_f rfl (by (with_reducible exact (not_not_intro rfl))) ?_)))
 (refine Tr.done (by first | exact .inl rfl | exact .inr rfl) rfl (by repeat (exact RVs.nil)) (by first | exact Mem.le.refl _ | assumption) (by exact ⟨[], rfl⟩) ⟨rfl, ?_⟩)
 rfl
theorem must_n (M : Mem) (e : Int) (he : e ≠ 0) : FnP Tryz.prog 53 [.int .i64 e] M [] (fun _ _ _ => False) (fun ch M' A' => ch = prCh e ∧ A' = [] ∧ M = M') := by
 refine FnP.intro Tryz.func53 rfl rfl Tryz.ntmps53 rfl fun E F => ?_
 (repeat (first | ((with_reducible refine Tr.step rfl ?_); (first | (refine xmQ ?_) | ((with_reducible refine Knd.makeInterface ?_); (refine Exec.stab rfl (Stab.makeIface rfl (by kernel_rfl)) rfl ?_)) | ((with_reducible refine Knd.panic ?_); (refine Exec.panic rfl ?_)) | (refine xiQ ?_))) | (with_reducible first | apply Tr.next | apply Tr.seq | apply Tr.region | apply Tr.nil) | (refine Tr.cond_t rfl (by (with_reducible assumption)) ?_)))
 exact Tr.doneP (A' := []) (Mem.le.refl _) (by repeat (first | exact DropL.refl | apply DropL.skip)) ⟨rfl, rfl, rfl⟩
def Nums (es : List MapEntry) (l : List Int) : Prop := IntKeys es ∧ (∀ k, (valE k es).isSome = true ↔ k ∈ l) ∧ es.length ≤ l.length ∧ (es.length = l.length ↔ l.Nodup)
theorem Nums.nil : Nums [] [] := ⟨IntKeys.nil, fun k => by simp [valE, lookE], by simp, by simp⟩
theorem Nums.add {es : List MapEntry} {l : List Int} (h : Nums es l) (x : Int) (v : Value) (cl : Nat) : Nums (updE x v es cl).1 (l ++ [x]) := by
 obtain ⟨h1, h2, h3, h4⟩ := h
 refine ⟨updE_keys h1, fun k => ?_, ?_, ?_⟩
 ·rw [updE_val]
  by_cases e : k = x
  ·subst e; simp
  ·simp [e, h2 k]
 ·rw [updE_len]
  split <;> simp <;> omega
 ·rw [updE_len]
  by_cases hx : x ∈ l
  ·rw [if_pos ((h2 x).2 hx)]
   constructor
   ·intro h; simp at h; omega
   ·intro h
    rw [List.nodup_append] at h
    exact absurd rfl (h.2.2 x hx x (by simp))
  ·rw [if_neg (fun h => hx ((h2 x).1 h))]
   constructor
   ·intro h
    have h5 := h4.1 (by simpa using h)
    rw [List.nodup_append]
    exact ⟨h5, by simp, fun a ha b hb => by simp at hb; subst hb; exact fun e => hx (e ▸ ha)⟩
   ·intro h
    have := h4.2 (List.nodup_append.1 h).1
    simp [this]
theorem nums_take {α : Type} (f : α → Int) {l : List α} {i : Nat} {x : α} (h : l[i]? = some x) : (l.take (i + 1)).map f = (l.take i).map f ++ [f x] := by
 rw [List.take_add_one, h, List.map_append]; rfl
set_option maxHeartbeats 4000000 in
theorem twins_fn (M : Mem) (A : Option Addr) (c : Nat) (l : List Sp) (hl : SlOf 6 RSpC M (.slice A l.length c) l) : Fn0 Tryz.prog 34 [.slice A l.length c] M (fun r M' => (∃ b : Bool, r = .bool b ∧ (b = false ↔ (l.map (·.no)).Nodup)) ∧ M = M') := by
 have hll := hl.len_le
 refine Fn.intro Tryz.func34 rfl rfl Tryz.ntmps34 rfl fun E F => ?_
 (repeat (first | ((with_reducible refine Tr.step rfl ?_); (first | (refine xmQ ?_) | (refine xaQ ?_) | (refine xnQ ?_) | ((with_reducible refine Knd.makeMap ?_); (refine Exec.makeMap rfl (fun b => ?_))))) | (with_reducible first | apply Tr.next | apply Tr.seq | apply Tr.region | apply Tr.nil | apply Tr.block)))
 generalize b = mb
 refine Tr.loop (α := Nat × List MapEntry × Nat) (fun y => ⟨22, [(9, .int .i64 (y.1 : Int)), (8, .int .i64 (l.length : Int)), (7, .slice A l.length c), (3, .map (some mb)), (0, .slice A l.length c)], [], M, mapR mb y.2.1 y.2.2 :: F⟩)
  (fun y => y.1 ≤ l.length ∧ Nums y.2.1 ((l.take y.1).map (·.no))) (fun y => l.length - y.1) (0, [], 0) ⟨Nat.zero_le _, Nums.nil⟩ hsQ (fun y hy => ?_)
 obtain ⟨i, es, cl⟩ := y
 obtain ⟨hi, hn⟩ := hy
 simp only at hi hn
 dsimp only
 by_cases hlt : i < l.length
 ·obtain ⟨x, hx⟩ := get_of_lt hlt
  obtain ⟨hA, ch, hat, rfl⟩ := hl.elem hx
  simp only [spC] at hat
  have hkeys := hn.1
  (repeat (first | ((with_reducible refine Tr.step rfl ?_); (first | (refine xmQ ?_) | ((with_reducible refine Knd.load ?_); (first | (refine xlQ ?_) | (refine Exec.stab rfl (Stab.loadMA rfl (tysOk.get rfl) rfl (by assumption) (by first | rfl | assumption)) rfl ?_))) | (refine xfQ ?_) | ((with_reducible refine Knd.binOp ?_); (first | (refine xdQ ?_) | (refine xiQ ?_))) | (refine xWQ ?_) | ((with_reducible refine Knd.alloc ?_); (refine Exec.alloc (tysOk.get rfl) rfl rfl (fun b => ?_))) | ((with_reducible refine Knd.mapUpdate ?_); (refine Exec.mapUpdate rfl rfl rfl (tysOk.get rfl) rfl (tysOk.get rfl) rfl (by assumption) (by repeat (first | exact Upd.here | apply Upd.there)) ?_)) | (refine xxQ ?_))) | (with_reducible first | apply Tr.next | apply Tr.seq | apply Tr.region | apply Tr.nil | apply Tr.skip | apply Tr.block | apply Tr.in_normal) | (refine Tr.cond_t rfl (by first | (with_reducible assumption) | omega) ?_)))
  refine Tr.again (i + 1, (updE x.no (.bool true) es cl).1, (updE x.no (.bool true) es cl).2) ⟨by simp only; omega, ?_⟩ (by simp only; omega) hsQ
  simp only
  rw [nums_take (·.no) hx]
  exact hn.add _ _ _
 ·have ei : i = l.length := by omega
  subst ei
  rw [List.take_length] at hn
  obtain ⟨-, -, n1, n2⟩ := hn
  rw [List.length_map] at n1 n2
  by_cases hb : es.length < l.length
  ·(repeat (first | ((with_reducible refine Tr.step rfl ?_); (first | (refine xmQ ?_) | (refine xaQ ?_) | ((with_reducible refine Knd.len ?_); (first | (refine xnQ ?_) | (refine Exec.stab rfl (Stab.lenMap rfl (tysOk.get rfl) rfl (by repeat (first | exact Has.here | apply Has.there))) rfl ?_))) | (refine xiQ ?_))) | (with_reducible first | apply Tr.next | apply Tr.seq | apply Tr.region | apply Tr.nil | apply Tr.exit | apply Tr.ret | apply Tr.then_exit) | ((with_reducible refine Tr.in_exit ?_ ?_); (exact rfl)) | (refine Tr.cond_f rfl (by first | (with_reducible assumption) | omega) ?_)))
   (refine dnQ (hL := by exact ⟨[_], rfl⟩) ⟨rfl, ?_⟩)
   exact ⟨⟨true, by rw [decide_eq_true (by omega)]; rfl, by simp only [Bool.true_eq_false, false_iff, ← n2]; omega⟩, rfl⟩
  ·(repeat (first | ((with_reducible refine Tr.step rfl ?_); (first | (refine xmQ ?_) | (refine xaQ ?_) | ((with_reducible refine Knd.len ?_); (first | (refine xnQ ?_) | (refine Exec.stab rfl (Stab.lenMap rfl (tysOk.get rfl) rfl (by repeat (first | exact Has.here | apply Has.there))) rfl ?_))) | (refine xiQ ?_))) | (with_reducible first | apply Tr.next | apply Tr.seq | apply Tr.region | apply Tr.nil | apply Tr.exit | apply Tr.ret | apply Tr.then_exit) | ((with_reducible refine Tr.in_exit ?_ ?_); (exact rfl)) | (refine Tr.cond_f rfl (by first | (with_reducible assumption) | omega) ?_)))
   (refine dnQ (hL := by exact ⟨[_], rfl⟩) ⟨rfl, ?_⟩)
   exact ⟨⟨false, by rw [decide_eq_false (by omega)]; rfl, by simp only [true_iff, ← n2]; omega⟩, rfl⟩
set_option maxHeartbeats 8000000 in
theorem amounts_fn (M : Mem) (k : Bp) (As Ar Af Ad : Option Addr) (cs cr cf cd : Nat) (h1 : SlOf 6 RSpC M (.slice As k.sups.length cs) k.sups) (h2 : SlOf 6 RRqC M (.slice Ar k.reqs.length cr) k.reqs) (_ : Fits2 M (.slice Af k.fits.length cf) k.fits) (_ : SlOf 5 RRd M (.slice Ad k.rds.length cd) k.rds) (hs64 : k.sups.length ≤ 1000000) (hr64 : k.reqs.length ≤ 1000000) :
  Fn0 Tryz.prog 84 [.agg #[.int .i64 k.known, .slice As k.sups.length cs, .slice Ar k.reqs.length cr, .slice Af k.fits.length cf, .slice Ad k.rds.length cd]] M (fun r M' => ∃ A1 c1 A2 c2, r = .tuple #[.slice A1 (amS k.sups).length c1, .slice A2 (amR k.reqs).length c2] ∧ Ints M' (.slice A1 (amS k.sups).length c1) (amS k.sups) ∧ Ints M' (.slice A2 (amR k.reqs).length c2) (amR k.reqs)) := by
 refine Fn.intro Tryz.func84 rfl rfl Tryz.ntmps84 rfl fun E F => ?_
 (repeat (first | ((with_reducible refine Tr.step rfl ?_); (first | (refine xmQ ?_) | (refine xaQ ?_) | (refine xlQ ?_) | (refine xfQ ?_) | (refine xnQ ?_) | ((with_reducible refine Knd.box ?_); (refine Exec.box rfl rfl (fun b => ?_))))) | (with_reducible first | apply Tr.next | apply Tr.seq | apply Tr.region | apply Tr.nil | apply Tr.block)))
 generalize b = b1
 refine Tr.own_nil 3 1 ?_
 refine Tr.loop (α := Nat × Option Addr × Nat) (fun y => ⟨36, [(11, .int .i64 (y.1 : Int)), (10, .int .i64 (k.sups.length : Int)), (9, .slice As k.sups.length cs), (2, .slice y.2.1 y.1 y.2.2), (3, .slice none 0 0), (1, .pointer (some ⟨b1, 0, none⟩))], [], M, ownS 3 1 y.2.1 y.1 y.2.2 (intV ((k.sups.take y.1).map (·.amount))) :: box b1 44 [.int .i64 k.known, .slice As k.sups.length cs, .slice Ar k.reqs.length cr, .slice Af k.fits.length cf, .slice Ad k.rds.length cd] :: F⟩)
  (fun y => y.1 ≤ k.sups.length ∧ y.2.2 ≤ 9223372036854775807) (fun y => k.sups.length - y.1) (0, none, 0) ⟨Nat.zero_le _, by simp⟩ hsQ (fun y hy => ?_)
 obtain ⟨i, A1, c1⟩ := y
 obtain ⟨hi, hc1⟩ := hy
 simp only at hi hc1
 dsimp only
 by_cases hlt : i < k.sups.length
 ·obtain ⟨y, hy⟩ := get_of_lt hlt
  obtain ⟨hA, ch, hat, rfl⟩ := h1.elem hy
  simp only [spC] at hat
  have e1 := nums_take (·.amount) hy
  (repeat (first | ((with_reducible refine Tr.step rfl ?_); (first | (refine xmQ ?_) | ((with_reducible refine Knd.load ?_); (first | (refine xlQ ?_) | (refine Exec.stab rfl (Stab.loadMA rfl (tysOk.get rfl) rfl (by assumption) (by first | rfl | assumption)) rfl ?_))) | (refine xfQ ?_) | (refine xiQ ?_) | (refine xWQ ?_) | ((with_reducible refine Knd.alloc ?_); (refine Exec.alloc (tysOk.get rfl) rfl rfl (fun b => ?_))) | (refine xxQ ?_) | ((with_reducible refine Knd.buildSlice ?_); (refine Exec.buildSlice (tysOk.get rfl) rfl (tysOk.get rfl) rfl rfl rfl rfl rfl (by repeat (first | exact BuildP.nil | ((apply BuildP.one); (rfl); (rfl); (first | rfl | assumption); (repeat (first | exact SetL.z | apply SetL.s))))) rfl (fun b => ?_))))) | (with_reducible first | apply Tr.next | apply Tr.seq | apply Tr.region | apply Tr.nil | apply Tr.skip | apply Tr.block) | (refine Tr.cond_t rfl (by first | (with_reducible assumption) | omega) ?_)))
  ((refine Tr.step rfl ?_))
  refine Exec.append (news := [.int .i64 y.amount]) rfl rfl (tysOk.get rfl) rfl (tysOk.get rfl) rfl rfl rfl rfl (by repeat (first | exact Del.here | apply Del.there)) (Src.box (by repeat (first | exact Has.here | apply Has.there))) rfl (by intro u hu; simp at hu; subst hu; rfl) (by omega) (by omega) rfl (fun A3 c3 hc3 => ?_)
  refine gvQ (r := box b 3 _) ?_
  rw [show intV ((k.sups.take i).map (·.amount)) ++ [Value.int .i64 y.amount] = intV ((k.sups.take (i + 1)).map (·.amount)) by rw [e1, intV_append]; rfl]
  (repeat (first | ((with_reducible refine Tr.step rfl ?_); (first | (refine xmQ ?_) | (refine xaQ ?_) | (refine xdQ ?_))) | (with_reducible first | apply Tr.next | apply Tr.region | apply Tr.nil | apply Tr.in_normal)))
  refine gvQ (r := box _ 82 _) ?_
  exact Tr.again (i + 1, A3, c3) ⟨by simp only; omega, hc3⟩ (by simp only; omega) hsQ
 have ei : i = k.sups.length := by omega
 subst ei
 rw [List.take_length]
 (refine rQ ?_)
 refine Tr.own_nil 3 1 ?_
 refine Tr.loop (α := Nat × Option Addr × Nat) (fun y => ⟨36, [(24, .int .i64 (y.1 : Int)), (23, .int .i64 (k.reqs.length : Int)), (22, .slice Ar k.reqs.length cr), (3, .slice y.2.1 y.1 y.2.2), (2, .slice A1 k.sups.length c1), (1, .pointer (some ⟨b1, 0, none⟩))], [], M, ownS 3 1 y.2.1 y.1 y.2.2 (intV ((k.reqs.take y.1).map (·.amount))) :: ownS 3 1 A1 k.sups.length c1 (intV (k.sups.map (·.amount))) :: box b1 44 [.int .i64 k.known, .slice As k.sups.length cs, .slice Ar k.reqs.length cr, .slice Af k.fits.length cf, .slice Ad k.rds.length cd] :: F⟩)
  (fun y => y.1 ≤ k.reqs.length ∧ y.2.2 ≤ 9223372036854775807) (fun y => k.reqs.length - y.1) (0, none, 0) ⟨Nat.zero_le _, by simp⟩ hsQ (fun y hy => ?_)
 obtain ⟨i, A2, c2⟩ := y
 obtain ⟨hi, hc2⟩ := hy
 simp only at hi hc2
 dsimp only
 by_cases hlt : i < k.reqs.length
 ·obtain ⟨y, hy⟩ := get_of_lt hlt
  obtain ⟨hA, ch, hat, rfl⟩ := h2.elem hy
  simp only [rqC] at hat
  have e1 := nums_take (·.amount) hy
  (repeat (first | ((with_reducible refine Tr.step rfl ?_); (first | (refine xmQ ?_) | ((with_reducible refine Knd.load ?_); (first | (refine xlQ ?_) | (refine Exec.stab rfl (Stab.loadMA rfl (tysOk.get rfl) rfl (by assumption) (by first | rfl | assumption)) rfl ?_))) | (refine xfQ ?_) | (refine xiQ ?_) | (refine xWQ ?_) | ((with_reducible refine Knd.alloc ?_); (refine Exec.alloc (tysOk.get rfl) rfl rfl (fun b => ?_))) | (refine xxQ ?_) | ((with_reducible refine Knd.buildSlice ?_); (refine Exec.buildSlice (tysOk.get rfl) rfl (tysOk.get rfl) rfl rfl rfl rfl rfl (by repeat (first | exact BuildP.nil | ((apply BuildP.one); (rfl); (rfl); (first | rfl | assumption); (repeat (first | exact SetL.z | apply SetL.s))))) rfl (fun b => ?_))))) | (with_reducible first | apply Tr.next | apply Tr.seq | apply Tr.region | apply Tr.nil | apply Tr.skip | apply Tr.block) | (refine Tr.cond_t rfl (by first | (with_reducible assumption) | omega) ?_)))
  ((refine Tr.step rfl ?_))
  refine Exec.append (news := [.int .i64 y.amount]) rfl rfl (tysOk.get rfl) rfl (tysOk.get rfl) rfl rfl rfl rfl (by repeat (first | exact Del.here | apply Del.there)) (Src.box (by repeat (first | exact Has.here | apply Has.there))) rfl (by intro u hu; simp at hu; subst hu; rfl) (by omega) (by omega) rfl (fun A3 c3 hc3 => ?_)
  refine gvQ (r := box b 3 _) ?_
  rw [show intV ((k.reqs.take i).map (·.amount)) ++ [Value.int .i64 y.amount] = intV ((k.reqs.take (i + 1)).map (·.amount)) by rw [e1, intV_append]; rfl]
  (repeat (first | ((with_reducible refine Tr.step rfl ?_); (first | (refine xmQ ?_) | (refine xaQ ?_) | (refine xdQ ?_))) | (with_reducible first | apply Tr.next | apply Tr.region | apply Tr.nil | apply Tr.in_normal)))
  refine gvQ (r := box _ 46 _) ?_
  exact Tr.again (i + 1, A3, c3) ⟨by simp only; omega, hc3⟩ (by simp only; omega) hsQ
 have ei : i = k.reqs.length := by omega
 subst ei
 rw [List.take_length]
 refine pbQ (r := ownS 3 1 A2 _ _ _) (fun M2 hm2 hok => ?_)
 refine pbQ (r := ownS 3 1 A1 _ _ _) (fun M3 hm3 hok2 => ?_)
 have hI1 : Ints M3 (.slice A1 (amS k.sups).length c1) (amS k.sups) := Ints.ofOwn hok2 (by simp [amS]) hc1
 have hI2 : Ints M3 (.slice A2 (amR k.reqs).length c2) (amR k.reqs) := (Ints.ofOwn hok (by simp) hc2).mono RI.mono hm3
 have hmm := hm2.trans hm3
 rw [show k.sups.length = (amS k.sups).length by simp [amS], show k.reqs.length = (amR k.reqs).length by simp [amR]]
 (refine rQ ?_)
 (refine dnQ (hL := by exact ⟨[_], rfl⟩) ⟨rfl, ?_⟩)
 exact ⟨_, _, _, _, rfl, hI1, hI2⟩
theorem sum_take {l : List Int} {i : Nat} {x : Int} (h : l[i]? = some x) : (l.take (i + 1)).sum = (l.take i).sum + x := by
 rw [List.take_add_one, h, Option.toList_some, List.sum_append]
 simp
theorem sum_bound : ∀ {l : List Int} {n : Nat}, (∀ x ∈ l, 0 ≤ x ∧ x ≤ 1048576) → l.length ≤ n → 0 ≤ l.sum ∧ l.sum ≤ 1048576 * (n : Int)
 | [], n, _, _ => by simp; omega
 | x :: l, n, h, hn => by
  obtain ⟨n, rfl⟩ : ∃ m, n = m + 1 := ⟨n - 1, by simp at hn; omega⟩
  have h1 := sum_bound (l := l) (n := n) (fun y hy => h y (by simp [hy])) (by simpa using hn)
  have h2 := h x (by simp)
  rw [List.sum_cons]
  omega
set_option maxHeartbeats 8000000 in
theorem bpossible_fn0 (M : Mem) (k : Bp) (As Ar Af Ad : Option Addr) (cs cr cf cd : Nat) (h1 : SlOf 6 RSpC M (.slice As k.sups.length cs) k.sups) (h2 : SlOf 6 RRqC M (.slice Ar k.reqs.length cr) k.reqs) (h3 : Fits2 M (.slice Af k.fits.length cf) k.fits) (h4 : SlOf 5 RRd M (.slice Ad k.rds.length cd) k.rds) (hv : Vld k.fits (amS k.sups) (amR k.reqs)) :
  Fn0 Tryz.prog 54 [.agg #[.int .i64 k.known, .slice As k.sups.length cs, .slice Ar k.reqs.length cr, .slice Af k.fits.length cf, .slice Ad k.rds.length cd]] M (fun r _ => ∃ b : Bool, r = .bool b ∧ (b = true ↔ Feas (pbB k))) := by
 have v1 := hv.ls
 have v2 := hv.ln
 simp only [amS, amR, List.length_map] at v1 v2
 refine Fn.intro Tryz.func54 rfl rfl Tryz.ntmps54 rfl fun E F => ?_
 (repeat (first | ((with_reducible refine Tr.step rfl ?_); (first | (refine xaQ ?_) | (refine xwQ ?_) | ((with_reducible refine Knd.box ?_); (refine Exec.box rfl rfl (fun b => ?_))))) | (with_reducible first | apply Tr.next | apply Tr.seq | apply Tr.region | apply Tr.nil)))
 ((refine Tr.step rfl ?_)); refine Exec.call0 rfl (amounts_fn M k As Ar Af Ad cs cr cf cd h1 h2 h3 h4 (by omega) (by omega)) rfl ?_
 rintro _ M1 hm1 ⟨A1, c1, A2, c2, rfl, hI1, hI2⟩
 (refine rQ ?_)
 generalize b = b1
 refine Tr.loop (α := Nat) (fun i => ⟨40, [(17, .int .i64 (i : Int)), (16, .int .i64 ((amR k.reqs).length : Int)), (15, .slice A2 (amR k.reqs).length c2), (5, .int .i64 ((amR k.reqs).take i).sum), (3, .slice A1 (amS k.sups).length c1), (4, .slice A2 (amR k.reqs).length c2), (1, .pointer (some ⟨b1, 0, none⟩))], [], M1, box b1 44 [.int .i64 k.known, .slice As k.sups.length cs, .slice Ar k.reqs.length cr, .slice Af k.fits.length cf, .slice Ad k.rds.length cd] :: F⟩)
  (fun i => i ≤ (amR k.reqs).length) (fun i => (amR k.reqs).length - i) 0 (Nat.zero_le _) hsQ (fun i hi => ?_)
 have v3 := hv.ln
 by_cases hlt : i < (amR k.reqs).length
 ·obtain ⟨x, hx⟩ := get_of_lt hlt
  obtain ⟨hA, hat⟩ := hI2.at hx
  have e := sum_take hx
  have b1 := sum_bound (l := (amR k.reqs).take i) (n := 64) (fun y hy => hv.rn y (List.mem_of_mem_take hy)) (by simp; omega)
  have b2 := hv.rn x (List.mem_of_getElem? hx)
  (refine rQ ?_)
  rw [← e]
  exact Tr.again (i + 1) (by omega) (by omega) hsQ
 have ei : i = (amR k.reqs).length := by omega
 subst ei
 rw [List.take_length]
 have rs : I64s (amS k.sups) := fun x hx => by have := hv.rs x hx; omega
 have rn : I64s (amR k.reqs) := fun x hx => by have := hv.rn x hx; omega
 (refine rQ ?_)
 ((refine Tr.step rfl ?_)); refine Exec.call0 rfl (most2_fn M1 Af A1 A2 cf c1 c2 k.fits (amS k.sups) (amR k.reqs) (h3.mono RRowB.mono hm1) hI1 hI2 rs rn) rfl ?_
 rintro _ _ _ ⟨⟨hbad, -⟩ | ⟨-, L, rfl, hL⟩, rfl⟩
 ·rw [vld_iff.2 hv] at hbad
  cases hbad
 have hz := hL.zero hv.sup0 hv.need0
 by_cases h0 : (amR k.reqs).sum - L = (amR k.reqs).sum
 ·(refine rQ ?_)
  (refine dnQ (hL := by exact ⟨[_], rfl⟩) ⟨rfl, ?_⟩)
  exact ⟨true, by rw [decide_eq_true h0]; rfl, ⟨fun _ => hz.1 (by omega), fun _ => rfl⟩⟩
 ·(refine rQ ?_)
  (refine dnQ (hL := by exact ⟨[_], rfl⟩) ⟨rfl, ?_⟩)
  exact ⟨false, by rw [decide_eq_false h0]; rfl, ⟨fun h => (by cases h), fun h => absurd (by rw [hz.2 h]; omega) h0⟩⟩
theorem bpossible_fn (M : Mem) (k : Bp) (As Ar Af Ad : Option Addr) (cs cr cf cd : Nat) (h1 : SlOf 6 RSpC M (.slice As k.sups.length cs) k.sups) (h2 : SlOf 6 RRqC M (.slice Ar k.reqs.length cr) k.reqs) (h3 : Fits2 M (.slice Af k.fits.length cf) k.fits) (h4 : SlOf 5 RRd M (.slice Ad k.rds.length cd) k.rds) (hv : Vld k.fits (amS k.sups) (amR k.reqs)) :
  Fn0 Tryz.prog 54 [.agg #[.int .i64 k.known, .slice As k.sups.length cs, .slice Ar k.reqs.length cr, .slice Af k.fits.length cf, .slice Ad k.rds.length cd]] M (fun r M' => (∃ b : Bool, r = .bool b ∧ (b = true ↔ Feas (pbB k))) ∧ M = M') :=
 Fn.mono (Fn.forget (R := fun r A' => A' = [] ∧ ∃ b : Bool, r = .bool b ∧ (b = true ↔ Feas (pbB k))) (bpossible_fn0 M k As Ar Af Ad cs cr cf cd h1 h2 h3 h4 hv)) fun _ _ _ _ ⟨⟨a, b⟩, c⟩ => ⟨a, b, c⟩
end Go.Proofs.YtmikfjcdgkopkaaGreat

/-
 Promises: maker and check.
 Conditions: none.
-/
namespace Go.Proofs.YtmikfjcdgkopkaaGreat
open Go Bf
attribute [local irreducible] Tr Exec Stab HasTy Go.Addr.add IntKind.wrap
theorem maker_fn (M : Mem) (ws : List Value) (k : Bp) (As Ar Af Ad : Option Addr) (cs cr cf cd : Nat) :
  Bf.Fn Tryz.prog 33 [.agg ws.toArray, .agg #[.int .i64 k.known, .slice As k.sups.length cs, .slice Ar k.reqs.length cr, .slice Af k.fits.length cf, .slice Ad k.rds.length cd]] M [] (fun v M' A' => ∃ b2 b3, v = .func (.func 75) #[] #[.pointer (some ⟨b2, 0, none⟩), .pointer (some ⟨b3, 0, none⟩)] ∧ M = M' ∧ A' = [box b3 44 [.int .i64 k.known, .slice As k.sups.length cs, .slice Ar k.reqs.length cr, .slice Af k.fits.length cf, .slice Ad k.rds.length cd], box b2 38 ws]) := by
 refine Fn.intro Tryz.func33 rfl rfl Tryz.ntmps33 rfl fun E F => ?_
 (repeat (first | ((with_reducible refine Tr.step rfl ?_); (first | (refine xaQ ?_) | ((with_reducible refine Knd.makeFunc ?_); (refine Exec.stab rfl (Stab.makeFunc rfl rfl) rfl ?_)) | ((with_reducible refine Knd.box ?_); (refine Exec.box rfl rfl (fun b => ?_))))) | (with_reducible first | apply Tr.next | apply Tr.seq | apply Tr.region | apply Tr.nil | apply Tr.ret)))
 refine Tr.doneA (A' := [box _ 44 [.int .i64 k.known, .slice As k.sups.length cs, .slice Ar k.reqs.length cr, .slice Af k.fits.length cf, .slice Ad k.rds.length cd], box _ 38 ws]) (by first | exact .inl rfl | exact .inr rfl) rfl (by repeat (first | exact RVs.nil | (apply RVs.cons; (exact RV.tmp rfl)))) (Mem.le.refl _) ⟨fun _ h => h, fun h => h⟩ ⟨_, _, rfl, rfl, rfl⟩
def MkR (w : Wd) (k : Bp) (r : List Rq) (v : Value) (M : Mem) : Prop :=
 (¬ okT k.sups r ∧ v = .tuple #[.agg #[.int .i64 0, .slice none 0 0, .slice none 0 0, .slice none 0 0, .slice none 0 0], .int .i64 290]) ∨ (okT k.sups r ∧ ∃ x, v = .tuple #[x, .int .i64 0] ∧ RBp M x (mkF w k r))
set_option maxHeartbeats 8000000 in
set_option maxRecDepth 20000 in
theorem maker1_fn (M : Mem) (ws : List Value) (w : Wd) (hw : RWd M ws w) (k : Bp) (As Ar Af Ad : Option Addr) (cs cr cf cd : Nat) (h1 : SlOf 6 RSpC M (.slice As k.sups.length cs) k.sups) (_ : SlOf 6 RRqC M (.slice Ar k.reqs.length cr) k.reqs) (_ : Fits2 M (.slice Af k.fits.length cf) k.fits) (_ : SlOf 5 RRd M (.slice Ad k.rds.length cd) k.rds) (b2 b3 : Nat) (Ax : Option Addr) (cx : Nat) (r : List Rq) (hr : SlOf 6 RRqC M (.slice Ax r.length cx) r) :
  Bf.Fn Tryz.prog 75 [.slice Ax r.length cx, .pointer (some ⟨b2, 0, none⟩), .pointer (some ⟨b3, 0, none⟩)] M [box b3 44 [.int .i64 k.known, .slice As k.sups.length cs, .slice Ar k.reqs.length cr, .slice Af k.fits.length cf, .slice Ad k.rds.length cd], box b2 38 ws] (fun v M' A' => A' = [box b3 44 [.int .i64 k.known, .slice As k.sups.length cs, .slice Ar k.reqs.length cr, .slice Af k.fits.length cf, .slice Ad k.rds.length cd], box b2 38 ws] ∧ MkR w k r v M') := by
 have h11 := hw.len
 refine Fn.intro Tryz.func75 rfl rfl Tryz.ntmps75 rfl fun E F => ?_
 (repeat (first | ((with_reducible refine Tr.step rfl ?_); (first | (refine xmQ ?_) | (refine xaQ ?_) | ((with_reducible refine Knd.load ?_); (first | (refine xlQ ?_) | (refine Exec.stab rfl (Stab.loadW rfl (tysOk.get rfl) rfl (by repeat (first | exact Has.here | apply Has.there)) (by assumption)) rfl ?_))) | (refine xfQ ?_) | ((with_reducible refine Knd.alloc ?_); (refine Exec.alloc (tysOk.get rfl) rfl rfl (fun b => ?_))))) | (with_reducible first | apply Tr.next | apply Tr.seq | apply Tr.region | apply Tr.nil)))
 generalize b = b4
 ((refine Tr.step rfl ?_)); refine Exec.call0 rfl (table_fn M ws w hw As Ax cs cx k.sups r k.known h1 hr) rfl ?_
 rintro _ M1 hm1 (⟨hno, rfl⟩ | ⟨hok, A5, c5, B5, k5, rfl, hf, hrd⟩)
 ·(repeat (first | ((with_reducible refine Tr.step rfl ?_); (first | (refine xmQ ?_) | (refine xaQ ?_) | (refine xiQ ?_) | (refine xWQ ?_) | ((with_reducible refine Knd.extract ?_); (refine Exec.stab rfl (Stab.extract rfl rfl) rfl ?_)) | ((with_reducible refine Knd.build ?_); (refine Exec.stab rfl (Stab.build tysOk rfl rfl rfl rfl (by repeat (exact BuildP.nil))) rfl ?_)))) | (with_reducible first | apply Tr.next | apply Tr.seq | apply Tr.region | apply Tr.nil | apply Tr.ret | apply Tr.then_ret) | (refine Tr.cond_t rfl (by first | (with_reducible assumption) | omega) ?_)))
  exact Tr.doneB (A' := [box b3 44 [.int .i64 k.known, .slice As k.sups.length cs, .slice Ar k.reqs.length cr, .slice Af k.fits.length cf, .slice Ad k.rds.length cd], box b2 38 ws]) [_] (by first | exact .inl rfl | exact .inr rfl) rfl (by repeat (first | exact RVs.nil | (apply RVs.cons; (first | exact RV.tmp rfl | exact RV.cellW (by rfl) (tysOk.get (by rfl)) (by rfl) (by repeat (first | exact Has.here | apply Has.there)) (by first | rfl | assumption))))) hm1 (List.Perm.refl _) ⟨rfl, .inl ⟨hno, rfl⟩⟩
 have l1 := hok.1.1
 have l2 := hok.1.2
 (repeat (first | ((with_reducible refine Tr.step rfl ?_); (first | (refine xmQ ?_) | (refine xaQ ?_) | (refine xlQ ?_) | (refine xfQ ?_) | (refine xiQ ?_) | (refine xWQ ?_) | ((with_reducible refine Knd.alloc ?_); (refine Exec.alloc (tysOk.get rfl) rfl rfl (fun b => ?_))) | ((with_reducible refine Knd.extract ?_); (refine Exec.stab rfl (Stab.extract rfl rfl) rfl ?_)) | ((with_reducible refine Knd.build ?_); (refine Exec.stab rfl (Stab.build tysOk rfl rfl rfl rfl (by repeat (first | exact BuildP.nil | ((apply BuildP.one); (rfl); (rfl); (first | rfl | assumption); (repeat (first | exact SetL.z | apply SetL.s)))))) rfl ?_)))) | (with_reducible first | apply Tr.next | apply Tr.seq | apply Tr.region | apply Tr.nil | apply Tr.skip) | (refine Tr.cond_f rfl (by (with_reducible exact (not_not_intro rfl))) ?_)))
 generalize b = b9
 ((refine Tr.step rfl ?_))
 refine Exec.call (A := []) rfl (cloneSp_fn M1 As cs k.sups (h1.mono RSpC.mono hm1) (by omega)) (List.Perm.refl _) rfl ?_
 rintro _ _ _ _ ⟨⟨B6, k6, rfl, hk6, rfl⟩, rfl⟩
 (repeat (first | ((with_reducible refine Tr.step rfl ?_); (first | (refine xmQ ?_) | (refine xfQ ?_) | (refine xSQ ?_))) | (with_reducible first | apply Tr.next | apply Tr.seq | apply Tr.region | apply Tr.nil)))
 ((refine Tr.step rfl ?_))
 refine Exec.call (A := []) rfl (cloneRq_fn M1 Ax cx r (hr.mono RRqC.mono hm1) (by omega)) (List.Perm.refl _) rfl ?_
 rintro _ _ _ _ ⟨⟨B7, k7, rfl, hk7, rfl⟩, rfl⟩
 (refine rQ ?_)
 refine pbQ (r := ownS 46 6 B7 _ _ _) (fun M2 hm2 hok2 => ?_)
 refine pbQ (r := ownS 82 6 B6 _ _ _) (fun M3 hm3 hok3 => ?_)
 have g1 : SlOf 6 RSpC M3 (.slice B6 k.sups.length k6) k.sups := SlOf.ofOwn hok3 rfl hk6 (spC_elems _ _)
 have g2 : SlOf 6 RRqC M3 (.slice B7 r.length k7) r := (SlOf.ofOwn hok2 rfl hk7 (rqC_elems _ _)).mono RRqC.mono hm3
 have hm23 := hm2.trans hm3
 exact Tr.doneB (A' := [box b3 44 [.int .i64 k.known, .slice As k.sups.length cs, .slice Ar k.reqs.length cr, .slice Af k.fits.length cf, .slice Ad k.rds.length cd], box b2 38 ws]) [_, _] (by first | exact .inl rfl | exact .inr rfl) rfl (by repeat (first | exact RVs.nil | (apply RVs.cons; (first | exact RV.tmp rfl | exact RV.cellW (by rfl) (tysOk.get (by rfl)) (by rfl) (by repeat (first | exact Has.here | apply Has.there)) (by first | rfl | assumption))))) (hm1.trans hm23) (List.Perm.refl _) ⟨rfl, .inr ⟨hok, _, rfl, B6, k6, B7, k7, A5, c5, B5, k5, rfl, g1, g2, hf.mono RRowB.mono hm23, hrd.mono RRd.mono hm23⟩⟩
set_option maxHeartbeats 16000000 in
set_option maxRecDepth 20000 in
theorem check_fn (M : Mem) (ws : List Value) (w : Wd) (hw : RWd M ws w) (k : Bp) (As Ar Af Ad : Option Addr) (cs cr cf cd : Nat) (h1 : SlOf 6 RSpC M (.slice As k.sups.length cs) k.sups) (h2 : SlOf 6 RRqC M (.slice Ar k.reqs.length cr) k.reqs) (h3 : Fits2 M (.slice Af k.fits.length cf) k.fits) (h4 : SlOf 5 RRd M (.slice Ad k.rds.length cd) k.rds) (_ : cf ≤ 9223372036854775807) :
  FnP Tryz.prog 39 [.agg ws.toArray, .agg #[.int .i64 k.known, .slice As k.sups.length cs, .slice Ar k.reqs.length cr, .slice Af k.fits.length cf, .slice Ad k.rds.length cd]] M [] (fun _ _ A' => A' = [] ∧ okB w k) (fun ch _ A' => ch = prCh 310 ∧ A' = [] ∧ ¬ okB w k) := by
 have h11 := hw.len
 have hl1 := h1.len_le
 have hl2 := h2.len_le
 refine FnP.intro Tryz.func39 rfl rfl Tryz.ntmps39 rfl fun E F => ?_
 (repeat (first | ((with_reducible refine Tr.step rfl ?_); (first | (refine xmQ ?_) | (refine xaQ ?_) | (refine xlQ ?_) | (refine xfQ ?_) | (refine xnQ ?_) | ((with_reducible refine Knd.box ?_); (refine Exec.box rfl rfl (fun b => ?_))) | ((with_reducible refine Knd.makeMap ?_); (refine Exec.makeMap rfl (fun b => ?_))))) | (with_reducible first | apply Tr.next | apply Tr.seq | apply Tr.region | apply Tr.nil | apply Tr.block)))
 rename_i b2 b3
 generalize b = mb
 refine Tr.loop (α := Nat × List MapEntry × Nat) (fun y => ⟨62, [(13, .int .i64 (y.1 : Int)), (12, .int .i64 (k.reqs.length : Int)), (11, .slice Ar k.reqs.length cr), (4, .map (some mb)), (2, .pointer (some ⟨b2, 0, none⟩)), (3, .pointer (some ⟨b3, 0, none⟩))], [], M, mapR mb y.2.1 y.2.2 :: box b3 44 [.int .i64 k.known, .slice As k.sups.length cs, .slice Ar k.reqs.length cr, .slice Af k.fits.length cf, .slice Ad k.rds.length cd] :: box b2 38 ws :: ([] ++ F)⟩)
  (fun y => y.1 ≤ k.reqs.length ∧ Nums y.2.1 ((k.reqs.take y.1).map (·.no))) (fun y => k.reqs.length - y.1) (0, [], 0) ⟨Nat.zero_le _, Nums.nil⟩ hsQ (fun y hy => ?_)
 obtain ⟨i, es, cl⟩ := y
 obtain ⟨hi, hn⟩ := hy
 simp only at hi hn
 dsimp only
 by_cases hlt : i < k.reqs.length
 ·obtain ⟨x, hx⟩ := get_of_lt hlt
  obtain ⟨hA, ch, hat, rfl⟩ := h2.elem hx
  simp only [rqC] at hat
  have hkeys := hn.1
  (repeat (first | ((with_reducible refine Tr.step rfl ?_); (first | (refine xmQ ?_) | ((with_reducible refine Knd.load ?_); (first | (refine xlQ ?_) | (refine Exec.stab rfl (Stab.loadMA rfl (tysOk.get rfl) rfl (by assumption) (by first | rfl | assumption)) rfl ?_))) | (refine xfQ ?_) | ((with_reducible refine Knd.binOp ?_); (first | (refine xdQ ?_) | (refine xiQ ?_))) | (refine xWQ ?_) | ((with_reducible refine Knd.alloc ?_); (refine Exec.alloc (tysOk.get rfl) rfl rfl (fun b => ?_))) | ((with_reducible refine Knd.mapUpdate ?_); (refine Exec.mapUpdate rfl rfl rfl (tysOk.get rfl) rfl (tysOk.get rfl) rfl (by assumption) (by repeat (first | exact Upd.here | apply Upd.there)) ?_)) | (refine xxQ ?_))) | (with_reducible first | apply Tr.next | apply Tr.seq | apply Tr.region | apply Tr.nil | apply Tr.skip | apply Tr.block | apply Tr.in_normal) | (refine Tr.cond_t rfl (by first | (with_reducible assumption) | omega) ?_)))
  refine Tr.again (i + 1, (updE x.no (.bool true) es cl).1, (updE x.no (.bool true) es cl).2) ⟨by simp only; omega, ?_⟩ (by simp only; omega) hsQ
  simp only
  rw [nums_take (·.no) hx]
  exact hn.add _ _ _
 have ei : i = k.reqs.length := by omega
 subst ei
 rw [List.take_length] at hn
 obtain ⟨-, -, n1, n2⟩ := hn
 rw [List.length_map] at n1 n2
 by_cases hb : (es.length : Int) = (k.reqs.length : Int)
 rotate_left
 ·(repeat (first | ((with_reducible refine Tr.step rfl ?_); (first | (refine xmQ ?_) | (refine xlQ ?_) | (refine xfQ ?_) | ((with_reducible refine Knd.len ?_); (first | (refine xnQ ?_) | (refine Exec.stab rfl (Stab.lenMap rfl (tysOk.get rfl) rfl (by repeat (first | exact Has.here | apply Has.there))) rfl ?_))) | (refine xiQ ?_) | ((with_reducible refine Knd.pick ?_); (refine Exec.stab rfl (Stab.pick_fd rfl (by (with_reducible assumption)) rfl) rfl ?_)))) | (with_reducible first | apply Tr.next | apply Tr.seq | apply Tr.region | apply Tr.nil) | (refine Tr.guard_n rfl rfl rfl (by (with_reducible assumption)) rfl rfl ?_) | (with_reducible first | apply Tr.exit | apply Tr.then_exit) | ((with_reducible refine Tr.in_exit ?_ ?_); (exact rfl)) | (refine Tr.cond_f rfl (by first | (with_reducible assumption) | omega) ?_)))
  ((refine Tr.step rfl ?_))
  refine Exec.callP rfl (prequire_n M) (List.Perm.refl _) rfl (fun v M' A' hm hR => hR.elim) (fun ch M' A' hm hR => ?_)
  obtain ⟨rfl, rfl, rfl⟩ := hR
  (repeat ((with_reducible refine Tr.then_panic ?_)))
  exact Tr.doneP (A' := []) hm (by repeat (first | exact DropL.refl | apply DropL.skip)) ⟨rfl, rfl, fun h => hb (by have := n2.2 h.1.1; omega)⟩
 have hnr : (k.reqs.map (·.no)).Nodup := n2.1 (by omega)
 (repeat (first | ((with_reducible refine Tr.step rfl ?_); (first | (refine xmQ ?_) | (refine xlQ ?_) | (refine xfQ ?_) | ((with_reducible refine Knd.len ?_); (first | (refine xnQ ?_) | (refine Exec.stab rfl (Stab.lenMap rfl (tysOk.get rfl) rfl (by repeat (first | exact Has.here | apply Has.there))) rfl ?_))) | (refine xiQ ?_))) | (with_reducible first | apply Tr.next | apply Tr.seq | apply Tr.region | apply Tr.nil) | ((refine Tr.guard_y rfl rfl rfl (by (with_reducible assumption)) ?_); (first | (refine xlQ ?_) | (refine xfQ ?_))) | (with_reducible first | apply Tr.exit | apply Tr.then_exit) | ((with_reducible refine Tr.in_exit ?_ ?_); (exact rfl)) | (refine Tr.cond_f rfl (by first | (with_reducible assumption) | omega) ?_)))
 ((refine Tr.guard_y rfl rfl rfl (by (with_reducible assumption)) ?_)); refine Exec.call0 rfl (twins_fn M As cs k.sups h1) rfl ?_
 rintro _ _ _ ⟨⟨tw, rfl, htw⟩, rfl⟩
 cases tw with
 | true =>
  (refine rQ ?_)
  ((refine Tr.step rfl ?_))
  refine Exec.callP rfl (prequire_n M) (List.Perm.refl _) rfl (fun v M' A' hm hR => hR.elim) (fun ch M' A' hm hR => ?_)
  obtain ⟨rfl, rfl, rfl⟩ := hR
  (repeat ((with_reducible refine Tr.then_panic ?_)))
  exact Tr.doneP (A' := []) hm (by repeat (first | exact DropL.refl | apply DropL.skip)) ⟨rfl, rfl, fun h => by have := htw.2 h.1.2; cases this⟩
 | false =>
 have hns := htw.1 rfl
 (refine rQ ?_)
 ((refine Tr.step rfl ?_)); refine Exec.call0 rfl (prequire_y M) rfl ?_
 rintro _ _ _ rfl
 (repeat (first | (with_reducible first | apply Tr.next | apply Tr.seq | apply Tr.nil)))
 (((apply Tr.draw); (kernel_rfl)); (refine tkQ 0 (hB := by exact fun _ h => h) (s := by exact Stab.loadW rfl (tysOk.get rfl) rfl (by repeat (first | exact Has.here | apply Has.there)) (by assumption)) ?_); (refine tkQ 1 (s := by exact swQ) ?_); (refine tkQ 3 (s := by exact sfQ) ?_); (refine tkQ 4 (s := by exact slQ) ?_))
 ((refine TrM.start1 _ (by exact PA.alloc 9 rfl (tysOk.get rfl) rfl rfl) (by kernel_rfl) ?_); (refine TrM.eff 2 rfl (by kernel_rfl) (by exact .inl rfl) (by repeat (first | exact PendOk.nil | refine PendOk.cons rfl (by repeat (first | exact SubFr.nil | refine SubFr.cons rfl ?_)) ?_)) (by exact fun _ h => h) (by repeat (first | apply AppF.cons | exact AppF.nil)) (by repeat (first | apply AppF.cons | exact AppF.app)) (fun Y X => ?_)))
 refine Exec.call (A := []) rfl (maker_fn M ws k As Ar Af Ad cs cr cf cd) (List.Perm.refl _) rfl ?_
 rintro _ _ _ _ ⟨b5, b6, rfl, rfl, rfl⟩
 (refine ⟨_, _, (by repeat (first | apply App.cons | exact App.nil | exact App.app)), (by repeat (first | apply App.cons | exact App.nil | exact App.app)), rfl, (by first | exact Mem.le.refl _ | assumption), (by exact (Sub.mem (by repeat (first | exact Sub.refl | apply Sub.cons)))), ?_⟩)
 ((refine TrM.eff 5 rfl (by kernel_rfl) (by exact .inl rfl) (by repeat (first | exact PendOk.nil | refine PendOk.cons rfl (by repeat (first | exact SubFr.nil | refine SubFr.cons rfl ?_)) ?_)) (by exact (Sub.mem (by repeat (first | exact Sub.refl | apply Sub.cons)))) (by repeat (first | apply AppF.cons | exact AppF.nil)) (by repeat (first | apply AppF.cons | exact AppF.app)) (fun Y X => ?_)))
 refine Exec.callv (first := []) (cap := [.pointer (some ⟨b5, 0, none⟩), .pointer (some ⟨b6, 0, none⟩)]) (A := [box b6 44 [.int .i64 k.known, .slice As k.sups.length cs, .slice Ar k.reqs.length cr, .slice Af k.fits.length cf, .slice Ad k.rds.length cd], box b5 38 ws]) rfl rfl (maker1_fn M ws w hw k As Ar Af Ad cs cr cf cd h1 h2 h3 h4 b5 b6 Ar cr k.reqs h2) (List.Perm.refl _) rfl ?_
 rintro v M1 _ hm1 ⟨rfl, hmk⟩
 (refine ⟨_, _, (by repeat (first | apply App.cons | exact App.nil | exact App.app)), (by repeat (first | apply App.cons | exact App.nil | exact App.app)), rfl, (by first | exact Mem.le.refl _ | assumption), (by exact (Sub.mem (by repeat (first | exact Sub.refl | apply Sub.cons)))), ?_⟩)
 rcases hmk with ⟨hno, rfl⟩ | ⟨hok, x, rfl, As', cs', Ar', cr', Af', cf', Ad', cd', rfl, g1, g2, g3, g4⟩
 ·((refine TrM.take 6 (by kernel_rfl) rfl (by kernel_rfl) (by exact fun _ _ _ h => h) (by exact (Sub.mem (by repeat (first | exact Sub.refl | apply Sub.cons)))) rfl (by first | exact Stab.move rfl) rfl rfl ?_); (refine TrM.take 7 (by kernel_rfl) rfl (by kernel_rfl) (by exact fun _ _ _ h => h) (by exact (Sub.mem (by repeat (first | exact Sub.refl | apply Sub.cons)))) rfl (by first | exact Stab.extract rfl rfl) rfl rfl ?_); (refine TrM.take 8 (by kernel_rfl) rfl (by kernel_rfl) (by exact fun _ _ _ h => h) (by exact (Sub.mem (by repeat (first | exact Sub.refl | apply Sub.cons)))) rfl (by first | exact Stab.extract rfl rfl) rfl rfl ?_); (refine TrM.settle (by kernel_rfl) (by repeat (first | exact PendOk.nil | refine PendOk.cons rfl (by repeat (first | exact SubFr.nil | refine SubFr.cons rfl ?_)) ?_)) (by exact (Sub.mem (by repeat (first | exact Sub.refl | apply Sub.cons)))) (fun b => ?_)); dsimp only; (refine TrM.fin ?_))
  ((refine TrA.eff 10 rfl (by kernel_rfl) (by exact .inl rfl) ?_); (((refine Knd.store ?_); ((refine xWQ ?_)))); (refine ⟨(by first | exact Mem.le.refl _ | assumption), (by exact (Sub.mem (by repeat (first | exact Sub.refl | apply Sub.cons)))), ?_⟩); (refine tkQ 11 (s := by exact Stab.assign rfl) ?_); (refine TrA.done (by kernel_rfl) ?_))
  (repeat (first | ((with_reducible refine Tr.step rfl ?_); (first | (refine xmQ ?_) | (refine xiQ ?_))) | (with_reducible first | apply Tr.next | apply Tr.seq | apply Tr.region)))
  ((refine Tr.step rfl ?_))
  refine Exec.callP rfl (prequire_n _) (List.Perm.refl _) rfl (fun v M' A' hm hR => hR.elim) (fun ch M' A' hm hR => ?_)
  obtain ⟨rfl, rfl, rfl⟩ := hR
  (repeat ((with_reducible refine Tr.then_panic ?_)))
  exact Tr.doneP (A' := []) (hm1.trans hm) (by repeat (first | exact DropL.refl | apply DropL.skip)) ⟨rfl, rfl, fun h => hno h.2.1⟩
 ((refine TrM.take 6 (by kernel_rfl) rfl (by kernel_rfl) (by exact fun _ _ _ h => h) (by exact (Sub.mem (by repeat (first | exact Sub.refl | apply Sub.cons)))) rfl (by first | exact Stab.move rfl) rfl rfl ?_); (refine TrM.take 7 (by kernel_rfl) rfl (by kernel_rfl) (by exact fun _ _ _ h => h) (by exact (Sub.mem (by repeat (first | exact Sub.refl | apply Sub.cons)))) rfl (by first | exact Stab.extract rfl rfl) rfl rfl ?_); (refine TrM.take 8 (by kernel_rfl) rfl (by kernel_rfl) (by exact fun _ _ _ h => h) (by exact (Sub.mem (by repeat (first | exact Sub.refl | apply Sub.cons)))) rfl (by first | exact Stab.extract rfl rfl) rfl rfl ?_); (refine TrM.settle (by kernel_rfl) (by repeat (first | exact PendOk.nil | refine PendOk.cons rfl (by repeat (first | exact SubFr.nil | refine SubFr.cons rfl ?_)) ?_)) (by exact (Sub.mem (by repeat (first | exact Sub.refl | apply Sub.cons)))) (fun b => ?_)); dsimp only; (refine TrM.fin ?_))
 ((refine TrA.eff 10 rfl (by kernel_rfl) (by exact .inl rfl) ?_); (((refine Knd.store ?_); ((refine xWQ ?_)))); (refine ⟨(by first | exact Mem.le.refl _ | assumption), (by exact (Sub.mem (by repeat (first | exact Sub.refl | apply Sub.cons)))), ?_⟩); (refine tkQ 11 (s := by exact Stab.assign rfl) ?_); (refine TrA.done (by kernel_rfl) ?_))
 (repeat (first | ((with_reducible refine Tr.step rfl ?_); (first | (refine xmQ ?_) | (refine xiQ ?_))) | (with_reducible first | apply Tr.next | apply Tr.seq | apply Tr.region)))
 ((refine Tr.step rfl ?_)); refine Exec.call0 rfl (prequire_y M1) rfl ?_
 rintro _ _ _ rfl
 (repeat (first | ((with_reducible refine Tr.step rfl ?_); (first | (refine xlQ ?_) | (refine xfQ ?_))) | (with_reducible first | apply Tr.next | apply Tr.seq | apply Tr.region | apply Tr.nil)))
 ((refine Tr.step rfl ?_)); refine Exec.call0 rfl (sameRows_fn M1 (mkF w k k.reqs).fits k.fits Af' Af cf' cf g3 (h3.mono RRowB.mono hm1)) rfl ?_
 rintro _ _ _ ⟨⟨q1, rfl, hq1⟩, rfl⟩
 cases q1 with
 | false =>
  (repeat (first | ((with_reducible refine Tr.step rfl ?_); (first | (refine xmQ ?_) | ((with_reducible refine Knd.pick ?_); (refine Exec.stab rfl (Stab.pick_f rfl (by (with_reducible rfl)) rfl) rfl ?_)))) | (refine Tr.guard_s1 rfl rfl rfl (by (with_reducible rfl)) rfl rfl ?_)))
  ((refine Tr.step rfl ?_))
  refine Exec.callP rfl (prequire_n _) (List.Perm.refl _) rfl (fun v M' A' hm hR => hR.elim) (fun ch M' A' hm hR => ?_)
  obtain ⟨rfl, rfl, rfl⟩ := hR
  (repeat ((with_reducible refine Tr.then_panic ?_)))
  exact Tr.doneP (A' := []) (hm1.trans hm) (by repeat (first | exact DropL.refl | apply DropL.skip)) ⟨rfl, rfl, fun h => by have := hq1.2 h.2.2.1.1; cases this⟩
 | true =>
 (repeat (first | ((with_reducible refine Tr.step rfl ?_); (with_reducible refine Knd.move ?_); (refine xmQ ?_)) | ((refine Tr.guard_l rfl rfl rfl (by (with_reducible rfl)) ?_); (first | (refine xlQ ?_) | (refine xfQ ?_)))))
 ((refine Tr.guard_l rfl rfl rfl (by (with_reducible rfl)) ?_)); refine Exec.call0 rfl (equalRd_fn M1 (mkF w k k.reqs).rds k.rds Ad' Ad cd' cd g4 (h4.mono RRd.mono hm1)) rfl ?_
 rintro _ _ _ ⟨⟨q2, rfl, hq2⟩, rfl⟩
 cases q2 with
 | false =>
  (repeat (((with_reducible refine Tr.step rfl ?_); (with_reducible refine Knd.pick ?_); (refine Exec.stab rfl (Stab.pick_t rfl (by (with_reducible rfl)) rfl) rfl ?_))))
  ((refine Tr.step rfl ?_))
  refine Exec.callP rfl (prequire_n _) (List.Perm.refl _) rfl (fun v M' A' hm hR => hR.elim) (fun ch M' A' hm hR => ?_)
  obtain ⟨rfl, rfl, rfl⟩ := hR
  (repeat ((with_reducible refine Tr.then_panic ?_)))
  exact Tr.doneP (A' := []) (hm1.trans hm) (by repeat (first | exact DropL.refl | apply DropL.skip)) ⟨rfl, rfl, fun h => by have := hq2.2 h.2.2.1.2; cases this⟩
 | true =>
 (repeat (((with_reducible refine Tr.step rfl ?_); (with_reducible refine Knd.pick ?_); (refine Exec.stab rfl (Stab.pick_t rfl (by (with_reducible rfl)) rfl) rfl ?_))))
 ((refine Tr.step rfl ?_)); refine Exec.call0 rfl (prequire_y M1) rfl ?_
 rintro _ _ _ rfl
 (repeat (first | ((with_reducible refine Tr.step rfl ?_); (with_reducible refine Knd.load ?_); (refine xwQ ?_)) | (with_reducible first | apply Tr.next | apply Tr.region | apply Tr.nil)))
 ((refine Tr.step rfl ?_)); refine Exec.call0 rfl (bpossible_fn M1 (mkF w k k.reqs) As' Ar' Af' Ad' cs' cr' cf' cd' g1 g2 g3 g4 (okT_vld hok)) rfl ?_
 rintro _ _ _ ⟨⟨q3, rfl, hq3⟩, rfl⟩
 have hpb : pbB (mkF w k k.reqs) = pbB k := by
  unfold pbB
  rw [hq1.1 rfl]
  rfl
 rw [hpb] at hq3
 cases q3 with
 | false =>
  (skip)
  ((refine Tr.step rfl ?_))
  refine Exec.callP rfl (prequire_n _) (List.Perm.refl _) rfl (fun v M' A' hm hR => hR.elim) (fun ch M' A' hm hR => ?_)
  obtain ⟨rfl, rfl, rfl⟩ := hR
  (skip)
  exact Tr.doneP (A' := []) (hm1.trans hm) (by repeat (first | exact DropL.refl | apply DropL.skip)) ⟨rfl, rfl, fun h => by have := hq3.2 h.2.2.2; cases this⟩
 | true =>
 (skip)
 ((refine Tr.step rfl ?_)); refine Exec.call0 rfl (prequire_y M1) rfl ?_
 rintro _ _ _ rfl
 (repeat ((with_reducible refine Tr.nil ?_)))
 refine Tr.ofPost ?_
 (refine Tr.done (by first | exact .inl rfl | exact .inr rfl) rfl (by repeat (exact RVs.nil)) (by first | exact Mem.le.refl _ | assumption) (by exact ⟨[_, _, _, _, _, _], rfl⟩) ⟨rfl, ?_⟩)
 exact ⟨⟨hnr, hns⟩, hok, ⟨hq1.1 rfl, hq2.1 rfl⟩, hq3.1 rfl⟩
end Go.Proofs.YtmikfjcdgkopkaaGreat

/-
 Promises: attempt and ask.
 Conditions: none.
-/
namespace Go.Proofs.YtmikfjcdgkopkaaGreat
open Go Bf
attribute [local irreducible] Tr Exec Stab HasTy Go.Addr.add IntKind.wrap
def prDone (e : Int) : List PanicEntry := [{ v := .iface 49 (.int .i64 e), recovered := true }]
set_option maxHeartbeats 1000000 in
theorem patt_panic (M : Mem) (b2 : Nat) (e0 : Value) (e : Int) :
  CD Tryz.prog 79 [.pointer (some ⟨b2, 0, none⟩)] (.panicking (prCh e)) M [box b2 49 [e0]]
   (fun u' M' A' => u' = .panicking (prDone e) ∧ M = M' ∧ A' = [box b2 49 [.int .i64 e]]) := by
 refine CD.intro1 Tryz.func79 rfl rfl Tryz.ntmps79 rfl rfl (v := .iface 49 (.int .i64 e)) (.inl ⟨[], rfl, rfl⟩) fun E F => ?_
 (repeat (first | ((with_reducible refine Tr.step rfl ?_); (first | (refine xmQ ?_) | (refine xaQ ?_) | ((with_reducible refine Knd.binOp ?_); (refine Exec.stab rfl (Stab.ifaceeq rfl (tysOk.get rfl) rfl) rfl ?_)) | (refine xSQ ?_) | ((with_reducible refine Knd.typeAssert ?_); (refine Exec.stab rfl (Stab.assertY rfl (tysOk.get rfl) rfl) rfl ?_)) | ((with_reducible refine Knd.extract ?_); (refine Exec.stab rfl (Stab.extract rfl rfl) rfl ?_)))) | (with_reducible first | apply Tr.next | apply Tr.seq | apply Tr.region | apply Tr.nil | apply Tr.block | apply Tr.in_normal) | (refine Tr.cond_bt rfl (by (with_reducible rfl)) ?_) | (refine Tr.cond_bf rfl (by (with_reducible rfl)) ?_)))
 refine Tr.doneC (by first | exact .inl rfl | exact .inr rfl) rfl (by repeat (exact RVs.nil)) (Mem.le.refl _) DropL.refl ⟨rfl, rfl, rfl⟩
set_option maxHeartbeats 1000000 in
theorem patt_idle (M : Mem) (b2 : Nat) (A : List Res) :
  CD Tryz.prog 79 [.pointer (some ⟨b2, 0, none⟩)] .returning M A
   (fun u' M' A' => u' = .returning ∧ M = M' ∧ A' = A) := by
 refine CD.intro1 Tryz.func79 rfl rfl Tryz.ntmps79 rfl rfl (v := .nilIface) (.inr ⟨rfl, rfl, rfl⟩) fun E F => ?_
 (repeat (first | ((with_reducible refine Tr.step rfl ?_); (first | (refine xaQ ?_) | ((with_reducible refine Knd.binOp ?_); (refine Exec.stab rfl (Stab.nileq rfl (tysOk.get rfl) rfl) rfl ?_)))) | (with_reducible first | apply Tr.next | apply Tr.seq | apply Tr.region | apply Tr.nil | apply Tr.block | apply Tr.in_normal) | (refine Tr.cond_bt rfl (by (with_reducible rfl)) ?_)))
 refine Tr.doneC (by first | exact .inl rfl | exact .inr rfl) rfl (by repeat (exact RVs.nil)) (Mem.le.refl _) DropL.refl ⟨rfl, rfl, rfl⟩
set_option maxHeartbeats 2000000 in
theorem pattempt_fn (M : Mem) (g : FuncId) (cap : List Value) (A : List Res) (R : Value → Mem → List Res → Prop) (RP : Int → Mem → List Res → Prop) (hg : FnP Tryz.prog g cap M A R (fun ch M' A' => ∃ e, ch = prCh e ∧ RP e M' A')) :
  Bf.Fn Tryz.prog 37 [.func (.func g) #[] cap.toArray] M A (fun r M' A' => (r = .int .i64 0 ∧ ∃ v, R v M' A') ∨ ∃ e, r = .int .i64 e ∧ RP e M' A') := by
 refine Fn.introD Tryz.func37 rfl rfl Tryz.ntmps37 rfl fun E F => ?_
 (repeat (first | ((with_reducible refine Tr.step rfl ?_); (first | ((with_reducible refine Knd.makeFunc ?_); (refine Exec.stab rfl (Stab.makeFunc rfl rfl) rfl ?_)) | ((with_reducible refine Knd.alloc ?_); (refine Exec.alloc1 (tysOk.get rfl) rfl rfl rfl (fun b => ?_))))) | (with_reducible first | apply Tr.next | apply Tr.seq | apply Tr.region | apply Tr.nil)))
 refine Tr.step rfl ?_
 refine Exec.defer (first := []) (vs := []) rfl rfl ?_
 (repeat (first | ((with_reducible refine Tr.step rfl ?_); (with_reducible refine Knd.move ?_); (refine xmQ ?_)) | (with_reducible first | apply Tr.next | apply Tr.seq | apply Tr.region | apply Tr.nil)))
 ((refine Tr.step rfl ?_))
 refine Exec.callPv (first := []) (cap := cap) (vs := []) (A := A) (F := box b 49 [.int .i64 0] :: F) rfl rfl (by simpa using hg) List.perm_middle rfl (fun v M' A' hm hR => ?_) (fun ch M' A' hm hR => ?_)
 rotate_left
 ·obtain ⟨e, rfl, hR⟩ := hR
  (repeat ((with_reducible refine Tr.then_panic ?_)))
  refine Tr.panicD (vs0 := []) (cap := [.pointer (some ⟨b, 0, none⟩)]) (A := [box b 49 [.int .i64 0]]) (F1 := A' ++ F) (patt_panic M' b _ e) (show (box b 49 [.int .i64 0] :: (A' ++ F)).Perm (A' ++ box b 49 [.int .i64 0] :: F) from List.perm_middle.symm) rfl ?_
  rintro u' M'' A'' hm' ⟨rfl, rfl, rfl⟩
  exact ⟨rfl, _, (by repeat (first | exact RVs.nil | (apply RVs.cons; (exact RV.cell (by rfl) (tysOk.get (by rfl)) (by rfl) (by repeat (first | exact Has.here | apply Has.there)))))), hm, [box b 49 [.int .i64 e]], A', List.Perm.refl _, .inr ⟨e, rfl, hR⟩⟩
 refine Tr.reorder List.perm_middle.symm ?_
 (repeat (first | ((with_reducible refine Tr.step rfl ?_); (with_reducible refine Knd.store ?_); (refine xSQ ?_)) | (with_reducible first | apply Tr.next | apply Tr.seq | apply Tr.region | apply Tr.nil | apply Tr.ret)))
 refine Tr.doneD (vs0 := []) (cap := [.pointer (some ⟨b, 0, none⟩)]) (A := []) (by first | exact .inl rfl | exact .inr rfl) (patt_idle M' b []) (List.Perm.refl _) rfl ?_
 rintro u' M'' A'' hm' ⟨rfl, rfl, rfl⟩
 exact ⟨rfl, _, (by repeat (first | exact RVs.nil | (apply RVs.cons; (exact RV.cell (by rfl) (tysOk.get (by rfl)) (by rfl) (by repeat (first | exact Has.here | apply Has.there)))))), hm, [box b 49 [.int .i64 0]], A', List.Perm.refl _, .inl ⟨rfl, v, hR⟩⟩
end Go.Proofs.YtmikfjcdgkopkaaGreat

/-
 Promises: ask.
 Conditions: none.
-/
namespace Go.Proofs.YtmikfjcdgkopkaaGreat
open Go Bf
attribute [local irreducible] Tr Exec Stab HasTy Go.Addr.add IntKind.wrap
noncomputable def cutB (w : Wd) (k : Bp) (r : Rq) : List Int := memF (cutFin (fitsT w k.known k.sups (k.reqs ++ [r])) (amS k.sups) (amR (k.reqs ++ [r]))) (amR (k.reqs ++ [r])).length
noncomputable def confF (w : Wd) (k : Bp) (r : Rq) : List Int := (cutB w k r).map fun j => ((k.reqs ++ [r]).map (·.no)).getD j.toNat 0
def AskR (w : Wd) (k : Bp) (r : Rq) (x a : Value) (M : Mem) : Prop :=
 ∃ D cd, SlOf 5 RRd M (.slice D (readsF w k.sups [r]).length cd) (readsF w k.sups [r]) ∧
  ((Feas (pbW w k.known k.sups (k.reqs ++ [r])) ∧ RBp M x (more w k r) ∧ ∃ al A c, LexMax (pbW w k.known k.sups (k.reqs ++ [r])) al ∧ a = .agg #[.bool true, .slice A (allocOf al (amR (k.reqs ++ [r])).length (amS k.sups).length).length c, .slice none 0 0, .slice D (readsF w k.sups [r]).length cd] ∧ Ints2 M (.slice A (allocOf al (amR (k.reqs ++ [r])).length (amS k.sups).length).length c) (allocOf al (amR (k.reqs ++ [r])).length (amS k.sups).length)) ∨
  (¬ Feas (pbW w k.known k.sups (k.reqs ++ [r])) ∧ RBp M x k ∧ ∃ B c, a = .agg #[.bool false, .slice none 0 0, .slice B (confF w k r).length c, .slice D (readsF w k.sups [r]).length cd] ∧ Ints M (.slice B (confF w k r).length c) (confF w k r)))
theorem ask1_fn (M : Mem) (b5 : Nat) (r y : Rq) (hb : (box b5 46 [.int .i64 r.no, .int .i64 r.item, .int .i64 r.cust, .int .i64 r.due, .int .i64 r.shelf, .int .i64 r.amount]).ok M) : Fn0 Tryz.prog 83 ([.agg #[.int .i64 y.no, .int .i64 y.item, .int .i64 y.cust, .int .i64 y.due, .int .i64 y.shelf, .int .i64 y.amount]] ++ [.pointer (some ⟨b5, 0, none⟩)]) M (fun v M' => v = .bool (decide (y.no = r.no)) ∧ M = M') := by
 have hrow := Row.of_box (n := 1) (sz := 6) hb (by simp) (by intro u hu; simp at hu; rcases hu with rfl | rfl | rfl | rfl | rfl | rfl <;> rfl)
 have hat2 := (hrow.pos (by decide)).2
 refine Fn.intro Tryz.func83 rfl rfl Tryz.ntmps83 rfl fun E F => ?_
 simp only [List.cons_append, List.nil_append]
 (repeat (first | ((with_reducible refine Tr.step rfl ?_); (first | (refine xaQ ?_) | ((with_reducible refine Knd.load ?_); (first | (refine xlQ ?_) | (refine xMQ ?_))) | (refine xfQ ?_) | (refine xiQ ?_) | ((with_reducible refine Knd.box ?_); (refine Exec.box rfl rfl (fun b => ?_))))) | (with_reducible first | apply Tr.next | apply Tr.seq | apply Tr.region | apply Tr.nil | apply Tr.ret)))
 (refine dnQ (hL := by exact ⟨[_], rfl⟩) ⟨rfl, ?_⟩)
 exact ⟨rfl, rfl⟩
theorem askc_lend (M : Mem) (b5 : Nat) (r : Rq) (A : Option Addr) (c : Nat) (l : List Rq) (hl : SlOf 6 RRqC M (.slice A l.length c) l) :
  Bf.Fn Tryz.prog 82 [.slice A l.length c, .func (.func 83) #[] #[.pointer (some ⟨b5, 0, none⟩)]] M [box b5 46 [.int .i64 r.no, .int .i64 r.item, .int .i64 r.cust, .int .i64 r.due, .int .i64 r.shelf, .int .i64 r.amount]] (fun v M' A' => A' = [box b5 46 [.int .i64 r.no, .int .i64 r.item, .int .i64 r.cust, .int .i64 r.due, .int .i64 r.shelf, .int .i64 r.amount]] ∧ M = M' ∧ v = .bool (l.any fun y => decide (y.no = r.no))) :=
 Fn.lend (rs := [box b5 46 [.int .i64 r.no, .int .i64 r.item, .int .i64 r.cust, .int .i64 r.due, .int .i64 r.shelf, .int .i64 r.amount]]) (R := fun v => v = .bool (l.any fun y => decide (y.no = r.no))) (clone_ok _ _ _ _ _ _ (containsR_fn M none 0 [] (SlOf.nil _ _ _) 0 [] (fun _ => false) (by simp))) (fun M' hm hok =>
  containsR_fn M' A c l (hl.mono RRqC.mono hm) 83 [.pointer (some ⟨b5, 0, none⟩)] (fun y => decide (y.no = r.no)) (fun y _ => ask1_fn M' b5 r y (hok _ (by simp))))
set_option maxHeartbeats 16000000 in
set_option maxRecDepth 20000 in
theorem ask_fn (M : Mem) (ws : List Value) (w : Wd) (hw : RWd M ws w) (k : Bp) (As Ar Af Ad : Option Addr) (cs cr cf cd : Nat) (h1 : SlOf 6 RSpC M (.slice As k.sups.length cs) k.sups) (h2 : SlOf 6 RRqC M (.slice Ar k.reqs.length cr) k.reqs) (h3 : Fits2 M (.slice Af k.fits.length cf) k.fits) (h4 : SlOf 5 RRd M (.slice Ad k.rds.length cd) k.rds) (hv : okB w k) (r : Rq) :
  FnP Tryz.prog 40 [.agg ws.toArray, .agg #[.int .i64 k.known, .slice As k.sups.length cs, .slice Ar k.reqs.length cr, .slice Af k.fits.length cf, .slice Ad k.rds.length cd], .agg #[.int .i64 r.no, .int .i64 r.item, .int .i64 r.cust, .int .i64 r.due, .int .i64 r.shelf, .int .i64 r.amount]] M [] (fun v M' A' => A' = [] ∧ askE w k r = 0 ∧ ∃ x a, v = .tuple #[x, a] ∧ AskR w k r x a M') (fun ch _ A' => ∃ e, ch = prCh e ∧ A' = [] ∧ askE w k r = e ∧ e ≠ 0) := by
 have h11 := hw.len
 have hl1 := h1.len_le
 have hl2 := h2.len_le
 have l64 := hv.2.1.1
 refine FnP.intro Tryz.func40 rfl rfl Tryz.ntmps40 rfl fun E F => ?_
 (repeat (first | ((with_reducible refine Tr.step rfl ?_); (first | (refine xlQ ?_) | (refine xfQ ?_) | ((with_reducible refine Knd.makeFunc ?_); (refine Exec.stab rfl (Stab.makeFunc rfl rfl) rfl ?_)) | ((with_reducible refine Knd.box ?_); (refine Exec.box rfl rfl (fun b => ?_))) | ((with_reducible refine Knd.alloc ?_); (refine Exec.alloc (tysOk.get rfl) rfl rfl (fun b => ?_))))) | (with_reducible first | apply Tr.next | apply Tr.seq | apply Tr.region | apply Tr.nil)))
 rename_i b3 b4 b5 b6
 generalize b = b7
 ((refine Tr.step rfl ?_))
 refine Exec.call (A := [box b5 46 [.int .i64 r.no, .int .i64 r.item, .int .i64 r.cust, .int .i64 r.due, .int .i64 r.shelf, .int .i64 r.amount]]) rfl (askc_lend M b5 r Ar cr k.reqs h2) (take1 (by repeat (first | exact Del.here | apply Del.there))) rfl ?_
 rintro _ _ _ _ ⟨rfl, rfl, rfl⟩
 by_cases hno : r.no ∈ k.reqs.map (·.no)
 ·have e : (k.reqs.any fun y => decide (y.no = r.no)) = true := by
   rw [List.any_eq_true]
   obtain ⟨y, hy, hyn⟩ := List.mem_map.1 hno
   exact ⟨y, hy, by simpa using hyn⟩
  rw [e]
  (repeat (((with_reducible refine Tr.step rfl ?_); (with_reducible refine Knd.unOp ?_); (refine Exec.stab rfl (Stab.not rfl) rfl ?_))))
  ((refine Tr.step rfl ?_))
  refine Exec.callP rfl (prequire_n _) (List.Perm.refl _) rfl (fun v M' A' hm hR => hR.elim) (fun ch M' A' hm hR => ?_)
  obtain ⟨rfl, rfl, rfl⟩ := hR
  (repeat ((with_reducible refine Tr.then_panic ?_)))
  exact Tr.doneP (A' := []) hm (by repeat (first | exact DropL.refl | apply DropL.skip)) ⟨310, rfl, rfl, by rw [askE, if_neg (fun h => h hv), if_pos hno], by decide⟩
 have e : (k.reqs.any fun y => decide (y.no = r.no)) = false := by
  rw [List.any_eq_false]
  intro y hy
  simp only [decide_eq_true_eq]
  exact fun h => hno (List.mem_map.2 ⟨y, hy, h⟩)
 rw [e]
 (repeat (((with_reducible refine Tr.step rfl ?_); (with_reducible refine Knd.unOp ?_); (refine Exec.stab rfl (Stab.not rfl) rfl ?_))))
 ((refine Tr.step rfl ?_)); refine Exec.call0 rfl (prequire_y M) rfl ?_
 rintro _ _ _ rfl
 (repeat (first | ((with_reducible refine Tr.step rfl ?_); (with_reducible refine Knd.load ?_); (first | (refine xwQ ?_) | (refine Exec.stab rfl (Stab.loadW rfl (tysOk.get rfl) rfl (by repeat (first | exact Has.here | apply Has.there)) (by assumption)) rfl ?_))) | (with_reducible first | apply Tr.next | apply Tr.seq | apply Tr.region | apply Tr.nil)))
 ((refine Tr.step rfl ?_))
 refine Exec.call (A := []) rfl (maker_fn M ws k As Ar Af Ad cs cr cf cd) (List.Perm.refl _) rfl ?_
 rintro _ _ _ _ ⟨b8, b9, rfl, rfl, rfl⟩
 (repeat (first | ((with_reducible refine Tr.step rfl ?_); (with_reducible refine Knd.assign ?_); (refine xaQ ?_)) | (with_reducible first | apply Tr.next | apply Tr.seq | apply Tr.nil)))
 (((apply Tr.draw (box b5 46 [.int .i64 r.no, .int .i64 r.item, .int .i64 r.cust, .int .i64 r.due, .int .i64 r.shelf, .int .i64 r.amount] :: box b7 54 [.bool false, .slice none 0 0, .slice none 0 0, .slice none 0 0] :: box b6 44 [.int .i64 0, .slice none 0 0, .slice none 0 0, .slice none 0 0, .slice none 0 0] :: box b4 44 [.int .i64 k.known, .slice As k.sups.length cs, .slice Ar k.reqs.length cr, .slice Af k.fits.length cf, .slice Ad k.rds.length cd] :: box b3 38 ws :: ([] ++ F))); (kernel_rfl)); (refine tkQ 0 (s := by exact Stab.move rfl) ?_); (refine tkQ 1 (s := by exact sfQ) ?_); (refine tkQ 4 (s := by exact swQ) ?_); (refine tkQ 2 (s := by exact slQ) ?_))
 ((refine TrM.start2 _ (PA.build1 5 [(33, .agg #[.int .i64 r.no, .int .i64 r.item, .int .i64 r.cust, .int .i64 r.due, .int .i64 r.shelf, .int .i64 r.amount])] rfl (by exact .inl rfl) rfl (tysOk.get rfl) rfl (tysOk.get rfl) rfl rfl rfl rfl rfl (by first | rfl | assumption) rfl) (by exact PA.alloc 11 rfl (tysOk.get rfl) rfl rfl) (by kernel_rfl) (by kernel_rfl) (by kernel_rfl) ?_); (refine TrM.eff 3 rfl (by kernel_rfl) (by exact .inl rfl) (by repeat (first | exact PendOk.nil | refine PendOk.cons rfl (by repeat (first | exact SubFr.nil | refine SubFr.cons rfl ?_)) ?_)) (by exact (Sub.mem (by repeat (first | exact Sub.refl | apply Sub.cons)))) (by repeat (first | apply AppF.cons | exact AppF.nil)) (by repeat (first | apply AppF.cons | exact AppF.app)) (fun Y X => ?_)))
 refine Exec.call (A := []) rfl (cloneRq_fn M Ar cr k.reqs h2 (by omega)) (List.Perm.refl _) rfl ?_
 rintro _ _ _ _ ⟨⟨B6, k6, rfl, hk6, rfl⟩, rfl⟩
 (refine ⟨_, _, (by repeat (first | apply App.cons | exact App.nil | exact App.app)), (by repeat (first | apply App.cons | exact App.nil | exact App.app)), rfl, (by first | exact Mem.le.refl _ | assumption), (by exact (Sub.mem (by repeat (first | exact Sub.refl | apply Sub.cons)))), ?_⟩)
 ((refine TrM.settle (by kernel_rfl) (by repeat (first | exact PendOk.nil | refine PendOk.cons rfl (by repeat (first | exact SubFr.nil | refine SubFr.cons rfl ?_)) ?_)) (by exact (Sub.mem (by repeat (first | exact Sub.refl | apply Sub.cons)))) (fun b => ?_)); dsimp only)
 ((refine TrM.eff 6 rfl (by kernel_rfl) (by exact .inl rfl) (by repeat (first | exact PendOk.nil | refine PendOk.cons rfl (by repeat (first | exact SubFr.nil | refine SubFr.cons rfl ?_)) ?_)) (by exact (Sub.mem (by repeat (first | exact Sub.refl | apply Sub.cons)))) (by repeat (first | apply AppF.cons | exact AppF.nil)) (by repeat (first | apply AppF.cons | exact AppF.app)) (fun Y X => ?_)))
 refine Exec.append (news := rqC r) rfl rfl (tysOk.get rfl) rfl (tysOk.get rfl) rfl rfl rfl rfl (by repeat (first | exact Del.here | apply Del.there)) (Src.box (by repeat (first | exact Has.here | apply Has.there))) rfl (rqC_one _) (by omega) (by omega) rfl (fun A8 c8 hc8 => ?_)
 (refine ⟨_, _, (by repeat (first | apply App.cons | exact App.nil | exact App.app)), (by repeat (first | apply App.cons | exact App.nil | exact App.app)), rfl, (by first | exact Mem.le.refl _ | assumption), (by exact (Sub.mem (by repeat (first | exact Sub.refl | apply Sub.cons)))), ?_⟩)
 rw [show k.reqs.flatMap rqC ++ rqC r = (k.reqs ++ [r]).flatMap rqC by rw [List.flatMap_append]; simp, show k.reqs.length + 1 = (k.reqs ++ [r]).length by simp]
 refine TrM.publish (x := ownS 46 6 _ _ _ _) (by repeat (first | exact Del.here | apply Del.there)) (fun M8 hm8 hok8 => ?_)
 have hm8 : Mem.le M M8 := hm8
 have hR8 : SlOf 6 RRqC M8 (.slice A8 (k.reqs ++ [r]).length c8) (k.reqs ++ [r]) := SlOf.ofOwn hok8 rfl hc8 (rqC_elems _ _)
 ((refine TrM.eff 7 rfl (by kernel_rfl) (by exact .inl rfl) (by repeat (first | exact PendOk.nil | refine PendOk.cons rfl (by repeat (first | exact SubFr.nil | refine SubFr.cons rfl ?_)) ?_)) (by exact (Sub.mem (by repeat (first | exact Sub.refl | apply Sub.cons)))) (by repeat (first | apply AppF.cons | exact AppF.nil)) (by repeat (first | apply AppF.cons | exact AppF.app)) (fun Y X => ?_)))
 refine Exec.callv (first := []) (cap := [.pointer (some ⟨b8, 0, none⟩), .pointer (some ⟨b9, 0, none⟩)]) (A := [box b9 44 [.int .i64 k.known, .slice As k.sups.length cs, .slice Ar k.reqs.length cr, .slice Af k.fits.length cf, .slice Ad k.rds.length cd], box b8 38 ws]) rfl rfl (maker1_fn M8 ws w (hw.mono hm8) k As Ar Af Ad cs cr cf cd (h1.mono RSpC.mono hm8) (h2.mono RRqC.mono hm8) (h3.mono RRowB.mono hm8) (h4.mono RRd.mono hm8) b8 b9 A8 c8 (k.reqs ++ [r]) hR8) (take2 (by repeat (first | exact Del.here | apply Del.there)) (by repeat (first | exact Del.here | apply Del.there))) rfl ?_
 rintro v M1 _ hm1 ⟨rfl, hmk⟩
 (refine ⟨_, _, (by repeat (first | apply App.cons | exact App.nil | exact App.app)), (by repeat (first | apply App.cons | exact App.nil | exact App.app)), rfl, (by first | exact Mem.le.refl _ | assumption), (by exact (Sub.mem (by repeat (first | exact Sub.refl | apply Sub.cons)))), ?_⟩)
 have hm1 := hm8.trans hm1
 rcases hmk with ⟨hnk, rfl⟩ | ⟨hok, x, rfl, As', cs', Ar', cr', Af', cf', Ad', cd', rfl, g1, g2, g3, g4⟩
 ·((refine TrM.take 8 (by kernel_rfl) rfl (by kernel_rfl) (by exact fun _ _ _ h => h) (by exact (Sub.mem (by repeat (first | exact Sub.refl | apply Sub.cons)))) rfl (by first | exact Stab.move rfl) rfl rfl ?_); (refine TrM.take 9 (by kernel_rfl) rfl (by kernel_rfl) (by exact fun _ _ _ h => h) (by exact (Sub.mem (by repeat (first | exact Sub.refl | apply Sub.cons)))) rfl (by first | exact Stab.extract rfl rfl) rfl rfl ?_); (refine TrM.take 10 (by kernel_rfl) rfl (by kernel_rfl) (by exact fun _ _ _ h => h) (by exact (Sub.mem (by repeat (first | exact Sub.refl | apply Sub.cons)))) rfl (by first | exact Stab.extract rfl rfl) rfl rfl ?_); (refine TrM.settle (by kernel_rfl) (by repeat (first | exact PendOk.nil | refine PendOk.cons rfl (by repeat (first | exact SubFr.nil | refine SubFr.cons rfl ?_)) ?_)) (by exact (Sub.mem (by repeat (first | exact Sub.refl | apply Sub.cons)))) (fun b => ?_)); dsimp only; (refine TrM.fin ?_))
  ((refine TrA.eff 12 rfl (by kernel_rfl) (by exact .inl rfl) ?_); (((refine Knd.store ?_); ((refine xWQ ?_)))); (refine ⟨(by first | exact Mem.le.refl _ | assumption), (by exact (Sub.mem (by repeat (first | exact Sub.refl | apply Sub.cons)))), ?_⟩); (refine tkQ 13 (s := by exact Stab.assign rfl) ?_); (refine TrA.done (by kernel_rfl) ?_))
  (repeat (first | ((with_reducible refine Tr.step rfl ?_); (with_reducible refine Knd.move ?_); (refine xmQ ?_)) | (with_reducible first | apply Tr.next | apply Tr.seq | apply Tr.region)))
  ((refine Tr.step rfl ?_))
  refine Exec.callP rfl (must_n M1 290 (by decide)) (List.Perm.refl _) rfl (fun v M' A' hm hR => hR.elim) (fun ch M' A' hm hR => ?_)
  obtain ⟨rfl, rfl, rfl⟩ := hR
  (repeat ((with_reducible refine Tr.then_panic ?_)))
  refine Tr.doneP (A' := []) (hm1.trans hm) (by repeat (first | exact DropL.refl | apply DropL.skip)) ⟨290, rfl, rfl, ?_, by decide⟩
  rw [okT_app hv.2.1] at hnk
  rw [askE, if_neg (fun h => h hv), if_neg hno, if_pos]
  by_cases hq : okRq r
  ·have := not_and.1 hnk hq
   exact .inr (by omega)
  ·exact .inl hq
 have hbase : okRq r := hok.2.2 r (by simp)
 have hrl : k.reqs.length + 1 ≤ 64 := by have := hok.1.2; simpa using this
 dsimp only [mkF] at g1 g2 g3 g4 ⊢
 ((refine TrM.take 8 (by kernel_rfl) rfl (by kernel_rfl) (by exact fun _ _ _ h => h) (by exact (Sub.mem (by repeat (first | exact Sub.refl | apply Sub.cons)))) rfl (by first | exact Stab.move rfl) rfl rfl ?_); (refine TrM.take 9 (by kernel_rfl) rfl (by kernel_rfl) (by exact fun _ _ _ h => h) (by exact (Sub.mem (by repeat (first | exact Sub.refl | apply Sub.cons)))) rfl (by first | exact Stab.extract rfl rfl) rfl rfl ?_); (refine TrM.take 10 (by kernel_rfl) rfl (by kernel_rfl) (by exact fun _ _ _ h => h) (by exact (Sub.mem (by repeat (first | exact Sub.refl | apply Sub.cons)))) rfl (by first | exact Stab.extract rfl rfl) rfl rfl ?_); (refine TrM.settle (by kernel_rfl) (by repeat (first | exact PendOk.nil | refine PendOk.cons rfl (by repeat (first | exact SubFr.nil | refine SubFr.cons rfl ?_)) ?_)) (by exact (Sub.mem (by repeat (first | exact Sub.refl | apply Sub.cons)))) (fun b => ?_)); dsimp only; (refine TrM.fin ?_))
 ((refine TrA.eff 12 rfl (by kernel_rfl) (by exact .inl rfl) ?_); (((refine Knd.store ?_); ((refine xWQ ?_)))); (refine ⟨(by first | exact Mem.le.refl _ | assumption), (by exact (Sub.mem (by repeat (first | exact Sub.refl | apply Sub.cons)))), ?_⟩); (refine tkQ 13 (s := by exact Stab.assign rfl) ?_); (refine TrA.done (by kernel_rfl) ?_))
 (repeat (first | ((with_reducible refine Tr.step rfl ?_); (with_reducible refine Knd.move ?_); (refine xmQ ?_)) | (with_reducible first | apply Tr.next | apply Tr.seq | apply Tr.region)))
 generalize b = bx
 ((refine Tr.step rfl ?_)); refine Exec.call0 rfl (must_y M1) rfl ?_
 rintro _ _ _ rfl
 (repeat (first | ((with_reducible refine Tr.step rfl ?_); (first | (refine xmQ ?_) | (refine xwQ ?_) | ((with_reducible refine Knd.buildSlice ?_); (refine Exec.buildSlice (tysOk.get rfl) rfl (tysOk.get rfl) rfl rfl rfl rfl rfl (by repeat (first | exact BuildP.nil | ((apply BuildP.many); (rfl); (rfl); (rfl); (rfl); (repeat (first | exact PutL.nil | ((apply PutL.cons); (repeat (first | exact SetL.z | apply SetL.s)))))))) rfl (fun b => ?_))))) | (with_reducible first | apply Tr.next | apply Tr.seq | apply Tr.region | apply Tr.nil)))
 refine pbQ (r := box b 46 _) (fun M2 hm2 hokb => ?_)
 have hokb : (box b 46 (rqC r)).ok M2 := hokb
 have hone : SlOf 6 RRqC M2 (.slice (some ⟨b, 0, none⟩) 1 1) [r] := SlOf.ofBoxC (n := 1) (c := 1) (xs := [r]) hokb rfl rfl (Nat.le_refl _) (by decide) (rqC_one r) (rqC_elems M2 [r])
 have hm02 := hm1.trans hm2
 ((refine Tr.step rfl ?_))
 refine Exec.callv (first := []) (cap := [.pointer (some ⟨b8, 0, none⟩), .pointer (some ⟨b9, 0, none⟩)]) (A := [box b9 44 [.int .i64 k.known, .slice As k.sups.length cs, .slice Ar k.reqs.length cr, .slice Af k.fits.length cf, .slice Ad k.rds.length cd], box b8 38 ws]) rfl rfl (maker1_fn M2 ws w (hw.mono hm02) k As Ar Af Ad cs cr cf cd (h1.mono RSpC.mono hm02) (h2.mono RRqC.mono hm02) (h3.mono RRowB.mono hm02) (h4.mono RRd.mono hm02) b8 b9 (some ⟨b, 0, none⟩) 1 [r] hone) (take2 (by repeat (first | exact Del.here | apply Del.there)) (by repeat (first | exact Del.here | apply Del.there))) rfl ?_
 rintro v M3 _ hm3 ⟨rfl, hmk⟩
 rcases hmk with ⟨hnk, rfl⟩ | ⟨-, x, rfl, A1, c1, A2, c2, A3, c3, D, cD, rfl, -, -, -, hD⟩
 ·exact absurd ⟨⟨hok.1.1, by simp⟩, hok.2.1, fun y hy => by simp at hy; subst hy; exact hbase⟩ hnk
 dsimp only [mkF] at hD ⊢
 (repeat (first | ((with_reducible refine Tr.step rfl ?_); (first | (refine xmQ ?_) | (refine xaQ ?_) | (refine xWQ ?_) | ((with_reducible refine Knd.alloc ?_); (refine Exec.alloc (tysOk.get rfl) rfl rfl (fun b => ?_))) | ((with_reducible refine Knd.extract ?_); (refine Exec.stab rfl (Stab.extract rfl rfl) rfl ?_)))) | (with_reducible first | apply Tr.next | apply Tr.seq | apply Tr.region | apply Tr.nil)))
 ((refine Tr.step rfl ?_)); refine Exec.call0 rfl (must_y M3) rfl ?_
 rintro _ _ _ rfl
 (repeat (first | ((with_reducible refine Tr.step rfl ?_); (first | ((with_reducible refine Knd.load ?_); (first | (refine xlQ ?_) | (refine xwQ ?_))) | (refine xfQ ?_) | (refine xSQ ?_))) | (with_reducible first | apply Tr.next | apply Tr.seq | apply Tr.region | apply Tr.nil)))
 have hm13 := hm2.trans hm3
 have ga : (amR (k.reqs ++ [r])).length = k.reqs.length + 1 := by simp [amR]
 ((refine Tr.step rfl ?_)); refine Exec.call0 rfl (amounts_fn M3 (mkF w k (k.reqs ++ [r])) As' Ar' Af' Ad' cs' cr' cf' cd' (g1.mono RSpC.mono hm13) (g2.mono RRqC.mono hm13) (g3.mono RRowB.mono hm13) (g4.mono RRd.mono hm13) (by show k.sups.length ≤ _; omega) (by show (k.reqs ++ [r]).length ≤ _; simp; omega)) rfl ?_
 rintro _ M4 hm4 ⟨P1, q1, P2, q2, rfl, hI1, hI2⟩
 dsimp only [mkF] at hI1 hI2 ⊢
 (refine rQ ?_)
 have hvld := okT_vld (w := w) (known := k.known) hok
 have rs : I64s (amS k.sups) := fun x hx => by have := hvld.rs x hx; omega
 have rn : I64s (amR (k.reqs ++ [r])) := fun x hx => by have := hvld.rn x hx; omega
 have hm14 := hm13.trans hm4
 ((refine Tr.step rfl ?_)); refine Exec.call0 rfl (flow_fn M4 Af' P1 P2 cf' q1 q2 (fitsT w k.known k.sups (k.reqs ++ [r])) (amS k.sups) (amR (k.reqs ++ [r])) (g3.mono RRowB.mono hm14) hI1 hI2 rs rn) rfl ?_
 have hask : askE w k r = 0 := by rw [askE, if_neg (fun h => h hv), if_neg hno, if_neg (fun h => h.elim (fun h => h hbase) (fun h => by omega))]
 rintro _ M5 hm5 (⟨hbad, -⟩ | ⟨-, hnf, B, kk, rfl, hI⟩ | ⟨-, al, hlex, A9, c9, rfl, hI⟩)
 ·rw [vld_iff.2 hvld] at hbad
  cases hbad
 rotate_left
 ·(repeat (first | ((with_reducible refine Tr.step rfl ?_); (first | (refine xmQ ?_) | (refine xaQ ?_) | ((with_reducible refine Knd.extract ?_); (refine Exec.stab rfl (Stab.extract rfl rfl) rfl ?_)))) | (with_reducible first | apply Tr.next | apply Tr.seq | apply Tr.region | apply Tr.nil)))
  ((refine Tr.step rfl ?_)); refine Exec.call0 rfl (must_y M5) rfl ?_
  rintro _ _ _ rfl
  (repeat (first | ((with_reducible refine Tr.step rfl ?_); (first | (refine xmQ ?_) | (refine xfQ ?_) | (refine xSQ ?_))) | (with_reducible first | apply Tr.next | apply Tr.seq | apply Tr.region | apply Tr.nil) | (refine Tr.cond_bt rfl (by (with_reducible rfl)) ?_)))
  refine ftQ (r := box bx 44 _) ?_
  refine ftQ (r := box b7 54 _) ?_
  refine ftQ (r := box b6 44 _) ?_
  (((apply Tr.draw ((box b7 54 _ :: _))); (kernel_rfl)); (refine tkQ 0 (hB := by exact (Sub.mem (by repeat (first | exact Sub.refl | apply Sub.cons)))) (s := by exact swQ) ?_); (refine tkQ 1 (s := by exact swQ) ?_); (refine TrA.eff 2 rfl (by kernel_rfl) (by exact .inl rfl) ?_); (((refine Knd.store ?_); ((refine xWQ ?_)))); (refine ⟨(by first | exact Mem.le.refl _ | assumption), (by exact (Sub.mem (by repeat (first | exact Sub.refl | apply Sub.cons)))), ?_⟩); (refine TrA.effD 3 rfl (by kernel_rfl) (by kernel_rfl) (by exact .inl rfl) ?_); (((refine Knd.store ?_); ((refine xWQ ?_)))); (refine ⟨_, fun _ h => h, ?_⟩); (refine TrA.done (by kernel_rfl) ?_))
  (repeat (first | (with_reducible first | apply Tr.next | apply Tr.ret | apply Tr.then_ret)))
  have hm15 := hm14.trans hm5
  have hm05 := hm1.trans hm15
  have hm35 := hm4.trans hm5
  refine Tr.ofPost ?_
  (refine Tr.done (by first | exact .inl rfl | exact .inr rfl) rfl (by repeat (first | exact RVs.nil | (apply RVs.cons; (exact RV.cellW (by rfl) (tysOk.get (by rfl)) (by rfl) (by repeat (first | exact Has.here | apply Has.there)) (by first | rfl | assumption))))) (by first | exact Mem.le.refl _ | assumption) (by exact ⟨[_, _, _, _, _, _, _, _, _, _], rfl⟩) ⟨rfl, ?_⟩)
  exact ⟨hask, _, _, rfl, D, cD, hD.mono RRd.mono hm35, .inl ⟨⟨al, hlex.1⟩, ⟨As', cs', Ar', cr', Af', cf', Ad', cd', rfl, g1.mono RSpC.mono hm15, g2.mono RRqC.mono hm15, g3.mono RRowB.mono hm15, g4.mono RRd.mono hm15⟩, al, A9, c9, hlex, rfl, hI⟩⟩
 (repeat (first | ((with_reducible refine Tr.step rfl ?_); (first | (refine xmQ ?_) | (refine xaQ ?_) | ((with_reducible refine Knd.extract ?_); (refine Exec.stab rfl (Stab.extract rfl rfl) rfl ?_)))) | (with_reducible first | apply Tr.next | apply Tr.seq | apply Tr.region | apply Tr.nil)))
 ((refine Tr.step rfl ?_)); refine Exec.call0 rfl (must_y M5) rfl ?_
 rintro _ _ _ rfl
 (repeat (first | ((with_reducible refine Tr.step rfl ?_); (first | (refine xmQ ?_) | (refine xnQ ?_))) | (with_reducible first | apply Tr.next | apply Tr.seq | apply Tr.region | apply Tr.nil | apply Tr.skip | apply Tr.block) | (refine Tr.cond_bf rfl (by (with_reducible rfl)) ?_)))
 generalize b = ba
 refine gvQ (r := box ba _ _) ?_
 refine gvQ (r := box b9 _ _) ?_
 refine gvQ (r := box b8 _ _) ?_
 refine gvQ (r := box _ 46 _) ?_
 refine gvQ (r := box b5 _ _) ?_
 refine gvQ (r := box b3 _ _) ?_
 refine Tr.own_nil 3 1 ?_
 have hI : Ints M5 (.slice B (cutB w k r).length kk) (cutB w k r) := hI
 have hcl : (cutB w k r).length ≤ 64 := Nat.le_trans (memF_len _ _) (by omega)
 have hcm : ∀ x ∈ cutB w k r, ∃ n : Nat, n < (k.reqs ++ [r]).length ∧ x = (n : Int) := fun x hx => by
  simp only [cutB, memF, List.mem_map, List.mem_filter, List.mem_range] at hx
  obtain ⟨n, ⟨hn, -⟩, rfl⟩ := hx
  exact ⟨n, by simpa [amR] using hn, rfl⟩
 refine Tr.loop (α := Nat × Option Addr × Nat) (fun y => ⟨96, [(78, .int .i64 (y.1 : Int)), (77, .int .i64 ((cutB w k r).length : Int)), (76, .slice B (cutB w k r).length kk), (9, .pointer (some ⟨bx, 0, none⟩)), (7, .pointer (some ⟨b7, 0, none⟩)), (6, .pointer (some ⟨b6, 0, none⟩)), (4, .pointer (some ⟨b4, 0, none⟩))], [], M5,
   ownS 3 1 y.2.1 y.1 y.2.2 (intV ((confF w k r).take y.1)) :: box bx 44 [.int .i64 k.known, .slice As' k.sups.length cs', .slice Ar' (k.reqs ++ [r]).length cr', .slice Af' (fitsT w k.known k.sups (k.reqs ++ [r])).length cf', .slice Ad' (readsF w k.sups (k.reqs ++ [r])).length cd'] :: box b7 54 [.bool false, .slice none 0 0, .slice y.2.1 y.1 y.2.2, .slice D (readsF w k.sups [r]).length cD] :: box b6 44 [.int .i64 0, .slice none 0 0, .slice none 0 0, .slice none 0 0, .slice none 0 0] :: box b4 44 [.int .i64 k.known, .slice As k.sups.length cs, .slice Ar k.reqs.length cr, .slice Af k.fits.length cf, .slice Ad k.rds.length cd] :: ([] ++ F)⟩)
  (fun y => y.1 ≤ (cutB w k r).length ∧ y.2.2 ≤ 9223372036854775807) (fun y => (cutB w k r).length - y.1) (0, none, 0) ⟨Nat.zero_le _, by simp⟩ hsQ (fun y hy => ?_)
 obtain ⟨i, C, cc⟩ := y
 obtain ⟨hi, hcc⟩ := hy
 simp only at hi hcc
 dsimp only
 have hm15 := hm14.trans hm5
 have hm05 := hm1.trans hm15
 have hm35 := hm4.trans hm5
 by_cases hlt : i < (cutB w k r).length
 ·obtain ⟨x, hx⟩ := get_of_lt hlt
  obtain ⟨hA, hat⟩ := hI.at hx
  obtain ⟨n, hn, rfl⟩ := hcm x (List.mem_of_getElem? hx)
  obtain ⟨y, hy⟩ := get_of_lt hn
  obtain ⟨hA2, ch2, hat2, rfl⟩ := (g2.mono RRqC.mono hm15).elem hy
  have hat3 : At M5 (((Ar'.getD default).add (n * 6)).add 0) [.int .i64 y.no, .int .i64 y.item, .int .i64 y.cust, .int .i64 y.due, .int .i64 y.shelf, .int .i64 y.amount] := hat2.drop 0
  have hcf : (confF w k r).take (i + 1) = (confF w k r).take i ++ [y.no] := by
   unfold confF
   have e2 : ((k.reqs ++ [r]).map (·.no)).getD ((n : Int)).toNat 0 = y.no := by
    rw [List.getD_eq_getElem?_getD, Int.toNat_natCast, List.getElem?_map, hy]; rfl
   rw [← List.map_take, ← List.map_take, nums_take _ hx, e2]
  (refine rQ ?_)
  (((apply Tr.draw ((box bx 44 _ :: _))); (kernel_rfl)); (refine tkQ 0 (hB := by exact (Sub.mem (by repeat (first | exact Sub.refl | apply Sub.cons)))) (s := by exact sfQ) ?_); (refine tkQ 2 (s := by exact sfQ) ?_); (refine tkQ 4 (s := by exact Stab.move rfl) ?_); (refine tkQ 1 (s := by exact slQ) ?_); (refine tkQ 3 (s := by exact slQ) ?_); (refine tkQ 5 (s := by exact sxQ) ?_); (refine tkQ 6 (s := by exact Stab.fieldD rfl (tysOk.get rfl) rfl rfl (tysOk.get rfl) rfl) ?_); (refine tkQ 7 (s := by exact sMQ) ?_); (refine TrA.eff 8 rfl (by kernel_rfl) (by exact .inl rfl) ?_); (((refine Knd.buildSlice ?_); ((refine Exec.buildSlice (tysOk.get rfl) rfl (tysOk.get rfl) rfl rfl rfl rfl rfl (by repeat (first | exact BuildP.nil | ((apply BuildP.one); (rfl); (rfl); (first | rfl | assumption); (repeat (first | exact SetL.z | apply SetL.s))))) rfl (fun b => ?_))))); (refine ⟨(by first | exact Mem.le.refl _ | assumption), (by exact (Sub.mem (by repeat (first | exact Sub.refl | apply Sub.cons)))), ?_⟩); (refine TrA.eff 9 rfl (by kernel_rfl) (by exact .inl rfl) ?_))
  refine Exec.append (news := [.int .i64 y.no]) rfl rfl (tysOk.get rfl) rfl (tysOk.get rfl) rfl rfl rfl rfl (by repeat (first | exact Del.here | apply Del.there)) (Src.box (by repeat (first | exact Has.here | apply Has.there))) rfl (by intro u hu; simp at hu; subst hu; rfl) (by omega) (by omega) rfl (fun C2 cc2 hcc2 => ?_)
  refine ⟨(by first | exact Mem.le.refl _ | assumption), (by exact (Sub.mem (by repeat (first | exact Sub.refl | apply Sub.cons)))), ?_⟩
  ((refine tkQ 10 (s := by exact sfQ) ?_); (refine TrA.effD 11 rfl (by kernel_rfl) (by kernel_rfl) (by exact .inl rfl) ?_); (((refine Knd.store ?_); ((refine xSQ ?_)))); (refine ⟨_, fun _ h => h, ?_⟩); (refine TrA.done (by kernel_rfl) ?_))
  refine gvQ (r := box _ 3 _) ?_
  rw [show intV ((confF w k r).take i) ++ [Value.int .i64 y.no] = intV ((confF w k r).take (i + 1)) by rw [hcf, intV_append]; rfl]
  (repeat (first | ((with_reducible refine Tr.step rfl ?_); (first | (refine xmQ ?_) | (refine xdQ ?_))) | (with_reducible first | apply Tr.next | apply Tr.region | apply Tr.nil | apply Tr.in_normal)))
  exact Tr.again (i + 1, C2, cc2) ⟨by simp only; omega, hcc2⟩ (by simp only; omega) hsQ
 have ei : i = (cutB w k r).length := by omega
 subst ei
 have hcfl : (confF w k r).length = (cutB w k r).length := by simp [confF]
 rw [← hcfl, List.take_length]
 refine pbQ (r := ownS 3 1 C _ _ _) (fun M6 hm6 hok6 => ?_)
 have hC : Ints M6 (.slice C (confF w k r).length cc) (confF w k r) := Ints.ofOwn hok6 rfl hcc
 have hm06 := hm05.trans hm6
 have hm36 := hm35.trans hm6
 (refine rQ ?_)
 refine ftQ (r := box b6 44 _) ?_
 (((apply Tr.draw ((box bx 44 _ :: _))); (kernel_rfl)); (refine tkQ 0 (hB := by exact (Sub.mem (by repeat (first | exact Sub.refl | apply Sub.cons)))) (s := by exact swQ) ?_); (refine tkQ 1 (s := by exact swQ) ?_); (refine TrA.eff 2 rfl (by kernel_rfl) (by exact .inl rfl) ?_); (((refine Knd.store ?_); ((refine xWQ ?_)))); (refine ⟨(by first | exact Mem.le.refl _ | assumption), (by exact (Sub.mem (by repeat (first | exact Sub.refl | apply Sub.cons)))), ?_⟩); (refine TrA.effD 3 rfl (by kernel_rfl) (by kernel_rfl) (by exact .inl rfl) ?_); (((refine Knd.store ?_); ((refine xWQ ?_)))); (refine ⟨_, fun _ h => h, ?_⟩); (refine TrA.done (by kernel_rfl) ?_))
 (repeat (first | (with_reducible first | apply Tr.next | apply Tr.ret)))
 refine Tr.ofPost ?_
 (refine Tr.done (by first | exact .inl rfl | exact .inr rfl) rfl (by repeat (first | exact RVs.nil | (apply RVs.cons; (exact RV.cellW (by rfl) (tysOk.get (by rfl)) (by rfl) (by repeat (first | exact Has.here | apply Has.there)) (by first | rfl | assumption))))) (by first | exact Mem.le.refl _ | assumption) (by exact ⟨[_, _, _, _], rfl⟩) ⟨rfl, ?_⟩)
 exact ⟨hask, _, _, rfl, D, cD, hD.mono RRd.mono hm36, .inr ⟨hnf, ⟨As, cs, Ar, cr, Af, cf, Ad, cd, rfl, h1.mono RSpC.mono hm06, h2.mono RRqC.mono hm06, h3.mono RRowB.mono hm06, h4.mono RRd.mono hm06⟩, C, cc, rfl, hC⟩⟩
end Go.Proofs.YtmikfjcdgkopkaaGreat

/-
 Promises: Ask and New.
 Conditions: none.
-/
namespace Go.Proofs.YtmikfjcdgkopkaaGreat
open Go Bf
attribute [local irreducible] Tr Exec Stab HasTy Go.Addr.add IntKind.wrap
theorem RBp.lit {M : Mem} {v : Value} {k : Bp} (h : RBp M v k) : ∃ As cs Ar cr Af cf Ad cd, v = .agg #[.int .i64 k.known, .slice As k.sups.length cs, .slice Ar k.reqs.length cr, .slice Af k.fits.length cf, .slice Ad k.rds.length cd] := by
 obtain ⟨As, cs, Ar, cr, Af, cf, Ad, cd, rfl, -⟩ := h
 exact ⟨As, cs, Ar, cr, Af, cf, Ad, cd, rfl⟩
theorem AskR.lit {w : Wd} {k : Bp} {r : Rq} {x a : Value} {M : Mem} (h : AskR w k r x a M) : ∃ x1 x2 x3 x4 x5 a1 a2 a3 a4, x = .agg #[x1, x2, x3, x4, x5] ∧ a = .agg #[a1, a2, a3, a4] ∧ (x1.oneCell' = true ∧ x2.oneCell' = true ∧ x3.oneCell' = true ∧ x4.oneCell' = true ∧ x5.oneCell' = true) ∧ a1.oneCell' = true ∧ a2.oneCell' = true ∧ a3.oneCell' = true ∧ a4.oneCell' = true := by
 obtain ⟨D, cd, -, ⟨-, hx, al, A, c, -, rfl, -⟩ | ⟨-, hx, B, c, rfl, -⟩⟩ := h <;> obtain ⟨As, cs, Ar, cr, Af, cf, Ad, cd, rfl⟩ := hx.lit <;> exact ⟨_, _, _, _, _, _, _, _, _, rfl, rfl, ⟨rfl, rfl, rfl, rfl, rfl⟩, rfl, rfl, rfl, rfl⟩
def AskV (w : Wd) (k : Bp) (r : Rq) (v : Value) (M : Mem) : Prop :=
 (askE w k r = 0 ∧ okB w k ∧ ∃ x a, v = .tuple #[x, a, .int .i64 0] ∧ AskR w k r x a M) ∨ (askE w k r ≠ 0 ∧ v = .tuple #[.agg #[.int .i64 0, .slice none 0 0, .slice none 0 0, .slice none 0 0, .slice none 0 0], .agg #[.bool false, .slice none 0 0, .slice none 0 0, .slice none 0 0], .int .i64 (askE w k r)])
set_option maxHeartbeats 8000000 in
theorem ask1c_fn (M : Mem) (ws : List Value) (w : Wd) (hw : RWd M ws w) (k : Bp) (As Ar Af Ad : Option Addr) (cs cr cf cd : Nat) (h1 : SlOf 6 RSpC M (.slice As k.sups.length cs) k.sups) (h2 : SlOf 6 RRqC M (.slice Ar k.reqs.length cr) k.reqs) (h3 : Fits2 M (.slice Af k.fits.length cf) k.fits) (h4 : SlOf 5 RRd M (.slice Ad k.rds.length cd) k.rds) (hfc : cf ≤ 9223372036854775807) (r : Rq) (b3 b4 b5 b6 b7 : Nat) :
  FnP Tryz.prog 38 [.pointer (some ⟨b3, 0, none⟩), .pointer (some ⟨b4, 0, none⟩), .pointer (some ⟨b5, 0, none⟩), .pointer (some ⟨b6, 0, none⟩), .pointer (some ⟨b7, 0, none⟩)] M [box b3 38 ws, box b4 44 [.int .i64 k.known, .slice As k.sups.length cs, .slice Ar k.reqs.length cr, .slice Af k.fits.length cf, .slice Ad k.rds.length cd], box b5 46 [.int .i64 r.no, .int .i64 r.item, .int .i64 r.cust, .int .i64 r.due, .int .i64 r.shelf, .int .i64 r.amount], box b6 44 [.int .i64 0, .slice none 0 0, .slice none 0 0, .slice none 0 0, .slice none 0 0], box b7 54 [.bool false, .slice none 0 0, .slice none 0 0, .slice none 0 0]]
   (fun _ M' A' => okB w k ∧ askE w k r = 0 ∧ ∃ x1 x2 x3 x4 x5 a1 a2 a3 a4, AskR w k r (.agg #[x1, x2, x3, x4, x5]) (.agg #[a1, a2, a3, a4]) M' ∧ A' = [box b6 44 [x1, x2, x3, x4, x5], box b7 54 [a1, a2, a3, a4]])
   (fun ch _ A' => ∃ e, ch = prCh e ∧ A' = [box b6 44 [.int .i64 0, .slice none 0 0, .slice none 0 0, .slice none 0 0, .slice none 0 0], box b7 54 [.bool false, .slice none 0 0, .slice none 0 0, .slice none 0 0]] ∧ askE w k r = e ∧ e ≠ 0) := by
 have h11 := hw.len
 refine FnP.intro Tryz.func38 rfl rfl Tryz.ntmps38 rfl fun E F => ?_
 (repeat (first | ((with_reducible refine Tr.step rfl ?_); (with_reducible refine Knd.load ?_); (first | (refine xwQ ?_) | (refine Exec.stab rfl (Stab.loadW rfl (tysOk.get rfl) rfl (by repeat (first | exact Has.here | apply Has.there)) (by assumption)) rfl ?_))) | (with_reducible first | apply Tr.seq | apply Tr.region)))
 ((refine Tr.step rfl ?_))
 refine Exec.callP rfl (check_fn M ws w hw k As Ar Af Ad cs cr cf cd h1 h2 h3 h4 hfc) (List.Perm.refl _) rfl (fun v M' A' hm hR => ?_) (fun ch M' A' hm hR => ?_)
 rotate_left
 ·obtain ⟨rfl, rfl, hn⟩ := hR
  (repeat ((with_reducible refine Tr.then_panic ?_)))
  exact Tr.doneP (A' := [box b6 44 [.int .i64 0, .slice none 0 0, .slice none 0 0, .slice none 0 0, .slice none 0 0], box b7 54 [.bool false, .slice none 0 0, .slice none 0 0, .slice none 0 0]]) hm (by repeat (first | exact DropL.refl | apply DropL.skip)) ⟨310, rfl, rfl, by rw [askE, if_pos hn], by decide⟩
 obtain ⟨rfl, hv⟩ := hR
 (repeat (first | ((with_reducible refine Tr.step rfl ?_); (with_reducible refine Knd.load ?_); (first | (refine xwQ ?_) | (refine Exec.stab rfl (Stab.loadW rfl (tysOk.get rfl) rfl (by repeat (first | exact Has.here | apply Has.there)) (by assumption)) rfl ?_))) | (with_reducible first | apply Tr.next | apply Tr.region | apply Tr.nil)))
 ((refine Tr.step rfl ?_))
 refine Exec.callP rfl (ask_fn M' ws w (hw.mono hm) k As Ar Af Ad cs cr cf cd (h1.mono RSpC.mono hm) (h2.mono RRqC.mono hm) (h3.mono RRowB.mono hm) (h4.mono RRd.mono hm) hv r) (List.Perm.refl _) rfl (fun v M2 A' hm2 hR => ?_) (fun ch M2 A' hm2 hR => ?_)
 rotate_left
 ·obtain ⟨e, rfl, rfl, he, hne⟩ := hR
  (skip)
  exact Tr.doneP (A' := [box b6 44 [.int .i64 0, .slice none 0 0, .slice none 0 0, .slice none 0 0, .slice none 0 0], box b7 54 [.bool false, .slice none 0 0, .slice none 0 0, .slice none 0 0]]) (hm.trans hm2) (by repeat (first | exact DropL.refl | apply DropL.skip)) ⟨e, rfl, rfl, he, hne⟩
 obtain ⟨rfl, hask, x, a, rfl, hR⟩ := hR
 obtain ⟨x1, x2, x3, x4, x5, a1, a2, a3, a4, rfl, rfl, ⟨o1, o2, o3, o4, o5⟩, o6, o7, o8, o9⟩ := hR.lit
 (repeat (first | ((with_reducible refine Tr.step rfl ?_); (first | (refine xmQ ?_) | (refine xWQ ?_) | ((with_reducible refine Knd.extract ?_); (refine Exec.stab rfl (Stab.extract rfl rfl) rfl ?_)))) | (with_reducible refine Tr.nil ?_)))
 refine Tr.ofPost ?_
 refine Tr.doneB (A' := [box b6 44 [x1, x2, x3, x4, x5], box b7 54 [a1, a2, a3, a4]]) [_, _, _] (by first | exact .inl rfl | exact .inr rfl) rfl (by repeat (exact RVs.nil)) (hm.trans hm2) (List.Perm.refl _) ⟨hv, hask, x1, x2, x3, x4, x5, a1, a2, a3, a4, hR, rfl⟩
set_option maxHeartbeats 8000000 in
theorem askA_fn (M : Mem) (ws : List Value) (w : Wd) (hw : RWd M ws w) (v : Value) (k : Bp) (hk : RBp M v k) (_ : k.fits.length ≤ 9223372036854775807) (r : Rq) :
  Fn0 Tryz.prog 14 [.agg ws.toArray, v, .agg #[.int .i64 r.no, .int .i64 r.item, .int .i64 r.cust, .int .i64 r.due, .int .i64 r.shelf, .int .i64 r.amount]] M (fun v M' => AskV w k r v M') := by
 have h11 := hw.len
 obtain ⟨As, cs, Ar, cr, Af, cf, Ad, cd, rfl, h1, h2, h3, h4⟩ := hk
 have hfc2 := fits_cap h3
 refine Fn.intro Tryz.func14 rfl rfl Tryz.ntmps14 rfl fun E F => ?_
 (repeat (first | ((with_reducible refine Tr.step rfl ?_); (first | (refine xaQ ?_) | ((with_reducible refine Knd.makeFunc ?_); (refine Exec.stab rfl (Stab.makeFunc rfl rfl) rfl ?_)) | ((with_reducible refine Knd.box ?_); (refine Exec.box rfl rfl (fun b => ?_))) | ((with_reducible refine Knd.alloc ?_); (refine Exec.alloc (tysOk.get rfl) rfl rfl (fun b => ?_))))) | (with_reducible first | apply Tr.next | apply Tr.seq | apply Tr.region | apply Tr.nil)))
 rename_i b3 b4 b5 b6
 generalize b = b7
 ((refine Tr.step rfl ?_))
 refine Exec.call (A := [box b3 38 ws, box b4 44 [.int .i64 k.known, .slice As k.sups.length cs, .slice Ar k.reqs.length cr, .slice Af k.fits.length cf, .slice Ad k.rds.length cd], box b5 46 [.int .i64 r.no, .int .i64 r.item, .int .i64 r.cust, .int .i64 r.due, .int .i64 r.shelf, .int .i64 r.amount], box b6 44 [.int .i64 0, .slice none 0 0, .slice none 0 0, .slice none 0 0, .slice none 0 0], box b7 54 [.bool false, .slice none 0 0, .slice none 0 0, .slice none 0 0]]) rfl (pattempt_fn M 38 [.pointer (some ⟨b3, 0, none⟩), .pointer (some ⟨b4, 0, none⟩), .pointer (some ⟨b5, 0, none⟩), .pointer (some ⟨b6, 0, none⟩), .pointer (some ⟨b7, 0, none⟩)] _ _ (fun e _ A' => A' = [box b6 44 [.int .i64 0, .slice none 0 0, .slice none 0 0, .slice none 0 0, .slice none 0 0], box b7 54 [.bool false, .slice none 0 0, .slice none 0 0, .slice none 0 0]] ∧ askE w k r = e ∧ e ≠ 0) (ask1c_fn M ws w hw k As Ar Af Ad cs cr cf cd h1 h2 h3 h4 hfc2.2 r b3 b4 b5 b6 b7)) (take5 (by repeat (first | exact Del.here | apply Del.there)) (by repeat (first | exact Del.here | apply Del.there)) (by repeat (first | exact Del.here | apply Del.there)) (by repeat (first | exact Del.here | apply Del.there)) (by repeat (first | exact Del.here | apply Del.there))) rfl ?_
 rintro _ M1 A' hm (⟨rfl, -, hv, hask, x1, x2, x3, x4, x5, a1, a2, a3, a4, hR, rfl⟩ | ⟨e, rfl, rfl, he, hne⟩)
 ·simp only [List.cons_append, List.nil_append]
  obtain ⟨y1, y2, y3, y4, y5, z1, z2, z3, z4, e1, e2, ⟨o1, o2, o3, o4, o5⟩, o6, o7, o8, o9⟩ := hR.lit
  injection e1 with e1
  injection e2 with e2
  simp only [Array.mk.injEq, List.cons.injEq, and_true] at e1 e2
  obtain ⟨rfl, rfl, rfl, rfl, rfl⟩ := e1
  obtain ⟨rfl, rfl, rfl, rfl⟩ := e2
  (repeat (first | ((with_reducible refine Tr.step rfl ?_); (with_reducible refine Knd.assign ?_); (refine xaQ ?_)) | (with_reducible first | apply Tr.next | apply Tr.seq | apply Tr.nil)))
  (((apply Tr.draw); (kernel_rfl)); (refine tkQ 0 (hB := by exact fun _ h => h) (s := by exact swQ) ?_); (refine tkQ 1 (s := by exact swQ) ?_); (refine tkQ 2 (s := by exact Stab.move rfl) ?_); (refine TrA.eff 3 rfl (by kernel_rfl) (by exact .inl rfl) ?_); (((refine Knd.store ?_); ((refine xWQ ?_)))); (refine ⟨(by first | exact Mem.le.refl _ | assumption), (by exact fun _ h => h), ?_⟩); (refine TrA.eff 4 rfl (by kernel_rfl) (by exact .inl rfl) ?_); (((refine Knd.store ?_); ((refine xWQ ?_)))); (refine ⟨(by first | exact Mem.le.refl _ | assumption), (by exact fun _ h => h), ?_⟩); (refine tkQ 5 (s := by exact Stab.assign rfl) ?_); (refine TrA.done (by kernel_rfl) ?_))
  (repeat (first | (with_reducible first | apply Tr.next | apply Tr.ret)))
  (refine Tr.done (by first | exact .inl rfl | exact .inr rfl) rfl (by repeat (first | exact RVs.nil | (apply RVs.cons; (first | exact RV.tmp rfl | exact RV.cellW (by rfl) (tysOk.get (by rfl)) (by rfl) (by repeat (first | exact Has.here | apply Has.there)) (by first | rfl | assumption))))) (by first | exact Mem.le.refl _ | assumption) (by exact ⟨[_, _], rfl⟩) ⟨rfl, ?_⟩)
  exact .inl ⟨hask, hv, _, _, rfl, hR⟩
 ·simp only [List.cons_append, List.nil_append]
  (repeat (first | ((with_reducible refine Tr.step rfl ?_); (with_reducible refine Knd.assign ?_); (refine xaQ ?_)) | (with_reducible first | apply Tr.next | apply Tr.seq | apply Tr.nil)))
  (((apply Tr.draw); (kernel_rfl)); (refine tkQ 0 (hB := by exact fun _ h => h) (s := by exact swQ) ?_); (refine tkQ 1 (s := by exact swQ) ?_); (refine tkQ 2 (s := by exact Stab.move rfl) ?_); (refine TrA.eff 3 rfl (by kernel_rfl) (by exact .inl rfl) ?_); (((refine Knd.store ?_); ((refine xWQ ?_)))); (refine ⟨(by first | exact Mem.le.refl _ | assumption), (by exact fun _ h => h), ?_⟩); (refine TrA.eff 4 rfl (by kernel_rfl) (by exact .inl rfl) ?_); (((refine Knd.store ?_); ((refine xWQ ?_)))); (refine ⟨(by first | exact Mem.le.refl _ | assumption), (by exact fun _ h => h), ?_⟩); (refine tkQ 5 (s := by exact Stab.assign rfl) ?_); (refine TrA.done (by kernel_rfl) ?_))
  (repeat (first | (with_reducible first | apply Tr.next | apply Tr.ret)))
  (refine Tr.done (by first | exact .inl rfl | exact .inr rfl) rfl (by repeat (first | exact RVs.nil | (apply RVs.cons; (first | exact RV.tmp rfl | exact RV.cellW (by rfl) (tysOk.get (by rfl)) (by rfl) (by repeat (first | exact Has.here | apply Has.there)) (by first | rfl | assumption))))) (by first | exact Mem.le.refl _ | assumption) (by exact ⟨[_, _], rfl⟩) ⟨rfl, ?_⟩)
  exact .inr ⟨he ▸ hne, by rw [he]; rfl⟩
end Go.Proofs.YtmikfjcdgkopkaaGreat

/-
 Promises: New. Refusals: amounts and Least.
 Conditions: none.
-/
namespace Go.Proofs.YtmikfjcdgkopkaaGreat
open Go Bf
attribute [local irreducible] Tr Exec Stab HasTy Go.Addr.add IntKind.wrap
def bkN (known : Int) (s : List Sp) : Bp := ⟨known, s, [], [], []⟩
def NewV (w : Wd) (s : List Sp) (known : Int) (v : Value) (M : Mem) : Prop :=
 (¬ okT s [] ∧ v = .tuple #[.agg #[.int .i64 0, .slice none 0 0, .slice none 0 0, .slice none 0 0, .slice none 0 0], .int .i64 290]) ∨ (okT s [] ∧ ¬ (s.map (·.no)).Nodup ∧ v = .tuple #[.agg #[.int .i64 0, .slice none 0 0, .slice none 0 0, .slice none 0 0, .slice none 0 0], .int .i64 310]) ∨
 (okT s [] ∧ (s.map (·.no)).Nodup ∧ ∃ x, v = .tuple #[x, .int .i64 0] ∧ RBp M x (mkF w (bkN known s) []))
set_option maxHeartbeats 8000000 in
theorem new_fn (M : Mem) (ws : List Value) (w : Wd) (hw : RWd M ws w) (As : Option Addr) (cs : Nat) (s : List Sp) (hs : SlOf 6 RSpC M (.slice As s.length cs) s) (known : Int) :
  Fn0 Tryz.prog 12 [.agg ws.toArray, .slice As s.length cs, .int .i64 known] M (fun v M' => NewV w s known v M') := by
 have h11 := hw.len
 refine Fn.intro Tryz.func12 rfl rfl Tryz.ntmps12 rfl fun E F => ?_
 (repeat (first | ((with_reducible refine Tr.step rfl ?_); (first | (refine xmQ ?_) | (refine xaQ ?_) | ((with_reducible refine Knd.load ?_); (refine Exec.stab rfl (Stab.loadW rfl (tysOk.get rfl) rfl (by repeat (first | exact Has.here | apply Has.there)) (by assumption)) rfl ?_)) | ((with_reducible refine Knd.box ?_); (refine Exec.box rfl rfl (fun b => ?_))) | ((with_reducible refine Knd.alloc ?_); (refine Exec.alloc (tysOk.get rfl) rfl rfl (fun b => ?_))) | ((with_reducible refine Knd.build ?_); (refine Exec.stab rfl (Stab.build tysOk rfl rfl rfl rfl (by repeat (first | exact BuildP.nil | ((apply BuildP.one); (rfl); (rfl); (first | rfl | assumption); (repeat (first | exact SetL.z | apply SetL.s)))))) rfl ?_)))) | (with_reducible first | apply Tr.next | apply Tr.seq | apply Tr.region | apply Tr.nil)))
 rename_i b3
 generalize b = b6
 ((refine Tr.step rfl ?_))
 refine Exec.call (A := []) rfl (maker_fn M ws (bkN known s) As none none none cs 0 0 0) (List.Perm.refl _) rfl ?_
 rintro _ _ _ _ ⟨b8, b9, rfl, rfl, rfl⟩
 (skip)
 ((refine Tr.step rfl ?_))
 refine Exec.callv (first := []) (cap := [.pointer (some ⟨b8, 0, none⟩), .pointer (some ⟨b9, 0, none⟩)]) (A := [box b9 44 [.int .i64 known, .slice As s.length cs, .slice none 0 0, .slice none 0 0, .slice none 0 0], box b8 38 ws]) rfl rfl (maker1_fn M ws w hw (bkN known s) As none none none cs 0 0 0 hs (SlOf.nil _ _ _) (SlOf.nil _ _ _) (SlOf.nil _ _ _) b8 b9 none 0 [] (SlOf.nil _ _ _)) (take2 (by repeat (first | exact Del.here | apply Del.there)) (by repeat (first | exact Del.here | apply Del.there))) rfl ?_
 rintro v M1 _ hm1 ⟨rfl, hmk⟩
 rcases hmk with ⟨hnk, rfl⟩ | ⟨hok, x, rfl, As', cs', Ar', cr', Af', cf', Ad', cd', rfl, g1, g2, g3, g4⟩
 ·(repeat (first | ((with_reducible refine Tr.step rfl ?_); (first | (refine xmQ ?_) | (refine xaQ ?_) | (refine xiQ ?_) | (refine xWQ ?_) | ((with_reducible refine Knd.extract ?_); (refine Exec.stab rfl (Stab.extract rfl rfl) rfl ?_)) | ((with_reducible refine Knd.build ?_); (refine Exec.stab rfl (Stab.build tysOk rfl rfl rfl rfl (by repeat (exact BuildP.nil))) rfl ?_)))) | (with_reducible first | apply Tr.next | apply Tr.seq | apply Tr.region | apply Tr.nil | apply Tr.ret | apply Tr.then_ret) | (refine Tr.cond_t rfl (by first | (with_reducible assumption) | omega) ?_)))
  (refine Tr.done (by first | exact .inl rfl | exact .inr rfl) rfl (by repeat (first | exact RVs.nil | (apply RVs.cons; (first | exact RV.tmp rfl | exact RV.cellW (by rfl) (tysOk.get (by rfl)) (by rfl) (by repeat (first | exact Has.here | apply Has.there)) (by first | rfl | assumption))))) (by first | exact Mem.le.refl _ | assumption) (by exact ⟨[_, _, _, _], rfl⟩) ⟨rfl, ?_⟩)
  exact .inl ⟨hnk, rfl⟩
 dsimp only [mkF] at g1 g2 g3 g4 ⊢
 (refine rQ ?_)
 ((refine Tr.step rfl ?_)); refine Exec.call0 rfl (twins_fn M1 As cs s (hs.mono RSpC.mono hm1)) rfl ?_
 rintro _ _ _ ⟨⟨tw, rfl, htw⟩, rfl⟩
 cases tw with
 | true =>
  (repeat (first | ((with_reducible refine Tr.step rfl ?_); (first | (refine xaQ ?_) | (refine xWQ ?_) | ((with_reducible refine Knd.build ?_); (refine Exec.stab rfl (Stab.build tysOk rfl rfl rfl rfl (by repeat (exact BuildP.nil))) rfl ?_)))) | (with_reducible first | apply Tr.next | apply Tr.seq | apply Tr.region | apply Tr.nil | apply Tr.ret | apply Tr.then_ret) | (refine Tr.cond_bt rfl (by (with_reducible rfl)) ?_)))
  (refine Tr.done (by first | exact .inl rfl | exact .inr rfl) rfl (by repeat (first | exact RVs.nil | (apply RVs.cons; (first | exact RV.tmp rfl | exact RV.cellW (by rfl) (tysOk.get (by rfl)) (by rfl) (by repeat (first | exact Has.here | apply Has.there)) (by first | rfl | assumption))))) (by first | exact Mem.le.refl _ | assumption) (by exact ⟨[_, _, _, _], rfl⟩) ⟨rfl, ?_⟩)
  exact .inr (.inl ⟨hok, fun h => (by have := htw.2 h; cases this), rfl⟩)
 | false =>
  (repeat (first | ((with_reducible refine Tr.step rfl ?_); (first | (refine xaQ ?_) | (refine xwQ ?_) | (refine xWQ ?_))) | (with_reducible first | apply Tr.next | apply Tr.seq | apply Tr.region | apply Tr.nil | apply Tr.skip | apply Tr.ret) | (refine Tr.cond_bf rfl (by (with_reducible rfl)) ?_)))
  (refine Tr.done (by first | exact .inl rfl | exact .inr rfl) rfl (by repeat (first | exact RVs.nil | (apply RVs.cons; (first | exact RV.tmp rfl | exact RV.cellW (by rfl) (tysOk.get (by rfl)) (by rfl) (by repeat (first | exact Has.here | apply Has.there)) (by first | rfl | assumption))))) (by first | exact Mem.le.refl _ | assumption) (by exact ⟨[_, _, _, _], rfl⟩) ⟨rfl, ?_⟩)
  exact .inr (.inr ⟨hok, htw.1 rfl, _, rfl, As', cs', Ar', cr', Af', cf', Ad', cd', rfl, g1, g2, g3, g4⟩)
end Go.Proofs.YtmikfjcdgkopkaaGreat

/-
 Promises: Check and Drop.
 Conditions: none.
-/
namespace Go.Proofs.YtmikfjcdgkopkaaGreat
open Go Bf
attribute [local irreducible] Tr Exec Stab HasTy Go.Addr.add IntKind.wrap
noncomputable def chkE (w : Wd) (k : Bp) : Int := open Classical in if okB w k then 0 else 310
set_option maxHeartbeats 8000000 in
theorem check1c_fn (M : Mem) (ws : List Value) (w : Wd) (hw : RWd M ws w) (k : Bp) (As Ar Af Ad : Option Addr) (cs cr cf cd : Nat) (h1 : SlOf 6 RSpC M (.slice As k.sups.length cs) k.sups) (h2 : SlOf 6 RRqC M (.slice Ar k.reqs.length cr) k.reqs) (h3 : Fits2 M (.slice Af k.fits.length cf) k.fits) (h4 : SlOf 5 RRd M (.slice Ad k.rds.length cd) k.rds) (hfc : cf ≤ 9223372036854775807) (b3 b4 : Nat) :
  FnP Tryz.prog 45 [.pointer (some ⟨b3, 0, none⟩), .pointer (some ⟨b4, 0, none⟩)] M [box b3 38 ws, box b4 44 [.int .i64 k.known, .slice As k.sups.length cs, .slice Ar k.reqs.length cr, .slice Af k.fits.length cf, .slice Ad k.rds.length cd]]
   (fun _ _ A' => okB w k ∧ A' = []) (fun ch _ A' => ∃ e, ch = prCh e ∧ A' = [] ∧ ¬ okB w k ∧ e = 310) := by
 have h11 := hw.len
 refine FnP.intro Tryz.func45 rfl rfl Tryz.ntmps45 rfl fun E F => ?_
 (repeat (first | ((with_reducible refine Tr.step rfl ?_); (with_reducible refine Knd.load ?_); (first | (refine xwQ ?_) | (refine Exec.stab rfl (Stab.loadW rfl (tysOk.get rfl) rfl (by repeat (first | exact Has.here | apply Has.there)) (by assumption)) rfl ?_))) | (with_reducible refine Tr.region ?_)))
 ((refine Tr.step rfl ?_))
 refine Exec.callP rfl (check_fn M ws w hw k As Ar Af Ad cs cr cf cd h1 h2 h3 h4 hfc) (List.Perm.refl _) rfl (fun v M' A' hm hR => ?_) (fun ch M' A' hm hR => ?_)
 rotate_left
 ·obtain ⟨rfl, rfl, hn⟩ := hR
  (skip)
  exact Tr.doneP (A' := []) hm (by repeat (first | exact DropL.refl | apply DropL.skip)) ⟨310, rfl, rfl, hn, rfl⟩
 obtain ⟨rfl, hv⟩ := hR
 (repeat ((with_reducible refine Tr.nil ?_)))
 refine Tr.ofPost ?_
 refine Tr.doneB (A' := []) [_, _] (by first | exact .inl rfl | exact .inr rfl) rfl (by repeat (exact RVs.nil)) hm (List.Perm.refl _) ⟨hv, rfl⟩
set_option maxHeartbeats 8000000 in
theorem check_fn' (M : Mem) (ws : List Value) (w : Wd) (hw : RWd M ws w) (v : Value) (k : Bp) (hk : RBp M v k) (_ : k.fits.length ≤ 9223372036854775807) :
  Fn0 Tryz.prog 17 [.agg ws.toArray, v] M (fun v _ => v = .int .i64 (chkE w k)) := by
 have h11 := hw.len
 obtain ⟨As, cs, Ar, cr, Af, cf, Ad, cd, rfl, h1, h2, h3, h4⟩ := hk
 have hfc2 := fits_cap h3
 refine Fn.intro Tryz.func17 rfl rfl Tryz.ntmps17 rfl fun E F => ?_
 (repeat (first | ((with_reducible refine Tr.step rfl ?_); (first | (refine xaQ ?_) | ((with_reducible refine Knd.makeFunc ?_); (refine Exec.stab rfl (Stab.makeFunc rfl rfl) rfl ?_)) | ((with_reducible refine Knd.box ?_); (refine Exec.box rfl rfl (fun b => ?_))))) | (with_reducible first | apply Tr.next | apply Tr.seq | apply Tr.region | apply Tr.nil)))
 rename_i b3
 generalize b = b4
 ((refine Tr.step rfl ?_))
 refine Exec.call (A := [box b3 38 ws, box b4 44 [.int .i64 k.known, .slice As k.sups.length cs, .slice Ar k.reqs.length cr, .slice Af k.fits.length cf, .slice Ad k.rds.length cd]]) rfl (pattempt_fn M 45 [.pointer (some ⟨b3, 0, none⟩), .pointer (some ⟨b4, 0, none⟩)] _ _ (fun e _ A' => A' = [] ∧ ¬ okB w k ∧ e = 310) (check1c_fn M ws w hw k As Ar Af Ad cs cr cf cd h1 h2 h3 h4 hfc2.2 b3 b4)) (take2 (by repeat (first | exact Del.here | apply Del.there)) (by repeat (first | exact Del.here | apply Del.there))) rfl ?_
 rintro _ M1 A' hm (⟨rfl, -, hv, rfl⟩ | ⟨e, rfl, rfl, hv, rfl⟩)
 ·(repeat (first | ((with_reducible refine Tr.step rfl ?_); (with_reducible refine Knd.assign ?_); (refine xaQ ?_)) | (with_reducible first | apply Tr.next | apply Tr.nil | apply Tr.ret)))
  (refine dnQ (hL := by exact ⟨[], rfl⟩) ⟨rfl, ?_⟩)
  rw [chkE, if_pos hv]; rfl
 ·(repeat (first | ((with_reducible refine Tr.step rfl ?_); (with_reducible refine Knd.assign ?_); (refine xaQ ?_)) | (with_reducible first | apply Tr.next | apply Tr.nil | apply Tr.ret)))
  (refine dnQ (hL := by exact ⟨[], rfl⟩) ⟨rfl, ?_⟩)
  rw [chkE, if_neg hv]; rfl
theorem indexR2_fn (M : Mem) (A : Option Addr) (c : Nat) (l : List Rq) (hl : SlOf 6 RRqC M (.slice A l.length c) l) (f : FuncId) (cap : List Value) (G : Rq → Bool) (hG : ∀ r ∈ l, Fn0 Tryz.prog f ([.agg #[.int .i64 r.no, .int .i64 r.item, .int .i64 r.cust, .int .i64 r.due, .int .i64 r.shelf, .int .i64 r.amount]] ++ cap) M (fun v M' => v = .bool (G r) ∧ M = M')) :
  Fn0 Tryz.prog 58 [.slice A l.length c, .func (.func f) #[] cap.toArray] M (fun r M' => ((r = .int .i64 (-1) ∧ l.any G = false) ∨ ∃ (i : Nat) (x : Rq), r = .int .i64 (i : Int) ∧ l[i]? = some x ∧ G x = true) ∧ M = M') := by
 have hll := hl.len_le
 refine Fn.intro Tryz.func58 rfl rfl Tryz.ntmps58 rfl fun E F => ?_
 (repeat (first | ((with_reducible refine Tr.step rfl ?_); (first | (refine xmQ ?_) | (refine xaQ ?_) | (refine xnQ ?_))) | (with_reducible first | apply Tr.next | apply Tr.seq | apply Tr.region | apply Tr.nil | apply Tr.block)))
 refine Tr.loop (α := Nat) (fun i => ⟨19, [(8, .int .i64 i), (7, .int .i64 l.length), (0, .slice A l.length c), (1, .func (.func f) #[] cap.toArray)], [], M, [] ++ F⟩) (fun i => i ≤ l.length ∧ (l.take i).any G = false) (fun i => l.length - i) 0 ⟨by simp, by simp⟩ hsQ (fun i hi => ?_)
 obtain ⟨hi, hany⟩ := hi
 by_cases hlt : i < l.length
 ·obtain ⟨r, hx⟩ := get_of_lt hlt
  obtain ⟨hA, ch, hat, rfl⟩ := hl.elem hx
  simp only [rqC] at hat
  have hg := hG r (List.mem_of_getElem? hx)
  have htake : (l.take (i + 1)).any G = ((l.take i).any G || G r) := by rw [List.take_add_one, hx]; simp
  (refine rQ ?_)
  ((refine Tr.step rfl ?_))
  refine Exec.callv (A := []) (first := []) (cap := cap) rfl rfl hg (List.Perm.refl _) rfl ?_
  rintro _ _ _ _ ⟨rfl, rfl, rfl⟩
  cases hGx : G r
  ·rw [hGx] at htake
   (repeat (first | ((with_reducible refine Tr.step rfl ?_); (first | (refine xmQ ?_) | (refine xdQ ?_))) | (with_reducible first | apply Tr.next | apply Tr.region | apply Tr.nil | apply Tr.skip | apply Tr.in_normal) | (refine Tr.cond_bf rfl (by (with_reducible rfl)) ?_)))
   refine Tr.again (i + 1) ⟨hlt, by rw [htake, hany]; rfl⟩ (by omega) hsQ
  ·(repeat (first | ((with_reducible refine Tr.step rfl ?_); (first | (refine xmQ ?_) | (refine xaQ ?_))) | (with_reducible first | apply Tr.next | apply Tr.seq | apply Tr.region | apply Tr.nil | apply Tr.ret | apply Tr.then_ret | apply Tr.in_ret) | (refine Tr.cond_bt rfl (by (with_reducible rfl)) ?_)))
   (refine dnQ (hL := by exact ⟨[], rfl⟩) ⟨rfl, ?_⟩)
   exact ⟨.inr ⟨i, r, rfl, hx, hGx⟩, rfl⟩
 ·have e : i = l.length := by omega
  subst e
  rw [List.take_length] at hany
  (refine rQ ?_)
  (refine dnQ (hL := by exact ⟨[], rfl⟩) ⟨rfl, ?_⟩)
  exact ⟨.inl ⟨rfl, hany⟩, rfl⟩
theorem drop11_fn (M : Mem) (b5 : Nat) (no : Int) (y : Rq) (hb : (box b5 3 [.int .i64 no]).ok M) : Fn0 Tryz.prog 59 ([.agg #[.int .i64 y.no, .int .i64 y.item, .int .i64 y.cust, .int .i64 y.due, .int .i64 y.shelf, .int .i64 y.amount]] ++ [.pointer (some ⟨b5, 0, none⟩)]) M (fun v M' => v = .bool (decide (y.no = no)) ∧ M = M') := by
 have hrow := Row.of_box (n := 1) (sz := 1) hb (by simp) (by intro u hu; simp at hu; subst hu; rfl)
 have hat2 := (hrow.pos (by decide)).2
 refine Fn.intro Tryz.func59 rfl rfl Tryz.ntmps59 rfl fun E F => ?_
 simp only [List.cons_append, List.nil_append]
 (repeat (first | ((with_reducible refine Tr.step rfl ?_); (first | (refine xaQ ?_) | ((with_reducible refine Knd.load ?_); (first | (refine xlQ ?_) | (refine xMQ ?_))) | (refine xfQ ?_) | (refine xiQ ?_) | ((with_reducible refine Knd.box ?_); (refine Exec.box rfl rfl (fun b => ?_))))) | (with_reducible first | apply Tr.next | apply Tr.seq | apply Tr.region | apply Tr.nil | apply Tr.ret)))
 (refine dnQ (hL := by exact ⟨[_], rfl⟩) ⟨rfl, ?_⟩)
 exact ⟨rfl, rfl⟩
theorem dropi_lend (M : Mem) (b5 : Nat) (no : Int) (A : Option Addr) (c : Nat) (l : List Rq) (hl : SlOf 6 RRqC M (.slice A l.length c) l) :
  Bf.Fn Tryz.prog 58 [.slice A l.length c, .func (.func 59) #[] #[.pointer (some ⟨b5, 0, none⟩)]] M [box b5 3 [.int .i64 no]] (fun v M' A' => A' = [box b5 3 [.int .i64 no]] ∧ M = M' ∧ ((v = .int .i64 (-1) ∧ no ∉ l.map (·.no)) ∨ ∃ (i : Nat) (x : Rq), v = .int .i64 (i : Int) ∧ l[i]? = some x ∧ x.no = no)) :=
 Fn.lend (rs := [box b5 3 [.int .i64 no]]) (R := fun v => (v = .int .i64 (-1) ∧ no ∉ l.map (·.no)) ∨ ∃ (i : Nat) (x : Rq), v = .int .i64 (i : Int) ∧ l[i]? = some x ∧ x.no = no) (clone_ok _ _ _ _ _ _ (indexR2_fn M none 0 [] (SlOf.nil _ _ _) 0 [] (fun _ => false) (by simp))) (fun M' hm hok =>
  Fn.mono (indexR2_fn M' A c l (hl.mono RRqC.mono hm) 59 [.pointer (some ⟨b5, 0, none⟩)] (fun y => decide (y.no = no)) (fun y _ => drop11_fn M' b5 no y (hok _ (by simp)))) fun v M2 A2 _ ⟨h1, h2, h3⟩ => ⟨h1, by
   rcases h2 with ⟨rfl, h2⟩ | ⟨i, x, rfl, h4, h5⟩
   ·refine .inl ⟨rfl, fun hm => ?_⟩
    obtain ⟨y, hy, e⟩ := List.mem_map.1 hm
    rw [List.any_eq_false] at h2
    exact h2 y hy (by simpa using e)
   ·exact .inr ⟨i, x, rfl, h4, by simpa using h5⟩, h3⟩)
set_option maxHeartbeats 4000000 in
theorem deleteRq_own (M : Mem) (A : Option Addr) (c : Nat) (l : List Rq) (i : Nat) (hi : i < l.length) (hl : l.length ≤ 1000000) (hc : c ≤ 9223372036854775807) :
  Bf.Fn Tryz.prog 61 [.slice A l.length c, .int .i64 (i : Int), .int .i64 ((i : Int) + 1)] M [ownS 46 6 A l.length c (l.flatMap rqC)] (fun r M' A' => M = M' ∧ r = .slice A (l.length - 1) c ∧ A' = [ownS 46 6 A (l.length - 1) c ((l.eraseIdx i).flatMap rqC)]) := by
 refine Fn.intro Tryz.func61 rfl rfl Tryz.ntmps61 rfl fun E F => ?_
 refine Tr.own_open Del.here (by omega) (fun g cur hA hlc hcl hct => ?_)
 subst hA
 have hlen : l.length * 6 ≤ cur.length := by omega
 (repeat (first | ((with_reducible refine Tr.step rfl ?_); (first | (refine xmQ ?_) | (refine xaQ ?_) | (refine xnQ ?_) | (refine xiQ ?_) | ((with_reducible refine Knd.slice ?_); (refine Exec.stab rfl (Stab.slice_lhm rfl rfl rfl rfl (tysOk.get rfl) rfl (tysOk.get rfl) rfl (by omega) (by omega) (by omega) (by omega)) rfl ?_)))) | (with_reducible first | apply Tr.next | apply Tr.seq | apply Tr.region | apply Tr.nil | apply Tr.skip) | (refine Tr.cond_f rfl (by omega) ?_)))
 obtain ⟨hc1, hc2⟩ := erase_cellsN rqC_len hi hct
 have hone : ∀ u ∈ (cur.drop ((i + 1) * 6)).take ((l.length - (i + 1)) * 6), u.oneCell' = true := fun u hu => by
  have h1 : (cur.drop ((i + 1) * 6)).take ((l.length - (i + 1)) * 6) = (l.flatMap rqC).drop ((i + 1) * 6) := by
   rw [← hct, List.drop_take]
   congr 1
   omega
  rw [h1] at hu
  exact flatMap_one rqC_one l u (List.mem_of_mem_drop hu)
 have e1 : ((i : Int)).toNat = i := Int.toNat_natCast i
 have e2 : ((i : Int) + 1).toNat = i + 1 := by omega
 have e3 : i + (l.length - (i + 1)) = l.length - 1 := by omega
 (((apply Tr.draw); (kernel_rfl)); (refine tkQ 0 (hB := by exact fun _ h => h) (s := by exact Stab.move rfl) ?_); (refine tkQ 1 (s := by exact Stab.move rfl) ?_); (refine tkQ 3 (s := by exact Stab.move rfl) ?_); (refine tkQ 4 (s := by exact Stab.move rfl) ?_); (refine tkQ 2 (s := by exact Stab.slice_h rfl rfl (tysOk.get rfl) rfl (tysOk.get rfl) (by omega) (by omega)) ?_); (refine tkQ 5 (s := by exact Stab.slice_l rfl rfl (tysOk.get rfl) rfl (tysOk.get rfl) rfl (by omega) (by omega)) ?_); (refine TrA.effD 6 rfl (by kernel_rfl) (by kernel_rfl) (by exact .inl rfl) ?_))
 refine Exec.appendInN (sz := 6) (j := i + 1) rfl rfl (by (rw [e2]); split; (exact ⟨_, rfl, .inl (by omega)⟩); (exact ⟨_, rfl, .inr (by simp [Addr.add])⟩)) (tysOk.get rfl) rfl (tysOk.get rfl) rfl (by omega) (by omega) (by omega) (by rw [e2]; exact hone) Upd.here rfl ?_
 refine ⟨_, fun _ h => h, ?_⟩
 rw [e1, e2, e3]
 generalize cur.take (i * 6) ++ (cur.drop ((i + 1) * 6)).take ((l.length - (i + 1)) * 6) ++ cur.drop ((l.length - 1) * 6) = cur2 at hc1 hc2
 clear hct hone
 ((refine tkQ 7 (s := by exact Stab.assign rfl) ?_); (refine TrA.done (by kernel_rfl) ?_))
 (repeat (first | ((with_reducible refine Tr.step rfl ?_); (first | (refine xmQ ?_) | (refine xnQ ?_) | ((with_reducible refine Knd.slice ?_); (refine Exec.stab rfl (Stab.slice_lh rfl rfl rfl (tysOk.get rfl) rfl (tysOk.get rfl) rfl (by omega) (by omega) (by omega)) rfl ?_)))) | (with_reducible first | apply Tr.next | apply Tr.seq | apply Tr.region)))
 have e4 : (((l.length - 1 : Nat) : Int)).toNat = l.length - 1 := Int.toNat_natCast _
 have e5 : ((l.length : Int)).toNat = l.length := Int.toNat_natCast _
 rw [e4, e5]
 ((refine Tr.step rfl ?_))
 refine Exec.clearAtN (o := (l.length - 1) * 6) (m := 1) (cs := cur2) (z := [.int .i64 0, .int .i64 0, .int .i64 0, .int .i64 0, .int .i64 0, .int .i64 0]) (c := c - (l.length - 1)) (by
  rw [if_neg (by omega), show l.length - (l.length - 1) = 1 by omega]
  simp [ev, look_cons_eq, Addr.add]; omega) (tysOk.get rfl) rfl (tysOk.get rfl) rfl rfl (by decide) (by intro u hu; simp only [List.mem_cons, List.not_mem_nil, or_false, or_self] at hu; subst hu; rfl) Upd.here (by simp only [List.length_cons, List.length_nil]; omega) (by omega) ?_
 simp only [List.length_cons, List.length_nil, Nat.zero_add, Nat.reduceAdd]
 have hc3 : (cur2.take ((l.length - 1) * 6) ++ zerosL [.int .i64 0, .int .i64 0, .int .i64 0, .int .i64 0, .int .i64 0, .int .i64 0] 1 ++ cur2.drop ((l.length - 1) * 6 + 1 * 6)).take ((l.length - 1) * 6) = (l.eraseIdx i).flatMap rqC := by
  rw [List.append_assoc, List.take_append_of_le_length (by rw [List.length_take]; omega), List.take_of_length_le (by rw [List.length_take]; omega)]
  exact hc1
 have hc4 : (cur2.take ((l.length - 1) * 6) ++ zerosL [.int .i64 0, .int .i64 0, .int .i64 0, .int .i64 0, .int .i64 0, .int .i64 0] 1 ++ cur2.drop ((l.length - 1) * 6 + 1 * 6)).length = c * 6 := by
  simp only [List.length_append, List.length_take, List.length_drop, zerosL_len, List.length_cons, List.length_nil]; omega
 generalize cur2.take ((l.length - 1) * 6) ++ zerosL [.int .i64 0, .int .i64 0, .int .i64 0, .int .i64 0, .int .i64 0, .int .i64 0] 1 ++ cur2.drop ((l.length - 1) * 6 + 1 * 6) = cur3 at hc3 hc4 ⊢
 refine Tr.box_ownC 6 (l.length - 1) c Upd.here hc4 (by omega) hc hc3 (flatMap_one rqC_one _) ?_
 (repeat (first | ((with_reducible refine Tr.step rfl ?_); (first | (refine xmQ ?_) | (refine xaQ ?_))) | (with_reducible first | apply Tr.next | apply Tr.seq | apply Tr.region | apply Tr.nil | apply Tr.ret)))
 refine Tr.doneA (A' := [ownS 46 6 (some ⟨g, 0, none⟩) (l.length - 1) c ((l.eraseIdx i).flatMap rqC)]) (by first | exact .inl rfl | exact .inr rfl) rfl (by repeat (first | exact RVs.nil | (apply RVs.cons; (exact RV.tmp rfl)))) (Mem.le.refl _) ⟨fun _ h => h, fun h => h⟩ ⟨rfl, rfl, rfl⟩
end Go.Proofs.YtmikfjcdgkopkaaGreat

/-
 Promises: Drop.
 Conditions: none.
-/
namespace Go.Proofs.YtmikfjcdgkopkaaGreat
open Go Bf
attribute [local irreducible] Tr Exec Stab HasTy Go.Addr.add IntKind.wrap
def lessR (l : List Rq) (no : Int) : List Rq := l.filter fun y => !decide (y.no = no)
theorem erase_less : ∀ {l : List Rq} {i : Nat} {x : Rq}, (l.map (·.no)).Nodup → l[i]? = some x → l.eraseIdx i = lessR l x.no
 | [], i, x, _, h => by simp at h
 | y :: l, 0, x, hn, h => by
  simp at h; subst h
  rw [List.map_cons, List.nodup_cons] at hn
  rw [List.eraseIdx_cons_zero, lessR, List.filter_cons_of_neg (by simp)]
  symm
  rw [List.filter_eq_self]
  intro z hz
  simp only [Bool.not_eq_true', decide_eq_false_iff_not]
  exact fun e => hn.1 (e ▸ List.mem_map_of_mem hz)
 | y :: l, i + 1, x, hn, h => by
  rw [List.map_cons, List.nodup_cons] at hn
  have h' : l[i]? = some x := by simpa using h
  rw [List.eraseIdx_cons_succ, erase_less hn.2 h', lessR, lessR, List.filter_cons_of_pos]
  simp only [Bool.not_eq_true', decide_eq_false_iff_not]
  exact fun e => hn.1 (e ▸ List.mem_map_of_mem (List.mem_of_getElem? h'))
theorem less_sub (l : List Rq) (no : Int) : (lessR l no).Sublist l := List.filter_sublist
def dropB (w : Wd) (k : Bp) (no : Int) : Bp := mkF w k (lessR k.reqs no)
theorem less_okT {w : Wd} {k : Bp} (h : okB w k) (no : Int) : okT k.sups (lessR k.reqs no) := okT_sub (SubInj.sub (less_sub _ _)) (Nat.le_trans (less_sub _ _).length_le h.2.1.1.2) h.2.1
theorem dropB_ok {w : Wd} {k : Bp} (h : okB w k) (no : Int) : okB w (dropB w k no) := okB_sub h (less_sub _ _)
set_option maxHeartbeats 8000000 in
set_option maxRecDepth 20000 in
theorem drop1c_fn (M : Mem) (ws : List Value) (w : Wd) (hw : RWd M ws w) (k : Bp) (As Ar Af Ad : Option Addr) (cs cr cf cd : Nat) (h1 : SlOf 6 RSpC M (.slice As k.sups.length cs) k.sups) (h2 : SlOf 6 RRqC M (.slice Ar k.reqs.length cr) k.reqs) (h3 : Fits2 M (.slice Af k.fits.length cf) k.fits) (h4 : SlOf 5 RRd M (.slice Ad k.rds.length cd) k.rds) (hfc : cf ≤ 9223372036854775807) (no : Int) (b3 b4 b5 b6 : Nat) :
  FnP Tryz.prog 57 [.pointer (some ⟨b3, 0, none⟩), .pointer (some ⟨b4, 0, none⟩), .pointer (some ⟨b5, 0, none⟩), .pointer (some ⟨b6, 0, none⟩)] M [box b3 38 ws, box b4 44 [.int .i64 k.known, .slice As k.sups.length cs, .slice Ar k.reqs.length cr, .slice Af k.fits.length cf, .slice Ad k.rds.length cd], box b5 3 [.int .i64 no], box b6 44 [.int .i64 0, .slice none 0 0, .slice none 0 0, .slice none 0 0, .slice none 0 0]]
   (fun _ M' A' => okB w k ∧ no ∈ k.reqs.map (·.no) ∧ ∃ x1 x2 x3 x4 x5, RBp M' (.agg #[x1, x2, x3, x4, x5]) (dropB w k no) ∧ A' = [box b6 44 [x1, x2, x3, x4, x5]]) (fun ch _ A' => ∃ e, ch = prCh e ∧ A' = [box b6 44 [.int .i64 0, .slice none 0 0, .slice none 0 0, .slice none 0 0, .slice none 0 0]] ∧ ¬ (okB w k ∧ no ∈ k.reqs.map (·.no)) ∧ e = 310) := by
 have h11 := hw.len
 refine FnP.intro Tryz.func57 rfl rfl Tryz.ntmps57 rfl fun E F => ?_
 (repeat (first | ((with_reducible refine Tr.step rfl ?_); (with_reducible refine Knd.load ?_); (first | (refine xwQ ?_) | (refine Exec.stab rfl (Stab.loadW rfl (tysOk.get rfl) rfl (by repeat (first | exact Has.here | apply Has.there)) (by assumption)) rfl ?_))) | (with_reducible first | apply Tr.seq | apply Tr.region)))
 ((refine Tr.step rfl ?_))
 refine Exec.callP rfl (check_fn M ws w hw k As Ar Af Ad cs cr cf cd h1 h2 h3 h4 hfc) (List.Perm.refl _) rfl (fun v M' A' hm hR => ?_) (fun ch M' A' hm hR => ?_)
 rotate_left
 ·obtain ⟨rfl, rfl, hn⟩ := hR
  (repeat ((with_reducible refine Tr.then_panic ?_)))
  exact Tr.doneP (A' := [box b6 44 [.int .i64 0, .slice none 0 0, .slice none 0 0, .slice none 0 0, .slice none 0 0]]) hm (by repeat (first | exact DropL.refl | apply DropL.skip)) ⟨310, rfl, rfl, fun h => hn h.1, rfl⟩
 obtain ⟨rfl, hv⟩ := hR
 have l64 := hv.2.1.1
 have g1 := h1.mono RSpC.mono hm
 have g2 := h2.mono RRqC.mono hm
 have g3 := h3.mono RRowB.mono hm
 have g4 := h4.mono RRd.mono hm
 have hw2 := hw.mono hm
 (repeat (first | ((with_reducible refine Tr.step rfl ?_); (first | (refine xlQ ?_) | (refine xfQ ?_) | ((with_reducible refine Knd.makeFunc ?_); (refine Exec.stab rfl (Stab.makeFunc rfl rfl) rfl ?_)))) | (with_reducible first | apply Tr.next | apply Tr.seq | apply Tr.region | apply Tr.nil)))
 ((refine Tr.step rfl ?_))
 refine Exec.call (A := [box b5 3 [.int .i64 no]]) rfl (dropi_lend M' b5 no Ar cr k.reqs g2) (take1 (by repeat (first | exact Del.here | apply Del.there))) rfl ?_
 rintro _ _ _ _ ⟨rfl, rfl, hz⟩
 obtain ⟨rfl, hno⟩ | ⟨i, x, rfl, hx, rfl⟩ := hz
 ·(repeat (first | ((with_reducible refine Tr.step rfl ?_); (first | (refine xmQ ?_) | (refine xaQ ?_) | (refine xiQ ?_))) | (with_reducible first | apply Tr.next | apply Tr.seq | apply Tr.region | apply Tr.nil)))
  ((refine Tr.step rfl ?_))
  refine Exec.callP rfl (prequire_n _) (List.Perm.refl _) rfl (fun v M' A' hm hR => hR.elim) (fun ch M2 A' hm2 hR => ?_)
  obtain ⟨rfl, rfl, rfl⟩ := hR
  (repeat ((with_reducible refine Tr.then_panic ?_)))
  exact Tr.doneP (A' := [box b6 44 [.int .i64 0, .slice none 0 0, .slice none 0 0, .slice none 0 0, .slice none 0 0]]) hm (by repeat (first | exact DropL.refl | apply DropL.skip)) ⟨310, rfl, rfl, fun h => hno h.2, rfl⟩
 have hin : x.no ∈ k.reqs.map (·.no) := List.mem_map_of_mem (List.mem_of_getElem? hx)
 have hil := (List.getElem?_eq_some_iff.1 hx).1
 have hi0 : (0 : Int) ≤ (i : Int) := by omega
 (repeat (first | ((with_reducible refine Tr.step rfl ?_); (first | (refine xmQ ?_) | (refine xaQ ?_) | (refine xiQ ?_))) | (with_reducible first | apply Tr.next | apply Tr.seq | apply Tr.region | apply Tr.nil)))
 ((refine Tr.step rfl ?_)); refine Exec.call0 rfl (prequire_y M') rfl ?_
 rintro _ _ _ rfl
 (repeat (first | ((with_reducible refine Tr.step rfl ?_); (first | (refine xlQ ?_) | (refine xfQ ?_))) | (with_reducible first | apply Tr.next | apply Tr.seq | apply Tr.region | apply Tr.nil)))
 ((refine Tr.step rfl ?_))
 refine Exec.call (A := []) rfl (cloneRq_fn M' Ar cr k.reqs g2 (by omega)) (List.Perm.refl _) rfl ?_
 rintro _ _ _ _ ⟨⟨B6, k6, rfl, hk6, rfl⟩, rfl⟩
 (repeat (((with_reducible refine Tr.step rfl ?_); (first | (refine xmQ ?_) | (refine xdQ ?_)))))
 ((refine Tr.step rfl ?_))
 refine Exec.call (A := [ownS 46 6 B6 k.reqs.length k6 (k.reqs.flatMap rqC)]) rfl (deleteRq_own M' B6 k6 k.reqs i hil (by omega) hk6) (take1 (by repeat (first | exact Del.here | apply Del.there))) rfl ?_
 rintro _ _ _ _ ⟨rfl, rfl, rfl⟩
 (repeat (first | ((with_reducible refine Tr.step rfl ?_); (first | (refine xaQ ?_) | ((with_reducible refine Knd.load ?_); (first | (refine xwQ ?_) | (refine Exec.stab rfl (Stab.loadW rfl (tysOk.get rfl) rfl (by repeat (first | exact Has.here | apply Has.there)) (by assumption)) rfl ?_))))) | (with_reducible first | apply Tr.next | apply Tr.seq | apply Tr.region | apply Tr.nil)))
 have hel : (k.reqs.eraseIdx i).length = k.reqs.length - 1 := List.length_eraseIdx_of_lt hil
 have hle := erase_less hv.1.1 hx
 rw [← hel, hle]
 refine pbQ (r := ownS 46 6 _ _ _ _) (fun M8 hm8 hok8 => ?_)
 have hR8 : SlOf 6 RRqC M8 (.slice B6 (lessR k.reqs x.no).length k6) (lessR k.reqs x.no) := SlOf.ofOwn hok8 rfl hk6 (rqC_elems _ _)
 have hm08 := hm.trans hm8
 ((refine Tr.step rfl ?_))
 refine Exec.call (A := []) rfl (maker_fn M8 ws k As Ar Af Ad cs cr cf cd) (List.Perm.refl _) rfl ?_
 rintro _ _ _ _ ⟨b8, b9, rfl, rfl, rfl⟩
 (repeat (((with_reducible refine Tr.step rfl ?_); (with_reducible refine Knd.move ?_); (refine xmQ ?_))))
 ((refine Tr.step rfl ?_))
 refine Exec.callv (first := []) (cap := [.pointer (some ⟨b8, 0, none⟩), .pointer (some ⟨b9, 0, none⟩)]) (A := [box b9 44 [.int .i64 k.known, .slice As k.sups.length cs, .slice Ar k.reqs.length cr, .slice Af k.fits.length cf, .slice Ad k.rds.length cd], box b8 38 ws]) rfl rfl (maker1_fn M8 ws w (hw.mono hm08) k As Ar Af Ad cs cr cf cd (h1.mono RSpC.mono hm08) (h2.mono RRqC.mono hm08) (h3.mono RRowB.mono hm08) (h4.mono RRd.mono hm08) b8 b9 B6 k6 (lessR k.reqs x.no) hR8) (take2 (by repeat (first | exact Del.here | apply Del.there)) (by repeat (first | exact Del.here | apply Del.there))) rfl ?_
 rintro v M1 _ hm1 ⟨rfl, hmk⟩
 rcases hmk with ⟨hnk, rfl⟩ | ⟨hok, z, rfl, hz⟩
 ·exact absurd (less_okT hv x.no) hnk
 obtain ⟨As', cs', Ar', cr', Af', cf', Ad', cd', e, q1, q2, q3, q4⟩ := id hz
 have hmA := hm08.trans hm1
 dsimp only [mkF] at e
 subst e
 (repeat (first | ((with_reducible refine Tr.step rfl ?_); (first | (refine xmQ ?_) | (refine xaQ ?_) | (refine xWQ ?_) | ((with_reducible refine Knd.alloc ?_); (refine Exec.alloc (tysOk.get rfl) rfl rfl (fun b => ?_))) | ((with_reducible refine Knd.extract ?_); (refine Exec.stab rfl (Stab.extract rfl rfl) rfl ?_)))) | (with_reducible first | apply Tr.next | apply Tr.seq | apply Tr.region | apply Tr.nil)))
 ((refine Tr.step rfl ?_)); refine Exec.call0 rfl (must_y M1) rfl ?_
 rintro _ _ _ rfl
 (repeat (first | ((with_reducible refine Tr.step rfl ?_); (first | (refine xwQ ?_) | (refine xWQ ?_))) | (with_reducible first | apply Tr.next | apply Tr.region | apply Tr.nil)))
 refine Tr.ofPost ?_
 refine Tr.doneB (A' := [box b6 44 [.int .i64 k.known, .slice As' k.sups.length cs', .slice Ar' (lessR k.reqs x.no).length cr', .slice Af' (fitsT w k.known k.sups (lessR k.reqs x.no)).length cf', .slice Ad' (readsF w k.sups (lessR k.reqs x.no)).length cd']]) [_, _, _, _, _, _] (by first | exact .inl rfl | exact .inr rfl) rfl (by repeat (exact RVs.nil)) hmA (List.Perm.refl _) ⟨hv, hin, _, _, _, _, _, hz, rfl⟩
def DropV (w : Wd) (k : Bp) (no : Int) (v : Value) (M : Mem) : Prop :=
 ((okB w k ∧ no ∈ k.reqs.map (·.no)) ∧ ∃ x, v = .tuple #[x, .int .i64 0] ∧ RBp M x (dropB w k no)) ∨ (¬ (okB w k ∧ no ∈ k.reqs.map (·.no)) ∧ v = .tuple #[.agg #[.int .i64 0, .slice none 0 0, .slice none 0 0, .slice none 0 0, .slice none 0 0], .int .i64 310])
set_option maxHeartbeats 8000000 in
theorem drop_fn (M : Mem) (ws : List Value) (w : Wd) (hw : RWd M ws w) (v : Value) (k : Bp) (hk : RBp M v k) (_ : k.fits.length ≤ 9223372036854775807) (no : Int) :
  Fn0 Tryz.prog 22 [.agg ws.toArray, v, .int .i64 no] M (fun v M' => DropV w k no v M') := by
 have h11 := hw.len
 obtain ⟨As, cs, Ar, cr, Af, cf, Ad, cd, rfl, h1, h2, h3, h4⟩ := hk
 have hfc2 := fits_cap h3
 refine Fn.intro Tryz.func22 rfl rfl Tryz.ntmps22 rfl fun E F => ?_
 (repeat (first | ((with_reducible refine Tr.step rfl ?_); (first | (refine xaQ ?_) | ((with_reducible refine Knd.makeFunc ?_); (refine Exec.stab rfl (Stab.makeFunc rfl rfl) rfl ?_)) | ((with_reducible refine Knd.box ?_); (first | (refine Exec.box rfl rfl (fun b => ?_)) | (refine Exec.box1 rfl (by first | rfl | assumption) rfl (fun b => ?_)))) | ((with_reducible refine Knd.alloc ?_); (refine Exec.alloc (tysOk.get rfl) rfl rfl (fun b => ?_))))) | (with_reducible first | apply Tr.next | apply Tr.seq | apply Tr.region | apply Tr.nil)))
 rename_i b3 b4 b5
 generalize b = b6
 ((refine Tr.step rfl ?_))
 refine Exec.call (A := [box b3 38 ws, box b4 44 [.int .i64 k.known, .slice As k.sups.length cs, .slice Ar k.reqs.length cr, .slice Af k.fits.length cf, .slice Ad k.rds.length cd], box b5 3 [.int .i64 no], box b6 44 [.int .i64 0, .slice none 0 0, .slice none 0 0, .slice none 0 0, .slice none 0 0]]) rfl (pattempt_fn M 57 [.pointer (some ⟨b3, 0, none⟩), .pointer (some ⟨b4, 0, none⟩), .pointer (some ⟨b5, 0, none⟩), .pointer (some ⟨b6, 0, none⟩)] _ _ (fun e _ A' => A' = [box b6 44 [.int .i64 0, .slice none 0 0, .slice none 0 0, .slice none 0 0, .slice none 0 0]] ∧ ¬ (okB w k ∧ no ∈ k.reqs.map (·.no)) ∧ e = 310) (drop1c_fn M ws w hw k As Ar Af Ad cs cr cf cd h1 h2 h3 h4 hfc2.2 no b3 b4 b5 b6)) (take4 (by repeat (first | exact Del.here | apply Del.there)) (by repeat (first | exact Del.here | apply Del.there)) (by repeat (first | exact Del.here | apply Del.there)) (by repeat (first | exact Del.here | apply Del.there))) rfl ?_
 rintro _ M1 A' hm (⟨rfl, -, hv, hin, x1, x2, x3, x4, x5, hx, rfl⟩ | ⟨e, rfl, rfl, hn, rfl⟩)
 ·simp only [List.cons_append, List.nil_append]
  obtain ⟨y1, y2, y3, y4, y5, y6, y7, y8, e1⟩ := hx.lit
  injection e1 with e1
  simp only [Array.mk.injEq, List.cons.injEq, and_true] at e1
  obtain ⟨rfl, rfl, rfl, rfl, rfl⟩ := e1
  (repeat (first | ((with_reducible refine Tr.step rfl ?_); (first | (refine xmQ ?_) | (refine xaQ ?_) | (refine xwQ ?_) | (refine xWQ ?_))) | (with_reducible first | apply Tr.next | apply Tr.seq | apply Tr.region | apply Tr.nil | apply Tr.ret)))
  (refine Tr.done (by first | exact .inl rfl | exact .inr rfl) rfl (by repeat (first | exact RVs.nil | (apply RVs.cons; (first | exact RV.tmp rfl | exact RV.cellW (by rfl) (tysOk.get (by rfl)) (by rfl) (by repeat (first | exact Has.here | apply Has.there)) (by first | rfl | assumption))))) (by first | exact Mem.le.refl _ | assumption) (by exact ⟨[_], rfl⟩) ⟨rfl, ?_⟩)
  exact .inl ⟨⟨hv, hin⟩, _, rfl, hx⟩
 ·simp only [List.cons_append, List.nil_append]
  (repeat (first | ((with_reducible refine Tr.step rfl ?_); (first | (refine xmQ ?_) | (refine xaQ ?_) | (refine xwQ ?_) | (refine xWQ ?_))) | (with_reducible first | apply Tr.next | apply Tr.seq | apply Tr.region | apply Tr.nil | apply Tr.ret)))
  (refine Tr.done (by first | exact .inl rfl | exact .inr rfl) rfl (by repeat (first | exact RVs.nil | (apply RVs.cons; (first | exact RV.tmp rfl | exact RV.cellW (by rfl) (tysOk.get (by rfl)) (by rfl) (by repeat (first | exact Has.here | apply Has.there)) (by first | rfl | assumption))))) (by first | exact Mem.le.refl _ | assumption) (by exact ⟨[_], rfl⟩) ⟨rfl, ?_⟩)
  exact .inr ⟨hn, rfl⟩
end Go.Proofs.YtmikfjcdgkopkaaGreat

/-
 Promises: the days that matter.
 Conditions: none.
-/
namespace Go.Proofs.YtmikfjcdgkopkaaGreat
open Go Bf
attribute [local irreducible] Tr Exec Stab HasTy Go.Addr.add IntKind.wrap
structure DMap (es : List MapEntry) (cl : Nat) (l : List Int) : Prop where
 keys : IntKeys es
 vals : ∀ e ∈ es, e.val = .bool true
 stamp : MapKept.Stamped es.toArray cl
 mem : ∀ k : Int, (∃ e ∈ es, e.key = .int .i64 k) ↔ k ∈ l
theorem DMap.nil : DMap [] 0 [] := ⟨IntKeys.nil, by simp, ⟨by simp, by simp, by simp⟩, by simp⟩
theorem lookE_got {k : Int} : ∀ {l : List MapEntry} {n i : Nat} {v : Value}, lookE k l n = some (i, v) → n ≤ i ∧ ∃ e, l[i - n]? = some e ∧ e.key = .int .i64 k
 | [], _, _, _, h => by simp [lookE] at h
 | e :: l, n, i, v, h => by
  rw [lookE] at h
  split at h
  ·rename_i hk
   simp at h
   obtain ⟨rfl, -⟩ := h
   exact ⟨Nat.le_refl _, e, by simp, keyIs_iff.1 hk⟩
  ·obtain ⟨h1, e', h2, h3⟩ := lookE_got h
   refine ⟨by omega, e', ?_, h3⟩
   rw [show i - n = (i - (n + 1)) + 1 by omega]
   simpa using h2
theorem lookE_not {k : Int} : ∀ {l : List MapEntry} {n : Nat}, lookE k l n = none → ∀ e ∈ l, e.key ≠ .int .i64 k
 | [], _, _, _, he => by simp at he
 | e :: l, n, h, x, hx => by
  rw [lookE] at h
  split at h
  ·simp at h
  ·rename_i hk
   rcases List.mem_cons.1 hx with rfl | hx
   ·exact fun e => hk (keyIs_iff.2 e)
   ·exact lookE_not h x hx
theorem map_modify_same {α β : Type} {f : α → β} {g : α → α} (hg : ∀ a, f (g a) = f a) : ∀ (l : List α) (i : Nat), (l.modify i g).map f = l.map f
 | [], i => by simp
 | a :: l, 0 => by simp [hg]
 | a :: l, i + 1 => by simp [map_modify_same hg l i]
theorem map_modify_at {α β : Type} {f : α → β} {g : α → α} : ∀ (l : List α) (i : Nat) (a : α), l[i]? = some a → f (g a) = f a → (l.modify i g).map f = l.map f
 | [], i, a, h, _ => by simp at h
 | b :: l, 0, a, h, e => by simp at h; subst h; simp [e]
 | b :: l, i + 1, a, h, e => by simp [map_modify_at l i a (by simpa using h) e]
theorem DMap.add {es : List MapEntry} {cl : Nat} {l : List Int} (h : DMap es cl l) (k : Int) : DMap (updE k (.bool true) es cl).1 (updE k (.bool true) es cl).2 (k :: l) := by
 obtain ⟨hk, hv, ⟨s1, s2, s3⟩, hm⟩ := h
 simp only at s1 s2 s3
 unfold updE
 cases hl : lookE k es 0 with
 | some x =>
  obtain ⟨i, v⟩ := x
  obtain ⟨-, e, he, hke⟩ := lookE_got hl
  rw [Nat.sub_zero] at he
  have ek : (es.modify i fun e => { e with key := .int .i64 k, val := .bool true }).map (·.key) = es.map (·.key) := map_modify_at es i e he hke.symm
  have eb : (es.modify i fun e => { e with key := .int .i64 k, val := .bool true }).map (·.born) = es.map (·.born) := map_modify_same (f := fun e : MapEntry => e.born) (g := fun e => { e with key := .int .i64 k, val := .bool true }) (fun _ => rfl) es i
  have hin : k ∈ l := (hm k).1 ⟨e, List.mem_of_getElem? he, hke⟩
  have kin : ∀ q : Int, (∃ e ∈ es.modify i fun e => { e with key := .int .i64 k, val := .bool true }, e.key = .int .i64 q) ↔ ∃ e ∈ es, e.key = .int .i64 q := fun q => by
   have h1 : ∀ xs : List MapEntry, (∃ e ∈ xs, e.key = .int .i64 q) ↔ Value.int .i64 q ∈ xs.map (·.key) := fun xs => by simp [List.mem_map]
   rw [h1, h1, ek]
  refine ⟨?_, ?_, ⟨?_, ?_, ?_⟩, ?_⟩
  ·have := updE_keys (k := k) (v := .bool true) (clock := cl) hk
   unfold updE at this
   rw [hl] at this
   exact this
  ·intro x hx
   obtain ⟨j, hj⟩ := List.mem_iff_getElem?.1 hx
   rw [List.getElem?_modify] at hj
   cases hy : es[j]? with
   | none => rw [hy] at hj; simp at hj
   | some y =>
    rw [hy] at hj
    simp at hj
    by_cases e : i = j
    ·subst e; simp at hj; subst hj; rfl
    ·simp [e] at hj; subst hj; exact hv y (List.mem_of_getElem? hy)
  ·intro x hx
   have hx : x.born ∈ (es.modify i fun e => { e with key := .int .i64 k, val := .bool true }).map (·.born) := List.mem_map_of_mem hx
   rw [eb] at hx
   obtain ⟨y, hy, e⟩ := List.mem_map.1 hx
   rw [← e]; exact s1 y hy
  ·show ((es.modify i fun e => { e with key := .int .i64 k, val := .bool true }).map (·.born)).Nodup
   rw [eb]; exact s2
  ·show ((es.modify i fun e => { e with key := .int .i64 k, val := .bool true }).map (·.key)).Nodup
   rw [ek]; exact s3
  ·intro q
   show (∃ e ∈ es.modify i fun e => { e with key := .int .i64 k, val := .bool true }, e.key = .int .i64 q) ↔ q ∈ k :: l
   rw [kin q, hm q]
   exact ⟨fun h => List.mem_cons_of_mem _ h, fun h => by rcases List.mem_cons.1 h with rfl | h <;> assumption⟩
 | none =>
  have hne := lookE_not hl
  refine ⟨?_, ?_, ⟨?_, ?_, ?_⟩, ?_⟩
  ·have := updE_keys (k := k) (v := .bool true) (clock := cl) hk
   unfold updE at this
   rw [hl] at this
   exact this
  ·intro x hx
   rcases List.mem_append.1 hx with hx | hx
   ·exact hv x hx
   ·simp at hx; subst hx; rfl
  ·intro x hx
   simp only [List.mem_append, List.mem_singleton] at hx
   show x.born < cl + 1
   rcases hx with hx | rfl
   ·have := s1 x hx; omega
   ·exact Nat.lt_succ_self _
  ·simp only [List.map_append, List.map_cons, List.map_nil]
   rw [List.nodup_append]
   refine ⟨s2, by simp, fun a ha b hb => ?_⟩
   obtain ⟨y, hy, rfl⟩ := List.mem_map.1 ha
   simp at hb; subst hb
   have := s1 y hy
   omega
  ·simp only [List.map_append, List.map_cons, List.map_nil]
   rw [List.nodup_append]
   refine ⟨s3, by simp, fun a ha b hb => ?_⟩
   obtain ⟨y, hy, rfl⟩ := List.mem_map.1 ha
   simp at hb; subst hb
   exact hne y hy
  ·intro q
   simp only [List.mem_append, List.mem_cons, List.not_mem_nil, or_false]
   constructor
   ·rintro ⟨e, he | rfl, h2⟩
    ·exact .inr ((hm q).1 ⟨e, he, h2⟩)
    ·injection h2 with _ h2; exact .inl h2.symm
   ·rintro (rfl | h)
    ·exact ⟨_, .inr rfl, rfl⟩
    ·obtain ⟨e, he, h2⟩ := (hm q).2 h
     exact ⟨e, .inl he, h2⟩
end Go.Proofs.YtmikfjcdgkopkaaGreat

/-
 Promises: the days that matter; books whose reads are alike, plain.
 Conditions: none.
-/
namespace Go.Proofs.YtmikfjcdgkopkaaGreat
open Go Bf
theorem foldl_eq {α β : Type} {f g : β → α → β} : ∀ {l : List α} {b : β}, (∀ x ∈ l, ∀ y, f y x = g y x) → l.foldl f b = l.foldl g b
 | [], _, _ => rfl
 | x :: l, b, h => by
  rw [List.foldl_cons, List.foldl_cons, h x (by simp)]
  exact foldl_eq fun y hy => h y (by simp [hy])
theorem atF_day {l : List Fc} {k : Ky} {d known : Int} (h : ∀ f ∈ l, f.key = k → f.lo ≠ d ∧ f.hi ≠ d) : atF l k d known = atF l k (d - 1) known := by
 unfold atF lastF
 rw [foldl_eq fun f hf o => ?_]
 unfold pick
 have e : about k d known f = about k (d - 1) known f := by
  unfold about
  by_cases hk : f.key = k
  ·obtain ⟨h1, h2⟩ := h f hf hk
   rw [show decide (f.lo ≤ d) = decide (f.lo ≤ d - 1) from decide_eq_decide.2 ⟨fun _ => by omega, fun _ => by omega⟩, show decide (d < f.hi) = decide (d - 1 < f.hi) from decide_eq_decide.2 ⟨fun _ => by omega, fun _ => by omega⟩]
  ·simp [hk]
 rw [e]
def onDay (r : Rq) (d : Int) : Rq := { r with due := d }
def matters (w : Wd) (b : Bp) (r : Rq) (d : Int) : Prop := d = r.due ∨ (∃ s ∈ b.sups, s.ready = d) ∨ ∃ f ∈ w.facts, (f.key.1 = 7 ∧ f.key.2.1 = r.cust) ∧ (f.lo = d ∨ f.hi = d)
def canF (w : Wd) (b : Bp) (r : Rq) (d : Int) : Prop := Feas (pbW w b.known b.sups (b.reqs ++ [onDay r d]))
theorem fit_prev {w : Wd} {b : Bp} {r : Rq} {d : Int} (h : ¬ matters w b r d) {s : Sp} (hs : s ∈ b.sups) (hf : fitF w b.known s (onDay r d) = true) : fitF w b.known s (onDay r (d - 1)) = true := by
 simp only [matters, not_or, not_exists, not_and] at h
 obtain ⟨h1, h2, h3⟩ := h
 have hr := h2 s hs
 unfold fitF at hf ⊢
 simp only [Bool.and_eq_true, Bool.not_eq_true', couldF, decide_eq_true_eq] at hf ⊢
 obtain ⟨⟨c1, c2, c3⟩, c4⟩ := hf
 refine ⟨⟨?_, ?_, c3⟩, ?_⟩
 ·simp only [onDay] at c1 ⊢; omega
 ·simp only [onDay] at c2 ⊢; omega
 ·unfold refusedF at c4 ⊢
  have ha : atF w.facts (7, r.cust, s.item) d b.known = atF w.facts (7, r.cust, s.item) (d - 1) b.known := atF_day fun f hf hk => not_or.1 (fun h => (h.elim (h3 f hf ⟨by rw [hk], by rw [hk]⟩).1 (h3 f hf ⟨by rw [hk], by rw [hk]⟩).2))
  have c5 := of_decide_eq_false c4
  refine decide_eq_false fun h => c5 ?_
  have h2 : atF w.facts (7, r.cust, s.item) (d - 1) b.known = some 1 := h
  exact ha.trans h2
theorem can_prev {w : Wd} {b : Bp} {r : Rq} {d : Int} (h : ¬ matters w b r d) (hc : canF w b r d) : canF w b r (d - 1) := by
 unfold canF at hc ⊢
 refine Feas.more (p := pbW w b.known b.sups (b.reqs ++ [onDay r d])) (by simp [pbW, pbOf]) (by simp [pbW, pbOf, amR]) (fun k hk j hj hf => ?_) (fun k hk => Int.le_refl _) (fun j hj => .inl ?_) hc
 ·simp only [pbW, pbOf, amS, amR, List.length_map] at hk hj hf ⊢
  obtain ⟨x, hx⟩ := get_of_lt hk
  by_cases e : j < b.reqs.length
  ·obtain ⟨y, hy⟩ := get_of_lt e
   have h1 : ∀ d, (b.reqs ++ [onDay r d])[j]? = some y := fun d => by rw [List.getElem?_append_left e, hy]
   rw [fitsT_get hx (h1 d)] at hf
   rw [fitsT_get hx (h1 _)]
   exact hf
  ·have e2 : j = b.reqs.length := by
    simp only [List.length_append, List.length_singleton] at hj
    omega
   subst e2
   have h1 : ∀ d, (b.reqs ++ [onDay r d])[b.reqs.length]? = some (onDay r d) := fun d => by simp
   rw [fitsT_get hx (h1 d)] at hf
   rw [fitsT_get hx (h1 _)]
   exact fit_prev h (List.mem_of_getElem? hx) hf
 ·simp [pbW, pbOf, amR, onDay]
theorem no_day {w : Wd} {b : Bp} {r : Rq} : ∀ (n : Nat) {d : Int}, d = r.due + n → (∀ d', r.due ≤ d' → d' ≤ d → matters w b r d' → ¬ canF w b r d') → ¬ canF w b r d
 | 0, d, hd, h => h d (by omega) (Int.le_refl _) (.inl (by omega))
 | n + 1, d, hd, h => fun hc => by
  by_cases hm : matters w b r d
  ·exact h d (by omega) (Int.le_refl _) hm hc
  ·exact no_day n (d := d - 1) (by omega) (fun d' h1 h2 => h d' h1 (by omega)) (can_prev hm hc)
theorem mem_addNew {l : List Rd} {x y : Rd} : y ∈ addNew l x ↔ y ∈ l ∨ y = x := by
 unfold addNew
 split
 ·rename_i h
  exact ⟨.inl, fun h2 => h2.elim id fun e => e ▸ h⟩
 ·simp
theorem mem_foldNew {y : Rd} : ∀ {xs l : List Rd}, y ∈ xs.foldl addNew l ↔ y ∈ l ∨ y ∈ xs
 | [], l => by simp
 | x :: xs, l => by
  rw [List.foldl_cons, mem_foldNew, mem_addNew, List.mem_cons]
  exact or_assoc
theorem mem_readsF {w : Wd} {s : List Sp} {r : List Rq} {y : Rd} : y ∈ readsF w s r ↔ ∃ x ∈ s, ∃ z ∈ r, couldF w x z = true ∧ y = lookF x z := by
 unfold readsF
 rw [mem_foldNew]
 simp only [List.not_mem_nil, false_or, List.mem_flatMap, looksR, List.mem_map, List.mem_filter]
 exact ⟨fun ⟨x, hx, z, ⟨hz, hc⟩, e⟩ => ⟨x, hx, z, hz, hc, e.symm⟩, fun ⟨x, hx, z, hz, hc, e⟩ => ⟨x, hx, z, ⟨hz, hc⟩, e.symm⟩⟩
def alikeF (w : Wd) (l : List Rd) (a b : Int) : Prop := ∀ y ∈ l, refusedF w y a = refusedF w y b
theorem fitsT_alike {w : Wd} {a b : Int} {s : List Sp} {r : List Rq} (h : alikeF w (readsF w s r) a b) : fitsT w a s r = fitsT w b s r := by
 unfold fitsT
 refine List.map_congr_left fun x hx => List.map_congr_left fun z hz => ?_
 unfold fitF
 cases hc : couldF w x z with
 | false => rfl
 | true => rw [h _ (mem_readsF.2 ⟨x, hx, z, hz, hc, rfl⟩)]
end Go.Proofs.YtmikfjcdgkopkaaGreat

/-
 Promises: days.
 Conditions: none.
-/
namespace Go.Proofs.YtmikfjcdgkopkaaGreat
open Go Bf
attribute [local irreducible] Tr Exec Stab HasTy Go.Addr.add IntKind.wrap
def mat1 (r : Rq) (s : List Sp) (d : Int) : Prop := d = r.due ∨ ∃ x ∈ s, x.ready = d
def mat2 (r : Rq) (s : List Sp) (f : List Fc) (d : Int) : Prop := mat1 r s d ∨ ∃ x ∈ f, (x.key.1 = 7 ∧ x.key.2.1 = r.cust) ∧ (x.lo = d ∨ x.hi = d)
theorem mat2_iff {w : Wd} {k : Bp} {r : Rq} {d : Int} : mat2 r k.sups w.facts d ↔ matters w k r d := by
 unfold mat2 mat1 matters
 rw [or_assoc]
def DayM (es : List MapEntry) (cl : Nat) (S : Int → Prop) (n : Nat) : Prop := es.length ≤ n ∧ ∃ l, DMap es cl l ∧ ∀ d, d ∈ l ↔ S d
theorem DayM.add {es : List MapEntry} {cl n : Nat} {S S' : Int → Prop} (h : DayM es cl S n) (k : Int) (hS : ∀ d, S' d ↔ d = k ∨ S d) : DayM (updE k (.bool true) es cl).1 (updE k (.bool true) es cl).2 S' (n + 1) := by
 obtain ⟨h1, l, h2, h3⟩ := h
 refine ⟨?_, k :: l, h2.add k, fun d => ?_⟩
 ·rw [updE_len]; split <;> omega
 ·rw [List.mem_cons, h3, hS]
theorem DayM.keys {es : List MapEntry} {cl n : Nat} {S : Int → Prop} (h : DayM es cl S n) : IntKeys es := by
 obtain ⟨-, l, h2, -⟩ := h
 exact h2.keys
theorem DayM.mono {es : List MapEntry} {cl n m : Nat} {S S' : Int → Prop} (h : DayM es cl S n) (hm : n ≤ m) (hS : ∀ d, S' d ↔ S d) : DayM es cl S' m := by
 obtain ⟨h1, l, h2, h3⟩ := h
 exact ⟨by omega, l, h2, fun d => by rw [h3, hS]⟩
set_option maxHeartbeats 8000000 in
set_option maxRecDepth 20000 in
theorem days_fn (M : Mem) (ws : List Value) (w : Wd) (hw : RWd M ws w) (k : Bp) (As Ar Af Ad : Option Addr) (cs cr cf cd : Nat) (h1 : SlOf 6 RSpC M (.slice As k.sups.length cs) k.sups) (_ : SlOf 6 RRqC M (.slice Ar k.reqs.length cr) k.reqs) (_ : Fits2 M (.slice Af k.fits.length cf) k.fits) (_ : SlOf 5 RRd M (.slice Ad k.rds.length cd) k.rds) (r : Rq) :
  Bf.Fn Tryz.prog 52 [.agg ws.toArray, .agg #[.int .i64 k.known, .slice As k.sups.length cs, .slice Ar k.reqs.length cr, .slice Af k.fits.length cf, .slice Ad k.rds.length cd], .agg #[.int .i64 r.no, .int .i64 r.item, .int .i64 r.cust, .int .i64 r.due, .int .i64 r.shelf, .int .i64 r.amount]] M [] (fun v M' A' => M = M' ∧ ∃ b5 b7 mb es cl, v = .func (.func 91) #[] #[.pointer (some ⟨b7, 0, none⟩), .pointer (some ⟨b5, 0, none⟩)] ∧ A' = [box b7 137 [.map (some mb)], mapR mb es cl, box b5 46 [.int .i64 r.no, .int .i64 r.item, .int .i64 r.cust, .int .i64 r.due, .int .i64 r.shelf, .int .i64 r.amount]] ∧ DayM es cl (matters w k r) (1 + k.sups.length + 2 * w.facts.length)) := by
 have hl1 := h1.len_le
 obtain ⟨h11, hone, -, B, kb, h10, hfa⟩ := hw
 have hl2 := hfa.len_le
 refine Fn.intro Tryz.func52 rfl rfl Tryz.ntmps52 rfl fun E F => ?_
 (repeat (first | ((with_reducible refine Tr.step rfl ?_); (first | (refine xmQ ?_) | (refine xaQ ?_) | (refine xlQ ?_) | (refine xfQ ?_) | (refine xnQ ?_) | (refine xSQ ?_) | ((with_reducible refine Knd.box ?_); (refine Exec.box rfl rfl (fun b => ?_))) | ((with_reducible refine Knd.alloc ?_); (refine Exec.alloc1 (tysOk.get rfl) rfl rfl rfl (fun b => ?_))) | ((with_reducible refine Knd.makeMap ?_); (refine Exec.makeMap rfl (fun b => ?_))) | ((with_reducible refine Knd.insert ?_); ((refine Exec.mapInsert rfl rfl rfl (tysOk.get rfl) rfl (tysOk.get rfl) rfl ?_ (by repeat (first | exact Upd.here | apply Upd.there)) ?_); (first | exact IntKeys.nil | assumption))))) | (with_reducible first | apply Tr.next | apply Tr.seq | apply Tr.region | apply Tr.nil | apply Tr.block)))
 rename_i b3 b4 b5 mb
 generalize b = b7
 have hd0 : DayM (updE r.due (.bool true) [] 0).1 (updE r.due (.bool true) [] 0).2 (mat1 r (k.sups.take 0)) (1 + 0) := by
  have h0 : DayM [] 0 (fun _ => False) 0 := ⟨Nat.le_refl _, [], DMap.nil, by simp⟩
  exact h0.add r.due (fun d => by simp [mat1])
 generalize updE r.due (.bool true) [] 0 = q0 at hd0 ⊢
 refine Tr.loop (α := Nat × List MapEntry × Nat) (fun y => ⟨56, [(19, .int .i64 (y.1 : Int)), (18, .int .i64 (k.sups.length : Int)), (17, .slice As k.sups.length cs), (7, .pointer (some ⟨b7, 0, none⟩)), (6, .nilFunc), (5, .pointer (some ⟨b5, 0, none⟩)), (4, .pointer (some ⟨b4, 0, none⟩)), (3, .pointer (some ⟨b3, 0, none⟩))], [], M, box b7 137 [.map (some mb)] :: mapR mb y.2.1 y.2.2 :: box b5 46 [.int .i64 r.no, .int .i64 r.item, .int .i64 r.cust, .int .i64 r.due, .int .i64 r.shelf, .int .i64 r.amount] :: box b4 44 [.int .i64 k.known, .slice As k.sups.length cs, .slice Ar k.reqs.length cr, .slice Af k.fits.length cf, .slice Ad k.rds.length cd] :: box b3 38 ws :: ([] ++ F)⟩)
  (fun y => y.1 ≤ k.sups.length ∧ DayM y.2.1 y.2.2 (mat1 r (k.sups.take y.1)) (1 + y.1)) (fun y => k.sups.length - y.1) (0, q0.1, q0.2) ⟨Nat.zero_le _, hd0⟩ hsQ (fun y hy => ?_)
 obtain ⟨i, es, cl⟩ := y
 obtain ⟨hi, hd⟩ := hy
 simp only at hi hd
 dsimp only
 by_cases hlt : i < k.sups.length
 ·obtain ⟨x, hx⟩ := get_of_lt hlt
  obtain ⟨hA, ch, hat, rfl⟩ := h1.elem hx
  simp only [spC] at hat
  have hkeys := hd.keys
  (repeat (first | ((with_reducible refine Tr.step rfl ?_); (first | (refine xmQ ?_) | ((with_reducible refine Knd.load ?_); (first | (refine xlQ ?_) | (refine Exec.stab rfl (Stab.loadMA rfl (tysOk.get rfl) rfl (by assumption) (by first | rfl | assumption)) rfl ?_))) | (refine xfQ ?_) | ((with_reducible refine Knd.binOp ?_); (first | (refine xdQ ?_) | (refine xiQ ?_))) | (refine xWQ ?_) | ((with_reducible refine Knd.alloc ?_); (refine Exec.alloc (tysOk.get rfl) rfl rfl (fun b => ?_))) | ((with_reducible refine Knd.mapUpdate ?_); (refine Exec.mapUpdate rfl rfl rfl (tysOk.get rfl) rfl (tysOk.get rfl) rfl (by assumption) (by repeat (first | exact Upd.here | apply Upd.there)) ?_)) | (refine xxQ ?_))) | (with_reducible first | apply Tr.next | apply Tr.seq | apply Tr.region | apply Tr.nil | apply Tr.skip | apply Tr.block | apply Tr.in_normal) | (refine Tr.cond_t rfl (by first | (with_reducible assumption) | omega) ?_)))
  refine Tr.again (i + 1, (updE x.ready (.bool true) es cl).1, (updE x.ready (.bool true) es cl).2) ⟨by simp only; omega, ?_⟩ (by simp only; omega) hsQ
  refine (hd.add x.ready (S' := mat1 r (k.sups.take (i + 1))) (fun d => ?_)).mono (by simp only; omega) (fun _ => Iff.rfl)
  unfold mat1
  rw [List.take_add_one, hx]
  simp only [Option.toList_some, List.mem_append, List.mem_singleton]
  constructor
  ·rintro (h | ⟨z, h | rfl, h2⟩)
   ·exact .inr (.inl h)
   ·exact .inr (.inr ⟨z, h, h2⟩)
   ·exact .inl h2.symm
  ·rintro (h | h | ⟨z, h, h2⟩)
   ·exact .inr ⟨x, .inr rfl, h.symm⟩
   ·exact .inl h
   ·exact .inr ⟨z, .inl h, h2⟩
 have ei : i = k.sups.length := by omega
 subst ei
 rw [List.take_length] at hd
 (repeat (first | ((with_reducible refine Tr.step rfl ?_); (first | (refine xmQ ?_) | ((with_reducible refine Knd.load ?_); (refine Exec.stab rfl (Stab.load rfl (tysOk.get rfl) rfl (by repeat (first | exact Has.here | apply Has.there)) (by assumption)) rfl ?_)) | (refine xfQ ?_) | (refine xnQ ?_) | (refine xiQ ?_))) | (with_reducible first | apply Tr.next | apply Tr.seq | apply Tr.region | apply Tr.nil | apply Tr.block | apply Tr.exit | apply Tr.then_exit) | ((with_reducible refine Tr.in_exit ?_ ?_); (exact rfl)) | (refine Tr.cond_f rfl (by first | (with_reducible assumption) | omega) ?_)))
 have hd0 : DayM es cl (mat2 r k.sups (w.facts.take 0)) (1 + k.sups.length + 2 * 0) := hd.mono (by omega) (fun d => by simp [mat2])
 refine Tr.loop (α := Nat × List MapEntry × Nat) (fun y => ⟨56, [(30, .int .i64 (y.1 : Int)), (29, .int .i64 (w.facts.length : Int)), (28, .slice B w.facts.length kb), (7, .pointer (some ⟨b7, 0, none⟩)), (6, .nilFunc), (5, .pointer (some ⟨b5, 0, none⟩)), (4, .pointer (some ⟨b4, 0, none⟩)), (3, .pointer (some ⟨b3, 0, none⟩))], [], M, box b7 137 [.map (some mb)] :: mapR mb y.2.1 y.2.2 :: box b5 46 [.int .i64 r.no, .int .i64 r.item, .int .i64 r.cust, .int .i64 r.due, .int .i64 r.shelf, .int .i64 r.amount] :: box b4 44 [.int .i64 k.known, .slice As k.sups.length cs, .slice Ar k.reqs.length cr, .slice Af k.fits.length cf, .slice Ad k.rds.length cd] :: box b3 38 ws :: ([] ++ F)⟩)
  (fun y => y.1 ≤ w.facts.length ∧ DayM y.2.1 y.2.2 (mat2 r k.sups (w.facts.take y.1)) (1 + k.sups.length + 2 * y.1)) (fun y => w.facts.length - y.1) (0, es, cl) ⟨Nat.zero_le _, hd0⟩ hsQ (fun y hy => ?_)
 clear hd hd0 hlt
 obtain ⟨i, es, cl⟩ := y
 obtain ⟨hi, hd⟩ := hy
 simp only at hi hd
 dsimp only
 by_cases hlt : i < w.facts.length
 ·obtain ⟨x, hx⟩ := get_of_lt hlt
  obtain ⟨hA, ch, hat, rfl⟩ := hfa.elem hx
  simp only [fcC] at hat
  have hkeys := hd.keys
  have hstep : ∀ d, mat2 r k.sups (w.facts.take (i + 1)) d ↔ mat2 r k.sups (w.facts.take i) d ∨ (x.key.1 = 7 ∧ x.key.2.1 = r.cust) ∧ (x.lo = d ∨ x.hi = d) := fun d => by
   unfold mat2
   rw [List.take_add_one, hx]
   simp only [Option.toList_some, List.mem_append, List.mem_singleton]
   constructor
   ·rintro (h | ⟨z, h | rfl, h2⟩)
    ·exact .inl (.inl h)
    ·exact .inl (.inr ⟨z, h, h2⟩)
    ·exact .inr h2
   ·rintro ((h | ⟨z, h, h2⟩) | h)
    ·exact .inl h
    ·exact .inr ⟨z, .inl h, h2⟩
    ·exact .inr ⟨x, .inr rfl, h⟩
  by_cases hk1 : x.key.1 = 7
  ·by_cases hk2 : x.key.2.1 = r.cust
   ·have hd1 := hd.add x.lo (S' := fun d => d = x.lo ∨ mat2 r k.sups (w.facts.take i) d) (fun _ => Iff.rfl)
    have hd2 := hd1.add x.hi (S' := mat2 r k.sups (w.facts.take (i + 1))) (fun d => by
     rw [hstep]
     constructor
     ·rintro (h | ⟨-, h | h⟩)
      ·exact .inr (.inr h)
      ·exact .inr (.inl h.symm)
      ·exact .inl h.symm
     ·rintro (h | h | h)
      ·exact .inr ⟨⟨hk1, hk2⟩, .inr h.symm⟩
      ·exact .inr ⟨⟨hk1, hk2⟩, .inl h.symm⟩
      ·exact .inl h)
    (repeat (first | ((with_reducible refine Tr.step rfl ?_); (first | (refine xmQ ?_) | ((with_reducible refine Knd.load ?_); (first | (refine xlQ ?_) | (refine Exec.stab rfl (Stab.loadMA rfl (tysOk.get rfl) rfl (by assumption) (by first | rfl | assumption)) rfl ?_))) | ((with_reducible refine Knd.fieldAddr ?_); (first | (refine xfQ ?_) | (refine Exec.stab rfl (Stab.fieldN rfl (tysOk.get rfl) rfl rfl (tysOk.get rfl) rfl) rfl ?_))) | (refine xiQ ?_) | ((with_reducible refine Knd.pick ?_); (refine Exec.stab rfl (Stab.pick_td rfl (by (with_reducible assumption)) rfl) rfl ?_)) | (refine xWQ ?_) | ((with_reducible refine Knd.alloc ?_); (refine Exec.alloc (tysOk.get rfl) rfl rfl (fun b => ?_))) | ((with_reducible refine Knd.mapUpdate ?_); (refine Exec.mapUpdate rfl rfl rfl (tysOk.get rfl) rfl (tysOk.get rfl) rfl (by assumption) (by repeat (first | exact Upd.here | apply Upd.there)) ?_)) | (refine xxQ ?_))) | (with_reducible first | apply Tr.next | apply Tr.seq | apply Tr.region | apply Tr.nil) | ((refine Tr.guard_y rfl rfl rfl (by (with_reducible assumption)) ?_); (first | (refine xlQ ?_) | (refine xfQ ?_) | (refine xiQ ?_))) | (with_reducible first | apply Tr.skip | apply Tr.block) | (refine Tr.cond_t rfl (by first | (with_reducible assumption) | omega) ?_)))
    have hkeys2 := hd1.keys
    clear hkeys
    (repeat (first | ((with_reducible refine Tr.step rfl ?_); (first | (refine xmQ ?_) | (refine xdQ ?_) | ((with_reducible refine Knd.mapUpdate ?_); (refine Exec.mapUpdate rfl rfl rfl (tysOk.get rfl) rfl (tysOk.get rfl) rfl (by assumption) (by repeat (first | exact Upd.here | apply Upd.there)) ?_)))) | (with_reducible first | apply Tr.next | apply Tr.region | apply Tr.nil | apply Tr.in_normal)))
    refine Tr.again (i + 1, (updE x.hi (.bool true) (updE x.lo (.bool true) es cl).1 (updE x.lo (.bool true) es cl).2).1, (updE x.hi (.bool true) (updE x.lo (.bool true) es cl).1 (updE x.lo (.bool true) es cl).2).2) ⟨by simp only; omega, hd2.mono (by simp only; omega) (fun _ => Iff.rfl)⟩ (by simp only; omega) hsQ
   ·(repeat (first | ((with_reducible refine Tr.step rfl ?_); (first | (refine xmQ ?_) | ((with_reducible refine Knd.load ?_); (first | (refine xlQ ?_) | (refine Exec.stab rfl (Stab.loadMA rfl (tysOk.get rfl) rfl (by assumption) (by first | rfl | assumption)) rfl ?_))) | (refine xfQ ?_) | ((with_reducible refine Knd.binOp ?_); (first | (refine xdQ ?_) | (refine xiQ ?_))) | ((with_reducible refine Knd.pick ?_); (refine Exec.stab rfl (Stab.pick_td rfl (by (with_reducible assumption)) rfl) rfl ?_)) | (refine xWQ ?_) | ((with_reducible refine Knd.alloc ?_); (refine Exec.alloc (tysOk.get rfl) rfl rfl (fun b => ?_))) | (refine xxQ ?_))) | (with_reducible first | apply Tr.next | apply Tr.seq | apply Tr.region | apply Tr.nil) | ((refine Tr.guard_y rfl rfl rfl (by (with_reducible assumption)) ?_); (first | (refine xlQ ?_) | (refine xfQ ?_) | (refine xiQ ?_))) | (with_reducible first | apply Tr.skip | apply Tr.block | apply Tr.in_normal) | (refine Tr.cond_t rfl (by first | (with_reducible assumption) | omega) ?_) | (refine Tr.cond_f rfl (by (with_reducible assumption)) ?_)))
    refine Tr.again (i + 1, es, cl) ⟨by simp only; omega, hd.mono (by simp only; omega) (fun d => by rw [hstep]; exact or_iff_left fun h => hk2 h.1.2)⟩ (by simp only; omega) hsQ
  ·(repeat (first | ((with_reducible refine Tr.step rfl ?_); (first | (refine xmQ ?_) | ((with_reducible refine Knd.load ?_); (first | (refine xlQ ?_) | (refine Exec.stab rfl (Stab.loadMA rfl (tysOk.get rfl) rfl (by assumption) (by first | rfl | assumption)) rfl ?_))) | (refine xfQ ?_) | ((with_reducible refine Knd.binOp ?_); (first | (refine xdQ ?_) | (refine xiQ ?_))) | ((with_reducible refine Knd.pick ?_); (refine Exec.stab rfl (Stab.pick_fd rfl (by (with_reducible assumption)) rfl) rfl ?_)) | (refine xWQ ?_) | ((with_reducible refine Knd.alloc ?_); (refine Exec.alloc (tysOk.get rfl) rfl rfl (fun b => ?_))) | (refine xxQ ?_))) | (with_reducible first | apply Tr.next | apply Tr.seq | apply Tr.region | apply Tr.nil) | (refine Tr.guard_n rfl rfl rfl (by (with_reducible assumption)) rfl rfl ?_) | (with_reducible first | apply Tr.skip | apply Tr.block | apply Tr.in_normal) | (refine Tr.cond_bf rfl (by (with_reducible rfl)) ?_) | (refine Tr.cond_t rfl (by first | (with_reducible assumption) | omega) ?_)))
   refine Tr.again (i + 1, es, cl) ⟨by simp only; omega, hd.mono (by simp only; omega) (fun d => by rw [hstep]; exact or_iff_left fun h => hk1 h.1.1)⟩ (by simp only; omega) hsQ
 have ei : i = w.facts.length := by omega
 subst ei
 rw [List.take_length] at hd
 (repeat (first | ((with_reducible refine Tr.step rfl ?_); (first | (refine xaQ ?_) | ((with_reducible refine Knd.makeFunc ?_); (refine Exec.stab rfl (Stab.makeFunc rfl rfl) rfl ?_)) | (refine xiQ ?_))) | (with_reducible first | apply Tr.next | apply Tr.seq | apply Tr.region | apply Tr.nil | apply Tr.exit | apply Tr.ret | apply Tr.then_exit) | ((with_reducible refine Tr.in_exit ?_ ?_); (exact rfl)) | (refine Tr.cond_f rfl (by first | (with_reducible assumption) | omega) ?_)))
 refine gvQ (r := box b4 _ _) ?_
 refine gvQ (r := box b3 38 _) ?_
 refine Tr.doneA (A' := [box b7 137 [.map (some mb)], mapR mb es cl, box b5 46 [.int .i64 r.no, .int .i64 r.item, .int .i64 r.cust, .int .i64 r.due, .int .i64 r.shelf, .int .i64 r.amount]]) (by first | exact .inl rfl | exact .inr rfl) rfl (by repeat (first | exact RVs.nil | (apply RVs.cons; (exact RV.tmp rfl)))) (Mem.le.refl _) ⟨fun _ h => h, fun h => h⟩ ⟨rfl, b5, b7, mb, es, cl, rfl, rfl, hd.mono (Nat.le_refl _) (fun _ => mat2_iff.symm)⟩
end Go.Proofs.YtmikfjcdgkopkaaGreat

/-
 Promises: the keys of a map, sorted: the shelf's contracts at this program (the layings were written by the kit's tool), and as a contract of the small logic.
 Conditions: none.
-/
namespace Go.Proofs.YtmikfjcdgkopkaaGreat
open Go Bf
open Go.RowKit Go.Maps Go.Sort Go.Shelf
def keysA_ren : Go.Shelf.Ren := ⟨fun | 7 => 93 | 10 => 129 | n => n, fun | 23 => 137 | 26 => 3 | 3 => 4 | 28 => 108 | 0 => 0 | 27 => 107 | 33 => 132 | 4 => 4 | n => n, fun | n => n⟩
theorem keysA : Go.Proofs.SlLaysZI.n7 Tryz.prog keysA_ren := {
 mixed := by kernel_rfl
 f7 := ⟨Tryz.f93.name, by decide, Tryz.func93.trans (congrArg some (by kernel_rfl))⟩
 f10 := ⟨Tryz.f129.name, by decide, Tryz.func129.trans (congrArg some (by kernel_rfl))⟩
 t0 := Tryz.underlying0
 a0 := Tryz.isAgg0
 z0 := Tryz.sizeOf0
 v0 := Tryz.zeroValue0
 t4 := Tryz.underlying4
 a4 := Tryz.isAgg4
 z4 := Tryz.sizeOf4
 v4 := Tryz.zeroValue4
 t23 := Tryz.underlying137
 a23 := Tryz.isAgg137
 z23 := Tryz.sizeOf137
 v23 := Tryz.zeroValue137
 t26 := Tryz.underlying3
 a26 := Tryz.isAgg3
 z26 := Tryz.sizeOf3
 v26 := Tryz.zeroValue3
 t27 := Tryz.underlying107
 a27 := Tryz.isAgg107
 z27 := Tryz.sizeOf107
 v27 := Tryz.zeroValue107
 t28 := Tryz.underlying108
 a28 := Tryz.isAgg108
 z28 := Tryz.sizeOf108
 v28 := Tryz.zeroValue108
 t33 := Tryz.underlying132
 a33 := Tryz.isAgg132
 z33 := Tryz.sizeOf132
 v33 := Tryz.zeroValue132 }
def sortedA_ren : Go.Shelf.Ren := ⟨fun | 6 => 92 | 8 => 127 | 9 => 128 | 11 => 143 | 13 => 145 | 12 => 144 | 23 => 157 | 24 => 158 | 14 => 148 | 15 => 149 | 16 => 150 | 17 => 151 | 18 => 152 | 19 => 153 | 20 => 154 | 21 => 155 | 22 => 156 | 25 => 159 | 26 => 160 | 27 => 161 | 28 => 162 | 29 => 163 | 30 => 146 | 31 => 164 | n => n, fun | 26 => 3 | 28 => 108 | 24 => 32 | 0 => 0 | 3 => 3 | 37 => 65 | 48 => 207 | 50 => 209 | 4 => 4 | 40 => 201 | 39 => 200 | 45 => 154 | 5 => 5 | 9 => 9 | 51 => 210 | 55 => 214 | 57 => 216 | 58 => 217 | 33 => 132 | n => n, fun | n => n⟩
theorem sortedA : Go.Proofs.SlLaysZI.n6 Tryz.prog sortedA_ren := {
 mixed := by kernel_rfl
 f6 := ⟨Tryz.f92.name, by decide, Tryz.func92.trans (congrArg some (by kernel_rfl))⟩
 f8 := ⟨Tryz.f127.name, by decide, Tryz.func127.trans (congrArg some (by kernel_rfl))⟩
 f11 := ⟨Tryz.f143.name, by decide, Tryz.func143.trans (congrArg some (by kernel_rfl))⟩
 t0 := Tryz.underlying0
 a0 := Tryz.isAgg0
 z0 := Tryz.sizeOf0
 v0 := Tryz.zeroValue0
 t24 := Tryz.underlying32
 a24 := Tryz.isAgg32
 z24 := Tryz.sizeOf32
 v24 := Tryz.zeroValue32
 t26 := Tryz.underlying3
 a26 := Tryz.isAgg3
 z26 := Tryz.sizeOf3
 v26 := Tryz.zeroValue3
 t28 := Tryz.underlying108
 a28 := Tryz.isAgg108
 z28 := Tryz.sizeOf108
 v28 := Tryz.zeroValue108
 i26 := by kernel_rfl }
def sortA_ren : Go.Shelf.Ren := ⟨fun | 5 => 128 | 8 => 145 | 7 => 144 | 19 => 157 | 20 => 158 | 10 => 148 | 11 => 149 | 12 => 150 | 13 => 151 | 14 => 152 | 15 => 153 | 16 => 154 | 17 => 155 | 18 => 156 | 30 => 159 | 31 => 160 | 32 => 161 | 33 => 162 | 34 => 163 | 35 => 146 | 40 => 164 | n => n, fun | 23 => 32 | 25 => 3 | 3 => 3 | 32 => 65 | 22 => 32 | 0 => 0 | 44 => 207 | 46 => 209 | 4 => 4 | 36 => 201 | 35 => 200 | 41 => 154 | 5 => 5 | 9 => 9 | 53 => 210 | 57 => 214 | 63 => 216 | 64 => 217 | n => n, fun | n => n⟩
theorem sortA : Go.Proofs.SlLaysM.n5 Tryz.prog sortA_ren := {
 mixed := by kernel_rfl
 f5 := ⟨Tryz.f128.name, by decide, Tryz.func128.trans (congrArg some (by kernel_rfl))⟩
 f7 := ⟨Tryz.f144.name, by decide, Tryz.func144.trans (congrArg some (by kernel_rfl))⟩
 f8 := Tryz.func145.trans (congrArg some (by kernel_rfl))
 f10 := ⟨Tryz.f148.name, by decide, Tryz.func148.trans (congrArg some (by kernel_rfl))⟩
 f11 := ⟨Tryz.f149.name, by decide, Tryz.func149.trans (congrArg some (by kernel_rfl))⟩
 f12 := ⟨Tryz.f150.name, by decide, Tryz.func150.trans (congrArg some (by kernel_rfl))⟩
 f13 := ⟨Tryz.f151.name, by decide, Tryz.func151.trans (congrArg some (by kernel_rfl))⟩
 f14 := ⟨Tryz.f152.name, by decide, Tryz.func152.trans (congrArg some (by kernel_rfl))⟩
 f15 := ⟨Tryz.f153.name, by decide, Tryz.func153.trans (congrArg some (by kernel_rfl))⟩
 f16 := ⟨Tryz.f154.name, by decide, Tryz.func154.trans (congrArg some (by kernel_rfl))⟩
 f17 := ⟨Tryz.f155.name, by decide, Tryz.func155.trans (congrArg some (by kernel_rfl))⟩
 f18 := ⟨Tryz.f156.name, by decide, Tryz.func156.trans (congrArg some (by kernel_rfl))⟩
 f19 := Tryz.func157.trans (congrArg some (by kernel_rfl))
 f20 := Tryz.func158.trans (congrArg some (by kernel_rfl))
 f30 := ⟨Tryz.f159.name, by decide, Tryz.func159.trans (congrArg some (by kernel_rfl))⟩
 f31 := Tryz.func160.trans (congrArg some (by kernel_rfl))
 f32 := Tryz.func161.trans (congrArg some (by kernel_rfl))
 f33 := ⟨Tryz.f162.name, by decide, Tryz.func162.trans (congrArg some (by kernel_rfl))⟩
 f34 := ⟨Tryz.f163.name, by decide, Tryz.func163.trans (congrArg some (by kernel_rfl))⟩
 f35 := ⟨Tryz.f146.name, by decide, Tryz.func146.trans (congrArg some (by kernel_rfl))⟩
 f40 := ⟨Tryz.f164.name, by decide, Tryz.func164.trans (congrArg some (by kernel_rfl))⟩
 t0 := Tryz.underlying0
 a0 := Tryz.isAgg0
 z0 := Tryz.sizeOf0
 v0 := Tryz.zeroValue0
 t3 := Tryz.underlying3
 a3 := Tryz.isAgg3
 z3 := Tryz.sizeOf3
 v3 := Tryz.zeroValue3
 t4 := Tryz.underlying4
 a4 := Tryz.isAgg4
 z4 := Tryz.sizeOf4
 v4 := Tryz.zeroValue4
 t5 := Tryz.underlying5
 a5 := Tryz.isAgg5
 z5 := Tryz.sizeOf5
 v5 := Tryz.zeroValue5
 t9 := Tryz.underlying9
 a9 := Tryz.isAgg9
 z9 := Tryz.sizeOf9
 v9 := Tryz.zeroValue9
 t22 := Tryz.underlying32
 a22 := Tryz.isAgg32
 z22 := Tryz.sizeOf32
 v22 := Tryz.zeroValue32
 t23 := Tryz.underlying32
 a23 := Tryz.isAgg32
 z23 := Tryz.sizeOf32
 v23 := Tryz.zeroValue32
 t25 := Tryz.underlying3
 a25 := Tryz.isAgg3
 z25 := Tryz.sizeOf3
 v25 := Tryz.zeroValue3
 t32 := Tryz.underlying65
 a32 := Tryz.isAgg65
 z32 := Tryz.sizeOf65
 v32 := Tryz.zeroValue65
 t35 := Tryz.underlying200
 a35 := Tryz.isAgg200
 z35 := Tryz.sizeOf200
 v35 := Tryz.zeroValue200
 t36 := Tryz.underlying201
 a36 := Tryz.isAgg201
 z36 := Tryz.sizeOf201
 v36 := Tryz.zeroValue201
 t41 := Tryz.underlying154
 a41 := Tryz.isAgg154
 z41 := Tryz.sizeOf154
 v41 := Tryz.zeroValue154
 t44 := Tryz.underlying207
 a44 := Tryz.isAgg207
 z44 := Tryz.sizeOf207
 v44 := Tryz.zeroValue207
 t46 := Tryz.underlying209
 a46 := Tryz.isAgg209
 z46 := Tryz.sizeOf209
 v46 := Tryz.zeroValue209
 t53 := Tryz.underlying210
 a53 := Tryz.isAgg210
 z53 := Tryz.sizeOf210
 v53 := Tryz.zeroValue210
 t57 := Tryz.underlying214
 a57 := Tryz.isAgg214
 z57 := Tryz.sizeOf214
 v57 := Tryz.zeroValue214
 t63 := Tryz.underlying216
 a63 := Tryz.isAgg216
 z63 := Tryz.sizeOf216
 v63 := Tryz.zeroValue216
 t64 := Tryz.underlying217
 a64 := Tryz.isAgg217
 z64 := Tryz.sizeOf217
 v64 := Tryz.zeroValue217 }
theorem sortsA (m : Nat) : AnyZI.SortsIn Tryz.prog sortedA_ren Fence.wide m :=
 ⟨fun blk off cap ss W hH hblk hsz => callsIn_wide.2 (AnyM.slices_Sort_int sortA blk off cap ss W hH hblk hsz),
 fun p cap W => callsIn_wide.2 (AnyM.slices_Sort_int_none sortA p cap W)⟩
theorem sorted_lt {ds : List Int} (h : ds.Pairwise (· ≤ ·)) (hn : ds.Nodup) : ds.Pairwise (· < ·) := by
 induction ds with
 | nil => exact .nil
 | cons a l ih =>
  rw [List.pairwise_cons] at h ⊢
  rw [List.nodup_cons] at hn
  refine ⟨fun b hb => ?_, ih h.2 hn.2⟩
  have := h.1 b hb
  have hne : a ≠ b := fun e => hn.1 (e ▸ hb)
  omega
set_option maxHeartbeats 1000000 in
theorem sorted_fn (M : Mem) (bk mb cl n : Nat) (es : List MapEntry) (S : Int → Prop) (h : DayM es cl S n) (hn : n ≤ 1000000) (hwf : ∀ d, S d → -9223372036854775808 ≤ d ∧ d ≤ 9223372036854775807) :
  Bf.Fn Tryz.prog 92 [.func (.func 129) #[] #[.pointer (some ⟨bk, 0, none⟩)]] M [box bk 137 [.map (some mb)], mapR mb es cl] (fun v M' A' => M = M' ∧ ∃ A c ds, v = .slice A (ds : List Int).length c ∧ c ≤ 9223372036854775807 ∧ A' = [ownS 3 1 A ds.length c (intV ds), box bk 137 [.map (some mb)], mapR mb es cl] ∧ ds.Pairwise (· < ·) ∧ ∀ d, d ∈ ds ↔ S d) := by
 obtain ⟨hlen, l, hD, hS⟩ := h
 refine ⟨⟨_, Tryz.func92, by kernel_rfl, by kernel_rfl⟩, fun E F w hw => ?_⟩
 have u3 : Tryz.prog.underlying 3 = some (.int .i64) := Tryz.underlying3
 have u4 : Tryz.prog.underlying 4 = some .bool := Tryz.underlying4
 have hb : w.heap[mb]? = some (.map es.toArray cl) := hw.res (mapR mb es cl) (by simp)
 have hk : Bf.hp w bk = some (.cells #[.map (some mb)] 137 (0, 0)) := hw.res (box bk 137 [.map (some mb)]) (by simp)
 have hkey : ∀ x ∈ es, ∃ q : Int, x.key = .int .i64 q ∧ keyOf Tryz.prog 3 x.key = some (.int .i64 q) := fun x hx => by
  obtain ⟨q, hq⟩ := hD.keys x hx
  have hb := hwf q ((hS q).1 ((hD.mem q).1 ⟨x, hx, hq⟩))
  refine ⟨q, hq, ?_⟩
  rw [hq]
  exact keyOf_int_mk u3 (by
   have hmin : IntKind.i64.min = -9223372036854775808 := by decide
   have hmax : IntKind.i64.max = 9223372036854775807 := by decide
   simpa [Lit.wf, hmin, hmax] using hb)
 have hrd : ∀ x ∈ es, ∃ (q : Int) (y : DataW Unit), x.key = .int .i64 q ∧ Go.WideElems.rd Tryz.prog 3 (plainElem (H := Unit) Tryz.prog 4) x = some (.int .i64 q, y) := fun x hx => by
  obtain ⟨q, hq, h2⟩ := hkey x hx
  have h3 := hD.vals x hx
  obtain ⟨ky, vl, bo⟩ := x
  simp only at hq h2 h3
  refine ⟨q, _, hq, Go.WideElems.rd_mk h2 (by rw [h3]; exact plainElem_bool u4 true)⟩
 have Ft : Go.WideElems.Fit Tryz.prog 3 (plainElem (H := Unit) Tryz.prog 4) es.toArray cl := ⟨by have e : maxLen = 9223372036854775807 := rfl; simp; omega, hD.stamp, fun x hx => by
  obtain ⟨q, y, -, h2⟩ := hrd x (by simpa using hx)
  exact ⟨_, h2⟩⟩
 have hown : w.ownsMap Tryz.prog 3 (plainElem (H := Unit) Tryz.prog 4) mb n (.map ((es.toArray.toList.map (Go.WideElems.rg Tryz.prog 3 (plainElem (H := Unit) Tryz.prog 4))).foldr DataW.insert [])) := ⟨es.toArray, cl, hb, Ft, by simpa using hlen, rfl⟩
 have hsize : Maps.size (H := Unit) (.map ((es.toArray.toList.map (Go.WideElems.rg Tryz.prog 3 (plainElem (H := Unit) Tryz.prog 4))).foldr DataW.insert [])) = es.length := by
  show ((es.toArray.toList.map (Go.WideElems.rg Tryz.prog 3 (plainElem (H := Unit) Tryz.prog 4))).foldr DataW.insert []).length = _
  rw [length_sorted]; simp
 have hbk : bk < w.heap.size := Bf.hp_lt hk
 have hseq := AnyZI.keys_gives (ρ := keysA_ren) { keysA with } Fence.wide 2 trivial rfl (by omega) bk mb n _ w hbk (by
  have hk : w.heap[bk]? = some (.cells #[.map (some mb)] 137 (0, 0)) := hk
  simp [World.cell?, hk]) hown
 have cS := AnyZI.sorted_in sortedA Fence.wide 5 trivial trivial trivial trivial rfl (by omega) (sortsA _) (enters_of Tryz.func128 (by kernel_rfl) rfl) 129 #[.pointer (some ⟨bk, 0, none⟩)] trivial (enters_of Tryz.func129 (by kernel_rfl) rfl) _ _ (by rw [hsize]; have e : maxLen = 9223372036854775807 := rfl; omega) (by rw [hsize]; omega) _ hseq
 change CallsIn _ _ Tryz.prog 92 _ _ _ at cS
 refine (callsIn_wide (n := 5)).1 (cS.mono ?_)
 rintro e w' ⟨v, ss, rfl, hperm, hrow, -, hbel⟩
 have hkeys : intKeys (H := Unit) (.map ((es.toArray.toList.map (Go.WideElems.rg Tryz.prog 3 (plainElem (H := Unit) Tryz.prog 4))).foldr DataW.insert [])) = ((es.toArray.toList.map (Go.WideElems.rg Tryz.prog 3 (plainElem (H := Unit) Tryz.prog 4))).foldr DataW.insert []).map fun p => Go.intOf p.1 := rfl
 rw [hkeys] at hperm
 have hperm2 : ss.Perm (es.map fun x => Go.intOf (Go.WideElems.rg Tryz.prog 3 (plainElem (H := Unit) Tryz.prog 4) x).1) := by
  refine hperm.trans ?_
  have := (Go.WideShapes.sorted_perm (es.toArray.toList.map (Go.WideElems.rg Tryz.prog 3 (plainElem (H := Unit) Tryz.prog 4)))).map fun p => Go.intOf p.1
  simpa [List.map_map, Function.comp_def] using this
 have hrg : ∀ x ∈ es, x.key = .int .i64 (Go.intOf (Go.WideElems.rg Tryz.prog 3 (plainElem (H := Unit) Tryz.prog 4) x).1) := fun x hx => by
  obtain ⟨q, y, h1, h2⟩ := hrd x hx
  rw [Go.WideElems.rg_of h2]
  exact h1
 have hmem : ∀ d, d ∈ ss ↔ S d := fun d => by
  rw [hperm2.mem_iff, List.mem_map, ← hS, ← hD.mem]
  constructor
  ·rintro ⟨x, hx, rfl⟩
   exact ⟨x, hx, hrg x hx⟩
  ·rintro ⟨x, hx, e⟩
   refine ⟨x, hx, ?_⟩
   have h2 : ∀ a c : Int, Value.int .i64 a = Value.int .i64 c → a = c := fun a c h => by injection h
   exact (h2 _ _ (e.symm.trans (hrg x hx))).symm
 have hnd : ss.Nodup := by
  rw [hperm2.nodup_iff]
  have h3 := hD.stamp.2.2
  simp only at h3
  have e : es.map (·.key) = (es.map fun x => Go.intOf (Go.WideElems.rg Tryz.prog 3 (plainElem (H := Unit) Tryz.prog 4) x).1).map (Value.int .i64) := by
   rw [List.map_map]
   exact List.map_congr_left fun x hx => hrg x hx
  rw [e] at h3
  exact (List.pairwise_map.1 h3).imp fun h e => h (by rw [e])
 have hlss : (ss.mergeSort fun x y => decide (x ≤ y)).length = ss.length := List.length_mergeSort _
 have hsp : (ss.mergeSort fun x y => decide (x ≤ y)).Pairwise (· < ·) := by
  refine sorted_lt ?_ ((List.mergeSort_perm ss _).nodup_iff.2 hnd)
  have := List.pairwise_mergeSort (le := fun x y : Int => decide (x ≤ y)) (fun a b c h1 h2 => by simp only [decide_eq_true_eq] at *; omega) (fun a b => by simp only [Bool.or_eq_true, decide_eq_true_eq]; omega) ss
  exact this.imp fun h => by simpa using h
 have hms : ∀ d, d ∈ (ss.mergeSort fun x y => decide (x ≤ y)) ↔ S d := fun d => by rw [(List.mergeSort_perm ss _).mem_iff, hmem]
 generalize (ss.mergeSort fun x y => decide (x ≤ y)) = ds at hrow hlss hsp hms
 rw [← hlss] at hrow
 have hiv : ds.map encZ = intV ds := rfl
 rw [hiv] at hrow
 have hok : ∀ {A : Option Addr} {c : Nat}, (ownS 3 1 A ds.length c (intV ds)).ok (Bf.hp w') → (∀ b ∈ (ownS 3 1 A ds.length c (intV ds)).blks, b < w'.heap.size ∧ w.heap.size ≤ b) → Own E M ((ownS 3 1 A ds.length c (intV ds) :: [box bk 137 [.map (some mb)], mapR mb es cl]) ++ F) w' := fun h1 h2 =>
  Own.new hw ⟨hbel.os, hbel.tape, hbel.output⟩ hbel.size (fun b hb => hbel.block b hb) h1 h2 (by unfold ownS; simp only; cases ‹Option Addr› <;> simp)
 rcases hrow.2 with ⟨rfl, hz⟩ | ⟨g, cap, cur, rfl, hbase, hg, r1, r2, r3, r4⟩
 ·refine ⟨_, M, _, rfl, Mem.le.refl _, hok (A := none) (c := 0) ⟨by simp [intV], by simp [intV, Value.oneCell'], .inl ⟨rfl, hz, rfl⟩⟩ (by simp [ownS]), rfl, none, 0, ds, by rw [hz], by omega, rfl, hsp, hms⟩
 ·have hgl : g < w'.heap.size := (Array.getElem?_eq_some_iff.1 hg).1
  have e : maxLen = 9223372036854775807 := rfl
  refine ⟨_, M, _, rfl, Mem.le.refl _, hok (A := some ⟨g, 0, none⟩) (c := cap) ⟨by simp [intV], by simp [intV, Value.oneCell'], .inr ⟨g, cur, rfl, hg, r1, r2, r3, r4⟩⟩ (by intro b hb; simp [ownS] at hb; subst hb; exact ⟨hgl, hbase⟩), rfl, _, cap, ds, rfl, by omega, rfl, hsp, hms⟩
end Go.Proofs.YtmikfjcdgkopkaaGreat

/-
 Promises: the days one after the other.
 Conditions: none.
-/
namespace Go.Proofs.YtmikfjcdgkopkaaGreat
open Go Bf
attribute [local irreducible] Tr Exec Stab HasTy Go.Addr.add IntKind.wrap
theorem keysM_fn (M : Mem) (mb : Nat) : Bf.Fn Tryz.prog 93 [.map (some mb)] M [] (fun v M' A' => M = M' ∧ ∃ bk, v = .func (.func 129) #[] #[.pointer (some ⟨bk, 0, none⟩)] ∧ A' = [box bk 137 [.map (some mb)]]) := by
 refine Fn.intro Tryz.func93 rfl rfl Tryz.ntmps93 rfl fun E F => ?_
 (repeat (first | ((with_reducible refine Tr.step rfl ?_); (first | (refine xaQ ?_) | ((with_reducible refine Knd.makeFunc ?_); (refine Exec.stab rfl (Stab.makeFunc rfl rfl) rfl ?_)) | ((with_reducible refine Knd.box ?_); (refine Exec.box1 rfl (by first | rfl | assumption) rfl (fun b => ?_))))) | (with_reducible first | apply Tr.next | apply Tr.seq | apply Tr.region | apply Tr.nil | apply Tr.ret)))
 refine Tr.doneA (A' := [box _ 137 [.map (some mb)]]) (by first | exact .inl rfl | exact .inr rfl) rfl (by repeat (first | exact RVs.nil | (apply RVs.cons; (exact RV.tmp rfl)))) (Mem.le.refl _) ⟨fun _ h => h, fun h => h⟩ ⟨rfl, _, rfl, rfl⟩
set_option maxHeartbeats 8000000 in
set_option maxRecDepth 20000 in
theorem days1_fn (M : Mem) (lab b5 b7 mb cl n : Nat) (r : Rq) (es : List MapEntry) (S : Int → Prop) (hday : DayM es cl S n) (hn : n ≤ 1000000) (hwf : ∀ d, S d → -9223372036854775808 ≤ d ∧ d ≤ 9223372036854775807)
  (A0 A1 : List Res) (hA : (box b7 137 [.map (some mb)] :: mapR mb es cl :: box b5 46 [.int .i64 r.no, .int .i64 r.item, .int .i64 r.cust, .int .i64 r.due, .int .i64 r.shelf, .int .i64 r.amount] :: A0).Perm A1) (T : Int → Prop) (Q : Int → Mem → List Res → Prop)
  (hy : ∀ M1 d, Mem.le M M1 → S d → r.due ≤ d → d < 1024 → Yl Tryz.prog lab [.int .i64 d] M1 A0 (fun v M2 A'' => (v = .bool true ∧ T d ∧ A'' = A0) ∨ (v = .bool false ∧ Q d M2 A''))) :
  Bf.Fn Tryz.prog 91 [yv lab, .pointer (some ⟨b7, 0, none⟩), .pointer (some ⟨b5, 0, none⟩)] M A1 (fun _ M' A' => (A' = A0 ∧ ∀ d, S d → r.due ≤ d → d < 1024 → T d) ∨ ∃ d, S d ∧ (r.due ≤ d ∧ d < 1024) ∧ (∀ d', S d' → r.due ≤ d' → d' < d → T d') ∧ Q d M' A') := by
 refine Fn.intro Tryz.func91 rfl rfl Tryz.ntmps91 rfl fun E F => ?_
 refine Tr.perm (L' := box b7 137 [.map (some mb)] :: mapR mb es cl :: box b5 46 [.int .i64 r.no, .int .i64 r.item, .int .i64 r.cust, .int .i64 r.due, .int .i64 r.shelf, .int .i64 r.amount] :: (A0 ++ F)) (hA.append_right F) ?_
 (repeat (first | ((with_reducible refine Tr.step rfl ?_); (with_reducible refine Knd.load ?_); (refine xlQ ?_)) | (with_reducible first | apply Tr.seq | apply Tr.region)))
 ((refine Tr.step rfl ?_))
 refine Exec.call (A := []) rfl (keysM_fn M mb) (List.Perm.refl _) rfl ?_
 rintro _ _ _ _ ⟨rfl, bk, rfl, rfl⟩
 (skip)
 ((refine Tr.step rfl ?_))
 refine Exec.call (A := [box bk 137 [.map (some mb)], mapR mb es cl]) rfl (sorted_fn M bk mb cl n es S hday hn hwf) (take2 (by repeat (first | exact Del.here | apply Del.there)) (by repeat (first | exact Del.here | apply Del.there))) rfl ?_
 rintro _ _ _ _ ⟨rfl, A, c, ds, rfl, hc, rfl, hsp, hms⟩
 simp only [List.cons_append, List.nil_append]
 refine pbQ (r := ownS 3 1 _ _ _ _) (fun M8 hm8 hok8 => ?_)
 have hI : Ints M8 (.slice A ds.length c) ds := SlOf.ofOwn hok8 rfl hc (RI.elems _ _)
 have hll := hI.len_le
 (repeat (first | ((with_reducible refine Tr.step rfl ?_); (first | (refine xmQ ?_) | (refine xnQ ?_))) | (with_reducible first | apply Tr.next | apply Tr.nil | apply Tr.block)))
 refine Tr.loop (α := Nat × Mem) (fun y => ⟨29, [(10, .int .i64 (y.1 : Int)), (9, .int .i64 (ds.length : Int)), (8, .slice A ds.length c), (0, yv lab), (1, .pointer (some ⟨b7, 0, none⟩)), (2, .pointer (some ⟨b5, 0, none⟩))], [], y.2, box b5 46 [.int .i64 r.no, .int .i64 r.item, .int .i64 r.cust, .int .i64 r.due, .int .i64 r.shelf, .int .i64 r.amount] :: (A0 ++ F)⟩)
  (fun y => y.1 ≤ ds.length ∧ Mem.le M8 y.2 ∧ ∀ d ∈ ds.take y.1, r.due ≤ d → d < 1024 → T d) (fun y => ds.length - y.1) (0, M8) ⟨Nat.zero_le _, Mem.le.refl _, by simp⟩ hsQ (fun y hyy => ?_)
 obtain ⟨i, M9⟩ := y
 obtain ⟨hi, hm9, hT⟩ := hyy
 simp only at hi hm9 hT
 dsimp only
 have hm09 := hm8.trans hm9
 by_cases hlt : i < ds.length
 rotate_left
 ·have e : i = ds.length := by omega
  subst e
  rw [List.take_length] at hT
  (refine rQ ?_)
  refine gvQ (r := box b5 _ _) ?_
  refine Tr.doneA (A' := A0) (by first | exact .inl rfl | exact .inr rfl) rfl (by repeat (exact RVs.nil)) hm09 ⟨fun _ h => h, fun h => h⟩ (.inl ⟨rfl, fun d hd h1 h2 => hT d ((hms d).2 hd) h1 h2⟩)
 obtain ⟨d, hd⟩ := get_of_lt hlt
 have hSd := (hms d).1 (List.mem_of_getElem? hd)
 have hI9 : Ints M9 (.slice A ds.length c) ds := hI.mono RI.mono hm9
 obtain ⟨hA', hat⟩ := hI9.at hd
 have htk : ∀ x, x ∈ ds.take (i + 1) ↔ x ∈ ds.take i ∨ x = d := fun x => by rw [List.take_add_one, hd]; simp
 by_cases hd1 : r.due ≤ d
 rotate_left
 ·(refine rQ ?_)
  refine Tr.again (i + 1, M9) ⟨by simp only; omega, hm9, fun x hx h1 h2 => by rcases (htk x).1 hx with h | rfl; exact hT x h h1 h2; exact absurd h1 hd1⟩ (by simp only; omega) hsQ
 by_cases hd2 : d < 1024
 rotate_left
 ·(refine rQ ?_)
  refine Tr.again (i + 1, M9) ⟨by simp only; omega, hm9, fun x hx h1 h2 => by rcases (htk x).1 hx with h | rfl; exact hT x h h1 h2; exact absurd h2 hd2⟩ (by simp only; omega) hsQ
 (refine rQ ?_)
 ((refine Tr.guard_y rfl rfl rfl (by (with_reducible assumption)) ?_))
 refine Exec.yield (F := box b5 46 [.int .i64 r.no, .int .i64 r.item, .int .i64 r.cust, .int .i64 r.due, .int .i64 r.shelf, .int .i64 r.amount] :: F) rfl rfl (hy M9 d hm09 hSd hd1 hd2) (List.perm_append_comm_assoc A0 [_] F) rfl ?_
 rintro _ M2 A'' hm2 hR
 have hm02 := hm09.trans hm2
 rcases hR with ⟨rfl, hTd, rfl⟩ | ⟨rfl, hQ⟩
 ·refine Tr.perm (L' := box b5 46 [.int .i64 r.no, .int .i64 r.item, .int .i64 r.cust, .int .i64 r.due, .int .i64 r.shelf, .int .i64 r.amount] :: (A'' ++ F)) (List.perm_append_comm_assoc [_] A'' F) ?_
  (refine rQ ?_)
  refine Tr.again (i + 1, M2) ⟨by simp only; omega, hm9.trans hm2, fun x hx h1 h2 => by rcases (htk x).1 hx with h | rfl; exact hT x h h1 h2; exact hTd⟩ (by simp only; omega) hsQ
 ·refine Tr.perm (L' := box b5 46 [.int .i64 r.no, .int .i64 r.item, .int .i64 r.cust, .int .i64 r.due, .int .i64 r.shelf, .int .i64 r.amount] :: (A'' ++ F)) (List.perm_append_comm_assoc [_] A'' F) ?_
  (refine rQ ?_)
  refine gvQ (r := box b5 _ _) ?_
  refine Tr.doneA (A' := A'') (by first | exact .inl rfl | exact .inr rfl) rfl (by repeat (exact RVs.nil)) hm02 ⟨fun _ h => h, fun h => h⟩ (.inr ⟨d, hSd, ⟨hd1, hd2⟩, fun d' hd' h1 h2 => ?_, hQ⟩)
  refine hT d' ?_ h1 (by omega)
  obtain ⟨j, hj⟩ := List.mem_iff_getElem?.1 ((hms d').2 hd')
  have hji : j < i := by
   rcases Nat.lt_or_ge j i with h | h
   ·exact h
   ·exfalso
    rcases Nat.eq_or_lt_of_le h with h | h
    ·subst h; rw [hd] at hj; cases hj; omega
    ·obtain ⟨p1, p2⟩ := List.getElem?_eq_some_iff.1 hd
     obtain ⟨q1, q2⟩ := List.getElem?_eq_some_iff.1 hj
     have := List.pairwise_iff_getElem.1 hsp i j p1 q1 h
     omega
  rw [List.mem_iff_getElem?]
  exact ⟨j, by rw [List.getElem?_take, if_pos hji]; exact hj⟩
end Go.Proofs.YtmikfjcdgkopkaaGreat

/-
 Promises: a book with a request more.
 Conditions: none.
-/
namespace Go.Proofs.YtmikfjcdgkopkaaGreat
open Go Bf
attribute [local irreducible] Tr Exec Stab HasTy Go.Addr.add IntKind.wrap
def boC (x : Bool) : List Value := [.bool x]
theorem boC_flat (l : List Bool) : l.flatMap boC = boV l := by
 induction l with
 | nil => rfl
 | cons a l ih => rw [List.flatMap_cons, ih]; rfl
theorem boV_row {M : Mem} {A : Option Addr} {c : Nat} {l : List Bool} (h : Bools M (.slice A l.length c) l) : Row M A l.length 1 (boV l) := by
 rw [← boC_flat]
 exact SlOf.row (R := RBo) h (fun _ _ h => h) (fun _ => rfl)
set_option maxHeartbeats 4000000 in
theorem cloneB_fn (M : Mem) (A : Option Addr) (c : Nat) (l : List Bool) (hl : Bools M (.slice A l.length c) l) (hs : l.length ≤ 1000000) :
  Bf.Fn Tryz.prog 95 [.slice A l.length c] M [] (fun r M' A' => (∃ B k, r = .slice B l.length k ∧ k ≤ 9223372036854775807 ∧ A' = [ownS 4 1 B l.length k (boV l)]) ∧ M = M') := by
 have hrow := boV_row hl
 have hcap := SlOf.cells hl
 refine Fn.intro Tryz.func95 rfl rfl Tryz.ntmps95 rfl fun E F => ?_
 by_cases hA : A = none
 ·obtain ⟨-, -, -, -, hnil, -⟩ := hcap
  have hnil : l = [] := List.eq_nil_of_length_eq_zero (hnil hA)
  subst hnil
  (repeat (first | ((with_reducible refine Tr.step rfl ?_); (first | (refine xmQ ?_) | (refine xaQ ?_) | ((with_reducible refine Knd.binOp ?_); (refine Exec.stab rfl (Stab.slnil rfl (tysOk.get rfl) rfl) rfl ?_)))) | (with_reducible first | apply Tr.next | apply Tr.seq | apply Tr.region | apply Tr.nil | apply Tr.ret | apply Tr.then_ret) | (refine Tr.cond_t rfl (by (with_reducible assumption)) ?_)))
  refine Tr.own_nil 4 1 ?_
  refine Tr.doneA (A' := [ownS 4 1 none 0 0 []]) (by first | exact .inl rfl | exact .inr rfl) rfl (by repeat (first | exact RVs.nil | (apply RVs.cons; (exact RV.tmp rfl)))) (Mem.le.refl _) ⟨fun _ h => h, fun h => h⟩ ⟨⟨none, 0, rfl, by omega, rfl⟩, rfl⟩
 ·(repeat (first | ((with_reducible refine Tr.step rfl ?_); (first | (refine xmQ ?_) | (refine xaQ ?_) | ((with_reducible refine Knd.binOp ?_); (refine Exec.stab rfl (Stab.slnil rfl (tysOk.get rfl) rfl) rfl ?_)) | ((with_reducible refine Knd.buildSlice ?_); (refine Exec.buildSlice (tysOk.get rfl) rfl (tysOk.get rfl) rfl rfl rfl rfl rfl (by repeat (exact BuildP.nil)) rfl (fun b => ?_))))) | (with_reducible first | apply Tr.next | apply Tr.seq | apply Tr.region | apply Tr.nil | apply Tr.skip) | (refine Tr.cond_f rfl (by (with_reducible assumption)) ?_)))
  refine Tr.box_own 1 0 (by repeat (first | exact Upd.here | apply Upd.there)) rfl (by intro u hu; cases hu) (by simp [maxLen]) ?_
  ((refine Tr.step rfl ?_))
  refine Exec.append (news := boV l) rfl rfl (tysOk.get rfl) rfl (tysOk.get rfl) rfl rfl rfl rfl (by repeat (first | exact Del.here | apply Del.there)) (Src.row hrow) (by simp) (boW_one _) (by omega) (by omega) rfl (fun A6 c6 hc6 => ?_)
  rw [Nat.zero_add]
  (repeat (first | ((with_reducible refine Tr.step rfl ?_); (with_reducible refine Knd.assign ?_); (refine xaQ ?_)) | (with_reducible first | apply Tr.next | apply Tr.nil | apply Tr.ret)))
  refine Tr.doneA (A' := [ownS 4 1 A6 l.length c6 (boV l)]) (by first | exact .inl rfl | exact .inr rfl) rfl (by repeat (first | exact RVs.nil | (apply RVs.cons; (exact RV.tmp rfl)))) (Mem.le.refl _) ⟨fun _ h => h, fun h => h⟩ ⟨⟨A6, c6, rfl, hc6, rfl⟩, rfl⟩
end Go.Proofs.YtmikfjcdgkopkaaGreat

/-
 Promises: with.
 Conditions: none.
-/
namespace Go.Proofs.YtmikfjcdgkopkaaGreat
open Go Bf
attribute [local irreducible] Tr Exec Stab HasTy Go.Addr.add IntKind.wrap
set_option maxHeartbeats 8000000 in
set_option maxRecDepth 20000 in
theorem with_fn (M : Mem) (w : Wd) (k : Bp) (As Ar Af Ad : Option Addr) (cs cr cf cd : Nat) (h1 : SlOf 6 RSpC M (.slice As k.sups.length cs) k.sups) (h2 : SlOf 6 RRqC M (.slice Ar k.reqs.length cr) k.reqs) (h3 : Fits2 M (.slice Af k.fits.length cf) k.fits) (_ : SlOf 5 RRd M (.slice Ad k.rds.length cd) k.rds) (hv : okB w k) (x : Rq) (As2 Ar2 Af2 Ad2 : Option Addr) (cs2 cr2 cf2 cd2 nd2 : Nat) (g2 : SlOf 6 RRqC M (.slice Ar2 1 cr2) [x]) (g3 : Fits2 M (.slice Af2 k.sups.length cf2) (fitsT w k.known k.sups [x])) :
  Fn0 Tryz.prog 55 [.agg #[.int .i64 k.known, .slice As k.sups.length cs, .slice Ar k.reqs.length cr, .slice Af k.fits.length cf, .slice Ad k.rds.length cd], .agg #[.int .i64 k.known, .slice As2 k.sups.length cs2, .slice Ar2 1 cr2, .slice Af2 k.sups.length cf2, .slice Ad2 nd2 cd2]] M (fun v M' => RBp M' v ⟨k.known, k.sups, k.reqs ++ [x], fitsT w k.known k.sups (k.reqs ++ [x]), []⟩) := by
 have l64 := hv.2.1.1
 have hfl : k.fits.length = k.sups.length := by rw [← hv.2.2.1.1]; simp [fitsT]
 have hrow2 := SlOf.row (R := RRqC) g2 (fun _ _ h => h) rqC_len
 refine Fn.intro Tryz.func55 rfl rfl Tryz.ntmps55 rfl fun E F => ?_
 (repeat (first | ((with_reducible refine Tr.step rfl ?_); (first | (refine xlQ ?_) | (refine xfQ ?_) | (refine xWQ ?_) | ((with_reducible refine Knd.box ?_); (refine Exec.box rfl rfl (fun b => ?_))) | ((with_reducible refine Knd.alloc ?_); (refine Exec.alloc (tysOk.get rfl) rfl rfl (fun b => ?_))) | ((with_reducible refine Knd.build ?_); (refine Exec.stab rfl (Stab.build tysOk rfl rfl rfl rfl (by repeat (first | exact BuildP.nil | ((apply BuildP.one); (rfl); (rfl); (first | rfl | assumption); (repeat (first | exact SetL.z | apply SetL.s)))))) rfl ?_)))) | (with_reducible first | apply Tr.next | apply Tr.seq | apply Tr.region | apply Tr.nil)))
 rename_i b2 b3 b4
 generalize b = b5
 (((apply Tr.draw); (kernel_rfl)); (refine tkQ 0 (hB := by exact fun _ h => h) (s := by exact sfQ) ?_); (refine tkQ 3 (s := by exact sfQ) ?_); (refine tkQ 1 (s := by exact slQ) ?_); (refine tkQ 4 (s := by exact slQ) ?_); (refine TrA.eff 2 rfl (by kernel_rfl) (by exact .inl rfl) ?_))
 refine Exec.call (A := []) rfl (cloneRq_fn M Ar cr k.reqs h2 (by omega)) (List.Perm.refl _) rfl ?_
 rintro _ _ _ _ ⟨⟨B6, k6, rfl, hk6, rfl⟩, rfl⟩
 refine ⟨Mem.le.refl _, (by exact (Sub.mem (by repeat (first | exact Sub.refl | apply Sub.cons)))), ?_⟩
 ((refine TrA.eff 5 rfl (by kernel_rfl) (by exact .inl rfl) ?_))
 refine Exec.append (news := [x].flatMap rqC) rfl rfl (tysOk.get rfl) rfl (tysOk.get rfl) rfl rfl rfl rfl (by repeat (first | exact Del.here | apply Del.there)) (Src.row hrow2) (by simp [rqC]) (flatMap_one rqC_one _) (by omega) (by omega) rfl (fun A8 c8 hc8 => ?_)
 refine ⟨(by first | exact Mem.le.refl _ | assumption), (by exact (Sub.mem (by repeat (first | exact Sub.refl | apply Sub.cons)))), ?_⟩
 rw [← List.flatMap_append]
 have hnl : (k.reqs ++ [x]).length = k.reqs.length + 1 := by simp
 rw [← hnl]
 ((refine tkQ 6 (s := by exact sfQ) ?_); (refine TrA.effD 7 rfl (by kernel_rfl) (by kernel_rfl) (by exact .inl rfl) ?_); (((refine Knd.store ?_); ((refine xSQ ?_)))); (refine ⟨_, fun _ h => h, ?_⟩); (refine TrA.done (by kernel_rfl) ?_))
 refine pbQ (r := ownS 46 6 _ _ _ _) (fun M8 hm8 hok8 => ?_)
 have hR8 : SlOf 6 RRqC M8 (.slice A8 (k.reqs ++ [x]).length c8) (k.reqs ++ [x]) := SlOf.ofOwn hok8 rfl hc8 (rqC_elems _ _)
 (repeat (first | ((with_reducible refine Tr.step rfl ?_); (first | (refine xmQ ?_) | (refine xlQ ?_) | (refine xfQ ?_) | (refine xnQ ?_))) | (with_reducible first | apply Tr.next | apply Tr.seq | apply Tr.region | apply Tr.nil | apply Tr.block)))
 refine Tr.own_nil 78 1 ?_
 refine Tr.loop (α := Nat × Mem × List Value × Option Addr × Nat) (fun y => ⟨43, [(23, .int .i64 (y.1 : Int)), (22, .int .i64 (k.fits.length : Int)), (21, .slice Af k.fits.length cf), (5, .pointer (some ⟨b5, 0, none⟩)), (4, .pointer (some ⟨b4, 0, none⟩)), (3, .pointer (some ⟨b3, 0, none⟩)), (2, .pointer (some ⟨b2, 0, none⟩))], [], y.2.1, ownS 78 1 y.2.2.2.1 y.1 y.2.2.2.2 y.2.2.1 :: box b5 44 [.int .i64 k.known, .slice As k.sups.length cs, .slice A8 (k.reqs ++ [x]).length c8, .slice y.2.2.2.1 y.1 y.2.2.2.2, .slice none 0 0] :: box b4 44 [.int .i64 0, .slice none 0 0, .slice none 0 0, .slice none 0 0, .slice none 0 0] :: box b3 44 [.int .i64 k.known, .slice As2 k.sups.length cs2, .slice Ar2 1 cr2, .slice Af2 k.sups.length cf2, .slice Ad2 nd2 cd2] :: box b2 44 [.int .i64 k.known, .slice As k.sups.length cs, .slice Ar k.reqs.length cr, .slice Af k.fits.length cf, .slice Ad k.rds.length cd] :: ([] ++ F)⟩)
  (fun y => y.1 ≤ k.fits.length ∧ Mem.le M8 y.2.1 ∧ Elems 1 RRowB y.2.1 y.2.2.1 (fitsT w k.known (k.sups.take y.1) (k.reqs ++ [x])) ∧ y.2.2.2.2 ≤ 9223372036854775807) (fun y => k.fits.length - y.1) (0, M8, [], none, 0) ⟨Nat.zero_le _, Mem.le.refl _, Elems.nil, by simp⟩ hsQ (fun y hy => ?_)
 obtain ⟨i, M9, cells, A9, c9⟩ := y
 obtain ⟨hi, hm9, hel, hc9⟩ := hy
 simp only at hi hm9 hel hc9
 dsimp only
 have hm09 := hm8.trans hm9
 by_cases hlt : i < k.fits.length
 rotate_left
 ·have e : i = k.fits.length := by omega
  subst e
  rw [hfl, List.take_length] at hel
  refine pbQ (r := ownS 78 1 _ _ _ _) (fun M7 hm7 hok7 => ?_)
  have hm07 := hm09.trans hm7
  have hfl2 : k.fits.length = (fitsT w k.known k.sups (k.reqs ++ [x])).length := by rw [hfl]; simp [fitsT]
  have hF : Fits2 M7 (.slice A9 (fitsT w k.known k.sups (k.reqs ++ [x])).length c9) (fitsT w k.known k.sups (k.reqs ++ [x])) := SlOf.ofOwn hok7 hfl2 hc9 (hel.mono RRowB.mono hm7)
  (refine rQ ?_)
  (refine Tr.done (by first | exact .inl rfl | exact .inr rfl) rfl (by repeat (first | exact RVs.nil | (apply RVs.cons; (exact RV.cellW (by rfl) (tysOk.get (by rfl)) (by rfl) (by repeat (first | exact Has.here | apply Has.there)) (by first | rfl | assumption))))) (by first | exact Mem.le.refl _ | assumption) (by exact ⟨[_, _, _, _], rfl⟩) ⟨rfl, ?_⟩)
  refine ⟨As, cs, A8, c8, A9, c9, none, 0, ?_, h1.mono RSpC.mono hm07, hR8.mono RRqC.mono (hm9.trans hm7), hF, SlOf.nil _ _ _⟩
  show Value.agg _ = _
  simp only [← hfl2]
  rfl
 obtain ⟨row, hr⟩ := get_of_lt hlt
 obtain ⟨sp, hs⟩ := get_of_lt (xs := k.sups) (i := i) (by omega)
 have hrow : row = k.reqs.map (fitF w k.known sp) := by
  have h0 := hr
  rw [← hv.2.2.1.1] at h0
  simp [fitsT, hs] at h0
  exact h0.symm
 have hr2 : (fitsT w k.known k.sups [x])[i]? = some [fitF w k.known sp x] := by simp [fitsT, hs]
 have hrowl : row.length = k.reqs.length := by rw [hrow]; simp
 have hf1 : Fits2 M9 (.slice Af k.fits.length cf) k.fits := h3.mono RRowB.mono hm09
 obtain ⟨hA, ch, hat, rB, rk, rfl, hB⟩ := hf1.elem hr
 have hf2 : Fits2 M9 (.slice Af2 k.sups.length cf2) (fitsT w k.known k.sups [x]) := g3.mono RRowB.mono hm09
 obtain ⟨hA2, ch2, hat2, rB2, rk2, rfl, hB2⟩ := hf2.elem hr2
 have hrowb := boV_row hB2
 have hilt : i < k.sups.length := by omega
 have hl1 : [fitF w k.known sp x].length = 1 := rfl
 (refine rQ ?_)
 (((apply Tr.draw); (kernel_rfl)); (refine tkQ 0 (hB := by exact fun _ h => h) (s := by exact sfQ) ?_); (refine tkQ 2 (s := by exact Stab.move rfl) ?_); (refine tkQ 4 (s := by exact sfQ) ?_); (refine tkQ 6 (s := by exact Stab.move rfl) ?_); (refine tkQ 1 (s := by exact slQ) ?_); (refine tkQ 5 (s := by exact slQ) ?_); (refine tkQ 7 (s := by exact sxQ) ?_); (refine tkQ 8 (s := by exact sMQ) ?_); (refine TrA.eff 3 rfl (by kernel_rfl) (by exact .inl rfl) ?_))
 refine Exec.call (A := []) rfl (cloneB_fn M9 rB rk row hB (by omega)) (List.Perm.refl _) rfl ?_
 rintro _ _ _ _ ⟨⟨B7, k7, rfl, hk7, rfl⟩, rfl⟩
 refine ⟨Mem.le.refl _, (by exact (Sub.mem (by repeat (first | exact Sub.refl | apply Sub.cons)))), ?_⟩
 ((refine TrA.eff 9 rfl (by kernel_rfl) (by exact .inl rfl) ?_))
 refine Exec.append (news := boV [fitF w k.known sp x]) rfl rfl (tysOk.get rfl) rfl (tysOk.get rfl) rfl rfl rfl rfl (by repeat (first | exact Del.here | apply Del.there)) (Src.row hrowb) (by simp) (boW_one _) (by omega) (by omega) rfl (fun A10 c10 hc10 => ?_)
 refine ⟨Mem.le.refl _, (by exact (Sub.mem (by repeat (first | exact Sub.refl | apply Sub.cons)))), ?_⟩
 have hba : boV row ++ boV [fitF w k.known sp x] = boV (row ++ [fitF w k.known sp x]) := by simp [boV]
 have hbl : row.length + [fitF w k.known sp x].length = (row ++ [fitF w k.known sp x]).length := by simp
 have hrx : row ++ [fitF w k.known sp x] = (k.reqs ++ [x]).map (fitF w k.known sp) := by rw [hrow]; simp
 rw [hba, hbl, hrx]
 refine TrA.publish (x := ownS 4 1 _ _ _ _) (by repeat (first | exact Del.here | apply Del.there)) (fun M3 hm3 hok3 => ?_)
 have hBn : Bools M3 (.slice A10 ((k.reqs ++ [x]).map (fitF w k.known sp)).length c10) ((k.reqs ++ [x]).map (fitF w k.known sp)) := SlOf.ofOwn hok3 rfl hc10 (boW_elems _ _)
 generalize hrn : (k.reqs ++ [x]).map (fitF w k.known sp) = rn at hBn ⊢
 ((refine TrA.eff 10 rfl (by kernel_rfl) (by exact .inl rfl) ?_); (((refine Knd.buildSlice ?_); ((refine Exec.buildSlice (tysOk.get rfl) rfl (tysOk.get rfl) rfl rfl rfl rfl rfl (by repeat (first | exact BuildP.nil | ((apply BuildP.one); (rfl); (rfl); (first | rfl | assumption); (repeat (first | exact SetL.z | apply SetL.s))))) rfl (fun b => ?_))))); (refine ⟨(by first | exact Mem.le.refl _ | assumption), (by exact (Sub.mem (by repeat (first | exact Sub.refl | apply Sub.cons)))), ?_⟩))
 ((refine TrA.effD 11 rfl (by kernel_rfl) (by kernel_rfl) (by exact .inl rfl) ?_))
 refine Exec.append (news := [.slice A10 rn.length c10]) rfl rfl (tysOk.get rfl) rfl (tysOk.get rfl) rfl rfl rfl rfl (by repeat (first | exact Del.here | apply Del.there)) (Src.box (by repeat (first | exact Has.here | apply Has.there))) rfl (by intro u hu; simp at hu; subst hu; rfl) (by omega) (by omega) rfl (fun A11 c11 hc11 => ?_)
 refine ⟨[], (fun r h => by cases h), ?_⟩
 ((refine tkQ 12 (s := by exact sfQ) ?_); (refine TrA.effD 13 rfl (by kernel_rfl) (by kernel_rfl) (by exact .inl rfl) ?_); (((refine Knd.store ?_); ((refine xSQ ?_)))); (refine ⟨_, fun _ h => h, ?_⟩); (refine TrA.done (by kernel_rfl) ?_))
 refine gvQ (r := box _ 78 _) ?_
 (repeat (first | ((with_reducible refine Tr.step rfl ?_); (first | (refine xmQ ?_) | (refine xdQ ?_))) | (with_reducible first | apply Tr.next | apply Tr.region | apply Tr.nil | apply Tr.in_normal)))
 have hm93 : Mem.le M9 M3 := by first | exact hm3 | exact (Mem.le.refl _).trans hm3
 refine Tr.again (i + 1, M3, cells ++ [.slice A10 rn.length c10], A11, c11) ⟨by simp only; omega, hm9.trans hm93, ?_, hc11⟩ (by simp only; omega) hsQ
 have he : fitsT w k.known (k.sups.take (i + 1)) (k.reqs ++ [x]) = fitsT w k.known (k.sups.take i) (k.reqs ++ [x]) ++ [rn] := by
  rw [← hrn]
  unfold fitsT
  rw [List.take_add_one, hs]
  simp
 simp only
 rw [he]
 exact (hel.mono RRowB.mono hm93).append (Elems.one rfl ⟨A10, c10, rfl, hBn⟩)
end Go.Proofs.YtmikfjcdgkopkaaGreat

/-
 Matching, plain: sets of bits and sets of requests; what the reference computes of them.
 Conditions: none.
-/
namespace Go.Proofs.YtmikfjcdgkopkaaGreat
open Go Bf
def bitsOf (S : Nat → Bool) : Nat → Nat
 | 0 => 0
 | m + 1 => bitsOf S m + if S m then 2 ^ m else 0
theorem bitsOf_lt (S : Nat → Bool) : ∀ m, bitsOf S m < 2 ^ m
 | 0 => by simp [bitsOf]
 | m + 1 => by
  have := bitsOf_lt S m
  rw [bitsOf, Nat.pow_succ]
  split <;> omega
theorem bitsOf_bit (S : Nat → Bool) : ∀ m i, (bitsOf S m).testBit i = (decide (i < m) && S i)
 | 0, i => by simp [bitsOf]
 | m + 1, i => by
  have hl := bitsOf_lt S m
  have ih := bitsOf_bit S m i
  have e : bitsOf S (m + 1) = 2 ^ m * (if S m then 1 else 0) + bitsOf S m := by
   rw [bitsOf]; split <;> simp <;> omega
  rw [e, Nat.testBit_two_pow_mul_add _ hl]
  by_cases h : i < m
  ·rw [if_pos h, ih]
   have h2 : i < m + 1 := by omega
   simp [h, h2]
  ·rw [if_neg h]
   by_cases h3 : i = m
   ·subst h3
    simp
    cases S i <;> simp
   ·have h4 : ¬ i < m + 1 := by omega
    simp only [h4, decide_false, Bool.false_and]
    obtain ⟨d, hd⟩ : ∃ d, i - m = d + 1 := ⟨i - m - 1, by omega⟩
    rw [hd]
    cases S m <;> simp [Nat.testBit_succ]
theorem touch_bits {fits : List (List Bool)} {sup need : List Int} (hv : Vld fits sup need) {k : Nat} (hk : k < sup.length) (s : Nat) : touchB (fits.getD k []) s = touches (pbOf fits sup need) (fun b => s.testBit b) k := by
 have hl := hv.lf
 obtain ⟨row, hr⟩ := get_of_lt (xs := fits) (i := k) (by omega)
 have hrl := hv.rows row (List.mem_of_getElem? hr)
 unfold touchB touches
 rw [getD_of (d := []) hr, hrl]
 show _ = (List.range need.length).any fun b => s.testBit b && (fits.getD k []).getD b false
 rw [getD_of (d := []) hr]
theorem lackB_eq {fits : List (List Bool)} {sup need : List Int} (hv : Vld fits sup need) (s : Nat) : lackB fits sup need s = lackOf (pbOf fits sup need) (fun b => s.testBit b) := by
 unfold lackB lackOf
 congr 1
 refine sumN_congr fun k hk => ?_
 rw [touch_bits hv hk]
 rfl
theorem lackOf_congr {p : Pb} {D D' : Nat → Bool} (h : ∀ b, b < p.m → D b = D' b) : lackOf p D = lackOf p D' := by
 unfold lackOf
 congr 1
 ·exact sumN_congr fun b hb => by rw [h b hb]
 ·refine sumN_congr fun k _ => ?_
  have : touches p D k = touches p D' k := by
   rw [Bool.eq_iff_iff, touches_iff, touches_iff]
   exact ⟨fun ⟨b, h1, h2, h3⟩ => ⟨b, h1, by rw [← h b h1]; exact h2, h3⟩, fun ⟨b, h1, h2, h3⟩ => ⟨b, h1, by rw [h b h1]; exact h2, h3⟩⟩
  rw [this]
theorem lackOf_bits {fits : List (List Bool)} {sup need : List Int} (hv : Vld fits sup need) (D : Nat → Bool) : lackOf (pbOf fits sup need) D = lackB fits sup need (bitsOf D need.length) := by
 rw [lackB_eq hv]
 refine lackOf_congr fun b hb => ?_
 rw [bitsOf_bit]
 have : b < need.length := hb
 simp [this]
theorem MaxLack.isLack {fits : List (List Bool)} {sup need : List Int} (hv : Vld fits sup need) {v : Int} (h : MaxLack fits sup need (2 ^ need.length) v) : IsLack (pbOf fits sup need) v := by
 refine ⟨?_, fun D => ?_⟩
 ·rcases h.is with h | ⟨s, _, _, h⟩
  ·exact ⟨fun _ => false, by rw [lackOf_none, h]⟩
  ·exact ⟨_, by rw [← lackB_eq hv, h]⟩
 ·rw [lackOf_bits hv]
  by_cases h0 : bitsOf D need.length = 0
  ·rw [h0, lackB_eq hv]
   have : lackOf (pbOf fits sup need) (fun b => (0 : Nat).testBit b) = 0 := by
    rw [← lackOf_none (pbOf fits sup need)]
    exact lackOf_congr fun b _ => by simp
   rw [this]; exact h.nn
  ·exact h.le _ (by omega) (bitsOf_lt _ _)
theorem lackS_le {fits : List (List Bool)} {sup need : List Int} (hv : Vld fits sup need) (S D : Nat → Bool) : lackOf (pbS fits sup need S) D ≤ lackOf (pbOf fits sup need) (fun b => D b && S b) := by
 unfold lackOf
 have h1 : (sumN (pbS fits sup need S).m fun b => if D b = true then (pbS fits sup need S).need b else 0) = sumN (pbOf fits sup need).m fun b => if (D b && S b) = true then (pbOf fits sup need).need b else 0 := sumN_congr fun b _ => by
  show (if D b = true then (if S b = true then need.getD b 0 else 0) else 0) = if (D b && S b) = true then need.getD b 0 else 0
  cases D b <;> cases S b <;> simp
 have h2 : (sumN (pbOf fits sup need).n fun k => if touches (pbOf fits sup need) (fun b => D b && S b) k = true then (pbOf fits sup need).sup k else 0) ≤ sumN (pbS fits sup need S).n fun k => if touches (pbS fits sup need S) D k = true then (pbS fits sup need S).sup k else 0 := sumN_le fun k hk => by
  by_cases ht : touches (pbOf fits sup need) (fun b => D b && S b) k = true
  ·have : touches (pbS fits sup need S) D k = true := by
    obtain ⟨b, g1, g2, g3⟩ := touches_iff.1 ht
    exact touches_iff.2 ⟨b, g1, by simp at g2; exact g2.1, g3⟩
   rw [if_pos ht, if_pos this]
   exact Int.le_refl _
  ·rw [if_neg ht]
   split
   ·exact (getD_rng hv.rs k).1
   ·exact Int.le_refl _
 exact Int.sub_le_sub (Int.le_of_eq h1) h2
theorem lackS_eq {fits : List (List Bool)} {sup need : List Int} (S D : Nat → Bool) (h : ∀ b, b < need.length → D b = true → S b = true) : lackOf (pbS fits sup need S) D = lackOf (pbOf fits sup need) D := by
 unfold lackOf
 congr 1
 refine sumN_congr fun b hb => ?_
 show (if D b = true then (if S b = true then need.getD b 0 else 0) else 0) = if D b = true then need.getD b 0 else 0
 by_cases hd : D b = true
 ·rw [if_pos hd, if_pos hd, if_pos (h b hb hd)]
 ·rw [if_neg hd, if_neg hd]
theorem feasS_iff {fits : List (List Bool)} {sup need : List Int} (hv : Vld fits sup need) (S : Nat → Bool) : Feas (pbS fits sup need S) ↔ ∀ D, lackOf (pbS fits sup need S) D ≤ 0 := feas_iff (fun k _ => (getD_rng hv.rs k).1) (fun b _ => by
 show 0 ≤ if S b = true then need.getD b 0 else 0
 split
 ·exact (getD_rng hv.rn b).1
 ·exact Int.le_refl _)
theorem poss_iff {fits : List (List Bool)} {sup need : List Int} (hv : Vld fits sup need) {set : Nat} (_ : set < 2 ^ need.length) : Poss fits sup need set ↔ Feas (pbS fits sup need fun b => set.testBit b) := by
 rw [feasS_iff hv]
 refine ⟨fun h D => ?_, fun h s h1 h2 h3 => ?_⟩
 ·refine Int.le_trans (lackS_le hv _ D) ?_
  rw [lackOf_bits hv]
  by_cases h0 : bitsOf (fun b => D b && set.testBit b) need.length = 0
  ·rw [h0, lackB_eq hv]
   have : lackOf (pbOf fits sup need) (fun b => (0 : Nat).testBit b) = 0 := by
    rw [← lackOf_none (pbOf fits sup need)]
    exact lackOf_congr fun b _ => by simp
   rw [this]; exact Int.le_refl _
  ·have hsub : bitsOf (fun b => D b && set.testBit b) need.length &&& set = bitsOf (fun b => D b && set.testBit b) need.length := by
    apply Nat.eq_of_testBit_eq
    intro i
    rw [Nat.testBit_and, bitsOf_bit]
    cases D i <;> cases set.testBit i <;> simp
   refine h _ (by omega) ?_ hsub
   rw [← hsub]
   exact Nat.and_le_right
 ·rw [lackB_eq hv, ← lackS_eq (S := fun b => set.testBit b)]
  ·exact h _
  ·intro b _ hb
   rw [← h3, Nat.testBit_and] at hb
   simp at hb
   exact hb.2
theorem sub_bit {s r : Nat} (h : s.testBit r = true) : 2 ^ r ≤ s ∧ ∀ b, (s - 2 ^ r).testBit b = (s.testBit b && decide (b ≠ r)) := by
 have hd : s = 2 ^ r * (s / 2 ^ r) + s % 2 ^ r := (Nat.div_add_mod s (2 ^ r)).symm
 have hl : s % 2 ^ r < 2 ^ r := Nat.mod_lt _ (Nat.two_pow_pos r)
 have hb : (s / 2 ^ r).testBit 0 = true := by
  rw [hd, Nat.testBit_two_pow_mul_add _ hl, if_neg (Nat.lt_irrefl _), Nat.sub_self] at h
  exact h
 generalize s / 2 ^ r = u at hd hb
 generalize s % 2 ^ r = l at hd hl
 obtain ⟨q, rfl⟩ : ∃ q, u = 2 * q + 1 := ⟨u / 2, by simp at hb; omega⟩
 have e1 : 2 ^ r * (2 * q + 1) = 2 ^ r * (2 * q) + 2 ^ r := by rw [Nat.mul_add, Nat.mul_one]
 have e2 : s - 2 ^ r = 2 ^ r * (2 * q) + l := by omega
 refine ⟨by omega, fun b => ?_⟩
 rw [e2, hd, Nat.testBit_two_pow_mul_add _ hl, Nat.testBit_two_pow_mul_add _ hl]
 by_cases h1 : b < r
 ·rw [if_pos h1, if_pos h1]
  have : b ≠ r := by omega
  simp [this]
 ·rw [if_neg h1, if_neg h1]
  by_cases h2 : b = r
  ·subst h2
   simp
  ·obtain ⟨d, hd⟩ : ∃ d, b - r = d + 1 := ⟨b - r - 1, by omega⟩
   rw [hd]
   have e3 : (2 * q + 1) / 2 = q := by omega
   have e4 : 2 * q / 2 = q := by omega
   simp [Nat.testBit_succ, e3, e4, h2]
theorem cut_bits {fits : List (List Bool)} {sup need : List Int} (hv : Vld fits sup need) : ∀ (r s : Nat), r ≤ need.length → s < 2 ^ need.length → (∀ i, i < r → s.testBit i = true) →
  (fun b => (cutS (Poss fits sup need) r s).testBit b) = cutF (fun S => Feas (pbS fits sup need S)) r (fun b => s.testBit b)
 | 0, s, _, _, _ => rfl
 | r + 1, s, hr, hs, hb => by
  obtain ⟨h1, h2⟩ := sub_bit (hb r (by omega))
  have hp := poss_iff hv (set := s - 2 ^ r) (Nat.lt_of_le_of_lt (Nat.sub_le _ _) hs)
  have e : (fun b => (s - 2 ^ r).testBit b) = fun b => s.testBit b && decide (b ≠ r) := funext h2
  rw [e] at hp
  rw [cutS, cutF]
  by_cases h : Poss fits sup need (s - 2 ^ r)
  ·rw [if_pos h, cut_bits hv r s (by omega) hs fun i hi => hb i (by omega)]
   congr
   funext b
   by_cases hbr : b = r
   ·subst hbr
    rw [if_pos rfl]
    exact (hb b (by omega)).trans (@decide_eq_true _ (Classical.propDecidable _) (hp.1 h)).symm
   ·rw [if_neg hbr]
  ·rw [if_neg h, cut_bits hv r (s - 2 ^ r) (by omega) (Nat.lt_of_le_of_lt (Nat.sub_le _ _) hs) fun i hi => by rw [h2, hb i (by omega)]; simp; omega]
   congr
   funext b
   by_cases hbr : b = r
   ·subst hbr
    rw [if_pos rfl, h2]
    refine Eq.trans ?_ (@decide_eq_false _ (Classical.propDecidable _) (fun h' => h (hp.2 h'))).symm
    simp
   ·rw [if_neg hbr, h2]; simp [hbr]
theorem cutFin_bits {fits : List (List Bool)} {sup need : List Int} (hv : Vld fits sup need) : cutFin fits sup need = fun b => (cutOfP fits sup need).testBit b := by
 have h := cut_bits hv need.length (2 ^ need.length - 1) (Nat.le_refl _) (by have := Nat.two_pow_pos need.length; omega) (fun i hi => by rw [Nat.testBit_two_pow_sub_one]; simp [hi])
 unfold cutFin cutOfP
 rw [h]
 congr
 funext b
 rw [Nat.testBit_two_pow_sub_one]
theorem memF_bits {fits : List (List Bool)} {sup need : List Int} (hv : Vld fits sup need) : memF (cutFin fits sup need) need.length = memI (cutOfP fits sup need) need.length := by
 rw [cutFin_bits hv]; rfl
theorem feas_poss {fits : List (List Bool)} {sup need : List Int} (hv : Vld fits sup need) : Feas (pbOf fits sup need) ↔ Poss fits sup need (2 ^ need.length - 1) := by
 rw [poss_iff hv (by have := Nat.two_pow_pos need.length; omega), feasS_iff hv, feas_iff hv.sup0 hv.need0]
 have h : ∀ D, lackOf (pbS fits sup need fun b => (2 ^ need.length - 1).testBit b) D = lackOf (pbOf fits sup need) D := fun D => lackS_eq _ _ fun b hb _ => by rw [Nat.testBit_two_pow_sub_one]; simp [hb]
 simp only [h]
end Go.Proofs.YtmikfjcdgkopkaaGreat

/-
 Matching: the contracts of slices.Equal and of Check, of the program and of the reference.
 Conditions: none.
-/
namespace Go.Proofs.YtmikfjcdgkopkaaGreat
open Go Bf
attribute [local irreducible] Tr Exec Stab HasTy Go.Addr.add IntKind.wrap
set_option maxHeartbeats 2000000 in
theorem equal_fn (M : Mem) (p q : List Int) (A B : Option Addr) (c k : Nat) (hp : Ints M (.slice A p.length c) p) (hq : Ints M (.slice B q.length k) q) : Fn0 Tryz.prog 70 [.slice A p.length c, .slice B q.length k] M (fun r M' => (∃ b : Bool, r = .bool b ∧ (b = true ↔ p = q)) ∧ M = M') := by
 have l1 := hp.len_le
 have l2 := hq.len_le
 refine Fn.intro Tryz.func70 rfl rfl Tryz.ntmps70 rfl fun E F => ?_
 by_cases hl : p.length = q.length
 rotate_left
 ·refine rQ ?_
  (refine dnQ (hL := by exact ⟨[], rfl⟩) ⟨rfl, ?_⟩)
  exact ⟨⟨false, rfl, by simp; intro h; exact hl (congrArg _ h)⟩, rfl⟩
 repeat (first | ((with_reducible refine Tr.step rfl ?_); (first | (refine xmQ ?_) | (refine xaQ ?_) | (refine xnQ ?_) | (refine xiQ ?_))) | (with_reducible first | apply Tr.next | apply Tr.seq | apply Tr.region | apply Tr.nil | apply Tr.skip | apply Tr.block) | (refine Tr.cond_f rfl (by omega) ?_))
 refine Tr.loop (α := Nat) (fun i => ⟨26, [(13, .int .i64 (i : Int)), (12, .int .i64 p.length), (0, .slice A p.length c), (1, .slice B q.length k)], [], M, [] ++ F⟩) (fun i => i ≤ p.length ∧ p.take i = q.take i) (fun i => p.length - i) 0 ⟨by simp, by simp⟩ hsQ (fun i hi => ?_)
 obtain ⟨hi, heq⟩ := hi
 by_cases hlt : i < p.length
 ·obtain ⟨x, hx⟩ := get_of_lt hlt
  obtain ⟨y, hy⟩ := get_of_lt (xs := q) (i := i) (by omega)
  obtain ⟨hA, hat⟩ := hp.at hx
  obtain ⟨hB, hbt⟩ := hq.at hy
  by_cases hxy : x = y
  ·refine rQ ?_
   (((apply Tr.draw); (kernel_rfl)); (refine tkQ 0 (hB := by exact fun _ h => h) (s := by exact Stab.move rfl) ?_); (refine tkQ 1 (s := by exact Stab.move rfl) ?_); (refine tkQ 4 (s := by exact Stab.move rfl) ?_); (refine tkQ 5 (s := by exact Stab.move rfl) ?_); (refine tkQ 2 (s := by exact sxQ) ?_); (refine tkQ 6 (s := by exact sxQ) ?_); (refine tkQ 3 (s := by exact sMQ) ?_); (refine tkQ 7 (s := by exact sMQ) ?_); (refine tkQ 8 (s := by exact siQ) ?_); (refine TrA.done (by kernel_rfl) ?_))
   repeat (first | ((with_reducible refine Tr.step rfl ?_); (first | (refine xmQ ?_) | (refine xdQ ?_))) | (with_reducible first | apply Tr.next | apply Tr.region | apply Tr.nil | apply Tr.skip | apply Tr.in_normal) | (refine Tr.cond_f rfl (by omega) ?_))
   refine Tr.again (i + 1) ⟨by omega, by rw [List.take_add_one, List.take_add_one, hx, hy, heq, hxy]⟩ (by omega) hsQ
  ·refine rQ ?_
   (((apply Tr.draw); (kernel_rfl)); (refine tkQ 0 (hB := by exact fun _ h => h) (s := by exact Stab.move rfl) ?_); (refine tkQ 1 (s := by exact Stab.move rfl) ?_); (refine tkQ 4 (s := by exact Stab.move rfl) ?_); (refine tkQ 5 (s := by exact Stab.move rfl) ?_); (refine tkQ 2 (s := by exact sxQ) ?_); (refine tkQ 6 (s := by exact sxQ) ?_); (refine tkQ 3 (s := by exact sMQ) ?_); (refine tkQ 7 (s := by exact sMQ) ?_); (refine tkQ 8 (s := by exact siQ) ?_); (refine TrA.done (by kernel_rfl) ?_))
   repeat (first | ((with_reducible refine Tr.step rfl ?_); ((refine xaQ ?_))) | (with_reducible first | apply Tr.next | apply Tr.seq | apply Tr.region | apply Tr.nil | apply Tr.ret | apply Tr.then_ret | apply Tr.in_ret) | (refine Tr.cond_t rfl (by (with_reducible assumption)) ?_))
   (refine dnQ (hL := by exact ⟨[], rfl⟩) ⟨rfl, ?_⟩)
   exact ⟨⟨false, rfl, by simp; intro h; rw [h, hy] at hx; cases hx; exact hxy rfl⟩, rfl⟩
 ·have e : i = p.length := by omega
  subst e
  rw [List.take_length, hl, List.take_length] at heq
  refine rQ ?_
  (refine dnQ (hL := by exact ⟨[], rfl⟩) ⟨rfl, ?_⟩)
  exact ⟨⟨true, rfl, by simpa using heq⟩, rfl⟩
def am2 (am : List (List Int)) (i j : Nat) : Int := (am.getD i []).getD j 0
structure CheckP (fits : List (List Bool)) (sup need : List Int) (am : List (List Int)) : Prop where
 len : am.length = sup.length
 rows : ∀ r ∈ am, r.length = need.length
 nn : ∀ i j, i < sup.length → j < need.length → 0 ≤ am2 am i j
 ok : ∀ i j, i < sup.length → j < need.length → 0 < am2 am i j → (fits.getD i []).getD j false = true
 row : ∀ i, i < sup.length → sumN need.length (am2 am i) ≤ sup.getD i 0
 col : ∀ j, j < need.length → sumN sup.length (fun i => am2 am i j) = need.getD j 0
theorem am2_of {am : List (List Int)} {i j : Nat} {r : List Int} {x : Int} (hr : am[i]? = some r) (hx : r[j]? = some x) : am2 am i j = x := by
 unfold am2
 rw [getD_of (d := []) hr, getD_of hx]
theorem CheckP.le {fits : List (List Bool)} {sup need : List Int} {am : List (List Int)} (h : CheckP fits sup need am) {i j : Nat} (hi : i < sup.length) (hj : j < need.length) : am2 am i j ≤ sup.getD i 0 := by
 have h1 := sumN_le_of_mem (f := am2 am i) (n := need.length) (k := j) (fun b hb => h.nn i b hi hb) hj
 have h2 := h.row i hi
 omega
theorem CheckP.bad {fits : List (List Bool)} {sup need : List Int} {am : List (List Int)} {i j : Nat} (hi : i < sup.length) (hj : j < need.length) (hb : am2 am i j < 0 ∨ sup.getD i 0 < am2 am i j ∨ (0 < am2 am i j ∧ (fits.getD i []).getD j false = false)) : ¬ CheckP fits sup need am := fun h => by
 have h1 := h.nn i j hi hj
 have h2 := h.le hi hj
 rcases hb with hb | hb | ⟨hb1, hb2⟩
 ·omega
 ·omega
 ·have := h.ok i j hi hj hb1
  rw [hb2] at this; cases this
theorem am2_row {am : List (List Int)} {i : Nat} {r : List Int} (hr : am[i]? = some r) : am2 am i = fun j => r.getD j 0 := by
 funext j
 unfold am2
 rw [getD_of (d := []) hr]
structure Upto (fits : List (List Bool)) (sup need : List Int) (am : List (List Int)) (i j : Nat) (col : List Int) : Prop where
 cl : col.length = need.length
 ok : ∀ i' j', i' < sup.length → j' < need.length → (i' < i ∨ i' = i ∧ j' < j) → 0 ≤ am2 am i' j' ∧ am2 am i' j' ≤ 1048576 ∧ (0 < am2 am i' j' → (fits.getD i' []).getD j' false = true)
 rw_ : ∀ i', i' < i → (am.getD i' []).length = need.length ∧ sumN need.length (am2 am i') ≤ sup.getD i' 0
 sm : ∀ q, q < need.length → col.getD q 0 = sumN i (fun i' => am2 am i' q) + if q < j then am2 am i q else 0
theorem Upto.col_rng {fits : List (List Bool)} {sup need : List Int} {am : List (List Int)} {i j : Nat} {col : List Int} (h : Upto fits sup need am i j col) (hi : i ≤ 64) (hin : i ≤ sup.length) {q : Nat} (hq : q < need.length) (hqj : j ≤ q) : 0 ≤ col.getD q 0 ∧ col.getD q 0 ≤ 67108864 := by
 rw [h.sm q hq, if_neg (by omega)]
 have := sum_small (n := i) (f := fun i' => am2 am i' q) (fun i' hi' => by
  have := h.ok i' q (by omega) hq (.inl hi')
  exact ⟨this.1, this.2.1⟩)
 omega
theorem Upto.start (fits : List (List Bool)) (sup need : List Int) (am : List (List Int)) : Upto fits sup need am 0 0 (List.replicate need.length 0) := by
 refine ⟨by simp, fun _ _ _ _ h => by omega, fun _ h => by omega, fun q hq => ?_⟩
 rw [if_neg (by omega)]
 show _ = (0 : Int) + 0
 rw [List.getD_eq_getElem?_getD]; simp [hq]
theorem Upto.step {fits : List (List Bool)} {sup need : List Int} {am : List (List Int)} {i j : Nat} {col : List Int} (h : Upto fits sup need am i j col) (hj : j < need.length) (h0 : 0 ≤ am2 am i j ∧ am2 am i j ≤ 1048576) (hf : 0 < am2 am i j → (fits.getD i []).getD j false = true) :
  Upto fits sup need am i (j + 1) (col.set j (col.getD j 0 + am2 am i j)) := by
 refine ⟨by simpa using h.cl, fun i' j' h1 h2 h3 => ?_, h.rw_, fun q hq => ?_⟩
 ·by_cases e : i' = i ∧ j' = j
  ·obtain ⟨rfl, rfl⟩ := e
   exact ⟨h0.1, h0.2, hf⟩
  ·exact h.ok i' j' h1 h2 (by omega)
 ·by_cases e : q = j
  ·subst e
   rw [getD_set_self' (by rw [h.cl]; exact hj), h.sm q hq, if_neg (by omega), if_pos (by omega)]
   omega
  ·rw [getD_set_ne' (Ne.symm e), h.sm q hq]
   have : q < j + 1 ↔ q < j := by omega
   simp only [this]
theorem Upto.row {fits : List (List Bool)} {sup need : List Int} {am : List (List Int)} {i : Nat} {col : List Int} {r : List Int} (h : Upto fits sup need am i need.length col) (hr : am[i]? = some r) (hrl : r.length = need.length) (hs : sumN need.length (am2 am i) ≤ sup.getD i 0) : Upto fits sup need am (i + 1) 0 col := by
 refine ⟨h.cl, fun i' j' h1 h2 h3 => h.ok i' j' h1 h2 (by omega), fun i' h1 => ?_, fun q hq => ?_⟩
 ·by_cases e : i' = i
  ·subst e
   exact ⟨by rw [getD_of (d := []) hr]; exact hrl, hs⟩
  ·exact h.rw_ i' (by omega)
 ·rw [h.sm q hq, if_pos hq, if_neg (by omega)]
  show _ = (sumN i (fun i' => am2 am i' q) + am2 am i q) + 0
  omega
theorem Upto.fin {fits : List (List Bool)} {sup need : List Int} {am : List (List Int)} {col : List Int} (h : Upto fits sup need am sup.length 0 col) (hl : am.length = sup.length) : col = need ↔ CheckP fits sup need am := by
 refine ⟨fun e => ⟨hl, fun r hr => ?_, fun i j hi hj => (h.ok i j hi hj (.inl hi)).1, fun i j hi hj => (h.ok i j hi hj (.inl hi)).2.2, fun i hi => (h.rw_ i hi).2, fun j hj => ?_⟩, fun hc => ?_⟩
 ·obtain ⟨i, hi⟩ := List.mem_iff_getElem?.1 hr
  have := (h.rw_ i (by have := (List.getElem?_eq_some_iff.1 hi).1; omega)).1
  rw [getD_of (d := []) hi] at this
  exact this
 ·have := h.sm j hj
  rw [if_neg (by omega), e] at this
  omega
 ·apply List.ext_getElem?
  intro q
  by_cases hq : q < need.length
  ·have h1 := h.sm q hq
   rw [if_neg (by omega), hc.col q hq] at h1
   obtain ⟨a, ha⟩ := get_of_lt (xs := col) (i := q) (by rw [h.cl]; exact hq)
   obtain ⟨b, hb⟩ := get_of_lt hq
   rw [getD_of ha, getD_of hb] at h1
   rw [ha, hb, h1]; simp
  ·rw [List.getElem?_eq_none (by rw [h.cl]; omega), List.getElem?_eq_none (by omega)]
def CheckR (fits : List (List Bool)) (sup need : List Int) (am : List (List Int)) (r : Value) : Prop :=
 (validF fits sup need = false ∧ r = .tuple #[.bool false, .int .i64 300]) ∨ (Vld fits sup need ∧ ∃ b : Bool, r = .tuple #[.bool b, .int .i64 0] ∧ (b = true ↔ CheckP fits sup need am))
theorem CheckR.no {fits : List (List Bool)} {sup need : List Int} {am : List (List Int)} (hv : Vld fits sup need) (h : ¬ CheckP fits sup need am) : CheckR fits sup need am (.tuple #[.bool false, .int .i64 0]) := .inr ⟨hv, false, rfl, by simp [h]⟩
end Go.Proofs.YtmikfjcdgkopkaaGreat

/-
 Matching: the contract of the program's Cut.
 Conditions: none.
-/
namespace Go.Proofs.YtmikfjcdgkopkaaGreat
open Go Bf
attribute [local irreducible] Tr Exec Stab HasTy Go.Addr.add IntKind.wrap
def AscTo (m : Nat) (l : List Int) (i : Nat) : Prop := ∀ q x, q < i → l[q]? = some x → 0 ≤ x ∧ x < m ∧ ∀ y, 0 < q → l[q - 1]? = some y → y < x
def cutNeed (need : List Int) (l : List Int) : Int := (l.map fun x => need.getD x.toNat 0).sum
def cutTouch (row : List Bool) (l : List Int) : Bool := l.any fun x => row.getD x.toNat false
def cutHave (fits : List (List Bool)) (sup : List Int) (l : List Int) (i : Nat) : Int := sumN i fun k => if cutTouch (fits.getD k []) l then sup.getD k 0 else 0
def CutP (fits : List (List Bool)) (sup need l : List Int) : Prop := AscTo need.length l l.length ∧ cutHave fits sup l sup.length < cutNeed need l
def CutR (fits : List (List Bool)) (sup need l : List Int) (r : Value) : Prop :=
 (validF fits sup need = false ∧ r = .tuple #[.bool false, .int .i64 300]) ∨ (Vld fits sup need ∧ ∃ b : Bool, r = .tuple #[.bool b, .int .i64 0] ∧ (b = true ↔ CutP fits sup need l))
theorem CutR.no {fits : List (List Bool)} {sup need l : List Int} (hv : Vld fits sup need) (h : ¬ AscTo need.length l l.length) : CutR fits sup need l (.tuple #[.bool false, .int .i64 0]) := .inr ⟨hv, false, rfl, by simp [CutP, h]⟩
theorem AscTo.step {m i : Nat} {l : List Int} {x : Int} (h : AscTo m l i) (hx : l[i]? = some x) (h1 : 0 ≤ x ∧ x < m) (h2 : ∀ y, 0 < i → l[i - 1]? = some y → y < x) : AscTo m l (i + 1) := fun q z hq hz => by
 by_cases e : q = i
 ·subst e
  rw [hx] at hz
  cases hz
  exact ⟨h1.1, h1.2, h2⟩
 ·exact h q z (by omega) hz
theorem AscTo.ge {m : Nat} {l : List Int} : ∀ {i : Nat}, AscTo m l i → i ≤ l.length → ∀ x, 0 < i → l[i - 1]? = some x → (i : Int) - 1 ≤ x ∧ x < m
 | 0, _, _, _, h, _ => by omega
 | i + 1, h, hl, x, _, hx => by
  simp only [Nat.add_sub_cancel] at hx
  have h1 := h i x (by omega) hx
  by_cases e : i = 0
  ·subst e; exact ⟨by simpa using h1.1, h1.2.1⟩
  ·obtain ⟨y, hy⟩ := get_of_lt (xs := l) (i := i - 1) (by omega)
   have h2 := AscTo.ge (i := i) (fun q z hq hz => h q z (by omega) hz) (by omega) y (by omega) hy
   have h3 := h1.2.2 y (by omega) hy
   exact ⟨by push_cast; omega, h1.2.1⟩
theorem AscTo.count {m i : Nat} {l : List Int} (h : AscTo m l i) (hl : i ≤ l.length) : i ≤ m := by
 by_cases e : i = 0
 ·omega
 ·obtain ⟨y, hy⟩ := get_of_lt (xs := l) (i := i - 1) (by omega)
  have := h.ge hl y (by omega) hy
  omega
theorem cutNeed_succ {need l : List Int} {i : Nat} {x : Int} (hx : l[i]? = some x) : cutNeed need (l.take (i + 1)) = cutNeed need (l.take i) + need.getD x.toNat 0 := by
 unfold cutNeed
 rw [List.take_add_one, hx]
 simp
theorem cutNeed_rng {need : List Int} (h : ∀ x ∈ need, 0 ≤ x ∧ x ≤ 1048576) : ∀ (l : List Int), 0 ≤ cutNeed need l ∧ cutNeed need l ≤ 1048576 * l.length
 | [] => by simp [cutNeed]
 | x :: l => by
  have h1 := cutNeed_rng h l
  have h2 := getD_rng h x.toNat
  have e : cutNeed need (x :: l) = need.getD x.toNat 0 + cutNeed need l := rfl
  rw [e, List.length_cons]
  push_cast
  omega
theorem cutHave_rng {fits : List (List Bool)} {sup : List Int} (h : ∀ x ∈ sup, 0 ≤ x ∧ x ≤ 1048576) (l : List Int) (i : Nat) : 0 ≤ cutHave fits sup l i ∧ cutHave fits sup l i ≤ 1048576 * i := sum_small (fun k _ => by
 have := getD_rng h k
 split
 ·exact this
 ·exact ⟨Int.le_refl _, by decide⟩)
theorem cutHave_succ (fits : List (List Bool)) (sup l : List Int) (i : Nat) : cutHave fits sup l (i + 1) = cutHave fits sup l i + if cutTouch (fits.getD i []) l then sup.getD i 0 else 0 := rfl
set_option maxHeartbeats 1000000 in
theorem cut1_fn (M : Mem) (rb : Nat) (B : Option Addr) (k : Nat) (row : List Bool) (hb : (box rb 78 [.slice B row.length k]).ok M) (hB : Bools M (.slice B row.length k) row) (x : Int) (h0 : 0 ≤ x) (h1 : x < row.length) :
  Fn0 Tryz.prog 73 ([.int .i64 x] ++ [.pointer (some ⟨rb, 0, none⟩)]) M (fun r M' => r = .bool (row.getD x.toNat false) ∧ M = M') := by
 obtain ⟨n, rfl⟩ : ∃ n : Nat, x = (n : Int) := ⟨x.toNat, by omega⟩
 obtain ⟨v, hv⟩ := get_of_lt (xs := row) (i := n) (by omega)
 obtain ⟨hA, hat⟩ := hB.at hv
 have hl := hB.len_le
 have hrow := Row.of_box (n := 1) (sz := 1) hb (by simp) (by simp [Value.oneCell'])
 have hat2 := (hrow.pos (by decide)).2
 refine Fn.intro Tryz.func73 rfl rfl Tryz.ntmps73 rfl fun E F => ?_
 simp only [List.cons_append, List.nil_append]
 repeat (first | ((with_reducible refine Tr.step rfl ?_); (first | (refine xmQ ?_) | (refine xaQ ?_) | (refine xMQ ?_) | (refine xxQ ?_))) | (with_reducible first | apply Tr.next | apply Tr.seq | apply Tr.region | apply Tr.nil | apply Tr.ret))
 (refine dnQ (hL := by exact ⟨[], rfl⟩) ⟨rfl, ?_⟩)
 exact ⟨by rw [Int.toNat_natCast, getD_of hv]; rfl, rfl⟩
theorem touch_lend (M : Mem) (rb : Nat) (B : Option Addr) (k : Nat) (row : List Bool) (hB : Bools M (.slice B row.length k) row) (A : Option Addr) (c : Nat) (l : List Int) (hl : Ints M (.slice A l.length c) l) (hx : ∀ x ∈ l, 0 ≤ x ∧ x < row.length) :
  Bf.Fn Tryz.prog 72 [.slice A l.length c, .func (.func 73) #[] #[.pointer (some ⟨rb, 0, none⟩)]] M [box rb 78 [.slice B row.length k]] (fun r M' A' => A' = [box rb 78 [.slice B row.length k]] ∧ M = M' ∧ r = .bool (cutTouch row l)) :=
 Fn.lend (rs := [box rb 78 [.slice B row.length k]]) (R := fun r => r = .bool (cutTouch row l)) (clone_ok _ _ _ _ _ _ (containsFunc_fn M none 0 [] ⟨_, 0, [], rfl, by simp, by simp, by simp, Row.nil _ _ _, by simp⟩ 0 [] (fun _ => false) (by simp))) (fun M' hm hok =>
  containsFunc_fn M' A c l (hl.mono RI.mono hm) 73 [.pointer (some ⟨rb, 0, none⟩)] (fun x => row.getD x.toNat false) (fun x hxl => cut1_fn M' rb B k row (hok _ (by simp)) (hB.mono RBo.mono hm) x (hx x hxl).1 (hx x hxl).2))
set_option maxHeartbeats 8000000 in
set_option maxRecDepth 20000 in
theorem cut_fn (M : Mem) (A0 A1 A2 A3 : Option Addr) (c0 c1 c2 c3 : Nat) (fits : List (List Bool)) (sup need l : List Int) (hf : Fits2 M (.slice A0 fits.length c0) fits) (hs : Ints M (.slice A1 sup.length c1) sup) (hn : Ints M (.slice A2 need.length c2) need) (hl : Ints M (.slice A3 l.length c3) l) (rs : I64s sup) (rn : I64s need) :
  Fn0 Tryz.prog 28 [.slice A0 fits.length c0, .slice A1 sup.length c1, .slice A2 need.length c2, .slice A3 l.length c3] M (fun r M' => CutR fits sup need l r ∧ M = M') := by
 have la := hl.len_le
 refine Fn.intro Tryz.func28 rfl rfl Tryz.ntmps28 rfl fun E F => ?_
 repeat (first | ((with_reducible refine Tr.step rfl ?_); (first | (refine xmQ ?_) | (refine xaQ ?_))) | (with_reducible first | apply Tr.next | apply Tr.seq | apply Tr.region | apply Tr.nil))
 ((refine Tr.step rfl ?_)); refine Exec.call0 rfl (valid_fn M A0 A1 A2 c0 c1 c2 fits sup need hf hs hn rs rn) rfl ?_
 rintro _ _ _ ⟨rfl, rfl⟩
 cases hvv : validF fits sup need
 ·refine rQ ?_
  (refine dnQ (hL := by exact ⟨[], rfl⟩) ⟨rfl, ?_⟩)
  exact ⟨.inl ⟨hvv, rfl⟩, rfl⟩
 have hv := vld_iff.1 hvv
 have l1 := hv.ls
 have l2 := hv.ln
 have l3 := hv.lf
 refine rQ ?_
 refine Tr.loop (α := Nat × Int) (fun y => ⟨65, [(24, .int .i64 (y.1 : Int)), (23, .int .i64 (l.length : Int)), (22, .slice A3 l.length c3), (12, .int .i64 y.2), (11, .int .i64 0), (10, .int .i64 (cutNeed need (l.take y.1))), (0, .slice A0 fits.length c0), (1, .slice A1 sup.length c1), (2, .slice A2 need.length c2), (3, .slice A3 l.length c3)], [], M, [] ++ F⟩)
  (fun y => y.1 ≤ l.length ∧ AscTo need.length l y.1 ∧ ((y.1 = 0 ∧ y.2 = -1) ∨ (0 < y.1 ∧ l[y.1 - 1]? = some y.2))) (fun y => l.length - y.1) (0, -1) ⟨Nat.zero_le _, fun _ _ h => by omega, .inl ⟨rfl, rfl⟩⟩ hsQ (fun y hy => ?_)
 obtain ⟨i, last⟩ := y
 obtain ⟨hi, hasc, hlast⟩ := hy
 simp only at hi hasc hlast
 dsimp only
 have hcnt := hasc.count hi
 have hcn := cutNeed_rng hv.rn (l.take i)
 have htl : (l.take i).length = i := by simp; omega
 rw [htl] at hcn
 by_cases hil : i < l.length
 ·obtain ⟨x, hx⟩ := get_of_lt hil
  obtain ⟨hA, hat⟩ := hl.at hx
  have hxi := hasc
  have hl0 : -1 ≤ last := by
   rcases hlast with ⟨h1, h2⟩ | ⟨h1, h2⟩
   ·omega
   ·have := hasc.ge hi last h1 h2; omega
  by_cases hxl : x ≤ last
  ·refine rQ ?_
   (refine dnQ (hL := by exact ⟨[], rfl⟩) ⟨rfl, ?_⟩)
   refine ⟨CutR.no hv fun h => ?_, rfl⟩
   have h1 := h i x hil hx
   rcases hlast with ⟨h2, h3⟩ | ⟨h2, h3⟩
   ·omega
   ·have := h1.2.2 last h2 h3; omega
  by_cases hxm : need.length ≤ x
  ·refine rQ ?_
   (refine dnQ (hL := by exact ⟨[], rfl⟩) ⟨rfl, ?_⟩)
   refine ⟨CutR.no hv fun h => ?_, rfl⟩
   have h1 := h i x hil hx
   omega
  obtain ⟨n, rfl⟩ : ∃ n : Nat, x = (n : Int) := ⟨x.toNat, by omega⟩
  obtain ⟨v, hv1⟩ := get_of_lt (xs := need) (i := n) (by omega)
  obtain ⟨hA2, nat2⟩ := hn.at hv1
  have hvr := hv.rn v (List.mem_of_getElem? hv1)
  have hsu := cutNeed_succ (need := need) hx
  rw [Int.toNat_natCast, getD_of hv1] at hsu
  refine rQ ?_
  rw [← hsu]
  refine Tr.again (i + 1, (n : Int)) ⟨by simp only; omega, hasc.step hx (by omega) (fun y h1 h2 => ?_), .inr ⟨by simp only; omega, by simpa using hx⟩⟩ (by simp only; omega) hsQ
  rcases hlast with ⟨h3, h4⟩ | ⟨h3, h4⟩
  ·omega
  ·rw [h4] at h2; cases h2; omega
 have ei : i = l.length := by omega
 subst ei
 rw [List.take_length] at hcn ⊢
 have hmem : ∀ x ∈ l, 0 ≤ x ∧ x < need.length := fun x hx => by
  obtain ⟨q, hq⟩ := List.mem_iff_getElem?.1 hx
  have := hasc q x (List.getElem?_eq_some_iff.1 hq).1 hq
  exact ⟨this.1, this.2.1⟩
 refine rQ ?_
 refine Tr.loop (α := Nat) (fun y => ⟨65, [(47, .int .i64 (y : Int)), (46, .int .i64 (fits.length : Int)), (45, .slice A0 fits.length c0), (11, .int .i64 (cutHave fits sup l y)), (10, .int .i64 (cutNeed need l)), (1, .slice A1 sup.length c1), (3, .slice A3 l.length c3)], [], M, [] ++ F⟩)
  (fun y => y ≤ fits.length) (fun y => fits.length - y) 0 (Nat.zero_le _) hsQ (fun y hy => ?_)
 have hch := cutHave_rng (fits := fits) hv.rs l y
 by_cases hyn : y < fits.length
 ·obtain ⟨frow, hfr⟩ := get_of_lt hyn
  have hfrl := hv.rows frow (List.mem_of_getElem? hfr)
  obtain ⟨hA0, fch, fat, fB, fk, rfl, hfB⟩ := hf.elem hfr
  obtain ⟨s, hs1⟩ := get_of_lt (xs := sup) (i := y) (by omega)
  obtain ⟨hA1, sat⟩ := hs.at hs1
  have hsr := hv.rs s (List.mem_of_getElem? hs1)
  have hsu := cutHave_succ fits sup l y
  rw [getD_of (d := []) hfr, getD_of (d := 0) hs1] at hsu
  repeat (first | ((with_reducible refine Tr.step rfl ?_); (first | (refine xmQ ?_) | (refine xaQ ?_) | (refine xMQ ?_) | ((with_reducible refine Knd.makeFunc ?_); (refine Exec.stab rfl (Stab.makeFunc rfl rfl) rfl ?_)) | (refine xiQ ?_) | (refine xSQ ?_) | ((with_reducible refine Knd.alloc ?_); ((refine Exec.alloc1 (tysOk.get rfl) rfl rfl rfl (fun b => ?_)))) | (refine xxQ ?_))) | (with_reducible first | apply Tr.next | apply Tr.seq | apply Tr.region | apply Tr.nil | apply Tr.skip | apply Tr.block) | (refine Tr.cond_t rfl (by first | (with_reducible assumption) | omega) ?_))
  ((refine Tr.step rfl ?_))
  refine Exec.call (A := [box b 78 [.slice fB frow.length fk]]) rfl (touch_lend M b fB fk frow hfB A3 c3 l hl (fun x hx => by rw [hfrl]; exact hmem x hx)) (List.Perm.refl _) rfl ?_
  rintro _ _ _ _ ⟨rfl, rfl, rfl⟩
  cases ht : cutTouch frow l
  ·rw [ht] at hsu
   simp only [Bool.false_eq_true, if_false, Int.add_zero] at hsu
   repeat (first | ((with_reducible refine Tr.step rfl ?_); (first | (refine xmQ ?_) | (refine xdQ ?_))) | (with_reducible first | apply Tr.next | apply Tr.region | apply Tr.nil | apply Tr.skip | apply Tr.in_normal) | (refine Tr.cond_bf rfl (by (with_reducible rfl)) ?_))
   rw [← hsu]
   refine gvQ (r := box _ 78 _) ?_
   refine Tr.again (y + 1) hyn (by omega) hsQ
  ·rw [ht] at hsu
   simp only [if_true] at hsu
   refine rQ ?_
   rw [← hsu]
   refine gvQ (r := box _ 78 _) ?_
   refine Tr.again (y + 1) hyn (by omega) hsQ
 ·have ey : y = fits.length := by omega
  subst ey
  refine rQ ?_
  (refine dnQ (hL := by exact ⟨[], rfl⟩) ⟨rfl, ?_⟩)
  refine ⟨.inr ⟨hv, _, rfl, ?_⟩, rfl⟩
  rw [decide_eq_true_eq, l3]
  exact ⟨fun h => ⟨hasc, h⟩, fun h => h.2⟩
end Go.Proofs.YtmikfjcdgkopkaaGreat

/-
 Matching, plain: a problem without some requests; cuts of which none can be left out; problems with more.
 Conditions: none.
-/
namespace Go.Proofs.YtmikfjcdgkopkaaGreat
open Go Bf
theorem keep_idx {α : Type} (o : Nat → Bool) (d : α) (l : List α) : ∀ k, k ≤ l.length → keep o (l.take k) 0 = ((List.range k).filter fun i => !o i).map fun i => l.getD i d
 | 0, _ => by simp [keep]
 | k + 1, h => by
  obtain ⟨x, hx⟩ := get_of_lt (xs := l) (i := k) (by omega)
  rw [keep_take o l 0 k x hx, keep_idx o d l k (by omega), List.range_succ, List.filter_append, List.map_append, Nat.zero_add]
  congr 1
  cases ho : o k
  ·simp [ho, hx]
  ·simp [ho]
theorem keep_map {α : Type} (o : Nat → Bool) (d : α) (l : List α) : keep o l 0 = ((List.range l.length).filter fun i => !o i).map fun i => l.getD i d := by
 have := keep_idx o d l l.length (Nat.le_refl _)
 rwa [List.take_length] at this
def idx (S : Nat → Bool) (m : Nat) : List Nat := (List.range m).filter S
theorem idx_succ (S : Nat → Bool) (m : Nat) : idx S (m + 1) = idx S m ++ if S m = true then [m] else [] := by
 unfold idx
 rw [List.range_succ, List.filter_append]
 cases h : S m <;> simp [h]
theorem idx_mem {S : Nat → Bool} {m j b : Nat} (h : (idx S m)[j]? = some b) : b < m ∧ S b = true := by
 have := List.mem_of_getElem? h
 simpa [idx] using this
theorem idx_sum (S : Nat → Bool) (f : Nat → Int) : ∀ m, sumN m (fun b => if S b = true then f b else 0) = sumN (idx S m).length fun j => f ((idx S m).getD j 0)
 | 0 => rfl
 | m + 1 => by
  have ih := idx_sum S f m
  rw [idx_succ]
  show sumN m (fun b => if S b = true then f b else 0) + (if S m = true then f m else 0) = _
  rw [ih]
  by_cases h : S m = true
  ·rw [if_pos h, if_pos h, List.length_append]
   show _ = sumN (idx S m).length _ + f _
   congr 1
   ·refine sumN_congr fun j hj => ?_
    congr 1
    rw [List.getD_eq_getElem?_getD, List.getD_eq_getElem?_getD, List.getElem?_append_left hj]
   ·congr 1
    rw [List.getD_eq_getElem?_getD, List.getElem?_append_right (Nat.le_refl _)]
    simp
  ·rw [if_neg h, if_neg h, List.append_nil]; omega
theorem keep_len_idx {α : Type} (o : Nat → Bool) (l : List α) : (keep o l 0).length = (idx (fun i => !o i) l.length).length := by
 cases l with
 | nil => rfl
 | cons x l => rw [keep_map o x]; simp [idx]
theorem keep_get {α : Type} (o : Nat → Bool) (d : α) (l : List α) {j : Nat} (hj : j < (idx (fun i => !o i) l.length).length) : (keep o l 0).getD j d = l.getD ((idx (fun i => !o i) l.length).getD j 0) d := by
 rw [keep_map o d]
 obtain ⟨b, hb⟩ := get_of_lt hj
 have : (((List.range l.length).filter fun i => !o i).map fun i => l.getD i d)[j]? = some (l.getD b d) := by
  rw [List.getElem?_map]
  show (idx (fun i => !o i) l.length)[j]?.map _ = _
  rw [hb]; rfl
 rw [getD_of this, getD_of hb]
theorem feas_keep {fits : List (List Bool)} {sup need : List Int} (hv : Vld fits sup need) (o : Nat → Bool) (h : Feas (pbS fits sup need fun b => !o b)) : Feas (pbOf (fits.map fun r => keep o r 0) sup (keep o need 0)) := by
 obtain ⟨a, ha⟩ := h
 let S := fun b => !o b
 let ix := idx S need.length
 have hlf := hv.lf
 have hm : (keep o need 0).length = ix.length := keep_len_idx o need
 have hz : ∀ k, k < sup.length → ∀ b, b < need.length → S b = false → a k b = 0 := fun k hk b hb hS => by
  have h1 : (0 : Int) + sumN sup.length (fun k => a k b) = if S b = true then need.getD b 0 else 0 := ha.col b hb
  rw [hS, if_neg (by simp)] at h1
  have h2 := sumN_le_of_mem (f := fun k => a k b) (n := sup.length) (k := k) (fun k hk => ha.nn k hk b (Nat.le_of_lt hb)) hk
  have h3 := ha.nn k hk b (Nat.le_of_lt hb)
  have h2' : a k b ≤ sumN sup.length (fun k => a k b) := h2
  omega
 refine ⟨fun k j => if j = ix.length then a k need.length else a k (ix.getD j 0), ⟨fun k hk j hj => ?_, fun k hk j hj h0 => ?_, fun k hk => ?_⟩, fun j hj => ?_, fun _ _ => Int.le_refl _⟩
 ·by_cases e : j = ix.length
  ·simp only [if_pos e]
   exact ha.nn k hk _ (Nat.le_refl _)
  ·simp only [if_neg e]
   have hj' : j ≤ (keep o need 0).length := hj
   obtain ⟨b, hb⟩ := get_of_lt (xs := ix) (i := j) (by omega)
   rw [getD_of hb]
   exact ha.nn k hk b (Nat.le_of_lt (idx_mem hb).1)
 ·have hj' : j < (keep o need 0).length := hj
  have e : ¬ j = ix.length := by omega
  simp only [if_neg e] at h0
  obtain ⟨b, hb⟩ := get_of_lt (xs := ix) (i := j) (by omega)
  rw [getD_of hb] at h0
  have h1 := ha.ok k hk b (idx_mem hb).1 h0
  show ((fits.map fun r => keep o r 0).getD k []).getD j false = true
  have hk' : k < sup.length := hk
  obtain ⟨row, hr⟩ := get_of_lt (xs := fits) (i := k) (by omega)
  have hrl := hv.rows row (List.mem_of_getElem? hr)
  rw [getD_of (d := []) (show (fits.map fun r => keep o r 0)[k]? = some (keep o row 0) by simp [hr])]
  rw [keep_get o false row (by rw [hrl]; show j < ix.length; omega), hrl]
  show row.getD (ix.getD j 0) false = true
  rw [getD_of hb]
  have h2 : (fits.getD k []).getD b false = true := h1
  rwa [getD_of (d := []) hr] at h2
 ·have hk' : k < sup.length := hk
  show sumN ((keep o need 0).length + 1) _ = sup.getD k 0
  rw [hm]
  show sumN ix.length (fun j => if j = ix.length then a k need.length else a k (ix.getD j 0)) + (if ix.length = ix.length then a k need.length else a k (ix.getD ix.length 0)) = _
  rw [if_pos rfl, sumN_congr (g := fun j => a k (ix.getD j 0)) (fun j hj => if_neg (by omega)), ← idx_sum S (a k) need.length]
  have h1 : sumN need.length (a k) + a k need.length = sup.getD k 0 := ha.row k hk
  rw [← h1]
  congr 1
  refine sumN_congr fun b hb => ?_
  cases hS : S b
  ·simp [hz k hk' b hb hS]
  ·simp
 ·have hj' : j < (keep o need 0).length := hj
  obtain ⟨b, hb⟩ := get_of_lt (xs := ix) (i := j) (by omega)
  have hbm := idx_mem hb
  show (0 : Int) + sumN sup.length (fun k => if j = ix.length then a k need.length else a k (ix.getD j 0)) = (keep o need 0).getD j 0
  rw [sumN_congr (g := fun k => a k b) (fun k _ => by rw [if_neg (by omega), getD_of hb])]
  have h1 : (0 : Int) + sumN sup.length (fun k => a k b) = if S b = true then need.getD b 0 else 0 := ha.col b hbm.1
  rw [h1, if_pos hbm.2, keep_get o 0 need (by show j < ix.length; omega)]
  show need.getD b 0 = need.getD (ix.getD j 0) 0
  rw [getD_of hb]
theorem feasS_mono {fits : List (List Bool)} {sup need : List Int} (hv : Vld fits sup need) {S T : Nat → Bool} (h : ∀ b, b < need.length → T b = true → S b = true) (hf : Feas (pbS fits sup need S)) : Feas (pbS fits sup need T) := by
 rw [feasS_iff hv] at hf ⊢
 intro D
 refine Int.le_trans ?_ (hf D)
 unfold lackOf
 refine Int.sub_le_sub (sumN_le fun b hb => ?_) (Int.le_refl _)
 show (if D b = true then (if T b = true then need.getD b 0 else 0) else 0) ≤ if D b = true then (if S b = true then need.getD b 0 else 0) else 0
 have := (getD_rng hv.rn b).1
 by_cases hD : D b = true
 ·rw [if_pos hD, if_pos hD]
  by_cases hT : T b = true
  ·rw [if_pos hT, if_pos (h b hb hT)]; exact Int.le_refl _
  ·rw [if_neg hT]; split <;> omega
 ·rw [if_neg hD, if_neg hD]; exact Int.le_refl _
theorem cutF_props {fits : List (List Bool)} {sup need : List Int} (hv : Vld fits sup need) : ∀ (r : Nat) (S : Nat → Bool), r ≤ need.length → (∀ b, b < r → S b = true) → ¬ Feas (pbS fits sup need S) → (∀ b, r ≤ b → b < need.length → S b = true → Feas (pbS fits sup need fun c => S c && decide (c ≠ b))) →
  ¬ Feas (pbS fits sup need (cutF (fun S => Feas (pbS fits sup need S)) r S)) ∧ (∀ b, b < need.length → cutF (fun S => Feas (pbS fits sup need S)) r S b = true → S b = true ∧ Feas (pbS fits sup need fun c => cutF (fun S => Feas (pbS fits sup need S)) r S c && decide (c ≠ b)))
 | 0, S, _, _, hn, hp => ⟨hn, fun b hb h => ⟨h, hp b (Nat.zero_le _) hb h⟩⟩
 | r + 1, S, hr, hall, hn, hp => by
  rw [cutF]
  have hSr := hall r (by omega)
  by_cases hP : Feas (pbS fits sup need fun b => S b && decide (b ≠ r))
  ·have e : (fun b => if b = r then @decide (Feas (pbS fits sup need fun b => S b && decide (b ≠ r))) (Classical.propDecidable _) else S b) = S := by
    funext b
    by_cases hb : b = r
    ·subst hb; rw [if_pos rfl, hSr]; exact @decide_eq_true _ (Classical.propDecidable _) hP
    ·rw [if_neg hb]
   have e' : cutF (fun S => Feas (pbS fits sup need S)) r (fun b => if b = r then @decide (Feas (pbS fits sup need fun b => S b && decide (b ≠ r))) (Classical.propDecidable _) else S b) = cutF (fun S => Feas (pbS fits sup need S)) r S := by rw [e]
   show _ ∧ _
   have ih := cutF_props hv r S (by omega) (fun b hb => hall b (by omega)) hn (fun b h1 h2 h3 => by
    by_cases hb : b = r
    ·subst hb; exact hP
    ·exact hp b (by omega) h2 h3)
   rw [← e'] at ih
   exact ih
  ·have e : (fun b => if b = r then @decide (Feas (pbS fits sup need fun b => S b && decide (b ≠ r))) (Classical.propDecidable _) else S b) = fun b => S b && decide (b ≠ r) := by
    funext b
    by_cases hb : b = r
    ·subst hb; rw [if_pos rfl]; exact (@decide_eq_false _ (Classical.propDecidable _) hP).trans (by simp)
    ·rw [if_neg hb]; simp [hb]
   have e' : cutF (fun S => Feas (pbS fits sup need S)) r (fun b => if b = r then @decide (Feas (pbS fits sup need fun b => S b && decide (b ≠ r))) (Classical.propDecidable _) else S b) = cutF (fun S => Feas (pbS fits sup need S)) r (fun b => S b && decide (b ≠ r)) := by rw [e]
   have ih := cutF_props hv r (fun b => S b && decide (b ≠ r)) (by omega) (fun b hb => by rw [hall b (by omega)]; simp; omega) hP (fun b h1 h2 h3 => by
    simp at h3
    refine feasS_mono hv (fun c _ hc => ?_) (hp b (by omega) h2 h3.1)
    simp at hc ⊢
    exact ⟨hc.1.1, hc.2⟩)
   rw [← e'] at ih
   refine ⟨ih.1, fun b hb h => ?_⟩
   have := ih.2 b hb h
   refine ⟨?_, this.2⟩
   have h2 := this.1
   simp at h2
   exact h2.1
theorem cutFin_props {fits : List (List Bool)} {sup need : List Int} (hv : Vld fits sup need) (hn : ¬ Feas (pbOf fits sup need)) : ¬ Feas (pbS fits sup need (cutFin fits sup need)) ∧ ∀ b, b < need.length → cutFin fits sup need b = true → Feas (pbS fits sup need fun c => cutFin fits sup need c && decide (c ≠ b)) := by
 have h := cutF_props hv need.length (fun b => decide (b < need.length)) (Nat.le_refl _) (fun b hb => by simpa using hb) (fun hf => hn (by
  rw [feas_iff hv.sup0 hv.need0]
  rw [feasS_iff hv] at hf
  intro D
  rw [← lackS_eq (fun b => decide (b < need.length)) D (fun b hb _ => by simpa using hb)]
  exact hf D)) (fun b h1 h2 => by omega)
 exact ⟨h.1, fun b hb hc => (h.2 b hb hc).2⟩
theorem cutFin_lack {fits : List (List Bool)} {sup need : List Int} (hv : Vld fits sup need) (hn : ¬ Feas (pbOf fits sup need)) : 0 < lackOf (pbOf fits sup need) (cutFin fits sup need) := by
 obtain ⟨h1, h2⟩ := cutFin_props hv hn
 rw [feasS_iff hv] at h1
 obtain ⟨D, hD⟩ := Classical.not_forall.1 h1
 have hle := lackS_le hv (cutFin fits sup need) D
 by_cases hall : ∀ b, b < need.length → cutFin fits sup need b = true → D b = true
 ·have e : lackOf (pbOf fits sup need) (fun b => D b && cutFin fits sup need b) = lackOf (pbOf fits sup need) (cutFin fits sup need) := lackOf_congr fun b hb => by
   have := hall b hb
   cases h : cutFin fits sup need b
   ·simp
   ·simp [this h]
  omega
 ·exfalso
  obtain ⟨b, hb⟩ := Classical.not_forall.1 hall
  have hb1 : b < need.length := Classical.byContradiction fun h => hb fun h' => absurd h' h
  have hb2 : cutFin fits sup need b = true := Classical.byContradiction fun h => hb fun _ h' => absurd h' h
  have hb3 : D b = false := by
   cases h : D b
   ·rfl
   ·exact absurd (fun _ _ => h) hb
  have hf := (feasS_iff hv _).1 (h2 b hb1 hb2) fun c => D c && cutFin fits sup need c
  rw [lackS_eq (fun c => cutFin fits sup need c && decide (c ≠ b)) (fun c => D c && cutFin fits sup need c) (fun c _ hc => by
   simp at hc ⊢
   refine ⟨hc.2, fun e => ?_⟩
   subst e
   rw [hb3] at hc
   cases hc.1)] at hf
  omega
end Go.Proofs.YtmikfjcdgkopkaaGreat

