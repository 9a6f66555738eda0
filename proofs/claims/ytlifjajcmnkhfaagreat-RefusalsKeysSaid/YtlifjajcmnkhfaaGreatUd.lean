/-
  Texts of the proof, one after the other.
  Conditions: none.
-/
import Derived.Test.YtlifjajcmnkhfaaGreatUBfRow
import Derived.Test.YtlifjajcmnkhfaaGreatRows
import Derived.ProofKit
import Derived.Test.YtlifjajcmnkhfaaGreatUXs
import Derived.Test.YtlifjajcmnkhfaaGreatUc
/-
 Matching: the contract of the reference's Cut.
 Conditions: none.
-/
namespace Go.Proofs.YtlifjajcmnkhfaaGreat
open Go Bf
attribute [local irreducible] Tr Exec Stab HasTy Go.Addr.add IntKind.wrap
set_option maxHeartbeats 8000000 in
set_option maxRecDepth 20000 in
theorem rCut_fn (M : Mem) (A0 A1 A2 A3 : Option Addr) (c0 c1 c2 c3 : Nat) (fits : List (List Bool)) (sup need l : List Int) (hf : Fits2 M (.slice A0 fits.length c0) fits) (hs : Ints M (.slice A1 sup.length c1) sup) (hn : Ints M (.slice A2 need.length c2) need) (hl : Ints M (.slice A3 l.length c3) l) :
  Fn0 Tryz.prog 27 [.slice A0 fits.length c0, .slice A1 sup.length c1, .slice A2 need.length c2, .slice A3 l.length c3] M (fun r M' => CutR fits sup need l r ∧ M = M') := by
 have la := hl.len_le
 refine Fn.intro Tryz.func27 rfl rfl Tryz.ntmps27 rfl fun E F => ?_
 refine rQ ?_
 ((refine Tr.step rfl ?_)); refine Exec.call0 rfl (rValid_fn M A0 A1 A2 c0 c1 c2 fits sup need hf hs hn) rfl ?_
 rintro _ _ _ ⟨rfl, rfl⟩
 cases hvv : validF fits sup need
 ·refine rQ ?_
  (refine dnQ (hL := by exact ⟨[], rfl⟩) ⟨rfl, ?_⟩)
  exact ⟨.inl ⟨hvv, rfl⟩, rfl⟩
 have hv := vld_iff.1 hvv
 have l1 := hv.ls
 have l2 := hv.ln
 have l3 := hv.lf
 refine rQ ?_
 refine Tr.loop (α := Nat) (fun y => ⟨99, [(11, .int .i64 (y : Int)), (10, .int .i64 (cutNeed need (l.take y))), (0, .slice A0 fits.length c0), (1, .slice A1 sup.length c1), (2, .slice A2 need.length c2), (3, .slice A3 l.length c3)], [], M, [] ++ F⟩)
  (fun y => y ≤ l.length ∧ AscTo need.length l y) (fun y => l.length - y) 0 ⟨Nat.zero_le _, fun _ _ h => by omega⟩ hsQ (fun i hy => ?_)
 obtain ⟨hi, hasc⟩ := hy
 have hcnt := hasc.count hi
 have hcn := cutNeed_rng hv.rn (l.take i)
 have htl : (l.take i).length = i := by simp; omega
 rw [htl] at hcn
 by_cases hil : i < l.length
 ·obtain ⟨x, hx⟩ := get_of_lt hil
  obtain ⟨hA, hat⟩ := hl.at hx
  by_cases hx0 : x < 0
  ·refine rQ ?_
   (((apply Tr.draw); (kernel_rfl)); (refine tkQ 0 (hB := by exact fun _ h => h) (s := by exact Stab.move rfl) ?_); (refine tkQ 1 (s := by exact Stab.move rfl) ?_); (refine tkQ 2 (s := by exact sxQ) ?_); (refine tkQ 3 (s := by exact sMQ) ?_); (refine tkQ 4 (s := by exact siQ) ?_); (refine tkQ 5 (s := by exact Stab.move rfl) ?_); ((refine tuQ 6 ?_)); ((refine tuQ 7 ?_)); ((refine tuQ 10 ?_)); ((refine tuQ 8 ?_)); ((refine tuQ 11 ?_)); ((refine tuQ 9 ?_)); ((refine tuQ 12 ?_)); (refine tkQ 13 (s := by exact Stab.pick_td rfl (by first | (with_reducible assumption) | (with_reducible rfl) | (with_reducible exact (not_not_intro rfl)) | omega) rfl) ?_); (refine tkQ 14 (s := by exact Stab.move rfl) ?_); ((refine tuQ 15 ?_)); ((refine tuQ 16 ?_)); ((refine tuQ 17 ?_)); ((refine TrA.takew 18 (by kernel_rfl) rfl (by kernel_rfl) (by first | exact fun _ _ _ h => h | exact fun _ _ _ h => nomatch h.1) (by exact fun _ h => h) rfl rfl rfl rfl rfl ?_)); ((refine TrA.takew 19 (by kernel_rfl) rfl (by kernel_rfl) (by first | exact fun _ _ _ h => h | exact fun _ _ _ h => nomatch h.1) (by exact fun _ h => h) rfl rfl rfl rfl rfl ?_)); ((refine TrA.takew 23 (by kernel_rfl) rfl (by kernel_rfl) (by first | exact fun _ _ _ h => h | exact fun _ _ _ h => nomatch h.1) (by exact fun _ h => h) rfl rfl rfl rfl rfl ?_)); ((refine TrA.takew 24 (by kernel_rfl) rfl (by kernel_rfl) (by first | exact fun _ _ _ h => h | exact fun _ _ _ h => nomatch h.1) (by exact fun _ h => h) rfl rfl rfl rfl rfl ?_)); ((refine TrA.takew 20 (by kernel_rfl) rfl (by kernel_rfl) (by first | exact fun _ _ _ h => h | exact fun _ _ _ h => nomatch h.1) (by exact fun _ h => h) rfl rfl rfl rfl rfl ?_)); ((refine TrA.takew 25 (by kernel_rfl) rfl (by kernel_rfl) (by first | exact fun _ _ _ h => h | exact fun _ _ _ h => nomatch h.1) (by exact fun _ h => h) rfl rfl rfl rfl rfl ?_)); ((refine TrA.takew 21 (by kernel_rfl) rfl (by kernel_rfl) (by first | exact fun _ _ _ h => h | exact fun _ _ _ h => nomatch h.1) (by exact fun _ h => h) rfl rfl rfl rfl rfl ?_)); ((refine TrA.takew 26 (by kernel_rfl) rfl (by kernel_rfl) (by first | exact fun _ _ _ h => h | exact fun _ _ _ h => nomatch h.1) (by exact fun _ h => h) rfl rfl rfl rfl rfl ?_)); ((refine TrA.takew 22 (by kernel_rfl) rfl (by kernel_rfl) (by first | exact fun _ _ _ h => h | exact fun _ _ _ h => nomatch h.1) (by exact fun _ h => h) rfl rfl rfl rfl rfl ?_)); ((refine TrA.takew 27 (by kernel_rfl) rfl (by kernel_rfl) (by first | exact fun _ _ _ h => h | exact fun _ _ _ h => nomatch h.1) (by exact fun _ h => h) rfl rfl rfl rfl rfl ?_)); ((refine tuQ 28 ?_)); (refine tkQ 29 (s := by exact Stab.pick_t rfl (by first | (with_reducible rfl) | (with_reducible assumption) | (with_reducible exact Bool.not_true) | (with_reducible exact Bool.not_false)) rfl) ?_); (refine TrA.done (by kernel_rfl) ?_))
   refine rQ ?_
   (refine dnQ (hL := by exact ⟨[], rfl⟩) ⟨rfl, ?_⟩)
   exact ⟨CutR.no hv fun h => by have := h i x hil hx; omega, rfl⟩
  by_cases hxm : need.length ≤ x
  ·refine rQ ?_
   (((apply Tr.draw); (kernel_rfl)); (refine tkQ 0 (hB := by exact fun _ h => h) (s := by exact Stab.move rfl) ?_); (refine tkQ 1 (s := by exact Stab.move rfl) ?_); (refine tkQ 2 (s := by exact sxQ) ?_); (refine tkQ 3 (s := by exact sMQ) ?_); (refine tkQ 4 (s := by exact siQ) ?_); (refine tkQ 5 (s := by exact Stab.move rfl) ?_); ((refine tgQ 6 (q := (decide_eq_false (by first | (with_reducible assumption) | (with_reducible rfl) | (with_reducible exact (not_not_intro rfl)) | omega))) (s := by exact Stab.move rfl) ?_)); ((refine tgQ 7 (q := (decide_eq_false (by first | (with_reducible assumption) | (with_reducible rfl) | (with_reducible exact (not_not_intro rfl)) | omega))) (s := by exact Stab.move rfl) ?_)); ((refine tgQ 10 (q := (decide_eq_false (by first | (with_reducible assumption) | (with_reducible rfl) | (with_reducible exact (not_not_intro rfl)) | omega))) (s := by exact Stab.move rfl) ?_)); ((refine tgQ 8 (q := (decide_eq_false (by first | (with_reducible assumption) | (with_reducible rfl) | (with_reducible exact (not_not_intro rfl)) | omega))) (s := by exact sxQ) ?_)); ((refine tgQ 11 (q := (decide_eq_false (by first | (with_reducible assumption) | (with_reducible rfl) | (with_reducible exact (not_not_intro rfl)) | omega))) (s := by first | exact snQ | exact Stab.lensL rfl (tysOk.get rfl) rfl | exact Stab.lens rfl (tysOk.get rfl) rfl) ?_)); ((refine tgQ 9 (q := (decide_eq_false (by first | (with_reducible assumption) | (with_reducible rfl) | (with_reducible exact (not_not_intro rfl)) | omega))) (s := by exact sMQ) ?_)); ((refine tgQ 12 (q := (decide_eq_false (by first | (with_reducible assumption) | (with_reducible rfl) | (with_reducible exact (not_not_intro rfl)) | omega))) (s := by exact siQ) ?_)); (refine tkQ 13 (s := by exact Stab.pick_fd rfl (by first | (with_reducible assumption) | (with_reducible rfl) | (with_reducible exact (not_not_intro rfl)) | omega) rfl) ?_); (refine tkQ 14 (s := by exact Stab.move rfl) ?_); ((refine tuQ 15 ?_)); ((refine tuQ 16 ?_)); ((refine tuQ 17 ?_)); ((refine TrA.takew 18 (by kernel_rfl) rfl (by kernel_rfl) (by first | exact fun _ _ _ h => h | exact fun _ _ _ h => nomatch h.1) (by exact fun _ h => h) rfl rfl rfl rfl rfl ?_)); ((refine TrA.takew 19 (by kernel_rfl) rfl (by kernel_rfl) (by first | exact fun _ _ _ h => h | exact fun _ _ _ h => nomatch h.1) (by exact fun _ h => h) rfl rfl rfl rfl rfl ?_)); ((refine TrA.takew 23 (by kernel_rfl) rfl (by kernel_rfl) (by first | exact fun _ _ _ h => h | exact fun _ _ _ h => nomatch h.1) (by exact fun _ h => h) rfl rfl rfl rfl rfl ?_)); ((refine TrA.takew 24 (by kernel_rfl) rfl (by kernel_rfl) (by first | exact fun _ _ _ h => h | exact fun _ _ _ h => nomatch h.1) (by exact fun _ h => h) rfl rfl rfl rfl rfl ?_)); ((refine TrA.takew 20 (by kernel_rfl) rfl (by kernel_rfl) (by first | exact fun _ _ _ h => h | exact fun _ _ _ h => nomatch h.1) (by exact fun _ h => h) rfl rfl rfl rfl rfl ?_)); ((refine TrA.takew 25 (by kernel_rfl) rfl (by kernel_rfl) (by first | exact fun _ _ _ h => h | exact fun _ _ _ h => nomatch h.1) (by exact fun _ h => h) rfl rfl rfl rfl rfl ?_)); ((refine TrA.takew 21 (by kernel_rfl) rfl (by kernel_rfl) (by first | exact fun _ _ _ h => h | exact fun _ _ _ h => nomatch h.1) (by exact fun _ h => h) rfl rfl rfl rfl rfl ?_)); ((refine TrA.takew 26 (by kernel_rfl) rfl (by kernel_rfl) (by first | exact fun _ _ _ h => h | exact fun _ _ _ h => nomatch h.1) (by exact fun _ h => h) rfl rfl rfl rfl rfl ?_)); ((refine TrA.takew 22 (by kernel_rfl) rfl (by kernel_rfl) (by first | exact fun _ _ _ h => h | exact fun _ _ _ h => nomatch h.1) (by exact fun _ h => h) rfl rfl rfl rfl rfl ?_)); ((refine TrA.takew 27 (by kernel_rfl) rfl (by kernel_rfl) (by first | exact fun _ _ _ h => h | exact fun _ _ _ h => nomatch h.1) (by exact fun _ h => h) rfl rfl rfl rfl rfl ?_)); ((refine tuQ 28 ?_)); (refine tkQ 29 (s := by exact Stab.pick_td rfl (by first | (with_reducible assumption) | (with_reducible rfl) | (with_reducible exact (not_not_intro rfl)) | omega) rfl) ?_); (refine TrA.done (by kernel_rfl) ?_))
   refine rQ ?_
   (refine dnQ (hL := by exact ⟨[], rfl⟩) ⟨rfl, ?_⟩)
   exact ⟨CutR.no hv fun h => by have := h i x hil hx; omega, rfl⟩
  obtain ⟨n, rfl⟩ : ∃ n : Nat, x = (n : Int) := ⟨x.toNat, by omega⟩
  obtain ⟨v, hv1⟩ := get_of_lt (xs := need) (i := n) (by omega)
  obtain ⟨hA2, nat2⟩ := hn.at hv1
  have hvr := hv.rn v (List.mem_of_getElem? hv1)
  have hsu := cutNeed_succ (need := need) hx
  rw [Int.toNat_natCast, getD_of hv1] at hsu
  rcases i with _ | i
  ·refine rQ ?_
   (((apply Tr.draw); (kernel_rfl)); (refine tkQ 0 (hB := by exact fun _ h => h) (s := by exact Stab.move rfl) ?_); (refine tkQ 1 (s := by exact Stab.move rfl) ?_); (refine tkQ 2 (s := by exact sxQ) ?_); (refine tkQ 3 (s := by exact sMQ) ?_); (refine tkQ 4 (s := by exact siQ) ?_); (refine tkQ 5 (s := by exact Stab.move rfl) ?_); ((refine tgQ 6 (q := (decide_eq_false (by first | (with_reducible assumption) | (with_reducible rfl) | (with_reducible exact (not_not_intro rfl)) | omega))) (s := by exact Stab.move rfl) ?_)); ((refine tgQ 7 (q := (decide_eq_false (by first | (with_reducible assumption) | (with_reducible rfl) | (with_reducible exact (not_not_intro rfl)) | omega))) (s := by exact Stab.move rfl) ?_)); ((refine tgQ 10 (q := (decide_eq_false (by first | (with_reducible assumption) | (with_reducible rfl) | (with_reducible exact (not_not_intro rfl)) | omega))) (s := by exact Stab.move rfl) ?_)); ((refine tgQ 8 (q := (decide_eq_false (by first | (with_reducible assumption) | (with_reducible rfl) | (with_reducible exact (not_not_intro rfl)) | omega))) (s := by exact sxQ) ?_)); ((refine tgQ 11 (q := (decide_eq_false (by first | (with_reducible assumption) | (with_reducible rfl) | (with_reducible exact (not_not_intro rfl)) | omega))) (s := by first | exact snQ | exact Stab.lensL rfl (tysOk.get rfl) rfl | exact Stab.lens rfl (tysOk.get rfl) rfl) ?_)); ((refine tgQ 9 (q := (decide_eq_false (by first | (with_reducible assumption) | (with_reducible rfl) | (with_reducible exact (not_not_intro rfl)) | omega))) (s := by exact sMQ) ?_)); ((refine tgQ 12 (q := (decide_eq_false (by first | (with_reducible assumption) | (with_reducible rfl) | (with_reducible exact (not_not_intro rfl)) | omega))) (s := by exact siQ) ?_)); (refine tkQ 13 (s := by exact Stab.pick_fd rfl (by first | (with_reducible assumption) | (with_reducible rfl) | (with_reducible exact (not_not_intro rfl)) | omega) rfl) ?_); (refine tkQ 14 (s := by exact Stab.move rfl) ?_); ((refine tgQ 15 (q := (decide_eq_false (by first | (with_reducible assumption) | (with_reducible rfl) | (with_reducible exact (not_not_intro rfl)) | omega))) (s := by exact Stab.move rfl) ?_)); ((refine tgQ 16 (q := (decide_eq_false (by first | (with_reducible assumption) | (with_reducible rfl) | (with_reducible exact (not_not_intro rfl)) | omega))) (s := by exact siQ) ?_)); ((refine tgQ 17 (q := (decide_eq_false (by first | (with_reducible assumption) | (with_reducible rfl) | (with_reducible exact (not_not_intro rfl)) | omega))) (s := by exact Stab.move rfl) ?_)); ((refine tuQ 18 ?_)); ((refine tuQ 19 ?_)); ((refine tuQ 23 ?_)); ((refine tuQ 24 ?_)); ((refine tuQ 20 ?_)); ((refine tuQ 25 ?_)); ((refine tuQ 21 ?_)); ((refine tuQ 26 ?_)); ((refine tuQ 22 ?_)); ((refine tuQ 27 ?_)); ((refine tgQ 28 (q := (decide_eq_false (by first | (with_reducible assumption) | (with_reducible rfl) | (with_reducible exact (not_not_intro rfl)) | omega))) (s := by exact Stab.pick_fd rfl (by first | (with_reducible assumption) | (with_reducible rfl) | (with_reducible exact (not_not_intro rfl)) | omega) rfl) ?_)); (refine tkQ 29 (s := by exact Stab.pick_fd rfl (by first | (with_reducible assumption) | (with_reducible rfl) | (with_reducible exact (not_not_intro rfl)) | omega) rfl) ?_); (refine TrA.done (by kernel_rfl) ?_))
   refine rQ ?_
   rw [← hsu]
   refine Tr.again (0 + 1) ⟨by omega, hasc.step hx (by omega) (fun y h1 h2 => by omega)⟩ (by omega) hsQ
  obtain ⟨p, hp⟩ := get_of_lt (xs := l) (i := i) (by omega)
  obtain ⟨hAp, pat⟩ := hl.at hp
  have ei : ((i + 1 : Nat) : Int) - 1 = (i : Int) := by omega
  have hi0 : (0 : Int) < ((i + 1 : Nat) : Int) := by omega
  refine rQ ?_
  (((apply Tr.draw); (kernel_rfl)); (refine tkQ 0 (hB := by exact fun _ h => h) (s := by exact Stab.move rfl) ?_); (refine tkQ 1 (s := by exact Stab.move rfl) ?_); (refine tkQ 2 (s := by exact sxQ) ?_); (refine tkQ 3 (s := by exact sMQ) ?_); (refine tkQ 4 (s := by exact siQ) ?_); (refine tkQ 5 (s := by exact Stab.move rfl) ?_); ((refine tgQ 6 (q := (decide_eq_false (by first | (with_reducible assumption) | (with_reducible rfl) | (with_reducible exact (not_not_intro rfl)) | omega))) (s := by exact Stab.move rfl) ?_)); ((refine tgQ 7 (q := (decide_eq_false (by first | (with_reducible assumption) | (with_reducible rfl) | (with_reducible exact (not_not_intro rfl)) | omega))) (s := by exact Stab.move rfl) ?_)); ((refine tgQ 10 (q := (decide_eq_false (by first | (with_reducible assumption) | (with_reducible rfl) | (with_reducible exact (not_not_intro rfl)) | omega))) (s := by exact Stab.move rfl) ?_)); ((refine tgQ 8 (q := (decide_eq_false (by first | (with_reducible assumption) | (with_reducible rfl) | (with_reducible exact (not_not_intro rfl)) | omega))) (s := by exact sxQ) ?_)); ((refine tgQ 11 (q := (decide_eq_false (by first | (with_reducible assumption) | (with_reducible rfl) | (with_reducible exact (not_not_intro rfl)) | omega))) (s := by first | exact snQ | exact Stab.lensL rfl (tysOk.get rfl) rfl | exact Stab.lens rfl (tysOk.get rfl) rfl) ?_)); ((refine tgQ 9 (q := (decide_eq_false (by first | (with_reducible assumption) | (with_reducible rfl) | (with_reducible exact (not_not_intro rfl)) | omega))) (s := by exact sMQ) ?_)); ((refine tgQ 12 (q := (decide_eq_false (by first | (with_reducible assumption) | (with_reducible rfl) | (with_reducible exact (not_not_intro rfl)) | omega))) (s := by exact siQ) ?_)); (refine tkQ 13 (s := by exact Stab.pick_fd rfl (by first | (with_reducible assumption) | (with_reducible rfl) | (with_reducible exact (not_not_intro rfl)) | omega) rfl) ?_); (refine tkQ 14 (s := by exact Stab.move rfl) ?_); ((refine tgQ 15 (q := (decide_eq_false (by first | (with_reducible assumption) | (with_reducible rfl) | (with_reducible exact (not_not_intro rfl)) | omega))) (s := by exact Stab.move rfl) ?_)); ((refine tgQ 16 (q := (decide_eq_false (by first | (with_reducible assumption) | (with_reducible rfl) | (with_reducible exact (not_not_intro rfl)) | omega))) (s := by exact siQ) ?_)); ((refine tgQ 17 (q := (decide_eq_false (by first | (with_reducible assumption) | (with_reducible rfl) | (with_reducible exact (not_not_intro rfl)) | omega))) (s := by exact Stab.move rfl) ?_)); ((refine tgQ 18 (q := (decide_eq_true (by first | (with_reducible assumption) | (with_reducible rfl) | (with_reducible exact (not_not_intro rfl)) | omega))) (s := by exact Stab.move rfl) ?_)); ((refine tgQ 19 (q := (decide_eq_true (by first | (with_reducible assumption) | (with_reducible rfl) | (with_reducible exact (not_not_intro rfl)) | omega))) (s := by exact Stab.move rfl) ?_)); ((refine tgQ 23 (q := (decide_eq_true (by first | (with_reducible assumption) | (with_reducible rfl) | (with_reducible exact (not_not_intro rfl)) | omega))) (s := by exact Stab.move rfl) ?_)); ((refine tgQ 24 (q := (decide_eq_true (by first | (with_reducible assumption) | (with_reducible rfl) | (with_reducible exact (not_not_intro rfl)) | omega))) (s := by exact Stab.move rfl) ?_)); ((refine tgQ 20 (q := (decide_eq_true (by first | (with_reducible assumption) | (with_reducible rfl) | (with_reducible exact (not_not_intro rfl)) | omega))) (s := by exact Stab.subi rfl rfl (by omega)) ?_)))
  rw [ei]
  by_cases hpx : (n : Int) ≤ p
  ·(((refine tgQ 25 (q := (decide_eq_true (by first | (with_reducible assumption) | (with_reducible rfl) | (with_reducible exact (not_not_intro rfl)) | omega))) (s := by exact sxQ) ?_)); ((refine tgQ 21 (q := (decide_eq_true (by first | (with_reducible assumption) | (with_reducible rfl) | (with_reducible exact (not_not_intro rfl)) | omega))) (s := by exact sxQ) ?_)); ((refine tgQ 26 (q := (decide_eq_true (by first | (with_reducible assumption) | (with_reducible rfl) | (with_reducible exact (not_not_intro rfl)) | omega))) (s := by exact sMQ) ?_)); ((refine tgQ 22 (q := (decide_eq_true (by first | (with_reducible assumption) | (with_reducible rfl) | (with_reducible exact (not_not_intro rfl)) | omega))) (s := by exact sMQ) ?_)); ((refine tgQ 27 (q := (decide_eq_true (by first | (with_reducible assumption) | (with_reducible rfl) | (with_reducible exact (not_not_intro rfl)) | omega))) (s := by exact siQ) ?_)); ((refine tgQ 28 (q := (decide_eq_false (by first | (with_reducible assumption) | (with_reducible rfl) | (with_reducible exact (not_not_intro rfl)) | omega))) (s := by exact Stab.pick_td rfl (by first | (with_reducible assumption) | (with_reducible rfl) | (with_reducible exact (not_not_intro rfl)) | omega) rfl) ?_)); (refine tkQ 29 (s := by exact Stab.pick_fd rfl (by first | (with_reducible assumption) | (with_reducible rfl) | (with_reducible exact (not_not_intro rfl)) | omega) rfl) ?_); (refine TrA.done (by kernel_rfl) ?_))
   refine rQ ?_
   (refine dnQ (hL := by exact ⟨[], rfl⟩) ⟨rfl, ?_⟩)
   exact ⟨CutR.no hv fun h => by have := (h (i + 1) n hil hx).2.2 p (by omega) (by simpa using hp); omega, rfl⟩
  ·(((refine tgQ 25 (q := (decide_eq_true (by first | (with_reducible assumption) | (with_reducible rfl) | (with_reducible exact (not_not_intro rfl)) | omega))) (s := by exact sxQ) ?_)); ((refine tgQ 21 (q := (decide_eq_true (by first | (with_reducible assumption) | (with_reducible rfl) | (with_reducible exact (not_not_intro rfl)) | omega))) (s := by exact sxQ) ?_)); ((refine tgQ 26 (q := (decide_eq_true (by first | (with_reducible assumption) | (with_reducible rfl) | (with_reducible exact (not_not_intro rfl)) | omega))) (s := by exact sMQ) ?_)); ((refine tgQ 22 (q := (decide_eq_true (by first | (with_reducible assumption) | (with_reducible rfl) | (with_reducible exact (not_not_intro rfl)) | omega))) (s := by exact sMQ) ?_)); ((refine tgQ 27 (q := (decide_eq_true (by first | (with_reducible assumption) | (with_reducible rfl) | (with_reducible exact (not_not_intro rfl)) | omega))) (s := by exact siQ) ?_)); ((refine tgQ 28 (q := (decide_eq_false (by first | (with_reducible assumption) | (with_reducible rfl) | (with_reducible exact (not_not_intro rfl)) | omega))) (s := by exact Stab.pick_td rfl (by first | (with_reducible assumption) | (with_reducible rfl) | (with_reducible exact (not_not_intro rfl)) | omega) rfl) ?_)); (refine tkQ 29 (s := by exact Stab.pick_fd rfl (by first | (with_reducible assumption) | (with_reducible rfl) | (with_reducible exact (not_not_intro rfl)) | omega) rfl) ?_); (refine TrA.done (by kernel_rfl) ?_))
   refine rQ ?_
   rw [← hsu]
   refine Tr.again (i + 1 + 1) ⟨by omega, hasc.step hx (by omega) (fun y h1 h2 => ?_)⟩ (by omega) hsQ
   simp only [Nat.add_sub_cancel] at h2
   rw [hp] at h2; cases h2; omega
 have ei : i = l.length := by omega
 subst ei
 rw [List.take_length] at hcn ⊢
 have hmem : ∀ x ∈ l, 0 ≤ x ∧ x < need.length := fun x hx => by
  obtain ⟨q, hq⟩ := List.mem_iff_getElem?.1 hx
  have := hasc q x (List.getElem?_eq_some_iff.1 hq).1 hq
  exact ⟨this.1, this.2.1⟩
 refine rQ ?_
 refine Tr.loop (α := Nat) (fun y => ⟨99, [(12, .int .i64 (y : Int)), (10, .int .i64 (cutNeed need l - cutHave fits sup l y)), (0, .slice A0 fits.length c0), (1, .slice A1 sup.length c1), (3, .slice A3 l.length c3)], [], M, [] ++ F⟩)
  (fun y => y ≤ sup.length) (fun y => sup.length - y) 0 (Nat.zero_le _) (holds_sub (by refine SubFr.cons rfl ?_; refine SubFr.cons (by simp [cutHave, sumN]; rfl) ?_; exact (by repeat (first | exact SubFr.nil | refine SubFr.cons rfl ?_))) (by repeat (first | exact DropL.refl | apply DropL.skip))) (fun y hy => ?_)
 have hch := cutHave_rng (fits := fits) hv.rs l y
 by_cases hyn : y < sup.length
 rotate_left
 ·have ey : y = sup.length := by omega
  subst ey
  refine rQ ?_
  (refine dnQ (hL := by exact ⟨[], rfl⟩) ⟨rfl, ?_⟩)
  refine ⟨.inr ⟨hv, _, rfl, ?_⟩, rfl⟩
  rw [decide_eq_true_eq]
  exact ⟨fun h => ⟨hasc, by omega⟩, fun h => by have := h.2; omega⟩
 obtain ⟨frow, hfr⟩ := get_of_lt (xs := fits) (i := y) (by omega)
 have hfrl := hv.rows frow (List.mem_of_getElem? hfr)
 obtain ⟨hA0, fch, fat, fB, fk, rfl, hfB⟩ := hf.elem hfr
 obtain ⟨s, hs1⟩ := get_of_lt hyn
 obtain ⟨hA1, sat⟩ := hs.at hs1
 have hsr := hv.rs s (List.mem_of_getElem? hs1)
 have hsu := cutHave_succ fits sup l y
 rw [getD_of (d := []) hfr, getD_of (d := 0) hs1] at hsu
 generalize cutHave fits sup l y = hav at hch hsu ⊢
 refine rQ ?_
 refine Tr.loop (α := Nat) (fun q => ⟨99, [(14, .int .i64 (q : Int)), (13, .bool (cutTouch frow (l.take q))), (12, .int .i64 (y : Int)), (10, .int .i64 (cutNeed need l - hav)), (0, .slice A0 fits.length c0), (1, .slice A1 sup.length c1), (3, .slice A3 l.length c3)], [], M, [] ++ F⟩)
  (fun q => q ≤ l.length) (fun q => l.length - q) 0 (Nat.zero_le _) hsQ (fun q hq => ?_)
 by_cases hql : q < l.length
 ·obtain ⟨x, hx⟩ := get_of_lt hql
  obtain ⟨hA, hat⟩ := hl.at hx
  have hxm := hmem x (List.mem_of_getElem? hx)
  obtain ⟨n, rfl⟩ : ∃ n : Nat, x = (n : Int) := ⟨x.toNat, by omega⟩
  obtain ⟨fx, hfx⟩ := get_of_lt (xs := frow) (i := n) (by omega)
  obtain ⟨hfA, fxat⟩ := hfB.at hfx
  have htk : cutTouch frow (l.take (q + 1)) = (cutTouch frow (l.take q) || fx) := by
   unfold cutTouch
   rw [List.take_add_one, hx, List.any_append]
   simp [hfx]
  cases ht : cutTouch frow (l.take q)
  ·rw [ht, Bool.false_or] at htk
   refine rQ ?_
   (((apply Tr.draw); (kernel_rfl)); (refine tkQ 0 (hB := by exact fun _ h => h) (s := by exact Stab.move rfl) ?_); (refine tkQ 1 (s := by exact Stab.move rfl) ?_); ((refine tgQ 2 (q := (by first | (with_reducible rfl) | (with_reducible assumption) | (with_reducible exact Bool.not_true) | (with_reducible exact Bool.not_false))) (s := by exact Stab.move rfl) ?_)); ((refine tgQ 3 (q := (by first | (with_reducible rfl) | (with_reducible assumption) | (with_reducible exact Bool.not_true) | (with_reducible exact Bool.not_false))) (s := by exact Stab.move rfl) ?_)); ((refine tgQ 6 (q := (by first | (with_reducible rfl) | (with_reducible assumption) | (with_reducible exact Bool.not_true) | (with_reducible exact Bool.not_false))) (s := by exact Stab.move rfl) ?_)); ((refine tgQ 7 (q := (by first | (with_reducible rfl) | (with_reducible assumption) | (with_reducible exact Bool.not_true) | (with_reducible exact Bool.not_false))) (s := by exact Stab.move rfl) ?_)); ((refine tgQ 4 (q := (by first | (with_reducible rfl) | (with_reducible assumption) | (with_reducible exact Bool.not_true) | (with_reducible exact Bool.not_false))) (s := by exact sxQ) ?_)); ((refine tgQ 8 (q := (by first | (with_reducible rfl) | (with_reducible assumption) | (with_reducible exact Bool.not_true) | (with_reducible exact Bool.not_false))) (s := by exact sxQ) ?_)); ((refine tgQ 5 (q := (by first | (with_reducible rfl) | (with_reducible assumption) | (with_reducible exact Bool.not_true) | (with_reducible exact Bool.not_false))) (s := by exact sMQ) ?_)); ((refine tgQ 9 (q := (by first | (with_reducible rfl) | (with_reducible assumption) | (with_reducible exact Bool.not_true) | (with_reducible exact Bool.not_false))) (s := by exact sMQ) ?_)); ((refine tgQ 10 (q := (by first | (with_reducible rfl) | (with_reducible assumption) | (with_reducible exact Bool.not_true) | (with_reducible exact Bool.not_false))) (s := by exact sxQ) ?_)); ((refine tgQ 11 (q := (by first | (with_reducible rfl) | (with_reducible assumption) | (with_reducible exact Bool.not_true) | (with_reducible exact Bool.not_false))) (s := by exact sMQ) ?_)); (refine tkQ 12 (s := by exact Stab.pick_f rfl (by first | (with_reducible rfl) | (with_reducible assumption) | (with_reducible exact Bool.not_true) | (with_reducible exact Bool.not_false)) rfl) ?_); (refine tkQ 13 (s := by exact Stab.assign rfl) ?_); (refine TrA.done (by kernel_rfl) ?_))
   refine rQ ?_
   rw [← htk]
   refine Tr.again (q + 1) hql (by omega) hsQ
  ·rw [ht, Bool.true_or] at htk
   refine rQ ?_
   (((apply Tr.draw); (kernel_rfl)); (refine tkQ 0 (hB := by exact fun _ h => h) (s := by exact Stab.move rfl) ?_); (refine tkQ 1 (s := by exact Stab.move rfl) ?_); ((refine tuQ 2 ?_)); ((refine tuQ 3 ?_)); ((refine tuQ 6 ?_)); ((refine tuQ 7 ?_)); ((refine tuQ 4 ?_)); ((refine tuQ 8 ?_)); ((refine tuQ 5 ?_)); ((refine tuQ 9 ?_)); ((refine tuQ 10 ?_)); ((refine tuQ 11 ?_)); (refine tkQ 12 (s := by exact Stab.pick_t rfl (by first | (with_reducible rfl) | (with_reducible assumption) | (with_reducible exact Bool.not_true) | (with_reducible exact Bool.not_false)) rfl) ?_); (refine tkQ 13 (s := by exact Stab.assign rfl) ?_); (refine TrA.done (by kernel_rfl) ?_))
   refine rQ ?_
   rw [← htk]
   refine Tr.again (q + 1) hql (by omega) hsQ
 have eq_ : q = l.length := by omega
 subst eq_
 rw [List.take_length]
 cases ht : cutTouch frow l
 ·rw [ht] at hsu
  simp only [Bool.false_eq_true, if_false, Int.add_zero] at hsu
  refine rQ ?_
  rw [← hsu]
  refine Tr.again (y + 1) hyn (by omega) hsQ
 ·rw [ht] at hsu
  simp only [if_true] at hsu
  refine rQ ?_
  rw [show cutNeed need l - hav - s = cutNeed need l - cutHave fits sup l (y + 1) by omega]
  refine Tr.again (y + 1) hyn (by omega) hsQ
end Go.Proofs.YtlifjajcmnkhfaaGreat

/-
 The reference's refusals: Least and Check.
 Conditions: none.
-/
namespace Go.Proofs.YtlifjajcmnkhfaaGreat
open Go Bf
attribute [local irreducible] Tr Exec Stab HasTy Go.Addr.add IntKind.wrap
set_option maxHeartbeats 16000000 in
set_option maxRecDepth 20000 in
theorem rleast_fn (M : Mem) (ws : List Value) (w : Wd) (hw : RWd M ws w) (v : Value) (k : Bp) (hk : RBp M v k) (hfew : k.sups.length ≤ 5 ∧ k.reqs.length ≤ 5) (r : Rq) :
  Fn0 Tryz.prog 8 [.agg ws.toArray, v, .agg #[.int .i64 r.no, .int .i64 r.item, .int .i64 r.cust, .int .i64 r.due, .int .i64 r.shelf, .int .i64 r.amount]] M (fun v M' => LeastV w k r v M') := by
 have h11 := hw.len
 have hk0 := hk
 obtain ⟨As, cs, Ar, cr, Af, cf, Ad, cd, rfl, h1, h2, h3, h4⟩ := hk
 refine Fn.intro Tryz.func8 rfl rfl Tryz.ntmps8 rfl fun E F => ?_
 (repeat (first | ((with_reducible refine Tr.step rfl ?_); (first | (refine xaQ ?_) | ((with_reducible refine Knd.load ?_); (first | (refine xwQ ?_) | (refine Exec.stab rfl (Stab.loadW rfl (tysOk.get rfl) rfl (by repeat (first | exact Has.here | apply Has.there)) (by assumption)) rfl ?_))) | ((with_reducible refine Knd.box ?_); (refine Exec.box rfl rfl (fun b => ?_))))) | (with_reducible first | apply Tr.next | apply Tr.seq | apply Tr.region | apply Tr.nil)))
 rename_i b3 b4
 generalize b = b5
 ((refine Tr.step rfl ?_)); refine Exec.call0 rfl (raskA_fn M ws w hw _ k hk0 hfew r) rfl ?_
 rintro _ M1 hm1 (⟨hask, hv, x, a, rfl, D, cD, hD, hR⟩ | ⟨hne, rfl⟩)
 rotate_left
 ·(repeat (first | ((with_reducible refine Tr.step rfl ?_); (first | (refine xmQ ?_) | (refine xaQ ?_) | (refine xiQ ?_) | (refine xWQ ?_) | ((with_reducible refine Knd.alloc ?_); (refine Exec.alloc (tysOk.get rfl) rfl rfl (fun b => ?_))) | ((with_reducible refine Knd.extract ?_); (refine Exec.stab rfl (Stab.extract rfl rfl) rfl ?_)))) | (with_reducible first | apply Tr.next | apply Tr.seq | apply Tr.region | apply Tr.nil | apply Tr.ret | apply Tr.then_ret) | (refine Tr.cond_t rfl (by (with_reducible assumption)) ?_)))
  (refine dnQ (hL := by exact ⟨[_, _, _, _, _], rfl⟩) ⟨rfl, ?_⟩)
  exact .inl ⟨hne, rfl⟩
 rcases hR with ⟨hF, hx, al, A9, c9, hlex, rfl, hI⟩ | ⟨hF, hx, B, kk, rfl, hI⟩
 ·obtain ⟨As', cs', Ar', cr', Af', cf', Ad', cd', rfl⟩ := hx.lit
  (repeat (first | ((with_reducible refine Tr.step rfl ?_); (first | (refine xmQ ?_) | (refine xaQ ?_) | (refine xlQ ?_) | (refine xfQ ?_) | (refine xiQ ?_) | (refine xWQ ?_) | ((with_reducible refine Knd.alloc ?_); (refine Exec.alloc (tysOk.get rfl) rfl rfl (fun b => ?_))) | ((with_reducible refine Knd.extract ?_); (refine Exec.stab rfl (Stab.extract rfl rfl) rfl ?_)))) | (with_reducible first | apply Tr.next | apply Tr.seq | apply Tr.region | apply Tr.nil | apply Tr.skip | apply Tr.ret | apply Tr.then_ret) | (refine Tr.cond_bt rfl (by (with_reducible rfl)) ?_) | (refine Tr.cond_f rfl (by (with_reducible exact (not_not_intro rfl))) ?_)))
  (refine dnQ (hL := by exact ⟨[_, _, _, _, _], rfl⟩) ⟨rfl, ?_⟩)
  exact .inr (.inl ⟨hask, hv, ⟨al, hlex.1⟩, rfl⟩)
 obtain ⟨As', cs', Ar', cr', Af', cf', Ad', cd', rfl⟩ := hx.lit
 have hcl := conf_len (r := r) hv
 (repeat (first | ((with_reducible refine Tr.step rfl ?_); (first | (refine xmQ ?_) | (refine xaQ ?_) | (refine xlQ ?_) | (refine xfQ ?_) | (refine xiQ ?_) | (refine xWQ ?_) | ((with_reducible refine Knd.alloc ?_); (refine Exec.alloc (tysOk.get rfl) rfl rfl (fun b => ?_))) | ((with_reducible refine Knd.extract ?_); (refine Exec.stab rfl (Stab.extract rfl rfl) rfl ?_)))) | (with_reducible first | apply Tr.next | apply Tr.seq | apply Tr.region | apply Tr.nil | apply Tr.skip | apply Tr.block) | (refine Tr.cond_bf rfl (by (with_reducible rfl)) ?_) | (refine Tr.cond_f rfl (by first | (with_reducible assumption) | (with_reducible exact (not_not_intro rfl))) ?_)))
 rename_i b8
 generalize b = b9
 refine Tr.own_nil 3 1 ?_
 refine gvQ (r := box b8 _ _) ?_
 refine gvQ (r := box b4 _ _) ?_
 refine gvQ (r := box b3 _ _) ?_
 generalize hcf : confF w k r = cf0 at hI hcl ⊢
 refine Tr.loop (α := Nat × Option Addr × Nat) (fun y => ⟨50, [(12, .int .i64 (y.1 : Int)), (9, .pointer (some ⟨b9, 0, none⟩)), (11, .slice y.2.1 ((cf0.take y.1).filter fun n => decide (n ≠ r.no)).length y.2.2), (5, .pointer (some ⟨b5, 0, none⟩))], [], M1, ownS 3 1 y.2.1 ((cf0.take y.1).filter fun n => decide (n ≠ r.no)).length y.2.2 (intV ((cf0.take y.1).filter fun n => decide (n ≠ r.no))) :: box b9 76 [.bool false, .slice none 0 0, .slice B cf0.length kk, .slice D (readsF w k.sups [r]).length cD] :: box b5 46 [.int .i64 r.no, .int .i64 r.item, .int .i64 r.cust, .int .i64 r.due, .int .i64 r.shelf, .int .i64 r.amount] :: ([] ++ F)⟩)
  (fun y => y.1 ≤ cf0.length ∧ y.2.2 ≤ 9223372036854775807) (fun y => cf0.length - y.1) (0, none, 0) ⟨Nat.zero_le _, by simp⟩ hsQ (fun y hy => ?_)
 obtain ⟨i, C, cc⟩ := y
 obtain ⟨hi, hcc⟩ := hy
 simp only at hi hcc
 dsimp only
 have hfl : ((cf0.take i).filter fun n => decide (n ≠ r.no)).length ≤ i := Nat.le_trans (List.length_filter_le _ _) (by simp; omega)
 by_cases hlt : i < cf0.length
 ·obtain ⟨x, hx⟩ := get_of_lt hlt
  obtain ⟨hA, hat⟩ := hI.at hx
  have htk : (cf0.take (i + 1)).filter (fun n => decide (n ≠ r.no)) = (cf0.take i).filter (fun n => decide (n ≠ r.no)) ++ if x ≠ r.no then [x] else [] := by
   rw [List.take_add_one, hx, Option.toList_some, List.filter_append]
   by_cases h : x = r.no <;> simp [h]
  by_cases hxn : x ≠ r.no
  ·rw [if_pos hxn] at htk
   (refine rQ ?_)
   (((apply Tr.draw); (kernel_rfl)); (refine tkQ 0 (hB := by exact fun _ h => h) (s := by exact sfQ) ?_); (refine tkQ 2 (s := by exact Stab.move rfl) ?_); (refine tkQ 5 (s := by exact sfQ) ?_); (refine tkQ 1 (s := by exact slQ) ?_); (refine tkQ 6 (s := by exact slQ) ?_); (refine tkQ 3 (s := by exact sxQ) ?_); (refine tkQ 4 (s := by exact sMQ) ?_); (refine tkQ 7 (s := by exact siQ) ?_); (refine TrA.done (by kernel_rfl) ?_))
   (repeat (first | ((with_reducible refine Tr.step rfl ?_); (first | (refine xmQ ?_) | ((with_reducible refine Knd.load ?_); (first | (refine xlQ ?_) | (refine xMQ ?_))) | (refine xfQ ?_) | (refine xxQ ?_) | ((with_reducible refine Knd.buildSlice ?_); (refine Exec.buildSlice (tysOk.get rfl) rfl (tysOk.get rfl) rfl rfl rfl rfl rfl (by repeat (first | exact BuildP.nil | ((apply BuildP.one); (rfl); (rfl); (first | rfl | assumption); (repeat (first | exact SetL.z | apply SetL.s))))) rfl (fun b => ?_))))) | (with_reducible first | apply Tr.next | apply Tr.region) | (refine Tr.cond_t rfl (by (with_reducible assumption)) ?_)))
   ((refine Tr.step rfl ?_))
   refine Exec.append (news := [.int .i64 x]) rfl rfl (tysOk.get rfl) rfl (tysOk.get rfl) rfl rfl rfl rfl (by repeat (first | exact Del.here | apply Del.there)) (Src.box (by repeat (first | exact Has.here | apply Has.there))) rfl (by intro u hu; simp at hu; subst hu; rfl) (by omega) (by omega) rfl (fun C2 cc2 hcc2 => ?_)
   refine gvQ (r := box _ 3 _) ?_
   rw [show intV ((cf0.take i).filter fun n => decide (n ≠ r.no)) ++ [Value.int .i64 x] = intV ((cf0.take (i + 1)).filter fun n => decide (n ≠ r.no)) by rw [htk, intV_append]; rfl, show ((cf0.take i).filter fun n => decide (n ≠ r.no)).length + 1 = ((cf0.take (i + 1)).filter fun n => decide (n ≠ r.no)).length by rw [htk, List.length_append]; rfl]
   (refine rQ ?_)
   exact Tr.again (i + 1, C2, cc2) ⟨by simp only; omega, hcc2⟩ (by simp only; omega) hsQ
  ·rw [if_neg hxn, List.append_nil] at htk
   rw [← htk]
   (refine rQ ?_)
   (((apply Tr.draw); (kernel_rfl)); (refine tkQ 0 (hB := by exact fun _ h => h) (s := by exact sfQ) ?_); (refine tkQ 2 (s := by exact Stab.move rfl) ?_); (refine tkQ 5 (s := by exact sfQ) ?_); (refine tkQ 1 (s := by exact slQ) ?_); (refine tkQ 6 (s := by exact slQ) ?_); (refine tkQ 3 (s := by exact sxQ) ?_); (refine tkQ 4 (s := by exact sMQ) ?_); (refine tkQ 7 (s := by exact siQ) ?_); (refine TrA.done (by kernel_rfl) ?_))
   (refine rQ ?_)
   exact Tr.again (i + 1, C, cc) ⟨by simp only; omega, hcc⟩ (by simp only; omega) hsQ
 have ei : i = cf0.length := by omega
 subst ei
 rw [List.take_length]
 have hle : cf0.filter (fun n => decide (n ≠ r.no)) = leF w k r := by rw [← hcf]; rfl
 rw [hle]
 refine pbQ (r := ownS 3 1 C _ _ _) (fun M8 hm8 hok8 => ?_)
 have hC : Ints M8 (.slice C (leF w k r).length cc) (leF w k r) := Ints.ofOwn hok8 rfl hcc
 have hm08 := hm1.trans hm8
 (refine rQ ?_)
 (refine dnQ (hL := by exact ⟨[_, _], rfl⟩) ⟨rfl, ?_⟩)
 exact .inr (.inr ⟨hask, hv, hF, C, cc, rfl, hC⟩)
def atI (reqs : List Rq) (n : Int) (j : Nat) : Int := match idxN reqs n with
 | some q => if j ≤ q then (q : Int) else -1
 | none => -1
theorem atI_end (reqs : List Rq) (n : Int) : atI reqs n reqs.length = -1 := by
 unfold atI
 cases h : idxN reqs n with
 | none => rfl
 | some q => exact if_neg (by have := idxN_lt h; omega)
theorem atI_yes {reqs : List Rq} (hn : (reqs.map (·.no)).Nodup) {j : Nat} {y : Rq} (hy : reqs[j]? = some y) : atI reqs y.no j = (j : Int) := by
 unfold atI
 rw [idxN_at hn hy]
 exact if_pos (Nat.le_refl _)
theorem atI_no {reqs : List Rq} {n : Int} {j : Nat} {y : Rq} (hy : reqs[j]? = some y) (h : y.no ≠ n) : atI reqs n j = atI reqs n (j + 1) := by
 unfold atI
 cases hq : idxN reqs n with
 | none => rfl
 | some q =>
  have : q ≠ j := fun e => by
   subst e
   obtain ⟨z, h1, h2⟩ := idxN_get hq
   rw [hy] at h1
   cases h1
   exact h h2
  dsimp only
  by_cases c : j ≤ q
  ·rw [if_pos c, if_pos (by omega)]
  ·rw [if_neg c, if_neg (by omega)]
theorem posF_at {reqs : List Rq} {n : Int} {l : List Int} {f : Nat} : (atI reqs n f = -1 ∧ posF reqs (n :: l) f = none) ∨ ∃ q : Nat, atI reqs n f = (q : Int) ∧ q < reqs.length ∧ posF reqs (n :: l) f = (posF reqs l (q + 1)).map (q :: ·) := by
 rw [posF]
 unfold atI
 cases hq : idxN reqs n with
 | none => exact .inl ⟨rfl, rfl⟩
 | some q =>
  dsimp only
  by_cases c : f ≤ q
  ·exact .inr ⟨q, if_pos c, idxN_lt hq, if_pos c⟩
  ·exact .inl ⟨if_neg c, if_neg c⟩
set_option maxHeartbeats 32000000 in
set_option maxRecDepth 20000 in
theorem rcheck32_fn (M : Mem) (ws : List Value) (w : Wd) (hw : RWd M ws w) (v : Value) (k : Bp) (hk : RBp M v k) (hfew : k.sups.length ≤ 5 ∧ k.reqs.length ≤ 5) (r : Rq) (A : Option Addr) (c : Nat) (l : List Int) (hl : Ints M (.slice A l.length c) l) (hll : l.length ≤ 1000) :
  Fn0 Tryz.prog 10 [.agg ws.toArray, v, .agg #[.int .i64 r.no, .int .i64 r.item, .int .i64 r.cust, .int .i64 r.due, .int .i64 r.shelf, .int .i64 r.amount], .slice A l.length c] M (fun v _ => CheckV w k r l v) := by
 have h11 := hw.len
 have hk0 := hk
 obtain ⟨hf1, hf2⟩ := hfew
 obtain ⟨As, cs, Ar, cr, Af, cf, Ad, cd, rfl, h1, h2, h3, h4⟩ := hk
 refine Fn.intro Tryz.func10 rfl rfl Tryz.ntmps10 rfl fun E F => ?_
 (repeat (first | ((with_reducible refine Tr.step rfl ?_); (first | (refine xaQ ?_) | ((with_reducible refine Knd.load ?_); (first | (refine xwQ ?_) | (refine Exec.stab rfl (Stab.loadW rfl (tysOk.get rfl) rfl (by repeat (first | exact Has.here | apply Has.there)) (by assumption)) rfl ?_))) | ((with_reducible refine Knd.box ?_); (refine Exec.box rfl rfl (fun b => ?_))))) | (with_reducible first | apply Tr.next | apply Tr.seq | apply Tr.region | apply Tr.nil)))
 rename_i b4 b5
 generalize b = b6
 ((refine Tr.step rfl ?_)); refine Exec.call0 rfl (raskA_fn M ws w hw _ k hk0 ⟨hf1, hf2⟩ r) rfl ?_
 rintro _ M1 hm1 (⟨hask, hv, x, a, rfl, hR⟩ | ⟨hne, rfl⟩)
 rotate_left
 ·(repeat (first | ((with_reducible refine Tr.step rfl ?_); (first | (refine xmQ ?_) | (refine xaQ ?_) | (refine xiQ ?_) | (refine xWQ ?_) | ((with_reducible refine Knd.alloc ?_); (refine Exec.alloc (tysOk.get rfl) rfl rfl (fun b => ?_))) | ((with_reducible refine Knd.extract ?_); (refine Exec.stab rfl (Stab.extract rfl rfl) rfl ?_)))) | (with_reducible first | apply Tr.next | apply Tr.seq | apply Tr.region | apply Tr.nil | apply Tr.ret | apply Tr.then_ret) | (refine Tr.cond_t rfl (by (with_reducible assumption)) ?_)))
  (refine dnQ (hL := by exact ⟨[_, _, _, _, _], rfl⟩) ⟨rfl, ?_⟩)
  exact .inl ⟨hne, rfl⟩
 obtain ⟨y1, y2, y3, y4, y5, z1, z2, z3, z4, rfl, rfl, ⟨o1, o2, o3, o4, o5⟩, o6, o7, o8, o9⟩ := hR.lit
 clear hR
 obtain ⟨-, hno, hok⟩ := askE_zero hask
 have hnd := hv.1.1
 have h2' := h2.mono RRqC.mono hm1
 have hl' : Ints M1 (.slice A l.length c) l := hl.mono RI.mono hm1
 have hmk : ∀ (p : Bool), (p = true ↔ chkF w k r l) → CheckV w k r l (.tuple #[.bool p, .int .i64 0]) := fun p hp => .inr ⟨hask, hv, p, rfl, hp⟩
 (repeat (first | ((with_reducible refine Tr.step rfl ?_); (first | (refine xmQ ?_) | (refine xaQ ?_) | (refine xiQ ?_) | (refine xWQ ?_) | ((with_reducible refine Knd.alloc ?_); (refine Exec.alloc (tysOk.get rfl) rfl rfl (fun b => ?_))) | ((with_reducible refine Knd.extract ?_); (refine Exec.stab rfl (Stab.extract rfl rfl) rfl ?_)))) | (with_reducible first | apply Tr.next | apply Tr.seq | apply Tr.region | apply Tr.nil | apply Tr.skip | apply Tr.block) | (refine Tr.cond_f rfl (by first | (with_reducible assumption) | (with_reducible exact (not_not_intro rfl))) ?_)))
 refine gvQ (r := box _ 76 _) ?_
 refine gvQ (r := box _ 44 [y1, y2, y3, y4, y5]) ?_
 refine Tr.own_nil 3 1 ?_
 refine Tr.loop (α := Nat × List Nat × Nat × Option Addr × Nat) (fun y => ⟨101, [(15, .int .i64 (y.1 : Int)), (14, .int .i64 (y.2.2.1 : Int)), (13, .slice y.2.2.2.1 y.2.1.length y.2.2.2.2), (3, .slice A l.length c), (4, .pointer (some ⟨b4, 0, none⟩)), (5, .pointer (some ⟨b5, 0, none⟩)), (6, .pointer (some ⟨b6, 0, none⟩))], [], M1, ownS 3 1 y.2.2.2.1 y.2.1.length y.2.2.2.2 (intV (y.2.1.map Int.ofNat)) :: box b6 46 [.int .i64 r.no, .int .i64 r.item, .int .i64 r.cust, .int .i64 r.due, .int .i64 r.shelf, .int .i64 r.amount] :: box b5 44 [.int .i64 k.known, .slice As k.sups.length cs, .slice Ar k.reqs.length cr, .slice Af k.fits.length cf, .slice Ad k.rds.length cd] :: box b4 38 ws :: ([] ++ F)⟩)
  (fun y => y.1 ≤ l.length ∧ y.2.1.length = y.1 ∧ y.2.2.2.2 ≤ 9223372036854775807 ∧ y.2.2.1 ≤ k.reqs.length ∧ posF k.reqs l 0 = (posF k.reqs (l.drop y.1) y.2.2.1).map (y.2.1 ++ ·)) (fun y => l.length - y.1) (0, [], 0, none, 0) ⟨Nat.zero_le _, rfl, by simp, Nat.zero_le _, by simp⟩ hsQ (fun y hy => ?_)
 obtain ⟨i, ps, f, C, cc⟩ := y
 obtain ⟨hi, hpl, hcc, hfl, hpos⟩ := hy
 dsimp only at hi hpl hcc hfl hpos
 dsimp only
 by_cases hlt : i < l.length
 ·obtain ⟨n, hx⟩ := get_of_lt hlt
  obtain ⟨hA, hat⟩ := hl'.at hx
  have hd : l.drop i = n :: l.drop (i + 1) := by
   obtain ⟨h1, rfl⟩ := List.getElem?_eq_some_iff.1 hx
   exact List.drop_eq_getElem_cons h1
  rw [hd] at hpos
  (refine rQ ?_)
  refine Tr.loop (α := Nat × Int) (fun y => ⟨101, [(17, .int .i64 ((y.1 : Int) - 1)), (16, .int .i64 y.2), (15, .int .i64 (i : Int)), (14, .int .i64 (f : Int)), (13, .slice C ps.length cc), (3, .slice A l.length c), (4, .pointer (some ⟨b4, 0, none⟩)), (5, .pointer (some ⟨b5, 0, none⟩)), (6, .pointer (some ⟨b6, 0, none⟩))], [], M1, ownS 3 1 C ps.length cc (intV (ps.map Int.ofNat)) :: box b6 46 [.int .i64 r.no, .int .i64 r.item, .int .i64 r.cust, .int .i64 r.due, .int .i64 r.shelf, .int .i64 r.amount] :: box b5 44 [.int .i64 k.known, .slice As k.sups.length cs, .slice Ar k.reqs.length cr, .slice Af k.fits.length cf, .slice Ad k.rds.length cd] :: box b4 38 ws :: ([] ++ F)⟩)
   (fun y => (f ≤ y.1 ∧ y.1 ≤ k.reqs.length) ∧ y.2 = atI k.reqs n y.1) (fun y => y.1) (k.reqs.length, -1) ⟨⟨hfl, Nat.le_refl _⟩, (atI_end _ _).symm⟩ hsQ (fun y hy => ?_)
  obtain ⟨j, at_⟩ := y
  obtain ⟨⟨hj1, hj2⟩, hat_⟩ := hy
  dsimp only at hj1 hj2 hat_
  dsimp only
  by_cases hjf : f < j
  ·obtain ⟨m, rfl⟩ : ∃ m, j = m + 1 := ⟨j - 1, by omega⟩
   have em : (((m + 1 : Nat) : Int) - 1) = (m : Int) := by omega
   rw [em]
   obtain ⟨y, hy⟩ := get_of_lt (xs := k.reqs) (i := m) (by omega)
   obtain ⟨hA2, ch2, hat2, rfl⟩ := h2'.elem hy
   simp only [rqC] at hat2
   replace hat2 : At M1 (((Ar.getD default).add (m * 6)).add 0) [.int .i64 y.no, .int .i64 y.item, .int .i64 y.cust, .int .i64 y.due, .int .i64 y.shelf, .int .i64 y.amount] := hat2.drop 0
   by_cases hyn : y.no = n
   ·have hay := atI_yes hnd hy
    rw [hyn] at hay
    (refine rQ ?_)
    (((apply Tr.draw); (kernel_rfl)); (refine tkQ 0 (hB := by exact fun _ h => h) (s := by exact sfQ) ?_); (refine tkQ 2 (s := by exact Stab.move rfl) ?_); (refine tkQ 6 (s := by exact Stab.move rfl) ?_); (refine tkQ 7 (s := by exact Stab.move rfl) ?_); (refine tkQ 1 (s := by exact slQ) ?_); (refine tkQ 8 (s := by exact sxQ) ?_); (refine tkQ 3 (s := by exact sxQ) ?_); (refine tkQ 9 (s := by exact sMQ) ?_); (refine tkQ 4 (s := by exact Stab.fieldD rfl (tysOk.get rfl) rfl rfl (tysOk.get rfl) rfl) ?_); (refine tkQ 5 (s := by exact sMQ) ?_); (refine tkQ 10 (s := by exact siQ) ?_); (refine TrA.done (by kernel_rfl) ?_))
    (refine rQ ?_)
    exact Tr.again (m, (m : Int)) ⟨⟨by simp only; omega, by simp only; omega⟩, hay.symm⟩ (by simp only; omega) hsQ
   ·have hay := atI_no (n := n) hy hyn
    (refine rQ ?_)
    (((apply Tr.draw); (kernel_rfl)); (refine tkQ 0 (hB := by exact fun _ h => h) (s := by exact sfQ) ?_); (refine tkQ 2 (s := by exact Stab.move rfl) ?_); (refine tkQ 6 (s := by exact Stab.move rfl) ?_); (refine tkQ 7 (s := by exact Stab.move rfl) ?_); (refine tkQ 1 (s := by exact slQ) ?_); (refine tkQ 8 (s := by exact sxQ) ?_); (refine tkQ 3 (s := by exact sxQ) ?_); (refine tkQ 9 (s := by exact sMQ) ?_); (refine tkQ 4 (s := by exact Stab.fieldD rfl (tysOk.get rfl) rfl rfl (tysOk.get rfl) rfl) ?_); (refine tkQ 5 (s := by exact sMQ) ?_); (refine tkQ 10 (s := by exact siQ) ?_); (refine TrA.done (by kernel_rfl) ?_))
    (refine rQ ?_)
    exact Tr.again (m, at_) ⟨⟨by simp only; omega, by simp only; omega⟩, by rw [hat_, hay]⟩ (by simp only; omega) hsQ
  have ej : j = f := by omega
  subst ej
  rcases posF_at (reqs := k.reqs) (n := n) (l := l.drop (i + 1)) (f := j) with ⟨ha, hnone⟩ | ⟨q, ha, hq, hsome⟩
  ·rw [hat_, ha]
   rw [hnone] at hpos
   (refine rQ ?_)
   (refine dnQ (hL := by exact ⟨[_, _, _, _], rfl⟩) ⟨rfl, ?_⟩)
   refine hmk false ⟨fun h => (by cases h), fun ⟨ps', h, _⟩ => ?_⟩
   rw [hpos] at h
   cases h
  ·rw [hat_, ha]
   rw [hsome] at hpos
   (repeat (first | ((with_reducible refine Tr.step rfl ?_); (first | (refine xmQ ?_) | (refine xiQ ?_) | ((with_reducible refine Knd.buildSlice ?_); (refine Exec.buildSlice (tysOk.get rfl) rfl (tysOk.get rfl) rfl rfl rfl rfl rfl (by repeat (first | exact BuildP.nil | ((apply BuildP.one); (rfl); (rfl); (first | rfl | assumption); (repeat (first | exact SetL.z | apply SetL.s))))) rfl (fun b => ?_))))) | (with_reducible first | apply Tr.next | apply Tr.seq | apply Tr.region | apply Tr.nil | apply Tr.skip | apply Tr.exit | apply Tr.then_exit) | ((with_reducible refine Tr.in_exit ?_ ?_); (exact rfl)) | (refine Tr.cond_f rfl (by first | (with_reducible assumption) | omega) ?_)))
   ((refine Tr.step rfl ?_))
   refine Exec.append (news := [.int .i64 (q : Int)]) rfl rfl (tysOk.get rfl) rfl (tysOk.get rfl) rfl rfl rfl rfl (by repeat (first | exact Del.here | apply Del.there)) (Src.box (by repeat (first | exact Has.here | apply Has.there))) rfl (by intro u hu; simp at hu; subst hu; rfl) (by omega) (by omega) rfl (fun C2 cc2 hcc2 => ?_)
   refine gvQ (r := box _ 3 _) ?_
   rw [show intV (ps.map Int.ofNat) ++ [Value.int .i64 (q : Int)] = intV ((ps ++ [q]).map Int.ofNat) by simp [intV], show ps.length + 1 = (ps ++ [q]).length by simp]
   (refine rQ ?_)
   refine Tr.again (i + 1, ps ++ [q], q + 1, C2, cc2) ⟨by simp only; omega, by simp only [List.length_append, List.length_singleton]; omega, hcc2, by simp only; omega, ?_⟩ (by simp only; omega) hsQ
   simp only
   rw [hpos, Option.map_map]
   congr 1
   funext z
   simp
 have ei : i = l.length := by omega
 subst ei
 have hps : posF k.reqs l 0 = some ps := by rw [hpos, List.drop_length]; simp [posF]
 (repeat (first | ((with_reducible refine Tr.step rfl ?_); (first | (refine xmQ ?_) | (refine xlQ ?_) | (refine xfQ ?_) | (refine xnQ ?_) | (refine xiQ ?_) | ((with_reducible refine Knd.buildSlice ?_); (refine Exec.buildSlice (tysOk.get rfl) rfl (tysOk.get rfl) rfl rfl rfl rfl rfl (by repeat (first | exact BuildP.nil | ((apply BuildP.one); (rfl); (rfl); (first | rfl | assumption); (repeat (first | exact SetL.z | apply SetL.s))))) rfl (fun b => ?_))))) | (with_reducible first | apply Tr.next | apply Tr.seq | apply Tr.region | apply Tr.nil | apply Tr.exit | apply Tr.then_exit) | ((with_reducible refine Tr.in_exit ?_ ?_); (exact rfl)) | (refine Tr.cond_f rfl (by first | (with_reducible assumption) | omega) ?_)))
 ((refine Tr.step rfl ?_))
 refine Exec.append (news := [.int .i64 (k.reqs.length : Int)]) rfl rfl (tysOk.get rfl) rfl (tysOk.get rfl) rfl rfl rfl rfl (by repeat (first | exact Del.here | apply Del.there)) (Src.box (by repeat (first | exact Has.here | apply Has.there))) rfl (by intro u hu; simp at hu; subst hu; rfl) (by omega) (by omega) rfl (fun C2 cc2 hcc2 => ?_)
 refine gvQ (r := box _ 3 _) ?_
 rw [show intV (ps.map Int.ofNat) ++ [Value.int .i64 (k.reqs.length : Int)] = intV ((ps ++ [k.reqs.length]).map Int.ofNat) by simp [intV], show ps.length + 1 = ((ps ++ [k.reqs.length]).map Int.ofNat).length by simp]
 refine pbQ (r := ownS 3 1 C2 _ _ _) (fun M2 hm2 hok2 => ?_)
 have hcut : Ints M2 (.slice C2 ((ps ++ [k.reqs.length]).map Int.ofNat).length cc2) ((ps ++ [k.reqs.length]).map Int.ofNat) := Ints.ofOwn hok2 rfl hcc2
 generalize hset : (ps ++ [k.reqs.length]).map Int.ofNat = set at hcut ⊢
 have hm02 := hm1.trans hm2
 (refine rQ ?_)
 (((apply Tr.draw); (kernel_rfl)); (refine tkQ 0 (hB := by exact fun _ h => h) (s := by exact Stab.loadW rfl (tysOk.get rfl) rfl (by repeat (first | exact Has.here | apply Has.there)) (by assumption)) ?_); (refine tkQ 1 (s := by exact sfQ) ?_); (refine tkQ 3 (s := by exact swQ) ?_); (refine tkQ 4 (s := by exact swQ) ?_); (refine tkQ 6 (s := by exact sfQ) ?_); (refine tkQ 2 (s := by exact slQ) ?_); (refine tkQ 7 (s := by exact slQ) ?_); (refine TrA.eff 5 rfl (by kernel_rfl) (by exact .inl rfl) ?_))
 refine Exec.call0 rfl (rwith32_fn M2 k r _ (hk0.mono hm02) (by omega)) rfl ?_
 rintro _ M3 hm3 ⟨A8, c8, rfl, hR8⟩
 refine ⟨hm3, (by exact fun _ h => h), ?_⟩
 have hm03 := hm02.trans hm3
 ((refine TrA.eff 8 rfl (by kernel_rfl) (by exact .inl rfl) ?_))
 refine Exec.call0 rfl (rtable_fn M3 ws w (hw.mono hm03) As A8 cs c8 k.sups (k.reqs ++ [r]) k.known (h1.mono RSpC.mono hm03) hR8) rfl ?_
 rintro _ M4 hm4 (⟨hnk, -⟩ | ⟨-, A5, c5, B5, k5, rfl, hf, hrd⟩)
 ·exact absurd hok hnk
 refine ⟨hm4, (by exact fun _ h => h), ?_⟩
 have hm04 := hm03.trans hm4
 ((refine tkQ 9 (s := by exact Stab.move rfl) ?_); (refine tkQ 10 (s := by exact Stab.extract rfl rfl) ?_); (refine tkQ 11 (s := by exact Stab.extract rfl rfl) ?_); (refine tkQ 12 (s := by exact Stab.extract rfl rfl) ?_); (refine tkQ 13 (s := by exact Stab.assign rfl) ?_); (refine tkQ 14 (s := by exact Stab.assign rfl) ?_); (refine tkQ 15 (s := by exact Stab.assign rfl) ?_); (refine TrA.done (by kernel_rfl) ?_))
 (refine rQ ?_)
 (((apply Tr.draw); (kernel_rfl)); (refine tkQ 0 (hB := by exact fun _ h => h) (s := by exact Stab.move rfl) ?_); (refine tkQ 1 (s := by exact sfQ) ?_); (refine tkQ 4 (s := by exact swQ) ?_); (refine tkQ 5 (s := by exact swQ) ?_); (refine tkQ 8 (s := by exact Stab.move rfl) ?_); (refine tkQ 2 (s := by exact slQ) ?_); (refine TrA.eff 3 rfl (by kernel_rfl) (by exact .inl rfl) ?_))
 refine Exec.call0 rfl (ramS_fn32 M4 As cs k.sups (h1.mono RSpC.mono hm04) (by omega)) rfl ?_
 rintro _ M5 hm5 ⟨P1, q1, rfl, hI1⟩
 refine ⟨hm5, (by exact fun _ h => h), ?_⟩
 have hm05 := hm04.trans hm5
 ((refine TrA.eff 6 rfl (by kernel_rfl) (by exact .inl rfl) ?_))
 refine Exec.call0 rfl (rwith32_fn M5 k r _ (hk0.mono hm05) (by omega)) rfl ?_
 rintro _ M6 hm6 ⟨A9, c9, rfl, hR9⟩
 refine ⟨hm6, (by exact fun _ h => h), ?_⟩
 have hm06 := hm05.trans hm6
 ((refine TrA.eff 7 rfl (by kernel_rfl) (by exact .inl rfl) ?_))
 refine Exec.call0 rfl (ramR_fn32 M6 A9 c9 (k.reqs ++ [r]) hR9 (by simp; omega)) rfl ?_
 rintro _ M7 hm7 ⟨P2, q2, rfl, hI2⟩
 refine ⟨hm7, (by exact fun _ h => h), ?_⟩
 have hm07 := hm06.trans hm7
 have hm27 := hm3.trans (hm4.trans (hm5.trans (hm6.trans hm7)))
 have hm57 := hm6.trans hm7
 have hm47 := hm5.trans hm57
 have hvld := okT_vld (w := w) (known := k.known) hok
 ((refine TrA.eff 9 rfl (by kernel_rfl) (by exact .inl rfl) ?_))
 refine Exec.call0 rfl (rCut_fn M7 A5 P1 P2 C2 c5 q1 q2 cc2 (fitsT w k.known k.sups (k.reqs ++ [r])) (amS k.sups) (amR (k.reqs ++ [r])) set (hf.mono RRowB.mono hm47) (hI1.mono RI.mono hm57) hI2 (hcut.mono RI.mono hm27)) rfl ?_
 rintro _ _ _ ⟨hcr, rfl⟩
 refine ⟨Mem.le.refl _, (by exact fun _ h => h), ?_⟩
 rcases hcr with ⟨hbad, rfl⟩ | ⟨-, p, rfl, hp⟩
 ·rw [vld_iff.2 hvld] at hbad
  cases hbad
 ((refine tkQ 10 (s := by exact Stab.extract rfl rfl) ?_); (refine tkQ 11 (s := by exact Stab.extract rfl rfl) ?_); (refine tkQ 12 (s := by exact Stab.assign rfl) ?_); (refine tkQ 13 (s := by exact Stab.assign rfl) ?_); (refine TrA.done (by kernel_rfl) ?_))
 (repeat (first | (with_reducible first | apply Tr.next | apply Tr.ret)))
 (refine dnQ (hL := by exact ⟨[_, _, _], rfl⟩) ⟨rfl, ?_⟩)
 refine hmk p (hp.trans ⟨fun h => ⟨ps, hps, by rw [hset]; exact h⟩, fun ⟨ps', h, h'⟩ => ?_⟩)
 rw [hps] at h
 cases h
 rw [← hset]
 exact h'
end Go.Proofs.YtlifjajcmnkhfaaGreat

/-
 Matching, plain: the chapter's examples.
 Conditions: none.
-/
namespace Go.Proofs.YtlifjajcmnkhfaaGreat
open Go Bf
theorem possD (fits : List (List Bool)) (sup need : List Int) (set : Nat) : Poss fits sup need set ↔ ∀ s, s ≤ set → (1 ≤ s → s &&& set = s → lackB fits sup need s ≤ 0) := ⟨fun h s h1 h2 h3 => h s h2 h1 h3, fun h s h1 h2 h3 => h s h2 h1 h3⟩
theorem x2_no : ¬ Feas (pbOf [] [] [1]) := by
 rw [feas_poss (vld_iff.1 (by decide)), possD]
 decide
theorem x2_cut : memF (cutFin [] [] [1]) 1 = [0] := by
 have h := memF_bits (fits := []) (sup := []) (need := [1]) (vld_iff.1 (by decide))
 have e : cutOfP [] [] [1] = 1 := by
  unfold cutOfP
  show cutS _ 1 1 = 1
  rw [cutS, if_pos ((possD _ _ _ _).2 (by decide)), cutS]
 rw [e] at h
 exact h
theorem x3_no : ¬ Feas (pbOf [[true, true]] [3] [2, 2]) := by
 rw [feas_poss (vld_iff.1 (by decide)), possD]
 decide
theorem x3_cut : memF (cutFin [[true, true]] [3] [2, 2]) 2 = [0, 1] := by
 have h := memF_bits (fits := [[true, true]]) (sup := [3]) (need := [2, 2]) (vld_iff.1 (by decide))
 have e : cutOfP [[true, true]] [3] [2, 2] = 3 := by
  unfold cutOfP
  show cutS _ 2 3 = 3
  rw [cutS, if_pos ((possD _ _ _ _).2 (by decide)), cutS, if_pos ((possD _ _ _ _).2 (by decide)), cutS]
 rw [e] at h
 exact h
end Go.Proofs.YtlifjajcmnkhfaaGreat

/-
 Refusals, plain: the sample of the statements, computed.
 Conditions: none.
-/
namespace Go.Proofs.YtlifjajcmnkhfaaGreat
open Go Bf
def w0 : Wd := ⟨[], []⟩
def k0 : Bp := ⟨1, [], [], [], []⟩
def r1 : Rq := ⟨0, 0, 0, 0, 0, 1⟩
def r0 : Rq := ⟨0, 0, 0, 0, 0, 0⟩
def barK : Ky := (7, 9, 0)
def w1 : Wd := ⟨[], [⟨barK, 1, 0, 1024, 1, 0⟩]⟩
def s1 : List Sp := [⟨4, 0, 0, 0, 9, 3⟩]
def q7 : Rq := ⟨7, 0, 0, 2, 0, 2⟩
def qr : Rq := ⟨8, 0, 0, 2, 0, 2⟩
def qs : Rq := ⟨8, 0, 9, 2, 0, 1⟩
def k1 : Bp := ⟨1, s1, [], [[]], []⟩
def k2 : Bp := ⟨1, s1, [q7], [[true]], [((7, 0, 0), 2, 3)]⟩
theorem k0_mk : mkF w0 (bkN 1 []) [] = k0 := rfl
theorem k1_mk : mkF w1 (bkN 1 s1) [] = k1 := rfl
theorem k2_mk : more w1 k1 q7 = k2 := by
 show mkF w1 k1 [q7] = k2
 unfold mkF k2
 congr 1
theorem askE_ok {w : Wd} {k : Bp} {r : Rq} (h : okB w k) (h1 : r.no ∉ k.reqs.map (·.no)) (h2 : okRq r) (h3 : k.reqs.length + 1 ≤ 64) : askE w k r = 0 := by
 rw [askE, if_neg (fun hn => hn h), if_neg h1, if_neg (fun h => h.elim (fun h => h h2) (fun h => by omega))]
theorem okB_k0 : okB w0 k0 := okB_new (known := 1) (s := []) (by decide) (by decide)
theorem okB_k1 : okB w1 k1 := okB_new (known := 1) (s := s1) (by decide) (by decide)
theorem ask_r1 : askE w0 k0 r1 = 0 := askE_ok okB_k0 (by decide) (by decide) (by decide)
theorem ask_r0 : askE w0 k0 r0 = 0 := askE_ok okB_k0 (by decide) (by decide) (by decide)
theorem fe_r1 : ¬ Feas (pbW w0 k0.known k0.sups (k0.reqs ++ [r1])) := x2_no
theorem fe_r0 : Feas (pbW w0 k0.known k0.sups (k0.reqs ++ [r0])) := by
 show Feas (pbOf [] [] [0])
 rw [feas_poss (vld_iff.1 (by decide)), possD]
 decide
theorem le_r1 : leF w0 k0 r1 = [] := by
 have h : cutB w0 k0 r1 = [0] := x2_cut
 unfold leF confF
 rw [h]
 rfl
theorem fa_r1 : factF w0 k0 r1 = [] := by
 unfold factF
 rw [if_neg]
 have h : exclB w0 k0 r1 = [] := rfl
 rw [h]
 unfold meetK
 rw [withoutF_nil]
 exact fe_r1
theorem ch_r1 : chkF w0 k0 r1 [] := by
 refine ⟨[], rfl, ?_⟩
 have h := cutFin_cut (fits := []) (sup := []) (need := [1]) (vld_iff.1 (by decide)) x2_no
 have e : memF (cutFin [] [] [1]) ([1] : List Int).length = [0] := x2_cut
 rw [e] at h
 exact h
theorem fe_q7 : Feas (pbW w1 k1.known k1.sups (k1.reqs ++ [q7])) := by
 have e : fitsT w1 1 s1 [q7] = [[true]] := by decide
 show Feas (pbOf (fitsT w1 1 s1 [q7]) [3] [2])
 rw [e, feas_poss (vld_iff.1 (by decide)), possD]
 decide
theorem ask_q7 : askE w1 k1 q7 = 0 := askE_ok okB_k1 (by decide) (by decide) (by decide)
theorem okB_k2 : okB w1 k2 := by
 rw [← k2_mk]
 exact okB_more okB_k1 (by decide) (by decide) (by decide) fe_q7
theorem ask_qr : askE w1 k2 qr = 0 := askE_ok okB_k2 (by decide) (by decide) (by decide)
theorem ask_qs : askE w1 k2 qs = 0 := askE_ok okB_k2 (by decide) (by decide) (by decide)
theorem ft_qr : fitsT w1 k2.known k2.sups (k2.reqs ++ [qr]) = [[true, true]] := by decide
theorem ft_qs : fitsT w1 k2.known k2.sups (k2.reqs ++ [qs]) = [[true, false]] := by decide
theorem fe_qr : ¬ Feas (pbW w1 k2.known k2.sups (k2.reqs ++ [qr])) := by
 unfold pbW
 rw [ft_qr]
 exact x3_no
theorem x1_no : ¬ Feas (pbOf [[true, false]] [3] [2, 1]) := by
 rw [feas_poss (vld_iff.1 (by decide)), possD]
 decide
theorem x1_cut : memF (cutFin [[true, false]] [3] [2, 1]) 2 = [1] := by
 have h := memF_bits (fits := [[true, false]]) (sup := [3]) (need := [2, 1]) (vld_iff.1 (by decide))
 have e : cutOfP [[true, false]] [3] [2, 1] = 2 := by
  unfold cutOfP
  show cutS _ 2 3 = 2
  rw [cutS, if_pos ((possD _ _ _ _).2 (by decide)), cutS, if_neg (fun h => absurd ((possD _ _ _ _).1 h) (by decide)), cutS]
 rw [e] at h
 exact h
theorem fe_qs : ¬ Feas (pbW w1 k2.known k2.sups (k2.reqs ++ [qs])) := by
 unfold pbW
 rw [ft_qs]
 exact x1_no
theorem le_qr : leF w1 k2 qr = [7] := by
 have h : cutB w1 k2 qr = [0, 1] := by
  unfold cutB
  rw [ft_qr]
  exact x3_cut
 unfold leF confF
 rw [h]
 rfl
theorem le_qs : leF w1 k2 qs = [] := by
 have h : cutB w1 k2 qs = [1] := by
  unfold cutB
  rw [ft_qs]
  exact x1_cut
 unfold leF confF
 rw [h]
 rfl
theorem ex_qr : exclB w1 k2 qr = [] := by
 unfold exclB
 decide
theorem ex_qs : exclB w1 k2 qs = [barK] := by
 unfold exclB
 decide
theorem fa_qr : factF w1 k2 qr = [] := by
 unfold factF
 rw [if_neg]
 rw [ex_qr]
 unfold meetK
 rw [withoutF_nil]
 exact fe_qr
theorem fa_qs : factF w1 k2 qs = [barK] := by
 have h1 : meetK w1 k2 qs [barK] := by
  have e : fitsT (withoutF w1 [barK]) k2.known k2.sups (k2.reqs ++ [qs]) = [[true, true]] := by decide
  unfold meetK pbW
  rw [e]
  show Feas (pbOf [[true, true]] [3] [2, 1])
  rw [feas_poss (vld_iff.1 (by decide)), possD]
  decide
 have h2 : ¬ meetK w1 k2 qs [] := by
  unfold meetK
  rw [withoutF_nil]
  exact fe_qs
 unfold factF
 rw [ex_qs, if_pos h1]
 show cutK _ 1 _ = _
 rw [cutK, show ([barK] : List Ky).eraseIdx 0 = [] from rfl, if_neg h2]
 rfl
theorem ch_qr : chkF w1 k2 qr [7] := by
 refine ⟨[0], by decide, ?_⟩
 have h := cutFin_cut (fits := [[true, true]]) (sup := [3]) (need := [2, 2]) (vld_iff.1 (by decide)) x3_no
 have e : memF (cutFin [[true, true]] [3] [2, 2]) ([2, 2] : List Int).length = [0, 1] := x3_cut
 rw [e] at h
 rw [ft_qr]
 exact h
theorem ch_no : ¬ chkF w1 k2 qr [] := by
 rintro ⟨ps, h1, h2⟩
 have h1 : some [] = some ps := h1
 cases h1
 rw [ft_qr] at h2
 exact absurd h2.2 (by decide)
end Go.Proofs.YtlifjajcmnkhfaaGreat

/-
 Refusals: the sample of the statements, walked.
 Conditions: none.
-/
namespace Go.Proofs.YtlifjajcmnkhfaaGreat
open Go Bf
attribute [local irreducible] Tr Exec Stab HasTy Go.Addr.add IntKind.wrap
theorem rwd_w0 (M : Mem) : RWd M [.slice none 0 0, .slice none 0 0, .slice none 0 0, .slice none 0 0, .slice none 0 0, .slice none 0 0, .slice none 0 0, .slice none 0 0, .slice none 0 0, .slice none 0 0, .slice none 0 0] w0 :=
 ⟨rfl, by repeat (first | exact AllOne.nil | refine AllOne.cons (by rfl) ?_), ⟨none, 0, rfl, SlOf.nil _ _ _⟩, none, 0, rfl, SlOf.nil _ _ _⟩
def wsB (b : Nat) : List Value := [.slice none 0 0, .slice none 0 0, .slice none 0 0, .slice none 0 0, .slice none 0 0, .slice none 0 0, .slice none 0 0, .slice none 0 0, .slice none 0 0, .slice none 0 0, .slice (some ⟨b, 0, none⟩) 1 1]
theorem rwd_w1 {M : Mem} {b t : Nat} (h : (box b t [.int .i64 7, .int .i64 9, .int .i64 0, .int .i64 1, .int .i64 0, .int .i64 1024, .int .i64 1, .int .i64 0]).ok M) : RWd M (wsB b) w1 :=
 ⟨rfl, by unfold wsB; repeat (first | exact AllOne.nil | refine AllOne.cons (by rfl) ?_), ⟨none, 0, rfl, SlOf.nil _ _ _⟩, some ⟨b, 0, none⟩, 1, rfl, SlOf.ofBoxC (sz := 8) (n := 1) (c := 1) (xs := w1.facts) h rfl rfl (Nat.le_refl _) (by decide) (fcC_one ⟨barK, 1, 0, 1024, 1, 0⟩) (fcC_elems M w1.facts)⟩
theorem one_ofBox {M : Mem} {b t : Nat} {x : Int} (h : (box b t [.int .i64 x]).ok M) : Ints M (.slice (some ⟨b, 0, none⟩) 1 1) [x] :=
 SlOf.ofBoxC (sz := 1) (n := 1) (c := 1) (xs := [x]) h rfl rfl (Nat.le_refl _) (by decide) (intV_one [x]) (RI.elems M [x])
set_option maxHeartbeats 32000000 in
set_option maxRecDepth 20000 in
theorem sane_fn (M : Mem) : Fn0 Tryz.prog 5 [] M (fun v _ => v = .bool true) := by
 refine Fn.intro Tryz.func5 rfl rfl Tryz.ntmps5 rfl fun E F => ?_
 have hw0 := rwd_w0 M
 have e0 : ([] : List Int).length = 0 := rfl
 have e0k : ([] : List Ky).length = 0 := rfl
 (repeat (first | ((with_reducible refine Tr.step rfl ?_); (first | (refine xaQ ?_) | ((with_reducible refine Knd.build ?_); (refine Exec.stab rfl (Stab.build tysOk rfl rfl rfl rfl (by repeat (exact BuildP.nil))) rfl ?_)))) | (with_reducible first | apply Tr.next | apply Tr.seq | apply Tr.region | apply Tr.nil)))
 ((refine Tr.step rfl ?_)); refine Exec.call0 rfl (new_fn M _ w0 hw0 none 0 [] (SlOf.nil _ _ _) 1) rfl ?_
 rintro _ M1 hM1 (⟨hbad, -⟩ | ⟨-, hbad, -⟩ | ⟨-, -, x, rfl, hx⟩)
 ·exact absurd (by decide) hbad
 ·exact absurd (by decide) hbad
 rw [k0_mk] at hx
 obtain ⟨z1, z2, z3, z4, z5, z6, z7, z8, rfl⟩ := hx.lit
 (repeat (first | ((with_reducible refine Tr.step rfl ?_); (first | (refine xmQ ?_) | (refine xaQ ?_) | (refine xwQ ?_) | (refine xWQ ?_) | ((with_reducible refine Knd.alloc ?_); (refine Exec.alloc (tysOk.get rfl) rfl rfl (fun b => ?_))) | ((with_reducible refine Knd.extract ?_); (refine Exec.stab rfl (Stab.extract rfl rfl) rfl ?_)) | ((with_reducible refine Knd.build ?_); (refine Exec.stab rfl (Stab.build tysOk rfl rfl rfl rfl (by repeat (first | exact BuildP.nil | ((apply BuildP.one); (rfl); (rfl); (first | rfl | assumption); (repeat (first | exact SetL.z | apply SetL.s)))))) rfl ?_)))) | (with_reducible first | apply Tr.next | apply Tr.seq | apply Tr.region | apply Tr.nil)))
 ((refine Tr.step rfl ?_)); refine Exec.call0 rfl (least_fn M1 _ w0 (rwd_w0 M1) _ k0 hx r1) rfl ?_
 rintro _ M2 hM2 (⟨hne, -⟩ | ⟨-, -, hF, -⟩ | ⟨-, -, -, BM2, cM2, rfl, gM2⟩)
 ·exact absurd ask_r1 hne
 ·exact absurd hF fe_r1
 rw [le_r1] at gM2 ⊢
 have hx2 := hx.mono hM2
 (repeat (first | ((with_reducible refine Tr.step rfl ?_); (first | (refine xmQ ?_) | (refine xaQ ?_) | (refine xwQ ?_) | ((with_reducible refine Knd.extract ?_); (refine Exec.stab rfl (Stab.extract rfl rfl) rfl ?_)) | ((with_reducible refine Knd.build ?_); (refine Exec.stab rfl (Stab.build tysOk rfl rfl rfl rfl (by repeat (exact BuildP.nil))) rfl ?_)))) | (with_reducible first | apply Tr.next | apply Tr.seq | apply Tr.region | apply Tr.nil)))
 ((refine Tr.step rfl ?_)); refine Exec.call0 rfl (least_fn M2 _ w0 (rwd_w0 M2) _ k0 hx2 r0) rfl ?_
 rintro _ M3 hM3 (⟨hne, -⟩ | ⟨-, -, -, rfl⟩ | ⟨-, -, hF, -⟩)
 ·exact absurd ask_r0 hne
 rotate_left
 ·exact absurd fe_r0 hF
 have hx3 := hx2.mono hM3
 (repeat (first | ((with_reducible refine Tr.step rfl ?_); (first | (refine xmQ ?_) | (refine xaQ ?_) | (refine xwQ ?_) | ((with_reducible refine Knd.extract ?_); (refine Exec.stab rfl (Stab.extract rfl rfl) rfl ?_)) | ((with_reducible refine Knd.build ?_); (refine Exec.stab rfl (Stab.build tysOk rfl rfl rfl rfl (by repeat (first | exact BuildP.nil | ((apply BuildP.one); (rfl); (rfl); (first | rfl | assumption); (repeat (first | exact SetL.z | apply SetL.s)))))) rfl ?_)))) | (with_reducible first | apply Tr.next | apply Tr.seq | apply Tr.region | apply Tr.nil)))
 ((refine Tr.step rfl ?_)); refine Exec.call0 rfl (facts_fn M3 _ w0 (rwd_w0 M3) (by decide) _ k0 hx3 r1) rfl ?_
 rintro _ M4 hM4 (⟨hne, -⟩ | ⟨-, -, hF, -⟩ | ⟨-, -, -, BM4, cM4, rfl, gM4⟩)
 ·exact absurd ask_r1 hne
 ·exact absurd hF fe_r1
 rw [fa_r1] at gM4 ⊢
 have hx4 := hx3.mono hM4
 (repeat (first | ((with_reducible refine Tr.step rfl ?_); (first | (refine xmQ ?_) | (refine xaQ ?_) | (refine xwQ ?_) | ((with_reducible refine Knd.extract ?_); (refine Exec.stab rfl (Stab.extract rfl rfl) rfl ?_)) | ((with_reducible refine Knd.build ?_); (refine Exec.stab rfl (Stab.build tysOk rfl rfl rfl rfl (by repeat (first | exact BuildP.nil | ((apply BuildP.one); (rfl); (rfl); (first | rfl | assumption); (repeat (first | exact SetL.z | apply SetL.s)))))) rfl ?_)))) | (with_reducible first | apply Tr.next | apply Tr.seq | apply Tr.region | apply Tr.nil)))
 ((refine Tr.step rfl ?_)); refine Exec.call0 rfl (rcheck_fn M4 _ w0 (rwd_w0 M4) _ k0 hx4 r1 none 0 [] (SlOf.nil _ _ _) (by decide)) rfl ?_
 rintro _ M5 hM5 (⟨hne, -⟩ | ⟨-, -, c1, rfl, hc1⟩)
 ·exact absurd ask_r1 hne
 obtain rfl := hc1.2 ch_r1
 have hM15 := hM1.trans (hM2.trans (hM3.trans (hM4.trans hM5)))
 clear hx hx2 hx3 hx4 hw0
 (repeat (first | ((with_reducible refine Tr.step rfl ?_); (first | (refine xmQ ?_) | (refine xaQ ?_) | (refine xwQ ?_) | (refine xWQ ?_) | ((with_reducible refine Knd.alloc ?_); (refine Exec.alloc (tysOk.get rfl) rfl rfl (fun b => ?_))) | ((with_reducible refine Knd.extract ?_); (refine Exec.stab rfl (Stab.extract rfl rfl) rfl ?_)) | ((with_reducible refine Knd.build ?_); (refine Exec.stab rfl (Stab.build tysOk rfl rfl rfl rfl (by repeat (first | exact BuildP.nil | ((apply BuildP.one); (rfl); (rfl); (first | rfl | assumption); (repeat (first | exact SetL.z | apply SetL.s))) | ((apply BuildP.many); (rfl); (rfl); (rfl); (rfl); (repeat (first | exact PutL.nil | ((apply PutL.cons); (repeat (first | exact SetL.z | apply SetL.s))))))))) rfl ?_)) | ((with_reducible refine Knd.buildSlice ?_); (refine Exec.buildSlice (tysOk.get rfl) rfl (tysOk.get rfl) rfl rfl rfl rfl rfl (by repeat (first | exact BuildP.nil | ((apply BuildP.many); (rfl); (rfl); (rfl); (rfl); (repeat (first | exact PutL.nil | ((apply PutL.cons); (repeat (first | exact SetL.z | apply SetL.s)))))))) rfl (fun b => ?_))))) | (with_reducible first | apply Tr.next | apply Tr.seq | apply Tr.region | apply Tr.nil)))
 refine pbQ (r := box _ 73 _) (fun M6 hM6 hok6 => ?_)
 refine pbQ (r := box _ 71 _) (fun M7 hM7 hok7 => ?_)
 have hok6 : (box _ 73 (spC ⟨4, 0, 0, 0, 9, 3⟩)).ok M6 := hok6
 have hs1 : SlOf 6 RSpC M7 (.slice (some ⟨_, 0, none⟩) 1 1) s1 := (SlOf.ofBoxC (sz := 6) (n := 1) (c := 1) (xs := s1) hok6 rfl rfl (Nat.le_refl _) (by decide) (spC_one _) (spC_elems M6 s1)).mono RSpC.mono hM7
 have hw1 := rwd_w1 hok7
 ((refine Tr.step rfl ?_)); refine Exec.call0 rfl (new_fn M7 _ w1 hw1 _ 1 s1 hs1 1) rfl ?_
 rintro _ M8 hM8 (⟨hbad, -⟩ | ⟨-, hbad, -⟩ | ⟨-, -, x, rfl, hx⟩)
 ·exact absurd (by decide) hbad
 ·exact absurd (by decide) hbad
 rw [k1_mk] at hx
 obtain ⟨y1, y2, y3, y4, y5, y6, y7, y8, rfl⟩ := hx.lit
 have hw8 := hw1.mono hM8
 (repeat (first | ((with_reducible refine Tr.step rfl ?_); (first | (refine xmQ ?_) | (refine xaQ ?_) | (refine xwQ ?_) | (refine xWQ ?_) | ((with_reducible refine Knd.alloc ?_); (refine Exec.alloc (tysOk.get rfl) rfl rfl (fun b => ?_))) | ((with_reducible refine Knd.extract ?_); (refine Exec.stab rfl (Stab.extract rfl rfl) rfl ?_)) | ((with_reducible refine Knd.build ?_); (refine Exec.stab rfl (Stab.build tysOk rfl rfl rfl rfl (by repeat (first | exact BuildP.nil | ((apply BuildP.one); (rfl); (rfl); (first | rfl | assumption); (repeat (first | exact SetL.z | apply SetL.s)))))) rfl ?_)))) | (with_reducible first | apply Tr.next | apply Tr.seq | apply Tr.region | apply Tr.nil)))
 ((refine Tr.step rfl ?_)); refine Exec.call0 rfl (askA_fn M8 _ w1 hw8 _ k1 hx (by decide) q7) rfl ?_
 rintro _ M9 hM9 (⟨-, -, x, a, rfl, D, cD, hD, ⟨hF, hx, al, A, c, hlex, rfl, hal⟩ | ⟨hF, -⟩⟩ | ⟨hne, -⟩)
 rotate_left
 ·exact absurd fe_q7 hF
 ·exact absurd ask_q7 hne
 rw [k2_mk] at hx
 obtain ⟨v1, v2, v3, v4, v5, v6, v7, v8, rfl⟩ := hx.lit
 have hw9 := hw8.mono hM9
 (repeat (first | ((with_reducible refine Tr.step rfl ?_); (first | (refine xmQ ?_) | (refine xaQ ?_) | (refine xwQ ?_) | (refine xWQ ?_) | ((with_reducible refine Knd.alloc ?_); (refine Exec.alloc (tysOk.get rfl) rfl rfl (fun b => ?_))) | ((with_reducible refine Knd.extract ?_); (refine Exec.stab rfl (Stab.extract rfl rfl) rfl ?_)) | ((with_reducible refine Knd.build ?_); (refine Exec.stab rfl (Stab.build tysOk rfl rfl rfl rfl (by repeat (first | exact BuildP.nil | ((apply BuildP.one); (rfl); (rfl); (first | rfl | assumption); (repeat (first | exact SetL.z | apply SetL.s)))))) rfl ?_)))) | (with_reducible first | apply Tr.next | apply Tr.seq | apply Tr.region | apply Tr.nil)))
 ((refine Tr.step rfl ?_)); refine Exec.call0 rfl (least_fn M9 _ w1 hw9 _ k2 hx qr) rfl ?_
 rintro _ M10 hM10 (⟨hne, -⟩ | ⟨-, -, hF, -⟩ | ⟨-, -, -, BM10, cM10, rfl, gM10⟩)
 ·exact absurd ask_qr hne
 ·exact absurd hF fe_qr
 rw [le_qr] at gM10 ⊢
 have hx10 := hx.mono hM10
 have hw10 := hw9.mono hM10
 (refine rQ ?_)
 ((refine Tr.step rfl ?_)); refine Exec.call0 rfl (least_fn M10 _ w1 hw10 _ k2 hx10 qs) rfl ?_
 rintro _ M11 hM11 (⟨hne, -⟩ | ⟨-, -, hF, -⟩ | ⟨-, -, -, BM11, cM11, rfl, gM11⟩)
 ·exact absurd ask_qs hne
 ·exact absurd hF fe_qs
 rw [le_qs] at gM11 ⊢
 have hx11 := hx10.mono hM11
 have hw11 := hw10.mono hM11
 (refine rQ ?_)
 ((refine Tr.step rfl ?_)); refine Exec.call0 rfl (facts_fn M11 _ w1 hw11 (by decide) _ k2 hx11 qs) rfl ?_
 rintro _ M12 hM12 (⟨hne, -⟩ | ⟨-, -, hF, -⟩ | ⟨-, -, -, BM12, cM12, rfl, gM12⟩)
 ·exact absurd ask_qs hne
 ·exact absurd hF fe_qs
 rw [fa_qs] at gM12 ⊢
 have hx12 := hx11.mono hM12
 have hw12 := hw11.mono hM12
 (refine rQ ?_)
 ((refine Tr.step rfl ?_)); refine Exec.call0 rfl (facts_fn M12 _ w1 hw12 (by decide) _ k2 hx12 qr) rfl ?_
 rintro _ M13 hM13 (⟨hne, -⟩ | ⟨-, -, hF, -⟩ | ⟨-, -, -, BM13, cM13, rfl, gM13⟩)
 ·exact absurd ask_qr hne
 ·exact absurd hF fe_qr
 rw [fa_qr] at gM13 ⊢
 have hx13 := hx12.mono hM13
 have hw13 := hw12.mono hM13
 (repeat (first | ((with_reducible refine Tr.step rfl ?_); (first | (refine xmQ ?_) | (refine xaQ ?_) | (refine xwQ ?_) | ((with_reducible refine Knd.extract ?_); (refine Exec.stab rfl (Stab.extract rfl rfl) rfl ?_)) | ((with_reducible refine Knd.buildSlice ?_); (refine Exec.buildSlice (tysOk.get rfl) rfl (tysOk.get rfl) rfl rfl rfl rfl rfl (by repeat (first | exact BuildP.nil | ((apply BuildP.one); (rfl); (rfl); (first | rfl | assumption); (repeat (first | exact SetL.z | apply SetL.s))))) rfl (fun b => ?_))))) | (with_reducible first | apply Tr.next | apply Tr.seq | apply Tr.region | apply Tr.nil)))
 refine pbQ (r := box _ 3 _) (fun M14 hM14 hok14 => ?_)
 ((refine Tr.step rfl ?_)); refine Exec.call0 rfl (rcheck_fn M14 _ w1 (hw13.mono hM14) _ k2 (hx13.mono hM14) qr _ 1 [7] (one_ofBox hok14) (by decide)) rfl ?_
 rintro _ M15 hM15' (⟨hne, -⟩ | ⟨-, -, c2, rfl, hc2⟩)
 ·exact absurd ask_qr hne
 obtain rfl := hc2.2 ch_qr
 have hw15 := (hw13.mono hM14).mono hM15'
 have hx15 := (hx13.mono hM14).mono hM15'
 (refine rQ ?_)
 ((refine Tr.step rfl ?_)); refine Exec.call0 rfl (rcheck_fn M15 _ w1 hw15 _ k2 hx15 qr none 0 [] (SlOf.nil _ _ _) (by decide)) rfl ?_
 rintro _ M16 hM16 (⟨hne, -⟩ | ⟨-, -, c3, rfl, hc3⟩)
 ·exact absurd ask_qr hne
 have hc3 : c3 = false := by cases c3 with
  | false => rfl
  | true => exact absurd (hc3.1 rfl) ch_no
 subst hc3
 (repeat (first | ((with_reducible refine Tr.step rfl ?_); (first | (refine xmQ ?_) | (refine xaQ ?_) | (refine xnQ ?_) | (refine xiQ ?_) | ((with_reducible refine Knd.pick ?_); (first | (refine Exec.stab rfl (Stab.pick_f rfl (by (with_reducible exact Bool.not_true)) rfl) rfl ?_) | (refine Exec.stab rfl (Stab.pick_td rfl (by omega) rfl) rfl ?_) | (refine Exec.stab rfl (Stab.pick_fd rfl (by (with_reducible exact (not_not_intro rfl))) rfl) rfl ?_))) | ((with_reducible refine Knd.extract ?_); (refine Exec.stab rfl (Stab.extract rfl rfl) rfl ?_)))) | (with_reducible first | apply Tr.next | apply Tr.seq | apply Tr.region | apply Tr.nil) | ((refine Tr.guard_l rfl rfl rfl (by first | (with_reducible rfl) | (with_reducible exact Bool.not_true)) ?_); (first | (refine xmQ ?_) | (refine xiQ ?_) | ((with_reducible refine Knd.buildSlice ?_); (refine Exec.buildSlice (tysOk.get rfl) rfl (tysOk.get rfl) rfl rfl rfl rfl rfl (by repeat (first | exact BuildP.nil | ((apply BuildP.one); (rfl); (rfl); (first | rfl | assumption); (repeat (first | exact SetL.z | apply SetL.s))))) rfl (fun b => ?_))))) | ((refine Tr.guard_y rfl rfl rfl (by first | (with_reducible assumption) | omega) ?_); (first | (refine xmQ ?_) | (refine xnQ ?_) | (refine xiQ ?_))) | ((refine Tr.guard_y' rfl rfl rfl (by (with_reducible exact (not_not_intro rfl))) ?_); (first | (refine xmQ ?_) | (refine xlQ ?_) | (refine xfQ ?_) | (refine xiQ ?_) | ((with_reducible refine Knd.unOp ?_); (refine Exec.stab rfl (Stab.not rfl) rfl ?_)))) | (with_reducible refine Tr.skip ?_) | (refine Tr.cond_f rfl (by (with_reducible exact (not_not_intro rfl))) ?_)))
 refine pbQ (r := box _ 3 _) (fun M17 hM17 hok17 => ?_)
 have hm1017 := hM11.trans (hM12.trans (hM13.trans (hM14.trans (hM15'.trans (hM16.trans hM17)))))
 ((refine Tr.guard_l rfl rfl rfl (by (with_reducible rfl)) ?_)); refine Exec.call0 rfl (sameInts_fn M17 [7] [7] _ _ _ 1 (gM10.mono RI.mono hm1017) (one_ofBox hok17)) rfl ?_
 rintro _ _ _ ⟨rfl, rfl⟩
 rw [decide_eq_true (rfl : ([7] : List Int) = [7])]
 (repeat (first | ((with_reducible refine Tr.step rfl ?_); (first | (refine xmQ ?_) | ((with_reducible refine Knd.pick ?_); (refine Exec.stab rfl (Stab.pick_t rfl (by (with_reducible rfl)) rfl) rfl ?_)))) | ((refine Tr.guard_l rfl rfl rfl (by (with_reducible rfl)) ?_); (first | (refine xmQ ?_) | (refine xnQ ?_) | (refine xiQ ?_))) | ((refine Tr.guard_y rfl rfl rfl (by omega) ?_); (first | (refine xmQ ?_) | (refine xwQ ?_) | ((with_reducible refine Knd.buildSlice ?_); (refine Exec.buildSlice (tysOk.get rfl) rfl (tysOk.get rfl) rfl rfl rfl rfl rfl (by repeat (first | exact BuildP.nil | ((apply BuildP.many); (rfl); (rfl); (rfl); (rfl); (repeat (first | exact PutL.nil | ((apply PutL.cons); (repeat (first | exact SetL.z | apply SetL.s)))))))) rfl (fun b => ?_)))))))
 refine pbQ (r := box _ 64 [.int .i64 7, .int .i64 9, .int .i64 0]) (fun M18 hM18 hok18 => ?_)
 have hok18 : (box _ 64 (kyC barK)).ok M18 := hok18
 have hk18 : SlOf 3 RKy M18 (.slice (some ⟨_, 0, none⟩) 1 1) [barK] := SlOf.ofBoxC (sz := 3) (n := 1) (c := 1) (xs := [barK]) hok18 rfl rfl (Nat.le_refl _) (by decide) (kyC_one barK) (kyC_elems M18 [barK])
 have hm1218 := hM13.trans (hM14.trans (hM15'.trans (hM16.trans (hM17.trans hM18))))
 ((refine Tr.guard_y rfl rfl rfl (by omega) ?_)); refine Exec.call0 rfl (sameKys_fn M18 [barK] [barK] _ _ _ 1 (gM12.mono RKy.mono hm1218) hk18) rfl ?_
 rintro _ _ _ ⟨rfl, rfl⟩
 rw [decide_eq_true (rfl : ([barK] : List Ky) = [barK])]
 (refine rQ ?_)
 have hmm := hM15.trans (hM6.trans (hM7.trans (hM8.trans (hM9.trans (hM10.trans (hm1017.trans hM18))))))
 (refine dnQ (hL := by exact ⟨[_, _, _, _, _, _, _, _], rfl⟩) ⟨rfl, ?_⟩)
 rfl
end Go.Proofs.YtlifjajcmnkhfaaGreat

/-
 Refusals: the law RefusalsLeastSpec.
 Conditions: none.
-/
namespace Go.Proofs.YtlifjajcmnkhfaaGreat
open Go Bf
attribute [local irreducible] Tr Exec Stab HasTy Go.Addr.add IntKind.wrap
noncomputable def lsE (w : Wd) (k : Bp) (r : Rq) : Int := open Classical in if askE w k r ≠ 0 then askE w k r else if Feas (pbW w k.known k.sups (k.reqs ++ [r])) then 320 else 0
noncomputable def lsL (w : Wd) (k : Bp) (r : Rq) : List Int := open Classical in if askE w k r ≠ 0 then [] else if Feas (pbW w k.known k.sups (k.reqs ++ [r])) then [] else leF w k r
noncomputable def ckB (w : Wd) (k : Bp) (r : Rq) (l : List Int) : Bool := open Classical in if askE w k r = 0 ∧ chkF w k r l then true else false
theorem LeastV.one {w : Wd} {k : Bp} {r : Rq} {v : Value} {M : Mem} (h : LeastV w k r v M) : ∃ B c, v = .tuple #[.slice B (lsL w k r).length c, .int .i64 (lsE w k r)] ∧ Ints M (.slice B (lsL w k r).length c) (lsL w k r) := by
 rcases h with ⟨h1, rfl⟩ | ⟨h1, -, h2, rfl⟩ | ⟨h1, -, h2, B, c, rfl, h3⟩
 ·have e1 : lsL w k r = [] := by rw [lsL, if_pos h1]
  have e2 : lsE w k r = askE w k r := by rw [lsE, if_pos h1]
  rw [e1, e2]
  exact ⟨none, 0, rfl, SlOf.nil _ _ _⟩
 ·have e1 : lsL w k r = [] := by rw [lsL, if_neg (not_not_intro h1), if_pos h2]
  have e2 : lsE w k r = 320 := by rw [lsE, if_neg (not_not_intro h1), if_pos h2]
  rw [e1, e2]
  exact ⟨none, 0, rfl, SlOf.nil _ _ _⟩
 ·have e1 : lsL w k r = leF w k r := by rw [lsL, if_neg (not_not_intro h1), if_neg h2]
  have e2 : lsE w k r = 0 := by rw [lsE, if_neg (not_not_intro h1), if_neg h2]
  rw [e1, e2]
  exact ⟨B, c, rfl, h3⟩
theorem CheckV.one {w : Wd} {k : Bp} {r : Rq} {l : List Int} {v : Value} (h : CheckV w k r l v) : v = .tuple #[.bool (ckB w k r l), .int .i64 (askE w k r)] := by
 rcases h with ⟨h1, rfl⟩ | ⟨h1, -, p, rfl, hp⟩
 ·have e : ckB w k r l = false := if_neg fun h => h1 h.1
  rw [e]
 ·have e : ckB w k r l = p := by
   cases p with
   | true => exact if_pos ⟨h1, hp.1 rfl⟩
   | false => exact if_neg fun h => (by cases hp.2 h.2)
  rw [e, h1]
set_option maxHeartbeats 8000000 in
set_option maxRecDepth 20000 in
theorem leastlaw_fn (M : Mem) (ws : List Value) (w : Wd) (hw : RWd M ws w) (v : Value) (k : Bp) (hk : RBp M v k) (r : Rq) (A : Option Addr) (c : Nat) (l : List Int) (hl : Ints M (.slice A l.length c) l) :
  Fn0 Tryz.prog 3 [.agg ws.toArray, v, .agg #[.int .i64 r.no, .int .i64 r.item, .int .i64 r.cust, .int .i64 r.due, .int .i64 r.shelf, .int .i64 r.amount], .slice A l.length c] M (fun v _ => v = .bool true) := by
 have h11 := hw.len
 have hll := hl.len_le
 obtain ⟨As, cs, Ar, cr, Af, cf, Ad, cd, rfl, h1, h2, h3, h4⟩ := id hk
 refine Fn.intro Tryz.func3 rfl rfl Tryz.ntmps3 rfl fun E F => ?_
 (repeat (first | ((with_reducible refine Tr.step rfl ?_); (first | (refine xaQ ?_) | ((with_reducible refine Knd.box ?_); (refine Exec.box rfl rfl (fun b => ?_))))) | (with_reducible first | apply Tr.next | apply Tr.seq | apply Tr.region | apply Tr.nil)))
 ((refine Tr.step rfl ?_)); refine Exec.call0 rfl (sane_fn M) rfl ?_
 rintro _ M1 hm1 rfl
 (repeat (first | ((with_reducible refine Tr.step rfl ?_); (first | ((with_reducible refine Knd.load ?_); (first | (refine xwQ ?_) | (refine Exec.stab rfl (Stab.loadW rfl (tysOk.get rfl) rfl (by repeat (first | exact Has.here | apply Has.there)) (by assumption)) rfl ?_))) | ((with_reducible refine Knd.unOp ?_); (refine Exec.stab rfl (Stab.not rfl) rfl ?_)))) | (with_reducible first | apply Tr.next | apply Tr.seq | apply Tr.region | apply Tr.nil | apply Tr.skip) | (refine Tr.cond_bf rfl (by first | (with_reducible rfl) | (with_reducible exact Bool.not_true)) ?_)))
 ((refine Tr.step rfl ?_)); refine Exec.call0 rfl (few32_fn M1 ws w (hw.mono hm1) _ k (hk.mono hm1)) rfl ?_
 rintro _ _ hm ⟨⟨q, rfl, hq⟩, rfl⟩
 cases q
 ·(refine rQ ?_)
  (refine dnQ (hL := by exact ⟨[_, _, _], rfl⟩) ⟨rfl, ?_⟩)
  rfl
 have hq := hq rfl
 have hfew : k.sups.length ≤ 5 ∧ k.reqs.length ≤ 5 := ⟨hq.sl, hq.rl⟩
 by_cases h12 : 12 < l.length
 ·(refine rQ ?_)
  (refine dnQ (hL := by exact ⟨[_, _, _], rfl⟩) ⟨rfl, ?_⟩)
  rfl
 have hlt : l.length ≤ 12 := by omega
 (repeat (first | ((with_reducible refine Tr.step rfl ?_); (first | (refine xmQ ?_) | ((with_reducible refine Knd.load ?_); (first | (refine xwQ ?_) | (refine Exec.stab rfl (Stab.loadW rfl (tysOk.get rfl) rfl (by repeat (first | exact Has.here | apply Has.there)) (by assumption)) rfl ?_))) | ((with_reducible refine Knd.pick ?_); (refine Exec.stab rfl (Stab.pick_f rfl (by (with_reducible exact Bool.not_true)) rfl) rfl ?_)) | ((with_reducible refine Knd.unOp ?_); (refine Exec.stab rfl (Stab.not rfl) rfl ?_)))) | (with_reducible first | apply Tr.next | apply Tr.seq | apply Tr.region | apply Tr.nil) | ((refine Tr.guard_l rfl rfl rfl (by first | (with_reducible rfl) | (with_reducible exact Bool.not_true)) ?_); (first | (refine xmQ ?_) | (refine xnQ ?_) | (refine xiQ ?_))) | (with_reducible refine Tr.skip ?_) | (refine Tr.cond_f rfl (by first | (with_reducible assumption) | omega) ?_)))
 ((refine Tr.step rfl ?_)); refine Exec.call0 rfl (least_fn M1 ws w (hw.mono hm1) _ k (hk.mono hm1) r) rfl ?_
 rintro _ M2 hm2 hlv
 have hm02 := hm1.trans hm2
 obtain ⟨B, kk, rfl, hB⟩ := hlv.one
 (repeat (first | ((with_reducible refine Tr.step rfl ?_); (first | (refine xmQ ?_) | (refine xaQ ?_) | ((with_reducible refine Knd.load ?_); (first | (refine xwQ ?_) | (refine Exec.stab rfl (Stab.loadW rfl (tysOk.get rfl) rfl (by repeat (first | exact Has.here | apply Has.there)) (by assumption)) rfl ?_))) | ((with_reducible refine Knd.extract ?_); (refine Exec.stab rfl (Stab.extract rfl rfl) rfl ?_)))) | (with_reducible first | apply Tr.next | apply Tr.seq | apply Tr.region | apply Tr.nil)))
 ((refine Tr.step rfl ?_)); refine Exec.call0 rfl (rleast_fn M2 ws w (hw.mono hm02) _ k (hk.mono hm02) hfew r) rfl ?_
 rintro _ M3 hm3 hlv3
 have hm03 := hm02.trans hm3
 obtain ⟨C, cc, rfl, hC⟩ := hlv3.one
 (repeat (first | ((with_reducible refine Tr.step rfl ?_); (first | (refine xmQ ?_) | (refine xaQ ?_) | ((with_reducible refine Knd.load ?_); (first | (refine xwQ ?_) | (refine Exec.stab rfl (Stab.loadW rfl (tysOk.get rfl) rfl (by repeat (first | exact Has.here | apply Has.there)) (by assumption)) rfl ?_))) | ((with_reducible refine Knd.extract ?_); (refine Exec.stab rfl (Stab.extract rfl rfl) rfl ?_)))) | (with_reducible first | apply Tr.next | apply Tr.seq | apply Tr.region | apply Tr.nil)))
 ((refine Tr.step rfl ?_)); refine Exec.call0 rfl (rcheck_fn M3 ws w (hw.mono hm03) _ k (hk.mono hm03) r A c l (hl.mono RI.mono hm03) (by omega)) rfl ?_
 rintro _ M4 hm4 hcv
 have hm04 := hm03.trans hm4
 obtain rfl := hcv.one
 (repeat (first | ((with_reducible refine Tr.step rfl ?_); (first | (refine xmQ ?_) | (refine xaQ ?_) | ((with_reducible refine Knd.load ?_); (first | (refine xwQ ?_) | (refine Exec.stab rfl (Stab.loadW rfl (tysOk.get rfl) rfl (by repeat (first | exact Has.here | apply Has.there)) (by assumption)) rfl ?_))) | ((with_reducible refine Knd.extract ?_); (refine Exec.stab rfl (Stab.extract rfl rfl) rfl ?_)))) | (with_reducible first | apply Tr.next | apply Tr.seq | apply Tr.region | apply Tr.nil)))
 ((refine Tr.step rfl ?_)); refine Exec.call0 rfl (rcheck32_fn M4 ws w (hw.mono hm04) _ k (hk.mono hm04) hfew r A c l (hl.mono RI.mono hm04) (by omega)) rfl ?_
 rintro _ M5 hm5 hcv
 have hm05 := hm04.trans hm5
 obtain rfl := hcv.one
 have hs := sameInts_fn M5 (lsL w k r) (lsL w k r) B C kk cc (hB.mono RI.mono (hm3.trans (hm4.trans hm5))) (hC.mono RI.mono (hm4.trans hm5))
 rw [decide_eq_true (rfl : lsL w k r = lsL w k r)] at hs
 generalize ckB w k r l = p
 generalize lsE w k r = e1
 generalize askE w k r = e2
 (refine rQ ?_)
 ((refine Tr.step rfl ?_)); refine Exec.call0 rfl (hs) rfl ?_
 rintro _ _ hm6 ⟨rfl, rfl⟩
 cases p with
 | false =>
  (repeat (first | ((with_reducible refine Tr.step rfl ?_); (first | (refine xmQ ?_) | (refine xaQ ?_) | ((with_reducible refine Knd.pick ?_); (first | (refine Exec.stab rfl (Stab.pick_t rfl (by (with_reducible rfl)) rfl) rfl ?_) | (refine Exec.stab rfl (Stab.pick_td rfl (by (with_reducible rfl)) rfl) rfl ?_))))) | (with_reducible first | apply Tr.next | apply Tr.nil) | ((refine Tr.guard_l rfl rfl rfl (by (with_reducible rfl)) ?_); (first | (refine xmQ ?_) | (refine xiQ ?_))) | ((refine Tr.guard_y rfl rfl rfl (by first | (with_reducible assumption) | (with_reducible rfl)) ?_); (first | (refine xmQ ?_) | ((with_reducible refine Knd.binOp ?_); (first | (refine xiQ ?_) | (refine Exec.stab rfl (Stab.booleq rfl rfl (tysOk.get rfl) rfl) rfl ?_))))) | (with_reducible refine Tr.ret ?_)))
  (refine dnQ (hL := by exact ⟨[_, _, _], rfl⟩) ⟨rfl, ?_⟩)
  first | rfl | (simp; rfl)
 | true =>
  (repeat (first | ((with_reducible refine Tr.step rfl ?_); (first | (refine xmQ ?_) | (refine xaQ ?_) | ((with_reducible refine Knd.pick ?_); (first | (refine Exec.stab rfl (Stab.pick_t rfl (by (with_reducible rfl)) rfl) rfl ?_) | (refine Exec.stab rfl (Stab.pick_td rfl (by (with_reducible rfl)) rfl) rfl ?_))))) | (with_reducible first | apply Tr.next | apply Tr.nil) | ((refine Tr.guard_l rfl rfl rfl (by (with_reducible rfl)) ?_); (first | (refine xmQ ?_) | (refine xiQ ?_))) | ((refine Tr.guard_y rfl rfl rfl (by first | (with_reducible assumption) | (with_reducible rfl)) ?_); (first | (refine xmQ ?_) | ((with_reducible refine Knd.binOp ?_); (first | (refine xiQ ?_) | (refine Exec.stab rfl (Stab.booleq rfl rfl (tysOk.get rfl) rfl) rfl ?_))))) | (with_reducible refine Tr.ret ?_)))
  (refine dnQ (hL := by exact ⟨[_, _, _], rfl⟩) ⟨rfl, ?_⟩)
  first | rfl | (simp; rfl)
end Go.Proofs.YtlifjajcmnkhfaaGreat

/-
 Worlds, books, requests: how the arguments of the laws read.
 Conditions: none.
-/
namespace Go.Proofs.YtlifjajcmnkhfaaGreat
open Go Bf
open Go.ChangeShapes Go.WideShapes Go.ChangeAt Go.RowKit
set_option maxRecDepth 100000
section
variable {H : Type} {enc : TypeId × Value → H} {W : World} {base : Nat} {v : Value} {w : World} {sp : Nat → Bool} {held : Bool}
theorem uINT : Tryz.prog.underlying 3 = some (.int .i64) := (tysOk.get (t := 3) rfl).1
theorem uB : Tryz.prog.underlying 4 = some (.bool) := (tysOk.get (t := 4) rfl).1
theorem uSTR : Tryz.prog.underlying 9 = some (.string) := (tysOk.get (t := 9) rfl).1
theorem uSW : Tryz.prog.underlying 29 = some (.slice 181) := (tysOk.get (t := 29) rfl).1
theorem uFA : Tryz.prog.underlying 36 = some (.slice 71) := (tysOk.get (t := 36) rfl).1
theorem uSPS : Tryz.prog.underlying 39 = some (.slice 73) := (tysOk.get (t := 39) rfl).1
theorem uRQS : Tryz.prog.underlying 40 = some (.slice 46) := (tysOk.get (t := 40) rfl).1
theorem uFT : Tryz.prog.underlying 41 = some (.slice 120) := (tysOk.get (t := 41) rfl).1
theorem uRDS : Tryz.prog.underlying 42 = some (.slice 104) := (tysOk.get (t := 42) rfl).1
theorem uROW : Tryz.prog.underlying 120 = some (.slice 4) := (tysOk.get (t := 120) rfl).1
theorem uLV : Tryz.prog.underlying 32 = some (.slice 3) := (tysOk.get (t := 32) rfl).1
theorem uS0 : ∃ e, Tryz.prog.underlying 22 = some (.slice e) := ⟨_, (tysOk.get (t := 22) rfl).1⟩
theorem uS1 : ∃ e, Tryz.prog.underlying 23 = some (.slice e) := ⟨_, (tysOk.get (t := 23) rfl).1⟩
theorem uS2 : ∃ e, Tryz.prog.underlying 24 = some (.slice e) := ⟨_, (tysOk.get (t := 24) rfl).1⟩
theorem uS3 : ∃ e, Tryz.prog.underlying 25 = some (.slice e) := ⟨_, (tysOk.get (t := 25) rfl).1⟩
theorem uS4 : ∃ e, Tryz.prog.underlying 26 = some (.slice e) := ⟨_, (tysOk.get (t := 26) rfl).1⟩
theorem uS5 : ∃ e, Tryz.prog.underlying 27 = some (.slice e) := ⟨_, (tysOk.get (t := 27) rfl).1⟩
theorem uS6 : ∃ e, Tryz.prog.underlying 28 = some (.slice e) := ⟨_, (tysOk.get (t := 28) rfl).1⟩
theorem uCD : ∃ e, Tryz.prog.underlying 33 = some (.slice e) := ⟨_, (tysOk.get (t := 33) rfl).1⟩
theorem cINT : Tryz.prog.cellsOf 3 = 1 := by kernel_rfl
theorem cB : Tryz.prog.cellsOf 4 = 1 := by kernel_rfl
theorem cSTR : Tryz.prog.cellsOf 9 = 1 := by kernel_rfl
theorem cSW : Tryz.prog.cellsOf 29 = 1 := by kernel_rfl
theorem cFA : Tryz.prog.cellsOf 36 = 1 := by kernel_rfl
theorem cSPS : Tryz.prog.cellsOf 39 = 1 := by kernel_rfl
theorem cRQS : Tryz.prog.cellsOf 40 = 1 := by kernel_rfl
theorem cFT : Tryz.prog.cellsOf 41 = 1 := by kernel_rfl
theorem cRDS : Tryz.prog.cellsOf 42 = 1 := by kernel_rfl
theorem cROW : Tryz.prog.cellsOf 120 = 1 := by kernel_rfl
theorem cLV : Tryz.prog.cellsOf 32 = 1 := by kernel_rfl
theorem cCD : Tryz.prog.cellsOf 33 = 1 := by kernel_rfl
theorem cS0 : Tryz.prog.cellsOf 22 = 1 := by kernel_rfl
theorem cS1 : Tryz.prog.cellsOf 23 = 1 := by kernel_rfl
theorem cS2 : Tryz.prog.cellsOf 24 = 1 := by kernel_rfl
theorem cS3 : Tryz.prog.cellsOf 25 = 1 := by kernel_rfl
theorem cS4 : Tryz.prog.cellsOf 26 = 1 := by kernel_rfl
theorem cS5 : Tryz.prog.cellsOf 27 = 1 := by kernel_rfl
theorem cS6 : Tryz.prog.cellsOf 28 = 1 := by kernel_rfl
theorem cW : Tryz.prog.cellsOf 38 = 11 := by kernel_rfl
theorem cTB : Tryz.prog.cellsOf 35 = 10 := by kernel_rfl
theorem cSRC : Tryz.prog.cellsOf 31 = 8 := by kernel_rfl
theorem cBK : Tryz.prog.cellsOf 44 = 5 := by kernel_rfl
theorem cRQ : Tryz.prog.cellsOf 46 = 6 := by kernel_rfl
theorem cSP : Tryz.prog.cellsOf 73 = 6 := by kernel_rfl
theorem cRD : Tryz.prog.cellsOf 104 = 5 := by kernel_rfl
theorem cFC : Tryz.prog.cellsOf 71 = 8 := by kernel_rfl
theorem cKEY : Tryz.prog.cellsOf 64 = 3 := by kernel_rfl
theorem cSPAN : Tryz.prog.cellsOf 69 = 2 := by kernel_rfl
theorem cSWE : Tryz.prog.cellsOf 181 = 4 := by kernel_rfl
theorem int_bounds {n : Int} (hw : (Lit.int .i64 n).wf = true) : -9223372036854775808 ≤ n ∧ n ≤ 9223372036854775807 := by
 have hmin : IntKind.i64.min = -9223372036854775808 := by decide
 have hmax : IntKind.i64.max = 9223372036854775807 := by decide
 simpa [Lit.wf, hmin, hmax] using hw
theorem one_slice {t e : TypeId} {fuel : Nat} {v : Value} {x : DataW H × List MemPlace} (hu : Tryz.prog.underlying t = some (.slice e)) (h : DataW.trod enc Tryz.prog w 0 sp held fuel t [v] = some x) : v.oneCell' = true := by
 rcases read_slice hu h with rfl | ⟨a, len, cap, f, rfl, -⟩ <;> rfl
theorem lenL3 {l : List Value} (h : l.length = 3) : ∃ a0 a1 a2, l = [a0, a1, a2] := by
 match l, h with
 | [a0, a1, a2], _ => exact ⟨a0, a1, a2, rfl⟩
theorem lenL4 {l : List Value} (h : l.length = 4) : ∃ a0 a1 a2 a3, l = [a0, a1, a2, a3] := by
 match l, h with
 | [a0, a1, a2, a3], _ => exact ⟨a0, a1, a2, a3, rfl⟩
theorem lenL5 {l : List Value} (h : l.length = 5) : ∃ a0 a1 a2 a3 a4, l = [a0, a1, a2, a3, a4] := by
 match l, h with
 | [a0, a1, a2, a3, a4], _ => exact ⟨a0, a1, a2, a3, a4, rfl⟩
theorem lenL6 {l : List Value} (h : l.length = 6) : ∃ a0 a1 a2 a3 a4 a5, l = [a0, a1, a2, a3, a4, a5] := by
 match l, h with
 | [a0, a1, a2, a3, a4, a5], _ => exact ⟨a0, a1, a2, a3, a4, a5, rfl⟩
theorem lenL8 {l : List Value} (h : l.length = 8) : ∃ a0 a1 a2 a3 a4 a5 a6 a7, l = [a0, a1, a2, a3, a4, a5, a6, a7] := by
 match l, h with
 | [a0, a1, a2, a3, a4, a5, a6, a7], _ => exact ⟨a0, a1, a2, a3, a4, a5, a6, a7, rfl⟩
theorem lenL11 {l : List Value} (h : l.length = 11) : ∃ a0 a1 a2 a3 a4 a5 a6 a7 a8 a9 a10, l = [a0, a1, a2, a3, a4, a5, a6, a7, a8, a9, a10] := by
 match l, h with
 | [a0, a1, a2, a3, a4, a5, a6, a7, a8, a9, a10], _ => exact ⟨a0, a1, a2, a3, a4, a5, a6, a7, a8, a9, a10, rfl⟩
theorem open_key {cs : List Value} {fuel : Nat} {x : DataW H × List MemPlace} (h : DataW.trod enc Tryz.prog w 0 sp held fuel 64 cs = some x) : ∃ z0 z1 z2 : Int, cs = [.int .i64 z0, .int .i64 z1, .int .i64 z2] ∧ -9223372036854775808 ≤ z2 ∧ z2 ≤ 9223372036854775807 := by
 obtain ⟨hl, g, hg⟩ := read_struct Tryz.underlying64 h
 rw [cKEY] at hl
 obtain ⟨a0, a1, a2, rfl⟩ := lenL3 hl
 obtain ⟨y0, h0⟩ : ∃ y, DataW.trod enc Tryz.prog w 0 sp held g 3 (([a0, a1, a2].drop 0).take (Tryz.prog.cellsOf 3)) = some y := hg 0 _ rfl
 rw [cINT] at h0
 obtain ⟨y1, h1⟩ : ∃ y, DataW.trod enc Tryz.prog w 0 sp held g 3 (([a0, a1, a2].drop 1).take (Tryz.prog.cellsOf 3)) = some y := hg 1 _ rfl
 rw [cINT] at h1
 obtain ⟨y2, h2⟩ : ∃ y, DataW.trod enc Tryz.prog w 0 sp held g 3 (([a0, a1, a2].drop 2).take (Tryz.prog.cellsOf 3)) = some y := hg 2 _ rfl
 rw [cINT] at h2
 obtain ⟨n0, e0, b0⟩ := read_int uINT h0
 obtain ⟨n1, e1, b1⟩ := read_int uINT h1
 obtain ⟨n2, e2, b2⟩ := read_int uINT h2
 cases e0
 cases e1
 cases e2
 exact ⟨_, _, _, rfl, int_bounds b2⟩
theorem open_rq {cs : List Value} {fuel : Nat} {x : DataW H × List MemPlace} (h : DataW.trod enc Tryz.prog w 0 sp held fuel 46 cs = some x) : ∃ z0 z1 z2 z3 z4 z5 : Int, cs = [.int .i64 z0, .int .i64 z1, .int .i64 z2, .int .i64 z3, .int .i64 z4, .int .i64 z5] ∧ -9223372036854775808 ≤ z5 ∧ z5 ≤ 9223372036854775807 := by
 obtain ⟨hl, g, hg⟩ := read_struct Tryz.underlying46 h
 rw [cRQ] at hl
 obtain ⟨a0, a1, a2, a3, a4, a5, rfl⟩ := lenL6 hl
 obtain ⟨y0, h0⟩ : ∃ y, DataW.trod enc Tryz.prog w 0 sp held g 3 (([a0, a1, a2, a3, a4, a5].drop 0).take (Tryz.prog.cellsOf 3)) = some y := hg 0 _ rfl
 rw [cINT] at h0
 obtain ⟨y1, h1⟩ : ∃ y, DataW.trod enc Tryz.prog w 0 sp held g 3 (([a0, a1, a2, a3, a4, a5].drop 1).take (Tryz.prog.cellsOf 3)) = some y := hg 1 _ rfl
 rw [cINT] at h1
 obtain ⟨y2, h2⟩ : ∃ y, DataW.trod enc Tryz.prog w 0 sp held g 3 (([a0, a1, a2, a3, a4, a5].drop 2).take (Tryz.prog.cellsOf 3)) = some y := hg 2 _ rfl
 rw [cINT] at h2
 obtain ⟨y3, h3⟩ : ∃ y, DataW.trod enc Tryz.prog w 0 sp held g 3 (([a0, a1, a2, a3, a4, a5].drop 3).take (Tryz.prog.cellsOf 3)) = some y := hg 3 _ rfl
 rw [cINT] at h3
 obtain ⟨y4, h4⟩ : ∃ y, DataW.trod enc Tryz.prog w 0 sp held g 3 (([a0, a1, a2, a3, a4, a5].drop 4).take (Tryz.prog.cellsOf 3)) = some y := hg 4 _ rfl
 rw [cINT] at h4
 obtain ⟨y5, h5⟩ : ∃ y, DataW.trod enc Tryz.prog w 0 sp held g 3 (([a0, a1, a2, a3, a4, a5].drop 5).take (Tryz.prog.cellsOf 3)) = some y := hg 5 _ rfl
 rw [cINT] at h5
 obtain ⟨n0, e0, b0⟩ := read_int uINT h0
 obtain ⟨n1, e1, b1⟩ := read_int uINT h1
 obtain ⟨n2, e2, b2⟩ := read_int uINT h2
 obtain ⟨n3, e3, b3⟩ := read_int uINT h3
 obtain ⟨n4, e4, b4⟩ := read_int uINT h4
 obtain ⟨n5, e5, b5⟩ := read_int uINT h5
 cases e0
 cases e1
 cases e2
 cases e3
 cases e4
 cases e5
 exact ⟨_, _, _, _, _, _, rfl, int_bounds b5⟩
theorem open_sp {cs : List Value} {fuel : Nat} {x : DataW H × List MemPlace} (h : DataW.trod enc Tryz.prog w 0 sp held fuel 73 cs = some x) : ∃ z0 z1 z2 z3 z4 z5 : Int, cs = [.int .i64 z0, .int .i64 z1, .int .i64 z2, .int .i64 z3, .int .i64 z4, .int .i64 z5] ∧ -9223372036854775808 ≤ z5 ∧ z5 ≤ 9223372036854775807 := by
 obtain ⟨hl, g, hg⟩ := read_struct Tryz.underlying73 h
 rw [cSP] at hl
 obtain ⟨a0, a1, a2, a3, a4, a5, rfl⟩ := lenL6 hl
 obtain ⟨y0, h0⟩ : ∃ y, DataW.trod enc Tryz.prog w 0 sp held g 3 (([a0, a1, a2, a3, a4, a5].drop 0).take (Tryz.prog.cellsOf 3)) = some y := hg 0 _ rfl
 rw [cINT] at h0
 obtain ⟨y1, h1⟩ : ∃ y, DataW.trod enc Tryz.prog w 0 sp held g 3 (([a0, a1, a2, a3, a4, a5].drop 1).take (Tryz.prog.cellsOf 3)) = some y := hg 1 _ rfl
 rw [cINT] at h1
 obtain ⟨y2, h2⟩ : ∃ y, DataW.trod enc Tryz.prog w 0 sp held g 3 (([a0, a1, a2, a3, a4, a5].drop 2).take (Tryz.prog.cellsOf 3)) = some y := hg 2 _ rfl
 rw [cINT] at h2
 obtain ⟨y3, h3⟩ : ∃ y, DataW.trod enc Tryz.prog w 0 sp held g 3 (([a0, a1, a2, a3, a4, a5].drop 3).take (Tryz.prog.cellsOf 3)) = some y := hg 3 _ rfl
 rw [cINT] at h3
 obtain ⟨y4, h4⟩ : ∃ y, DataW.trod enc Tryz.prog w 0 sp held g 3 (([a0, a1, a2, a3, a4, a5].drop 4).take (Tryz.prog.cellsOf 3)) = some y := hg 4 _ rfl
 rw [cINT] at h4
 obtain ⟨y5, h5⟩ : ∃ y, DataW.trod enc Tryz.prog w 0 sp held g 3 (([a0, a1, a2, a3, a4, a5].drop 5).take (Tryz.prog.cellsOf 3)) = some y := hg 5 _ rfl
 rw [cINT] at h5
 obtain ⟨n0, e0, b0⟩ := read_int uINT h0
 obtain ⟨n1, e1, b1⟩ := read_int uINT h1
 obtain ⟨n2, e2, b2⟩ := read_int uINT h2
 obtain ⟨n3, e3, b3⟩ := read_int uINT h3
 obtain ⟨n4, e4, b4⟩ := read_int uINT h4
 obtain ⟨n5, e5, b5⟩ := read_int uINT h5
 cases e0
 cases e1
 cases e2
 cases e3
 cases e4
 cases e5
 exact ⟨_, _, _, _, _, _, rfl, int_bounds b5⟩
theorem open_rd {cs : List Value} {fuel : Nat} {x : DataW H × List MemPlace} (h : DataW.trod enc Tryz.prog w 0 sp held fuel 104 cs = some x) : ∃ z0 z1 z2 z3 z4 : Int, cs = [.int .i64 z0, .int .i64 z1, .int .i64 z2, .int .i64 z3, .int .i64 z4] ∧ -9223372036854775808 ≤ z4 ∧ z4 ≤ 9223372036854775807 := by
 obtain ⟨hl, g, hg⟩ := read_struct Tryz.underlying104 h
 rw [cRD] at hl
 obtain ⟨a0, a1, a2, a3, a4, rfl⟩ := lenL5 hl
 obtain ⟨y0, h0⟩ : ∃ y, DataW.trod enc Tryz.prog w 0 sp held g 64 (([a0, a1, a2, a3, a4].drop 0).take (Tryz.prog.cellsOf 64)) = some y := hg 0 _ rfl
 rw [cKEY] at h0
 obtain ⟨y1, h1⟩ : ∃ y, DataW.trod enc Tryz.prog w 0 sp held g 3 (([a0, a1, a2, a3, a4].drop 3).take (Tryz.prog.cellsOf 3)) = some y := hg 1 _ rfl
 rw [cINT] at h1
 obtain ⟨y2, h2⟩ : ∃ y, DataW.trod enc Tryz.prog w 0 sp held g 3 (([a0, a1, a2, a3, a4].drop 4).take (Tryz.prog.cellsOf 3)) = some y := hg 2 _ rfl
 rw [cINT] at h2
 obtain ⟨n0, n1, n2, e0, b0⟩ := open_key h0
 obtain ⟨n3, e1, b1⟩ := read_int uINT h1
 obtain ⟨n4, e2, b2⟩ := read_int uINT h2
 cases e0
 cases e1
 cases e2
 exact ⟨_, _, _, _, _, rfl, int_bounds b2⟩
theorem open_fcb {cs : List Value} {fuel : Nat} {x : DataW H × List MemPlace} (h : DataW.trod enc Tryz.prog w 0 sp held fuel 71 cs = some x) : ∃ z0 z1 z2 z3 z4 z5 z6 z7 : Int, cs = [.int .i64 z0, .int .i64 z1, .int .i64 z2, .int .i64 z3, .int .i64 z4, .int .i64 z5, .int .i64 z6, .int .i64 z7] ∧ (-9223372036854775808 ≤ z4 ∧ z4 ≤ 9223372036854775807) ∧ (-9223372036854775808 ≤ z5 ∧ z5 ≤ 9223372036854775807) := by
 obtain ⟨hl, g, hg⟩ := read_struct Tryz.underlying71 h
 rw [cFC] at hl
 obtain ⟨a0, a1, a2, a3, a4, a5, a6, a7, rfl⟩ := lenL8 hl
 obtain ⟨y0, h0⟩ : ∃ y, DataW.trod enc Tryz.prog w 0 sp held g 64 (([a0, a1, a2, a3, a4, a5, a6, a7].drop 0).take (Tryz.prog.cellsOf 64)) = some y := hg 0 _ rfl
 rw [cKEY] at h0
 obtain ⟨y1, h1⟩ : ∃ y, DataW.trod enc Tryz.prog w 0 sp held g 3 (([a0, a1, a2, a3, a4, a5, a6, a7].drop 3).take (Tryz.prog.cellsOf 3)) = some y := hg 1 _ rfl
 rw [cINT] at h1
 obtain ⟨y2, h2⟩ : ∃ y, DataW.trod enc Tryz.prog w 0 sp held g 69 (([a0, a1, a2, a3, a4, a5, a6, a7].drop 4).take (Tryz.prog.cellsOf 69)) = some y := hg 2 _ rfl
 rw [cSPAN] at h2
 obtain ⟨y3, h3⟩ : ∃ y, DataW.trod enc Tryz.prog w 0 sp held g 3 (([a0, a1, a2, a3, a4, a5, a6, a7].drop 6).take (Tryz.prog.cellsOf 3)) = some y := hg 3 _ rfl
 rw [cINT] at h3
 obtain ⟨y4, h4⟩ : ∃ y, DataW.trod enc Tryz.prog w 0 sp held g 3 (([a0, a1, a2, a3, a4, a5, a6, a7].drop 7).take (Tryz.prog.cellsOf 3)) = some y := hg 4 _ rfl
 rw [cINT] at h4
 obtain ⟨n0, n1, n2, e0, -⟩ := open_key h0
 obtain ⟨n3, e1, -⟩ := read_int uINT h1
 obtain ⟨hl2, g2, hg2⟩ := read_struct Tryz.underlying69 h2
 obtain ⟨y5, k0⟩ : ∃ y, DataW.trod enc Tryz.prog w 0 sp held g2 3 (([a4, a5].drop 0).take (Tryz.prog.cellsOf 3)) = some y := hg2 0 _ rfl
 rw [cINT] at k0
 obtain ⟨y6, k1⟩ : ∃ y, DataW.trod enc Tryz.prog w 0 sp held g2 3 (([a4, a5].drop 1).take (Tryz.prog.cellsOf 3)) = some y := hg2 1 _ rfl
 rw [cINT] at k1
 obtain ⟨n4, e4, b4⟩ := read_int uINT k0
 obtain ⟨n5, e5, b5⟩ := read_int uINT k1
 obtain ⟨n6, e6, -⟩ := read_int uINT h3
 obtain ⟨n7, e7, -⟩ := read_int uINT h4
 cases e0
 cases e1
 cases e4
 cases e5
 cases e6
 cases e7
 exact ⟨_, _, _, _, _, _, _, _, rfl, int_bounds b4, int_bounds b5⟩
theorem slOf_split {α : Type} {sz : Nat} {R R' : Mem → List Value → α → Prop} {Q : α → Prop} {M : Mem} {v : Value} {xs : List α} (h : SlOf sz R M v xs) (hR : ∀ c x, R M c x → R' M c x ∧ Q x) : SlOf sz R' M v xs ∧ ∀ x ∈ xs, Q x := by
 obtain ⟨A, k, cells, h1, h2, h3, h4, hr, he⟩ := h
 refine ⟨⟨A, k, cells, h1, h2, h3, h4, hr, fun i x hx => (hR _ _ (he i x hx)).1⟩, fun x hx => ?_⟩
 obtain ⟨i, hi, rfl⟩ := List.getElem_of_mem hx
 exact (hR _ _ (he i _ (List.getElem?_eq_getElem hi))).2
def FDay (f : Fc) : Prop := (-9223372036854775808 ≤ f.lo ∧ f.lo ≤ 9223372036854775807) ∧ (-9223372036854775808 ≤ f.hi ∧ f.hi ≤ 9223372036854775807)
theorem open_sw {cs : List Value} {fuel : Nat} {x : DataW H × List MemPlace} (h : DataW.trod enc Tryz.prog w 0 sp held fuel 181 cs = some x) : ∃ (s1 s2 : ByteArray) (a b : Int), cs = [.string s1, .string s2, .int .i64 a, .int .i64 b] := by
 obtain ⟨hl, g, hg⟩ := read_struct Tryz.underlying181 h
 rw [cSWE] at hl
 obtain ⟨a0, a1, a2, a3, rfl⟩ := lenL4 hl
 obtain ⟨y0, h0⟩ : ∃ y, DataW.trod enc Tryz.prog w 0 sp held g 9 (([a0, a1, a2, a3].drop 0).take (Tryz.prog.cellsOf 9)) = some y := hg 0 _ rfl
 rw [cSTR] at h0
 obtain ⟨y1, h1⟩ : ∃ y, DataW.trod enc Tryz.prog w 0 sp held g 9 (([a0, a1, a2, a3].drop 1).take (Tryz.prog.cellsOf 9)) = some y := hg 1 _ rfl
 rw [cSTR] at h1
 obtain ⟨y2, h2⟩ : ∃ y, DataW.trod enc Tryz.prog w 0 sp held g 3 (([a0, a1, a2, a3].drop 2).take (Tryz.prog.cellsOf 3)) = some y := hg 2 _ rfl
 rw [cINT] at h2
 obtain ⟨y3, h3⟩ : ∃ y, DataW.trod enc Tryz.prog w 0 sp held g 3 (([a0, a1, a2, a3].drop 3).take (Tryz.prog.cellsOf 3)) = some y := hg 3 _ rfl
 rw [cINT] at h3
 obtain ⟨s1, e0, -⟩ := read_string uSTR h0
 obtain ⟨s2, e1, -⟩ := read_string uSTR h1
 obtain ⟨n2, e2, -⟩ := read_int uINT h2
 obtain ⟨n3, e3, -⟩ := read_int uINT h3
 cases e0; cases e1; cases e2; cases e3
 exact ⟨_, _, _, _, rfl⟩
theorem open_world {cs : List Value} {fuel : Nat} {x : DataW H × List MemPlace} (h : DataW.trod enc Tryz.prog w 0 sp held fuel 38 cs = some x) : ∃ d : Wd, RWd (Bf.hp w) cs d ∧ ∀ f ∈ d.facts, FDay f := by
 obtain ⟨hl, g, hg⟩ := read_struct Tryz.underlying38 h
 rw [cW] at hl
 obtain ⟨a0, a1, a2, a3, a4, a5, a6, a7, a8, a9, a10, rfl⟩ := lenL11 hl
 obtain ⟨y0, h0⟩ : ∃ y, DataW.trod enc Tryz.prog w 0 sp held g 35 (([a0, a1, a2, a3, a4, a5, a6, a7, a8, a9, a10].drop 0).take (Tryz.prog.cellsOf 35)) = some y := hg 0 _ rfl
 rw [cTB] at h0
 obtain ⟨y1, h1⟩ : ∃ y, DataW.trod enc Tryz.prog w 0 sp held g 36 (([a0, a1, a2, a3, a4, a5, a6, a7, a8, a9, a10].drop 10).take (Tryz.prog.cellsOf 36)) = some y := hg 1 _ rfl
 rw [cFA] at h1
 have h0 : DataW.trod enc Tryz.prog w 0 sp held g 35 [a0, a1, a2, a3, a4, a5, a6, a7, a8, a9] = some y0 := h0
 obtain ⟨-, g2, hg2⟩ := read_struct Tryz.underlying35 h0
 obtain ⟨z0, k0⟩ : ∃ y, DataW.trod enc Tryz.prog w 0 sp held g2 31 (([a0, a1, a2, a3, a4, a5, a6, a7, a8, a9].drop 0).take (Tryz.prog.cellsOf 31)) = some y := hg2 0 _ rfl
 rw [cSRC] at k0
 obtain ⟨z1, k1⟩ : ∃ y, DataW.trod enc Tryz.prog w 0 sp held g2 32 (([a0, a1, a2, a3, a4, a5, a6, a7, a8, a9].drop 8).take (Tryz.prog.cellsOf 32)) = some y := hg2 1 _ rfl
 rw [cLV] at k1
 obtain ⟨z2, k2⟩ : ∃ y, DataW.trod enc Tryz.prog w 0 sp held g2 33 (([a0, a1, a2, a3, a4, a5, a6, a7, a8, a9].drop 9).take (Tryz.prog.cellsOf 33)) = some y := hg2 2 _ rfl
 rw [cCD] at k2
 have k0 : DataW.trod enc Tryz.prog w 0 sp held g2 31 [a0, a1, a2, a3, a4, a5, a6, a7] = some z0 := k0
 obtain ⟨-, g3, hg3⟩ := read_struct Tryz.underlying31 k0
 obtain ⟨x0, m0⟩ : ∃ y, DataW.trod enc Tryz.prog w 0 sp held g3 22 (([a0, a1, a2, a3, a4, a5, a6, a7].drop 0).take (Tryz.prog.cellsOf 22)) = some y := hg3 0 _ rfl
 rw [cS0] at m0
 obtain ⟨x1, m1⟩ : ∃ y, DataW.trod enc Tryz.prog w 0 sp held g3 23 (([a0, a1, a2, a3, a4, a5, a6, a7].drop 1).take (Tryz.prog.cellsOf 23)) = some y := hg3 1 _ rfl
 rw [cS1] at m1
 obtain ⟨x2, m2⟩ : ∃ y, DataW.trod enc Tryz.prog w 0 sp held g3 24 (([a0, a1, a2, a3, a4, a5, a6, a7].drop 2).take (Tryz.prog.cellsOf 24)) = some y := hg3 2 _ rfl
 rw [cS2] at m2
 obtain ⟨x3, m3⟩ : ∃ y, DataW.trod enc Tryz.prog w 0 sp held g3 25 (([a0, a1, a2, a3, a4, a5, a6, a7].drop 3).take (Tryz.prog.cellsOf 25)) = some y := hg3 3 _ rfl
 rw [cS3] at m3
 obtain ⟨x4, m4⟩ : ∃ y, DataW.trod enc Tryz.prog w 0 sp held g3 26 (([a0, a1, a2, a3, a4, a5, a6, a7].drop 4).take (Tryz.prog.cellsOf 26)) = some y := hg3 4 _ rfl
 rw [cS4] at m4
 obtain ⟨x5, m5⟩ : ∃ y, DataW.trod enc Tryz.prog w 0 sp held g3 27 (([a0, a1, a2, a3, a4, a5, a6, a7].drop 5).take (Tryz.prog.cellsOf 27)) = some y := hg3 5 _ rfl
 rw [cS5] at m5
 obtain ⟨x6, m6⟩ : ∃ y, DataW.trod enc Tryz.prog w 0 sp held g3 28 (([a0, a1, a2, a3, a4, a5, a6, a7].drop 6).take (Tryz.prog.cellsOf 28)) = some y := hg3 6 _ rfl
 rw [cS6] at m6
 obtain ⟨x7, m7⟩ : ∃ y, DataW.trod enc Tryz.prog w 0 sp held g3 29 (([a0, a1, a2, a3, a4, a5, a6, a7].drop 7).take (Tryz.prog.cellsOf 29)) = some y := hg3 7 _ rfl
 rw [cSW] at m7
 obtain ⟨e0, he0⟩ := uS0
 have o0 := one_slice he0 m0
 obtain ⟨e1, he1⟩ := uS1
 have o1 := one_slice he1 m1
 obtain ⟨e2, he2⟩ := uS2
 have o2 := one_slice he2 m2
 obtain ⟨e3, he3⟩ := uS3
 have o3 := one_slice he3 m3
 obtain ⟨e4, he4⟩ := uS4
 have o4 := one_slice he4 m4
 obtain ⟨e5, he5⟩ := uS5
 have o5 := one_slice he5 m5
 obtain ⟨e6, he6⟩ := uS6
 have o6 := one_slice he6 m6
 have o8 := one_slice uLV k1
 obtain ⟨e9, he9⟩ := uCD
 have o9 := one_slice he9 k2
 obtain ⟨swaps, A, c, rfl, hs⟩ := read_slOf (R := RSw) uSW cSWE (by omega) (fun f cs y hl hy => by
  obtain ⟨s1, s2, p, q, rfl⟩ := open_sw hy
  exact ⟨by intro u hu; simp at hu; rcases hu with rfl | rfl | rfl | rfl <;> rfl, (p, q), s1, s2, rfl⟩) m7
 obtain ⟨facts, B, d, rfl, hf0⟩ := read_slOf (R := fun M c x => RFc M c x ∧ FDay x) uFA cFC (by omega) (fun f cs y hl hy => by
  obtain ⟨z0, z1, z2, z3, z4, z5, z6, z7, rfl, hb1, hb2⟩ := open_fcb hy
  exact ⟨by intro u hu; simp at hu; rcases hu with rfl | rfl | rfl | rfl | rfl | rfl | rfl | rfl <;> rfl, ⟨(z0, z1, z2), z3, z4, z5, z6, z7⟩, rfl, hb1, hb2⟩) h1
 obtain ⟨hf, hfb⟩ := slOf_split (R' := RFc) (Q := FDay) hf0 fun c x hx => hx
 refine ⟨⟨swaps, facts⟩, ⟨rfl, ?_, ⟨A, c, rfl, hs⟩, ⟨B, d, rfl, hf⟩⟩, hfb⟩
 repeat (first | exact AllOne.nil | refine AllOne.cons (by first | assumption | rfl) ?_)
theorem open_book {cs : List Value} {fuel : Nat} {x : DataW H × List MemPlace} (h : DataW.trod enc Tryz.prog w 0 sp held fuel 44 cs = some x) : ∃ k : Bp, RBp (Bf.hp w) (.agg cs.toArray) k := by
 obtain ⟨hl, g, hg⟩ := read_struct Tryz.underlying44 h
 rw [cBK] at hl
 obtain ⟨a0, a1, a2, a3, a4, rfl⟩ := lenL5 hl
 obtain ⟨y0, h0⟩ : ∃ y, DataW.trod enc Tryz.prog w 0 sp held g 3 (([a0, a1, a2, a3, a4].drop 0).take (Tryz.prog.cellsOf 3)) = some y := hg 0 _ rfl
 rw [cINT] at h0
 obtain ⟨y1, h1⟩ : ∃ y, DataW.trod enc Tryz.prog w 0 sp held g 39 (([a0, a1, a2, a3, a4].drop 1).take (Tryz.prog.cellsOf 39)) = some y := hg 1 _ rfl
 rw [cSPS] at h1
 obtain ⟨y2, h2⟩ : ∃ y, DataW.trod enc Tryz.prog w 0 sp held g 40 (([a0, a1, a2, a3, a4].drop 2).take (Tryz.prog.cellsOf 40)) = some y := hg 2 _ rfl
 rw [cRQS] at h2
 obtain ⟨y3, h3⟩ : ∃ y, DataW.trod enc Tryz.prog w 0 sp held g 41 (([a0, a1, a2, a3, a4].drop 3).take (Tryz.prog.cellsOf 41)) = some y := hg 3 _ rfl
 rw [cFT] at h3
 obtain ⟨y4, h4⟩ : ∃ y, DataW.trod enc Tryz.prog w 0 sp held g 42 (([a0, a1, a2, a3, a4].drop 4).take (Tryz.prog.cellsOf 42)) = some y := hg 4 _ rfl
 rw [cRDS] at h4
 obtain ⟨n0, e0, -⟩ := read_int uINT h0
 cases e0
 obtain ⟨sups, As, ca, rfl, hs⟩ := read_slOf (R := RSpC) uSPS cSP (by omega) (fun f cs y hl hy => by
  obtain ⟨z0, z1, z2, z3, z4, z5, rfl, -⟩ := open_sp hy
  exact ⟨by intro u hu; simp at hu; rcases hu with rfl | rfl | rfl | rfl | rfl | rfl <;> rfl, ⟨z0, z1, z2, z3, z4, z5⟩, rfl⟩) h1
 obtain ⟨reqs, Ar, cr, rfl, hr⟩ := read_slOf (R := RRqC) uRQS cRQ (by omega) (fun f cs y hl hy => by
  obtain ⟨z0, z1, z2, z3, z4, z5, rfl, -⟩ := open_rq hy
  exact ⟨by intro u hu; simp at hu; rcases hu with rfl | rfl | rfl | rfl | rfl | rfl <;> rfl, ⟨z0, z1, z2, z3, z4, z5⟩, rfl⟩) h2
 obtain ⟨fits, Af, cf, rfl, hf⟩ := read_slOf (R := RRowB) uFT cROW (by omega) (fun f cs y hl hy => by
  obtain ⟨a, rfl⟩ := List.length_eq_one_iff.1 hl
  obtain ⟨l, A, c, rfl, hs⟩ := read_slOf (R := RBo) uROW cB (by omega) (fun f cs y hl hy => by
   obtain ⟨b, rfl⟩ := read_bool uB hy
   exact ⟨by intro u hu; simp at hu; subst hu; rfl, b, rfl⟩) hy
  exact ⟨by intro u hu; simp at hu; subst hu; rfl, l, A, c, rfl, hs⟩) h3
 obtain ⟨rds, Ad, cd, rfl, hd⟩ := read_slOf (R := RRd) uRDS cRD (by omega) (fun f cs y hl hy => by
  obtain ⟨z0, z1, z2, z3, z4, rfl, -⟩ := open_rd hy
  exact ⟨by intro u hu; simp at hu; rcases hu with rfl | rfl | rfl | rfl | rfl <;> rfl, ((z0, z1, z2), z3, z4), rfl⟩) h4
 exact ⟨⟨n0, sups, reqs, fits, rds⟩, As, ca, Ar, cr, Af, cf, Ad, cd, rfl, hs, hr, hf, hd⟩
theorem arg_world (h : Arg enc Tryz.prog W base 38 v) : ∃ ws d, v = .agg ws.toArray ∧ RWd (Bf.hp W) ws d ∧ ∀ f ∈ d.facts, FDay f := by
 obtain ⟨k0, f0, x, g0⟩ := h
 unfold Value.okWide at k0
 rw [Tryz.underlying38] at k0
 obtain ⟨cs, rfl, -, -⟩ := k0
 obtain ⟨d, hd⟩ := open_world (cs := cs.toList) (by simpa [Value.cells] using g0)
 exact ⟨cs.toList, d, by simp, hd⟩
theorem arg_book (h : Arg enc Tryz.prog W base 44 v) : ∃ k, RBp (Bf.hp W) v k := by
 obtain ⟨k0, f0, x, g0⟩ := h
 unfold Value.okWide at k0
 rw [Tryz.underlying44] at k0
 obtain ⟨cs, rfl, -, -⟩ := k0
 obtain ⟨dk, hdk⟩ := open_book g0
 exact ⟨dk, by simpa [Value.cells] using hdk⟩
theorem arg_req (h : Arg enc Tryz.prog W base 46 v) : ∃ r : Rq, v = .agg #[.int .i64 r.no, .int .i64 r.item, .int .i64 r.cust, .int .i64 r.due, .int .i64 r.shelf, .int .i64 r.amount] ∧ -9223372036854775808 ≤ r.amount ∧ r.amount ≤ 9223372036854775807 := by
 obtain ⟨k0, f0, x, g0⟩ := h
 unfold Value.okWide at k0
 rw [Tryz.underlying46] at k0
 obtain ⟨cs, rfl, -, -⟩ := k0
 obtain ⟨z0, z1, z2, z3, z4, z5, e, hb⟩ := open_rq (cs := cs.toList) (by simpa [Value.cells] using g0)
 refine ⟨⟨z0, z1, z2, z3, z4, z5⟩, ?_, hb⟩
 have : cs = cs.toList.toArray := by simp
 rw [this, e]
theorem arg_ints (h : Arg enc Tryz.prog W base 32 v) : ∃ (l : List Int) (A : Option Addr) (c : Nat), v = .slice A l.length c ∧ Ints (Bf.hp W) (.slice A l.length c) l := by
 obtain ⟨k0, f0, x, g0⟩ := h
 obtain ⟨A, len, cap, rfl⟩ := okWide_slice uLV k0
 exact read_slOf (R := RI) uLV cINT (by omega) (fun f cs y hl hy => by
  obtain ⟨n, rfl, -⟩ := read_int uINT hy
  exact ⟨by intro u hu; simp at hu; subst hu; rfl, n, rfl⟩) (by simpa [Value.cells] using g0)
end
theorem len3 {l : List Value} (h : l.length = 3) : ∃ a b c, l = [a, b, c] := lenL3 h
theorem len4 {l : List Value} (h : l.length = 4) : ∃ a b c d, l = [a, b, c, d] := lenL4 h
theorem ownT' : ownKnob Tryz.checked.prog.godebug = none := by kernel_rfl
theorem laidT' : laidOutB Tryz.checked.prog = true := by kernel_rfl
end Go.Proofs.YtlifjajcmnkhfaaGreat

