/-
  Matching: the contract of Flow.
  Conditions: none.
-/
import Derived.Test.YtmioocddmlfboaaM17
namespace Go.Proofs.Ytmioocddmlfboaa
open Go Bf
attribute [local irreducible] Tr Exec Stab HasTy Go.Addr.add IntKind.wrap
set_option maxHeartbeats 8000000 in
set_option maxRecDepth 20000 in
theorem flow_fn (M : Mem) (A0 A1 A2 : Option Addr) (c0 c1 c2 : Nat) (fits : List (List Bool)) (sup need : List Int) (hf : Fits2 M (.slice A0 fits.length c0) fits) (hs : Ints M (.slice A1 sup.length c1) sup) (hn : Ints M (.slice A2 need.length c2) need) (rs : I64s sup) (rn : I64s need) :
    Fn0 Try.prog 15 [.slice A0 fits.length c0, .slice A1 sup.length c1, .slice A2 need.length c2] M (fun r M' => FlowR fits sup need r M') := by
  refine Fn.intro Try.func15 rfl rfl Try.ntmps15 rfl fun E F => ?_
  repeat (first | ((with_reducible refine Tr.step rfl ?_); (first | ((with_reducible refine Knd.move ?_); (refine Exec.stab rfl (Stab.move rfl) rfl ?_)) | ((with_reducible refine Knd.assign ?_); (refine Exec.stab rfl (Stab.assign rfl) rfl ?_)))) | (with_reducible refine Tr.next ?_) | (with_reducible refine Tr.seq ?_) | (with_reducible refine Tr.region ?_) | (with_reducible refine Tr.nil ?_))
  ((refine Tr.step rfl ?_)); refine Exec.call0 rfl (valid_fn M A0 A1 A2 c0 c1 c2 fits sup need hf hs hn rs rn) rfl ?_
  rintro _ _ _ ⟨rfl, rfl⟩
  cases hvv : validF fits sup need
  · repeat (first | ((with_reducible refine Tr.step rfl ?_); (first | ((with_reducible refine Knd.assign ?_); (refine Exec.stab rfl (Stab.assign rfl) rfl ?_)) | ((with_reducible refine Knd.unOp ?_); ((refine Exec.stab rfl (Stab.not rfl) rfl ?_))))) | (with_reducible refine Tr.next ?_) | (with_reducible refine Tr.seq ?_) | (with_reducible refine Tr.region ?_) | (with_reducible refine Tr.nil ?_) | (with_reducible refine Tr.ret ?_) | (with_reducible refine Tr.then_ret ?_) | (refine Tr.cond_bt rfl (by first | (with_reducible rfl) | (with_reducible assumption) | (with_reducible exact Bool.not_true) | (with_reducible exact Bool.not_false)) ?_))
    (refine Tr.done (by first | exact .inl rfl | exact .inr rfl) rfl (by repeat (first | exact RVs.nil | (apply RVs.cons; (exact RV.tmp rfl)))) (by first | exact Mem.le.refl _ | assumption) (by exact ⟨[], rfl⟩) ⟨rfl, ?_⟩)
    exact .inl ⟨hvv, rfl⟩
  have hv := vld_iff.1 hvv
  have l1 := hv.ls
  have l2 := hv.ln
  have l3 := hv.lf
  repeat (first | ((with_reducible refine Tr.step rfl ?_); (first | ((with_reducible refine Knd.move ?_); (refine Exec.stab rfl (Stab.move rfl) rfl ?_)) | ((with_reducible refine Knd.unOp ?_); ((refine Exec.stab rfl (Stab.not rfl) rfl ?_))))) | (with_reducible refine Tr.next ?_) | (with_reducible refine Tr.seq ?_) | (with_reducible refine Tr.region ?_) | (with_reducible refine Tr.nil ?_) | (with_reducible refine Tr.skip ?_) | (refine Tr.cond_bf rfl (by first | (with_reducible rfl) | (with_reducible assumption) | (with_reducible exact Bool.not_true) | (with_reducible exact Bool.not_false)) ?_))
  ((refine Tr.step rfl ?_))
  refine Exec.call (A := []) rfl (begin_fn M A0 fits.length c0 A1 A2 c1 c2 sup need hs hn hv.ls hv.ln) (List.Perm.refl _) rfl ?_
  rintro _ _ _ _ ⟨o, rws0, rfl, ho, ho1, ho2, hrw, rfl, rfl⟩
  repeat (first | ((with_reducible refine Tr.step rfl ?_); (first | ((with_reducible refine Knd.move ?_); (refine Exec.stab rfl (Stab.move rfl) rfl ?_)) | ((with_reducible refine Knd.assign ?_); (refine Exec.stab rfl (Stab.assign rfl) rfl ?_)))) | (with_reducible refine Tr.next ?_) | (with_reducible refine Tr.seq ?_) | (with_reducible refine Tr.region ?_) | (with_reducible refine Tr.nil ?_))
  ((refine Tr.step rfl ?_))
  refine Exec.call (A := stL o (need.length + 1) rws0 need (List.replicate 64 0) (List.replicate 65 0)) rfl (fill_fn M o A0 c0 fits sup need hv hf ho ho1 ho2 _ rws0 need _ _ (begin_shape hrw) rfl (begin_flow hv hrw) (by simp) (by simp)) (List.Perm.refl _) rfl ?_
  rintro _ _ _ _ ⟨rfl, rws, lack, tk, gv, rfl, hsh, hll, ltk, lgv, hfi⟩
  generalize rws0.map (·.1) = bs at hsh
  have hlk := lack_rng hv hll hfi.1
  have hL := hfi.isLack
  have hL0 := hL.zero hv.sup0 hv.need0
  have hls := sumN_list lack
  rw [hll] at hls
  rw [← hls] at hL hL0
  have r1 := sum_rng (by omega) hlk
  simp only [stL, List.cons_append, List.nil_append]
  repeat (first | ((with_reducible refine Tr.step rfl ?_); (first | ((with_reducible refine Knd.move ?_); (refine Exec.stab rfl (Stab.move rfl) rfl ?_)) | ((with_reducible refine Knd.load ?_); ((refine Exec.stab rfl (Stab.load rfl (tysOk.get rfl) rfl (by repeat (first | exact Has.here | apply Has.there)) rfl) rfl ?_))) | ((with_reducible refine Knd.fieldAddr ?_); ((refine Exec.stab rfl (Stab.fieldZ rfl (tysOk.get rfl) rfl rfl (tysOk.get rfl) rfl) rfl ?_))) | ((with_reducible refine Knd.nilCheck ?_); (refine Exec.stab rfl (Stab.nilCheck rfl) rfl ?_)))) | (with_reducible refine Tr.next ?_) | (with_reducible refine Tr.seq ?_) | (with_reducible refine Tr.region ?_) | (with_reducible refine Tr.nil ?_))
  refine own_cap o.Al (by repeat (first | exact Has.here | apply Has.there)) (fun hA1 hA2 => ?_)
  ((refine Tr.step rfl ?_))
  refine Exec.call (A := [ownS 3 1 o.Al lack.length o.cl (intV lack)]) (F := box o.sb 56 _ :: ownS 23 1 o.Am _ _ _ :: rowsR rws :: F) rfl (sum_fn M [ownS 3 1 o.Al lack.length o.cl (intV lack)] o.Al o.cl lack hA1 (fun h => by
    cases hAl : o.Al with
    | none => exact absurd (List.eq_nil_of_length_eq_zero (hA2 hAl)) h
    | some a => rfl) (Src.own .here) (small_of (by omega) hlk)) (List.perm_middle (l₁ := [_, _, _])).symm rfl ?_
  rintro _ _ _ _ ⟨rfl, rfl, rfl⟩
  by_cases hs0 : 0 < lack.sum
  · repeat (first | ((with_reducible refine Tr.step rfl ?_); (first | ((with_reducible refine Knd.move ?_); (refine Exec.stab rfl (Stab.move rfl) rfl ?_)) | ((with_reducible refine Knd.binOp ?_); ((refine Exec.stab rfl (Stab.int rfl rfl rfl) rfl ?_))))) | (with_reducible refine Tr.next ?_) | (with_reducible refine Tr.seq ?_) | (with_reducible refine Tr.region ?_) | (with_reducible refine Tr.nil ?_) | (refine Tr.cond_t rfl (by first | (with_reducible assumption) | (with_reducible rfl) | (with_reducible exact (not_not_intro rfl)) | omega) ?_))
    ((refine Tr.step rfl ?_)); refine Exec.call0 rfl (cutOf_fn M A0 A1 A2 c0 c1 c2 fits sup need hf hs hn hv) rfl ?_
    rintro _ M2 hm2 ⟨B, k, rfl, hI⟩
    repeat (first | ((with_reducible refine Tr.step rfl ?_); (((with_reducible refine Knd.assign ?_); (refine Exec.stab rfl (Stab.assign rfl) rfl ?_)))) | (with_reducible refine Tr.next ?_) | (with_reducible refine Tr.nil ?_) | (with_reducible refine Tr.ret ?_) | (with_reducible refine Tr.then_ret ?_))
    (refine Tr.done (by first | exact .inl rfl | exact .inr rfl) rfl (by repeat (first | exact RVs.nil | (apply RVs.cons; (exact RV.tmp rfl)))) (by first | exact Mem.le.refl _ | assumption) (by exact ⟨[_, _, _, _], rfl⟩) ⟨rfl, ?_⟩)
    exact .inr (.inl ⟨hv, fun h => by have := hL0.2 h; omega, B, k, rfl, hI⟩)
  have hz : lack.sum = 0 := by omega
  have hfl : Bf.Flow (pbOf fits sup need) (amt rws) fun _ => 0 := hfi.1.zero (hls.symm.trans hz)
  repeat (first | ((with_reducible refine Tr.step rfl ?_); (first | ((with_reducible refine Knd.move ?_); (refine Exec.stab rfl (Stab.move rfl) rfl ?_)) | ((with_reducible refine Knd.len ?_); ((refine Exec.stab rfl (Stab.len rfl (tysOk.get rfl) rfl) rfl ?_))) | ((with_reducible refine Knd.binOp ?_); ((refine Exec.stab rfl (Stab.int rfl rfl rfl) rfl ?_))))) | (with_reducible refine Tr.next ?_) | (with_reducible refine Tr.seq ?_) | (with_reducible refine Tr.region ?_) | (with_reducible refine Tr.nil ?_) | (with_reducible refine Tr.skip ?_) | (with_reducible refine Tr.block ?_) | (refine Tr.cond_f rfl (by first | (with_reducible assumption) | (with_reducible rfl) | (with_reducible exact (not_not_intro rfl)) | omega) ?_))
  simp only [List.cons_append, List.nil_append]
  refine Tr.front (x := rowsR _) (by repeat (first | exact Del.here | apply Del.there)) ?_
  refine Tr.front (x := ownS 23 1 _ _ _ _) (by repeat (first | exact Del.here | apply Del.there)) ?_
  refine Tr.front (x := box o.sb 56 _) (by repeat (first | exact Del.here | apply Del.there)) ?_
  refine Tr.own_nil 23 1 ?_
  refine Tr.loop (α := Nat × List (Nat × List Int) × List Int × List Int × Mem × Option Addr × Nat × List Value) (fun y => ⟨72, [(36, .int .i64 (y.1 : Int)), (35, .int .i64 (sup.length : Int)), (6, .slice y.2.2.2.2.2.1 y.1 y.2.2.2.2.2.2.1), (10, .pointer (some ⟨o.sb, 0, none⟩)), (0, .slice A0 fits.length c0), (2, .slice A2 need.length c2)], [], y.2.2.2.2.1, ownS 23 1 y.2.2.2.2.2.1 y.1 y.2.2.2.2.2.2.1 y.2.2.2.2.2.2.2 :: (stL o (need.length + 1) y.2.1 lack y.2.2.1 y.2.2.2.1 ++ F)⟩)
    (fun y => y.1 ≤ sup.length ∧ Shape sup.length need.length bs y.2.1 ∧ y.2.2.1.length = 64 ∧ y.2.2.2.1.length = 65 ∧ (Bf.Flow (pbOf fits sup need) (amt y.2.1) fun _ => 0) ∧ LexTo (pbOf fits sup need) (amt y.2.1) y.1 0 ∧ Mem.le M y.2.2.2.2.1 ∧ y.2.2.2.2.2.2.1 ≤ 9223372036854775807 ∧ Elems 1 RRowI y.2.2.2.2.1 y.2.2.2.2.2.2.2 (allocOf (amt y.2.1) need.length y.1)) (fun y => sup.length - y.1) (0, rws, tk, gv, M, none, 0, []) ⟨Nat.zero_le _, hsh, ltk, lgv, hfl, LexTo.start _ _, Mem.le.refl _, by simp, Elems.nil⟩ (holds_sub (by repeat (first | exact SubFr.nil | refine SubFr.cons rfl ?_)) (by repeat (first | exact DropL.refl | apply DropL.skip))) (fun y hy => ?_)
  clear hsh ltk lgv hfl hfi hL hL0 hls hs0
  clear rws tk gv
  obtain ⟨i, rws, tk, gv, M1, A6, c6, cells⟩ := y
  obtain ⟨hi, hsh, ltk, lgv, hfl, hlex, hM, hc6, hel⟩ := hy
  simp only at hi hsh ltk lgv hfl hlex hM hc6 hel
  dsimp only
  have hcl : cells.length = i := by have := hel.1; simpa using this
  simp only [stL, List.cons_append, List.nil_append]
  by_cases hin : i < sup.length
  rotate_left
  · have ei : i = sup.length := by omega
    subst ei
    repeat (first | ((with_reducible refine Tr.step rfl ?_); (first | ((with_reducible refine Knd.move ?_); (refine Exec.stab rfl (Stab.move rfl) rfl ?_)) | ((with_reducible refine Knd.assign ?_); (refine Exec.stab rfl (Stab.assign rfl) rfl ?_)) | ((with_reducible refine Knd.binOp ?_); ((refine Exec.stab rfl (Stab.int rfl rfl rfl) rfl ?_))))) | (with_reducible refine Tr.next ?_) | (with_reducible refine Tr.seq ?_) | (with_reducible refine Tr.region ?_) | (with_reducible refine Tr.nil ?_) | (with_reducible refine Tr.exit ?_) | (with_reducible refine Tr.ret ?_) | (with_reducible refine Tr.then_exit ?_) | ((with_reducible refine Tr.in_exit ?_ ?_); (exact rfl)) | (refine Tr.cond_f rfl (by first | (with_reducible assumption) | (with_reducible rfl) | (with_reducible exact (not_not_intro rfl)) | omega) ?_))
    refine Tr.publish (r := ownS 23 1 A6 _ _ _) (by repeat (first | exact Del.here | apply Del.there)) (fun M2 hm2 hok => ?_)
    have hfin := hM.trans hm2
    have hI : Ints2 M2 (.slice A6 (allocOf (amt rws) need.length sup.length).length c6) (allocOf (amt rws) need.length sup.length) := SlOf.ofOwn hok (by simp) hc6 (hel.mono RRowI.mono hm2)
    (refine Tr.done (by first | exact .inl rfl | exact .inr rfl) rfl (by repeat (first | exact RVs.nil | (apply RVs.cons; (exact RV.tmp rfl)))) (by first | exact Mem.le.refl _ | assumption) (by exact ⟨[_, _, _, _], rfl⟩) ⟨rfl, ?_⟩)
    exact .inr (.inr ⟨hv, amt rws, LexTo.max hlex hfl, A6, c6, by simp only [allocOf_length]; rfl, hI⟩)
  obtain ⟨frow, hfr⟩ := get_of_lt (xs := fits) (i := i) (by omega)
  have hfrl := hv.rows frow (List.mem_of_getElem? hfr)
  have hf1 : Fits2 M1 (.slice A0 fits.length c0) fits := hf.mono RRowB.mono hM
  obtain ⟨hA0, fch, fat, fB, fk, rfl, hfB⟩ := hf1.elem hfr
  repeat (first | ((with_reducible refine Tr.step rfl ?_); (first | ((with_reducible refine Knd.move ?_); (refine Exec.stab rfl (Stab.move rfl) rfl ?_)) | ((with_reducible refine Knd.assign ?_); (refine Exec.stab rfl (Stab.assign rfl) rfl ?_)) | ((with_reducible refine Knd.len ?_); ((refine Exec.stab rfl (Stab.len rfl (tysOk.get rfl) rfl) rfl ?_))) | ((with_reducible refine Knd.binOp ?_); ((refine Exec.stab rfl (Stab.int rfl rfl rfl) rfl ?_))))) | (with_reducible refine Tr.next ?_) | (with_reducible refine Tr.seq ?_) | (with_reducible refine Tr.region ?_) | (with_reducible refine Tr.nil ?_) | (with_reducible refine Tr.skip ?_) | (with_reducible refine Tr.block ?_) | (refine Tr.cond_t rfl (by first | (with_reducible assumption) | (with_reducible rfl) | (with_reducible exact (not_not_intro rfl)) | omega) ?_))
  refine Tr.loop (α := Nat × List (Nat × List Int) × List Int × List Int) (fun y => ⟨72, [(41, .int .i64 (y.1 : Int)), (40, .int .i64 (need.length : Int)), (11, .int .i64 (i : Int)), (36, .int .i64 (i : Int)), (35, .int .i64 (sup.length : Int)), (6, .slice A6 i c6), (10, .pointer (some ⟨o.sb, 0, none⟩)), (0, .slice A0 fits.length c0), (2, .slice A2 need.length c2)], [], M1, ownS 23 1 A6 i c6 cells :: (stL o (need.length + 1) y.2.1 lack y.2.2.1 y.2.2.2 ++ F)⟩)
    (fun y => y.1 ≤ need.length ∧ Shape sup.length need.length bs y.2.1 ∧ y.2.2.1.length = 64 ∧ y.2.2.2.length = 65 ∧ (Bf.Flow (pbOf fits sup need) (amt y.2.1) fun _ => 0) ∧ LexTo (pbOf fits sup need) (amt y.2.1) i y.1 ∧ Elems 1 RRowI M1 cells (allocOf (amt y.2.1) need.length i)) (fun y => need.length - y.1) (0, rws, tk, gv) ⟨Nat.zero_le _, hsh, ltk, lgv, hfl, hlex, hel⟩ (holds_sub (by repeat (first | exact SubFr.nil | refine SubFr.cons rfl ?_)) (by repeat (first | exact DropL.refl | apply DropL.skip))) (fun y hy => ?_)
  clear hsh ltk lgv hfl hlex hel
  obtain ⟨j, rws, tk, gv⟩ := y
  obtain ⟨hj, hsh, ltk, lgv, hfl, hlex, hel⟩ := hy
  simp only at hj hsh ltk lgv hfl hlex hel
  dsimp only
  simp only [stL, List.cons_append, List.nil_append]
  by_cases hjn : j < need.length
  · obtain ⟨x, hx⟩ := get_of_lt (xs := frow) (i := j) (by omega)
    obtain ⟨hA, hat⟩ := hfB.at hx
    have hfx : (fits.getD i []).getD j false = x := by rw [getD_of (d := []) hfr, getD_of (d := false) hx]
    cases x
    · repeat (first | ((with_reducible refine Tr.step rfl ?_); (first | ((with_reducible refine Knd.move ?_); (refine Exec.stab rfl (Stab.move rfl) rfl ?_)) | ((with_reducible refine Knd.assign ?_); (refine Exec.stab rfl (Stab.assign rfl) rfl ?_)) | ((with_reducible refine Knd.load ?_); ((refine Exec.stab rfl (Stab.loadM rfl (tysOk.get rfl) rfl (by assumption)) rfl ?_))) | ((with_reducible refine Knd.binOp ?_); (first | (refine Exec.stab rfl (Stab.addi rfl rfl (by omega)) rfl ?_) | (refine Exec.stab rfl (Stab.int rfl rfl rfl) rfl ?_))) | ((with_reducible refine Knd.indexAddr ?_); ((refine Exec.stab rfl (Stab.indexAddr rfl rfl (tysOk.get rfl) rfl (tysOk.get rfl) rfl (by omega) (by omega) (by first | rfl | assumption)) rfl ?_))))) | (with_reducible refine Tr.next ?_) | (with_reducible refine Tr.seq ?_) | (with_reducible refine Tr.region ?_) | (with_reducible refine Tr.nil ?_) | (with_reducible refine Tr.skip ?_) | (with_reducible refine Tr.block ?_) | (with_reducible refine Tr.in_normal ?_) | (refine Tr.cond_bf rfl (by first | (with_reducible rfl) | (with_reducible assumption) | (with_reducible exact Bool.not_true) | (with_reducible exact Bool.not_false)) ?_) | (refine Tr.cond_t rfl (by first | (with_reducible assumption) | (with_reducible rfl) | (with_reducible exact (not_not_intro rfl)) | omega) ?_))
      refine Tr.again (j + 1, rws, tk, gv) ⟨by simp only; omega, hsh, ltk, lgv, hfl, hlex.skip hfl hin hjn hfx, hel⟩ (by simp only; omega) (holds_sub (by repeat (first | exact SubFr.nil | refine SubFr.cons rfl ?_)) (by repeat (first | exact DropL.refl | apply DropL.skip)))
    · repeat (first | ((with_reducible refine Tr.step rfl ?_); (first | ((with_reducible refine Knd.move ?_); (refine Exec.stab rfl (Stab.move rfl) rfl ?_)) | ((with_reducible refine Knd.assign ?_); (refine Exec.stab rfl (Stab.assign rfl) rfl ?_)) | ((with_reducible refine Knd.load ?_); ((refine Exec.stab rfl (Stab.loadM rfl (tysOk.get rfl) rfl (by assumption)) rfl ?_))) | ((with_reducible refine Knd.binOp ?_); ((refine Exec.stab rfl (Stab.int rfl rfl rfl) rfl ?_))) | ((with_reducible refine Knd.indexAddr ?_); ((refine Exec.stab rfl (Stab.indexAddr rfl rfl (tysOk.get rfl) rfl (tysOk.get rfl) rfl (by omega) (by omega) (by first | rfl | assumption)) rfl ?_))))) | (with_reducible refine Tr.next ?_) | (with_reducible refine Tr.seq ?_) | (with_reducible refine Tr.region ?_) | (with_reducible refine Tr.nil ?_) | (with_reducible refine Tr.skip ?_) | (with_reducible refine Tr.block ?_) | (refine Tr.cond_bt rfl (by first | (with_reducible rfl) | (with_reducible assumption) | (with_reducible exact Bool.not_true) | (with_reducible exact Bool.not_false)) ?_) | (refine Tr.cond_t rfl (by first | (with_reducible assumption) | (with_reducible rfl) | (with_reducible exact (not_not_intro rfl)) | omega) ?_))
      ((refine Tr.step rfl ?_))
      refine Exec.call (A := stL o (need.length + 1) rws lack tk gv) (F := ownS 23 1 A6 i c6 cells :: F) rfl (raise_fn M1 o A0 c0 fits sup need hv hf1 ho ho1 ho2 bs rws lack tk gv hsh hll hfl ltk lgv i j hin hjn hfx) (List.perm_middle (l₁ := [_, _, _, _])) rfl ?_
      rintro _ _ _ _ ⟨rfl, rws', tk', gv', rfl, hsh', ltk', lgv', hra, htop⟩
      have hco : allocOf (amt rws') need.length i = allocOf (amt rws) need.length i := allocOf_congr fun k hk c _ => by rw [hra.2.1 k hk]
      repeat (first | ((with_reducible refine Tr.step rfl ?_); (first | ((with_reducible refine Knd.move ?_); (refine Exec.stab rfl (Stab.move rfl) rfl ?_)) | ((with_reducible refine Knd.binOp ?_); ((refine Exec.stab rfl (Stab.addi rfl rfl (by omega)) rfl ?_))))) | (with_reducible refine Tr.next ?_) | (with_reducible refine Tr.region ?_) | (with_reducible refine Tr.nil ?_) | (with_reducible refine Tr.in_normal ?_))
      refine Tr.front (x := ownS 23 1 A6 _ _ _) (by repeat (first | exact Del.here | apply Del.there)) ?_
      refine Tr.again (j + 1, rws', tk', gv') ⟨by simp only; omega, hsh', ltk', lgv', hra.1, hlex.step hra htop hin hjn, by simp only [hco]; exact hel⟩ (by simp only; omega) (holds_sub (by repeat (first | exact SubFr.nil | refine SubFr.cons rfl ?_)) (by repeat (first | exact DropL.refl | apply DropL.skip)))
  have ej : j = need.length := by omega
  subst ej
  obtain ⟨⟨bi, row⟩, hr0⟩ := get_of_lt (xs := rws) (i := i) (by rw [hsh.n]; exact hin)
  have hrl : row.length = need.length + 1 := hsh.row _ (List.mem_of_getElem? hr0)
  have hp' : (ptrV (need.length + 1) rws)[i]? = some (.slice (some ⟨bi, 0, none⟩) (need.length + 1) (need.length + 1)) := by simp [ptrV, hr0]
  have hn' := hsh.n
  refine Tr.own_some o.Am (by repeat (first | exact Has.here | apply Has.there)) (by omega) (fun hAm => ?_)
  unfold rowsR
  refine Tr.many_out (by repeat (first | exact Del.here | apply Del.there)) (rows_get hr0) ?_
  repeat (first | ((with_reducible refine Tr.step rfl ?_); (first | ((with_reducible refine Knd.move ?_); (refine Exec.stab rfl (Stab.move rfl) rfl ?_)) | ((with_reducible refine Knd.load ?_); (first | (refine Exec.stab rfl (Stab.load rfl (tysOk.get rfl) rfl (by repeat (first | exact Has.here | apply Has.there)) rfl) rfl ?_) | (refine Exec.stab rfl (Stab.loadO rfl (tysOk.get rfl) rfl (by repeat (first | exact Has.here | apply Has.there)) (by assumption)) rfl ?_))) | ((with_reducible refine Knd.fieldAddr ?_); ((refine Exec.stab rfl (Stab.fieldZ rfl (tysOk.get rfl) rfl rfl (tysOk.get rfl) rfl) rfl ?_))) | ((with_reducible refine Knd.len ?_); ((refine Exec.stab rfl (Stab.len rfl (tysOk.get rfl) rfl) rfl ?_))) | ((with_reducible refine Knd.nilCheck ?_); (refine Exec.stab rfl (Stab.nilCheck rfl) rfl ?_)) | ((with_reducible refine Knd.binOp ?_); ((refine Exec.stab rfl (Stab.int rfl rfl rfl) rfl ?_))) | ((with_reducible refine Knd.indexAddr ?_); ((refine Exec.stab rfl (Stab.indexAddr rfl rfl (tysOk.get rfl) rfl (tysOk.get rfl) rfl (by omega) (by omega) (by first | rfl | assumption)) rfl ?_))) | ((with_reducible refine Knd.slice ?_); ((refine Exec.stab rfl (Stab.slice_h rfl rfl (tysOk.get rfl) rfl (tysOk.get rfl) (by omega) (by omega)) rfl ?_))))) | (with_reducible refine Tr.next ?_) | (with_reducible refine Tr.seq ?_) | (with_reducible refine Tr.region ?_) | (with_reducible refine Tr.nil ?_) | (with_reducible refine Tr.exit ?_) | (with_reducible refine Tr.then_exit ?_) | ((with_reducible refine Tr.in_exit ?_ ?_); (exact rfl)) | (refine Tr.cond_f rfl (by first | (with_reducible assumption) | (with_reducible rfl) | (with_reducible exact (not_not_intro rfl)) | omega) ?_))
  rw [show ((need.length : Int)).toNat = (row.take need.length).length by simp; omega]
  have htk : row.take need.length = rowOf (amt rws) need.length i := row_take hr0 hrl
  have htl : (row.take need.length).length = need.length := by simp; omega
  have hcln := clone_lend M1 bi need.length row hrl l2
  ((refine Tr.step rfl ?_))
  refine Exec.call (A := [box bi 3 (intV row)]) rfl hcln (List.Perm.refl _) rfl ?_
  rintro _ _ _ _ ⟨A1, rfl, rfl, B, k, rfl, hk, rfl⟩
  simp only [List.cons_append, List.nil_append]
  refine Tr.publish (r := ownS 3 1 B _ _ _) (by repeat (first | exact Del.here | apply Del.there)) (fun M2 hm2 hok => ?_)
  have hI : Ints M2 (.slice B (row.take need.length).length k) (row.take need.length) := Ints.ofOwn hok rfl hk
  refine Tr.many_in (rows_get hr0) ?_
  rw [rows_set, set_same hr0]
  refine Tr.front (x := ownS 23 1 o.Am _ _ _) (by repeat (first | exact Del.here | apply Del.there)) ?_
  refine Tr.front (x := box o.sb 56 _) (by repeat (first | exact Del.here | apply Del.there)) ?_
  repeat (((with_reducible refine Tr.step rfl ?_); (((with_reducible refine Knd.buildSlice ?_); ((refine Exec.buildSlice (tysOk.get rfl) rfl (tysOk.get rfl) rfl rfl rfl rfl rfl (by repeat (first | exact BuildP.nil | ((apply BuildP.one); (rfl); (rfl); (first | rfl | assumption); (repeat (first | exact SetL.z | apply SetL.s))))) rfl (fun b => ?_)))))))
  refine Tr.cells (cs' := [.slice B (row.take need.length).length k]) (by repeat (first | exact Upd.here | apply Upd.there)) rfl ?_
  ((refine Tr.step rfl ?_))
  refine Exec.append (A := A6) (news := [.slice B (row.take need.length).length k]) rfl rfl (tysOk.get rfl) rfl (tysOk.get rfl) rfl rfl rfl rfl (by repeat (first | exact Del.here | apply Del.there)) (Src.box (by repeat (first | exact Has.here | apply Has.there))) rfl (by intro u hu; simp at hu; subst hu; rfl) (by omega) (by omega) rfl (fun A7 c7 hc7 => ?_)
  have hel2 : Elems 1 RRowI M2 (cells ++ [.slice B (row.take need.length).length k]) (allocOf (amt rws) need.length (i + 1)) := by
    rw [allocOf_succ, ← htk]
    exact (hel.mono RRowI.mono hm2).append (Elems.one rfl ⟨B, k, rfl, hI⟩)
  repeat (first | ((with_reducible refine Tr.step rfl ?_); (first | ((with_reducible refine Knd.move ?_); (refine Exec.stab rfl (Stab.move rfl) rfl ?_)) | ((with_reducible refine Knd.assign ?_); (refine Exec.stab rfl (Stab.assign rfl) rfl ?_)) | ((with_reducible refine Knd.binOp ?_); ((refine Exec.stab rfl (Stab.addi rfl rfl (by omega)) rfl ?_))))) | (with_reducible refine Tr.next ?_) | (with_reducible refine Tr.region ?_) | (with_reducible refine Tr.nil ?_) | (with_reducible refine Tr.in_normal ?_))
  refine Tr.give (r := box _ 23 [_]) (by repeat (first | exact Del.here | apply Del.there)) ?_

  refine Tr.again (i + 1, rws, tk, gv, M2, A7, c7, cells ++ [.slice B (row.take need.length).length k]) ⟨by simp only; omega, hsh, ltk, lgv, hfl, hlex.row (Nat.le_refl _), hM.trans hm2, hc7, hel2⟩ (by simp only; omega) (holds_sub (by repeat (first | exact SubFr.nil | refine SubFr.cons rfl ?_)) (by repeat (first | exact DropL.refl | apply DropL.skip)))
end Go.Proofs.Ytmioocddmlfboaa
