/-
  Texts of the proof, one after the other.
  Conditions: none.
-/
import Derived.Test.YtlifjajcmnkhfaaQBfDelN
import Derived.Test.YtlifjajcmnkhfaaQXs
import Derived.Test.YtlifjajcmnkhfaaQb
/-
  Refusals: Least, and slices' functions on keys.
  Conditions: none.
-/
namespace Go.Proofs.Ytlifjajcmnkhfaa
open Go Bf
attribute [local irreducible] Tr Exec Stab HasTy Go.Addr.add IntKind.wrap
noncomputable def leF (w : Wd) (k : Bp) (r : Rq) : List Int := (confF w k r).filter fun n => decide (n ≠ r.no)
/-- what Least answers -/
def LeastV (w : Wd) (k : Bp) (r : Rq) (v : Value) (M : Mem) : Prop :=
  (askE w k r ≠ 0 ∧ v = .tuple #[.slice none 0 0, .int .i64 (askE w k r)]) ∨
  (askE w k r = 0 ∧ okB w k ∧ Feas (pbW w k.known k.sups (k.reqs ++ [r])) ∧ v = .tuple #[.slice none 0 0, .int .i64 320]) ∨
  (askE w k r = 0 ∧ okB w k ∧ ¬ Feas (pbW w k.known k.sups (k.reqs ++ [r])) ∧ ∃ B c, v = .tuple #[.slice B (leF w k r).length c, .int .i64 0] ∧ Ints M (.slice B (leF w k r).length c) (leF w k r))
theorem conf_len {w : Wd} {k : Bp} {r : Rq} (h : okB w k) : (confF w k r).length ≤ 65 := by
  have h1 : (confF w k r).length = (cutB w k r).length := by simp [confF]
  have h2 : (cutB w k r).length ≤ (amR (k.reqs ++ [r])).length := memF_len _ _
  have h3 : (amR (k.reqs ++ [r])).length = k.reqs.length + 1 := by simp [amR]
  have := h.2.1.1.2
  omega
set_option maxHeartbeats 8000000 in
set_option maxRecDepth 20000 in
theorem least_fn (M : Mem) (ws : List Value) (w : Wd) (hw : RWd M ws w) (v : Value) (k : Bp) (hk : RBp M v k) (r : Rq) :
    Fn0 Try.prog 8 [.agg ws.toArray, v, .agg #[.int .i64 r.no, .int .i64 r.item, .int .i64 r.cust, .int .i64 r.due, .int .i64 r.shelf, .int .i64 r.amount]] M (fun v M' => LeastV w k r v M') := by
  have h11 := hw.len
  have hk0 := hk
  obtain ⟨As, cs, Ar, cr, Af, cf, Ad, cd, rfl, h1, h2, h3, h4⟩ := hk
  have hl3 := h3.len_le
  refine Fn.intro Try.func8 rfl rfl Try.ntmps8 rfl fun E F => ?_
  (repeat (first | ((with_reducible refine Tr.step rfl ?_); (first | (refine xaQ (z := ?_)) | ((with_reducible refine Knd.load ?_); (first | (refine xwQ (z := ?_)) | (refine Exec.stab rfl (Stab.loadW rfl (tysOk.get rfl) rfl (by repeat (first | exact Has.here | apply Has.there)) (by assumption)) rfl ?_))) | ((with_reducible refine Knd.box ?_); (refine Exec.box rfl rfl (fun b => ?_))))) | (with_reducible first | apply Tr.next | apply Tr.seq | apply Tr.region | apply Tr.nil)))
  rename_i b3 b4
  generalize b = b5
  ((refine Tr.step rfl ?_)); refine Exec.call0 rfl (askA_fn M ws w hw _ k hk0 hl3 r) rfl ?_
  rintro _ M1 hm1 (⟨hask, hv, x, a, rfl, D, cD, hD, hR⟩ | ⟨hne, rfl⟩)
  rotate_left
  · (repeat (first | ((with_reducible refine Tr.step rfl ?_); (first | (refine xmQ (z := ?_)) | (refine xaQ (z := ?_)) | (refine xiQ (z := ?_)) | ((with_reducible refine Knd.store ?_); (refine Exec.storeW rfl rfl (tysOk.get rfl) (by repeat (first | exact Upd.here | apply Upd.there)) rfl rfl (by repeat (first | (with_reducible assumption) | exact AllOne.nil | exact AllOne.bytes _ | refine AllOne.cons (by first | rfl | assumption) ?_)) ?_)) | ((with_reducible refine Knd.alloc ?_); (refine Exec.alloc (tysOk.get rfl) rfl rfl (fun b => ?_))) | ((with_reducible refine Knd.extract ?_); (refine Exec.stab rfl (Stab.extract rfl rfl) rfl ?_)))) | (with_reducible first | apply Tr.next | apply Tr.seq | apply Tr.region | apply Tr.nil | apply Tr.ret | apply Tr.then_ret) | (refine Tr.cond_t rfl (by first | (with_reducible assumption) | (with_reducible rfl) | (with_reducible exact (not_not_intro rfl)) | omega) ?_)))
    (refine dnQ (hL := by exact ⟨[_, _, _, _, _], rfl⟩) (k := ⟨rfl, ?_⟩))
    exact .inl ⟨hne, rfl⟩
  rcases hR with ⟨hF, hx, al, A9, c9, hlex, rfl, hI⟩ | ⟨hF, hx, B, kk, rfl, hI⟩
  · obtain ⟨As', cs', Ar', cr', Af', cf', Ad', cd', rfl⟩ := hx.lit
    (repeat (first | ((with_reducible refine Tr.step rfl ?_); (first | (refine xmQ (z := ?_)) | (refine xaQ (z := ?_)) | (refine xlQ (z := ?_)) | (refine xfQ (z := ?_)) | (refine xiQ (z := ?_)) | ((with_reducible refine Knd.store ?_); (refine Exec.storeW rfl rfl (tysOk.get rfl) (by repeat (first | exact Upd.here | apply Upd.there)) rfl rfl (by repeat (first | (with_reducible assumption) | exact AllOne.nil | exact AllOne.bytes _ | refine AllOne.cons (by first | rfl | assumption) ?_)) ?_)) | ((with_reducible refine Knd.alloc ?_); (refine Exec.alloc (tysOk.get rfl) rfl rfl (fun b => ?_))) | ((with_reducible refine Knd.extract ?_); (refine Exec.stab rfl (Stab.extract rfl rfl) rfl ?_)))) | (with_reducible first | apply Tr.next | apply Tr.seq | apply Tr.region | apply Tr.nil | apply Tr.skip | apply Tr.ret | apply Tr.then_ret) | (refine Tr.cond_bt rfl (by first | (with_reducible rfl) | (with_reducible assumption) | (with_reducible exact Bool.not_true) | (with_reducible exact Bool.not_false)) ?_) | (refine Tr.cond_f rfl (by first | (with_reducible assumption) | (with_reducible rfl) | (with_reducible exact (not_not_intro rfl)) | omega) ?_)))
    (refine dnQ (hL := by exact ⟨[_, _, _, _, _], rfl⟩) (k := ⟨rfl, ?_⟩))
    exact .inr (.inl ⟨hask, hv, ⟨al, hlex.1⟩, rfl⟩)
  obtain ⟨As', cs', Ar', cr', Af', cf', Ad', cd', rfl⟩ := hx.lit
  have hcl := conf_len (r := r) hv
  (repeat (first | ((with_reducible refine Tr.step rfl ?_); (first | (refine xmQ (z := ?_)) | (refine xaQ (z := ?_)) | (refine xlQ (z := ?_)) | (refine xfQ (z := ?_)) | (refine xnQ (z := ?_)) | (refine xiQ (z := ?_)) | ((with_reducible refine Knd.store ?_); (refine Exec.storeW rfl rfl (tysOk.get rfl) (by repeat (first | exact Upd.here | apply Upd.there)) rfl rfl (by repeat (first | (with_reducible assumption) | exact AllOne.nil | exact AllOne.bytes _ | refine AllOne.cons (by first | rfl | assumption) ?_)) ?_)) | ((with_reducible refine Knd.alloc ?_); (refine Exec.alloc (tysOk.get rfl) rfl rfl (fun b => ?_))) | ((with_reducible refine Knd.extract ?_); (refine Exec.stab rfl (Stab.extract rfl rfl) rfl ?_)))) | (with_reducible first | apply Tr.next | apply Tr.seq | apply Tr.region | apply Tr.nil | apply Tr.skip | apply Tr.block) | (refine Tr.cond_bf rfl (by first | (with_reducible rfl) | (with_reducible assumption) | (with_reducible exact Bool.not_true) | (with_reducible exact Bool.not_false)) ?_) | (refine Tr.cond_f rfl (by first | (with_reducible assumption) | (with_reducible rfl) | (with_reducible exact (not_not_intro rfl)) | omega) ?_)))
  refine gvQ (r := box _ 60 _) (k := ?_)
  refine Tr.own_nil 3 1 ?_
  refine ftQ (r := box b5 46 _) (k := ?_)
  refine ftQ (r := ownS 3 1 _ _ _ _) (k := ?_)
  refine Tr.loop (α := Nat × Option Addr × Nat) (fun y => ⟨42, [(28, .int .i64 (y.1 : Int)), (27, .int .i64 ((confF w k r).length : Int)), (26, .slice B (confF w k r).length kk), (6, .slice y.2.1 (((confF w k r).take y.1).filter fun n => decide (n ≠ r.no)).length y.2.2), (5, .pointer (some ⟨b5, 0, none⟩))], [], M1, ownS 3 1 y.2.1 (((confF w k r).take y.1).filter fun n => decide (n ≠ r.no)).length y.2.2 (intV (((confF w k r).take y.1).filter fun n => decide (n ≠ r.no))) :: box b5 46 [.int .i64 r.no, .int .i64 r.item, .int .i64 r.cust, .int .i64 r.due, .int .i64 r.shelf, .int .i64 r.amount] :: (box _ 44 _ :: box b4 44 [.int .i64 k.known, .slice As k.sups.length cs, .slice Ar k.reqs.length cr, .slice Af k.fits.length cf, .slice Ad k.rds.length cd] :: box b3 38 ws :: ([] ++ F))⟩)
    (fun y => y.1 ≤ (confF w k r).length ∧ y.2.2 ≤ 9223372036854775807) (fun y => (confF w k r).length - y.1) (0, none, 0) ⟨Nat.zero_le _, by simp⟩ hsQ (fun y hy => ?_)
  obtain ⟨i, C, cc⟩ := y
  obtain ⟨hi, hcc⟩ := hy
  simp only at hi hcc
  dsimp only
  have hfl : (((confF w k r).take i).filter fun n => decide (n ≠ r.no)).length ≤ i := Nat.le_trans (List.length_filter_le _ _) (by simp; omega)
  by_cases hlt : i < (confF w k r).length
  · obtain ⟨x, hx⟩ := get_of_lt hlt
    obtain ⟨hA, hat⟩ := hI.at hx
    have htk : ((confF w k r).take (i + 1)).filter (fun n => decide (n ≠ r.no)) = ((confF w k r).take i).filter (fun n => decide (n ≠ r.no)) ++ if x ≠ r.no then [x] else [] := by
      rw [List.take_add_one, hx, Option.toList_some, List.filter_append]
      by_cases h : x = r.no <;> simp [h]
    by_cases hxn : x ≠ r.no
    · rw [if_pos hxn] at htk
      (repeat (first | ((with_reducible refine Tr.step rfl ?_); (first | (refine xmQ (z := ?_)) | (refine xaQ (z := ?_)) | ((with_reducible refine Knd.load ?_); (first | (refine xlQ (z := ?_)) | (refine xMQ (z := ?_)))) | (refine xfQ (z := ?_)) | (refine xiQ (z := ?_)) | (refine xxQ (z := ?_)) | ((with_reducible refine Knd.buildSlice ?_); (refine Exec.buildSlice (tysOk.get rfl) rfl (tysOk.get rfl) rfl rfl rfl rfl rfl (by repeat (first | exact BuildP.nil | ((apply BuildP.one); (rfl); (rfl); (first | rfl | assumption); (repeat (first | exact SetL.z | apply SetL.s))) | ((apply BuildP.many); (rfl); (rfl); (rfl); (rfl); (repeat (first | exact PutL.nil | ((apply PutL.cons); (repeat (first | exact SetL.z | apply SetL.s)))))))) rfl (fun b => ?_))))) | (with_reducible first | apply Tr.next | apply Tr.seq | apply Tr.region | apply Tr.nil | apply Tr.skip | apply Tr.block) | (refine Tr.cond_t rfl (by first | (with_reducible assumption) | (with_reducible rfl) | (with_reducible exact (not_not_intro rfl)) | omega) ?_)))
      ((refine Tr.step rfl ?_))
      refine Exec.append (news := [.int .i64 x]) rfl rfl (tysOk.get rfl) rfl (tysOk.get rfl) rfl rfl rfl rfl (by repeat (first | exact Del.here | apply Del.there)) (Src.box (by repeat (first | exact Has.here | apply Has.there))) rfl (by intro u hu; simp at hu; subst hu; rfl) (by omega) (by omega) rfl (fun C2 cc2 hcc2 => ?_)
      refine gvQ (r := box _ 3 _) (k := ?_)
      rw [show intV (((confF w k r).take i).filter fun n => decide (n ≠ r.no)) ++ [Value.int .i64 x] = intV (((confF w k r).take (i + 1)).filter fun n => decide (n ≠ r.no)) by rw [htk, intV_append]; rfl, show (((confF w k r).take i).filter fun n => decide (n ≠ r.no)).length + 1 = (((confF w k r).take (i + 1)).filter fun n => decide (n ≠ r.no)).length by rw [htk, List.length_append]; rfl]
      (repeat (first | ((with_reducible refine Tr.step rfl ?_); (first | (refine xmQ (z := ?_)) | (refine xaQ (z := ?_)) | (refine xdQ (z := ?_)))) | (with_reducible first | apply Tr.next | apply Tr.region | apply Tr.nil | apply Tr.in_normal)))
      exact Tr.again (i + 1, C2, cc2) ⟨by simp only; omega, hcc2⟩ (by simp only; omega) hsQ
    · rw [if_neg hxn, List.append_nil] at htk
      rw [← htk]
      (repeat (first | ((with_reducible refine Tr.step rfl ?_); (first | (refine xmQ (z := ?_)) | (refine xaQ (z := ?_)) | ((with_reducible refine Knd.load ?_); (first | (refine xlQ (z := ?_)) | (refine xMQ (z := ?_)))) | (refine xfQ (z := ?_)) | ((with_reducible refine Knd.binOp ?_); (first | (refine xdQ (z := ?_)) | (refine xiQ (z := ?_)))) | (refine xxQ (z := ?_)))) | (with_reducible first | apply Tr.next | apply Tr.seq | apply Tr.region | apply Tr.nil | apply Tr.skip | apply Tr.block | apply Tr.in_normal) | (refine Tr.cond_t rfl (by first | (with_reducible assumption) | (with_reducible rfl) | (with_reducible exact (not_not_intro rfl)) | omega) ?_) | (refine Tr.cond_f rfl (by first | (with_reducible assumption) | (with_reducible rfl) | (with_reducible exact (not_not_intro rfl)) | omega) ?_)))
      exact Tr.again (i + 1, C, cc) ⟨by simp only; omega, hcc⟩ (by simp only; omega) hsQ
  have ei : i = (confF w k r).length := by omega
  subst ei
  rw [List.take_length]
  refine pbQ (r := ownS 3 1 C _ _ _) (k := fun M6 hm6 hok6 => ?_)
  have hm06 := hm1.trans hm6
  (repeat (first | ((with_reducible refine Tr.step rfl ?_); (first | (refine xmQ (z := ?_)) | (refine xaQ (z := ?_)) | (refine xiQ (z := ?_)))) | (with_reducible first | apply Tr.next | apply Tr.seq | apply Tr.region | apply Tr.nil | apply Tr.exit | apply Tr.ret | apply Tr.then_exit) | ((with_reducible refine Tr.in_exit ?_ ?_); (exact rfl)) | (refine Tr.cond_f rfl (by first | (with_reducible assumption) | (with_reducible rfl) | (with_reducible exact (not_not_intro rfl)) | omega) ?_)))
  (refine dnQ (hL := by exact ⟨[_, _, _, _], rfl⟩) (k := ⟨rfl, ?_⟩))
  exact .inr (.inr ⟨hask, hv, hF, C, cc, rfl, Ints.ofOwn hok6 rfl hcc⟩)
set_option maxHeartbeats 4000000 in
theorem indexKy_fn (M : Mem) (A : Option Addr) (c : Nat) (l : List Ky) (x : Ky) (h : SlOf 3 RKy M (.slice A l.length c) l) :
    Fn0 Try.prog 69 [.slice A l.length c, .agg #[.int .i64 x.1, .int .i64 x.2.1, .int .i64 x.2.2]] M (fun r M' => (∃ z : Int, r = .int .i64 z ∧ ((0 ≤ z ∧ x ∈ l) ∨ (z = -1 ∧ x ∉ l))) ∧ M = M') := by
  have hll := h.len_le
  refine Fn.intro Try.func69 rfl rfl Try.ntmps69 rfl fun E F => ?_
  (repeat (first | ((with_reducible refine Tr.step rfl ?_); (first | (refine xmQ (z := ?_)) | (refine xaQ (z := ?_)) | (refine xnQ (z := ?_)) | ((with_reducible refine Knd.box ?_); (refine Exec.box rfl rfl (fun b => ?_))))) | (with_reducible first | apply Tr.next | apply Tr.seq | apply Tr.region | apply Tr.nil | apply Tr.block)))
  generalize b = b3
  refine Tr.loop (α := Nat) (fun y => ⟨19, [(8, .int .i64 (y : Int)), (7, .int .i64 (l.length : Int)), (6, .slice A l.length c), (4, .int .i64 0), (0, .slice A l.length c), (3, .pointer (some ⟨b3, 0, none⟩))], [], M, box b3 71 [.int .i64 x.1, .int .i64 x.2.1, .int .i64 x.2.2] :: ([] ++ F)⟩)
    (fun y => y ≤ l.length ∧ ∀ t u, t < y → l[t]? = some u → u ≠ x) (fun y => l.length - y) 0 ⟨Nat.zero_le _, fun t _ ht => by omega⟩ hsQ (fun i hi => ?_)
  obtain ⟨hi, hall⟩ := hi
  by_cases hlt : i < l.length
  · obtain ⟨y, hy⟩ := get_of_lt hlt
    obtain ⟨hA, ch, hat, rfl⟩ := h.elem hy
    simp only [kyC] at hat
    have hxy : x = y ↔ [x.1, x.2.1, x.2.2] = [y.1, y.2.1, y.2.2] := by
      obtain ⟨x1, x2, x3⟩ := x
      obtain ⟨y1, y2, y3⟩ := y
      simp
    by_cases hk : [x.1, x.2.1, x.2.2] = [y.1, y.2.1, y.2.2]
    · (repeat (first | ((with_reducible refine Tr.step rfl ?_); (first | (refine xmQ (z := ?_)) | (refine xaQ (z := ?_)) | (refine xiQ (z := ?_)))) | (with_reducible first | apply Tr.next | apply Tr.seq | apply Tr.region | apply Tr.nil | apply Tr.skip | apply Tr.block) | (refine Tr.cond_t rfl (by first | (with_reducible assumption) | (with_reducible rfl) | (with_reducible exact (not_not_intro rfl)) | omega) ?_)))
      (((apply Tr.draw); (kernel_rfl)); (refine tkQ 0 (hB := by exact fun _ h => h) (s := by exact swQ) (h := ?_)); (refine tkQ 1 (s := by exact Stab.move rfl) (h := ?_)); (refine tkQ 2 (s := by exact Stab.move rfl) (h := ?_)); (refine tkQ 3 (s := by exact sxQ) (h := ?_)); (refine tkQ 4 (s := by exact Stab.loadMA rfl (tysOk.get rfl) rfl (by assumption) (by first | rfl | assumption)) (h := ?_)); (refine tkQ 5 (s := by exact Stab.steqL rfl rfl (by repeat (first | exact IntsL.nil | apply IntsL.cons)) (by repeat (first | exact IntsL.nil | apply IntsL.cons)) (tysOk.get rfl) rfl (by kernel_rfl) (by kernel_rfl) rfl rfl) (h := ?_)); (refine TrA.done (by kernel_rfl) ?_))
      (repeat (first | ((with_reducible refine Tr.step rfl ?_); (first | (refine xmQ (z := ?_)) | (refine xaQ (z := ?_)))) | (with_reducible first | apply Tr.next | apply Tr.seq | apply Tr.region | apply Tr.nil | apply Tr.ret | apply Tr.then_ret | apply Tr.in_ret) | (refine Tr.cond_t rfl (by first | (with_reducible assumption) | (with_reducible rfl) | (with_reducible exact (not_not_intro rfl)) | omega) ?_)))
      (refine dnQ (hL := by exact ⟨[_], rfl⟩) (k := ⟨rfl, ?_⟩))
      exact ⟨⟨i, rfl, .inl ⟨by omega, by rw [hxy.2 hk]; exact List.mem_of_getElem? hy⟩⟩, rfl⟩
    · (repeat (first | ((with_reducible refine Tr.step rfl ?_); (first | (refine xmQ (z := ?_)) | (refine xaQ (z := ?_)) | (refine xiQ (z := ?_)))) | (with_reducible first | apply Tr.next | apply Tr.seq | apply Tr.region | apply Tr.nil | apply Tr.skip | apply Tr.block) | (refine Tr.cond_t rfl (by first | (with_reducible assumption) | (with_reducible rfl) | (with_reducible exact (not_not_intro rfl)) | omega) ?_)))
      (((apply Tr.draw); (kernel_rfl)); (refine tkQ 0 (hB := by exact fun _ h => h) (s := by exact swQ) (h := ?_)); (refine tkQ 1 (s := by exact Stab.move rfl) (h := ?_)); (refine tkQ 2 (s := by exact Stab.move rfl) (h := ?_)); (refine tkQ 3 (s := by exact sxQ) (h := ?_)); (refine tkQ 4 (s := by exact Stab.loadMA rfl (tysOk.get rfl) rfl (by assumption) (by first | rfl | assumption)) (h := ?_)); (refine tkQ 5 (s := by exact Stab.steqL rfl rfl (by repeat (first | exact IntsL.nil | apply IntsL.cons)) (by repeat (first | exact IntsL.nil | apply IntsL.cons)) (tysOk.get rfl) rfl (by kernel_rfl) (by kernel_rfl) rfl rfl) (h := ?_)); (refine TrA.done (by kernel_rfl) ?_))
      (repeat (first | ((with_reducible refine Tr.step rfl ?_); (first | (refine xmQ (z := ?_)) | (refine xdQ (z := ?_)))) | (with_reducible first | apply Tr.next | apply Tr.region | apply Tr.nil | apply Tr.skip | apply Tr.in_normal) | (refine Tr.cond_f rfl (by first | (with_reducible assumption) | (with_reducible rfl) | (with_reducible exact (not_not_intro rfl)) | omega) ?_)))
      refine Tr.again (i + 1) ⟨by omega, fun t u ht hu => ?_⟩ (by omega) hsQ
      by_cases e : t = i
      · subst e
        rw [hy] at hu
        cases hu
        exact fun e => hk (hxy.1 e.symm)
      · exact hall t u (by omega) hu
  · have e : i = l.length := by omega
    subst e
    (repeat (first | ((with_reducible refine Tr.step rfl ?_); (first | (refine xaQ (z := ?_)) | (refine xiQ (z := ?_)))) | (with_reducible first | apply Tr.next | apply Tr.seq | apply Tr.region | apply Tr.nil | apply Tr.exit | apply Tr.ret | apply Tr.then_exit) | ((with_reducible refine Tr.in_exit ?_ ?_); (exact rfl)) | (refine Tr.cond_f rfl (by first | (with_reducible assumption) | (with_reducible rfl) | (with_reducible exact (not_not_intro rfl)) | omega) ?_)))
    (refine dnQ (hL := by exact ⟨[_], rfl⟩) (k := ⟨rfl, ?_⟩))
    refine ⟨⟨-1, rfl, .inr ⟨rfl, fun hm => ?_⟩⟩, rfl⟩
    obtain ⟨t, ht⟩ := List.mem_iff_getElem?.1 hm
    exact hall t x (List.getElem?_eq_some_iff.1 ht).1 ht rfl
theorem containsKy_fn (M : Mem) (A : Option Addr) (c : Nat) (l : List Ky) (x : Ky) (h : SlOf 3 RKy M (.slice A l.length c) l) :
    Fn0 Try.prog 30 [.slice A l.length c, .agg #[.int .i64 x.1, .int .i64 x.2.1, .int .i64 x.2.2]] M (fun r M' => r = .bool (decide (x ∈ l)) ∧ M = M') := by
  refine Fn.intro Try.func30 rfl rfl Try.ntmps30 rfl fun E F => ?_
  (repeat (first | ((with_reducible refine Tr.step rfl ?_); (first | (refine xmQ (z := ?_)) | (refine xaQ (z := ?_)) | (refine xwQ (z := ?_)) | ((with_reducible refine Knd.box ?_); (refine Exec.box rfl rfl (fun b => ?_))))) | (with_reducible first | apply Tr.next | apply Tr.seq | apply Tr.region | apply Tr.nil)))
  ((refine Tr.step rfl ?_)); refine Exec.call0 rfl (indexKy_fn M A c l x h) rfl ?_
  rintro _ _ _ ⟨⟨z, rfl, hz⟩, rfl⟩
  (repeat (first | ((with_reducible refine Tr.step rfl ?_); (first | (refine xaQ (z := ?_)) | (refine xiQ (z := ?_)))) | (with_reducible first | apply Tr.next | apply Tr.nil | apply Tr.ret)))
  (refine dnQ (hL := by exact ⟨[_], rfl⟩) (k := ⟨rfl, ?_⟩))
  refine ⟨?_, rfl⟩
  rcases hz with ⟨h1, h2⟩ | ⟨rfl, h2⟩
  · rw [decide_eq_true h2, decide_eq_true h1]; rfl
  · rw [decide_eq_false h2]; rfl
set_option maxHeartbeats 4000000 in
theorem deleteKy_own (M : Mem) (A : Option Addr) (c : Nat) (l : List Ky) (i : Nat) (hi : i < l.length) (hl : l.length ≤ 1000000) (hc : c ≤ 9223372036854775807) :
    Bf.Fn Try.prog 34 [.slice A l.length c, .int .i64 (i : Int), .int .i64 ((i : Int) + 1)] M [ownS 71 3 A l.length c (l.flatMap kyC)] (fun r M' A' => M = M' ∧ r = .slice A (l.length - 1) c ∧ A' = [ownS 71 3 A (l.length - 1) c ((l.eraseIdx i).flatMap kyC)]) := by
  refine Fn.intro Try.func34 rfl rfl Try.ntmps34 rfl fun E F => ?_
  refine Tr.own_open Del.here (by omega) (fun g cur hA hlc hcl hct => ?_)
  subst hA
  have hlen : l.length * 3 ≤ cur.length := by omega
  (repeat (first | ((with_reducible refine Tr.step rfl ?_); (first | (refine xmQ (z := ?_)) | (refine xaQ (z := ?_)) | (refine xnQ (z := ?_)) | (refine xiQ (z := ?_)) | ((with_reducible refine Knd.slice ?_); (refine Exec.stab rfl (Stab.slice_lhm rfl rfl rfl rfl (tysOk.get rfl) rfl (tysOk.get rfl) rfl (by omega) (by omega) (by omega) (by omega)) rfl ?_)))) | (with_reducible first | apply Tr.next | apply Tr.seq | apply Tr.region | apply Tr.nil | apply Tr.skip) | (refine Tr.cond_f rfl (by first | (with_reducible assumption) | (with_reducible rfl) | (with_reducible exact (not_not_intro rfl)) | omega) ?_)))
  obtain ⟨hc1, hc2⟩ := erase_cellsN kyC_len hi hct
  have hone : ∀ u ∈ (cur.drop ((i + 1) * 3)).take ((l.length - (i + 1)) * 3), u.oneCell' = true := fun u hu => by
    have h1 : (cur.drop ((i + 1) * 3)).take ((l.length - (i + 1)) * 3) = (l.flatMap kyC).drop ((i + 1) * 3) := by
      rw [← hct, List.drop_take]
      congr 1
      omega
    rw [h1] at hu
    exact flatMap_one kyC_one l u (List.mem_of_mem_drop hu)
  have e1 : ((i : Int)).toNat = i := Int.toNat_natCast i
  have e2 : ((i : Int) + 1).toNat = i + 1 := by omega
  have e3 : i + (l.length - (i + 1)) = l.length - 1 := by omega
  (((apply Tr.draw); (kernel_rfl)); (refine tkQ 0 (hB := by exact fun _ h => h) (s := by exact Stab.move rfl) (h := ?_)); (refine tkQ 1 (s := by exact Stab.move rfl) (h := ?_)); (refine tkQ 3 (s := by exact Stab.move rfl) (h := ?_)); (refine tkQ 4 (s := by exact Stab.move rfl) (h := ?_)); (refine tkQ 2 (s := by exact Stab.slice_h rfl rfl (tysOk.get rfl) rfl (tysOk.get rfl) (by omega) (by omega)) (h := ?_)); (refine tkQ 5 (s := by exact Stab.slice_l rfl rfl (tysOk.get rfl) rfl (tysOk.get rfl) rfl (by omega) (by omega)) (h := ?_)); (refine TrA.effD 6 rfl (by kernel_rfl) (by kernel_rfl) (by first | exact .inl rfl | exact .inr ⟨_, _, _, rfl, rfl, rfl⟩) ?_))
  refine Exec.appendInN (sz := 3) (j := i + 1) rfl rfl (by (rw [e2]); split; (exact ⟨_, rfl, .inl (by omega)⟩); (exact ⟨_, rfl, .inr (by simp [Addr.add])⟩)) (tysOk.get rfl) rfl (tysOk.get rfl) rfl (by omega) (by omega) (by omega) (by rw [e2]; exact hone) Upd.here rfl ?_
  refine ⟨_, fun _ h => h, ?_⟩
  rw [e1, e2, e3]
  generalize cur.take (i * 3) ++ (cur.drop ((i + 1) * 3)).take ((l.length - (i + 1)) * 3) ++ cur.drop ((l.length - 1) * 3) = cur2 at hc1 hc2
  clear hct hone
  ((refine tkQ 7 (s := by exact Stab.assign rfl) (h := ?_)); (refine TrA.done (by kernel_rfl) ?_))
  (repeat (first | ((with_reducible refine Tr.step rfl ?_); (first | (refine xmQ (z := ?_)) | (refine xnQ (z := ?_)) | ((with_reducible refine Knd.slice ?_); (refine Exec.stab rfl (Stab.slice_lh rfl rfl rfl (tysOk.get rfl) rfl (tysOk.get rfl) rfl (by omega) (by omega) (by omega)) rfl ?_)))) | (with_reducible first | apply Tr.next | apply Tr.seq | apply Tr.region)))
  have e4 : (((l.length - 1 : Nat) : Int)).toNat = l.length - 1 := Int.toNat_natCast _
  have e5 : ((l.length : Int)).toNat = l.length := Int.toNat_natCast _
  rw [e4, e5]
  ((refine Tr.step rfl ?_))
  refine Exec.clearAtN (o := (l.length - 1) * 3) (m := 1) (cs := cur2) (z := [.int .i64 0, .int .i64 0, .int .i64 0]) (c := c - (l.length - 1)) (by
    rw [if_neg (by omega), show l.length - (l.length - 1) = 1 by omega]
    simp [ev, look_cons_eq, Addr.add]; omega) (tysOk.get rfl) rfl (tysOk.get rfl) rfl rfl (by decide) (by intro u hu; simp only [List.mem_cons, List.not_mem_nil, or_false, or_self] at hu; subst hu; rfl) Upd.here (by simp only [List.length_cons, List.length_nil]; omega) (by omega) ?_
  simp only [List.length_cons, List.length_nil, Nat.zero_add, Nat.reduceAdd]
  have hc3 : (cur2.take ((l.length - 1) * 3) ++ zerosL [.int .i64 0, .int .i64 0, .int .i64 0] 1 ++ cur2.drop ((l.length - 1) * 3 + 1 * 3)).take ((l.length - 1) * 3) = (l.eraseIdx i).flatMap kyC := by
    rw [List.append_assoc, List.take_append_of_le_length (by rw [List.length_take]; omega), List.take_of_length_le (by rw [List.length_take]; omega)]
    exact hc1
  have hc4 : (cur2.take ((l.length - 1) * 3) ++ zerosL [.int .i64 0, .int .i64 0, .int .i64 0] 1 ++ cur2.drop ((l.length - 1) * 3 + 1 * 3)).length = c * 3 := by
    simp only [List.length_append, List.length_take, List.length_drop, zerosL_len, List.length_cons, List.length_nil]; omega
  generalize cur2.take ((l.length - 1) * 3) ++ zerosL [.int .i64 0, .int .i64 0, .int .i64 0] 1 ++ cur2.drop ((l.length - 1) * 3 + 1 * 3) = cur3 at hc3 hc4 ⊢
  refine Tr.box_ownC 3 (l.length - 1) c Upd.here hc4 (by omega) hc hc3 (flatMap_one kyC_one _) ?_
  (repeat (first | ((with_reducible refine Tr.step rfl ?_); (first | (refine xmQ (z := ?_)) | (refine xaQ (z := ?_)))) | (with_reducible first | apply Tr.next | apply Tr.seq | apply Tr.region | apply Tr.nil | apply Tr.ret)))
  refine Tr.doneA (A' := [ownS 71 3 (some ⟨g, 0, none⟩) (l.length - 1) c ((l.eraseIdx i).flatMap kyC)]) (by first | exact .inl rfl | exact .inr rfl) rfl (by repeat (first | exact RVs.nil | (apply RVs.cons; (exact RV.tmp rfl)))) (Mem.le.refl _) ⟨fun _ h => h, fun h => h⟩ ⟨rfl, rfl, rfl⟩
end Go.Proofs.Ytlifjajcmnkhfaa

/-
  Refusals: worlds without some keys, and the fewest keys that would have to go, plain.
  Conditions: none.
-/
namespace Go.Proofs.Ytlifjajcmnkhfaa
open Go Bf
def withoutF (w : Wd) (ks : List Ky) : Wd := ⟨w.swaps, w.facts.filter fun f => !decide (f.key ∈ ks)⟩
def addK (l : List Ky) (x : Ky) : List Ky := if x ∈ l then l else l ++ [x]
/-- the keys of reads that say that an item is refused -/
def exclF (w : Wd) (known : Int) (rds : List Rd) : List Ky := ((rds.filter fun y => refusedF w y known).map (·.1)).foldl addK []
noncomputable def cutK (P : List Ky → Prop) : Nat → List Ky → List Ky
  | 0, l => l
  | i + 1, l => open Classical in cutK P i (if P (l.eraseIdx i) then l.eraseIdx i else l)
def meetK (w : Wd) (b : Bp) (r : Rq) (ks : List Ky) : Prop := Feas (pbW (withoutF w ks) b.known b.sups (b.reqs ++ [r]))
theorem withoutF_nil (w : Wd) : withoutF w [] = w := by
  unfold withoutF
  rw [List.filter_eq_self.2 (by simp)]
end Go.Proofs.Ytlifjajcmnkhfaa

/-
  Matching, plain: sets of bits and sets of requests; what the reference computes of them.
  Conditions: none.
-/
namespace Go.Proofs.Ytlifjajcmnkhfaa
open Go Bf
/-- the bits of a set -/
def bitsOf (S : Nat → Bool) : Nat → Nat
  | 0 => 0
  | m + 1 => bitsOf S m + if S m then 2 ^ m else 0
theorem bitsOf_lt (S : Nat → Bool) : ∀ m, bitsOf S m < 2 ^ m
  | 0 => by simp [bitsOf]
  | m + 1 => by
    have := bitsOf_lt S m
    rw [bitsOf, Nat.pow_succ]
    split <;> omega
theorem bitsOf_bit (S : Nat → Bool) : ∀ m i, (bitsOf S m).testBit i = (decide (i < m) && S i)
  | 0, i => by simp [bitsOf]
  | m + 1, i => by
    have hl := bitsOf_lt S m
    have ih := bitsOf_bit S m i
    have e : bitsOf S (m + 1) = 2 ^ m * (if S m then 1 else 0) + bitsOf S m := by
      rw [bitsOf]; split <;> simp <;> omega
    rw [e, Nat.testBit_two_pow_mul_add _ hl]
    by_cases h : i < m
    · rw [if_pos h, ih]
      have h2 : i < m + 1 := by omega
      simp [h, h2]
    · rw [if_neg h]
      by_cases h3 : i = m
      · subst h3
        simp
        cases S i <;> simp
      · have h4 : ¬ i < m + 1 := by omega
        simp only [h4, decide_false, Bool.false_and]
        obtain ⟨d, hd⟩ : ∃ d, i - m = d + 1 := ⟨i - m - 1, by omega⟩
        rw [hd]
        cases S m <;> simp [Nat.testBit_succ]
theorem touch_bits {fits : List (List Bool)} {sup need : List Int} (hv : Vld fits sup need) {k : Nat} (hk : k < sup.length) (s : Nat) : touchB (fits.getD k []) s = touches (pbOf fits sup need) (fun b => s.testBit b) k := by
  have hl := hv.lf
  obtain ⟨row, hr⟩ := get_of_lt (xs := fits) (i := k) (by omega)
  have hrl := hv.rows row (List.mem_of_getElem? hr)
  unfold touchB touches
  rw [getD_of (d := []) hr, hrl]
  show _ = (List.range need.length).any fun b => s.testBit b && (fits.getD k []).getD b false
  rw [getD_of (d := []) hr]
theorem lackB_eq {fits : List (List Bool)} {sup need : List Int} (hv : Vld fits sup need) (s : Nat) : lackB fits sup need s = lackOf (pbOf fits sup need) (fun b => s.testBit b) := by
  unfold lackB lackOf
  congr 1
  refine sumN_congr fun k hk => ?_
  rw [touch_bits hv hk]
  rfl
theorem lackOf_congr {p : Pb} {D D' : Nat → Bool} (h : ∀ b, b < p.m → D b = D' b) : lackOf p D = lackOf p D' := by
  unfold lackOf
  congr 1
  · exact sumN_congr fun b hb => by rw [h b hb]
  · refine sumN_congr fun k _ => ?_
    have : touches p D k = touches p D' k := by
      rw [Bool.eq_iff_iff, touches_iff, touches_iff]
      exact ⟨fun ⟨b, h1, h2, h3⟩ => ⟨b, h1, by rw [← h b h1]; exact h2, h3⟩, fun ⟨b, h1, h2, h3⟩ => ⟨b, h1, by rw [h b h1]; exact h2, h3⟩⟩
    rw [this]
theorem lackOf_bits {fits : List (List Bool)} {sup need : List Int} (hv : Vld fits sup need) (D : Nat → Bool) : lackOf (pbOf fits sup need) D = lackB fits sup need (bitsOf D need.length) := by
  rw [lackB_eq hv]
  refine lackOf_congr fun b hb => ?_
  rw [bitsOf_bit]
  have : b < need.length := hb
  simp [this]
theorem MaxLack.isLack {fits : List (List Bool)} {sup need : List Int} (hv : Vld fits sup need) {v : Int} (h : MaxLack fits sup need (2 ^ need.length) v) : IsLack (pbOf fits sup need) v := by
  refine ⟨?_, fun D => ?_⟩
  · rcases h.is with h | ⟨s, _, _, h⟩
    · exact ⟨fun _ => false, by rw [lackOf_none, h]⟩
    · exact ⟨_, by rw [← lackB_eq hv, h]⟩
  · rw [lackOf_bits hv]
    by_cases h0 : bitsOf D need.length = 0
    · rw [h0, lackB_eq hv]
      have : lackOf (pbOf fits sup need) (fun b => (0 : Nat).testBit b) = 0 := by
        rw [← lackOf_none (pbOf fits sup need)]
        exact lackOf_congr fun b _ => by simp
      rw [this]; exact h.nn
    · exact h.le _ (by omega) (bitsOf_lt _ _)
/-- a part of the requests can be met if no part of it lacks anything -/
theorem lackS_le {fits : List (List Bool)} {sup need : List Int} (hv : Vld fits sup need) (S D : Nat → Bool) : lackOf (pbS fits sup need S) D ≤ lackOf (pbOf fits sup need) (fun b => D b && S b) := by
  unfold lackOf
  have h1 : (sumN (pbS fits sup need S).m fun b => if D b = true then (pbS fits sup need S).need b else 0) = sumN (pbOf fits sup need).m fun b => if (D b && S b) = true then (pbOf fits sup need).need b else 0 := sumN_congr fun b _ => by
    show (if D b = true then (if S b = true then need.getD b 0 else 0) else 0) = if (D b && S b) = true then need.getD b 0 else 0
    cases D b <;> cases S b <;> simp
  have h2 : (sumN (pbOf fits sup need).n fun k => if touches (pbOf fits sup need) (fun b => D b && S b) k = true then (pbOf fits sup need).sup k else 0) ≤ sumN (pbS fits sup need S).n fun k => if touches (pbS fits sup need S) D k = true then (pbS fits sup need S).sup k else 0 := sumN_le fun k hk => by
    by_cases ht : touches (pbOf fits sup need) (fun b => D b && S b) k = true
    · have : touches (pbS fits sup need S) D k = true := by
        obtain ⟨b, g1, g2, g3⟩ := touches_iff.1 ht
        exact touches_iff.2 ⟨b, g1, by simp at g2; exact g2.1, g3⟩
      rw [if_pos ht, if_pos this]
      exact Int.le_refl _
    · rw [if_neg ht]
      split
      · exact (getD_rng hv.rs k).1
      · exact Int.le_refl _
  exact Int.sub_le_sub (Int.le_of_eq h1) h2
theorem lackS_eq {fits : List (List Bool)} {sup need : List Int} (S D : Nat → Bool) (h : ∀ b, b < need.length → D b = true → S b = true) : lackOf (pbS fits sup need S) D = lackOf (pbOf fits sup need) D := by
  unfold lackOf
  congr 1
  refine sumN_congr fun b hb => ?_
  show (if D b = true then (if S b = true then need.getD b 0 else 0) else 0) = if D b = true then need.getD b 0 else 0
  by_cases hd : D b = true
  · rw [if_pos hd, if_pos hd, if_pos (h b hb hd)]
  · rw [if_neg hd, if_neg hd]
theorem feasS_iff {fits : List (List Bool)} {sup need : List Int} (hv : Vld fits sup need) (S : Nat → Bool) : Feas (pbS fits sup need S) ↔ ∀ D, lackOf (pbS fits sup need S) D ≤ 0 := feas_iff (fun k _ => (getD_rng hv.rs k).1) (fun b _ => by
  show 0 ≤ if S b = true then need.getD b 0 else 0
  split
  · exact (getD_rng hv.rn b).1
  · exact Int.le_refl _)
theorem poss_iff {fits : List (List Bool)} {sup need : List Int} (hv : Vld fits sup need) {set : Nat} (_ : set < 2 ^ need.length) : Poss fits sup need set ↔ Feas (pbS fits sup need fun b => set.testBit b) := by
  rw [feasS_iff hv]
  refine ⟨fun h D => ?_, fun h s h1 h2 h3 => ?_⟩
  · refine Int.le_trans (lackS_le hv _ D) ?_
    rw [lackOf_bits hv]
    by_cases h0 : bitsOf (fun b => D b && set.testBit b) need.length = 0
    · rw [h0, lackB_eq hv]
      have : lackOf (pbOf fits sup need) (fun b => (0 : Nat).testBit b) = 0 := by
        rw [← lackOf_none (pbOf fits sup need)]
        exact lackOf_congr fun b _ => by simp
      rw [this]; exact Int.le_refl _
    · have hsub : bitsOf (fun b => D b && set.testBit b) need.length &&& set = bitsOf (fun b => D b && set.testBit b) need.length := by
        apply Nat.eq_of_testBit_eq
        intro i
        rw [Nat.testBit_and, bitsOf_bit]
        cases D i <;> cases set.testBit i <;> simp
      refine h _ (by omega) ?_ hsub
      rw [← hsub]
      exact Nat.and_le_right
  · rw [lackB_eq hv, ← lackS_eq (S := fun b => set.testBit b)]
    · exact h _
    · intro b _ hb
      rw [← h3, Nat.testBit_and] at hb
      simp at hb
      exact hb.2
theorem sub_bit {s r : Nat} (h : s.testBit r = true) : 2 ^ r ≤ s ∧ ∀ b, (s - 2 ^ r).testBit b = (s.testBit b && decide (b ≠ r)) := by
  have hd : s = 2 ^ r * (s / 2 ^ r) + s % 2 ^ r := (Nat.div_add_mod s (2 ^ r)).symm
  have hl : s % 2 ^ r < 2 ^ r := Nat.mod_lt _ (Nat.two_pow_pos r)
  have hb : (s / 2 ^ r).testBit 0 = true := by
    rw [hd, Nat.testBit_two_pow_mul_add _ hl, if_neg (Nat.lt_irrefl _), Nat.sub_self] at h
    exact h
  generalize s / 2 ^ r = u at hd hb
  generalize s % 2 ^ r = l at hd hl
  obtain ⟨q, rfl⟩ : ∃ q, u = 2 * q + 1 := ⟨u / 2, by simp at hb; omega⟩
  have e1 : 2 ^ r * (2 * q + 1) = 2 ^ r * (2 * q) + 2 ^ r := by rw [Nat.mul_add, Nat.mul_one]
  have e2 : s - 2 ^ r = 2 ^ r * (2 * q) + l := by omega
  refine ⟨by omega, fun b => ?_⟩
  rw [e2, hd, Nat.testBit_two_pow_mul_add _ hl, Nat.testBit_two_pow_mul_add _ hl]
  by_cases h1 : b < r
  · rw [if_pos h1, if_pos h1]
    have : b ≠ r := by omega
    simp [this]
  · rw [if_neg h1, if_neg h1]
    by_cases h2 : b = r
    · subst h2
      simp
    · obtain ⟨d, hd⟩ : ∃ d, b - r = d + 1 := ⟨b - r - 1, by omega⟩
      rw [hd]
      have e3 : (2 * q + 1) / 2 = q := by omega
      have e4 : 2 * q / 2 = q := by omega
      simp [Nat.testBit_succ, e3, e4, h2]
theorem cut_bits {fits : List (List Bool)} {sup need : List Int} (hv : Vld fits sup need) : ∀ (r s : Nat), r ≤ need.length → s < 2 ^ need.length → (∀ i, i < r → s.testBit i = true) →
    (fun b => (cutS (Poss fits sup need) r s).testBit b) = cutF (fun S => Feas (pbS fits sup need S)) r (fun b => s.testBit b)
  | 0, s, _, _, _ => rfl
  | r + 1, s, hr, hs, hb => by
    obtain ⟨h1, h2⟩ := sub_bit (hb r (by omega))
    have hp := poss_iff hv (set := s - 2 ^ r) (Nat.lt_of_le_of_lt (Nat.sub_le _ _) hs)
    have e : (fun b => (s - 2 ^ r).testBit b) = fun b => s.testBit b && decide (b ≠ r) := funext h2
    rw [e] at hp
    rw [cutS, cutF]
    by_cases h : Poss fits sup need (s - 2 ^ r)
    · rw [if_pos h, cut_bits hv r s (by omega) hs fun i hi => hb i (by omega)]
      congr
      funext b
      by_cases hbr : b = r
      · subst hbr
        rw [if_pos rfl]
        exact (hb b (by omega)).trans (@decide_eq_true _ (Classical.propDecidable _) (hp.1 h)).symm
      · rw [if_neg hbr]
    · rw [if_neg h, cut_bits hv r (s - 2 ^ r) (by omega) (Nat.lt_of_le_of_lt (Nat.sub_le _ _) hs) fun i hi => by rw [h2, hb i (by omega)]; simp; omega]
      congr
      funext b
      by_cases hbr : b = r
      · subst hbr
        rw [if_pos rfl, h2]
        refine Eq.trans ?_ (@decide_eq_false _ (Classical.propDecidable _) (fun h' => h (hp.2 h'))).symm
        simp
      · rw [if_neg hbr, h2]; simp [hbr]
theorem cutFin_bits {fits : List (List Bool)} {sup need : List Int} (hv : Vld fits sup need) : cutFin fits sup need = fun b => (cutOfP fits sup need).testBit b := by
  have h := cut_bits hv need.length (2 ^ need.length - 1) (Nat.le_refl _) (by have := Nat.two_pow_pos need.length; omega) (fun i hi => by rw [Nat.testBit_two_pow_sub_one]; simp [hi])
  unfold cutFin cutOfP
  rw [h]
  congr
  funext b
  rw [Nat.testBit_two_pow_sub_one]
theorem memF_bits {fits : List (List Bool)} {sup need : List Int} (hv : Vld fits sup need) : memF (cutFin fits sup need) need.length = memI (cutOfP fits sup need) need.length := by
  rw [cutFin_bits hv]; rfl
theorem feas_poss {fits : List (List Bool)} {sup need : List Int} (hv : Vld fits sup need) : Feas (pbOf fits sup need) ↔ Poss fits sup need (2 ^ need.length - 1) := by
  rw [poss_iff hv (by have := Nat.two_pow_pos need.length; omega), feasS_iff hv, feas_iff hv.sup0 hv.need0]
  have h : ∀ D, lackOf (pbS fits sup need fun b => (2 ^ need.length - 1).testBit b) D = lackOf (pbOf fits sup need) D := fun D => lackS_eq _ _ fun b hb _ => by rw [Nat.testBit_two_pow_sub_one]; simp [hb]
  simp only [h]
end Go.Proofs.Ytlifjajcmnkhfaa

/-
  Matching: the contracts of slices.Equal and of Check, of the program and of the reference.
  Conditions: none.
-/
namespace Go.Proofs.Ytlifjajcmnkhfaa
open Go Bf
attribute [local irreducible] Tr Exec Stab HasTy Go.Addr.add IntKind.wrap
def am2 (am : List (List Int)) (i j : Nat) : Int := (am.getD i []).getD j 0
structure CheckP (fits : List (List Bool)) (sup need : List Int) (am : List (List Int)) : Prop where
  len : am.length = sup.length
  rows : ∀ r ∈ am, r.length = need.length
  nn : ∀ i j, i < sup.length → j < need.length → 0 ≤ am2 am i j
  ok : ∀ i j, i < sup.length → j < need.length → 0 < am2 am i j → (fits.getD i []).getD j false = true
  row : ∀ i, i < sup.length → sumN need.length (am2 am i) ≤ sup.getD i 0
  col : ∀ j, j < need.length → sumN sup.length (fun i => am2 am i j) = need.getD j 0
theorem CheckP.le {fits : List (List Bool)} {sup need : List Int} {am : List (List Int)} (h : CheckP fits sup need am) {i j : Nat} (hi : i < sup.length) (hj : j < need.length) : am2 am i j ≤ sup.getD i 0 := by
  have h1 := sumN_le_of_mem (f := am2 am i) (n := need.length) (k := j) (fun b hb => h.nn i b hi hb) hj
  have h2 := h.row i hi
  omega
/-- what is right so far -/
structure Upto (fits : List (List Bool)) (sup need : List Int) (am : List (List Int)) (i j : Nat) (col : List Int) : Prop where
  cl : col.length = need.length
  ok : ∀ i' j', i' < sup.length → j' < need.length → (i' < i ∨ i' = i ∧ j' < j) → 0 ≤ am2 am i' j' ∧ am2 am i' j' ≤ 1048576 ∧ (0 < am2 am i' j' → (fits.getD i' []).getD j' false = true)
  rw_ : ∀ i', i' < i → (am.getD i' []).length = need.length ∧ sumN need.length (am2 am i') ≤ sup.getD i' 0
  sm : ∀ q, q < need.length → col.getD q 0 = sumN i (fun i' => am2 am i' q) + if q < j then am2 am i q else 0
theorem Upto.start (fits : List (List Bool)) (sup need : List Int) (am : List (List Int)) : Upto fits sup need am 0 0 (List.replicate need.length 0) := by
  refine ⟨by simp, fun _ _ _ _ h => by omega, fun _ h => by omega, fun q hq => ?_⟩
  rw [if_neg (by omega)]
  show _ = (0 : Int) + 0
  rw [List.getD_eq_getElem?_getD]; simp [hq]
theorem Upto.step {fits : List (List Bool)} {sup need : List Int} {am : List (List Int)} {i j : Nat} {col : List Int} (h : Upto fits sup need am i j col) (hj : j < need.length) (h0 : 0 ≤ am2 am i j ∧ am2 am i j ≤ 1048576) (hf : 0 < am2 am i j → (fits.getD i []).getD j false = true) :
    Upto fits sup need am i (j + 1) (col.set j (col.getD j 0 + am2 am i j)) := by
  refine ⟨by simpa using h.cl, fun i' j' h1 h2 h3 => ?_, h.rw_, fun q hq => ?_⟩
  · by_cases e : i' = i ∧ j' = j
    · obtain ⟨rfl, rfl⟩ := e
      exact ⟨h0.1, h0.2, hf⟩
    · exact h.ok i' j' h1 h2 (by omega)
  · by_cases e : q = j
    · subst e
      rw [getD_set_self' (by rw [h.cl]; exact hj), h.sm q hq, if_neg (by omega), if_pos (by omega)]
      omega
    · rw [getD_set_ne' (Ne.symm e), h.sm q hq]
      have : q < j + 1 ↔ q < j := by omega
      simp only [this]
theorem Upto.row {fits : List (List Bool)} {sup need : List Int} {am : List (List Int)} {i : Nat} {col : List Int} {r : List Int} (h : Upto fits sup need am i need.length col) (hr : am[i]? = some r) (hrl : r.length = need.length) (hs : sumN need.length (am2 am i) ≤ sup.getD i 0) : Upto fits sup need am (i + 1) 0 col := by
  refine ⟨h.cl, fun i' j' h1 h2 h3 => h.ok i' j' h1 h2 (by omega), fun i' h1 => ?_, fun q hq => ?_⟩
  · by_cases e : i' = i
    · subst e
      exact ⟨by rw [getD_of (d := []) hr]; exact hrl, hs⟩
    · exact h.rw_ i' (by omega)
  · rw [h.sm q hq, if_pos hq, if_neg (by omega)]
    show _ = (sumN i (fun i' => am2 am i' q) + am2 am i q) + 0
    omega
theorem Upto.fin {fits : List (List Bool)} {sup need : List Int} {am : List (List Int)} {col : List Int} (h : Upto fits sup need am sup.length 0 col) (hl : am.length = sup.length) : col = need ↔ CheckP fits sup need am := by
  refine ⟨fun e => ⟨hl, fun r hr => ?_, fun i j hi hj => (h.ok i j hi hj (.inl hi)).1, fun i j hi hj => (h.ok i j hi hj (.inl hi)).2.2, fun i hi => (h.rw_ i hi).2, fun j hj => ?_⟩, fun hc => ?_⟩
  · obtain ⟨i, hi⟩ := List.mem_iff_getElem?.1 hr
    have := (h.rw_ i (by have := (List.getElem?_eq_some_iff.1 hi).1; omega)).1
    rw [getD_of (d := []) hi] at this
    exact this
  · have := h.sm j hj
    rw [if_neg (by omega), e] at this
    omega
  · apply List.ext_getElem?
    intro q
    by_cases hq : q < need.length
    · have h1 := h.sm q hq
      rw [if_neg (by omega), hc.col q hq] at h1
      obtain ⟨a, ha⟩ := get_of_lt (xs := col) (i := q) (by rw [h.cl]; exact hq)
      obtain ⟨b, hb⟩ := get_of_lt hq
      rw [getD_of ha, getD_of hb] at h1
      rw [ha, hb, h1]; simp
    · rw [List.getElem?_eq_none (by rw [h.cl]; omega), List.getElem?_eq_none (by omega)]
/-- what Check answers -/
def CheckR (fits : List (List Bool)) (sup need : List Int) (am : List (List Int)) (r : Value) : Prop :=
  (validF fits sup need = false ∧ r = .tuple #[.bool false, .int .i64 300]) ∨ (Vld fits sup need ∧ ∃ b : Bool, r = .tuple #[.bool b, .int .i64 0] ∧ (b = true ↔ CheckP fits sup need am))
theorem CheckR.no {fits : List (List Bool)} {sup need : List Int} {am : List (List Int)} (hv : Vld fits sup need) (h : ¬ CheckP fits sup need am) : CheckR fits sup need am (.tuple #[.bool false, .int .i64 0]) := .inr ⟨hv, false, rfl, by simp [h]⟩
end Go.Proofs.Ytlifjajcmnkhfaa

/-
  Matching: the contract of the program's Cut.
  Conditions: none.
-/
namespace Go.Proofs.Ytlifjajcmnkhfaa
open Go Bf
attribute [local irreducible] Tr Exec Stab HasTy Go.Addr.add IntKind.wrap
/-- the list is strictly ascending and within the requests, up to i -/
def AscTo (m : Nat) (l : List Int) (i : Nat) : Prop := ∀ q x, q < i → l[q]? = some x → 0 ≤ x ∧ x < m ∧ ∀ y, 0 < q → l[q - 1]? = some y → y < x
def cutNeed (need : List Int) (l : List Int) : Int := (l.map fun x => need.getD x.toNat 0).sum
def cutTouch (row : List Bool) (l : List Int) : Bool := l.any fun x => row.getD x.toNat false
def cutHave (fits : List (List Bool)) (sup : List Int) (l : List Int) (i : Nat) : Int := sumN i fun k => if cutTouch (fits.getD k []) l then sup.getD k 0 else 0
def CutP (fits : List (List Bool)) (sup need l : List Int) : Prop := AscTo need.length l l.length ∧ cutHave fits sup l sup.length < cutNeed need l
def CutR (fits : List (List Bool)) (sup need l : List Int) (r : Value) : Prop :=
  (validF fits sup need = false ∧ r = .tuple #[.bool false, .int .i64 300]) ∨ (Vld fits sup need ∧ ∃ b : Bool, r = .tuple #[.bool b, .int .i64 0] ∧ (b = true ↔ CutP fits sup need l))
theorem CutR.no {fits : List (List Bool)} {sup need l : List Int} (hv : Vld fits sup need) (h : ¬ AscTo need.length l l.length) : CutR fits sup need l (.tuple #[.bool false, .int .i64 0]) := .inr ⟨hv, false, rfl, by simp [CutP, h]⟩
theorem AscTo.step {m i : Nat} {l : List Int} {x : Int} (h : AscTo m l i) (hx : l[i]? = some x) (h1 : 0 ≤ x ∧ x < m) (h2 : ∀ y, 0 < i → l[i - 1]? = some y → y < x) : AscTo m l (i + 1) := fun q z hq hz => by
  by_cases e : q = i
  · subst e
    rw [hx] at hz
    cases hz
    exact ⟨h1.1, h1.2, h2⟩
  · exact h q z (by omega) hz
theorem AscTo.ge {m : Nat} {l : List Int} : ∀ {i : Nat}, AscTo m l i → i ≤ l.length → ∀ x, 0 < i → l[i - 1]? = some x → (i : Int) - 1 ≤ x ∧ x < m
  | 0, _, _, _, h, _ => by omega
  | i + 1, h, hl, x, _, hx => by
    simp only [Nat.add_sub_cancel] at hx
    have h1 := h i x (by omega) hx
    by_cases e : i = 0
    · subst e; exact ⟨by simpa using h1.1, h1.2.1⟩
    · obtain ⟨y, hy⟩ := get_of_lt (xs := l) (i := i - 1) (by omega)
      have h2 := AscTo.ge (i := i) (fun q z hq hz => h q z (by omega) hz) (by omega) y (by omega) hy
      have h3 := h1.2.2 y (by omega) hy
      exact ⟨by push_cast; omega, h1.2.1⟩
theorem AscTo.count {m i : Nat} {l : List Int} (h : AscTo m l i) (hl : i ≤ l.length) : i ≤ m := by
  by_cases e : i = 0
  · omega
  · obtain ⟨y, hy⟩ := get_of_lt (xs := l) (i := i - 1) (by omega)
    have := h.ge hl y (by omega) hy
    omega
theorem cutNeed_succ {need l : List Int} {i : Nat} {x : Int} (hx : l[i]? = some x) : cutNeed need (l.take (i + 1)) = cutNeed need (l.take i) + need.getD x.toNat 0 := by
  unfold cutNeed
  rw [List.take_add_one, hx]
  simp
theorem cutNeed_rng {need : List Int} (h : ∀ x ∈ need, 0 ≤ x ∧ x ≤ 1048576) : ∀ (l : List Int), 0 ≤ cutNeed need l ∧ cutNeed need l ≤ 1048576 * l.length
  | [] => by simp [cutNeed]
  | x :: l => by
    have h1 := cutNeed_rng h l
    have h2 := getD_rng h x.toNat
    have e : cutNeed need (x :: l) = need.getD x.toNat 0 + cutNeed need l := rfl
    rw [e, List.length_cons]
    push_cast
    omega
theorem cutHave_rng {fits : List (List Bool)} {sup : List Int} (h : ∀ x ∈ sup, 0 ≤ x ∧ x ≤ 1048576) (l : List Int) (i : Nat) : 0 ≤ cutHave fits sup l i ∧ cutHave fits sup l i ≤ 1048576 * i := sum_small (fun k _ => by
  have := getD_rng h k
  split
  · exact this
  · exact ⟨Int.le_refl _, by decide⟩)
theorem cutHave_succ (fits : List (List Bool)) (sup l : List Int) (i : Nat) : cutHave fits sup l (i + 1) = cutHave fits sup l i + if cutTouch (fits.getD i []) l then sup.getD i 0 else 0 := rfl
set_option maxHeartbeats 1000000 in
theorem cut1_fn (M : Mem) (rb : Nat) (B : Option Addr) (k : Nat) (row : List Bool) (hb : (box rb 114 [.slice B row.length k]).ok M) (hB : Bools M (.slice B row.length k) row) (x : Int) (h0 : 0 ≤ x) (h1 : x < row.length) :
    Fn0 Try.prog 50 ([.int .i64 x] ++ [.pointer (some ⟨rb, 0, none⟩)]) M (fun r M' => r = .bool (row.getD x.toNat false) ∧ M = M') := by
  obtain ⟨n, rfl⟩ : ∃ n : Nat, x = (n : Int) := ⟨x.toNat, by omega⟩
  obtain ⟨v, hv⟩ := get_of_lt (xs := row) (i := n) (by omega)
  obtain ⟨hA, hat⟩ := hB.at hv
  have hl := hB.len_le
  have hrow := Row.of_box (n := 1) (sz := 1) hb (by simp) (by simp [Value.oneCell'])
  have hat2 := (hrow.pos (by decide)).2
  refine Fn.intro Try.func50 rfl rfl Try.ntmps50 rfl fun E F => ?_
  simp only [List.cons_append, List.nil_append]
  repeat (first | ((with_reducible refine Tr.step rfl ?_); (first | (refine xmQ (z := ?_)) | (refine xaQ (z := ?_)) | (refine xMQ (z := ?_)) | (refine xxQ (z := ?_)))) | (with_reducible first | apply Tr.next | apply Tr.seq | apply Tr.region | apply Tr.nil | apply Tr.ret))
  (refine dnQ (hL := by exact ⟨[], rfl⟩) (k := ⟨rfl, ?_⟩))
  exact ⟨by rw [Int.toNat_natCast, getD_of hv]; rfl, rfl⟩
theorem touch_lend (M : Mem) (rb : Nat) (B : Option Addr) (k : Nat) (row : List Bool) (hB : Bools M (.slice B row.length k) row) (A : Option Addr) (c : Nat) (l : List Int) (hl : Ints M (.slice A l.length c) l) (hx : ∀ x ∈ l, 0 ≤ x ∧ x < row.length) :
    Bf.Fn Try.prog 49 [.slice A l.length c, .func (.func 50) #[] #[.pointer (some ⟨rb, 0, none⟩)]] M [box rb 114 [.slice B row.length k]] (fun r M' A' => A' = [box rb 114 [.slice B row.length k]] ∧ M = M' ∧ r = .bool (cutTouch row l)) :=
  Fn.lend (rs := [box rb 114 [.slice B row.length k]]) (R := fun r => r = .bool (cutTouch row l)) (clone_ok _ _ _ _ _ _ (containsFunc_fn M none 0 [] ⟨_, 0, [], rfl, by simp, by simp, by simp, Row.nil _ _ _, by simp⟩ 0 [] (fun _ => false) (by simp))) (fun M' hm hok =>
    containsFunc_fn M' A c l (hl.mono RI.mono hm) 50 [.pointer (some ⟨rb, 0, none⟩)] (fun x => row.getD x.toNat false) (fun x hxl => cut1_fn M' rb B k row (hok _ (by simp)) (hB.mono RBo.mono hm) x (hx x hxl).1 (hx x hxl).2))
set_option maxHeartbeats 8000000 in
set_option maxRecDepth 20000 in
theorem cut_fn (M : Mem) (A0 A1 A2 A3 : Option Addr) (c0 c1 c2 c3 : Nat) (fits : List (List Bool)) (sup need l : List Int) (hf : Fits2 M (.slice A0 fits.length c0) fits) (hs : Ints M (.slice A1 sup.length c1) sup) (hn : Ints M (.slice A2 need.length c2) need) (hl : Ints M (.slice A3 l.length c3) l) (rs : I64s sup) (rn : I64s need) :
    Fn0 Try.prog 21 [.slice A0 fits.length c0, .slice A1 sup.length c1, .slice A2 need.length c2, .slice A3 l.length c3] M (fun r M' => CutR fits sup need l r ∧ M = M') := by
  have la := hl.len_le
  refine Fn.intro Try.func21 rfl rfl Try.ntmps21 rfl fun E F => ?_
  repeat (first | ((with_reducible refine Tr.step rfl ?_); (first | (refine xmQ (z := ?_)) | (refine xaQ (z := ?_)))) | (with_reducible first | apply Tr.next | apply Tr.seq | apply Tr.region | apply Tr.nil))
  ((refine Tr.step rfl ?_)); refine Exec.call0 rfl (valid_fn M A0 A1 A2 c0 c1 c2 fits sup need hf hs hn rs rn) rfl ?_
  rintro _ _ _ ⟨rfl, rfl⟩
  cases hvv : validF fits sup need
  · repeat (first | ((with_reducible refine Tr.step rfl ?_); (first | (refine xaQ (z := ?_)) | ((with_reducible refine Knd.unOp ?_); ((refine Exec.stab rfl (Stab.not rfl) rfl ?_))))) | (with_reducible first | apply Tr.next | apply Tr.seq | apply Tr.region | apply Tr.nil | apply Tr.ret | apply Tr.then_ret) | (refine Tr.cond_bt rfl (by first | (with_reducible rfl) | (with_reducible assumption) | (with_reducible exact Bool.not_true) | (with_reducible exact Bool.not_false)) ?_))
    (refine dnQ (hL := by exact ⟨[], rfl⟩) (k := ⟨rfl, ?_⟩))
    exact ⟨.inl ⟨hvv, rfl⟩, rfl⟩
  have hv := vld_iff.1 hvv
  have l1 := hv.ls
  have l2 := hv.ln
  have l3 := hv.lf
  repeat (first | ((with_reducible refine Tr.step rfl ?_); (first | (refine xmQ (z := ?_)) | (refine xaQ (z := ?_)) | (refine xnQ (z := ?_)) | ((with_reducible refine Knd.unOp ?_); ((refine Exec.stab rfl (Stab.not rfl) rfl ?_))))) | (with_reducible first | apply Tr.next | apply Tr.seq | apply Tr.region | apply Tr.nil | apply Tr.skip | apply Tr.block) | (refine Tr.cond_bf rfl (by first | (with_reducible rfl) | (with_reducible assumption) | (with_reducible exact Bool.not_true) | (with_reducible exact Bool.not_false)) ?_))
  refine Tr.loop (α := Nat × Int) (fun y => ⟨65, [(24, .int .i64 (y.1 : Int)), (23, .int .i64 (l.length : Int)), (22, .slice A3 l.length c3), (12, .int .i64 y.2), (11, .int .i64 0), (10, .int .i64 (cutNeed need (l.take y.1))), (0, .slice A0 fits.length c0), (1, .slice A1 sup.length c1), (2, .slice A2 need.length c2), (3, .slice A3 l.length c3)], [], M, [] ++ F⟩)
    (fun y => y.1 ≤ l.length ∧ AscTo need.length l y.1 ∧ ((y.1 = 0 ∧ y.2 = -1) ∨ (0 < y.1 ∧ l[y.1 - 1]? = some y.2))) (fun y => l.length - y.1) (0, -1) ⟨Nat.zero_le _, fun _ _ h => by omega, .inl ⟨rfl, rfl⟩⟩ hsQ (fun y hy => ?_)
  obtain ⟨i, last⟩ := y
  obtain ⟨hi, hasc, hlast⟩ := hy
  simp only at hi hasc hlast
  dsimp only
  have hcnt := hasc.count hi
  have hcn := cutNeed_rng hv.rn (l.take i)
  have htl : (l.take i).length = i := by simp; omega
  rw [htl] at hcn
  by_cases hil : i < l.length
  · obtain ⟨x, hx⟩ := get_of_lt hil
    obtain ⟨hA, hat⟩ := hl.at hx
    have hxi := hasc
    have hl0 : -1 ≤ last := by
      rcases hlast with ⟨h1, h2⟩ | ⟨h1, h2⟩
      · omega
      · have := hasc.ge hi last h1 h2; omega
    by_cases hxl : x ≤ last
    · repeat (first | ((with_reducible refine Tr.step rfl ?_); (first | (refine xmQ (z := ?_)) | (refine xaQ (z := ?_)) | (refine xMQ (z := ?_)) | (refine xiQ (z := ?_)) | ((with_reducible refine Knd.pick ?_); ((refine Exec.stab rfl (Stab.pick_td rfl (by first | (with_reducible assumption) | (with_reducible rfl) | (with_reducible exact (not_not_intro rfl)) | omega) rfl) rfl ?_))) | (refine xxQ (z := ?_)))) | (with_reducible first | apply Tr.next | apply Tr.seq | apply Tr.region | apply Tr.nil) | (refine Tr.guard_n' rfl rfl rfl (by first | (with_reducible assumption) | (with_reducible rfl) | (with_reducible exact (not_not_intro rfl)) | omega) rfl rfl ?_) | (with_reducible first | apply Tr.skip | apply Tr.block | apply Tr.ret | apply Tr.then_ret | apply Tr.in_ret) | (refine Tr.cond_bt rfl (by first | (with_reducible rfl) | (with_reducible assumption) | (with_reducible exact Bool.not_true) | (with_reducible exact Bool.not_false)) ?_) | (refine Tr.cond_t rfl (by first | (with_reducible assumption) | (with_reducible rfl) | (with_reducible exact (not_not_intro rfl)) | omega) ?_))
      (refine dnQ (hL := by exact ⟨[], rfl⟩) (k := ⟨rfl, ?_⟩))
      refine ⟨CutR.no hv fun h => ?_, rfl⟩
      have h1 := h i x hil hx
      rcases hlast with ⟨h2, h3⟩ | ⟨h2, h3⟩
      · omega
      · have := h1.2.2 last h2 h3; omega
    by_cases hxm : need.length ≤ x
    · repeat (first | ((with_reducible refine Tr.step rfl ?_); (first | (refine xmQ (z := ?_)) | (refine xaQ (z := ?_)) | (refine xMQ (z := ?_)) | (refine xiQ (z := ?_)) | ((with_reducible refine Knd.pick ?_); ((refine Exec.stab rfl (Stab.pick_fd rfl (by first | (with_reducible assumption) | (with_reducible rfl) | (with_reducible exact (not_not_intro rfl)) | omega) rfl) rfl ?_))) | (refine xxQ (z := ?_)))) | (with_reducible first | apply Tr.next | apply Tr.seq | apply Tr.region | apply Tr.nil) | ((refine Tr.guard_y' rfl rfl rfl (by first | (with_reducible assumption) | (with_reducible rfl) | (with_reducible exact (not_not_intro rfl)) | omega) ?_); (first | (refine xmQ (z := ?_)) | (refine xnQ (z := ?_)) | (refine xiQ (z := ?_)))) | (with_reducible first | apply Tr.skip | apply Tr.block | apply Tr.ret | apply Tr.then_ret | apply Tr.in_ret) | (refine Tr.cond_t rfl (by first | (with_reducible assumption) | (with_reducible rfl) | (with_reducible exact (not_not_intro rfl)) | omega) ?_))
      (refine dnQ (hL := by exact ⟨[], rfl⟩) (k := ⟨rfl, ?_⟩))
      refine ⟨CutR.no hv fun h => ?_, rfl⟩
      have h1 := h i x hil hx
      omega
    obtain ⟨n, rfl⟩ : ∃ n : Nat, x = (n : Int) := ⟨x.toNat, by omega⟩
    obtain ⟨v, hv1⟩ := get_of_lt (xs := need) (i := n) (by omega)
    obtain ⟨hA2, nat2⟩ := hn.at hv1
    have hvr := hv.rn v (List.mem_of_getElem? hv1)
    have hsu := cutNeed_succ (need := need) hx
    rw [Int.toNat_natCast, getD_of hv1] at hsu
    repeat (first | ((with_reducible refine Tr.step rfl ?_); (first | (refine xmQ (z := ?_)) | (refine xaQ (z := ?_)) | (refine xMQ (z := ?_)) | ((with_reducible refine Knd.binOp ?_); (first | (refine xdQ (z := ?_)) | (refine xiQ (z := ?_)))) | ((with_reducible refine Knd.pick ?_); ((refine Exec.stab rfl (Stab.pick_fd rfl (by first | (with_reducible assumption) | (with_reducible rfl) | (with_reducible exact (not_not_intro rfl)) | omega) rfl) rfl ?_))) | (refine xxQ (z := ?_)))) | (with_reducible first | apply Tr.next | apply Tr.seq | apply Tr.region | apply Tr.nil) | ((refine Tr.guard_y' rfl rfl rfl (by first | (with_reducible assumption) | (with_reducible rfl) | (with_reducible exact (not_not_intro rfl)) | omega) ?_); (first | (refine xmQ (z := ?_)) | (refine xnQ (z := ?_)) | (refine xiQ (z := ?_)))) | (with_reducible first | apply Tr.skip | apply Tr.block | apply Tr.in_normal) | (refine Tr.cond_t rfl (by first | (with_reducible assumption) | (with_reducible rfl) | (with_reducible exact (not_not_intro rfl)) | omega) ?_) | (refine Tr.cond_f rfl (by first | (with_reducible assumption) | (with_reducible rfl) | (with_reducible exact (not_not_intro rfl)) | omega) ?_))
    rw [← hsu]
    refine Tr.again (i + 1, (n : Int)) ⟨by simp only; omega, hasc.step hx (by omega) (fun y h1 h2 => ?_), .inr ⟨by simp only; omega, by simpa using hx⟩⟩ (by simp only; omega) hsQ
    rcases hlast with ⟨h3, h4⟩ | ⟨h3, h4⟩
    · omega
    · rw [h4] at h2; cases h2; omega
  have ei : i = l.length := by omega
  subst ei
  rw [List.take_length] at hcn ⊢
  have hmem : ∀ x ∈ l, 0 ≤ x ∧ x < need.length := fun x hx => by
    obtain ⟨q, hq⟩ := List.mem_iff_getElem?.1 hx
    have := hasc q x (List.getElem?_eq_some_iff.1 hq).1 hq
    exact ⟨this.1, this.2.1⟩
  repeat (first | ((with_reducible refine Tr.step rfl ?_); (first | (refine xmQ (z := ?_)) | (refine xnQ (z := ?_)) | (refine xiQ (z := ?_)))) | (with_reducible first | apply Tr.next | apply Tr.seq | apply Tr.region | apply Tr.nil | apply Tr.block | apply Tr.exit | apply Tr.then_exit) | ((with_reducible refine Tr.in_exit ?_ ?_); (exact rfl)) | (refine Tr.cond_f rfl (by first | (with_reducible assumption) | (with_reducible rfl) | (with_reducible exact (not_not_intro rfl)) | omega) ?_))
  refine Tr.loop (α := Nat) (fun y => ⟨65, [(47, .int .i64 (y : Int)), (46, .int .i64 (fits.length : Int)), (45, .slice A0 fits.length c0), (11, .int .i64 (cutHave fits sup l y)), (10, .int .i64 (cutNeed need l)), (1, .slice A1 sup.length c1), (3, .slice A3 l.length c3)], [], M, [] ++ F⟩)
    (fun y => y ≤ fits.length) (fun y => fits.length - y) 0 (Nat.zero_le _) hsQ (fun y hy => ?_)
  have hch := cutHave_rng (fits := fits) hv.rs l y
  by_cases hyn : y < fits.length
  · obtain ⟨frow, hfr⟩ := get_of_lt hyn
    have hfrl := hv.rows frow (List.mem_of_getElem? hfr)
    obtain ⟨hA0, fch, fat, fB, fk, rfl, hfB⟩ := hf.elem hfr
    obtain ⟨s, hs1⟩ := get_of_lt (xs := sup) (i := y) (by omega)
    obtain ⟨hA1, sat⟩ := hs.at hs1
    have hsr := hv.rs s (List.mem_of_getElem? hs1)
    have hsu := cutHave_succ fits sup l y
    rw [getD_of (d := []) hfr, getD_of (d := 0) hs1] at hsu
    repeat (first | ((with_reducible refine Tr.step rfl ?_); (first | (refine xmQ (z := ?_)) | (refine xaQ (z := ?_)) | (refine xMQ (z := ?_)) | ((with_reducible refine Knd.makeFunc ?_); (refine Exec.stab rfl (Stab.makeFunc rfl rfl) rfl ?_)) | (refine xiQ (z := ?_)) | (refine xSQ (z := ?_)) | ((with_reducible refine Knd.alloc ?_); (first | (refine Exec.alloc (tysOk.get rfl) rfl rfl (fun b => ?_)) | (refine Exec.alloc1 (tysOk.get rfl) rfl rfl rfl (fun b => ?_)))) | (refine xxQ (z := ?_)))) | (with_reducible first | apply Tr.next | apply Tr.seq | apply Tr.region | apply Tr.nil | apply Tr.skip | apply Tr.block) | (refine Tr.cond_t rfl (by first | (with_reducible assumption) | (with_reducible rfl) | (with_reducible exact (not_not_intro rfl)) | omega) ?_))
    ((refine Tr.step rfl ?_))
    refine Exec.call (A := [box b 114 [.slice fB frow.length fk]]) rfl (touch_lend M b fB fk frow hfB A3 c3 l hl (fun x hx => by rw [hfrl]; exact hmem x hx)) (List.Perm.refl _) rfl ?_
    rintro _ _ _ _ ⟨rfl, rfl, rfl⟩
    cases ht : cutTouch frow l
    · rw [ht] at hsu
      simp only [Bool.false_eq_true, if_false, Int.add_zero] at hsu
      repeat (first | ((with_reducible refine Tr.step rfl ?_); (first | (refine xmQ (z := ?_)) | (refine xdQ (z := ?_)))) | (with_reducible first | apply Tr.next | apply Tr.region | apply Tr.nil | apply Tr.skip | apply Tr.in_normal) | (refine Tr.cond_bf rfl (by first | (with_reducible rfl) | (with_reducible assumption) | (with_reducible exact Bool.not_true) | (with_reducible exact Bool.not_false)) ?_))
      rw [← hsu]
      refine gvQ (r := box _ 114 _) (k := ?_)
      refine Tr.again (y + 1) hyn (by omega) hsQ
    · rw [ht] at hsu
      simp only [if_true] at hsu
      repeat (first | ((with_reducible refine Tr.step rfl ?_); (first | (refine xmQ (z := ?_)) | (refine xaQ (z := ?_)) | (refine xMQ (z := ?_)) | (refine xdQ (z := ?_)) | (refine xxQ (z := ?_)))) | (with_reducible first | apply Tr.next | apply Tr.region | apply Tr.nil | apply Tr.in_normal) | (refine Tr.cond_bt rfl (by first | (with_reducible rfl) | (with_reducible assumption) | (with_reducible exact Bool.not_true) | (with_reducible exact Bool.not_false)) ?_))
      rw [← hsu]
      refine gvQ (r := box _ 114 _) (k := ?_)
      refine Tr.again (y + 1) hyn (by omega) hsQ
  · have ey : y = fits.length := by omega
    subst ey
    repeat (first | ((with_reducible refine Tr.step rfl ?_); (first | (refine xmQ (z := ?_)) | (refine xaQ (z := ?_)) | (refine xiQ (z := ?_)))) | (with_reducible first | apply Tr.next | apply Tr.seq | apply Tr.region | apply Tr.nil | apply Tr.exit | apply Tr.ret | apply Tr.then_exit) | ((with_reducible refine Tr.in_exit ?_ ?_); (exact rfl)) | (refine Tr.cond_f rfl (by first | (with_reducible assumption) | (with_reducible rfl) | (with_reducible exact (not_not_intro rfl)) | omega) ?_))
    (refine dnQ (hL := by exact ⟨[], rfl⟩) (k := ⟨rfl, ?_⟩))
    refine ⟨.inr ⟨hv, _, rfl, ?_⟩, rfl⟩
    rw [decide_eq_true_eq, l3]
    exact ⟨fun h => ⟨hasc, h⟩, fun h => h.2⟩
end Go.Proofs.Ytlifjajcmnkhfaa

/-
  Matching, plain: a problem without some requests; cuts of which none can be left out; problems with more.
  Conditions: none.
-/
namespace Go.Proofs.Ytlifjajcmnkhfaa
open Go Bf
theorem keep_idx {α : Type} (o : Nat → Bool) (d : α) (l : List α) : ∀ k, k ≤ l.length → keep o (l.take k) 0 = ((List.range k).filter fun i => !o i).map fun i => l.getD i d
  | 0, _ => by simp [keep]
  | k + 1, h => by
    obtain ⟨x, hx⟩ := get_of_lt (xs := l) (i := k) (by omega)
    rw [keep_take o l 0 k x hx, keep_idx o d l k (by omega), List.range_succ, List.filter_append, List.map_append, Nat.zero_add]
    congr 1
    cases ho : o k
    · simp [ho, hx]
    · simp [ho]
theorem keep_map {α : Type} (o : Nat → Bool) (d : α) (l : List α) : keep o l 0 = ((List.range l.length).filter fun i => !o i).map fun i => l.getD i d := by
  have := keep_idx o d l l.length (Nat.le_refl _)
  rwa [List.take_length] at this
def idx (S : Nat → Bool) (m : Nat) : List Nat := (List.range m).filter S
theorem idx_succ (S : Nat → Bool) (m : Nat) : idx S (m + 1) = idx S m ++ if S m = true then [m] else [] := by
  unfold idx
  rw [List.range_succ, List.filter_append]
  cases h : S m <;> simp [h]
theorem idx_mem {S : Nat → Bool} {m j b : Nat} (h : (idx S m)[j]? = some b) : b < m ∧ S b = true := by
  have := List.mem_of_getElem? h
  simpa [idx] using this
theorem idx_sum (S : Nat → Bool) (f : Nat → Int) : ∀ m, sumN m (fun b => if S b = true then f b else 0) = sumN (idx S m).length fun j => f ((idx S m).getD j 0)
  | 0 => rfl
  | m + 1 => by
    have ih := idx_sum S f m
    rw [idx_succ]
    show sumN m (fun b => if S b = true then f b else 0) + (if S m = true then f m else 0) = _
    rw [ih]
    by_cases h : S m = true
    · rw [if_pos h, if_pos h, List.length_append]
      show _ = sumN (idx S m).length _ + f _
      congr 1
      · refine sumN_congr fun j hj => ?_
        congr 1
        rw [List.getD_eq_getElem?_getD, List.getD_eq_getElem?_getD, List.getElem?_append_left hj]
      · congr 1
        rw [List.getD_eq_getElem?_getD, List.getElem?_append_right (Nat.le_refl _)]
        simp
    · rw [if_neg h, if_neg h, List.append_nil]; omega
theorem keep_len_idx {α : Type} (o : Nat → Bool) (l : List α) : (keep o l 0).length = (idx (fun i => !o i) l.length).length := by
  cases l with
  | nil => rfl
  | cons x l => rw [keep_map o x]; simp [idx]
theorem keep_get {α : Type} (o : Nat → Bool) (d : α) (l : List α) {j : Nat} (hj : j < (idx (fun i => !o i) l.length).length) : (keep o l 0).getD j d = l.getD ((idx (fun i => !o i) l.length).getD j 0) d := by
  rw [keep_map o d]
  obtain ⟨b, hb⟩ := get_of_lt hj
  have : (((List.range l.length).filter fun i => !o i).map fun i => l.getD i d)[j]? = some (l.getD b d) := by
    rw [List.getElem?_map]
    show (idx (fun i => !o i) l.length)[j]?.map _ = _
    rw [hb]; rfl
  rw [getD_of this, getD_of hb]
/-- what is possible for some of the requests is possible without the others -/
theorem feas_keep {fits : List (List Bool)} {sup need : List Int} (hv : Vld fits sup need) (o : Nat → Bool) (h : Feas (pbS fits sup need fun b => !o b)) : Feas (pbOf (fits.map fun r => keep o r 0) sup (keep o need 0)) := by
  obtain ⟨a, ha⟩ := h
  let S := fun b => !o b
  let ix := idx S need.length
  have hlf := hv.lf
  have hm : (keep o need 0).length = ix.length := keep_len_idx o need
  have hz : ∀ k, k < sup.length → ∀ b, b < need.length → S b = false → a k b = 0 := fun k hk b hb hS => by
    have h1 : (0 : Int) + sumN sup.length (fun k => a k b) = if S b = true then need.getD b 0 else 0 := ha.col b hb
    rw [hS, if_neg (by simp)] at h1
    have h2 := sumN_le_of_mem (f := fun k => a k b) (n := sup.length) (k := k) (fun k hk => ha.nn k hk b (Nat.le_of_lt hb)) hk
    have h3 := ha.nn k hk b (Nat.le_of_lt hb)
    have h2' : a k b ≤ sumN sup.length (fun k => a k b) := h2
    omega
  refine ⟨fun k j => if j = ix.length then a k need.length else a k (ix.getD j 0), ⟨fun k hk j hj => ?_, fun k hk j hj h0 => ?_, fun k hk => ?_⟩, fun j hj => ?_, fun _ _ => Int.le_refl _⟩
  · by_cases e : j = ix.length
    · simp only [if_pos e]
      exact ha.nn k hk _ (Nat.le_refl _)
    · simp only [if_neg e]
      have hj' : j ≤ (keep o need 0).length := hj
      obtain ⟨b, hb⟩ := get_of_lt (xs := ix) (i := j) (by omega)
      rw [getD_of hb]
      exact ha.nn k hk b (Nat.le_of_lt (idx_mem hb).1)
  · have hj' : j < (keep o need 0).length := hj
    have e : ¬ j = ix.length := by omega
    simp only [if_neg e] at h0
    obtain ⟨b, hb⟩ := get_of_lt (xs := ix) (i := j) (by omega)
    rw [getD_of hb] at h0
    have h1 := ha.ok k hk b (idx_mem hb).1 h0
    show ((fits.map fun r => keep o r 0).getD k []).getD j false = true
    have hk' : k < sup.length := hk
    obtain ⟨row, hr⟩ := get_of_lt (xs := fits) (i := k) (by omega)
    have hrl := hv.rows row (List.mem_of_getElem? hr)
    rw [getD_of (d := []) (show (fits.map fun r => keep o r 0)[k]? = some (keep o row 0) by simp [hr])]
    rw [keep_get o false row (by rw [hrl]; show j < ix.length; omega), hrl]
    show row.getD (ix.getD j 0) false = true
    rw [getD_of hb]
    have h2 : (fits.getD k []).getD b false = true := h1
    rwa [getD_of (d := []) hr] at h2
  · have hk' : k < sup.length := hk
    show sumN ((keep o need 0).length + 1) _ = sup.getD k 0
    rw [hm]
    show sumN ix.length (fun j => if j = ix.length then a k need.length else a k (ix.getD j 0)) + (if ix.length = ix.length then a k need.length else a k (ix.getD ix.length 0)) = _
    rw [if_pos rfl, sumN_congr (g := fun j => a k (ix.getD j 0)) (fun j hj => if_neg (by omega)), ← idx_sum S (a k) need.length]
    have h1 : sumN need.length (a k) + a k need.length = sup.getD k 0 := ha.row k hk
    rw [← h1]
    congr 1
    refine sumN_congr fun b hb => ?_
    cases hS : S b
    · simp [hz k hk' b hb hS]
    · simp
  · have hj' : j < (keep o need 0).length := hj
    obtain ⟨b, hb⟩ := get_of_lt (xs := ix) (i := j) (by omega)
    have hbm := idx_mem hb
    show (0 : Int) + sumN sup.length (fun k => if j = ix.length then a k need.length else a k (ix.getD j 0)) = (keep o need 0).getD j 0
    rw [sumN_congr (g := fun k => a k b) (fun k _ => by rw [if_neg (by omega), getD_of hb])]
    have h1 : (0 : Int) + sumN sup.length (fun k => a k b) = if S b = true then need.getD b 0 else 0 := ha.col b hbm.1
    rw [h1, if_pos hbm.2, keep_get o 0 need (by show j < ix.length; omega)]
    show need.getD b 0 = need.getD (ix.getD j 0) 0
    rw [getD_of hb]
/-- less is needed -/
theorem feasS_mono {fits : List (List Bool)} {sup need : List Int} (hv : Vld fits sup need) {S T : Nat → Bool} (h : ∀ b, b < need.length → T b = true → S b = true) (hf : Feas (pbS fits sup need S)) : Feas (pbS fits sup need T) := by
  rw [feasS_iff hv] at hf ⊢
  intro D
  refine Int.le_trans ?_ (hf D)
  unfold lackOf
  refine Int.sub_le_sub (sumN_le fun b hb => ?_) (Int.le_refl _)
  show (if D b = true then (if T b = true then need.getD b 0 else 0) else 0) ≤ if D b = true then (if S b = true then need.getD b 0 else 0) else 0
  have := (getD_rng hv.rn b).1
  by_cases hD : D b = true
  · rw [if_pos hD, if_pos hD]
    by_cases hT : T b = true
    · rw [if_pos hT, if_pos (h b hb hT)]; exact Int.le_refl _
    · rw [if_neg hT]; split <;> omega
  · rw [if_neg hD, if_neg hD]; exact Int.le_refl _
/-- of the cut none can be left out -/
theorem cutF_props {fits : List (List Bool)} {sup need : List Int} (hv : Vld fits sup need) : ∀ (r : Nat) (S : Nat → Bool), r ≤ need.length → (∀ b, b < r → S b = true) → ¬ Feas (pbS fits sup need S) → (∀ b, r ≤ b → b < need.length → S b = true → Feas (pbS fits sup need fun c => S c && decide (c ≠ b))) →
    ¬ Feas (pbS fits sup need (cutF (fun S => Feas (pbS fits sup need S)) r S)) ∧ (∀ b, b < need.length → cutF (fun S => Feas (pbS fits sup need S)) r S b = true → S b = true ∧ Feas (pbS fits sup need fun c => cutF (fun S => Feas (pbS fits sup need S)) r S c && decide (c ≠ b)))
  | 0, S, _, _, hn, hp => ⟨hn, fun b hb h => ⟨h, hp b (Nat.zero_le _) hb h⟩⟩
  | r + 1, S, hr, hall, hn, hp => by
    rw [cutF]
    have hSr := hall r (by omega)
    by_cases hP : Feas (pbS fits sup need fun b => S b && decide (b ≠ r))
    · have e : (fun b => if b = r then @decide (Feas (pbS fits sup need fun b => S b && decide (b ≠ r))) (Classical.propDecidable _) else S b) = S := by
        funext b
        by_cases hb : b = r
        · subst hb; rw [if_pos rfl, hSr]; exact @decide_eq_true _ (Classical.propDecidable _) hP
        · rw [if_neg hb]
      have e' : cutF (fun S => Feas (pbS fits sup need S)) r (fun b => if b = r then @decide (Feas (pbS fits sup need fun b => S b && decide (b ≠ r))) (Classical.propDecidable _) else S b) = cutF (fun S => Feas (pbS fits sup need S)) r S := by rw [e]
      show _ ∧ _
      have ih := cutF_props hv r S (by omega) (fun b hb => hall b (by omega)) hn (fun b h1 h2 h3 => by
        by_cases hb : b = r
        · subst hb; exact hP
        · exact hp b (by omega) h2 h3)
      rw [← e'] at ih
      exact ih
    · have e : (fun b => if b = r then @decide (Feas (pbS fits sup need fun b => S b && decide (b ≠ r))) (Classical.propDecidable _) else S b) = fun b => S b && decide (b ≠ r) := by
        funext b
        by_cases hb : b = r
        · subst hb; rw [if_pos rfl]; exact (@decide_eq_false _ (Classical.propDecidable _) hP).trans (by simp)
        · rw [if_neg hb]; simp [hb]
      have e' : cutF (fun S => Feas (pbS fits sup need S)) r (fun b => if b = r then @decide (Feas (pbS fits sup need fun b => S b && decide (b ≠ r))) (Classical.propDecidable _) else S b) = cutF (fun S => Feas (pbS fits sup need S)) r (fun b => S b && decide (b ≠ r)) := by rw [e]
      have ih := cutF_props hv r (fun b => S b && decide (b ≠ r)) (by omega) (fun b hb => by rw [hall b (by omega)]; simp; omega) hP (fun b h1 h2 h3 => by
        simp at h3
        refine feasS_mono hv (fun c _ hc => ?_) (hp b (by omega) h2 h3.1)
        simp at hc ⊢
        exact ⟨hc.1.1, hc.2⟩)
      rw [← e'] at ih
      refine ⟨ih.1, fun b hb h => ?_⟩
      have := ih.2 b hb h
      refine ⟨?_, this.2⟩
      have h2 := this.1
      simp at h2
      exact h2.1
theorem cutFin_props {fits : List (List Bool)} {sup need : List Int} (hv : Vld fits sup need) (hn : ¬ Feas (pbOf fits sup need)) : ¬ Feas (pbS fits sup need (cutFin fits sup need)) ∧ ∀ b, b < need.length → cutFin fits sup need b = true → Feas (pbS fits sup need fun c => cutFin fits sup need c && decide (c ≠ b)) := by
  have h := cutF_props hv need.length (fun b => decide (b < need.length)) (Nat.le_refl _) (fun b hb => by simpa using hb) (fun hf => hn (by
    rw [feas_iff hv.sup0 hv.need0]
    rw [feasS_iff hv] at hf
    intro D
    rw [← lackS_eq (fun b => decide (b < need.length)) D (fun b hb _ => by simpa using hb)]
    exact hf D)) (fun b h1 h2 => by omega)
  exact ⟨h.1, fun b hb hc => (h.2 b hb hc).2⟩
/-- .. and together they lack something -/
theorem cutFin_lack {fits : List (List Bool)} {sup need : List Int} (hv : Vld fits sup need) (hn : ¬ Feas (pbOf fits sup need)) : 0 < lackOf (pbOf fits sup need) (cutFin fits sup need) := by
  obtain ⟨h1, h2⟩ := cutFin_props hv hn
  rw [feasS_iff hv] at h1
  obtain ⟨D, hD⟩ := Classical.not_forall.1 h1
  have hle := lackS_le hv (cutFin fits sup need) D
  by_cases hall : ∀ b, b < need.length → cutFin fits sup need b = true → D b = true
  · have e : lackOf (pbOf fits sup need) (fun b => D b && cutFin fits sup need b) = lackOf (pbOf fits sup need) (cutFin fits sup need) := lackOf_congr fun b hb => by
      have := hall b hb
      cases h : cutFin fits sup need b
      · simp
      · simp [this h]
    omega
  · exfalso
    obtain ⟨b, hb⟩ := Classical.not_forall.1 hall
    have hb1 : b < need.length := Classical.byContradiction fun h => hb fun h' => absurd h' h
    have hb2 : cutFin fits sup need b = true := Classical.byContradiction fun h => hb fun _ h' => absurd h' h
    have hb3 : D b = false := by
      cases h : D b
      · rfl
      · exact absurd (fun _ _ => h) hb
    have hf := (feasS_iff hv _).1 (h2 b hb1 hb2) fun c => D c && cutFin fits sup need c
    rw [lackS_eq (fun c => cutFin fits sup need c && decide (c ≠ b)) (fun c => D c && cutFin fits sup need c) (fun c _ hc => by
      simp at hc ⊢
      refine ⟨hc.2, fun e => ?_⟩
      subst e
      rw [hb3] at hc
      cases hc.1)] at hf
    omega
end Go.Proofs.Ytlifjajcmnkhfaa

/-
  Matching, plain: how much of a supply a request can get; amounts one after the other.
  Conditions: none.
-/
namespace Go.Proofs.Ytlifjajcmnkhfaa
open Go Bf
theorem Flow.congr {p : Pb} {x y : Nat → Nat → Int} {lack : Nat → Int} (h : Bf.Flow p x lack) (e : ∀ k, k < p.n → ∀ b, b ≤ p.m → y k b = x k b) : Bf.Flow p y lack := by
  refine ⟨⟨fun k hk b hb => by rw [e k hk b hb]; exact h.nn k hk b hb, fun k hk b hb h0 => h.ok k hk b hb (by rw [← e k hk b (by omega)]; exact h0), fun k hk => ?_⟩, fun b hb => ?_, h.lk⟩
  · rw [← h.row k hk]
    exact sumN_congr fun b hb => e k hk b (by omega)
  · rw [← h.col b hb]
    congr 1
    exact sumN_congr fun k hk => e k hk b (by omega)
/-- what remains when the supply s has given v to the request r, and serves it no more -/
def afterP (q : Pb) (s r : Nat) (v : Int) : Pb := ⟨q.n, q.m, fun k b => q.fits k b && !(decide (k = s) && decide (b = r)), fun k => if k = s then q.sup k - v else q.sup k, fun b => if b = r then q.need b - v else q.need b⟩
def addAt (c : Nat → Nat → Int) (s r : Nat) (v : Int) (k b : Nat) : Int := if k = s ∧ b = r then c k b + v else c k b
theorem sumN_at {n s : Nat} {f g : Nat → Int} {v : Int} (hs : s < n) (h1 : g s = f s + v) (h2 : ∀ i, i ≠ s → g i = f i) : sumN n g = sumN n f + v := by
  rw [sumN_upd (f := f) (g := g) hs h2, h1]; omega
theorem flow_add {q : Pb} {s r : Nat} {v : Int} {c : Nat → Nat → Int} (hs : s < q.n) (hr : r < q.m) (hf : q.fits s r = true) (hv : 0 ≤ v) (h : Bf.Flow (afterP q s r v) c fun _ => 0) : Bf.Flow q (addAt c s r v) fun _ => 0 := by
  have hz : c s r = 0 := by
    by_cases e : c s r = 0
    · exact e
    · have := h.ok s hs r hr e
      simp [afterP] at this
  refine ⟨⟨fun k hk b hb => ?_, fun k hk b hb h0 => ?_, fun k hk => ?_⟩, fun b hb => ?_, fun _ _ => Int.le_refl _⟩
  · have := h.nn k hk b hb
    unfold addAt
    split <;> omega
  · by_cases e : k = s ∧ b = r
    · obtain ⟨rfl, rfl⟩ := e; exact hf
    · unfold addAt at h0
      rw [if_neg e] at h0
      have := h.ok k hk b hb h0
      simp only [afterP, Bool.and_eq_true] at this
      exact this.1
  · have h1 : sumN (q.m + 1) (c k) = if k = s then q.sup k - v else q.sup k := h.row k hk
    by_cases e : k = s
    · subst e
      rw [if_pos rfl] at h1
      rw [sumN_at (n := q.m + 1) (s := r) (f := c k) (v := v) (by omega) (by simp [addAt]) (fun i hi => by simp [addAt, hi]), h1]
      omega
    · rw [if_neg e] at h1
      rw [← h1]
      exact sumN_congr fun b _ => by simp [addAt, e]
  · have h1 : (0 : Int) + sumN q.n (fun k => c k b) = if b = r then q.need b - v else q.need b := h.col b hb
    show (0 : Int) + sumN q.n (fun k => addAt c s r v k b) = q.need b
    by_cases e : b = r
    · subst e
      rw [if_pos rfl] at h1
      rw [sumN_at (n := q.n) (s := s) (f := fun k => c k b) (v := v) hs (by simp [addAt]) (fun i hi => by simp [addAt, hi])]
      omega
    · rw [if_neg e] at h1
      rw [← h1]
      congr 1
      exact sumN_congr fun k _ => by simp [addAt, e]
theorem flow_sub {q : Pb} {s r : Nat} {c : Nat → Nat → Int} (hs : s < q.n) (hr : r < q.m) (h : Bf.Flow q c fun _ => 0) : Bf.Flow (afterP q s r (c s r)) (addAt c s r (-(c s r))) fun _ => 0 := by
  have hnn := h.nn s hs r (by omega)
  refine ⟨⟨fun k hk b hb => ?_, fun k hk b hb h0 => ?_, fun k hk => ?_⟩, fun b hb => ?_, fun _ _ => Int.le_refl _⟩
  · have := h.nn k hk b hb
    unfold addAt
    split
    · rename_i e; obtain ⟨rfl, rfl⟩ := e; omega
    · exact this
  · unfold addAt at h0
    by_cases e : k = s ∧ b = r
    · rw [if_pos e] at h0
      obtain ⟨rfl, rfl⟩ := e
      omega
    · rw [if_neg e] at h0
      have := h.ok k hk b hb h0
      show (q.fits k b && !(decide (k = s) && decide (b = r))) = true
      rw [this]
      simp
      omega
  · have h1 : sumN (q.m + 1) (c k) = q.sup k := h.row k hk
    show sumN (q.m + 1) (addAt c s r (-(c s r)) k) = if k = s then q.sup k - c s r else q.sup k
    by_cases e : k = s
    · subst e
      rw [if_pos rfl, sumN_at (n := q.m + 1) (s := r) (f := c k) (v := -(c k r)) (by omega) (by simp [addAt]) (fun i hi => by simp [addAt, hi]), h1]
      omega
    · rw [if_neg e, ← h1]
      exact sumN_congr fun b _ => by simp [addAt, e]
  · have h1 : (0 : Int) + sumN q.n (fun k => c k b) = q.need b := h.col b hb
    show (0 : Int) + sumN q.n (fun k => addAt c s r (-(c s r)) k b) = if b = r then q.need b - c s r else q.need b
    by_cases e : b = r
    · subst e
      rw [if_pos rfl, sumN_at (n := q.n) (s := s) (f := fun k => c k b) (v := -(c s b)) hs (by simp [addAt]) (fun i hi => by simp [addAt, hi])]
      omega
    · rw [if_neg e, ← h1]
      congr 1
      exact sumN_congr fun k _ => by simp [addAt, e]
/-- what a flow gives is at most what the others leave over -/
theorem flow_le_lack {q : Pb} {c : Nat → Nat → Int} (h : Bf.Flow q c fun _ => 0) {s r : Nat} (hs : s < q.n) (hr : r < q.m) {D : Nat → Bool} (hD : D r = false) (ht : touches q D s = true) : c s r ≤ - lackOf q D := by
  have e := h.lackOf_eq D
  have z : (sumN q.m fun b => if D b = true then (0 : Int) else 0) = 0 := sumN_zero fun _ _ => by split <;> rfl
  rw [z, Int.zero_add] at e
  let f := fun k => (sumN q.m fun b => if D b = true then c k b else 0) - if touches q D k = true then q.sup k else 0
  have hf : ∀ k, k < q.n → f k ≤ 0 := fun k hk => by
    have := h.part_le D hk
    show (sumN q.m fun b => if D b = true then c k b else 0) - (if touches q D k = true then q.sup k else 0) ≤ 0
    omega
  have h1 := sumN_le_of_mem (f := fun k => - f k) (n := q.n) (k := s) (fun k hk => by have := hf k hk; show 0 ≤ - f k; omega) hs
  have h2 : (sumN q.n fun k => - f k) = - sumN q.n f := by
    have := sumN_sub (fun _ => 0) f q.n
    rw [sumN_zero (f := fun _ => 0) (fun _ _ => rfl)] at this
    simpa using this
  have h3 : sumN q.n f = lackOf q D := e.symm
  have h4 : (sumN q.m fun b => if D b = true then c s b else 0) + c s r ≤ q.sup s := by
    rw [← h.row s hs]
    have h5 : sumN q.m (fun b => if D b = true then c s b else 0) + c s r = sumN q.m (fun b => if b = r then c s b else if D b = true then c s b else 0) := by
      rw [sumN_at (n := q.m) (s := r) (f := fun b => if D b = true then c s b else 0) (g := fun b => if b = r then c s b else if D b = true then c s b else 0) (v := c s r) hr (by simp [hD]) (fun i hi => by simp [hi])]
    rw [h5]
    have h6 : sumN q.m (fun b => if b = r then c s b else if D b = true then c s b else 0) ≤ sumN q.m (c s) := sumN_le fun b hb => by
      have := h.nn s hs b (by omega)
      split
      · exact Int.le_refl _
      · split <;> omega
    have h7 := h.nn s hs q.m (Nat.le_refl _)
    have h8 : sumN (q.m + 1) (c s) = sumN q.m (c s) + c s q.m := rfl
    omega
  have h9 : f s ≤ - c s r := by
    show (sumN q.m fun b => if D b = true then c s b else 0) - (if touches q D s = true then q.sup s else 0) ≤ - c s r
    rw [if_pos ht]
    omega
  have h1 : - f s ≤ sumN q.n fun k => - f k := h1
  omega
/-- sums of requests, of supplies but for one -/
def needN (q : Pb) (D : Nat → Bool) : Int := sumN q.m fun b => if D b = true then q.need b else 0
def covN (q : Pb) (s : Nat) (D : Nat → Bool) : Int := sumN q.n fun k => if k = s then 0 else if touches q D k = true then q.sup k else 0
theorem lack_cov (q : Pb) {s : Nat} (hs : s < q.n) (D : Nat → Bool) : lackOf q D = needN q D - covN q s D - if touches q D s = true then q.sup s else 0 := by
  unfold lackOf needN covN
  rw [sumN_at (n := q.n) (s := s) (f := fun k => if k = s then 0 else if touches q D k = true then q.sup k else 0) (g := fun k => if touches q D k = true then q.sup k else 0) (v := if touches q D s = true then q.sup s else 0) hs (by simp) (fun i hi => by simp [hi])]
  omega
theorem need_split (q : Pb) (D E : Nat → Bool) : needN q D + needN q E = needN q (fun b => D b || E b) + needN q (fun b => D b && E b) := by
  unfold needN
  rw [← sumN_add, ← sumN_add]
  exact sumN_congr fun b _ => by cases hD : D b <;> cases hE : E b <;> simp [hD, hE]
theorem touches_or (q : Pb) (D E : Nat → Bool) (k : Nat) : touches q (fun b => D b || E b) k = (touches q D k || touches q E k) := by
  rw [Bool.eq_iff_iff, Bool.or_eq_true, touches_iff, touches_iff, touches_iff]
  constructor
  · rintro ⟨b, h1, h2, h3⟩
    simp at h2
    rcases h2 with h2 | h2
    · exact .inl ⟨b, h1, h2, h3⟩
    · exact .inr ⟨b, h1, h2, h3⟩
  · rintro (⟨b, h1, h2, h3⟩ | ⟨b, h1, h2, h3⟩)
    · exact ⟨b, h1, by simp [h2], h3⟩
    · exact ⟨b, h1, by simp [h2], h3⟩
theorem touches_and (q : Pb) (D E : Nat → Bool) (k : Nat) (h : touches q (fun b => D b && E b) k = true) : touches q D k = true ∧ touches q E k = true := by
  obtain ⟨b, h1, h2, h3⟩ := touches_iff.1 h
  simp at h2
  exact ⟨touches_iff.2 ⟨b, h1, h2.1, h3⟩, touches_iff.2 ⟨b, h1, h2.2, h3⟩⟩
theorem cov_split (q : Pb) (s : Nat) (hp : ∀ k, k < q.n → 0 ≤ q.sup k) (D E : Nat → Bool) : covN q s (fun b => D b || E b) + covN q s (fun b => D b && E b) ≤ covN q s D + covN q s E := by
  unfold covN
  rw [← sumN_add, ← sumN_add]
  refine sumN_le fun k hk => ?_
  have h0 := hp k hk
  by_cases e : k = s
  · simp [e]
  · simp only [if_neg e]
    rw [touches_or]
    have h1 := touches_and q D E k
    cases h2 : touches q (fun b => D b && E b) k
    · cases touches q D k <;> cases touches q E k <;> simp <;> omega
    · obtain ⟨h3, h4⟩ := h1 h2
      rw [h3, h4]
      simp
theorem cov_mono (q : Pb) (s : Nat) (hp : ∀ k, k < q.n → 0 ≤ q.sup k) {D E : Nat → Bool} (h : ∀ b, D b = true → E b = true) : covN q s D ≤ covN q s E := by
  refine sumN_le fun k hk => ?_
  have h0 := hp k hk
  by_cases e : k = s
  · simp [e]
  · simp only [if_neg e]
    cases h1 : touches q D k
    · simp
      split <;> omega
    · obtain ⟨b, g1, g2, g3⟩ := touches_iff.1 h1
      have : touches q E k = true := touches_iff.2 ⟨b, g1, h b g2, g3⟩
      simp [this]
/-- what is left is feasible when a request has got as much as possible -/
theorem room_feas {q : Pb} (hp : ∀ k, k < q.n → 0 ≤ q.sup k) (hn : ∀ b, b < q.m → 0 ≤ q.need b) (hf : Feas q) {s r : Nat} (hs : s < q.n) (hr : r < q.m) {v : Int} (l1 : v ≤ q.sup s) (l2 : v ≤ q.need r)
    (le : ∀ D : Nat → Bool, D r = false → touches q D s = true → v ≤ - lackOf q D) (is : v = q.sup s ∨ v = q.need r ∨ ∃ E : Nat → Bool, E r = false ∧ touches q E s = true ∧ v = - lackOf q E) : 0 ≤ v ∧ Feas (afterP q s r v) := by
  have hl := (feas_iff hp hn).1 hf
  have h0 : 0 ≤ v := by
    rcases is with h | h | ⟨E, -, -, h⟩
    · rw [h]; exact hp s hs
    · rw [h]; exact hn r hr
    · have := hl E; omega
  refine ⟨h0, hall (fun k hk => ?_) (fun b hb => ?_) fun D => ?_⟩
  · show 0 ≤ if k = s then q.sup k - v else q.sup k
    have := hp k hk
    split
    · rename_i e; subst e; omega
    · exact this
  · show 0 ≤ if b = r then q.need b - v else q.need b
    have := hn b hb
    split
    · rename_i e; subst e; omega
    · exact this
  -- the lack after
  have hneed : needN (afterP q s r v) D = needN q D - if D r = true then v else 0 := by
    unfold needN
    show (sumN q.m fun b => if D b = true then (if b = r then q.need b - v else q.need b) else 0) = _
    cases hD : D r
    · simp only [Bool.false_eq_true, if_false, Int.sub_zero]
      exact sumN_congr fun b _ => by
        by_cases e : b = r
        · subst e; simp [hD]
        · simp [e]
    · rw [sumN_at (n := q.m) (s := r) (f := fun b => if D b = true then q.need b else 0) (v := -v) hr (by simp [hD]; omega) (fun i hi => by simp [hi])]
      simp
      omega
  have htk : ∀ k, k ≠ s → touches (afterP q s r v) D k = touches q D k := fun k hk => by
    rw [Bool.eq_iff_iff, touches_iff, touches_iff]
    simp [afterP, hk]
  have hcov : covN (afterP q s r v) s D = covN q s D := by
    refine sumN_congr fun k _ => ?_
    by_cases e : k = s
    · simp [e]
    · simp only [if_neg e]
      rw [htk k e]
      show (if touches q D k = true then (if k = s then q.sup k - v else q.sup k) else 0) = _
      rw [if_neg e]
  have hts : touches (afterP q s r v) D s = true ↔ ∃ b, b < q.m ∧ D b = true ∧ b ≠ r ∧ q.fits s b = true := by
    rw [touches_iff]
    simp only [afterP, Bool.and_eq_true, Bool.not_eq_true', decide_true, Bool.true_and, decide_eq_false_iff_not]
    exact ⟨fun ⟨b, h1, h2, h3, h4⟩ => ⟨b, h1, h2, h4, h3⟩, fun ⟨b, h1, h2, h3, h4⟩ => ⟨b, h1, h2, h4, h3⟩⟩
  have hsup : (afterP q s r v).sup s = q.sup s - v := by simp [afterP]
  rw [lack_cov (afterP q s r v) (s := s) hs, hneed, hcov, hsup]
  have hD := hl D
  rw [lack_cov q hs D] at hD
  by_cases ht : touches (afterP q s r v) D s = true
  · rw [if_pos ht]
    obtain ⟨b, b1, b2, b3, b4⟩ := hts.1 ht
    have htq : touches q D s = true := touches_iff.2 ⟨b, b1, b2, b4⟩
    rw [if_pos htq] at hD
    cases hDr : D r
    · have := le D hDr htq
      rw [lack_cov q hs D, if_pos htq] at this
      simp
      omega
    · simp
      omega
  · rw [if_neg ht]
    have hno : ∀ b, b < q.m → D b = true → b ≠ r → q.fits s b = false := fun b h1 h2 h3 => by
      cases h : q.fits s b
      · rfl
      · exact absurd (hts.2 ⟨b, h1, h2, h3, h⟩) ht
    cases hDr : D r
    · have htq : touches q D s = false := by
        cases h : touches q D s
        · rfl
        · obtain ⟨b, h1, h2, h3⟩ := touches_iff.1 h
          rw [hno b h1 h2 (fun e => by rw [e, hDr] at h2; cases h2)] at h3
          cases h3
      rw [htq] at hD
      simp at hD ⊢
      omega
    · simp only [if_true, Int.sub_zero]
      rcases is with h | h | ⟨E, e1, e2, h⟩
      · have : (if touches q D s = true then q.sup s else 0) ≤ q.sup s := by
          have := hp s hs
          split <;> omega
        omega
      · have h1 := hl fun b => D b && !decide (b = r)
        have h2 : touches q (fun b => D b && !decide (b = r)) s = false := by
          cases h : touches q (fun b => D b && !decide (b = r)) s
          · rfl
          · obtain ⟨b, h1, h2, h3⟩ := touches_iff.1 h
            simp at h2
            rw [hno b h1 h2.1 h2.2] at h3
            cases h3
        rw [lack_cov q hs, h2] at h1
        have h3 : needN q D = needN q (fun b => D b && !decide (b = r)) + q.need r := by
          unfold needN
          rw [sumN_at (n := q.m) (s := r) (f := fun b => if (D b && !decide (b = r)) = true then q.need b else 0) (g := fun b => if D b = true then q.need b else 0) (v := q.need r) hr (by simp [hDr]) (fun i hi => by simp [hi])]
        have h4 := cov_mono q s hp (D := fun b => D b && !decide (b = r)) (E := D) (fun b h => by simp at h; exact h.1)
        simp at h1
        omega
      · have h1 := hl fun b => D b || E b
        have h2 := hl fun b => D b && E b
        have h3 : touches q (fun b => D b || E b) s = true := by rw [touches_or, e2, Bool.or_true]
        have h4 : touches q (fun b => D b && E b) s = false := by
          cases h : touches q (fun b => D b && E b) s
          · rfl
          · obtain ⟨b, g1, g2, g3⟩ := touches_iff.1 h
            simp at g2
            rw [hno b g1 g2.1 (fun e => by rw [e, e1] at g2; cases g2.2)] at g3
            cases g3
        rw [lack_cov q hs, if_pos h3] at h1
        rw [lack_cov q hs, h4] at h2
        rw [lack_cov q hs E, if_pos e2] at h
        have h5 := need_split q D E
        have h6 := cov_split q s hp D E
        simp at h2
        omega
/-- amounts already given, in order -/
def placed (s r k b : Nat) : Bool := decide (k < s) || (decide (k = s) && decide (b < r))
def mergeA (a c : Nat → Nat → Int) (m s r k b : Nat) : Int := if placed s r k b = true ∧ b < m then a k b else c k b
def restA (a : Nat → Nat → Int) (m s r k b : Nat) : Int := if placed s r k b = true ∧ b < m then 0 else a k b
structure Resid (p : Pb) (a : Nat → Nat → Int) (q : Pb) (s r : Nat) : Prop where
  n : q.n = p.n
  m : q.m = p.m
  up : ∀ c, (Bf.Flow q c fun _ => 0) → Bf.Flow p (mergeA a c p.m s r) fun _ => 0
  dn : Bf.Flow q (restA a p.m s r) fun _ => 0
theorem Resid.start {p : Pb} {a : Nat → Nat → Int} (h : Bf.Flow p a fun _ => 0) : Resid p a p 0 0 := by
  have e : ∀ k b, placed 0 0 k b = false := fun k b => by simp [placed]
  exact ⟨rfl, rfl, fun c hc => Flow.congr hc fun k _ b _ => by simp [mergeA, e], Flow.congr h fun k _ b _ => by simp [restA, e]⟩
theorem placed_succ (s r k b : Nat) : placed s (r + 1) k b = (placed s r k b || (decide (k = s) && decide (b = r))) := by
  unfold placed
  rw [Bool.eq_iff_iff]
  simp
  omega
theorem Resid.step {p : Pb} {a : Nat → Nat → Int} {q : Pb} {s r : Nat} (h : Resid p a q s r) (hs : s < p.n) (hr : r < p.m) (hf : q.fits s r = true) : Resid p a (afterP q s r (a s r)) s (r + 1) := by
  have hn := h.n
  have hm := h.m
  have hsr : placed s r s r = false := by simp [placed]
  have hrs : restA a p.m s r s r = a s r := by unfold restA; rw [hsr]; simp
  have hnn := h.dn.nn s (by omega) r (by omega)
  rw [hrs] at hnn
  refine ⟨hn, hm, fun c hc => ?_, ?_⟩
  · have hz : c s r = 0 := by
      by_cases e : c s r = 0
      · exact e
      · have := hc.ok s (by show s < q.n; omega) r (by show r < q.m; omega) e
        simp [afterP] at this
    refine Flow.congr (h.up _ (flow_add (by omega) (by omega) hf hnn hc)) fun k _ b _ => ?_
    unfold mergeA addAt
    rw [placed_succ]
    by_cases e : k = s ∧ b = r
    · obtain ⟨rfl, rfl⟩ := e
      rw [hsr]
      simp [hr, hz]
    · have e2 : (decide (k = s) && decide (b = r)) = false := by
        simp
        omega
      rw [e2, Bool.or_false, if_neg e]
  · have h1 := flow_sub (q := q) (s := s) (r := r) (by omega) (by omega) h.dn
    rw [hrs] at h1
    refine Flow.congr h1 fun k _ b _ => ?_
    unfold addAt restA
    rw [placed_succ]
    by_cases e : k = s ∧ b = r
    · obtain ⟨rfl, rfl⟩ := e
      rw [hsr]
      simp [hr]
      omega
    · have e2 : (decide (k = s) && decide (b = r)) = false := by
        simp
        omega
      rw [e2, Bool.or_false, if_neg e]
theorem Resid.zero {p : Pb} {a : Nat → Nat → Int} {q : Pb} {s r : Nat} (h : Resid p a q s r) (hs : s < p.n) (hr : r < p.m) (hf : q.fits s r = false) : a s r = 0 := by
  have hn := h.n
  have hm := h.m
  have hsr : placed s r s r = false := by simp [placed]
  have hrs : restA a p.m s r s r = a s r := by unfold restA; rw [hsr]; simp
  by_cases e : a s r = 0
  · exact e
  · have := h.dn.ok s (by omega) r (by omega) (by rw [hrs]; exact e)
    rw [hf] at this; cases this
theorem Resid.skip {p : Pb} {a : Nat → Nat → Int} {q : Pb} {s r : Nat} (h : Resid p a q s r) (hs : s < p.n) (hr : r < p.m) (hf : q.fits s r = false) : Resid p a q s (r + 1) := by
  have hn := h.n
  have hm := h.m
  have hsr : placed s r s r = false := by simp [placed]
  have h0 := h.zero hs hr hf
  refine ⟨hn, hm, fun c hc => ?_, ?_⟩
  · have hz : c s r = 0 := by
      by_cases e : c s r = 0
      · exact e
      · have := hc.ok s (by omega) r (by omega) e
        rw [hf] at this; cases this
    refine Flow.congr (h.up _ hc) fun k _ b _ => ?_
    unfold mergeA
    rw [placed_succ]
    by_cases e : k = s ∧ b = r
    · obtain ⟨rfl, rfl⟩ := e
      rw [hsr]
      simp [hz, h0]
    · have e2 : (decide (k = s) && decide (b = r)) = false := by
        simp
        omega
      rw [e2, Bool.or_false]
  · refine Flow.congr h.dn fun k _ b _ => ?_
    unfold restA
    rw [placed_succ]
    by_cases e : k = s ∧ b = r
    · obtain ⟨rfl, rfl⟩ := e
      rw [hsr]
      simp [h0]
    · have e2 : (decide (k = s) && decide (b = r)) = false := by
        simp
        omega
      rw [e2, Bool.or_false]
theorem placed_row (s m k b : Nat) (hb : b < m) : placed (s + 1) 0 k b = placed s m k b := by
  unfold placed
  rw [Bool.eq_iff_iff]
  simp
  omega
theorem Resid.row {p : Pb} {a : Nat → Nat → Int} {q : Pb} {s : Nat} (h : Resid p a q s p.m) : Resid p a q (s + 1) 0 := by
  refine ⟨h.n, h.m, fun c hc => Flow.congr (h.up c hc) fun k _ b _ => ?_, Flow.congr h.dn fun k _ b _ => ?_⟩
  · unfold mergeA
    by_cases hb : b < p.m
    · rw [placed_row s p.m k b hb]
    · simp [hb]
  · unfold restA
    by_cases hb : b < p.m
    · rw [placed_row s p.m k b hb]
    · simp [hb]
/-- as much as possible is what the greatest allocation has -/
theorem Resid.room {p : Pb} {a : Nat → Nat → Int} {q : Pb} {s r : Nat} (hmax : LexMax p a) (h : Resid p a q s r) (hs : s < p.n) (hr : r < p.m) (hf : q.fits s r = true) (hp : ∀ k, k < q.n → 0 ≤ q.sup k) (hn : ∀ b, b < q.m → 0 ≤ q.need b) {v : Int} (l1 : v ≤ q.sup s) (l2 : v ≤ q.need r)
    (le : ∀ D : Nat → Bool, D r = false → touches q D s = true → v ≤ - lackOf q D) (is : v = q.sup s ∨ v = q.need r ∨ ∃ E : Nat → Bool, E r = false ∧ touches q E s = true ∧ v = - lackOf q E) : v = a s r := by
  have hqn := h.n
  have hqm := h.m
  have hsr : placed s r s r = false := by simp [placed]
  have hrs : restA a p.m s r s r = a s r := by unfold restA; rw [hsr]; simp
  have h1 : a s r ≤ v := by
    rcases is with e | e | ⟨E, e1, e2, e⟩
    · have := sumN_le_of_mem (f := restA a p.m s r s) (n := q.m + 1) (k := r) (fun b hb => h.dn.nn s (by omega) b (by omega)) (by omega)
      rw [h.dn.row s (by omega), hrs] at this
      omega
    · have := sumN_le_of_mem (f := fun k => restA a p.m s r k r) (n := q.n) (k := s) (fun k hk => h.dn.nn k hk r (by omega)) (by omega)
      have h2 : (0 : Int) + sumN q.n (fun k => restA a p.m s r k r) = q.need r := h.dn.col r (by omega)
      simp only [hrs] at this
      omega
    · have := flow_le_lack h.dn (s := s) (r := r) (by omega) (by omega) e1 e2
      rw [hrs] at this
      omega
  obtain ⟨h0, c, hc⟩ := room_feas hp hn ⟨_, h.dn⟩ (s := s) (r := r) (by omega) (by omega) l1 l2 le is
  have hz : c s r = 0 := by
    by_cases e : c s r = 0
    · exact e
    · have := hc.ok s (by show s < q.n; omega) r (by show r < q.m; omega) e
      simp [afterP] at this
  have h2 := hmax.2 _ (h.up _ (flow_add (by omega) (by omega) hf h0 hc)) s hs r hr (fun k hk b hb => by
    unfold mergeA
    rw [if_pos ⟨by simp [placed, hk], hb⟩]) (fun b hb => by
    unfold mergeA
    rw [if_pos ⟨by simp [placed, hb], by omega⟩])
  unfold mergeA addAt at h2
  rw [hsr] at h2
  simp [hz] at h2
  omega
end Go.Proofs.Ytlifjajcmnkhfaa

/-
  Matching, plain: what Cut and Check say of what Flow answers; problems with more.
  Conditions: none.
-/
namespace Go.Proofs.Ytlifjajcmnkhfaa
open Go Bf
/-- the set of a list of requests -/
def setOf (l : List Int) (b : Nat) : Bool := decide ((b : Int) ∈ l)
theorem AscTo.lt {m : Nat} {l : List Int} (h : AscTo m l l.length) : ∀ (i : Nat) (x : Int), l[i]? = some x → ∀ j y, j < i → l[j]? = some y → y < x
  | 0, _, _, j, _, hj, _ => by omega
  | i + 1, x, hx, j, y, hj, hy => by
    have hl := (List.getElem?_eq_some_iff.1 hx).1
    obtain ⟨z, hz⟩ := get_of_lt (xs := l) (i := i) (by omega)
    have h1 := (h (i + 1) x hl hx).2.2 z (by omega) (by simpa using hz)
    by_cases e : j = i
    · subst e; rw [hz] at hy; cases hy; exact h1
    · have := h.lt i z hz j y (by omega) hy
      omega
theorem cutNeed_set {need l : List Int} (h : AscTo need.length l l.length) : ∀ i, i ≤ l.length → cutNeed need (l.take i) = sumN need.length fun b => if setOf (l.take i) b = true then need.getD b 0 else 0
  | 0, _ => by
    rw [List.take_zero]
    exact (sumN_zero fun b _ => by simp [setOf]).symm
  | i + 1, hi => by
    obtain ⟨x, hx⟩ := get_of_lt (xs := l) (i := i) (by omega)
    have h1 := h i x (by omega) hx
    obtain ⟨n, rfl⟩ : ∃ n : Nat, x = (n : Int) := ⟨x.toNat, by omega⟩
    rw [cutNeed_succ hx, cutNeed_set h i (by omega), Int.toNat_natCast]
    symm
    refine sumN_at (n := need.length) (s := n) (by omega) ?_ (fun b hb => ?_)
    · have hnot : setOf (l.take i) n = false := by
        simp only [setOf, decide_eq_false_iff_not]
        intro hm
        obtain ⟨j, hj⟩ := List.mem_iff_getElem?.1 hm
        rw [List.getElem?_take] at hj
        split at hj
        · rename_i hji
          have := h.lt i n hx j n hji hj
          omega
        · cases hj
      have hyes : setOf (l.take (i + 1)) n = true := by
        simp only [setOf, decide_eq_true_eq]
        rw [List.take_add_one, hx]
        simp
      rw [hnot, hyes]
      simp
    · have : setOf (l.take (i + 1)) b = setOf (l.take i) b := by
        unfold setOf
        rw [List.take_add_one, hx]
        simp only [List.mem_append, Option.mem_toList, decide_eq_decide]
        constructor
        · rintro (h | h)
          · exact h
          · simp at h; omega
        · exact .inl
      rw [this]
theorem cutP_iff {fits : List (List Bool)} {sup need l : List Int} (hv : Vld fits sup need) (h : AscTo need.length l l.length) : CutP fits sup need l ↔ 0 < lackOf (pbOf fits sup need) (setOf l) := by
  have h1 := cutNeed_set h l.length (Nat.le_refl _)
  rw [List.take_length] at h1
  have h2 : cutHave fits sup l sup.length = sumN sup.length fun k => if touches (pbOf fits sup need) (setOf l) k = true then sup.getD k 0 else 0 := sumN_congr fun k hk => by
    have hlf := hv.lf
    obtain ⟨row, hr⟩ := get_of_lt (xs := fits) (i := k) (by omega)
    have hrl := hv.rows row (List.mem_of_getElem? hr)
    have : cutTouch (fits.getD k []) l = touches (pbOf fits sup need) (setOf l) k := by
      rw [Bool.eq_iff_iff, touches_iff]
      unfold cutTouch
      rw [List.any_eq_true]
      constructor
      · rintro ⟨x, hx, hx2⟩
        obtain ⟨i, hi⟩ := List.mem_iff_getElem?.1 hx
        have h3 := h i x (List.getElem?_eq_some_iff.1 hi).1 hi
        refine ⟨x.toNat, by show x.toNat < need.length; omega, ?_, hx2⟩
        simp only [setOf, decide_eq_true_eq]
        rw [Int.toNat_of_nonneg h3.1]
        exact hx
      · rintro ⟨b, h3, h4, h5⟩
        simp only [setOf, decide_eq_true_eq] at h4
        exact ⟨(b : Int), h4, h5⟩
    rw [this]
  unfold CutP
  rw [h1, h2]
  unfold lackOf
  show _ ∧ _ < _ ↔ 0 < (sumN need.length fun b => if setOf l b = true then need.getD b 0 else 0) - (sumN sup.length fun k => if touches (pbOf fits sup need) (setOf l) k = true then sup.getD k 0 else 0)
  constructor
  · rintro ⟨-, h3⟩; omega
  · intro h3; exact ⟨h, by omega⟩
theorem CutP.not_feas {fits : List (List Bool)} {sup need l : List Int} (hv : Vld fits sup need) (h : CutP fits sup need l) : ¬ Feas (pbOf fits sup need) := fun hf => by
  have h1 := (cutP_iff hv h.1).1 h
  have h2 := hf.lack (setOf l)
  omega
theorem memF_asc (S : Nat → Bool) (m : Nat) : AscTo m (memF S m) (memF S m).length := by
  intro q x hq hx
  have e : memF S m = (idx S m).map Int.ofNat := rfl
  rw [e, List.getElem?_map] at hx
  cases hi : (idx S m)[q]? with
  | none => rw [hi] at hx; cases hx
  | some b =>
    rw [hi] at hx
    simp at hx
    subst hx
    have hb := (idx_mem hi).1
    refine ⟨by omega, by omega, fun y h0 hy => ?_⟩
    rw [e, List.getElem?_map] at hy
    cases hj : (idx S m)[q - 1]? with
    | none => rw [hj] at hy; cases hy
    | some c =>
      rw [hj] at hy
      simp at hy
      subst hy
      have hp : (idx S m).Pairwise (· < ·) := List.Pairwise.filter _ List.pairwise_lt_range
      rw [List.pairwise_iff_getElem] at hp
      obtain ⟨h1, h2⟩ := List.getElem?_eq_some_iff.1 hi
      obtain ⟨h3, h4⟩ := List.getElem?_eq_some_iff.1 hj
      have := hp (q - 1) q h3 h1 (by omega)
      rw [h2, h4] at this
      omega
theorem memF_set (S : Nat → Bool) (m b : Nat) (hb : b < m) : setOf (memF S m) b = S b := by
  rw [Bool.eq_iff_iff]
  simp only [setOf, decide_eq_true_eq]
  unfold memF
  simp only [List.mem_map, List.mem_filter, List.mem_range]
  constructor
  · rintro ⟨c, ⟨-, h⟩, e⟩
    have : c = b := by have : (c : Int) = (b : Int) := e; omega
    subst this
    exact h
  · intro h
    exact ⟨b, ⟨hb, h⟩, rfl⟩
theorem cutFin_cut {fits : List (List Bool)} {sup need : List Int} (hv : Vld fits sup need) (hn : ¬ Feas (pbOf fits sup need)) : CutP fits sup need (memF (cutFin fits sup need) need.length) := by
  rw [cutP_iff hv (memF_asc _ _)]
  have e : lackOf (pbOf fits sup need) (setOf (memF (cutFin fits sup need) need.length)) = lackOf (pbOf fits sup need) (cutFin fits sup need) := lackOf_congr (fun b hb => memF_set _ _ b hb)
  rw [e]
  exact cutFin_lack hv hn
end Go.Proofs.Ytlifjajcmnkhfaa

/-
  Refusals: some of the requests of a list, plain.
  Conditions: none.
-/
namespace Go.Proofs.Ytlifjajcmnkhfaa
open Go Bf
theorem keep_mapf {α β : Type} (o : Nat → Bool) (f : α → β) : ∀ (l : List α) (i : Nat), keep o (l.map f) i = (keep o l i).map f
  | [], _ => rfl
  | x :: l, i => by
    rw [List.map_cons, keep, keep]
    split
    · exact keep_mapf o f l (i + 1)
    · rw [keep_mapf o f l (i + 1), List.map_cons]
/-- how many of a set are below a number -/
def rk (S : Nat → Bool) (j : Nat) : Nat := (idx S j).length
theorem idx_prefix {S : Nat → Bool} : ∀ {m n : Nat}, m ≤ n → ∃ t, idx S n = idx S m ++ t
  | m, 0, h => ⟨[], by rw [show m = 0 by omega]; simp⟩
  | m, n + 1, h => by
    by_cases e : m = n + 1
    · exact ⟨[], by rw [e]; simp⟩
    · obtain ⟨t, ht⟩ := idx_prefix (S := S) (show m ≤ n by omega)
      exact ⟨t ++ if S n = true then [n] else [], by rw [idx_succ, ht, List.append_assoc]⟩
theorem idx_rk {S : Nat → Bool} {m j : Nat} (hj : j < m) (hS : S j = true) : (idx S m)[rk S j]? = some j := by
  obtain ⟨t, ht⟩ := idx_prefix (S := S) (show j + 1 ≤ m by omega)
  rw [ht, idx_succ, if_pos hS, List.append_assoc, rk, List.getElem?_append_right (Nat.le_refl _)]
  simp
theorem rk_idx {S : Nat → Bool} {m i b : Nat} (h : (idx S m)[i]? = some b) : rk S b = i := by
  obtain ⟨hb, hS⟩ := idx_mem h
  have h2 := idx_rk hb hS
  have hn : (idx S m).Nodup := List.nodup_range.filter _
  obtain ⟨l1, e1⟩ := List.getElem?_eq_some_iff.1 h
  obtain ⟨l2, e2⟩ := List.getElem?_eq_some_iff.1 h2
  exact (List.getElem_inj hn).1 (e2.trans e1.symm)
theorem keep_at {α : Type} {S : Nat → Bool} {l : List α} {j : Nat} (hj : j < l.length) (hS : S j = true) : (keep (fun b => !S b) l 0)[rk S j]? = l[j]? := by
  obtain ⟨x, hx⟩ := get_of_lt hj
  rw [keep_map _ x]
  simp only [Bool.not_not]
  show (List.map (fun i => l.getD i x) (idx S l.length))[rk S j]? = _
  rw [List.getElem?_map, idx_rk hj hS, hx]
  simp [List.getD_eq_getElem?_getD, hx]
theorem feasW_keep {w : Wd} {known : Int} {s : List Sp} {r : List Rq} (ht : okT s r) (S : Nat → Bool) : Feas (pbW w known s (keep (fun b => !S b) r 0)) ↔ Feas (pbS (fitsT w known s r) (amS s) (amR r) S) := by
  have hl : (keep (fun b => !S b) r 0).length = (idx S r.length).length := by
    rw [keep_len_idx]; simp
  constructor
  · intro h
    obtain ⟨a, ha⟩ := feas_part.1 h
    have hm : (pbW w known s (keep (fun b => !S b) r 0)).m = (idx S r.length).length := by simp [pbW, pbOf, amR, hl]
    have hn : (pbW w known s (keep (fun b => !S b) r 0)).n = s.length := by simp [pbW, pbOf, amS]
    have hrk : ∀ j, j < r.length → S j = true → rk S j < (idx S r.length).length := fun j hj hS => (List.getElem?_eq_some_iff.1 (idx_rk hj hS)).1
    refine feas_part.2 ⟨fun k j => if S j = true then a k (rk S j) else 0, fun k hk j hj => ?_, fun k hk j hj hne => ?_, fun k hk => ?_, fun j hj => ?_⟩
    all_goals simp only [pbS, amS, amR, List.length_map] at *
    · split
      · rename_i hS
        exact ha.nn k (by omega) _ (by rw [hm]; exact hrk j hj hS)
      · exact Int.le_refl _
    · split at hne
      · rename_i hS
        have hok := ha.ok k (by omega) _ (by rw [hm]; exact hrk j hj hS) hne
        obtain ⟨x, hx⟩ := get_of_lt hk
        obtain ⟨y, hy⟩ := get_of_lt hj
        have e := keep_at hj hS
        rw [hy] at e
        simp only [pbW, pbOf] at hok
        rw [fitsT_get hx e] at hok
        rw [fitsT_get hx hy]
        exact hok
      · exact absurd rfl hne
    · rw [idx_sum S (fun j => a k (rk S j))]
      have := ha.row k (by omega)
      rw [hm] at this
      refine Int.le_trans (Int.le_of_eq (sumN_congr fun i hi => ?_)) this
      obtain ⟨b, hb⟩ := get_of_lt hi
      rw [getD_of hb, rk_idx hb]
    · by_cases hS : S j = true
      · simp only [hS, if_true]
        have := ha.col _ (by rw [hm]; exact hrk j hj hS)
        rw [hn] at this
        rw [this]
        simp only [pbW, pbOf, amR, List.getD_eq_getElem?_getD, List.getElem?_map, keep_at hj hS]
      · simp only [hS, if_false, Bool.false_eq_true]
        exact sumN_zero fun _ _ => rfl
  · intro h
    have := feas_keep (okT_vld (w := w) (known := known) ht) (fun b => !S b) (by simpa using h)
    unfold pbW
    have e1 : (fitsT w known s r).map (fun row => keep (fun b => !S b) row 0) = fitsT w known s (keep (fun b => !S b) r 0) := by
      unfold fitsT
      rw [List.map_map]
      exact List.map_congr_left fun x _ => keep_mapf _ _ _ _
    have e2 : keep (fun b => !S b) (amR r) 0 = amR (keep (fun b => !S b) r 0) := keep_mapf _ _ _ _
    rw [e1, e2] at this
    exact this
end Go.Proofs.Ytlifjajcmnkhfaa

/-
  Refusals: excluding and without.
  Conditions: none.
-/
namespace Go.Proofs.Ytlifjajcmnkhfaa
open Go Bf
attribute [local irreducible] Tr Exec Stab HasTy Go.Addr.add IntKind.wrap
theorem excluding_fn (M : Mem) (ws : List Value) (A : Option Addr) (n c : Nat) (known : Int) :
    Bf.Fn Try.prog 29 [.agg ws.toArray, .slice A n c, .int .i64 known] M [] (fun r M' A' => ∃ b3 b4 b5, r = .func (.func 67) #[] #[.pointer (some ⟨b4, 0, none⟩), .pointer (some ⟨b3, 0, none⟩), .pointer (some ⟨b5, 0, none⟩)] ∧ M = M' ∧
      A' = [box b5 3 [.int .i64 known], box b4 42 [.slice A n c], box b3 38 ws]) := by
  refine Fn.intro Try.func29 rfl rfl Try.ntmps29 rfl fun E F => ?_
  (repeat (first | ((with_reducible refine Tr.step rfl ?_); (first | (refine xaQ (z := ?_)) | ((with_reducible refine Knd.makeFunc ?_); (refine Exec.stab rfl (Stab.makeFunc rfl rfl) rfl ?_)) | ((with_reducible refine Knd.box ?_); (first | (refine Exec.box rfl rfl (fun b => ?_)) | (refine Exec.box1 rfl (by first | rfl | assumption) rfl (fun b => ?_)))))) | (with_reducible first | apply Tr.next | apply Tr.seq | apply Tr.region | apply Tr.nil | apply Tr.ret)))
  refine Tr.doneA (A' := [box _ 3 [.int .i64 known], box _ 42 [.slice A n c], box _ 38 ws]) (by first | exact .inl rfl | exact .inr rfl) rfl (by repeat (first | exact RVs.nil | (apply RVs.cons; (exact RV.tmp rfl)))) (Mem.le.refl _) ⟨fun _ h => h, fun h => h⟩ ⟨_, _, _, rfl, rfl, rfl⟩
set_option maxHeartbeats 4000000 in
theorem excluding1_fn (M : Mem) (ws : List Value) (w : Wd) (hw : RWd M ws w) (A : Option Addr) (c lab b3 b4 b5 : Nat) (l : List Rd) (known : Int) (h : SlOf 5 RRd M (.slice A l.length c) l)
    (J : Nat → List Res → Prop) (A0 A1 : List Res) (hJ : J 0 A0) (hA : (box b5 3 [.int .i64 known] :: box b4 42 [.slice A l.length c] :: box b3 38 ws :: A0).Perm A1)
    (hskip : ∀ i y A', l[i]? = some y → refusedF w y known = false → J i A' → J (i + 1) A')
    (hy : ∀ i y A', l[i]? = some y → refusedF w y known = true → J i A' → Yl Try.prog lab [.agg #[.int .i64 y.1.1, .int .i64 y.1.2.1, .int .i64 y.1.2.2]] M A' (fun r M2 A'' => r = .bool true ∧ J (i + 1) A'' ∧ M = M2)) :
    Bf.Fn Try.prog 67 [yv lab, .pointer (some ⟨b4, 0, none⟩), .pointer (some ⟨b3, 0, none⟩), .pointer (some ⟨b5, 0, none⟩)] M A1 (fun _ M' A' => J l.length A' ∧ M = M') := by
  have hl := h.len_le
  obtain ⟨h11, hone, -, B, k, h10, hfa⟩ := hw
  refine Fn.intro Try.func67 rfl rfl Try.ntmps67 rfl fun E F => ?_
  refine Tr.perm (L' := box b5 3 [.int .i64 known] :: box b4 42 [.slice A l.length c] :: box b3 38 ws :: (A0 ++ F)) (hA.append_right F) ?_
  (repeat (first | ((with_reducible refine Tr.step rfl ?_); (first | (refine xmQ (z := ?_)) | (refine xlQ (z := ?_)) | (refine xnQ (z := ?_)))) | (with_reducible first | apply Tr.next | apply Tr.seq | apply Tr.region | apply Tr.nil | apply Tr.block)))
  refine Tr.loop (α := Nat × List Res) (fun m => ⟨39, [(11, .int .i64 (m.1 : Int)), (10, .int .i64 (l.length : Int)), (9, .slice A l.length c), (0, yv lab), (1, .pointer (some ⟨b4, 0, none⟩)), (2, .pointer (some ⟨b3, 0, none⟩)), (3, .pointer (some ⟨b5, 0, none⟩))], [], M, box b5 3 [.int .i64 known] :: box b4 42 [.slice A l.length c] :: box b3 38 ws :: (m.2 ++ F)⟩)
    (fun m => m.1 ≤ l.length ∧ J m.1 m.2) (fun m => l.length - m.1) (0, A0) ⟨Nat.zero_le _, hJ⟩ hsQ (fun m hm => ?_)
  obtain ⟨i, A'⟩ := m
  obtain ⟨hi, hJi⟩ := hm
  simp only at hi hJi
  dsimp only
  by_cases hlt : i < l.length
  rotate_left
  · have e : i = l.length := by omega
    subst e
    (repeat (first | ((with_reducible refine Tr.step rfl ?_); (with_reducible refine Knd.binOp ?_); (refine xiQ (z := ?_))) | (with_reducible first | apply Tr.next | apply Tr.seq | apply Tr.region | apply Tr.nil | apply Tr.exit | apply Tr.then_exit) | ((with_reducible refine Tr.in_exit ?_ ?_); (exact rfl)) | (refine Tr.cond_f rfl (by first | (with_reducible assumption) | (with_reducible rfl) | (with_reducible exact (not_not_intro rfl)) | omega) ?_)))
    refine Tr.less [] (A' ++ F) (by repeat (first | exact SubFr.nil | refine SubFr.cons rfl ?_)) (by repeat (first | exact DropL.refl | apply DropL.skip)) ?_
    refine Tr.doneA (A' := A') (by first | exact .inl rfl | exact .inr rfl) rfl (by repeat (exact RVs.nil)) (Mem.le.refl _) ⟨fun _ h => h, fun h => h⟩ ⟨hJi, rfl⟩
  obtain ⟨y, hyi⟩ := get_of_lt hlt
  obtain ⟨hA, ch, hat, rfl⟩ := h.elem hyi
  simp only [rdC] at hat
  (repeat (first | ((with_reducible refine Tr.step rfl ?_); (first | ((with_reducible refine Knd.load ?_); (first | (refine xlQ (z := ?_)) | (refine Exec.stab rfl (Stab.load rfl (tysOk.get rfl) rfl (by repeat (first | exact Has.here | apply Has.there)) (by assumption)) rfl ?_) | (refine Exec.stab rfl (Stab.loadMA rfl (tysOk.get rfl) rfl (by assumption) (by first | rfl | assumption)) rfl ?_) | (refine Exec.stab rfl (Stab.loadP rfl (tysOk.get rfl) rfl (by repeat (first | exact Has.here | apply Has.there)) (by repeat (first | exact TakeL.z | apply TakeL.s))) rfl ?_))) | (refine xfQ (z := ?_)) | (refine xiQ (z := ?_)) | ((with_reducible refine Knd.store ?_); (refine Exec.storeW rfl rfl (tysOk.get rfl) (by repeat (first | exact Upd.here | apply Upd.there)) rfl rfl (by repeat (first | (with_reducible assumption) | exact AllOne.nil | exact AllOne.bytes _ | refine AllOne.cons (by first | rfl | assumption) ?_)) ?_)) | ((with_reducible refine Knd.alloc ?_); (refine Exec.alloc (tysOk.get rfl) rfl rfl (fun b => ?_))) | (refine xxQ (z := ?_)))) | (with_reducible first | apply Tr.next | apply Tr.seq | apply Tr.region | apply Tr.nil | apply Tr.skip | apply Tr.block) | (refine Tr.cond_t rfl (by first | (with_reducible assumption) | (with_reducible rfl) | (with_reducible exact (not_not_intro rfl)) | omega) ?_)))
  ((refine Tr.step rfl ?_)); refine Exec.call0 rfl (at_fn M B k w.facts y.1 y.2.1 known hfa) rfl ?_
  rintro _ _ _ ⟨rfl, rfl⟩
  have href : refusedF w y known = decide (atF w.facts y.1 y.2.1 known = some 1) := rfl
  cases ha : atF w.facts y.1 y.2.1 known with
  | none =>
    simp only [Option.isSome_none, Option.getD_none]
    (repeat (first | ((with_reducible refine Tr.step rfl ?_); (first | (refine xmQ (z := ?_)) | (refine xaQ (z := ?_)) | (refine xdQ (z := ?_)) | ((with_reducible refine Knd.pick ?_); (refine Exec.stab rfl (Stab.pick_f rfl (by first | (with_reducible rfl) | (with_reducible assumption) | (with_reducible exact Bool.not_true) | (with_reducible exact Bool.not_false)) rfl) rfl ?_)) | ((with_reducible refine Knd.extract ?_); (refine Exec.stab rfl (Stab.extract rfl rfl) rfl ?_)))) | (with_reducible first | apply Tr.next | apply Tr.seq | apply Tr.region | apply Tr.nil) | (refine Tr.guard_s1 rfl rfl rfl (by first | (with_reducible rfl) | (with_reducible assumption) | (with_reducible exact Bool.not_true) | (with_reducible exact Bool.not_false)) rfl rfl ?_) | (with_reducible first | apply Tr.skip | apply Tr.in_normal) | (refine Tr.cond_bf rfl (by first | (with_reducible rfl) | (with_reducible assumption) | (with_reducible exact Bool.not_true) | (with_reducible exact Bool.not_false)) ?_)))
    refine Tr.again (i + 1, A') ⟨by simp only; omega, hskip i y A' hyi (by rw [href, ha]; rfl) hJi⟩ (by simp only; omega) hsQ
  | some n =>
    simp only [Option.isSome_some, Option.getD_some]
    by_cases hn : n = 1
    rotate_left
    · (repeat (first | ((with_reducible refine Tr.step rfl ?_); (first | (refine xmQ (z := ?_)) | (refine xaQ (z := ?_)) | (refine xdQ (z := ?_)) | ((with_reducible refine Knd.pick ?_); (first | (refine Exec.stab rfl (Stab.pick_t rfl (by first | (with_reducible rfl) | (with_reducible assumption) | (with_reducible exact Bool.not_true) | (with_reducible exact Bool.not_false)) rfl) rfl ?_) | (refine Exec.stab rfl (Stab.pick_fd rfl (by first | (with_reducible assumption) | (with_reducible rfl) | (with_reducible exact (not_not_intro rfl)) | omega) rfl) rfl ?_))) | ((with_reducible refine Knd.extract ?_); (refine Exec.stab rfl (Stab.extract rfl rfl) rfl ?_)))) | (with_reducible first | apply Tr.next | apply Tr.seq | apply Tr.region | apply Tr.nil) | ((refine Tr.guard_l rfl rfl rfl (by first | (with_reducible rfl) | (with_reducible assumption) | (with_reducible exact Bool.not_true) | (with_reducible exact Bool.not_false)) ?_); (first | (refine xmQ (z := ?_)) | (refine xiQ (z := ?_)))) | (refine Tr.guard_n rfl rfl rfl (by first | (with_reducible assumption) | (with_reducible rfl) | (with_reducible exact (not_not_intro rfl)) | omega) rfl rfl ?_) | (with_reducible first | apply Tr.skip | apply Tr.in_normal) | (refine Tr.cond_bf rfl (by first | (with_reducible rfl) | (with_reducible assumption) | (with_reducible exact Bool.not_true) | (with_reducible exact Bool.not_false)) ?_)))
      refine Tr.again (i + 1, A') ⟨by simp only; omega, hskip i y A' hyi (by rw [href, ha]; simp [hn]) hJi⟩ (by simp only; omega) hsQ
    (repeat (first | ((with_reducible refine Tr.step rfl ?_); (first | (refine xmQ (z := ?_)) | (refine xaQ (z := ?_)) | ((with_reducible refine Knd.pick ?_); (refine Exec.stab rfl (Stab.pick_t rfl (by first | (with_reducible rfl) | (with_reducible assumption) | (with_reducible exact Bool.not_true) | (with_reducible exact Bool.not_false)) rfl) rfl ?_)) | ((with_reducible refine Knd.extract ?_); (refine Exec.stab rfl (Stab.extract rfl rfl) rfl ?_)))) | (with_reducible first | apply Tr.next | apply Tr.seq | apply Tr.region | apply Tr.nil) | ((refine Tr.guard_l rfl rfl rfl (by first | (with_reducible rfl) | (with_reducible assumption) | (with_reducible exact Bool.not_true) | (with_reducible exact Bool.not_false)) ?_); (first | (refine xmQ (z := ?_)) | (refine xiQ (z := ?_)))) | ((refine Tr.guard_y rfl rfl rfl (by first | (with_reducible assumption) | (with_reducible rfl) | (with_reducible exact (not_not_intro rfl)) | omega) ?_); (first | (refine xmQ (z := ?_)) | ((with_reducible refine Knd.load ?_); (refine Exec.stab rfl (Stab.loadP rfl (tysOk.get rfl) rfl (by repeat (first | exact Has.here | apply Has.there)) (by repeat (first | exact TakeL.z | apply TakeL.s))) rfl ?_)) | (refine xfQ (z := ?_))))))
    ((refine Tr.guard_y rfl rfl rfl (by first | (with_reducible assumption) | (with_reducible rfl) | (with_reducible exact (not_not_intro rfl)) | omega) ?_))
    refine Exec.yield (F := box _ 117 _ :: box b5 3 [.int .i64 known] :: box b4 42 [.slice A l.length c] :: box b3 38 ws :: F) rfl rfl (hy i y A' hyi (by rw [href, ha]; simp [hn]) hJi) (List.perm_append_comm_assoc A' [_, _, _, _] F) rfl ?_
    rintro _ _ A'' - ⟨rfl, hJ2, rfl⟩
    refine Tr.perm (L' := box _ 117 [.int .i64 y.1.1, .int .i64 y.1.2.1, .int .i64 y.1.2.2, .int .i64 y.2.1, .int .i64 y.2.2] :: box b5 3 [.int .i64 known] :: box b4 42 [.slice A l.length c] :: box b3 38 ws :: (A'' ++ F)) (List.perm_append_comm_assoc [_, _, _, _] A'' F) ?_
    (repeat (first | ((with_reducible refine Tr.step rfl ?_); (first | (refine xmQ (z := ?_)) | (refine xdQ (z := ?_)) | ((with_reducible refine Knd.pick ?_); (refine Exec.stab rfl (Stab.pick_td rfl (by first | (with_reducible assumption) | (with_reducible rfl) | (with_reducible exact (not_not_intro rfl)) | omega) rfl) rfl ?_)))) | (with_reducible first | apply Tr.next | apply Tr.region | apply Tr.nil) | ((refine Tr.guard_y rfl rfl rfl (by first | (with_reducible assumption) | (with_reducible rfl) | (with_reducible exact (not_not_intro rfl)) | omega) ?_); (with_reducible refine Knd.unOp ?_); (refine Exec.stab rfl (Stab.not rfl) rfl ?_)) | (with_reducible first | apply Tr.skip | apply Tr.in_normal) | (refine Tr.cond_bf rfl (by first | (with_reducible rfl) | (with_reducible assumption) | (with_reducible exact Bool.not_true) | (with_reducible exact Bool.not_false)) ?_)))
    refine Tr.again (i + 1, A'') ⟨by simp only; omega, hJ2⟩ (by simp only; omega) hsQ
/-- keys as keys of a map -/
def kyI (y : Ky) : List Int := [y.1, y.2.1, y.2.2]
theorem kyI_inj {a b : Ky} (h : ints (kyI a) = ints (kyI b)) : a = b := by
  have := ints_inj h
  obtain ⟨a1, a2, a3⟩ := a
  obtain ⟨b1, b2, b3⟩ := b
  simp only [kyI, List.cons.injEq, and_true] at this
  obtain ⟨rfl, rfl, rfl⟩ := this
  rfl
def MapKy (es : List MapEntry) (l : List Ky) : Prop := KeysIn (IntsN 3) es ∧ ∀ y : Ky, valV (ints (kyI y)) es = if y ∈ l then some (.bool true) else none
theorem MapKy.nil : MapKy [] [] := ⟨KeysIn.nil, fun y => by simp [valV, lookV]⟩
theorem MapKy.add {es : List MapEntry} {l : List Ky} (h : MapKy es l) (y : Ky) (cl : Nat) : MapKy (updV (ints (kyI y)) (.bool true) es cl).1 (l ++ [y]) := by
  classical
  refine ⟨updV_keys h.1 ⟨kyI y, rfl, rfl⟩, fun z => ?_⟩
  rw [updV_val, h.2 z]
  by_cases e : z = y
  · subst e; simp
  · have : ¬ ints (kyI z) = ints (kyI y) := fun h => e (kyI_inj h)
    simp [this, e]
theorem allOne_head {v : Value} {l : List Value} (h : AllOne (v :: l)) : v.oneCell' = true ∧ AllOne l := by
  cases h with
  | cons h t => exact ⟨h, t⟩
theorem RWd.lit {M : Mem} {ws : List Value} {w : Wd} (h : RWd M ws w) : ∃ u0 u1 u2 u3 u4 u5 u6 u8 u9 A7 c7 A10 c10, ws = [u0, u1, u2, u3, u4, u5, u6, .slice A7 w.swaps.length c7, u8, u9, .slice A10 w.facts.length c10] ∧ (u0.oneCell' = true ∧ u1.oneCell' = true ∧ u2.oneCell' = true ∧ u3.oneCell' = true ∧ u4.oneCell' = true ∧ u5.oneCell' = true ∧ u6.oneCell' = true ∧ u8.oneCell' = true ∧ u9.oneCell' = true) ∧
    SlOf 4 RSw M (.slice A7 w.swaps.length c7) w.swaps ∧ SlOf 8 RFc M (.slice A10 w.facts.length c10) w.facts := by
  obtain ⟨h11, hone, ⟨A7, c7, h7, hsw⟩, A10, c10, h10, hfa⟩ := h
  match ws, h11 with
  | [u0, u1, u2, u3, u4, u5, u6, u7, u8, u9, u10], _ =>
    simp only [nthL, Option.some.injEq] at h7 h10
    subst h7 h10
    obtain ⟨o0, hone⟩ := allOne_head hone
    obtain ⟨o1, hone⟩ := allOne_head hone
    obtain ⟨o2, hone⟩ := allOne_head hone
    obtain ⟨o3, hone⟩ := allOne_head hone
    obtain ⟨o4, hone⟩ := allOne_head hone
    obtain ⟨o5, hone⟩ := allOne_head hone
    obtain ⟨o6, hone⟩ := allOne_head hone
    obtain ⟨-, hone⟩ := allOne_head hone
    obtain ⟨o8, hone⟩ := allOne_head hone
    obtain ⟨o9, hone⟩ := allOne_head hone
    exact ⟨u0, u1, u2, u3, u4, u5, u6, u8, u9, A7, c7, A10, c10, rfl, ⟨o0, o1, o2, o3, o4, o5, o6, o8, o9⟩, hsw, hfa⟩
def keptF (ks : List Ky) (l : List Fc) : List Fc := l.filter fun f => !decide (f.key ∈ ks)
set_option maxHeartbeats 16000000 in
set_option maxRecDepth 20000 in
theorem without_fn0 (M : Mem) (ws : List Value) (w : Wd) (hw : RWd M ws w) (A : Option Addr) (c : Nat) (ks : List Ky) (hk : SlOf 3 RKy M (.slice A ks.length c) ks) (hfl : w.facts.length ≤ 1000000) :
    Fn0 Try.prog 32 [.agg ws.toArray, .slice A ks.length c] M (fun v M' => ∃ ws', v = .agg ws'.toArray ∧ RWd M' ws' (withoutF w ks)) := by
  obtain ⟨u0, u1, u2, u3, u4, u5, u6, u8, u9, A7, c7, A10, c10, rfl, ⟨o0, o1, o2, o3, o4, o5, o6, o8, o9⟩, hsw, hfa⟩ := hw.lit
  have hkl := hk.len_le
  have hKey : KeyOk Try.prog 71 (IntsN 3) := KeyOk.ofTy (tysOk.get rfl) rfl (by kernel_rfl)
  refine Fn.intro Try.func32 rfl rfl Try.ntmps32 rfl fun E F => ?_
  (repeat (first | ((with_reducible refine Tr.step rfl ?_); (first | (refine xmQ (z := ?_)) | (refine xaQ (z := ?_)) | (refine xnQ (z := ?_)) | ((with_reducible refine Knd.box ?_); (refine Exec.box rfl rfl (fun b => ?_))) | ((with_reducible refine Knd.alloc ?_); (refine Exec.alloc (tysOk.get rfl) rfl rfl (fun b => ?_))) | ((with_reducible refine Knd.makeMap ?_); (refine Exec.makeMap rfl (fun b => ?_))))) | (with_reducible first | apply Tr.next | apply Tr.seq | apply Tr.region | apply Tr.nil | apply Tr.block)))
  rename_i b2 b4
  generalize b = mb
  refine Tr.loop (α := Nat × List MapEntry × Nat) (fun y => ⟨44, [(14, .int .i64 (y.1 : Int)), (13, .int .i64 (ks.length : Int)), (12, .slice A ks.length c), (5, .map (some mb)), (2, .pointer (some ⟨b2, 0, none⟩)), (4, .pointer (some ⟨b4, 0, none⟩))], [], M, mapR mb y.2.1 y.2.2 :: box b4 38 [.slice none 0 0, .slice none 0 0, .slice none 0 0, .slice none 0 0, .slice none 0 0, .slice none 0 0, .slice none 0 0, .slice none 0 0, .slice none 0 0, .slice none 0 0, .slice none 0 0] :: box b2 38 [u0, u1, u2, u3, u4, u5, u6, .slice A7 w.swaps.length c7, u8, u9, .slice A10 w.facts.length c10] :: ([] ++ F)⟩)
    (fun y => y.1 ≤ ks.length ∧ MapKy y.2.1 (ks.take y.1)) (fun y => ks.length - y.1) (0, [], 0) ⟨Nat.zero_le _, MapKy.nil⟩ hsQ (fun y hy => ?_)
  obtain ⟨i, es, cl⟩ := y
  obtain ⟨hi, hm⟩ := hy
  simp only at hi hm
  dsimp only
  by_cases hlt : i < ks.length
  · obtain ⟨x, hx⟩ := get_of_lt hlt
    obtain ⟨hA, ch, hat, rfl⟩ := hk.elem hx
    simp only [kyC] at hat
    (repeat (first | ((with_reducible refine Tr.step rfl ?_); (first | (refine xmQ (z := ?_)) | ((with_reducible refine Knd.load ?_); (first | (refine xwQ (z := ?_)) | (refine Exec.stab rfl (Stab.loadMA rfl (tysOk.get rfl) rfl (by assumption) (by first | rfl | assumption)) rfl ?_))) | (refine xiQ (z := ?_)) | ((with_reducible refine Knd.store ?_); (refine Exec.storeW rfl rfl (tysOk.get rfl) (by repeat (first | exact Upd.here | apply Upd.there)) rfl rfl (by repeat (first | (with_reducible assumption) | exact AllOne.nil | exact AllOne.bytes _ | refine AllOne.cons (by first | rfl | assumption) ?_)) ?_)) | ((with_reducible refine Knd.alloc ?_); (refine Exec.alloc (tysOk.get rfl) rfl rfl (fun b => ?_))) | (refine xxQ (z := ?_)))) | (with_reducible first | apply Tr.next | apply Tr.seq | apply Tr.region | apply Tr.nil | apply Tr.skip | apply Tr.block) | (refine Tr.cond_t rfl (by first | (with_reducible assumption) | (with_reducible rfl) | (with_reducible exact (not_not_intro rfl)) | omega) ?_)))
    refine Tr.step rfl ?_
    refine Exec.mapUpdateV hKey rfl rfl rfl (tysOk.get rfl) rfl hm.1 ⟨kyI x, rfl, rfl⟩ (by repeat (first | exact Upd.here | apply Upd.there)) ?_
    (repeat (first | ((with_reducible refine Tr.step rfl ?_); (first | (refine xmQ (z := ?_)) | (refine xdQ (z := ?_)))) | (with_reducible first | apply Tr.next | apply Tr.region | apply Tr.nil | apply Tr.in_normal)))
    refine Tr.again (i + 1, (updV _ _ es cl).1, (updV _ _ es cl).2) ⟨by simp only; omega, ?_⟩ (by simp only; omega) hsQ
    simp only
    rw [List.take_add_one, hx]
    exact hm.add x cl
  have ei : i = ks.length := by omega
  subst ei
  rw [List.take_length] at hm
  (repeat (first | ((with_reducible refine Tr.step rfl ?_); (first | (refine xmQ (z := ?_)) | ((with_reducible refine Knd.load ?_); (first | (refine xlQ (z := ?_)) | (refine Exec.stab rfl (Stab.loadP rfl (tysOk.get rfl) rfl (by repeat (first | exact Has.here | apply Has.there)) (by repeat (first | exact TakeL.z | apply TakeL.s))) rfl ?_))) | (refine xfQ (z := ?_)) | (refine xnQ (z := ?_)) | (refine xiQ (z := ?_)) | ((with_reducible refine Knd.store ?_); (refine Exec.storeW rfl rfl (tysOk.get rfl) (by repeat (first | exact Upd.here | apply Upd.there)) rfl rfl (by repeat (first | (with_reducible assumption) | exact AllOne.nil | exact AllOne.bytes _ | refine AllOne.cons (by first | rfl | assumption) ?_)) ?_)) | ((with_reducible refine Knd.alloc ?_); (refine Exec.alloc (tysOk.get rfl) rfl rfl (fun b => ?_))) | ((with_reducible refine Knd.build ?_); (refine Exec.stab rfl (Stab.build tysOk rfl rfl rfl rfl (by repeat (first | exact BuildP.nil | ((apply BuildP.one); (rfl); (rfl); (first | rfl | assumption); (repeat (first | exact SetL.z | apply SetL.s))) | ((apply BuildP.many); (rfl); (rfl); (rfl); (rfl); (repeat (first | exact PutL.nil | ((apply PutL.cons); (repeat (first | exact SetL.z | apply SetL.s))))))))) rfl ?_)))) | (with_reducible first | apply Tr.next | apply Tr.seq | apply Tr.region | apply Tr.nil | apply Tr.block | apply Tr.exit | apply Tr.then_exit) | ((with_reducible refine Tr.in_exit ?_ ?_); (exact rfl)) | (refine Tr.cond_f rfl (by first | (with_reducible assumption) | (with_reducible rfl) | (with_reducible exact (not_not_intro rfl)) | omega) ?_)))
  generalize b = b8
  refine Tr.own_nil 75 8 ?_
  refine Tr.loop (α := Nat × Option Addr × Nat) (fun y => ⟨44, [(27, .int .i64 (y.1 : Int)), (26, .int .i64 (w.facts.length : Int)), (25, .slice A10 w.facts.length c10), (5, .map (some mb)), (8, .pointer (some ⟨b8, 0, none⟩)), (4, .pointer (some ⟨b4, 0, none⟩))], [], M, ownS 75 8 y.2.1 (keptF ks (w.facts.take y.1)).length y.2.2 ((keptF ks (w.facts.take y.1)).flatMap fcC) :: box b8 38 [u0, u1, u2, u3, u4, u5, u6, .slice A7 w.swaps.length c7, u8, u9, .slice y.2.1 (keptF ks (w.facts.take y.1)).length y.2.2] :: mapR mb es cl :: box b4 38 [.slice none 0 0, .slice none 0 0, .slice none 0 0, .slice none 0 0, .slice none 0 0, .slice none 0 0, .slice none 0 0, .slice none 0 0, .slice none 0 0, .slice none 0 0, .slice none 0 0] :: box b2 38 [u0, u1, u2, u3, u4, u5, u6, .slice A7 w.swaps.length c7, u8, u9, .slice A10 w.facts.length c10] :: ([] ++ F)⟩)
    (fun y => y.1 ≤ w.facts.length ∧ y.2.2 ≤ 9223372036854775807) (fun y => w.facts.length - y.1) (0, none, 0) ⟨Nat.zero_le _, by simp⟩ hsQ (fun y hy => ?_)
  obtain ⟨i, C, cc⟩ := y
  obtain ⟨hi, hcc⟩ := hy
  simp only at hi hcc
  dsimp only
  have hkpl : (keptF ks (w.facts.take i)).length ≤ i := Nat.le_trans (List.length_filter_le _ _) (by simp; omega)
  by_cases hlt : i < w.facts.length
  · obtain ⟨f, hf⟩ := get_of_lt hlt
    obtain ⟨hA, ch, hat, rfl⟩ := hfa.elem hf
    simp only [fcC] at hat
    have htk : keptF ks (w.facts.take (i + 1)) = keptF ks (w.facts.take i) ++ if f.key ∈ ks then [] else [f] := by
      unfold keptF
      rw [List.take_add_one, hf, Option.toList_some, List.filter_append]
      by_cases h : f.key ∈ ks <;> simp [h]
    have hval := hm.2 f.key
    have hkey : ints (kyI f.key) = .agg #[.int .i64 f.key.1, .int .i64 f.key.2.1, .int .i64 f.key.2.2] := rfl
    rw [hkey] at hval
    (repeat (first | ((with_reducible refine Tr.step rfl ?_); (first | (refine xmQ (z := ?_)) | ((with_reducible refine Knd.load ?_); (first | (refine Exec.stab rfl (Stab.loadMA rfl (tysOk.get rfl) rfl (by assumption) (by first | rfl | assumption)) rfl ?_) | (refine Exec.stab rfl (Stab.loadP rfl (tysOk.get rfl) rfl (by repeat (first | exact Has.here | apply Has.there)) (by repeat (first | exact TakeL.z | apply TakeL.s))) rfl ?_))) | (refine xfQ (z := ?_)) | (refine xiQ (z := ?_)) | ((with_reducible refine Knd.store ?_); (refine Exec.storeW rfl rfl (tysOk.get rfl) (by repeat (first | exact Upd.here | apply Upd.there)) rfl rfl (by repeat (first | (with_reducible assumption) | exact AllOne.nil | exact AllOne.bytes _ | refine AllOne.cons (by first | rfl | assumption) ?_)) ?_)) | ((with_reducible refine Knd.alloc ?_); (refine Exec.alloc (tysOk.get rfl) rfl rfl (fun b => ?_))) | (refine xxQ (z := ?_)))) | (with_reducible first | apply Tr.next | apply Tr.seq | apply Tr.region | apply Tr.nil | apply Tr.skip | apply Tr.block) | (refine Tr.cond_t rfl (by first | (with_reducible assumption) | (with_reducible rfl) | (with_reducible exact (not_not_intro rfl)) | omega) ?_)))
    refine Tr.step rfl ?_
    refine Exec.stab rfl (Stab.lookupV hKey rfl rfl (tysOk.get rfl) rfl (tysOk.get rfl) rfl (by repeat (first | exact Has.here | apply Has.there)) hm.1 ⟨kyI f.key, rfl, rfl⟩) rfl ?_
    rw [hval]
    by_cases hin : f.key ∈ ks
    · rw [if_pos hin] at htk ⊢
      rw [List.append_nil] at htk
      simp only [Option.getD_some]
      rw [← htk]
      (repeat (first | ((with_reducible refine Tr.step rfl ?_); (first | (refine xmQ (z := ?_)) | (refine xdQ (z := ?_)) | ((with_reducible refine Knd.unOp ?_); (refine Exec.stab rfl (Stab.not rfl) rfl ?_)))) | (with_reducible first | apply Tr.next | apply Tr.region | apply Tr.nil | apply Tr.skip | apply Tr.in_normal) | (refine Tr.cond_bf rfl (by first | (with_reducible rfl) | (with_reducible assumption) | (with_reducible exact Bool.not_true) | (with_reducible exact Bool.not_false)) ?_)))
      refine gvQ (r := box _ 75 _) (k := ?_)
      exact Tr.again (i + 1, C, cc) ⟨by simp only; omega, hcc⟩ (by simp only; omega) hsQ
    · rw [if_neg hin] at htk ⊢
      simp only [Option.getD_none]
      (repeat (first | ((with_reducible refine Tr.step rfl ?_); (first | ((with_reducible refine Knd.load ?_); (first | (refine xlQ (z := ?_)) | (refine xwQ (z := ?_)))) | (refine xfQ (z := ?_)) | ((with_reducible refine Knd.unOp ?_); (refine Exec.stab rfl (Stab.not rfl) rfl ?_)) | ((with_reducible refine Knd.buildSlice ?_); (refine Exec.buildSlice (tysOk.get rfl) rfl (tysOk.get rfl) rfl rfl rfl rfl rfl (by repeat (first | exact BuildP.nil | ((apply BuildP.one); (rfl); (rfl); (first | rfl | assumption); (repeat (first | exact SetL.z | apply SetL.s))) | ((apply BuildP.many); (rfl); (rfl); (rfl); (rfl); (repeat (first | exact PutL.nil | ((apply PutL.cons); (repeat (first | exact SetL.z | apply SetL.s)))))))) rfl (fun b => ?_))))) | (with_reducible first | apply Tr.next | apply Tr.region | apply Tr.nil) | (refine Tr.cond_bt rfl (by first | (with_reducible rfl) | (with_reducible assumption) | (with_reducible exact Bool.not_true) | (with_reducible exact Bool.not_false)) ?_)))
      ((refine Tr.step rfl ?_))
      refine Exec.append (news := fcC f) rfl rfl (tysOk.get rfl) rfl (tysOk.get rfl) rfl rfl rfl rfl (by repeat (first | exact Del.here | apply Del.there)) (Src.box (by repeat (first | exact Has.here | apply Has.there))) rfl (fcC_one _) (by omega) (by omega) rfl (fun C2 cc2 hcc2 => ?_)
      refine gvQ (r := box _ 75 _) (k := ?_)
      rw [show (keptF ks (w.facts.take i)).flatMap fcC ++ fcC f = (keptF ks (w.facts.take (i + 1))).flatMap fcC by rw [htk, List.flatMap_append]; simp, show (keptF ks (w.facts.take i)).length + 1 = (keptF ks (w.facts.take (i + 1))).length by rw [htk]; simp]
      (repeat (first | ((with_reducible refine Tr.step rfl ?_); (first | (refine xmQ (z := ?_)) | (refine xfQ (z := ?_)) | (refine xdQ (z := ?_)) | (refine xSQ (z := ?_)))) | (with_reducible first | apply Tr.next | apply Tr.region | apply Tr.nil | apply Tr.in_normal)))
      refine gvQ (r := box _ 75 _) (k := ?_)
      exact Tr.again (i + 1, C2, cc2) ⟨by simp only; omega, hcc2⟩ (by simp only; omega) hsQ
  have ei : i = w.facts.length := by omega
  subst ei
  rw [List.take_length]
  refine pbQ (r := ownS 75 8 C _ _ _) (k := fun M6 hm6 hok6 => ?_)
  (repeat (first | ((with_reducible refine Tr.step rfl ?_); (first | (refine xwQ (z := ?_)) | (refine xiQ (z := ?_)) | ((with_reducible refine Knd.store ?_); (refine Exec.storeW rfl rfl (tysOk.get rfl) (by repeat (first | exact Upd.here | apply Upd.there)) rfl rfl (by repeat (first | (with_reducible assumption) | exact AllOne.nil | exact AllOne.bytes _ | refine AllOne.cons (by first | rfl | assumption) ?_)) ?_)))) | (with_reducible first | apply Tr.next | apply Tr.seq | apply Tr.region | apply Tr.nil | apply Tr.exit | apply Tr.ret | apply Tr.then_exit) | ((with_reducible refine Tr.in_exit ?_ ?_); (exact rfl)) | (refine Tr.cond_f rfl (by first | (with_reducible assumption) | (with_reducible rfl) | (with_reducible exact (not_not_intro rfl)) | omega) ?_)))
  (refine Tr.done (by first | exact .inl rfl | exact .inr rfl) rfl (by repeat (first | exact RVs.nil | (apply RVs.cons; (exact RV.cellW (by rfl) (tysOk.get (by rfl)) (by rfl) (by repeat (first | exact Has.here | apply Has.there)) (by first | rfl | assumption))))) (by first | exact Mem.le.refl _ | assumption) (by exact ⟨[_, _, _, _], rfl⟩) ⟨rfl, ?_⟩)
  refine ⟨[u0, u1, u2, u3, u4, u5, u6, .slice A7 w.swaps.length c7, u8, u9, .slice C (keptF ks w.facts).length cc], rfl, rfl, ?_, ⟨A7, c7, rfl, hsw.mono RSw.mono hm6⟩, C, cc, rfl, SlOf.ofOwn hok6 rfl hcc (fcC_elems _ _)⟩
  repeat (first | (with_reducible assumption) | exact AllOne.nil | refine AllOne.cons (by first | rfl | assumption) ?_)
end Go.Proofs.Ytlifjajcmnkhfaa

/-
  Refusals: Facts.
  Conditions: none.
-/
namespace Go.Proofs.Ytlifjajcmnkhfaa
open Go Bf
attribute [local irreducible] Tr Exec Stab HasTy Go.Addr.add IntKind.wrap
theorem without_fn (M : Mem) (ws : List Value) (w : Wd) (hw : RWd M ws w) (A : Option Addr) (c : Nat) (ks : List Ky) (hk : SlOf 3 RKy M (.slice A ks.length c) ks) (hfl : w.facts.length ≤ 1000000) :
    Fn0 Try.prog 32 [.agg ws.toArray, .slice A ks.length c] M (fun v M' => ∃ ws', v = .agg ws'.toArray ∧ ws'.length = 11 ∧ RWd M' ws' (withoutF w ks)) :=
  Fn0.mono (without_fn0 M ws w hw A c ks hk hfl) fun _ _ _ ⟨ws', h1, h2⟩ => ⟨ws', h1, h2.len, h2⟩
set_option maxHeartbeats 16000000 in
set_option maxRecDepth 20000 in
theorem facts1_fn (M : Mem) (ws : List Value) (w : Wd) (hw : RWd M ws w) (hfl : w.facts.length ≤ 1000000) (k : Bp) (As Ar Af Ad : Option Addr) (cs cr cf cd : Nat) (h1 : SlOf 6 RSpC M (.slice As k.sups.length cs) k.sups) (_ : SlOf 6 RRqC M (.slice Ar k.reqs.length cr) k.reqs) (_ : Fits2 M (.slice Af k.fits.length cf) k.fits) (_ : SlOf 5 RRd M (.slice Ad k.rds.length cd) k.rds) (r : Rq) (hok : okT k.sups (k.reqs ++ [r])) (b3 b4 b8 b9 b10 b11 : Nat) (P1 P2 A8 : Option Addr) (q1 q2 c8 : Nat)
    (h8 : SlOf 6 RRqC M (.slice A8 (k.reqs ++ [r]).length c8) (k.reqs ++ [r])) (hI1 : Ints M (.slice P1 (amS k.sups).length q1) (amS k.sups)) (hI2 : Ints M (.slice P2 (amR (k.reqs ++ [r])).length q2) (amR (k.reqs ++ [r])))
    (A : Option Addr) (c : Nat) (ks : List Ky) (hk : SlOf 3 RKy M (.slice A ks.length c) ks) :
    Bf.Fn Try.prog 31 ([.slice A ks.length c] ++ [.pointer (some ⟨b3, 0, none⟩), .pointer (some ⟨b4, 0, none⟩), .pointer (some ⟨b8, 0, none⟩), .pointer (some ⟨b9, 0, none⟩), .pointer (some ⟨b10, 0, none⟩), .pointer (some ⟨b11, 0, none⟩)]) M [box b11 3 [.int .i64 (amR (k.reqs ++ [r])).sum], box b10 32 [.slice P2 (amR (k.reqs ++ [r])).length q2], box b9 32 [.slice P1 (amS k.sups).length q1], box b8 40 [.slice A8 (k.reqs ++ [r]).length c8], box b4 44 [.int .i64 k.known, .slice As k.sups.length cs, .slice Ar k.reqs.length cr, .slice Af k.fits.length cf, .slice Ad k.rds.length cd], box b3 38 ws]
      (fun v _ A' => A' = [box b11 3 [.int .i64 (amR (k.reqs ++ [r])).sum], box b10 32 [.slice P2 (amR (k.reqs ++ [r])).length q2], box b9 32 [.slice P1 (amS k.sups).length q1], box b8 40 [.slice A8 (k.reqs ++ [r]).length c8], box b4 44 [.int .i64 k.known, .slice As k.sups.length cs, .slice Ar k.reqs.length cr, .slice Af k.fits.length cf, .slice Ad k.rds.length cd], box b3 38 ws] ∧ ∃ p : Bool, v = .bool p ∧ (p = true ↔ meetK w k r ks)) := by
  have h11 := hw.len
  refine Fn.intro Try.func31 rfl rfl Try.ntmps31 rfl fun E F => ?_
  simp only [List.cons_append, List.nil_append]
  (repeat (first | ((with_reducible refine Tr.step rfl ?_); (with_reducible refine Knd.assign ?_); (refine xaQ (z := ?_))) | (with_reducible first | apply Tr.next | apply Tr.seq | apply Tr.region | apply Tr.nil)))
  (((apply Tr.draw); (kernel_rfl)); (refine tkQ 0 (hB := by exact fun _ h => h) (s := by exact Stab.loadW rfl (tysOk.get rfl) rfl (by repeat (first | exact Has.here | apply Has.there)) (by assumption)) (h := ?_)); (refine tkQ 1 (s := by exact Stab.move rfl) (h := ?_)); (refine tkQ 3 (s := by exact sfQ) (h := ?_)); (refine tkQ 5 (s := by exact slQ) (h := ?_)); (refine tkQ 6 (s := by exact sfQ) (h := ?_)); (refine tkQ 4 (s := by exact slQ) (h := ?_)); (refine tkQ 7 (s := by exact slQ) (h := ?_)); (refine TrA.eff 2 rfl (by kernel_rfl) (by first | exact .inl rfl | exact .inr ⟨_, _, _, rfl, rfl, rfl⟩) ?_))
  refine Exec.call0 rfl (without_fn M ws w hw A c ks hk hfl) rfl ?_
  rintro _ M1 hm1 ⟨ws', rfl, h11', hw'⟩
  refine ⟨hm1, (by exact fun _ h => h), ?_⟩
  ((refine TrA.eff 8 rfl (by kernel_rfl) (by first | exact .inl rfl | exact .inr ⟨_, _, _, rfl, rfl, rfl⟩) ?_))
  refine Exec.call0 rfl (table_fn M1 ws' (withoutF w ks) hw' As A8 cs c8 k.sups (k.reqs ++ [r]) k.known (h1.mono RSpC.mono hm1) (h8.mono RRqC.mono hm1)) rfl ?_
  rintro _ M2 hm2 (⟨hno, rfl⟩ | ⟨-, A5, c5, B5, k5, rfl, hf, hrd⟩)
  · exact absurd hok hno
  refine ⟨hm2, (by exact fun _ h => h), ?_⟩
  ((refine tkQ 9 (s := by exact Stab.move rfl) (h := ?_)); (refine tkQ 10 (s := by exact Stab.extract rfl rfl) (h := ?_)); (refine tkQ 11 (s := by exact Stab.extract rfl rfl) (h := ?_)); (refine tkQ 12 (s := by exact Stab.extract rfl rfl) (h := ?_)); (refine tkQ 13 (s := by exact Stab.assign rfl) (h := ?_)); (refine tkQ 14 (s := by exact Stab.assign rfl) (h := ?_)); (refine tkQ 15 (s := by exact Stab.assign rfl) (h := ?_)); (refine TrA.done (by kernel_rfl) ?_))
  (repeat (first | ((with_reducible refine Tr.step rfl ?_); (first | (refine xmQ (z := ?_)) | (refine xlQ (z := ?_)) | (refine xiQ (z := ?_)))) | (with_reducible first | apply Tr.next | apply Tr.seq | apply Tr.region | apply Tr.nil | apply Tr.skip) | (refine Tr.cond_f rfl (by first | (with_reducible assumption) | (with_reducible rfl) | (with_reducible exact (not_not_intro rfl)) | omega) ?_)))
  have hvld := okT_vld (w := withoutF w ks) (known := k.known) hok
  have rs : I64s (amS k.sups) := fun x hx => by have := hvld.rs x hx; omega
  have rn : I64s (amR (k.reqs ++ [r])) := fun x hx => by have := hvld.rn x hx; omega
  have hm12 := hm1.trans hm2
  ((refine Tr.step rfl ?_)); refine Exec.call0 rfl (most2_fn M2 A5 P1 P2 c5 q1 q2 (fitsT (withoutF w ks) k.known k.sups (k.reqs ++ [r])) (amS k.sups) (amR (k.reqs ++ [r])) hf (hI1.mono RI.mono hm12) (hI2.mono RI.mono hm12) rs rn) rfl ?_
  rintro _ _ _ ⟨⟨hbad, -⟩ | ⟨-, L, rfl, hL⟩, rfl⟩
  · rw [vld_iff.2 hvld] at hbad
    cases hbad
  have hz := hL.zero hvld.sup0 hvld.need0
  by_cases h0 : (amR (k.reqs ++ [r])).sum - L = (amR (k.reqs ++ [r])).sum
  · (repeat (first | ((with_reducible refine Tr.step rfl ?_); (first | (refine xmQ (z := ?_)) | (refine xaQ (z := ?_)) | (refine xiQ (z := ?_)) | ((with_reducible refine Knd.pick ?_); (refine Exec.stab rfl (Stab.pick_td rfl (by first | (with_reducible assumption) | (with_reducible rfl) | (with_reducible exact (not_not_intro rfl)) | omega) rfl) rfl ?_)) | ((with_reducible refine Knd.extract ?_); (refine Exec.stab rfl (Stab.extract rfl rfl) rfl ?_)))) | (with_reducible first | apply Tr.next | apply Tr.seq | apply Tr.region | apply Tr.nil) | ((refine Tr.guard_y rfl rfl rfl (by first | (with_reducible assumption) | (with_reducible rfl) | (with_reducible exact (not_not_intro rfl)) | omega) ?_); (first | (refine xmQ (z := ?_)) | (refine xlQ (z := ?_)) | (refine xiQ (z := ?_)))) | (with_reducible refine Tr.ret ?_)))
    exact Tr.doneB (A' := [box b11 3 [.int .i64 (amR (k.reqs ++ [r])).sum], box b10 32 [.slice P2 (amR (k.reqs ++ [r])).length q2], box b9 32 [.slice P1 (amS k.sups).length q1], box b8 40 [.slice A8 (k.reqs ++ [r]).length c8], box b4 44 [.int .i64 k.known, .slice As k.sups.length cs, .slice Ar k.reqs.length cr, .slice Af k.fits.length cf, .slice Ad k.rds.length cd], box b3 38 ws]) [] (by first | exact .inl rfl | exact .inr rfl) rfl (by repeat (first | exact RVs.nil | (apply RVs.cons; (exact RV.tmp rfl)))) hm12 (List.Perm.refl _) ⟨rfl, true, by rw [decide_eq_true h0]; rfl, ⟨fun _ => hz.1 (by omega), fun _ => rfl⟩⟩
  · (repeat (first | ((with_reducible refine Tr.step rfl ?_); (first | (refine xmQ (z := ?_)) | (refine xaQ (z := ?_)) | (refine xiQ (z := ?_)) | ((with_reducible refine Knd.pick ?_); (refine Exec.stab rfl (Stab.pick_td rfl (by first | (with_reducible assumption) | (with_reducible rfl) | (with_reducible exact (not_not_intro rfl)) | omega) rfl) rfl ?_)) | ((with_reducible refine Knd.extract ?_); (refine Exec.stab rfl (Stab.extract rfl rfl) rfl ?_)))) | (with_reducible first | apply Tr.next | apply Tr.seq | apply Tr.region | apply Tr.nil) | ((refine Tr.guard_y rfl rfl rfl (by first | (with_reducible assumption) | (with_reducible rfl) | (with_reducible exact (not_not_intro rfl)) | omega) ?_); (first | (refine xmQ (z := ?_)) | (refine xlQ (z := ?_)) | (refine xiQ (z := ?_)))) | (with_reducible refine Tr.ret ?_)))
    exact Tr.doneB (A' := [box b11 3 [.int .i64 (amR (k.reqs ++ [r])).sum], box b10 32 [.slice P2 (amR (k.reqs ++ [r])).length q2], box b9 32 [.slice P1 (amS k.sups).length q1], box b8 40 [.slice A8 (k.reqs ++ [r]).length c8], box b4 44 [.int .i64 k.known, .slice As k.sups.length cs, .slice Ar k.reqs.length cr, .slice Af k.fits.length cf, .slice Ad k.rds.length cd], box b3 38 ws]) [] (by first | exact .inl rfl | exact .inr rfl) rfl (by repeat (first | exact RVs.nil | (apply RVs.cons; (exact RV.tmp rfl)))) hm12 (List.Perm.refl _) ⟨rfl, false, by rw [decide_eq_false h0]; rfl, ⟨fun h => (by cases h), fun h => absurd (by rw [hz.2 h]; omega) h0⟩⟩
noncomputable def exclB (w : Wd) (k : Bp) (r : Rq) : List Ky := exclF w k.known (readsF w k.sups (k.reqs ++ [r]))
/-- the facts that are named -/
noncomputable def factF (w : Wd) (k : Bp) (r : Rq) : List Ky := open Classical in if meetK w k r (exclB w k r) then cutK (meetK w k r) (exclB w k r).length (exclB w k r) else []
/-- what Facts answers -/
def FactsV (w : Wd) (k : Bp) (r : Rq) (v : Value) (M : Mem) : Prop :=
  (askE w k r ≠ 0 ∧ v = .tuple #[.slice none 0 0, .int .i64 (askE w k r)]) ∨
  (askE w k r = 0 ∧ okB w k ∧ Feas (pbW w k.known k.sups (k.reqs ++ [r])) ∧ v = .tuple #[.slice none 0 0, .int .i64 320]) ∨
  (askE w k r = 0 ∧ okB w k ∧ ¬ Feas (pbW w k.known k.sups (k.reqs ++ [r])) ∧ ∃ B c, v = .tuple #[.slice B (factF w k r).length c, .int .i64 0] ∧ SlOf 3 RKy M (.slice B (factF w k r).length c) (factF w k r))
theorem addK_len (l : List Ky) (y : Ky) : (addK l y).length ≤ l.length + 1 := by
  unfold addK
  split <;> simp
/-- the keys found so far -/
def exclT (w : Wd) (known : Int) (l : List Rd) (i : Nat) : List Ky := exclF w known (l.take i)
theorem exclT_no {w : Wd} {known : Int} {l : List Rd} {i : Nat} {y : Rd} (hy : l[i]? = some y) (h : refusedF w y known = false) : exclT w known l (i + 1) = exclT w known l i := by
  unfold exclT exclF
  rw [List.take_add_one, hy]
  simp [h]
theorem exclT_yes {w : Wd} {known : Int} {l : List Rd} {i : Nat} {y : Rd} (hy : l[i]? = some y) (h : refusedF w y known = true) : exclT w known l (i + 1) = addK (exclT w known l i) y.1 := by
  unfold exclT exclF
  rw [List.take_add_one, hy]
  simp [h, List.foldl_append]
theorem exclT_len {w : Wd} {known : Int} {l : List Rd} : ∀ i, (exclT w known l i).length ≤ i
  | 0 => by simp [exclT, exclF]
  | i + 1 => by
    cases hy : l[i]? with
    | none =>
      have : exclT w known l (i + 1) = exclT w known l i := by unfold exclT; rw [List.take_add_one, hy]; simp
      rw [this]
      exact Nat.le_succ_of_le (exclT_len i)
    | some y =>
      cases h : refusedF w y known with
      | false => rw [exclT_no hy h]; exact Nat.le_succ_of_le (exclT_len i)
      | true => rw [exclT_yes hy h]; exact Nat.le_trans (addK_len _ _) (Nat.succ_le_succ (exclT_len i))
theorem readsF_len {w : Wd} {s : List Sp} {r : List Rq} (h : okT s r) : (readsF w s r).length ≤ 4096 := by
  have h1 : ∀ (xs l : List Rd), (xs.foldl addNew l).length ≤ l.length + xs.length := by
    intro xs
    induction xs with
    | nil => intro l; simp
    | cons x xs ih =>
      intro l
      rw [List.foldl_cons]
      have := ih (addNew l x)
      have := addNew_len l x
      rw [List.length_cons]
      omega
  have h2 : ∀ s : List Sp, (s.flatMap fun x => looksR w x r).length ≤ s.length * 64 := by
    intro s
    induction s with
    | nil => simp
    | cons x s ih =>
      rw [List.flatMap_cons, List.length_append, List.length_cons, Nat.succ_mul]
      have : (looksR w x r).length ≤ r.length := by simp [looksR]; exact List.length_filter_le _ _
      have := h.1.2
      omega
  have := h1 (s.flatMap fun x => looksR w x r) []
  have := h2 s
  have := h.1.1
  unfold readsF
  have h64 : s.length * 64 ≤ 64 * 64 := Nat.mul_le_mul_right _ h.1.1
  simp only [List.length_nil, Nat.zero_add] at *
  omega
end Go.Proofs.Ytlifjajcmnkhfaa

/-
  Refusals: Facts, the walk.
  Conditions: none.
-/
namespace Go.Proofs.Ytlifjajcmnkhfaa
open Go Bf
attribute [local irreducible] Tr Exec Stab HasTy Go.Addr.add IntKind.wrap
theorem askE_zero {w : Wd} {k : Bp} {r : Rq} (h : askE w k r = 0) : okB w k ∧ r.no ∉ k.reqs.map (·.no) ∧ okT k.sups (k.reqs ++ [r]) := by
  unfold askE at h
  split at h
  · cases h
  · rename_i h1
    have h1 := Classical.not_not.1 h1
    split at h
    · cases h
    · rename_i h2
      split at h
      · cases h
      · rename_i h3
        rw [not_or] at h3
        exact ⟨h1, h2, (okT_app h1.2.1).2 ⟨Classical.not_not.1 h3.1, by omega⟩⟩
theorem hasKy_lend (M : Mem) (A : Option Addr) (c : Nat) (hc : c ≤ 9223372036854775807) (l : List Ky) (x : Ky) :
    Bf.Fn Try.prog 30 [.slice A l.length c, .agg #[.int .i64 x.1, .int .i64 x.2.1, .int .i64 x.2.2]] M [ownS 71 3 A l.length c (l.flatMap kyC)] (fun v M' A' => A' = [ownS 71 3 A l.length c (l.flatMap kyC)] ∧ M = M' ∧ v = .bool (decide (x ∈ l))) :=
  Fn.lend (rs := [ownS 71 3 A l.length c (l.flatMap kyC)]) (R := fun v => v = .bool (decide (x ∈ l))) (clone_ok _ _ _ _ _ _ (containsKy_fn M none 0 [] x (SlOf.nil _ _ _))) (fun M' _ hok =>
    containsKy_fn M' A c l x (SlOf.ofOwn (hok (ownS 71 3 A l.length c (l.flatMap kyC)) List.mem_cons_self) rfl hc (kyC_elems _ _)))
set_option maxHeartbeats 32000000 in
set_option maxRecDepth 20000 in
theorem facts_fn (M : Mem) (ws : List Value) (w : Wd) (hw : RWd M ws w) (hfl : w.facts.length ≤ 1000000) (v : Value) (k : Bp) (hk : RBp M v k) (r : Rq) :
    Fn0 Try.prog 14 [.agg ws.toArray, v, .agg #[.int .i64 r.no, .int .i64 r.item, .int .i64 r.cust, .int .i64 r.due, .int .i64 r.shelf, .int .i64 r.amount]] M (fun v M' => FactsV w k r v M') := by
  have h11 := hw.len
  have hk0 := hk
  obtain ⟨As, cs, Ar, cr, Af, cf, Ad, cd, rfl, h1, h2, h3, h4⟩ := hk
  refine Fn.introM Try.func14 rfl rfl Try.ntmps14 rfl fun E F => ?_
  (repeat (first | ((with_reducible refine Tr.step rfl ?_); (first | (refine xaQ (z := ?_)) | ((with_reducible refine Knd.load ?_); (first | (refine xwQ (z := ?_)) | (refine Exec.stab rfl (Stab.loadW rfl (tysOk.get rfl) rfl (by repeat (first | exact Has.here | apply Has.there)) (by assumption)) rfl ?_))) | ((with_reducible refine Knd.box ?_); (refine Exec.box rfl rfl (fun b => ?_))) | ((with_reducible refine Knd.alloc ?_); (refine Exec.alloc1 (tysOk.get rfl) rfl rfl rfl (fun b => ?_))))) | (with_reducible first | apply Tr.next | apply Tr.seq | apply Tr.region | apply Tr.nil)))
  rename_i b3 b4 b5
  generalize b = b6
  ((refine Tr.step rfl ?_)); refine Exec.call0 rfl (least_fn M ws w hw _ k hk0 r) rfl ?_
  rintro _ M1 hm1 (⟨hne, rfl⟩ | ⟨hask, hv, hF, rfl⟩ | ⟨hask, hv, hF, B, kk, rfl, -⟩)
  · (repeat (first | ((with_reducible refine Tr.step rfl ?_); (first | (refine xmQ (z := ?_)) | (refine xaQ (z := ?_)) | (refine xiQ (z := ?_)) | (refine xSQ (z := ?_)) | ((with_reducible refine Knd.extract ?_); (refine Exec.stab rfl (Stab.extract rfl rfl) rfl ?_)))) | (with_reducible first | apply Tr.next | apply Tr.seq | apply Tr.region | apply Tr.nil | apply Tr.ret | apply Tr.then_ret) | (refine Tr.cond_t rfl (by first | (with_reducible assumption) | (with_reducible rfl) | (with_reducible exact (not_not_intro rfl)) | omega) ?_)))
    (refine Tr.doneM [] rfl (by first | exact .inl rfl | exact .inr rfl) rfl (List.Perm.refl _) (by repeat (first | exact RVs.nil | (apply RVs.cons; (first | exact RV.tmp rfl | exact RV.cell (by rfl) (tysOk.get (by rfl)) (by rfl) (by repeat (first | exact Has.here | apply Has.there)))))) (by first | exact Mem.le.refl _ | assumption) (by exact ⟨[_, _, _, _], rfl⟩) ⟨rfl, ?_⟩)
    exact .inl ⟨hne, rfl⟩
  · (repeat (first | ((with_reducible refine Tr.step rfl ?_); (first | (refine xmQ (z := ?_)) | (refine xaQ (z := ?_)) | (refine xiQ (z := ?_)) | (refine xSQ (z := ?_)) | ((with_reducible refine Knd.extract ?_); (refine Exec.stab rfl (Stab.extract rfl rfl) rfl ?_)))) | (with_reducible first | apply Tr.next | apply Tr.seq | apply Tr.region | apply Tr.nil | apply Tr.ret | apply Tr.then_ret) | (refine Tr.cond_t rfl (by first | (with_reducible assumption) | (with_reducible rfl) | (with_reducible exact (not_not_intro rfl)) | omega) ?_)))
    (refine Tr.doneM [] rfl (by first | exact .inl rfl | exact .inr rfl) rfl (List.Perm.refl _) (by repeat (first | exact RVs.nil | (apply RVs.cons; (first | exact RV.tmp rfl | exact RV.cell (by rfl) (tysOk.get (by rfl)) (by rfl) (by repeat (first | exact Has.here | apply Has.there)))))) (by first | exact Mem.le.refl _ | assumption) (by exact ⟨[_, _, _, _], rfl⟩) ⟨rfl, ?_⟩)
    exact .inr (.inl ⟨hask, hv, hF, rfl⟩)
  obtain ⟨-, hno, hok⟩ := askE_zero hask
  have l64 := hv.2.1.1
  (repeat (first | ((with_reducible refine Tr.step rfl ?_); (first | (refine xmQ (z := ?_)) | (refine xaQ (z := ?_)) | (refine xiQ (z := ?_)) | ((with_reducible refine Knd.extract ?_); (refine Exec.stab rfl (Stab.extract rfl rfl) rfl ?_)))) | (with_reducible first | apply Tr.next | apply Tr.seq | apply Tr.region | apply Tr.nil | apply Tr.skip) | (refine Tr.cond_f rfl (by first | (with_reducible assumption) | (with_reducible rfl) | (with_reducible exact (not_not_intro rfl)) | omega) ?_)))
  refine Tr.cut (α := Nat × Option Addr × Nat × Mem) (fun y => ⟨104, [(8, .pointer (some ⟨y.1, 0, none⟩)), (3, .pointer (some ⟨b3, 0, none⟩)), (4, .pointer (some ⟨b4, 0, none⟩)), (6, .pointer (some ⟨b6, 0, none⟩))], [], y.2.2.2, box y.1 40 [.slice y.2.1 (k.reqs ++ [r]).length y.2.2.1] :: box b6 67 [.slice none 0 0] :: box b4 44 [.int .i64 k.known, .slice As k.sups.length cs, .slice Ar k.reqs.length cr, .slice Af k.fits.length cf, .slice Ad k.rds.length cd] :: box b3 38 ws :: ([] ++ F)⟩)
    (fun y => Mem.le M1 y.2.2.2 ∧ SlOf 6 RRqC y.2.2.2 (.slice y.2.1 (k.reqs ++ [r]).length y.2.2.1) (k.reqs ++ [r])) ?_ (fun y hy => ?_)
  · (((apply Tr.draw); (kernel_rfl)); (refine tkQ 0 (hB := by exact fun _ h => h) (s := by exact sfQ) (h := ?_)); (refine tkQ 3 (s := by exact swQ) (h := ?_)); (refine tkQ 1 (s := by exact slQ) (h := ?_)))
    ((refine TrM.start2 _ (PA.build1 4 [(33, .agg #[.int .i64 r.no, .int .i64 r.item, .int .i64 r.cust, .int .i64 r.due, .int .i64 r.shelf, .int .i64 r.amount])] rfl (by first | exact .inl rfl | exact .inr ⟨_, _, _, rfl, rfl, rfl⟩) rfl (tysOk.get rfl) rfl (tysOk.get rfl) rfl rfl rfl rfl rfl (by first | rfl | assumption) rfl) (by first | exact PA.alloc 6 rfl (tysOk.get rfl) rfl rfl | exact PA.alloc1 6 rfl (tysOk.get rfl) rfl rfl rfl) (by kernel_rfl) (by kernel_rfl) (by kernel_rfl) ?_); (refine TrM.eff 2 rfl (by kernel_rfl) (by first | exact .inl rfl | exact .inr ⟨_, _, _, rfl, rfl, rfl⟩) (by repeat (first | exact PendOk.nil | refine PendOk.cons rfl (by repeat (first | exact SubFr.nil | refine SubFr.cons rfl ?_)) ?_)) (by exact fun _ h => h) (by repeat (first | apply AppF.cons | exact AppF.nil | exact AppF.app)) (by repeat (first | apply AppF.cons | exact AppF.nil | exact AppF.app)) (fun Y X => ?_)))
    refine Exec.call (A := []) rfl (cloneRq_fn M1 Ar cr k.reqs (h2.mono RRqC.mono hm1) (by omega)) (List.Perm.refl _) rfl ?_
    rintro _ _ _ _ ⟨⟨B6, k6, rfl, hk6, rfl⟩, rfl⟩
    (refine ⟨_, _, (by repeat (first | apply App.cons | exact App.nil | exact App.app)), (by repeat (first | apply App.cons | exact App.nil | exact App.app)), rfl, (by first | exact Mem.le.refl _ | assumption), (by exact (Sub.mem (by repeat (first | exact Sub.refl | apply Sub.cons)))), ?_⟩)
    ((refine TrM.settle (by kernel_rfl) (by repeat (first | exact PendOk.nil | refine PendOk.cons rfl (by repeat (first | exact SubFr.nil | refine SubFr.cons rfl ?_)) ?_)) (by exact (Sub.mem (by repeat (first | exact Sub.refl | apply Sub.cons)))) (fun b => ?_)); dsimp only)
    ((refine TrM.eff 5 rfl (by kernel_rfl) (by first | exact .inl rfl | exact .inr ⟨_, _, _, rfl, rfl, rfl⟩) (by repeat (first | exact PendOk.nil | refine PendOk.cons rfl (by repeat (first | exact SubFr.nil | refine SubFr.cons rfl ?_)) ?_)) (by exact (Sub.mem (by repeat (first | exact Sub.refl | apply Sub.cons)))) (by repeat (first | apply AppF.cons | exact AppF.nil | exact AppF.app)) (by repeat (first | apply AppF.cons | exact AppF.nil | exact AppF.app)) (fun Y X => ?_)))
    refine Exec.append (news := rqC r) rfl rfl (tysOk.get rfl) rfl (tysOk.get rfl) rfl rfl rfl rfl (by repeat (first | exact Del.here | apply Del.there)) (Src.box (by repeat (first | exact Has.here | apply Has.there))) rfl (rqC_one _) (by omega) (by omega) rfl (fun A8 c8 hc8 => ?_)
    (refine ⟨_, _, (by repeat (first | apply App.cons | exact App.nil | exact App.app)), (by repeat (first | apply App.cons | exact App.nil | exact App.app)), rfl, (by first | exact Mem.le.refl _ | assumption), (by exact (Sub.mem (by repeat (first | exact Sub.refl | apply Sub.cons)))), ?_⟩)
    rw [show k.reqs.flatMap rqC ++ rqC r = (k.reqs ++ [r]).flatMap rqC by rw [List.flatMap_append]; simp, show k.reqs.length + 1 = (k.reqs ++ [r]).length by simp]
    refine TrM.publish (x := ownS 46 6 _ _ _ _) (by repeat (first | exact Del.here | apply Del.there)) (fun M8 hm8 hok8 => ?_)
    have hm8 : Mem.le M1 M8 := hm8
    have hR8 : SlOf 6 RRqC M8 (.slice A8 (k.reqs ++ [r]).length c8) (k.reqs ++ [r]) := SlOf.ofOwn hok8 rfl hc8 (rqC_elems _ _)
    ((refine TrM.settle (by kernel_rfl) (by repeat (first | exact PendOk.nil | refine PendOk.cons rfl (by repeat (first | exact SubFr.nil | refine SubFr.cons rfl ?_)) ?_)) (by exact (Sub.mem (by repeat (first | exact Sub.refl | apply Sub.cons)))) (fun b => ?_)); dsimp only; (refine TrM.fin ?_))
    ((refine TrA.eff 7 rfl (by kernel_rfl) (by first | exact .inl rfl | exact .inr ⟨_, _, _, rfl, rfl, rfl⟩) ?_); (((refine Knd.store ?_); ((refine xSQ (z := ?_))))); (refine ⟨(by first | exact Mem.le.refl _ | assumption), (by exact (Sub.mem (by repeat (first | exact Sub.refl | apply Sub.cons)))), ?_⟩); (refine TrA.done (by kernel_rfl) ?_))
    generalize b = b8
    refine gvQ (r := box b5 _ _) (k := ?_)
    refine gvQ (r := box _ 46 _) (k := ?_)
    refine ftQ (r := box b8 _ _) (k := ?_)
    exact Tr.land (b8, A8, c8, M8) ⟨hm8, hR8⟩ hsQ
  obtain ⟨b8, A8, c8, M8⟩ := y
  obtain ⟨hm8, hR8⟩ := hy
  dsimp only at hm8 hR8 ⊢
  have hm08 := hm1.trans hm8
  (repeat (first | ((with_reducible refine Tr.step rfl ?_); (first | (refine xlQ (z := ?_)) | (refine xfQ (z := ?_)))) | (with_reducible first | apply Tr.next | apply Tr.seq | apply Tr.region)))
  ((refine Tr.step rfl ?_)); refine Exec.call0 rfl (ramounts_fn M8 k.sups (k.reqs ++ [r]) As A8 cs c8 (h1.mono RSpC.mono hm08) hR8 (by omega) (by simp; omega)) rfl ?_
  rintro _ M4 hm4 ⟨P1, q1, P2, q2, rfl, hI1, hI2⟩
  have hm04 := hm08.trans hm4
  (repeat (first | ((with_reducible refine Tr.step rfl ?_); (first | (refine xmQ (z := ?_)) | (refine xlQ (z := ?_)) | (refine xnQ (z := ?_)) | (refine xSQ (z := ?_)) | ((with_reducible refine Knd.alloc ?_); (refine Exec.alloc1 (tysOk.get rfl) rfl rfl rfl (fun b => ?_))) | ((with_reducible refine Knd.extract ?_); (refine Exec.stab rfl (Stab.extract rfl rfl) rfl ?_)))) | (with_reducible first | apply Tr.next | apply Tr.seq | apply Tr.region | apply Tr.nil | apply Tr.block)))
  rename_i b9 b10
  generalize b = b11
  refine ftQ (r := box b6 _ _) (k := ?_)
  refine ftQ (r := box b3 _ _) (k := ?_)
  refine ftQ (r := box b4 _ _) (k := ?_)
  refine ftQ (r := box b8 _ _) (k := ?_)
  refine ftQ (r := box b9 _ _) (k := ?_)
  refine ftQ (r := box b10 _ _) (k := ?_)
  refine ftQ (r := box b11 _ _) (k := ?_)
  have hvld := okT_vld (w := w) (known := k.known) hok
  have hrl := hvld.ln
  refine Tr.loop (α := Nat) (fun i => ⟨104, [(45, .int .i64 (i : Int)), (44, .int .i64 ((amR (k.reqs ++ [r])).length : Int)), (43, .slice P2 (amR (k.reqs ++ [r])).length q2), (3, .pointer (some ⟨b3, 0, none⟩)), (4, .pointer (some ⟨b4, 0, none⟩)), (6, .pointer (some ⟨b6, 0, none⟩)), (8, .pointer (some ⟨b8, 0, none⟩)), (9, .pointer (some ⟨b9, 0, none⟩)), (10, .pointer (some ⟨b10, 0, none⟩)), (11, .pointer (some ⟨b11, 0, none⟩))], [], M4, box b11 3 [.int .i64 ((amR (k.reqs ++ [r])).take i).sum] :: box b10 32 [.slice P2 (amR (k.reqs ++ [r])).length q2] :: box b9 32 [.slice P1 (amS k.sups).length q1] :: box b8 40 [.slice A8 (k.reqs ++ [r]).length c8] :: box b4 44 [.int .i64 k.known, .slice As k.sups.length cs, .slice Ar k.reqs.length cr, .slice Af k.fits.length cf, .slice Ad k.rds.length cd] :: box b3 38 ws :: box b6 67 [.slice none 0 0] :: ([] ++ F)⟩)
    (fun i => i ≤ (amR (k.reqs ++ [r])).length) (fun i => (amR (k.reqs ++ [r])).length - i) 0 (Nat.zero_le _) hsQ (fun i hi => ?_)
  by_cases hlt : i < (amR (k.reqs ++ [r])).length
  · obtain ⟨x, hx⟩ := get_of_lt hlt
    obtain ⟨hA, hat⟩ := hI2.at hx
    have e := sum_take hx
    have e1 := sum_bound (l := (amR (k.reqs ++ [r])).take i) (n := 64) (fun y hy => hvld.rn y (List.mem_of_mem_take hy)) (by simp; omega)
    have e2 := hvld.rn x (List.mem_of_getElem? hx)
    (repeat (first | ((with_reducible refine Tr.step rfl ?_); (first | (refine xmQ (z := ?_)) | (refine xaQ (z := ?_)) | ((with_reducible refine Knd.load ?_); (first | (refine xlQ (z := ?_)) | (refine xMQ (z := ?_)))) | ((with_reducible refine Knd.binOp ?_); (first | (refine xdQ (z := ?_)) | (refine xiQ (z := ?_)))) | (refine xSQ (z := ?_)) | (refine xxQ (z := ?_)))) | (with_reducible first | apply Tr.next | apply Tr.seq | apply Tr.region | apply Tr.nil | apply Tr.skip | apply Tr.block | apply Tr.in_normal) | (refine Tr.cond_t rfl (by first | (with_reducible assumption) | (with_reducible rfl) | (with_reducible exact (not_not_intro rfl)) | omega) ?_)))
    rw [← e]
    exact Tr.again (i + 1) (by omega) (by omega) hsQ
  have ei : i = (amR (k.reqs ++ [r])).length := by omega
  subst ei
  rw [List.take_length]
  have hw4 := hw.mono hm04
  have hR4 := hR8.mono RRqC.mono hm4
  (repeat (first | ((with_reducible refine Tr.step rfl ?_); (first | ((with_reducible refine Knd.load ?_); (first | (refine xlQ (z := ?_)) | (refine Exec.stab rfl (Stab.loadW rfl (tysOk.get rfl) rfl (by repeat (first | exact Has.here | apply Has.there)) (by assumption)) rfl ?_))) | (refine xfQ (z := ?_)) | (refine xiQ (z := ?_)))) | (with_reducible first | apply Tr.next | apply Tr.seq | apply Tr.region | apply Tr.nil | apply Tr.exit | apply Tr.then_exit) | ((with_reducible refine Tr.in_exit ?_ ?_); (exact rfl)) | (refine Tr.cond_f rfl (by first | (with_reducible assumption) | (with_reducible rfl) | (with_reducible exact (not_not_intro rfl)) | omega) ?_)))
  ((refine Tr.step rfl ?_)); refine Exec.call0 rfl (table_fn M4 ws w hw4 As A8 cs c8 k.sups (k.reqs ++ [r]) k.known (h1.mono RSpC.mono hm04) hR4) rfl ?_
  rintro _ M5 hm5 (⟨hnk, -⟩ | ⟨-, A5, c5, B5, k5, rfl, hf, hrd⟩)
  · exact absurd hok hnk
  have hm05 := hm04.trans hm5
  have hm45 := hm4.trans hm5
  have hw5 := hw.mono hm05
  (repeat (first | ((with_reducible refine Tr.step rfl ?_); (first | (refine xmQ (z := ?_)) | (refine xaQ (z := ?_)) | ((with_reducible refine Knd.load ?_); (first | (refine xlQ (z := ?_)) | (refine Exec.stab rfl (Stab.loadW rfl (tysOk.get rfl) rfl (by repeat (first | exact Has.here | apply Has.there)) (by assumption)) rfl ?_))) | (refine xfQ (z := ?_)) | (refine xiQ (z := ?_)) | ((with_reducible refine Knd.extract ?_); (refine Exec.stab rfl (Stab.extract rfl rfl) rfl ?_)))) | (with_reducible first | apply Tr.next | apply Tr.seq | apply Tr.region | apply Tr.nil | apply Tr.skip) | (refine Tr.cond_f rfl (by first | (with_reducible assumption) | (with_reducible rfl) | (with_reducible exact (not_not_intro rfl)) | omega) ?_)))
  refine ftQ (r := box b6 _ _) (k := ?_)
  refine Tr.own_nil 71 3 ?_
  ((refine Tr.step rfl ?_))
  refine Exec.call (A := []) rfl (excluding_fn M5 ws B5 (readsF w k.sups (k.reqs ++ [r])).length k5 k.known) (List.Perm.refl _) rfl ?_
  rintro _ _ _ _ ⟨b12, b13, b14, rfl, rfl, rfl⟩
  (repeat (first | (with_reducible first | apply Tr.next | apply Tr.nil | apply Tr.block)))
  have hrdl := readsF_len (w := w) hok
  refine Tr.rangeFunc' (A := [box b14 3 [.int .i64 k.known], box b13 42 [.slice B5 (readsF w k.sups (k.reqs ++ [r])).length k5], box b12 38 ws, ownS 71 3 none 0 0 [], box b6 67 [.slice none 0 0]])
    (Rf := fun o M' A'' => o = none ∧ M5 = M' ∧ ∃ C cc, A'' = [ownS 71 3 C (exclB w k r).length cc ((exclB w k r).flatMap kyC), box b6 67 [.slice C (exclB w k r).length cc]] ∧ cc ≤ 9223372036854775807) rfl (List.Perm.refl _) (fun lab dd lp p1 p2 p3 p4 p5 hfit => ?_) (fun dd M' A'' hm => ⟨?_, ?_⟩)
  · refine Bf.Fn.mono (excluding1_fn M5 ws w hw5 B5 k5 lab b12 b13 b14 (readsF w k.sups (k.reqs ++ [r])) k.known hrd
      (fun i A' => ∃ C cc, A' = [loopR lab lp, defR dd, ownS 71 3 C (exclT w k.known (readsF w k.sups (k.reqs ++ [r])) i).length cc ((exclT w k.known (readsF w k.sups (k.reqs ++ [r])) i).flatMap kyC), box b6 67 [.slice C (exclT w k.known (readsF w k.sups (k.reqs ++ [r])) i).length cc]] ∧ cc ≤ 9223372036854775807)
      _ _ ⟨none, 0, rfl, by omega⟩ (List.perm_append_comm_assoc [_, _, _] [_, _] [_, _]) ?_ ?_) (fun v M' A' hm hR => ?_)
    · rintro i y A' hyi href ⟨C, cc, rfl, hcc⟩
      rw [exclT_no hyi href]
      exact ⟨C, cc, rfl, hcc⟩
    · rintro i y A' hyi href ⟨C, cc, rfl, hcc⟩
      rw [exclT_yes hyi href]
      have hel := exclT_len (w := w) (known := k.known) (l := readsF w k.sups (k.reqs ++ [r])) i
      have hil := (List.getElem?_eq_some_iff.1 hyi).1
      generalize (exclT w k.known (readsF w k.sups (k.reqs ++ [r])) i) = X at hel ⊢
      have e : ({ lp with state := .ready, pending := none } : Loop) = lp := by cases lp; simp_all
      refine Yl.intro (ps := [72]) p3 rfl (by simp) hfit (by repeat (first | exact Has.here | apply Has.there)) (fun E F => ?_)
      rw [p4, p5]
      (repeat (first | ((with_reducible refine Tr.step rfl ?_); (first | ((with_reducible refine Knd.store ?_); (refine Exec.storeW rfl rfl (tysOk.get rfl) (by repeat (first | exact Upd.here | apply Upd.there)) rfl rfl (by repeat (first | (with_reducible assumption) | exact AllOne.nil | exact AllOne.bytes _ | refine AllOne.cons (by first | rfl | assumption) ?_)) ?_)) | ((with_reducible refine Knd.alloc ?_); (refine Exec.alloc (tysOk.get rfl) rfl rfl (fun b => ?_))))) | (with_reducible first | apply Tr.next | apply Tr.region | apply Tr.nil)))
      refine Tr.begin (by repeat (first | exact Upd.here | apply Upd.there)) p1 ?_
      (repeat (first | ((with_reducible refine Tr.step rfl ?_); (with_reducible refine Knd.load ?_); (first | (refine xlQ (z := ?_)) | (refine xwQ (z := ?_)))) | (with_reducible first | apply Tr.seq | apply Tr.region | apply Tr.block)))
      ((refine Tr.step rfl ?_))
      refine Exec.call (A := [ownS 71 3 C X.length cc (X.flatMap kyC)]) rfl (hasKy_lend M5 C cc hcc X y.1) (take1 (by repeat (first | exact Del.here | apply Del.there))) rfl ?_
      rintro _ _ _ _ ⟨rfl, rfl, rfl⟩
      by_cases hin : y.1 ∈ X
      · rw [decide_eq_true hin]
        (repeat (first | ((with_reducible refine Tr.step rfl ?_); (with_reducible refine Knd.unOp ?_); (refine Exec.stab rfl (Stab.not rfl) rfl ?_)) | (with_reducible first | apply Tr.next | apply Tr.nil | apply Tr.skip | apply Tr.in_normal) | (refine Tr.cond_bf rfl (by first | (with_reducible rfl) | (with_reducible assumption) | (with_reducible exact Bool.not_true) | (with_reducible exact Bool.not_false)) ?_)))
        refine gvQ (r := box _ 71 _) (k := ?_)
        refine ftQ (r := defR dd) (k := ?_)
        refine ftQ (r := loopR lab _) (k := ?_)
        refine Tr.round_normal (A' := [loopR lab { lp with state := .ready, pending := none }, defR dd, ownS 71 3 C X.length cc (X.flatMap kyC), box b6 67 [.slice C X.length cc]]) (by repeat (first | exact Upd.here | apply Upd.there)) DropL.refl (Mem.le.refl _) ⟨rfl, ⟨C, cc, ?_, hcc⟩, rfl⟩
        rw [e, addK, if_pos hin]
      · rw [decide_eq_false hin]
        (repeat (first | ((with_reducible refine Tr.step rfl ?_); (first | ((with_reducible refine Knd.load ?_); (first | (refine xlQ (z := ?_)) | (refine xwQ (z := ?_)))) | ((with_reducible refine Knd.unOp ?_); (refine Exec.stab rfl (Stab.not rfl) rfl ?_)) | ((with_reducible refine Knd.buildSlice ?_); (refine Exec.buildSlice (tysOk.get rfl) rfl (tysOk.get rfl) rfl rfl rfl rfl rfl (by repeat (first | exact BuildP.nil | ((apply BuildP.one); (rfl); (rfl); (first | rfl | assumption); (repeat (first | exact SetL.z | apply SetL.s))) | ((apply BuildP.many); (rfl); (rfl); (rfl); (rfl); (repeat (first | exact PutL.nil | ((apply PutL.cons); (repeat (first | exact SetL.z | apply SetL.s)))))))) rfl (fun b => ?_))))) | (with_reducible first | apply Tr.next | apply Tr.region | apply Tr.nil) | (refine Tr.cond_bt rfl (by first | (with_reducible rfl) | (with_reducible assumption) | (with_reducible exact Bool.not_true) | (with_reducible exact Bool.not_false)) ?_)))
        ((refine Tr.step rfl ?_))
        refine Exec.append (news := kyC y.1) rfl rfl (tysOk.get rfl) rfl (tysOk.get rfl) rfl rfl rfl rfl (by repeat (first | exact Del.here | apply Del.there)) (Src.box (by repeat (first | exact Has.here | apply Has.there))) rfl (kyC_one _) (by omega) (by omega) rfl (fun C2 cc2 hcc2 => ?_)
        refine gvQ (r := box _ 71 _) (k := ?_)
        have hadd : addK X y.1 = X ++ [y.1] := by rw [addK, if_neg hin]
        rw [show X.flatMap kyC ++ kyC y.1 = (addK X y.1).flatMap kyC by rw [hadd, List.flatMap_append]; simp, show X.length + 1 = (addK X y.1).length by rw [hadd]; simp]
        (repeat (first | ((with_reducible refine Tr.step rfl ?_); (with_reducible refine Knd.store ?_); (refine xSQ (z := ?_))) | (with_reducible first | apply Tr.nil | apply Tr.in_normal)))
        refine gvQ (r := box _ 71 _) (k := ?_)
        refine ftQ (r := ownS 71 3 C2 _ _ _) (k := ?_)
        refine ftQ (r := defR dd) (k := ?_)
        refine ftQ (r := loopR lab _) (k := ?_)
        refine Tr.round_normal (A' := [loopR lab { lp with state := .ready, pending := none }, defR dd, ownS 71 3 C2 (addK X y.1).length cc2 ((addK X y.1).flatMap kyC), box b6 67 [.slice C2 (addK X y.1).length cc2]]) (by repeat (first | exact Upd.here | apply Upd.there)) DropL.refl (Mem.le.refl _) ⟨rfl, ⟨C2, cc2, ?_, hcc2⟩, rfl⟩
        rw [e]
    · obtain ⟨⟨C, cc, rfl, hcc⟩, rfl⟩ := hR
      have hex : exclT w k.known (readsF w k.sups (k.reqs ++ [r])) (readsF w k.sups (k.reqs ++ [r])).length = exclB w k r := by rw [exclT, List.take_length]; rfl
      rw [hex]
      exact ⟨lp, _, rfl, by rw [p1]; decide, p2, rfl, C, cc, rfl, hcc⟩
  rotate_left
  · rintro c ⟨h, -⟩
    cases h
  rintro ⟨-, rfl, C, cc, rfl, hcc⟩
  have hexl : (exclB w k r).length ≤ 4096 := by
    have := exclT_len (w := w) (known := k.known) (l := readsF w k.sups (k.reqs ++ [r])) (readsF w k.sups (k.reqs ++ [r])).length
    rw [exclT, List.take_length] at this
    unfold exclB
    omega
  refine pbQ (r := ownS 71 3 _ _ _ _) (k := fun M6 hm6 hok6 => ?_)
  have hC : SlOf 3 RKy M6 (.slice C (exclB w k r).length cc) (exclB w k r) := SlOf.ofOwn hok6 rfl hcc (kyC_elems _ _)
  have hm06 := hm05.trans hm6
  have hm46 := hm5.trans hm6
  have hf1 : ∀ (M' : Mem), Mem.le M6 M' → ∀ (A : Option Addr) (c : Nat) (ks : List Ky), SlOf 3 RKy M' (.slice A ks.length c) ks → Bf.Fn Try.prog 31 ([.slice A ks.length c] ++ [.pointer (some ⟨b3, 0, none⟩), .pointer (some ⟨b4, 0, none⟩), .pointer (some ⟨b8, 0, none⟩), .pointer (some ⟨b9, 0, none⟩), .pointer (some ⟨b10, 0, none⟩), .pointer (some ⟨b11, 0, none⟩)]) M' [box b11 3 [.int .i64 (amR (k.reqs ++ [r])).sum], box b10 32 [.slice P2 (amR (k.reqs ++ [r])).length q2], box b9 32 [.slice P1 (amS k.sups).length q1], box b8 40 [.slice A8 (k.reqs ++ [r]).length c8], box b4 44 [.int .i64 k.known, .slice As k.sups.length cs, .slice Ar k.reqs.length cr, .slice Af k.fits.length cf, .slice Ad k.rds.length cd], box b3 38 ws] (fun v _ A' => A' = [box b11 3 [.int .i64 (amR (k.reqs ++ [r])).sum], box b10 32 [.slice P2 (amR (k.reqs ++ [r])).length q2], box b9 32 [.slice P1 (amS k.sups).length q1], box b8 40 [.slice A8 (k.reqs ++ [r]).length c8], box b4 44 [.int .i64 k.known, .slice As k.sups.length cs, .slice Ar k.reqs.length cr, .slice Af k.fits.length cf, .slice Ad k.rds.length cd], box b3 38 ws] ∧ ∃ p : Bool, v = .bool p ∧ (p = true ↔ meetK w k r ks)) := fun M' hm A c ks hks =>
    facts1_fn M' ws w (hw.mono (hm06.trans hm)) hfl k As Ar Af Ad cs cr cf cd (h1.mono RSpC.mono (hm06.trans hm)) (h2.mono RRqC.mono (hm06.trans hm)) (h3.mono RRowB.mono (hm06.trans hm)) (h4.mono RRd.mono (hm06.trans hm)) r hok b3 b4 b8 b9 b10 b11 P1 P2 A8 q1 q2 c8 (hR4.mono RRqC.mono (hm46.trans hm)) (hI1.mono RI.mono (hm46.trans hm)) (hI2.mono RI.mono (hm46.trans hm)) A c ks hks
  (repeat (first | ((with_reducible refine Tr.step rfl ?_); (first | (refine xmQ (z := ?_)) | (refine xaQ (z := ?_)) | (refine xlQ (z := ?_)) | ((with_reducible refine Knd.makeFunc ?_); (refine Exec.stab rfl (Stab.makeFunc rfl rfl) rfl ?_)))) | (with_reducible first | apply Tr.next | apply Tr.seq | apply Tr.region | apply Tr.nil | apply Tr.in_normal)))
  ((refine Tr.step rfl ?_))
  refine Exec.callv (first := []) (cap := [.pointer (some ⟨b3, 0, none⟩), .pointer (some ⟨b4, 0, none⟩), .pointer (some ⟨b8, 0, none⟩), .pointer (some ⟨b9, 0, none⟩), .pointer (some ⟨b10, 0, none⟩), .pointer (some ⟨b11, 0, none⟩)]) (A := [box b11 3 [.int .i64 (amR (k.reqs ++ [r])).sum], box b10 32 [.slice P2 (amR (k.reqs ++ [r])).length q2], box b9 32 [.slice P1 (amS k.sups).length q1], box b8 40 [.slice A8 (k.reqs ++ [r]).length c8], box b4 44 [.int .i64 k.known, .slice As k.sups.length cs, .slice Ar k.reqs.length cr, .slice Af k.fits.length cf, .slice Ad k.rds.length cd], box b3 38 ws]) rfl rfl (hf1 M6 (Mem.le.refl _) C cc (exclB w k r) hC) (take6 (by repeat (first | exact Del.here | apply Del.there)) (by repeat (first | exact Del.here | apply Del.there)) (by repeat (first | exact Del.here | apply Del.there)) (by repeat (first | exact Del.here | apply Del.there)) (by repeat (first | exact Del.here | apply Del.there)) (by repeat (first | exact Del.here | apply Del.there))) rfl ?_
  rintro _ M7 _ hm7 ⟨rfl, p, rfl, hp⟩
  have hm07 := hm06.trans hm7
  cases p with
  | false =>
    (repeat (first | ((with_reducible refine Tr.step rfl ?_); (first | (refine xaQ (z := ?_)) | ((with_reducible refine Knd.unOp ?_); (refine Exec.stab rfl (Stab.not rfl) rfl ?_)) | (refine xSQ (z := ?_)))) | (with_reducible first | apply Tr.next | apply Tr.seq | apply Tr.region | apply Tr.nil | apply Tr.ret | apply Tr.then_ret) | (refine Tr.cond_bt rfl (by first | (with_reducible rfl) | (with_reducible assumption) | (with_reducible exact Bool.not_true) | (with_reducible exact Bool.not_false)) ?_)))
    refine ftQ (r := defR dd) (k := ?_)
    (refine Tr.doneM [_] rfl (by first | exact .inl rfl | exact .inr rfl) rfl (List.Perm.refl _) (by repeat (first | exact RVs.nil | (apply RVs.cons; (first | exact RV.tmp rfl | exact RV.cell (by rfl) (tysOk.get (by rfl)) (by rfl) (by repeat (first | exact Has.here | apply Has.there)))))) (by first | exact Mem.le.refl _ | assumption) (by exact ⟨[_, _, _, _, _, _, _], rfl⟩) ⟨rfl, ?_⟩)
    have hfa : factF w k r = [] := if_neg (fun h => by have := hp.2 h; cases this)
    refine .inr (.inr ⟨hask, hv, hF, none, 0, ?_⟩)
    rw [hfa]
    exact ⟨rfl, SlOf.nil _ _ _⟩
  | true =>
  have hfa : factF w k r = cutK (meetK w k r) (exclB w k r).length (exclB w k r) := if_pos (hp.1 rfl)
  (repeat (first | ((with_reducible refine Tr.step rfl ?_); (first | (refine xaQ (z := ?_)) | (refine xlQ (z := ?_)) | (refine xnQ (z := ?_)) | ((with_reducible refine Knd.binOp ?_); (refine Exec.stab rfl (Stab.subi rfl rfl (by omega)) rfl ?_)) | ((with_reducible refine Knd.unOp ?_); (refine Exec.stab rfl (Stab.not rfl) rfl ?_)))) | (with_reducible first | apply Tr.next | apply Tr.seq | apply Tr.region | apply Tr.nil | apply Tr.skip | apply Tr.block) | (refine Tr.cond_bf rfl (by first | (with_reducible rfl) | (with_reducible assumption) | (with_reducible exact Bool.not_true) | (with_reducible exact Bool.not_false)) ?_)))
  simp only [List.cons_append, List.nil_append]
  have hfl1 := hexl
  refine Tr.loop (α := Nat × List Ky × Option Addr × Nat × Mem) (fun y => ⟨104, [(18, .int .i64 ((y.1 : Int) - 1)), (17, .func (.func 31) #[] [.pointer (some ⟨b3, 0, none⟩), .pointer (some ⟨b4, 0, none⟩), .pointer (some ⟨b8, 0, none⟩), .pointer (some ⟨b9, 0, none⟩), .pointer (some ⟨b10, 0, none⟩), .pointer (some ⟨b11, 0, none⟩)].toArray), (6, .pointer (some ⟨b6, 0, none⟩))], [coll dd], y.2.2.2.2, box b11 3 [.int .i64 (amR (k.reqs ++ [r])).sum] :: box b10 32 [.slice P2 (amR (k.reqs ++ [r])).length q2] :: box b9 32 [.slice P1 (amS k.sups).length q1] :: box b8 40 [.slice A8 (k.reqs ++ [r]).length c8] :: box b4 44 [.int .i64 k.known, .slice As k.sups.length cs, .slice Ar k.reqs.length cr, .slice Af k.fits.length cf, .slice Ad k.rds.length cd] :: box b3 38 ws :: defR dd :: box b6 67 [.slice y.2.2.1 y.2.1.length y.2.2.2.1] :: ([] ++ F)⟩)
    (fun y => y.1 ≤ y.2.1.length ∧ y.2.1.length ≤ 4096 ∧ Mem.le M7 y.2.2.2.2 ∧ SlOf 3 RKy y.2.2.2.2 (.slice y.2.2.1 y.2.1.length y.2.2.2.1) y.2.1 ∧ cutK (meetK w k r) y.1 y.2.1 = factF w k r) (fun y => y.1) ((exclB w k r).length, exclB w k r, C, cc, M7) ⟨Nat.le_refl _, hexl, Mem.le.refl _, hC.mono RKy.mono hm7, hfa.symm⟩ hsQ (fun y hy => ?_)
  obtain ⟨n, l, C, cc, M8'⟩ := y
  obtain ⟨hn, hll, hm8', hl, hcut⟩ := hy
  simp only at hn hll hm8' hl hcut
  dsimp only
  cases n with
  | zero =>
    have hcut : l = factF w k r := hcut
    (repeat (first | ((with_reducible refine Tr.step rfl ?_); (first | (refine xmQ (z := ?_)) | (refine xaQ (z := ?_)) | (refine xlQ (z := ?_)) | (refine xiQ (z := ?_)) | (refine xSQ (z := ?_)))) | (with_reducible first | apply Tr.next | apply Tr.seq | apply Tr.region | apply Tr.nil | apply Tr.exit | apply Tr.ret | apply Tr.then_exit) | ((with_reducible refine Tr.in_exit ?_ ?_); (exact rfl)) | (refine Tr.cond_f rfl (by first | (with_reducible assumption) | (with_reducible rfl) | (with_reducible exact (not_not_intro rfl)) | omega) ?_)))
    refine ftQ (r := defR dd) (k := ?_)
    have hm09 := hm07.trans hm8'
    (refine Tr.doneM [_] rfl (by first | exact .inl rfl | exact .inr rfl) rfl (List.Perm.refl _) (by repeat (first | exact RVs.nil | (apply RVs.cons; (first | exact RV.tmp rfl | exact RV.cell (by rfl) (tysOk.get (by rfl)) (by rfl) (by repeat (first | exact Has.here | apply Has.there)))))) (by first | exact Mem.le.refl _ | assumption) (by exact ⟨[_, _, _, _, _, _, _], rfl⟩) ⟨rfl, ?_⟩)
    rw [hcut] at hl
    exact .inr (.inr ⟨hask, hv, hF, C, cc, by rw [← hcut]; rfl, hl⟩)
  | succ m =>
    have e : ((m + 1 : Nat) : Int) - 1 = m := by omega
    rw [e]
    (repeat (first | ((with_reducible refine Tr.step rfl ?_); (first | (refine xmQ (z := ?_)) | (refine xlQ (z := ?_)) | (refine xiQ (z := ?_)))) | (with_reducible first | apply Tr.next | apply Tr.seq | apply Tr.region | apply Tr.nil | apply Tr.skip | apply Tr.block) | (refine Tr.cond_t rfl (by first | (with_reducible assumption) | (with_reducible rfl) | (with_reducible exact (not_not_intro rfl)) | omega) ?_)))
    ((refine Tr.step rfl ?_))
    refine Exec.call (A := []) rfl (cloneKy_fn M8' C cc l hl (by omega)) (List.Perm.refl _) rfl ?_
    rintro _ _ _ _ ⟨⟨G, gc, rfl, hgc, rfl⟩, rfl⟩
    (repeat (((with_reducible refine Tr.step rfl ?_); (first | (refine xmQ (z := ?_)) | (refine xdQ (z := ?_))))))
    ((refine Tr.step rfl ?_))
    refine Exec.call (A := [ownS 71 3 G l.length gc (l.flatMap kyC)]) rfl (deleteKy_own M8' G gc l m (by omega) (by omega) hgc) (take1 (by repeat (first | exact Del.here | apply Del.there))) rfl ?_
    rintro _ _ _ _ ⟨rfl, rfl, rfl⟩
    have hel : (l.eraseIdx m).length = l.length - 1 := by rw [List.length_eraseIdx, if_pos (by omega)]
    rw [← hel]
    (repeat (first | ((with_reducible refine Tr.step rfl ?_); (first | (refine xmQ (z := ?_)) | (refine xaQ (z := ?_)))) | (with_reducible first | apply Tr.next | apply Tr.seq | apply Tr.region | apply Tr.nil)))
    refine pbQ (r := ownS 71 3 G _ _ _) (k := fun M9 hm9 hok9 => ?_)
    have hG : SlOf 3 RKy M9 (.slice G (l.eraseIdx m).length gc) (l.eraseIdx m) := SlOf.ofOwn hok9 rfl hgc (kyC_elems _ _)
    have hm79 := hm8'.trans hm9
    ((refine Tr.step rfl ?_))
    refine Exec.callv (first := []) (cap := [.pointer (some ⟨b3, 0, none⟩), .pointer (some ⟨b4, 0, none⟩), .pointer (some ⟨b8, 0, none⟩), .pointer (some ⟨b9, 0, none⟩), .pointer (some ⟨b10, 0, none⟩), .pointer (some ⟨b11, 0, none⟩)]) (A := [box b11 3 [.int .i64 (amR (k.reqs ++ [r])).sum], box b10 32 [.slice P2 (amR (k.reqs ++ [r])).length q2], box b9 32 [.slice P1 (amS k.sups).length q1], box b8 40 [.slice A8 (k.reqs ++ [r]).length c8], box b4 44 [.int .i64 k.known, .slice As k.sups.length cs, .slice Ar k.reqs.length cr, .slice Af k.fits.length cf, .slice Ad k.rds.length cd], box b3 38 ws]) rfl rfl (hf1 M9 (hm7.trans hm79) G gc (l.eraseIdx m) hG) (take6 (by repeat (first | exact Del.here | apply Del.there)) (by repeat (first | exact Del.here | apply Del.there)) (by repeat (first | exact Del.here | apply Del.there)) (by repeat (first | exact Del.here | apply Del.there)) (by repeat (first | exact Del.here | apply Del.there)) (by repeat (first | exact Del.here | apply Del.there))) rfl ?_
    rintro _ M10 _ hm10 ⟨rfl, p2, rfl, hp2⟩
    simp only [List.cons_append, List.nil_append]
    have hcut2 : cutK (meetK w k r) m (open Classical in if meetK w k r (l.eraseIdx m) then l.eraseIdx m else l) = factF w k r := hcut
    cases p2 with
    | true =>
      rw [if_pos (hp2.1 rfl)] at hcut2
      (repeat (first | ((with_reducible refine Tr.step rfl ?_); (first | (refine xmQ (z := ?_)) | (refine xaQ (z := ?_)) | ((with_reducible refine Knd.binOp ?_); (refine Exec.stab rfl (Stab.subi rfl rfl (by omega)) rfl ?_)) | (refine xSQ (z := ?_)))) | (with_reducible first | apply Tr.next | apply Tr.region | apply Tr.nil | apply Tr.in_normal) | (refine Tr.cond_bt rfl (by first | (with_reducible rfl) | (with_reducible assumption) | (with_reducible exact Bool.not_true) | (with_reducible exact Bool.not_false)) ?_)))
      refine Tr.again (m, l.eraseIdx m, G, gc, M10) ⟨by simp only; omega, by simp only; omega, hm79.trans hm10, hG.mono RKy.mono hm10, hcut2⟩ (by simp only; omega) hsQ
    | false =>
      rw [if_neg (fun h => by have := hp2.2 h; cases this)] at hcut2
      (repeat (first | ((with_reducible refine Tr.step rfl ?_); (first | (refine xmQ (z := ?_)) | (refine xaQ (z := ?_)) | ((with_reducible refine Knd.binOp ?_); (refine Exec.stab rfl (Stab.subi rfl rfl (by omega)) rfl ?_)))) | (with_reducible first | apply Tr.next | apply Tr.region | apply Tr.nil | apply Tr.skip | apply Tr.in_normal) | (refine Tr.cond_bf rfl (by first | (with_reducible rfl) | (with_reducible assumption) | (with_reducible exact Bool.not_true) | (with_reducible exact Bool.not_false)) ?_)))
      refine Tr.again (m, l, C, cc, M10) ⟨by simp only; omega, hll, hm79.trans hm10, hl.mono RKy.mono (hm9.trans hm10), hcut2⟩ (by simp only; omega) hsQ
end Go.Proofs.Ytlifjajcmnkhfaa

/-
  Refusals: books that are small, lists that are equal.
  Conditions: none.
-/
namespace Go.Proofs.Ytlifjajcmnkhfaa
open Go Bf
attribute [local irreducible] Tr Exec Stab HasTy Go.Addr.add IntKind.wrap
structure FewB (w : Wd) (k : Bp) : Prop where
  fa : w.facts.length ≤ 30
  sw : w.swaps.length ≤ 12
  sl : k.sups.length ≤ 5
  rl : k.reqs.length ≤ 5
  fl : k.fits.length ≤ 12
  rows : ∀ x ∈ k.fits, x.length ≤ 12
  rd : k.rds.length ≤ 60
theorem few04_fn (M : Mem) (A : Option Addr) (n c : Nat) : Fn0 Try.prog 71 [.slice A n c] M (fun r M' => (∃ b : Bool, r = .bool b ∧ (b = true → n ≤ 30)) ∧ M = M') := by
  refine Fn.intro Try.func71 rfl rfl Try.ntmps71 rfl fun E F => ?_
  by_cases h : n ≤ 30
  · (repeat (first | ((with_reducible refine Tr.step rfl ?_); (first | (refine xmQ (z := ?_)) | (refine xaQ (z := ?_)) | (refine xnQ (z := ?_)) | (refine xiQ (z := ?_)))) | (with_reducible first | apply Tr.next | apply Tr.seq | apply Tr.region | apply Tr.nil | apply Tr.ret)))
    (refine dnQ (hL := by exact ⟨[], rfl⟩) (k := ⟨rfl, ?_⟩))
    exact ⟨⟨true, by rw [decide_eq_true (by omega)]; rfl, fun _ => h⟩, rfl⟩
  · (repeat (first | ((with_reducible refine Tr.step rfl ?_); (first | (refine xmQ (z := ?_)) | (refine xaQ (z := ?_)) | (refine xnQ (z := ?_)) | (refine xiQ (z := ?_)))) | (with_reducible first | apply Tr.next | apply Tr.seq | apply Tr.region | apply Tr.nil | apply Tr.ret)))
    (refine dnQ (hL := by exact ⟨[], rfl⟩) (k := ⟨rfl, ?_⟩))
    exact ⟨⟨false, by rw [decide_eq_false (by omega)]; rfl, fun h => (by cases h)⟩, rfl⟩
set_option maxHeartbeats 2000000 in
theorem few29_fn (M : Mem) (ws : List Value) (w : Wd) (hw : RWd M ws w) (A B : Option Addr) (n c m k : Nat) : Fn0 Try.prog 37 [.agg ws.toArray, .slice A n c, .slice B m k] M (fun r M' => (∃ b : Bool, r = .bool b ∧ (b = true → w.facts.length ≤ 30 ∧ w.swaps.length ≤ 12)) ∧ M = M') := by
  obtain ⟨h11, hone, ⟨A7, c7, h7, -⟩, A10, c10, h10, -⟩ := hw
  refine Fn.intro Try.func37 rfl rfl Try.ntmps37 rfl fun E F => ?_
  (repeat (first | ((with_reducible refine Tr.step rfl ?_); (first | (refine xaQ (z := ?_)) | ((with_reducible refine Knd.load ?_); (refine Exec.stab rfl (Stab.load rfl (tysOk.get rfl) rfl (by repeat (first | exact Has.here | apply Has.there)) (by assumption)) rfl ?_)) | (refine xfQ (z := ?_)) | ((with_reducible refine Knd.box ?_); (refine Exec.box rfl rfl (fun b => ?_))))) | (with_reducible first | apply Tr.next | apply Tr.seq | apply Tr.region | apply Tr.nil)))
  ((refine Tr.step rfl ?_)); refine Exec.call0 rfl (few04_fn M A10 w.facts.length c10) rfl ?_
  rintro _ _ _ ⟨⟨b, rfl, hb⟩, rfl⟩
  cases b with
  | false =>
    (repeat (first | ((with_reducible refine Tr.step rfl ?_); (first | (refine xmQ (z := ?_)) | (refine xaQ (z := ?_)) | ((with_reducible refine Knd.pick ?_); (refine Exec.stab rfl (Stab.pick_f rfl (by first | (with_reducible rfl) | (with_reducible assumption) | (with_reducible exact Bool.not_true) | (with_reducible exact Bool.not_false)) rfl) rfl ?_)))) | (with_reducible first | apply Tr.next | apply Tr.nil) | (refine Tr.guard_s1 rfl rfl rfl (by first | (with_reducible rfl) | (with_reducible assumption) | (with_reducible exact Bool.not_true) | (with_reducible exact Bool.not_false)) rfl rfl ?_) | (with_reducible refine Tr.ret ?_)))
    (refine dnQ (hL := by exact ⟨[_], rfl⟩) (k := ⟨rfl, ?_⟩))
    exact ⟨⟨false, rfl, fun h => (by cases h)⟩, rfl⟩
  | true =>
  by_cases h1 : w.swaps.length ≤ 12
  rotate_left
  · (repeat (first | ((with_reducible refine Tr.step rfl ?_); (first | (refine xmQ (z := ?_)) | (refine xaQ (z := ?_)) | ((with_reducible refine Knd.pick ?_); (first | (refine Exec.stab rfl (Stab.pick_t rfl (by first | (with_reducible rfl) | (with_reducible assumption) | (with_reducible exact Bool.not_true) | (with_reducible exact Bool.not_false)) rfl) rfl ?_) | (refine Exec.stab rfl (Stab.pick_f rfl (by first | (with_reducible rfl) | (with_reducible assumption) | (with_reducible exact Bool.not_true) | (with_reducible exact Bool.not_false)) rfl) rfl ?_) | (refine Exec.stab rfl (Stab.pick_fd rfl (by first | (with_reducible assumption) | (with_reducible rfl) | (with_reducible exact (not_not_intro rfl)) | omega) rfl) rfl ?_))))) | (with_reducible first | apply Tr.next | apply Tr.nil) | ((refine Tr.guard_l rfl rfl rfl (by first | (with_reducible rfl) | (with_reducible assumption) | (with_reducible exact Bool.not_true) | (with_reducible exact Bool.not_false)) ?_); (first | ((with_reducible refine Knd.load ?_); (refine Exec.stab rfl (Stab.load rfl (tysOk.get rfl) rfl (by repeat (first | exact Has.here | apply Has.there)) (by assumption)) rfl ?_)) | (refine xfQ (z := ?_)) | (refine xnQ (z := ?_)) | (refine xiQ (z := ?_)))) | (refine Tr.guard_s1 rfl rfl rfl (by first | (with_reducible rfl) | (with_reducible assumption) | (with_reducible exact Bool.not_true) | (with_reducible exact Bool.not_false)) rfl rfl ?_) | (refine Tr.guard_n rfl rfl rfl (by first | (with_reducible assumption) | (with_reducible rfl) | (with_reducible exact (not_not_intro rfl)) | omega) rfl rfl ?_) | (with_reducible refine Tr.ret ?_)))
    (refine dnQ (hL := by exact ⟨[_], rfl⟩) (k := ⟨rfl, ?_⟩))
    exact ⟨⟨false, rfl, fun h => (by cases h)⟩, rfl⟩
  by_cases h2 : n ≤ 8
  rotate_left
  · (repeat (first | ((with_reducible refine Tr.step rfl ?_); (first | (refine xmQ (z := ?_)) | (refine xaQ (z := ?_)) | ((with_reducible refine Knd.pick ?_); (first | (refine Exec.stab rfl (Stab.pick_t rfl (by first | (with_reducible rfl) | (with_reducible assumption) | (with_reducible exact Bool.not_true) | (with_reducible exact Bool.not_false)) rfl) rfl ?_) | (refine Exec.stab rfl (Stab.pick_td rfl (by first | (with_reducible assumption) | (with_reducible rfl) | (with_reducible exact (not_not_intro rfl)) | omega) rfl) rfl ?_) | (refine Exec.stab rfl (Stab.pick_fd rfl (by first | (with_reducible assumption) | (with_reducible rfl) | (with_reducible exact (not_not_intro rfl)) | omega) rfl) rfl ?_))))) | (with_reducible first | apply Tr.next | apply Tr.nil) | ((refine Tr.guard_l rfl rfl rfl (by first | (with_reducible rfl) | (with_reducible assumption) | (with_reducible exact Bool.not_true) | (with_reducible exact Bool.not_false)) ?_); (first | ((with_reducible refine Knd.load ?_); (refine Exec.stab rfl (Stab.load rfl (tysOk.get rfl) rfl (by repeat (first | exact Has.here | apply Has.there)) (by assumption)) rfl ?_)) | (refine xfQ (z := ?_)) | (refine xnQ (z := ?_)) | (refine xiQ (z := ?_)))) | ((refine Tr.guard_y rfl rfl rfl (by first | (with_reducible assumption) | (with_reducible rfl) | (with_reducible exact (not_not_intro rfl)) | omega) ?_); (first | (refine xmQ (z := ?_)) | (refine xnQ (z := ?_)) | (refine xiQ (z := ?_)))) | (refine Tr.guard_n rfl rfl rfl (by first | (with_reducible assumption) | (with_reducible rfl) | (with_reducible exact (not_not_intro rfl)) | omega) rfl rfl ?_) | (with_reducible refine Tr.ret ?_)))
    (refine dnQ (hL := by exact ⟨[_], rfl⟩) (k := ⟨rfl, ?_⟩))
    exact ⟨⟨false, rfl, fun h => (by cases h)⟩, rfl⟩
  (repeat (first | ((with_reducible refine Tr.step rfl ?_); (first | (refine xmQ (z := ?_)) | (refine xaQ (z := ?_)) | ((with_reducible refine Knd.pick ?_); (first | (refine Exec.stab rfl (Stab.pick_t rfl (by first | (with_reducible rfl) | (with_reducible assumption) | (with_reducible exact Bool.not_true) | (with_reducible exact Bool.not_false)) rfl) rfl ?_) | (refine Exec.stab rfl (Stab.pick_td rfl (by first | (with_reducible assumption) | (with_reducible rfl) | (with_reducible exact (not_not_intro rfl)) | omega) rfl) rfl ?_))))) | (with_reducible first | apply Tr.next | apply Tr.nil) | ((refine Tr.guard_l rfl rfl rfl (by first | (with_reducible rfl) | (with_reducible assumption) | (with_reducible exact Bool.not_true) | (with_reducible exact Bool.not_false)) ?_); (first | ((with_reducible refine Knd.load ?_); (refine Exec.stab rfl (Stab.load rfl (tysOk.get rfl) rfl (by repeat (first | exact Has.here | apply Has.there)) (by assumption)) rfl ?_)) | (refine xfQ (z := ?_)) | (refine xnQ (z := ?_)) | (refine xiQ (z := ?_)))) | ((refine Tr.guard_y rfl rfl rfl (by first | (with_reducible assumption) | (with_reducible rfl) | (with_reducible exact (not_not_intro rfl)) | omega) ?_); (first | (refine xmQ (z := ?_)) | (refine xnQ (z := ?_)) | (refine xiQ (z := ?_)))) | (with_reducible refine Tr.ret ?_)))
  (refine dnQ (hL := by exact ⟨[_], rfl⟩) (k := ⟨rfl, ?_⟩))
  exact ⟨⟨_, rfl, fun _ => ⟨hb rfl, h1⟩⟩, rfl⟩
set_option maxHeartbeats 2000000 in
theorem fewTab_fn (M : Mem) (A : Option Addr) (c : Nat) (l : List (List Bool)) (hl : Fits2 M (.slice A l.length c) l) : Fn0 Try.prog 38 [.slice A l.length c] M (fun r M' => (∃ b : Bool, r = .bool b ∧ (b = true → l.length ≤ 12 ∧ ∀ x ∈ l, x.length ≤ 12)) ∧ M = M') := by
  have hll := hl.len_le
  refine Fn.intro Try.func38 rfl rfl Try.ntmps38 rfl fun E F => ?_
  (repeat (first | ((with_reducible refine Tr.step rfl ?_); (with_reducible refine Knd.assign ?_); (refine xaQ (z := ?_))) | (with_reducible first | apply Tr.next | apply Tr.seq | apply Tr.region | apply Tr.nil | apply Tr.block)))
  refine Tr.loop (α := Nat) (fun i => ⟨19, [(3, .int .i64 (i : Int)), (0, .slice A l.length c)], [], M, [] ++ F⟩) (fun i => i ≤ l.length ∧ ∀ x ∈ l.take i, x.length ≤ 12) (fun i => l.length - i) 0 ⟨by simp, by simp⟩ hsQ (fun i hi => ?_)
  obtain ⟨hi, hall⟩ := hi
  by_cases hlt : i < l.length
  · obtain ⟨x, hx⟩ := get_of_lt hlt
    obtain ⟨hA, ch, hat, B, k, rfl, hB⟩ := hl.elem hx
    by_cases h : x.length ≤ 12
    · (repeat (first | ((with_reducible refine Tr.step rfl ?_); (first | (refine xmQ (z := ?_)) | (refine xaQ (z := ?_)) | (refine xMQ (z := ?_)) | (refine xnQ (z := ?_)) | ((with_reducible refine Knd.binOp ?_); (first | (refine xdQ (z := ?_)) | (refine xiQ (z := ?_)))) | (refine xxQ (z := ?_)))) | (with_reducible first | apply Tr.next | apply Tr.seq | apply Tr.region | apply Tr.nil | apply Tr.skip | apply Tr.block | apply Tr.in_normal) | (refine Tr.cond_t rfl (by first | (with_reducible assumption) | (with_reducible rfl) | (with_reducible exact (not_not_intro rfl)) | omega) ?_) | (refine Tr.cond_f rfl (by first | (with_reducible assumption) | (with_reducible rfl) | (with_reducible exact (not_not_intro rfl)) | omega) ?_)))
      refine Tr.again (i + 1) ⟨hlt, fun y hy => ?_⟩ (by omega) hsQ
      rw [List.take_add_one, hx, List.mem_append] at hy
      rcases hy with hy | hy
      · exact hall y hy
      · simp at hy; subst hy; exact h
    · (repeat (first | ((with_reducible refine Tr.step rfl ?_); (first | (refine xmQ (z := ?_)) | (refine xaQ (z := ?_)) | (refine xMQ (z := ?_)) | (refine xnQ (z := ?_)) | (refine xiQ (z := ?_)) | (refine xxQ (z := ?_)))) | (with_reducible first | apply Tr.next | apply Tr.seq | apply Tr.region | apply Tr.nil | apply Tr.skip | apply Tr.block | apply Tr.ret | apply Tr.then_ret | apply Tr.in_ret) | (refine Tr.cond_t rfl (by first | (with_reducible assumption) | (with_reducible rfl) | (with_reducible exact (not_not_intro rfl)) | omega) ?_)))
      (refine dnQ (hL := by exact ⟨[], rfl⟩) (k := ⟨rfl, ?_⟩))
      exact ⟨⟨false, rfl, fun h => (by cases h)⟩, rfl⟩
  · have e : i = l.length := by omega
    subst e
    rw [List.take_length] at hall
    by_cases h : l.length ≤ 12
    · (repeat (first | ((with_reducible refine Tr.step rfl ?_); (first | (refine xmQ (z := ?_)) | (refine xaQ (z := ?_)) | (refine xnQ (z := ?_)) | (refine xiQ (z := ?_)))) | (with_reducible first | apply Tr.next | apply Tr.seq | apply Tr.region | apply Tr.nil | apply Tr.exit | apply Tr.ret | apply Tr.then_exit) | ((with_reducible refine Tr.in_exit ?_ ?_); (exact rfl)) | (refine Tr.cond_f rfl (by first | (with_reducible assumption) | (with_reducible rfl) | (with_reducible exact (not_not_intro rfl)) | omega) ?_)))
      (refine dnQ (hL := by exact ⟨[], rfl⟩) (k := ⟨rfl, ?_⟩))
      exact ⟨⟨true, by rw [decide_eq_true (by omega)]; rfl, fun _ => ⟨h, hall⟩⟩, rfl⟩
    · (repeat (first | ((with_reducible refine Tr.step rfl ?_); (first | (refine xmQ (z := ?_)) | (refine xaQ (z := ?_)) | (refine xnQ (z := ?_)) | (refine xiQ (z := ?_)))) | (with_reducible first | apply Tr.next | apply Tr.seq | apply Tr.region | apply Tr.nil | apply Tr.exit | apply Tr.ret | apply Tr.then_exit) | ((with_reducible refine Tr.in_exit ?_ ?_); (exact rfl)) | (refine Tr.cond_f rfl (by first | (with_reducible assumption) | (with_reducible rfl) | (with_reducible exact (not_not_intro rfl)) | omega) ?_)))
      (refine dnQ (hL := by exact ⟨[], rfl⟩) (k := ⟨rfl, ?_⟩))
      exact ⟨⟨false, by rw [decide_eq_false (by omega)]; rfl, fun h => (by cases h)⟩, rfl⟩
set_option maxHeartbeats 4000000 in
theorem few31_fn (M : Mem) (ws : List Value) (w : Wd) (hw : RWd M ws w) (v : Value) (k : Bp) (hk : RBp M v k) : Fn0 Try.prog 17 [.agg ws.toArray, v] M (fun r M' => (∃ b : Bool, r = .bool b ∧ (b = true → FewB w k)) ∧ M = M') := by
  have h11 := hw.len
  obtain ⟨As, cs, Ar, cr, Af, cf, Ad, cd, rfl, h1, h2, h3, h4⟩ := hk
  refine Fn.intro Try.func17 rfl rfl Try.ntmps17 rfl fun E F => ?_
  (repeat (first | ((with_reducible refine Tr.step rfl ?_); (first | (refine xaQ (z := ?_)) | ((with_reducible refine Knd.load ?_); (first | (refine xlQ (z := ?_)) | (refine Exec.stab rfl (Stab.loadW rfl (tysOk.get rfl) rfl (by repeat (first | exact Has.here | apply Has.there)) (by assumption)) rfl ?_))) | (refine xfQ (z := ?_)) | ((with_reducible refine Knd.box ?_); (refine Exec.box rfl rfl (fun b => ?_))))) | (with_reducible first | apply Tr.next | apply Tr.seq | apply Tr.region | apply Tr.nil)))
  ((refine Tr.step rfl ?_)); refine Exec.call0 rfl (few29_fn M ws w hw As Ar k.sups.length cs k.reqs.length cr) rfl ?_
  rintro _ _ _ ⟨⟨b, rfl, hb⟩, rfl⟩
  cases b with
  | false =>
    (repeat (first | ((with_reducible refine Tr.step rfl ?_); (first | (refine xmQ (z := ?_)) | (refine xaQ (z := ?_)) | ((with_reducible refine Knd.pick ?_); (refine Exec.stab rfl (Stab.pick_f rfl (by first | (with_reducible rfl) | (with_reducible assumption) | (with_reducible exact Bool.not_true) | (with_reducible exact Bool.not_false)) rfl) rfl ?_)))) | (with_reducible first | apply Tr.next | apply Tr.nil) | (refine Tr.guard_s1 rfl rfl rfl (by first | (with_reducible rfl) | (with_reducible assumption) | (with_reducible exact Bool.not_true) | (with_reducible exact Bool.not_false)) rfl rfl ?_) | (with_reducible refine Tr.ret ?_)))
    (refine dnQ (hL := by exact ⟨[_, _], rfl⟩) (k := ⟨rfl, ?_⟩))
    exact ⟨⟨false, rfl, fun h => (by cases h)⟩, rfl⟩
  | true =>
  by_cases e1 : k.sups.length ≤ 5
  rotate_left
  · (repeat (first | ((with_reducible refine Tr.step rfl ?_); (first | (refine xmQ (z := ?_)) | (refine xaQ (z := ?_)) | ((with_reducible refine Knd.pick ?_); (first | (refine Exec.stab rfl (Stab.pick_t rfl (by first | (with_reducible rfl) | (with_reducible assumption) | (with_reducible exact Bool.not_true) | (with_reducible exact Bool.not_false)) rfl) rfl ?_) | (refine Exec.stab rfl (Stab.pick_f rfl (by first | (with_reducible rfl) | (with_reducible assumption) | (with_reducible exact Bool.not_true) | (with_reducible exact Bool.not_false)) rfl) rfl ?_) | (refine Exec.stab rfl (Stab.pick_fd rfl (by first | (with_reducible assumption) | (with_reducible rfl) | (with_reducible exact (not_not_intro rfl)) | omega) rfl) rfl ?_))))) | (with_reducible first | apply Tr.next | apply Tr.nil) | ((refine Tr.guard_l rfl rfl rfl (by first | (with_reducible rfl) | (with_reducible assumption) | (with_reducible exact Bool.not_true) | (with_reducible exact Bool.not_false)) ?_); (first | (refine xlQ (z := ?_)) | (refine xfQ (z := ?_)) | (refine xnQ (z := ?_)) | (refine xiQ (z := ?_)))) | (refine Tr.guard_s1 rfl rfl rfl (by first | (with_reducible rfl) | (with_reducible assumption) | (with_reducible exact Bool.not_true) | (with_reducible exact Bool.not_false)) rfl rfl ?_) | (refine Tr.guard_n rfl rfl rfl (by first | (with_reducible assumption) | (with_reducible rfl) | (with_reducible exact (not_not_intro rfl)) | omega) rfl rfl ?_) | (with_reducible refine Tr.ret ?_)))
    (refine dnQ (hL := by exact ⟨[_, _], rfl⟩) (k := ⟨rfl, ?_⟩))
    exact ⟨⟨false, rfl, fun h => (by cases h)⟩, rfl⟩
  by_cases e2 : k.reqs.length ≤ 5
  rotate_left
  · (repeat (first | ((with_reducible refine Tr.step rfl ?_); (first | (refine xmQ (z := ?_)) | (refine xaQ (z := ?_)) | ((with_reducible refine Knd.pick ?_); (first | (refine Exec.stab rfl (Stab.pick_t rfl (by first | (with_reducible rfl) | (with_reducible assumption) | (with_reducible exact Bool.not_true) | (with_reducible exact Bool.not_false)) rfl) rfl ?_) | (refine Exec.stab rfl (Stab.pick_f rfl (by first | (with_reducible rfl) | (with_reducible assumption) | (with_reducible exact Bool.not_true) | (with_reducible exact Bool.not_false)) rfl) rfl ?_) | (refine Exec.stab rfl (Stab.pick_td rfl (by first | (with_reducible assumption) | (with_reducible rfl) | (with_reducible exact (not_not_intro rfl)) | omega) rfl) rfl ?_) | (refine Exec.stab rfl (Stab.pick_fd rfl (by first | (with_reducible assumption) | (with_reducible rfl) | (with_reducible exact (not_not_intro rfl)) | omega) rfl) rfl ?_))))) | (with_reducible first | apply Tr.next | apply Tr.nil) | ((refine Tr.guard_l rfl rfl rfl (by first | (with_reducible rfl) | (with_reducible assumption) | (with_reducible exact Bool.not_true) | (with_reducible exact Bool.not_false)) ?_); (first | (refine xlQ (z := ?_)) | (refine xfQ (z := ?_)) | (refine xnQ (z := ?_)) | (refine xiQ (z := ?_)))) | (refine Tr.guard_s1 rfl rfl rfl (by first | (with_reducible rfl) | (with_reducible assumption) | (with_reducible exact Bool.not_true) | (with_reducible exact Bool.not_false)) rfl rfl ?_) | ((refine Tr.guard_y rfl rfl rfl (by first | (with_reducible assumption) | (with_reducible rfl) | (with_reducible exact (not_not_intro rfl)) | omega) ?_); (first | (refine xlQ (z := ?_)) | (refine xfQ (z := ?_)) | (refine xnQ (z := ?_)) | (refine xiQ (z := ?_)))) | (refine Tr.guard_n rfl rfl rfl (by first | (with_reducible assumption) | (with_reducible rfl) | (with_reducible exact (not_not_intro rfl)) | omega) rfl rfl ?_) | (with_reducible refine Tr.ret ?_)))
    (refine dnQ (hL := by exact ⟨[_, _], rfl⟩) (k := ⟨rfl, ?_⟩))
    exact ⟨⟨false, rfl, fun h => (by cases h)⟩, rfl⟩
  (repeat (first | ((with_reducible refine Tr.step rfl ?_); (first | (refine xmQ (z := ?_)) | ((with_reducible refine Knd.pick ?_); (first | (refine Exec.stab rfl (Stab.pick_t rfl (by first | (with_reducible rfl) | (with_reducible assumption) | (with_reducible exact Bool.not_true) | (with_reducible exact Bool.not_false)) rfl) rfl ?_) | (refine Exec.stab rfl (Stab.pick_td rfl (by first | (with_reducible assumption) | (with_reducible rfl) | (with_reducible exact (not_not_intro rfl)) | omega) rfl) rfl ?_))))) | ((refine Tr.guard_l rfl rfl rfl (by first | (with_reducible rfl) | (with_reducible assumption) | (with_reducible exact Bool.not_true) | (with_reducible exact Bool.not_false)) ?_); (first | (refine xlQ (z := ?_)) | (refine xfQ (z := ?_)) | (refine xnQ (z := ?_)) | (refine xiQ (z := ?_)))) | ((refine Tr.guard_y rfl rfl rfl (by first | (with_reducible assumption) | (with_reducible rfl) | (with_reducible exact (not_not_intro rfl)) | omega) ?_); (first | (refine xlQ (z := ?_)) | (refine xfQ (z := ?_)) | (refine xnQ (z := ?_)) | (refine xiQ (z := ?_))))))
  ((refine Tr.guard_y rfl rfl rfl (by first | (with_reducible assumption) | (with_reducible rfl) | (with_reducible exact (not_not_intro rfl)) | omega) ?_)); refine Exec.call0 rfl (fewTab_fn M Af cf k.fits h3) rfl ?_
  rintro _ _ _ ⟨⟨b, rfl, hb2⟩, rfl⟩
  cases b with
  | false =>
    (repeat (first | ((with_reducible refine Tr.step rfl ?_); (first | (refine xmQ (z := ?_)) | (refine xaQ (z := ?_)) | ((with_reducible refine Knd.pick ?_); (first | (refine Exec.stab rfl (Stab.pick_f rfl (by first | (with_reducible rfl) | (with_reducible assumption) | (with_reducible exact Bool.not_true) | (with_reducible exact Bool.not_false)) rfl) rfl ?_) | (refine Exec.stab rfl (Stab.pick_td rfl (by first | (with_reducible assumption) | (with_reducible rfl) | (with_reducible exact (not_not_intro rfl)) | omega) rfl) rfl ?_))))) | (with_reducible first | apply Tr.next | apply Tr.nil) | (refine Tr.guard_s1 rfl rfl rfl (by first | (with_reducible rfl) | (with_reducible assumption) | (with_reducible exact Bool.not_true) | (with_reducible exact Bool.not_false)) rfl rfl ?_) | (with_reducible refine Tr.ret ?_)))
    (refine dnQ (hL := by exact ⟨[_, _], rfl⟩) (k := ⟨rfl, ?_⟩))
    exact ⟨⟨false, rfl, fun h => (by cases h)⟩, rfl⟩
  | true =>
  by_cases e3 : k.rds.length ≤ 60
  · (repeat (first | ((with_reducible refine Tr.step rfl ?_); (first | (refine xmQ (z := ?_)) | (refine xaQ (z := ?_)) | ((with_reducible refine Knd.pick ?_); (first | (refine Exec.stab rfl (Stab.pick_t rfl (by first | (with_reducible rfl) | (with_reducible assumption) | (with_reducible exact Bool.not_true) | (with_reducible exact Bool.not_false)) rfl) rfl ?_) | (refine Exec.stab rfl (Stab.pick_td rfl (by first | (with_reducible assumption) | (with_reducible rfl) | (with_reducible exact (not_not_intro rfl)) | omega) rfl) rfl ?_))))) | (with_reducible first | apply Tr.next | apply Tr.nil) | ((refine Tr.guard_l rfl rfl rfl (by first | (with_reducible rfl) | (with_reducible assumption) | (with_reducible exact Bool.not_true) | (with_reducible exact Bool.not_false)) ?_); (first | (refine xlQ (z := ?_)) | (refine xfQ (z := ?_)) | (refine xnQ (z := ?_)) | (refine xiQ (z := ?_)))) | (with_reducible refine Tr.ret ?_)))
    (refine dnQ (hL := by exact ⟨[_, _], rfl⟩) (k := ⟨rfl, ?_⟩))
    exact ⟨⟨true, by rw [decide_eq_true (by omega)]; rfl, fun _ => ⟨(hb rfl).1, (hb rfl).2, e1, e2, (hb2 rfl).1, (hb2 rfl).2, e3⟩⟩, rfl⟩
  · (repeat (first | ((with_reducible refine Tr.step rfl ?_); (first | (refine xmQ (z := ?_)) | (refine xaQ (z := ?_)) | ((with_reducible refine Knd.pick ?_); (first | (refine Exec.stab rfl (Stab.pick_t rfl (by first | (with_reducible rfl) | (with_reducible assumption) | (with_reducible exact Bool.not_true) | (with_reducible exact Bool.not_false)) rfl) rfl ?_) | (refine Exec.stab rfl (Stab.pick_td rfl (by first | (with_reducible assumption) | (with_reducible rfl) | (with_reducible exact (not_not_intro rfl)) | omega) rfl) rfl ?_))))) | (with_reducible first | apply Tr.next | apply Tr.nil) | ((refine Tr.guard_l rfl rfl rfl (by first | (with_reducible rfl) | (with_reducible assumption) | (with_reducible exact Bool.not_true) | (with_reducible exact Bool.not_false)) ?_); (first | (refine xlQ (z := ?_)) | (refine xfQ (z := ?_)) | (refine xnQ (z := ?_)) | (refine xiQ (z := ?_)))) | (with_reducible refine Tr.ret ?_)))
    (refine dnQ (hL := by exact ⟨[_, _], rfl⟩) (k := ⟨rfl, ?_⟩))
    exact ⟨⟨false, by rw [decide_eq_false (by omega)]; rfl, fun h => (by cases h)⟩, rfl⟩
set_option maxHeartbeats 4000000 in
theorem few32_fn (M : Mem) (ws : List Value) (w : Wd) (hw : RWd M ws w) (v : Value) (k : Bp) (hk : RBp M v k) : Fn0 Try.prog 7 [.agg ws.toArray, v] M (fun r M' => (∃ b : Bool, r = .bool b ∧ (b = true → FewB w k)) ∧ M = M') := by
  have hk0 := hk
  have hw0 := hw
  obtain ⟨h11, hone, -, A10, c10, h10, -⟩ := hw
  obtain ⟨As, cs, Ar, cr, Af, cf, Ad, cd, rfl, h1, h2, h3, h4⟩ := hk
  refine Fn.intro Try.func7 rfl rfl Try.ntmps7 rfl fun E F => ?_
  (repeat (first | ((with_reducible refine Tr.step rfl ?_); (first | (refine xaQ (z := ?_)) | ((with_reducible refine Knd.load ?_); (first | (refine xwQ (z := ?_)) | (refine Exec.stab rfl (Stab.loadW rfl (tysOk.get rfl) rfl (by repeat (first | exact Has.here | apply Has.there)) (by assumption)) rfl ?_))) | ((with_reducible refine Knd.box ?_); (refine Exec.box rfl rfl (fun b => ?_))))) | (with_reducible first | apply Tr.next | apply Tr.seq | apply Tr.region | apply Tr.nil)))
  ((refine Tr.step rfl ?_)); refine Exec.call0 rfl (few31_fn M ws w hw0 _ k hk0) rfl ?_
  rintro _ _ _ ⟨⟨b, rfl, hb⟩, rfl⟩
  cases b with
  | false =>
    (repeat (first | ((with_reducible refine Tr.step rfl ?_); (first | (refine xmQ (z := ?_)) | (refine xaQ (z := ?_)) | ((with_reducible refine Knd.pick ?_); (refine Exec.stab rfl (Stab.pick_f rfl (by first | (with_reducible rfl) | (with_reducible assumption) | (with_reducible exact Bool.not_true) | (with_reducible exact Bool.not_false)) rfl) rfl ?_)))) | (with_reducible first | apply Tr.next | apply Tr.nil) | (refine Tr.guard_s1 rfl rfl rfl (by first | (with_reducible rfl) | (with_reducible assumption) | (with_reducible exact Bool.not_true) | (with_reducible exact Bool.not_false)) rfl rfl ?_) | (with_reducible refine Tr.ret ?_)))
    (refine dnQ (hL := by exact ⟨[_, _], rfl⟩) (k := ⟨rfl, ?_⟩))
    exact ⟨⟨false, rfl, fun h => (by cases h)⟩, rfl⟩
  | true =>
  have hf := hb rfl
  have e1 := hf.rl
  have e2 := hf.sl
  (repeat (first | ((with_reducible refine Tr.step rfl ?_); (first | (refine xmQ (z := ?_)) | (refine xaQ (z := ?_)) | ((with_reducible refine Knd.pick ?_); (first | (refine Exec.stab rfl (Stab.pick_t rfl (by first | (with_reducible rfl) | (with_reducible assumption) | (with_reducible exact Bool.not_true) | (with_reducible exact Bool.not_false)) rfl) rfl ?_) | (refine Exec.stab rfl (Stab.pick_td rfl (by first | (with_reducible assumption) | (with_reducible rfl) | (with_reducible exact (not_not_intro rfl)) | omega) rfl) rfl ?_))))) | (with_reducible first | apply Tr.next | apply Tr.nil) | ((refine Tr.guard_l rfl rfl rfl (by first | (with_reducible rfl) | (with_reducible assumption) | (with_reducible exact Bool.not_true) | (with_reducible exact Bool.not_false)) ?_); (first | (refine xlQ (z := ?_)) | (refine xfQ (z := ?_)) | (refine xnQ (z := ?_)) | (refine xiQ (z := ?_)))) | ((refine Tr.guard_y rfl rfl rfl (by first | (with_reducible assumption) | (with_reducible rfl) | (with_reducible exact (not_not_intro rfl)) | omega) ?_); (first | ((with_reducible refine Knd.load ?_); (first | (refine xlQ (z := ?_)) | (refine Exec.stab rfl (Stab.load rfl (tysOk.get rfl) rfl (by repeat (first | exact Has.here | apply Has.there)) (by assumption)) rfl ?_))) | (refine xfQ (z := ?_)) | (refine xnQ (z := ?_)) | (refine xiQ (z := ?_)))) | (with_reducible refine Tr.ret ?_)))
  (refine dnQ (hL := by exact ⟨[_, _], rfl⟩) (k := ⟨rfl, ?_⟩))
  exact ⟨⟨_, rfl, fun _ => hf⟩, rfl⟩
set_option maxHeartbeats 2000000 in
theorem rSameI_fn (M : Mem) (p q : List Int) (A B : Option Addr) (c k : Nat) (hp : SlOf 1 RI M (.slice A p.length c) p) (hq : SlOf 1 RI M (.slice B q.length k) q) : Fn0 Try.prog 36 [.slice A p.length c, .slice B q.length k] M (fun r M' => r = .bool (decide (p = q)) ∧ M = M') := by
  have l1 := hp.len_le
  have l2 := hq.len_le
  refine Fn.intro Try.func36 rfl rfl Try.ntmps36 rfl fun E F => ?_
  by_cases hl : p.length = q.length
  rotate_left
  · (repeat (first | ((with_reducible refine Tr.step rfl ?_); (first | (refine xmQ (z := ?_)) | (refine xaQ (z := ?_)) | (refine xnQ (z := ?_)) | (refine xiQ (z := ?_)))) | (with_reducible first | apply Tr.next | apply Tr.seq | apply Tr.region | apply Tr.nil | apply Tr.ret | apply Tr.then_ret) | (refine Tr.cond_t rfl (by first | (with_reducible assumption) | (with_reducible rfl) | (with_reducible exact (not_not_intro rfl)) | omega) ?_)))
    (refine dnQ (hL := by exact ⟨[], rfl⟩) (k := ⟨rfl, ?_⟩))
    exact ⟨by rw [decide_eq_false (fun h => hl (congrArg _ h))]; rfl, rfl⟩
  (repeat (first | ((with_reducible refine Tr.step rfl ?_); (first | (refine xmQ (z := ?_)) | (refine xaQ (z := ?_)) | (refine xnQ (z := ?_)) | (refine xiQ (z := ?_)))) | (with_reducible first | apply Tr.next | apply Tr.seq | apply Tr.region | apply Tr.nil | apply Tr.skip | apply Tr.block) | (refine Tr.cond_f rfl (by first | (with_reducible assumption) | (with_reducible rfl) | (with_reducible exact (not_not_intro rfl)) | omega) ?_)))
  refine Tr.loop (α := Nat) (fun i => ⟨26, [(5, .int .i64 (i : Int)), (0, .slice A p.length c), (1, .slice B q.length k)], [], M, [] ++ F⟩) (fun i => i ≤ p.length ∧ p.take i = q.take i) (fun i => p.length - i) 0 ⟨by simp, by simp⟩ hsQ (fun i hi => ?_)
  obtain ⟨hi, heq⟩ := hi
  by_cases hlt : i < p.length
  · obtain ⟨x, hx⟩ := get_of_lt hlt
    obtain ⟨y, hy⟩ := get_of_lt (xs := q) (i := i) (by omega)
    obtain ⟨hA, ch1, hat, rfl⟩ := hp.elem hx
    obtain ⟨hB, ch2, hbt, rfl⟩ := hq.elem hy
    skip
    by_cases hk : ¬ x = y
    · (repeat (first | ((with_reducible refine Tr.step rfl ?_); (first | (refine xmQ (z := ?_)) | (refine xnQ (z := ?_)) | (refine xiQ (z := ?_)))) | (with_reducible first | apply Tr.next | apply Tr.seq | apply Tr.region | apply Tr.nil | apply Tr.skip | apply Tr.block) | (refine Tr.cond_t rfl (by first | (with_reducible assumption) | (with_reducible rfl) | (with_reducible exact (not_not_intro rfl)) | omega) ?_)))
      (((apply Tr.draw); (kernel_rfl)); (refine tkQ 0 (hB := by exact fun _ h => h) (s := by exact Stab.move rfl) (h := ?_)); (refine tkQ 1 (s := by exact Stab.move rfl) (h := ?_)); (refine tkQ 4 (s := by exact Stab.move rfl) (h := ?_)); (refine tkQ 5 (s := by exact Stab.move rfl) (h := ?_)); (refine tkQ 2 (s := by exact sxQ) (h := ?_)); (refine tkQ 6 (s := by exact sxQ) (h := ?_)); (refine tkQ 3 (s := by exact sMQ) (h := ?_)); (refine tkQ 7 (s := by exact sMQ) (h := ?_)); (refine tkQ 8 (s := by exact siQ) (h := ?_)); (refine TrA.done (by kernel_rfl) ?_))
      (repeat (first | ((with_reducible refine Tr.step rfl ?_); (with_reducible refine Knd.assign ?_); (refine xaQ (z := ?_))) | (with_reducible first | apply Tr.next | apply Tr.seq | apply Tr.region | apply Tr.nil | apply Tr.ret | apply Tr.then_ret | apply Tr.in_ret) | (refine Tr.cond_t rfl (by first | (with_reducible assumption) | (with_reducible rfl) | (with_reducible exact (not_not_intro rfl)) | omega) ?_)))
      (refine dnQ (hL := by exact ⟨[], rfl⟩) (k := ⟨rfl, ?_⟩))
      exact ⟨by rw [decide_eq_false (fun h => by rw [h, hy] at hx; cases hx; exact hk rfl)]; rfl, rfl⟩
    · (repeat (first | ((with_reducible refine Tr.step rfl ?_); (first | (refine xmQ (z := ?_)) | (refine xnQ (z := ?_)) | (refine xiQ (z := ?_)))) | (with_reducible first | apply Tr.next | apply Tr.seq | apply Tr.region | apply Tr.nil | apply Tr.skip | apply Tr.block) | (refine Tr.cond_t rfl (by first | (with_reducible assumption) | (with_reducible rfl) | (with_reducible exact (not_not_intro rfl)) | omega) ?_)))
      (((apply Tr.draw); (kernel_rfl)); (refine tkQ 0 (hB := by exact fun _ h => h) (s := by exact Stab.move rfl) (h := ?_)); (refine tkQ 1 (s := by exact Stab.move rfl) (h := ?_)); (refine tkQ 4 (s := by exact Stab.move rfl) (h := ?_)); (refine tkQ 5 (s := by exact Stab.move rfl) (h := ?_)); (refine tkQ 2 (s := by exact sxQ) (h := ?_)); (refine tkQ 6 (s := by exact sxQ) (h := ?_)); (refine tkQ 3 (s := by exact sMQ) (h := ?_)); (refine tkQ 7 (s := by exact sMQ) (h := ?_)); (refine tkQ 8 (s := by exact siQ) (h := ?_)); (refine TrA.done (by kernel_rfl) ?_))
      (repeat (first | ((with_reducible refine Tr.step rfl ?_); (first | (refine xmQ (z := ?_)) | (refine xaQ (z := ?_)) | (refine xdQ (z := ?_)))) | (with_reducible first | apply Tr.next | apply Tr.region | apply Tr.nil | apply Tr.skip | apply Tr.in_normal) | (refine Tr.cond_f rfl (by first | (with_reducible assumption) | (with_reducible rfl) | (with_reducible exact (not_not_intro rfl)) | omega) ?_)))
      refine Tr.again (i + 1) ⟨by omega, by rw [List.take_add_one, List.take_add_one, hx, hy, heq, Classical.not_not.1 hk]⟩ (by omega) hsQ
  · have e : i = p.length := by omega
    subst e
    rw [List.take_length, hl, List.take_length] at heq
    (repeat (first | ((with_reducible refine Tr.step rfl ?_); (first | (refine xmQ (z := ?_)) | (refine xaQ (z := ?_)) | (refine xnQ (z := ?_)) | (refine xiQ (z := ?_)))) | (with_reducible first | apply Tr.next | apply Tr.seq | apply Tr.region | apply Tr.nil | apply Tr.exit | apply Tr.ret | apply Tr.then_exit) | ((with_reducible refine Tr.in_exit ?_ ?_); (exact rfl)) | (refine Tr.cond_f rfl (by first | (with_reducible assumption) | (with_reducible rfl) | (with_reducible exact (not_not_intro rfl)) | omega) ?_)))
    (refine dnQ (hL := by exact ⟨[], rfl⟩) (k := ⟨rfl, ?_⟩))
    exact ⟨by rw [decide_eq_true heq]; rfl, rfl⟩
set_option maxHeartbeats 2000000 in
theorem sameKys_fn (M : Mem) (p q : List Ky) (A B : Option Addr) (c k : Nat) (hp : SlOf 3 RKy M (.slice A p.length c) p) (hq : SlOf 3 RKy M (.slice B q.length k) q) : Fn0 Try.prog 16 [.slice A p.length c, .slice B q.length k] M (fun r M' => r = .bool (decide (p = q)) ∧ M = M') := by
  have l1 := hp.len_le
  have l2 := hq.len_le
  refine Fn.intro Try.func16 rfl rfl Try.ntmps16 rfl fun E F => ?_
  by_cases hl : p.length = q.length
  rotate_left
  · (repeat (first | ((with_reducible refine Tr.step rfl ?_); (first | (refine xmQ (z := ?_)) | (refine xaQ (z := ?_)) | (refine xnQ (z := ?_)) | (refine xiQ (z := ?_)))) | (with_reducible first | apply Tr.next | apply Tr.seq | apply Tr.region | apply Tr.nil | apply Tr.ret | apply Tr.then_ret) | (refine Tr.cond_t rfl (by first | (with_reducible assumption) | (with_reducible rfl) | (with_reducible exact (not_not_intro rfl)) | omega) ?_)))
    (refine dnQ (hL := by exact ⟨[], rfl⟩) (k := ⟨rfl, ?_⟩))
    exact ⟨by rw [decide_eq_false (fun h => hl (congrArg _ h))]; rfl, rfl⟩
  (repeat (first | ((with_reducible refine Tr.step rfl ?_); (first | (refine xmQ (z := ?_)) | (refine xaQ (z := ?_)) | (refine xnQ (z := ?_)) | (refine xiQ (z := ?_)))) | (with_reducible first | apply Tr.next | apply Tr.seq | apply Tr.region | apply Tr.nil | apply Tr.skip | apply Tr.block) | (refine Tr.cond_f rfl (by first | (with_reducible assumption) | (with_reducible rfl) | (with_reducible exact (not_not_intro rfl)) | omega) ?_)))
  refine Tr.loop (α := Nat) (fun i => ⟨26, [(5, .int .i64 (i : Int)), (0, .slice A p.length c), (1, .slice B q.length k)], [], M, [] ++ F⟩) (fun i => i ≤ p.length ∧ p.take i = q.take i) (fun i => p.length - i) 0 ⟨by simp, by simp⟩ hsQ (fun i hi => ?_)
  obtain ⟨hi, heq⟩ := hi
  by_cases hlt : i < p.length
  · obtain ⟨x, hx⟩ := get_of_lt hlt
    obtain ⟨y, hy⟩ := get_of_lt (xs := q) (i := i) (by omega)
    obtain ⟨hA, ch1, hat, rfl⟩ := hp.elem hx
    obtain ⟨hB, ch2, hbt, rfl⟩ := hq.elem hy
    simp only [kyC] at hat hbt
    have hxy : x = y ↔ [x.1, x.2.1, x.2.2] = [y.1, y.2.1, y.2.2] := by
      obtain ⟨a1, a2, a3⟩ := x
      obtain ⟨b1, b2, b3⟩ := y
      simp
    by_cases hk : [x.1, x.2.1, x.2.2] ≠ [y.1, y.2.1, y.2.2]
    · (repeat (first | ((with_reducible refine Tr.step rfl ?_); (first | (refine xmQ (z := ?_)) | (refine xnQ (z := ?_)) | (refine xiQ (z := ?_)))) | (with_reducible first | apply Tr.next | apply Tr.seq | apply Tr.region | apply Tr.nil | apply Tr.skip | apply Tr.block) | (refine Tr.cond_t rfl (by first | (with_reducible assumption) | (with_reducible rfl) | (with_reducible exact (not_not_intro rfl)) | omega) ?_)))
      (((apply Tr.draw); (kernel_rfl)); (refine tkQ 0 (hB := by exact fun _ h => h) (s := by exact Stab.move rfl) (h := ?_)); (refine tkQ 1 (s := by exact Stab.move rfl) (h := ?_)); (refine tkQ 4 (s := by exact Stab.move rfl) (h := ?_)); (refine tkQ 5 (s := by exact Stab.move rfl) (h := ?_)); (refine tkQ 2 (s := by exact sxQ) (h := ?_)); (refine tkQ 6 (s := by exact sxQ) (h := ?_)); (refine tkQ 3 (s := by exact Stab.loadMA rfl (tysOk.get rfl) rfl (by assumption) (by first | rfl | assumption)) (h := ?_)); (refine tkQ 7 (s := by exact Stab.loadMA rfl (tysOk.get rfl) rfl (by assumption) (by first | rfl | assumption)) (h := ?_)); (refine tkQ 8 (s := by exact Stab.stneL rfl rfl (by repeat (first | exact IntsL.nil | apply IntsL.cons)) (by repeat (first | exact IntsL.nil | apply IntsL.cons)) (tysOk.get rfl) rfl (by kernel_rfl) (by kernel_rfl) rfl rfl) (h := ?_)); (refine TrA.done (by kernel_rfl) ?_))
      (repeat (first | ((with_reducible refine Tr.step rfl ?_); (with_reducible refine Knd.assign ?_); (refine xaQ (z := ?_))) | (with_reducible first | apply Tr.next | apply Tr.seq | apply Tr.region | apply Tr.nil | apply Tr.ret | apply Tr.then_ret | apply Tr.in_ret) | (refine Tr.cond_t rfl (by first | (with_reducible assumption) | (with_reducible rfl) | (with_reducible exact (not_not_intro rfl)) | omega) ?_)))
      (refine dnQ (hL := by exact ⟨[], rfl⟩) (k := ⟨rfl, ?_⟩))
      exact ⟨by rw [decide_eq_false (fun h => by rw [h, hy] at hx; cases hx; exact hk rfl)]; rfl, rfl⟩
    · (repeat (first | ((with_reducible refine Tr.step rfl ?_); (first | (refine xmQ (z := ?_)) | (refine xnQ (z := ?_)) | (refine xiQ (z := ?_)))) | (with_reducible first | apply Tr.next | apply Tr.seq | apply Tr.region | apply Tr.nil | apply Tr.skip | apply Tr.block) | (refine Tr.cond_t rfl (by first | (with_reducible assumption) | (with_reducible rfl) | (with_reducible exact (not_not_intro rfl)) | omega) ?_)))
      (((apply Tr.draw); (kernel_rfl)); (refine tkQ 0 (hB := by exact fun _ h => h) (s := by exact Stab.move rfl) (h := ?_)); (refine tkQ 1 (s := by exact Stab.move rfl) (h := ?_)); (refine tkQ 4 (s := by exact Stab.move rfl) (h := ?_)); (refine tkQ 5 (s := by exact Stab.move rfl) (h := ?_)); (refine tkQ 2 (s := by exact sxQ) (h := ?_)); (refine tkQ 6 (s := by exact sxQ) (h := ?_)); (refine tkQ 3 (s := by exact Stab.loadMA rfl (tysOk.get rfl) rfl (by assumption) (by first | rfl | assumption)) (h := ?_)); (refine tkQ 7 (s := by exact Stab.loadMA rfl (tysOk.get rfl) rfl (by assumption) (by first | rfl | assumption)) (h := ?_)); (refine tkQ 8 (s := by exact Stab.stneL rfl rfl (by repeat (first | exact IntsL.nil | apply IntsL.cons)) (by repeat (first | exact IntsL.nil | apply IntsL.cons)) (tysOk.get rfl) rfl (by kernel_rfl) (by kernel_rfl) rfl rfl) (h := ?_)); (refine TrA.done (by kernel_rfl) ?_))
      (repeat (first | ((with_reducible refine Tr.step rfl ?_); (first | (refine xmQ (z := ?_)) | (refine xaQ (z := ?_)) | (refine xdQ (z := ?_)))) | (with_reducible first | apply Tr.next | apply Tr.region | apply Tr.nil | apply Tr.skip | apply Tr.in_normal) | (refine Tr.cond_f rfl (by first | (with_reducible assumption) | (with_reducible rfl) | (with_reducible exact (not_not_intro rfl)) | omega) ?_)))
      refine Tr.again (i + 1) ⟨by omega, by rw [List.take_add_one, List.take_add_one, hx, hy, heq, hxy.2 (Classical.not_not.1 hk)]⟩ (by omega) hsQ
  · have e : i = p.length := by omega
    subst e
    rw [List.take_length, hl, List.take_length] at heq
    (repeat (first | ((with_reducible refine Tr.step rfl ?_); (first | (refine xmQ (z := ?_)) | (refine xaQ (z := ?_)) | (refine xnQ (z := ?_)) | (refine xiQ (z := ?_)))) | (with_reducible first | apply Tr.next | apply Tr.seq | apply Tr.region | apply Tr.nil | apply Tr.exit | apply Tr.ret | apply Tr.then_exit) | ((with_reducible refine Tr.in_exit ?_ ?_); (exact rfl)) | (refine Tr.cond_f rfl (by first | (with_reducible assumption) | (with_reducible rfl) | (with_reducible exact (not_not_intro rfl)) | omega) ?_)))
    (refine dnQ (hL := by exact ⟨[], rfl⟩) (k := ⟨rfl, ?_⟩))
    exact ⟨by rw [decide_eq_true heq]; rfl, rfl⟩
theorem sameInts_fn (M : Mem) (p q : List Int) (A B : Option Addr) (c k : Nat) (hp : Ints M (.slice A p.length c) p) (hq : Ints M (.slice B q.length k) q) : Fn0 Try.prog 15 [.slice A p.length c, .slice B q.length k] M (fun r M' => r = .bool (decide (p = q)) ∧ M = M') := by
  refine Fn.intro Try.func15 rfl rfl Try.ntmps15 rfl fun E F => ?_
  (repeat (first | ((with_reducible refine Tr.step rfl ?_); (first | (refine xmQ (z := ?_)) | (refine xaQ (z := ?_)))) | (with_reducible first | apply Tr.next | apply Tr.seq | apply Tr.region | apply Tr.nil)))
  ((refine Tr.step rfl ?_)); refine Exec.call0 rfl (rSameI_fn M p q A B c k hp hq) rfl ?_
  rintro _ _ _ ⟨rfl, rfl⟩
  (repeat (first | ((with_reducible refine Tr.step rfl ?_); (with_reducible refine Knd.assign ?_); (refine xaQ (z := ?_))) | (with_reducible first | apply Tr.next | apply Tr.nil | apply Tr.ret)))
  (refine dnQ (hL := by exact ⟨[], rfl⟩) (k := ⟨rfl, ?_⟩))
  exact ⟨rfl, rfl⟩
end Go.Proofs.Ytlifjajcmnkhfaa

/-
  Refusals: requests with some numbers; whether requests can be met.
  Conditions: none.
-/
namespace Go.Proofs.Ytlifjajcmnkhfaa
open Go Bf
attribute [local irreducible] Tr Exec Stab HasTy Go.Addr.add IntKind.wrap
def pickY (l : List Int) (y : Rq) : List Rq := (l.filter fun n => decide (y.no = n)).map fun _ => y
def reqX (l : List Int) (reqs : List Rq) : List Rq := reqs.flatMap (pickY l)
theorem pickY_len (l : List Int) (y : Rq) : (pickY l y).length ≤ l.length := by
  unfold pickY
  rw [List.length_map]
  exact List.length_filter_le _ _
theorem reqX_succ {l : List Int} {reqs : List Rq} {i : Nat} {y : Rq} (h : reqs[i]? = some y) : reqX l (reqs.take (i + 1)) = reqX l (reqs.take i) ++ pickY l y := by
  unfold reqX
  rw [List.take_add_one, h, List.flatMap_append]
  simp
theorem reqX_len (l : List Int) (hl : l.length ≤ 1000) (reqs : List Rq) : ∀ i, (reqX l (reqs.take i)).length ≤ 1000 * i
  | 0 => by simp [reqX]
  | i + 1 => by
    have ih := reqX_len l hl reqs i
    cases h : reqs[i]? with
    | none =>
      have : reqs.take (i + 1) = reqs.take i := by rw [List.take_add_one, h]; simp
      rw [this]
      omega
    | some y =>
      rw [reqX_succ h, List.length_append]
      have := pickY_len l y
      omega
theorem pickY_yes {l : List Int} {j : Nat} {y : Rq} {n : Int} (h : l[j]? = some n) (e : y.no = n) : pickY (l.take (j + 1)) y = pickY (l.take j) y ++ [y] := by
  unfold pickY
  rw [List.take_add_one, h, Option.toList_some, List.filter_append, List.map_append]
  simp [e]
theorem pickY_no {l : List Int} {j : Nat} {y : Rq} {n : Int} (h : l[j]? = some n) (e : ¬ y.no = n) : pickY (l.take (j + 1)) y = pickY (l.take j) y := by
  unfold pickY
  rw [List.take_add_one, h, Option.toList_some, List.filter_append, List.map_append]
  simp [e]
set_option maxHeartbeats 8000000 in
set_option maxRecDepth 20000 in
theorem requests_fn (M : Mem) (v : Value) (k : Bp) (hk : RBp M v k) (A : Option Addr) (c : Nat) (l : List Int) (hl : Ints M (.slice A l.length c) l) (hl1 : l.length ≤ 1000) (hk1 : k.reqs.length ≤ 1000) (r : Rq) :
    Fn0 Try.prog 10 [v, .slice A l.length c, .agg #[.int .i64 r.no, .int .i64 r.item, .int .i64 r.cust, .int .i64 r.due, .int .i64 r.shelf, .int .i64 r.amount]] M (fun v M' => ∃ B kk, v = .slice B (reqX l k.reqs ++ [r]).length kk ∧ SlOf 6 RRqC M' (.slice B (reqX l k.reqs ++ [r]).length kk) (reqX l k.reqs ++ [r])) := by
  obtain ⟨As, cs, Ar, cr, Af, cf, Ad, cd, rfl, h1, h2, h3, h4⟩ := hk
  refine Fn.intro Try.func10 rfl rfl Try.ntmps10 rfl fun E F => ?_
  (repeat (first | ((with_reducible refine Tr.step rfl ?_); (first | (refine xmQ (z := ?_)) | (refine xaQ (z := ?_)) | (refine xlQ (z := ?_)) | (refine xfQ (z := ?_)) | (refine xnQ (z := ?_)) | ((with_reducible refine Knd.box ?_); (refine Exec.box rfl rfl (fun b => ?_))))) | (with_reducible first | apply Tr.next | apply Tr.seq | apply Tr.region | apply Tr.nil | apply Tr.block)))
  rename_i b3
  generalize b = b5
  refine Tr.own_nil 46 6 ?_
  refine Tr.loop (α := Nat × Option Addr × Nat) (fun y => ⟨39, [(15, .int .i64 (y.1 : Int)), (14, .int .i64 (k.reqs.length : Int)), (13, .slice Ar k.reqs.length cr), (7, .slice y.2.1 (reqX l (k.reqs.take y.1)).length y.2.2), (1, .slice A l.length c), (5, .pointer (some ⟨b5, 0, none⟩))], [], M, ownS 46 6 y.2.1 (reqX l (k.reqs.take y.1)).length y.2.2 ((reqX l (k.reqs.take y.1)).flatMap rqC) :: box b5 46 [.int .i64 r.no, .int .i64 r.item, .int .i64 r.cust, .int .i64 r.due, .int .i64 r.shelf, .int .i64 r.amount] :: box b3 44 [.int .i64 k.known, .slice As k.sups.length cs, .slice Ar k.reqs.length cr, .slice Af k.fits.length cf, .slice Ad k.rds.length cd] :: ([] ++ F)⟩)
    (fun y => y.1 ≤ k.reqs.length ∧ y.2.2 ≤ 9223372036854775807) (fun y => k.reqs.length - y.1) (0, none, 0) ⟨Nat.zero_le _, by simp⟩ hsQ (fun y hy => ?_)
  obtain ⟨i, C, cc⟩ := y
  obtain ⟨hi, hcc⟩ := hy
  simp only at hi hcc
  dsimp only
  have hxl := reqX_len l hl1 k.reqs i
  by_cases hlt : i < k.reqs.length
  rotate_left
  · have ei : i = k.reqs.length := by omega
    subst ei
    rw [List.take_length] at hxl ⊢
    (repeat (first | ((with_reducible refine Tr.step rfl ?_); (first | (refine xmQ (z := ?_)) | (refine xwQ (z := ?_)) | (refine xiQ (z := ?_)) | ((with_reducible refine Knd.buildSlice ?_); (refine Exec.buildSlice (tysOk.get rfl) rfl (tysOk.get rfl) rfl rfl rfl rfl rfl (by repeat (first | exact BuildP.nil | ((apply BuildP.one); (rfl); (rfl); (first | rfl | assumption); (repeat (first | exact SetL.z | apply SetL.s))) | ((apply BuildP.many); (rfl); (rfl); (rfl); (rfl); (repeat (first | exact PutL.nil | ((apply PutL.cons); (repeat (first | exact SetL.z | apply SetL.s)))))))) rfl (fun b => ?_))))) | (with_reducible first | apply Tr.next | apply Tr.seq | apply Tr.region | apply Tr.nil | apply Tr.exit | apply Tr.then_exit) | ((with_reducible refine Tr.in_exit ?_ ?_); (exact rfl)) | (refine Tr.cond_f rfl (by first | (with_reducible assumption) | (with_reducible rfl) | (with_reducible exact (not_not_intro rfl)) | omega) ?_)))
    ((refine Tr.step rfl ?_))
    refine Exec.append (news := rqC r) rfl rfl (tysOk.get rfl) rfl (tysOk.get rfl) rfl rfl rfl rfl (by repeat (first | exact Del.here | apply Del.there)) (Src.box (by repeat (first | exact Has.here | apply Has.there))) rfl (rqC_one _) (by omega) (by omega) rfl (fun C2 cc2 hcc2 => ?_)
    rw [show (reqX l k.reqs).flatMap rqC ++ rqC r = (reqX l k.reqs ++ [r]).flatMap rqC by rw [List.flatMap_append]; simp, show (reqX l k.reqs).length + 1 = (reqX l k.reqs ++ [r]).length by simp]
    refine pbQ (r := ownS 46 6 C2 _ _ _) (k := fun M6 hm6 hok6 => ?_)
    (repeat (first | ((with_reducible refine Tr.step rfl ?_); (with_reducible refine Knd.assign ?_); (refine xaQ (z := ?_))) | (with_reducible first | apply Tr.next | apply Tr.nil | apply Tr.ret)))
    (refine dnQ (hL := by exact ⟨[_, _, _], rfl⟩) (k := ⟨rfl, ?_⟩))
    exact ⟨C2, cc2, rfl, SlOf.ofOwn hok6 rfl hcc2 (rqC_elems _ _)⟩
  obtain ⟨y, hy⟩ := get_of_lt hlt
  obtain ⟨hA, ch, hat, rfl⟩ := h2.elem hy
  simp only [rqC] at hat
  (repeat (first | ((with_reducible refine Tr.step rfl ?_); (first | (refine xmQ (z := ?_)) | ((with_reducible refine Knd.load ?_); (refine Exec.stab rfl (Stab.loadMA rfl (tysOk.get rfl) rfl (by assumption) (by first | rfl | assumption)) rfl ?_)) | (refine xnQ (z := ?_)) | (refine xiQ (z := ?_)) | ((with_reducible refine Knd.store ?_); (refine Exec.storeW rfl rfl (tysOk.get rfl) (by repeat (first | exact Upd.here | apply Upd.there)) rfl rfl (by repeat (first | (with_reducible assumption) | exact AllOne.nil | exact AllOne.bytes _ | refine AllOne.cons (by first | rfl | assumption) ?_)) ?_)) | ((with_reducible refine Knd.alloc ?_); (refine Exec.alloc (tysOk.get rfl) rfl rfl (fun b => ?_))) | (refine xxQ (z := ?_)))) | (with_reducible first | apply Tr.next | apply Tr.seq | apply Tr.region | apply Tr.nil | apply Tr.skip | apply Tr.block) | (refine Tr.cond_t rfl (by first | (with_reducible assumption) | (with_reducible rfl) | (with_reducible exact (not_not_intro rfl)) | omega) ?_)))
  generalize b = b9
  refine ftQ (r := ownS 46 6 _ _ _ _) (k := ?_)
  refine Tr.loop (α := Nat × Option Addr × Nat) (fun z => ⟨39, [(21, .int .i64 (z.1 : Int)), (20, .int .i64 (l.length : Int)), (19, .slice A l.length c), (7, .slice z.2.1 (reqX l (k.reqs.take i) ++ pickY (l.take z.1) y).length z.2.2), (9, .pointer (some ⟨b9, 0, none⟩)), (15, .int .i64 (i : Int)), (14, .int .i64 (k.reqs.length : Int)), (13, .slice Ar k.reqs.length cr), (1, .slice A l.length c), (5, .pointer (some ⟨b5, 0, none⟩))], [], M, ownS 46 6 z.2.1 (reqX l (k.reqs.take i) ++ pickY (l.take z.1) y).length z.2.2 ((reqX l (k.reqs.take i) ++ pickY (l.take z.1) y).flatMap rqC) :: box b9 46 [.int .i64 y.no, .int .i64 y.item, .int .i64 y.cust, .int .i64 y.due, .int .i64 y.shelf, .int .i64 y.amount] :: box b5 46 [.int .i64 r.no, .int .i64 r.item, .int .i64 r.cust, .int .i64 r.due, .int .i64 r.shelf, .int .i64 r.amount] :: box b3 44 [.int .i64 k.known, .slice As k.sups.length cs, .slice Ar k.reqs.length cr, .slice Af k.fits.length cf, .slice Ad k.rds.length cd] :: ([] ++ F)⟩)
    (fun z => z.1 ≤ l.length ∧ z.2.2 ≤ 9223372036854775807) (fun z => l.length - z.1) (0, C, cc) ⟨Nat.zero_le _, hcc⟩ (by simpa [pickY] using (hsQ)) (fun z hz => ?_)
  obtain ⟨j, C, cc⟩ := z
  obtain ⟨hj, hcc⟩ := hz
  simp only at hj hcc
  dsimp only
  have hpl : (reqX l (k.reqs.take i) ++ pickY (l.take j) y).length ≤ 1000 * i + 1000 := by
    have := pickY_len (l.take j) y
    rw [List.length_take] at this
    rw [List.length_append]
    omega
  by_cases hjlt : j < l.length
  rotate_left
  · have ej : j = l.length := by omega
    subst ej
    rw [List.take_length, ← reqX_succ hy]
    (repeat (first | ((with_reducible refine Tr.step rfl ?_); (first | (refine xmQ (z := ?_)) | ((with_reducible refine Knd.binOp ?_); (first | (refine xdQ (z := ?_)) | (refine xiQ (z := ?_)))))) | (with_reducible first | apply Tr.next | apply Tr.seq | apply Tr.region | apply Tr.nil | apply Tr.exit | apply Tr.then_exit | apply Tr.in_normal) | ((with_reducible refine Tr.in_exit ?_ ?_); (exact rfl)) | (refine Tr.cond_f rfl (by first | (with_reducible assumption) | (with_reducible rfl) | (with_reducible exact (not_not_intro rfl)) | omega) ?_)))
    refine gvQ (r := box b9 _ _) (k := ?_)
    exact Tr.again (i + 1, C, cc) ⟨by simp only; omega, hcc⟩ (by simp only; omega) hsQ
  obtain ⟨n, hn⟩ := get_of_lt hjlt
  obtain ⟨hA2, hat2⟩ := hl.at hn
  by_cases hyn : y.no = n
  · have hp := pickY_yes hn hyn
    (repeat (first | ((with_reducible refine Tr.step rfl ?_); (first | (refine xmQ (z := ?_)) | (refine xaQ (z := ?_)) | ((with_reducible refine Knd.load ?_); (first | (refine xlQ (z := ?_)) | (refine xwQ (z := ?_)) | (refine xMQ (z := ?_)))) | (refine xfQ (z := ?_)) | (refine xiQ (z := ?_)) | (refine xxQ (z := ?_)) | ((with_reducible refine Knd.buildSlice ?_); (refine Exec.buildSlice (tysOk.get rfl) rfl (tysOk.get rfl) rfl rfl rfl rfl rfl (by repeat (first | exact BuildP.nil | ((apply BuildP.one); (rfl); (rfl); (first | rfl | assumption); (repeat (first | exact SetL.z | apply SetL.s))) | ((apply BuildP.many); (rfl); (rfl); (rfl); (rfl); (repeat (first | exact PutL.nil | ((apply PutL.cons); (repeat (first | exact SetL.z | apply SetL.s)))))))) rfl (fun b => ?_))))) | (with_reducible first | apply Tr.next | apply Tr.seq | apply Tr.region | apply Tr.nil | apply Tr.skip | apply Tr.block) | (refine Tr.cond_t rfl (by first | (with_reducible assumption) | (with_reducible rfl) | (with_reducible exact (not_not_intro rfl)) | omega) ?_)))
    ((refine Tr.step rfl ?_))
    refine Exec.append (news := rqC y) rfl rfl (tysOk.get rfl) rfl (tysOk.get rfl) rfl rfl rfl rfl (by repeat (first | exact Del.here | apply Del.there)) (Src.box (by repeat (first | exact Has.here | apply Has.there))) rfl (rqC_one _) (by omega) (by omega) rfl (fun C2 cc2 hcc2 => ?_)
    refine gvQ (r := box _ 46 _) (k := ?_)
    rw [show (reqX l (k.reqs.take i) ++ pickY (l.take j) y).flatMap rqC ++ rqC y = (reqX l (k.reqs.take i) ++ pickY (l.take (j + 1)) y).flatMap rqC by rw [hp]; simp [List.flatMap_append], show (reqX l (k.reqs.take i) ++ pickY (l.take j) y).length + 1 = (reqX l (k.reqs.take i) ++ pickY (l.take (j + 1)) y).length by rw [hp]; simp; omega]
    (repeat (first | ((with_reducible refine Tr.step rfl ?_); (first | (refine xmQ (z := ?_)) | (refine xaQ (z := ?_)) | (refine xdQ (z := ?_)))) | (with_reducible first | apply Tr.next | apply Tr.region | apply Tr.nil | apply Tr.in_normal)))
    exact Tr.again (j + 1, C2, cc2) ⟨by simp only; omega, hcc2⟩ (by simp only; omega) hsQ
  · have hp := pickY_no hn hyn
    rw [← hp]
    (repeat (first | ((with_reducible refine Tr.step rfl ?_); (first | (refine xmQ (z := ?_)) | (refine xaQ (z := ?_)) | ((with_reducible refine Knd.load ?_); (first | (refine xlQ (z := ?_)) | (refine xMQ (z := ?_)))) | (refine xfQ (z := ?_)) | ((with_reducible refine Knd.binOp ?_); (first | (refine xdQ (z := ?_)) | (refine xiQ (z := ?_)))) | (refine xxQ (z := ?_)))) | (with_reducible first | apply Tr.next | apply Tr.seq | apply Tr.region | apply Tr.nil | apply Tr.skip | apply Tr.block | apply Tr.in_normal) | (refine Tr.cond_t rfl (by first | (with_reducible assumption) | (with_reducible rfl) | (with_reducible exact (not_not_intro rfl)) | omega) ?_) | (refine Tr.cond_f rfl (by first | (with_reducible assumption) | (with_reducible rfl) | (with_reducible exact (not_not_intro rfl)) | omega) ?_)))
    exact Tr.again (j + 1, C, cc) ⟨by simp only; omega, hcc⟩ (by simp only; omega) hsQ
set_option maxHeartbeats 8000000 in
set_option maxRecDepth 20000 in
theorem meet_fn (M : Mem) (ws : List Value) (w : Wd) (hw : RWd M ws w) (As Ar : Option Addr) (cs cr : Nat) (s : List Sp) (r : List Rq) (known : Int) (h1 : SlOf 6 RSpC M (.slice As s.length cs) s) (h2 : SlOf 6 RRqC M (.slice Ar r.length cr) r) (hokT : okT s r) :
    Fn0 Try.prog 11 [.agg ws.toArray, .slice As s.length cs, .slice Ar r.length cr, .int .i64 known] M (fun v _ => ∃ p : Bool, v = .tuple #[.bool p, .bool true] ∧ (p = true ↔ Feas (pbW w known s r))) := by
  have h11 := hw.len
  have l1 := hokT.1.1
  have l2 := hokT.1.2
  refine Fn.intro Try.func11 rfl rfl Try.ntmps11 rfl fun E F => ?_
  (repeat (first | ((with_reducible refine Tr.step rfl ?_); (first | (refine xmQ (z := ?_)) | (refine xaQ (z := ?_)) | ((with_reducible refine Knd.load ?_); (refine Exec.stab rfl (Stab.loadW rfl (tysOk.get rfl) rfl (by repeat (first | exact Has.here | apply Has.there)) (by assumption)) rfl ?_)) | ((with_reducible refine Knd.box ?_); (refine Exec.box rfl rfl (fun b => ?_))))) | (with_reducible first | apply Tr.next | apply Tr.seq | apply Tr.region | apply Tr.nil)))
  generalize b = b4
  ((refine Tr.step rfl ?_)); refine Exec.call0 rfl (table_fn M ws w hw As Ar cs cr s r known h1 h2) rfl ?_
  rintro _ M1 hm1 (⟨hnk, -⟩ | ⟨-, A5, c5, B5, k5, rfl, hf, hrd⟩)
  · exact absurd hokT hnk
  have h1' := h1.mono RSpC.mono hm1
  have h2' := h2.mono RRqC.mono hm1
  (repeat (first | ((with_reducible refine Tr.step rfl ?_); (first | (refine xmQ (z := ?_)) | (refine xaQ (z := ?_)) | (refine xnQ (z := ?_)) | ((with_reducible refine Knd.extract ?_); (refine Exec.stab rfl (Stab.extract rfl rfl) rfl ?_)))) | (with_reducible first | apply Tr.next | apply Tr.seq | apply Tr.region | apply Tr.nil | apply Tr.block)))
  refine Tr.own_nil 3 1 ?_
  refine Tr.loop (α := Nat × Option Addr × Nat) (fun y => ⟨71, [(33, .int .i64 (y.1 : Int)), (32, .int .i64 (s.length : Int)), (31, .slice As s.length cs), (13, .slice y.2.1 y.1 y.2.2), (14, .slice none 0 0), (2, .slice Ar r.length cr), (10, .slice A5 (fitsT w known s r).length c5), (12, .int .i64 0)], [], M1, ownS 3 1 y.2.1 y.1 y.2.2 (intV ((s.take y.1).map (·.amount))) :: (box b4 38 ws :: ([] ++ F))⟩)
    (fun y => y.1 ≤ s.length ∧ y.2.2 ≤ 9223372036854775807) (fun y => s.length - y.1) (0, none, 0) ⟨Nat.zero_le _, by simp⟩ hsQ (fun y hy => ?_)
  obtain ⟨i, A1, c1⟩ := y
  obtain ⟨hi, hc1⟩ := hy
  simp only at hi hc1
  dsimp only
  by_cases hlt : i < s.length
  · obtain ⟨y, hy⟩ := get_of_lt hlt
    obtain ⟨hA, ch, hat, rfl⟩ := h1'.elem hy
    simp only [spC] at hat
    have e1 := nums_take (·.amount) hy
    (repeat (first | ((with_reducible refine Tr.step rfl ?_); (first | (refine xmQ (z := ?_)) | ((with_reducible refine Knd.load ?_); (first | (refine xlQ (z := ?_)) | (refine Exec.stab rfl (Stab.loadMA rfl (tysOk.get rfl) rfl (by assumption) (by first | rfl | assumption)) rfl ?_))) | (refine xfQ (z := ?_)) | (refine xiQ (z := ?_)) | ((with_reducible refine Knd.store ?_); (refine Exec.storeW rfl rfl (tysOk.get rfl) (by repeat (first | exact Upd.here | apply Upd.there)) rfl rfl (by repeat (first | (with_reducible assumption) | exact AllOne.nil | exact AllOne.bytes _ | refine AllOne.cons (by first | rfl | assumption) ?_)) ?_)) | ((with_reducible refine Knd.alloc ?_); (refine Exec.alloc (tysOk.get rfl) rfl rfl (fun b => ?_))) | (refine xxQ (z := ?_)) | ((with_reducible refine Knd.buildSlice ?_); (refine Exec.buildSlice (tysOk.get rfl) rfl (tysOk.get rfl) rfl rfl rfl rfl rfl (by repeat (first | exact BuildP.nil | ((apply BuildP.one); (rfl); (rfl); (first | rfl | assumption); (repeat (first | exact SetL.z | apply SetL.s))) | ((apply BuildP.many); (rfl); (rfl); (rfl); (rfl); (repeat (first | exact PutL.nil | ((apply PutL.cons); (repeat (first | exact SetL.z | apply SetL.s)))))))) rfl (fun b => ?_))))) | (with_reducible first | apply Tr.next | apply Tr.seq | apply Tr.region | apply Tr.nil | apply Tr.skip | apply Tr.block) | (refine Tr.cond_t rfl (by first | (with_reducible assumption) | (with_reducible rfl) | (with_reducible exact (not_not_intro rfl)) | omega) ?_)))
    ((refine Tr.step rfl ?_))
    refine Exec.append (news := [.int .i64 y.amount]) rfl rfl (tysOk.get rfl) rfl (tysOk.get rfl) rfl rfl rfl rfl (by repeat (first | exact Del.here | apply Del.there)) (Src.box (by repeat (first | exact Has.here | apply Has.there))) rfl (by intro u hu; simp at hu; subst hu; rfl) (by omega) (by omega) rfl (fun A3 c3 hc3 => ?_)
    refine gvQ (r := box b 3 _) (k := ?_)
    rw [show intV ((s.take i).map (·.amount)) ++ [Value.int .i64 y.amount] = intV ((s.take (i + 1)).map (·.amount)) by rw [e1, intV_append]; rfl]
    (repeat (first | ((with_reducible refine Tr.step rfl ?_); (first | (refine xmQ (z := ?_)) | (refine xaQ (z := ?_)) | (refine xdQ (z := ?_)))) | (with_reducible first | apply Tr.next | apply Tr.region | apply Tr.nil | apply Tr.in_normal)))
    refine gvQ (r := box _ 77 _) (k := ?_)
    exact Tr.again (i + 1, A3, c3) ⟨by simp only; omega, hc3⟩ (by simp only; omega) hsQ
  have ei : i = s.length := by omega
  subst ei
  rw [List.take_length]
  (repeat (first | ((with_reducible refine Tr.step rfl ?_); (first | (refine xmQ (z := ?_)) | (refine xnQ (z := ?_)) | (refine xiQ (z := ?_)))) | (with_reducible first | apply Tr.next | apply Tr.seq | apply Tr.region | apply Tr.nil | apply Tr.block | apply Tr.exit | apply Tr.then_exit) | ((with_reducible refine Tr.in_exit ?_ ?_); (exact rfl)) | (refine Tr.cond_f rfl (by first | (with_reducible assumption) | (with_reducible rfl) | (with_reducible exact (not_not_intro rfl)) | omega) ?_)))
  refine Tr.own_nil 3 1 ?_
  refine Tr.loop (α := Nat × Option Addr × Nat) (fun y => ⟨71, [(45, .int .i64 (y.1 : Int)), (44, .int .i64 (r.length : Int)), (43, .slice Ar r.length cr), (14, .slice y.2.1 y.1 y.2.2), (13, .slice A1 s.length c1), (10, .slice A5 (fitsT w known s r).length c5), (12, .int .i64 0)], [], M1, ownS 3 1 y.2.1 y.1 y.2.2 (intV ((r.take y.1).map (·.amount))) :: ownS 3 1 A1 s.length c1 (intV (s.map (·.amount))) :: (box b4 38 ws :: ([] ++ F))⟩)
    (fun y => y.1 ≤ r.length ∧ y.2.2 ≤ 9223372036854775807) (fun y => r.length - y.1) (0, none, 0) ⟨Nat.zero_le _, by simp⟩ hsQ (fun y hy => ?_)
  obtain ⟨i, A2, c2⟩ := y
  obtain ⟨hi, hc2⟩ := hy
  simp only at hi hc2
  dsimp only
  by_cases hlt : i < r.length
  · obtain ⟨y, hy⟩ := get_of_lt hlt
    obtain ⟨hA, ch, hat, rfl⟩ := h2'.elem hy
    simp only [rqC] at hat
    have e1 := nums_take (·.amount) hy
    (repeat (first | ((with_reducible refine Tr.step rfl ?_); (first | (refine xmQ (z := ?_)) | ((with_reducible refine Knd.load ?_); (first | (refine xlQ (z := ?_)) | (refine Exec.stab rfl (Stab.loadMA rfl (tysOk.get rfl) rfl (by assumption) (by first | rfl | assumption)) rfl ?_))) | (refine xfQ (z := ?_)) | (refine xiQ (z := ?_)) | ((with_reducible refine Knd.store ?_); (refine Exec.storeW rfl rfl (tysOk.get rfl) (by repeat (first | exact Upd.here | apply Upd.there)) rfl rfl (by repeat (first | (with_reducible assumption) | exact AllOne.nil | exact AllOne.bytes _ | refine AllOne.cons (by first | rfl | assumption) ?_)) ?_)) | ((with_reducible refine Knd.alloc ?_); (refine Exec.alloc (tysOk.get rfl) rfl rfl (fun b => ?_))) | (refine xxQ (z := ?_)) | ((with_reducible refine Knd.buildSlice ?_); (refine Exec.buildSlice (tysOk.get rfl) rfl (tysOk.get rfl) rfl rfl rfl rfl rfl (by repeat (first | exact BuildP.nil | ((apply BuildP.one); (rfl); (rfl); (first | rfl | assumption); (repeat (first | exact SetL.z | apply SetL.s))) | ((apply BuildP.many); (rfl); (rfl); (rfl); (rfl); (repeat (first | exact PutL.nil | ((apply PutL.cons); (repeat (first | exact SetL.z | apply SetL.s)))))))) rfl (fun b => ?_))))) | (with_reducible first | apply Tr.next | apply Tr.seq | apply Tr.region | apply Tr.nil | apply Tr.skip | apply Tr.block) | (refine Tr.cond_t rfl (by first | (with_reducible assumption) | (with_reducible rfl) | (with_reducible exact (not_not_intro rfl)) | omega) ?_)))
    ((refine Tr.step rfl ?_))
    refine Exec.append (news := [.int .i64 y.amount]) rfl rfl (tysOk.get rfl) rfl (tysOk.get rfl) rfl rfl rfl rfl (by repeat (first | exact Del.here | apply Del.there)) (Src.box (by repeat (first | exact Has.here | apply Has.there))) rfl (by intro u hu; simp at hu; subst hu; rfl) (by omega) (by omega) rfl (fun A3 c3 hc3 => ?_)
    refine gvQ (r := box b 3 _) (k := ?_)
    rw [show intV ((r.take i).map (·.amount)) ++ [Value.int .i64 y.amount] = intV ((r.take (i + 1)).map (·.amount)) by rw [e1, intV_append]; rfl]
    (repeat (first | ((with_reducible refine Tr.step rfl ?_); (first | (refine xmQ (z := ?_)) | (refine xaQ (z := ?_)) | (refine xdQ (z := ?_)))) | (with_reducible first | apply Tr.next | apply Tr.region | apply Tr.nil | apply Tr.in_normal)))
    refine gvQ (r := box _ 46 _) (k := ?_)
    exact Tr.again (i + 1, A3, c3) ⟨by simp only; omega, hc3⟩ (by simp only; omega) hsQ
  have ei : i = r.length := by omega
  subst ei
  rw [List.take_length]
  refine pbQ (r := ownS 3 1 A2 _ _ _) (k := fun M2 hm2 hok => ?_)
  refine pbQ (r := ownS 3 1 A1 _ _ _) (k := fun M3 hm3 hok2 => ?_)
  have hI1 : Ints M3 (.slice A1 (amS s).length c1) (amS s) := Ints.ofOwn hok2 (by simp [amS]) hc1
  have hI2 : Ints M3 (.slice A2 (amR r).length c2) (amR r) := (Ints.ofOwn hok (by simp) hc2).mono RI.mono hm3
  have hmm := hm2.trans hm3
  have hmm1 := hm1.trans hmm
  rw [show s.length = (amS s).length by simp [amS], show r.length = (amR r).length by simp [amR]]
  have hvld := okT_vld (w := w) (known := known) hokT
  have rs : I64s (amS s) := fun x hx => by have := hvld.rs x hx; omega
  have rn : I64s (amR r) := fun x hx => by have := hvld.rn x hx; omega
  (repeat (first | ((with_reducible refine Tr.step rfl ?_); (first | (refine xmQ (z := ?_)) | (refine xiQ (z := ?_)))) | (with_reducible first | apply Tr.next | apply Tr.seq | apply Tr.region | apply Tr.nil | apply Tr.exit | apply Tr.then_exit) | ((with_reducible refine Tr.in_exit ?_ ?_); (exact rfl)) | (refine Tr.cond_f rfl (by first | (with_reducible assumption) | (with_reducible rfl) | (with_reducible exact (not_not_intro rfl)) | omega) ?_)))
  ((refine Tr.step rfl ?_)); refine Exec.call0 rfl (flow_fn M3 A5 A1 A2 c5 c1 c2 (fitsT w known s r) (amS s) (amR r) (hf.mono RRowB.mono hmm) hI1 hI2 rs rn) rfl ?_
  rintro _ M5 hm5 (⟨hbad, -⟩ | ⟨-, hnf, B, kk, rfl, -⟩ | ⟨-, al, hlex, A9, c9, rfl, -⟩)
  · rw [vld_iff.2 hvld] at hbad
    cases hbad
  · have hm05 := hmm1.trans hm5
    (repeat (first | ((with_reducible refine Tr.step rfl ?_); (first | (refine xmQ (z := ?_)) | (refine xaQ (z := ?_)) | (refine xiQ (z := ?_)) | ((with_reducible refine Knd.pick ?_); (refine Exec.stab rfl (Stab.pick_td rfl (by first | (with_reducible assumption) | (with_reducible rfl) | (with_reducible exact (not_not_intro rfl)) | omega) rfl) rfl ?_)) | ((with_reducible refine Knd.extract ?_); (refine Exec.stab rfl (Stab.extract rfl rfl) rfl ?_)))) | (with_reducible first | apply Tr.next | apply Tr.seq | apply Tr.region | apply Tr.nil) | ((refine Tr.guard_y rfl rfl rfl (by first | (with_reducible assumption) | (with_reducible rfl) | (with_reducible exact (not_not_intro rfl)) | omega) ?_); (first | (refine xmQ (z := ?_)) | (refine xiQ (z := ?_)))) | (with_reducible refine Tr.ret ?_)))
    (refine dnQ (hL := by exact ⟨[_], rfl⟩) (k := ⟨rfl, ?_⟩))
    exact ⟨false, rfl, ⟨fun h => (by cases h), fun h => absurd h hnf⟩⟩
  · have hm05 := hmm1.trans hm5
    (repeat (first | ((with_reducible refine Tr.step rfl ?_); (first | (refine xmQ (z := ?_)) | (refine xaQ (z := ?_)) | (refine xiQ (z := ?_)) | ((with_reducible refine Knd.pick ?_); (refine Exec.stab rfl (Stab.pick_td rfl (by first | (with_reducible assumption) | (with_reducible rfl) | (with_reducible exact (not_not_intro rfl)) | omega) rfl) rfl ?_)) | ((with_reducible refine Knd.extract ?_); (refine Exec.stab rfl (Stab.extract rfl rfl) rfl ?_)))) | (with_reducible first | apply Tr.next | apply Tr.seq | apply Tr.region | apply Tr.nil) | ((refine Tr.guard_y rfl rfl rfl (by first | (with_reducible assumption) | (with_reducible rfl) | (with_reducible exact (not_not_intro rfl)) | omega) ?_); (first | (refine xmQ (z := ?_)) | (refine xiQ (z := ?_)))) | (with_reducible refine Tr.ret ?_)))
    (refine dnQ (hL := by exact ⟨[_], rfl⟩) (k := ⟨rfl, ?_⟩))
    exact ⟨true, rfl, ⟨fun _ => ⟨al, hlex.1⟩, fun _ => rfl⟩⟩
end Go.Proofs.Ytlifjajcmnkhfaa

/-
  Refusals: Check.
  Conditions: none.
-/
namespace Go.Proofs.Ytlifjajcmnkhfaa
open Go Bf
attribute [local irreducible] Tr Exec Stab HasTy Go.Addr.add IntKind.wrap
def idxN (reqs : List Rq) (n : Int) : Option Nat := (reqs.map (·.no)).findIdx? fun q => decide (q = n)
/-- the places of requests with some numbers, in order -/
def posF (reqs : List Rq) : List Int → Nat → Option (List Nat)
  | [], _ => some []
  | n :: l, from_ => match idxN reqs n with
    | none => none
    | some j => if from_ ≤ j then (posF reqs l (j + 1)).map (j :: ·) else none
def MapAt (es : List MapEntry) (l : List Rq) : Prop := IntKeys es ∧ ∀ q : Int, valE q es = (idxN l q).map fun j => .int .i64 (j : Int)
theorem MapAt.nil : MapAt [] [] := ⟨IntKeys.nil, fun q => by simp [valE, lookE, idxN]⟩
theorem MapAt.add {es : List MapEntry} {l : List Rq} (h : MapAt es l) {x : Rq} (hx : x.no ∉ l.map (·.no)) (cl : Nat) : MapAt (updE x.no (.int .i64 (l.length : Int)) es cl).1 (l ++ [x]) := by
  refine ⟨updE_keys h.1, fun q => ?_⟩
  rw [updE_val, h.2 q]
  unfold idxN
  rw [List.map_append, List.findIdx?_append]
  by_cases e : q = x.no
  · subst e
    rw [if_pos rfl]
    have : (l.map (·.no)).findIdx? (fun q => decide (q = x.no)) = none := by
      rw [List.findIdx?_eq_none_iff]
      intro y hy
      simp only [decide_eq_false_iff_not]
      exact fun h => hx (h ▸ hy)
    rw [this]
    simp
  · rw [if_neg e]
    have : ([x].map (·.no)).findIdx? (fun q' => decide (q' = q)) = none := by
      rw [List.findIdx?_eq_none_iff]
      intro y hy
      simp at hy
      subst hy
      simp only [decide_eq_false_iff_not]
      exact fun h => e h.symm
    rw [this]
    simp
theorem idxN_lt {reqs : List Rq} {n : Int} {j : Nat} (h : idxN reqs n = some j) : j < reqs.length := by
  have := (List.findIdx?_eq_some_iff_getElem.1 h).1
  simpa using this
/-- what Check accepts -/
def chkF (w : Wd) (k : Bp) (r : Rq) (l : List Int) : Prop := ∃ ps, posF k.reqs l 0 = some ps ∧ CutP (fitsT w k.known k.sups (k.reqs ++ [r])) (amS k.sups) (amR (k.reqs ++ [r])) ((ps ++ [k.reqs.length]).map Int.ofNat)
def CheckV (w : Wd) (k : Bp) (r : Rq) (l : List Int) (v : Value) : Prop :=
  (askE w k r ≠ 0 ∧ v = .tuple #[.bool false, .int .i64 (askE w k r)]) ∨ (askE w k r = 0 ∧ okB w k ∧ ∃ b : Bool, v = .tuple #[.bool b, .int .i64 0] ∧ (b = true ↔ chkF w k r l))
theorem getD_last {ps : List Nat} {m j : Nat} (hl : ps.length = m + 1) (h : ps[m]? = some j) : (intV (ps.map Int.ofNat))[((ps.length : Int) - 1).toNat]? = some (.int .i64 (j : Int)) := by
  have e : ((ps.length : Int) - 1).toNat = m := by omega
  rw [e]
  simp [intV, h]
set_option maxHeartbeats 16000000 in
set_option maxRecDepth 20000 in
theorem rcheck_fn (M : Mem) (ws : List Value) (w : Wd) (hw : RWd M ws w) (v : Value) (k : Bp) (hk : RBp M v k) (r : Rq) (A : Option Addr) (c : Nat) (l : List Int) (hl : Ints M (.slice A l.length c) l) (hll : l.length ≤ 1000) :
    Fn0 Try.prog 9 [.agg ws.toArray, v, .agg #[.int .i64 r.no, .int .i64 r.item, .int .i64 r.cust, .int .i64 r.due, .int .i64 r.shelf, .int .i64 r.amount], .slice A l.length c] M (fun v _ => CheckV w k r l v) := by
  have h11 := hw.len
  have hk0 := hk
  obtain ⟨As, cs, Ar, cr, Af, cf, Ad, cd, rfl, h1, h2, h3, h4⟩ := hk
  have hl3 := h3.len_le
  refine Fn.intro Try.func9 rfl rfl Try.ntmps9 rfl fun E F => ?_
  (repeat (first | ((with_reducible refine Tr.step rfl ?_); (first | (refine xaQ (z := ?_)) | ((with_reducible refine Knd.load ?_); (first | (refine xwQ (z := ?_)) | (refine Exec.stab rfl (Stab.loadW rfl (tysOk.get rfl) rfl (by repeat (first | exact Has.here | apply Has.there)) (by assumption)) rfl ?_))) | ((with_reducible refine Knd.box ?_); (refine Exec.box rfl rfl (fun b => ?_))))) | (with_reducible first | apply Tr.next | apply Tr.seq | apply Tr.region | apply Tr.nil)))
  rename_i b4 b5
  generalize b = b6
  ((refine Tr.step rfl ?_)); refine Exec.call0 rfl (askA_fn M ws w hw _ k hk0 hl3 r) rfl ?_
  rintro _ M1 hm1 (⟨hask, hv, x, a, rfl, -⟩ | ⟨hne, rfl⟩)
  rotate_left
  · (repeat (first | ((with_reducible refine Tr.step rfl ?_); (first | (refine xmQ (z := ?_)) | (refine xaQ (z := ?_)) | (refine xiQ (z := ?_)) | ((with_reducible refine Knd.extract ?_); (refine Exec.stab rfl (Stab.extract rfl rfl) rfl ?_)))) | (with_reducible first | apply Tr.next | apply Tr.seq | apply Tr.region | apply Tr.nil | apply Tr.ret | apply Tr.then_ret) | (refine Tr.cond_t rfl (by first | (with_reducible assumption) | (with_reducible rfl) | (with_reducible exact (not_not_intro rfl)) | omega) ?_)))
    (refine dnQ (hL := by exact ⟨[_, _, _], rfl⟩) (k := ⟨rfl, ?_⟩))
    exact .inl ⟨hne, rfl⟩
  obtain ⟨-, hno, hok⟩ := askE_zero hask
  have l64 := hv.2.1.1
  (repeat (first | ((with_reducible refine Tr.step rfl ?_); (first | (refine xmQ (z := ?_)) | (refine xaQ (z := ?_)) | (refine xiQ (z := ?_)) | ((with_reducible refine Knd.extract ?_); (refine Exec.stab rfl (Stab.extract rfl rfl) rfl ?_)))) | (with_reducible first | apply Tr.next | apply Tr.seq | apply Tr.region | apply Tr.nil | apply Tr.skip) | (refine Tr.cond_f rfl (by first | (with_reducible assumption) | (with_reducible rfl) | (with_reducible exact (not_not_intro rfl)) | omega) ?_)))
  (((apply Tr.draw); (kernel_rfl)); (refine tkQ 0 (hB := by exact fun _ h => h) (s := by exact sfQ) (h := ?_)); (refine tkQ 3 (s := by exact swQ) (h := ?_)); (refine tkQ 1 (s := by exact slQ) (h := ?_)))
  ((refine TrM.start1 _ (PA.build1 4 [(37, .agg #[.int .i64 r.no, .int .i64 r.item, .int .i64 r.cust, .int .i64 r.due, .int .i64 r.shelf, .int .i64 r.amount])] rfl (by first | exact .inl rfl | exact .inr ⟨_, _, _, rfl, rfl, rfl⟩) rfl (tysOk.get rfl) rfl (tysOk.get rfl) rfl rfl rfl rfl rfl (by first | rfl | assumption) rfl) (by kernel_rfl) ?_); (refine TrM.eff 2 rfl (by kernel_rfl) (by first | exact .inl rfl | exact .inr ⟨_, _, _, rfl, rfl, rfl⟩) (by repeat (first | exact PendOk.nil | refine PendOk.cons rfl (by repeat (first | exact SubFr.nil | refine SubFr.cons rfl ?_)) ?_)) (by exact fun _ h => h) (by repeat (first | apply AppF.cons | exact AppF.nil | exact AppF.app)) (by repeat (first | apply AppF.cons | exact AppF.nil | exact AppF.app)) (fun Y X => ?_)))
  refine Exec.call (A := []) rfl (cloneRq_fn M1 Ar cr k.reqs (h2.mono RRqC.mono hm1) (by omega)) (List.Perm.refl _) rfl ?_
  rintro _ _ _ _ ⟨⟨B6, k6, rfl, hk6, rfl⟩, rfl⟩
  (refine ⟨_, _, (by repeat (first | apply App.cons | exact App.nil | exact App.app)), (by repeat (first | apply App.cons | exact App.nil | exact App.app)), rfl, (by first | exact Mem.le.refl _ | assumption), (by exact (Sub.mem (by repeat (first | exact Sub.refl | apply Sub.cons)))), ?_⟩)
  ((refine TrM.settle (by kernel_rfl) (by repeat (first | exact PendOk.nil | refine PendOk.cons rfl (by repeat (first | exact SubFr.nil | refine SubFr.cons rfl ?_)) ?_)) (by exact (Sub.mem (by repeat (first | exact Sub.refl | apply Sub.cons)))) (fun b => ?_)); dsimp only; (refine TrM.fin ?_))
  ((refine TrA.eff 5 rfl (by kernel_rfl) (by first | exact .inl rfl | exact .inr ⟨_, _, _, rfl, rfl, rfl⟩) ?_))
  refine Exec.append (news := rqC r) rfl rfl (tysOk.get rfl) rfl (tysOk.get rfl) rfl rfl rfl rfl (by repeat (first | exact Del.here | apply Del.there)) (Src.box (by repeat (first | exact Has.here | apply Has.there))) rfl (rqC_one _) (by omega) (by omega) rfl (fun A8 c8 hc8 => ?_)
  refine ⟨(by first | exact Mem.le.refl _ | assumption), (by exact (Sub.mem (by repeat (first | exact Sub.refl | apply Sub.cons)))), ?_⟩
  ((refine tkQ 6 (s := by exact Stab.assign rfl) (h := ?_)); (refine TrA.done (by kernel_rfl) ?_))
  rw [show k.reqs.flatMap rqC ++ rqC r = (k.reqs ++ [r]).flatMap rqC by rw [List.flatMap_append]; simp, show k.reqs.length + 1 = (k.reqs ++ [r]).length by simp]
  refine pbQ (r := ownS 46 6 _ _ _ _) (k := fun M8 hm8 hok8 => ?_)
  have hR8 : SlOf 6 RRqC M8 (.slice A8 (k.reqs ++ [r]).length c8) (k.reqs ++ [r]) := SlOf.ofOwn hok8 rfl hc8 (rqC_elems _ _)
  have hm08 := hm1.trans hm8
  refine gvQ (r := box b6 _ _) (k := ?_)
  refine gvQ (r := box _ 46 _) (k := ?_)
  (repeat (first | ((with_reducible refine Tr.step rfl ?_); (first | (refine xmQ (z := ?_)) | ((with_reducible refine Knd.load ?_); (first | (refine xlQ (z := ?_)) | (refine Exec.stab rfl (Stab.loadW rfl (tysOk.get rfl) rfl (by repeat (first | exact Has.here | apply Has.there)) (by assumption)) rfl ?_))) | (refine xfQ (z := ?_)))) | (with_reducible first | apply Tr.next | apply Tr.seq | apply Tr.region)))
  ((refine Tr.step rfl ?_)); refine Exec.call0 rfl (table_fn M8 ws w (hw.mono hm08) As A8 cs c8 k.sups (k.reqs ++ [r]) k.known (h1.mono RSpC.mono hm08) hR8) rfl ?_
  rintro _ M5 hm5 (⟨hnk, -⟩ | ⟨-, A5, c5, B5, k5, rfl, hf, hrd⟩)
  · exact absurd hok hnk
  have hm05 := hm08.trans hm5
  have h2' := h2.mono RRqC.mono hm05
  have hl' : Ints M5 (.slice A l.length c) l := hl.mono RI.mono hm05
  (repeat (first | ((with_reducible refine Tr.step rfl ?_); (first | (refine xmQ (z := ?_)) | (refine xaQ (z := ?_)) | (refine xlQ (z := ?_)) | (refine xfQ (z := ?_)) | (refine xnQ (z := ?_)) | (refine xiQ (z := ?_)) | ((with_reducible refine Knd.makeMap ?_); (refine Exec.makeMap rfl (fun b => ?_))) | ((with_reducible refine Knd.extract ?_); (refine Exec.stab rfl (Stab.extract rfl rfl) rfl ?_)))) | (with_reducible first | apply Tr.next | apply Tr.seq | apply Tr.region | apply Tr.nil | apply Tr.skip | apply Tr.block) | (refine Tr.cond_f rfl (by first | (with_reducible assumption) | (with_reducible rfl) | (with_reducible exact (not_not_intro rfl)) | omega) ?_)))
  generalize b = mb
  refine Tr.loop (α := Nat × List MapEntry × Nat) (fun y => ⟨121, [(58, .int .i64 (y.1 : Int)), (57, .int .i64 (k.reqs.length : Int)), (56, .slice Ar k.reqs.length cr), (13, .map (some mb)), (3, .slice A l.length c), (5, .pointer (some ⟨b5, 0, none⟩)), (10, .slice A8 (k.reqs ++ [r]).length c8), (11, .slice A5 (fitsT w k.known k.sups (k.reqs ++ [r])).length c5)], [], M5, mapR mb y.2.1 y.2.2 :: box b5 44 [.int .i64 k.known, .slice As k.sups.length cs, .slice Ar k.reqs.length cr, .slice Af k.fits.length cf, .slice Ad k.rds.length cd] :: box b4 38 ws :: ([] ++ F)⟩)
    (fun y => y.1 ≤ k.reqs.length ∧ MapAt y.2.1 (k.reqs.take y.1)) (fun y => k.reqs.length - y.1) (0, [], 0) ⟨Nat.zero_le _, MapAt.nil⟩ hsQ (fun y hy => ?_)
  obtain ⟨i, es, cl⟩ := y
  obtain ⟨hi, hn⟩ := hy
  simp only at hi hn
  dsimp only
  by_cases hlt : i < k.reqs.length
  · obtain ⟨x, hx⟩ := get_of_lt hlt
    obtain ⟨hA, ch, hat, rfl⟩ := h2'.elem hx
    simp only [rqC] at hat
    have hkeys := hn.1
    (repeat (first | ((with_reducible refine Tr.step rfl ?_); (first | (refine xmQ (z := ?_)) | (refine xaQ (z := ?_)) | ((with_reducible refine Knd.load ?_); (first | (refine xlQ (z := ?_)) | (refine Exec.stab rfl (Stab.loadMA rfl (tysOk.get rfl) rfl (by assumption) (by first | rfl | assumption)) rfl ?_))) | (refine xfQ (z := ?_)) | ((with_reducible refine Knd.binOp ?_); (first | (refine xdQ (z := ?_)) | (refine xiQ (z := ?_)))) | ((with_reducible refine Knd.store ?_); (refine Exec.storeW rfl rfl (tysOk.get rfl) (by repeat (first | exact Upd.here | apply Upd.there)) rfl rfl (by repeat (first | (with_reducible assumption) | exact AllOne.nil | exact AllOne.bytes _ | refine AllOne.cons (by first | rfl | assumption) ?_)) ?_)) | ((with_reducible refine Knd.alloc ?_); (refine Exec.alloc (tysOk.get rfl) rfl rfl (fun b => ?_))) | ((with_reducible refine Knd.mapUpdate ?_); (refine Exec.mapUpdate rfl rfl rfl (tysOk.get rfl) rfl (tysOk.get rfl) rfl (by assumption) (by repeat (first | exact Upd.here | apply Upd.there)) ?_)) | (refine xxQ (z := ?_)))) | (with_reducible first | apply Tr.next | apply Tr.seq | apply Tr.region | apply Tr.nil | apply Tr.skip | apply Tr.block | apply Tr.in_normal) | (refine Tr.cond_t rfl (by first | (with_reducible assumption) | (with_reducible rfl) | (with_reducible exact (not_not_intro rfl)) | omega) ?_)))
    refine Tr.again (i + 1, (updE x.no (.int .i64 (i : Int)) es cl).1, (updE x.no (.int .i64 (i : Int)) es cl).2) ⟨by simp only; omega, ?_⟩ (by simp only; omega) hsQ
    simp only
    have hti : (k.reqs.take i).length = i := by simp; omega
    have hnew : x.no ∉ (k.reqs.take i).map (·.no) := by
      have hnd := hv.1.1
      have h2 := nums_take (·.no) hx
      have h3 : ((k.reqs.take (i + 1)).map (·.no)).Nodup := hnd.sublist ((List.take_sublist _ _).map _)
      rw [h2, List.nodup_append] at h3
      exact fun h => h3.2.2 x.no h x.no (by simp) rfl
    have := hn.add hnew cl
    rw [hti] at this
    rw [List.take_add_one, hx]
    exact this
  have ei : i = k.reqs.length := by omega
  subst ei
  rw [List.take_length] at hn
  have hkeys := hn.1
  (repeat (first | ((with_reducible refine Tr.step rfl ?_); (first | (refine xmQ (z := ?_)) | (refine xaQ (z := ?_)) | (refine xnQ (z := ?_)) | (refine xiQ (z := ?_)))) | (with_reducible first | apply Tr.next | apply Tr.seq | apply Tr.region | apply Tr.nil | apply Tr.block | apply Tr.exit | apply Tr.then_exit) | ((with_reducible refine Tr.in_exit ?_ ?_); (exact rfl)) | (refine Tr.cond_f rfl (by first | (with_reducible assumption) | (with_reducible rfl) | (with_reducible exact (not_not_intro rfl)) | omega) ?_)))
  refine Tr.own_nil 3 1 ?_
  refine Tr.loop (α := Nat × List Nat × Option Addr × Nat) (fun y => ⟨121, [(70, .int .i64 (y.1 : Int)), (69, .int .i64 (l.length : Int)), (68, .slice A l.length c), (16, .slice y.2.2.1 y.2.1.length y.2.2.2), (13, .map (some mb)), (5, .pointer (some ⟨b5, 0, none⟩)), (10, .slice A8 (k.reqs ++ [r]).length c8), (11, .slice A5 (fitsT w k.known k.sups (k.reqs ++ [r])).length c5)], [], M5, ownS 3 1 y.2.2.1 y.2.1.length y.2.2.2 (intV (y.2.1.map Int.ofNat)) :: mapR mb es cl :: box b5 44 [.int .i64 k.known, .slice As k.sups.length cs, .slice Ar k.reqs.length cr, .slice Af k.fits.length cf, .slice Ad k.rds.length cd] :: box b4 38 ws :: ([] ++ F)⟩)
    (fun y => y.1 ≤ l.length ∧ y.2.1.length = y.1 ∧ y.2.2.2 ≤ 9223372036854775807 ∧ posF k.reqs l 0 = (posF k.reqs (l.drop y.1) (match y.2.1.getLast? with | none => 0 | some j => j + 1)).map (y.2.1 ++ ·)) (fun y => l.length - y.1) (0, [], none, 0) ⟨Nat.zero_le _, rfl, by simp, by simp⟩ hsQ (fun y hy => ?_)
  obtain ⟨i, ps, C, cc⟩ := y
  obtain ⟨hi, hpl, hcc, hpos⟩ := hy
  simp only at hi hpl hcc hpos
  dsimp only
  have hmk : ∀ (b : Bool), (b = true ↔ chkF w k r l) → CheckV w k r l (.tuple #[.bool b, .int .i64 0]) := fun b hb => .inr ⟨hask, hv, b, rfl, hb⟩
  by_cases hlt : i < l.length
  · obtain ⟨n, hx⟩ := get_of_lt hlt
    obtain ⟨hA, hat⟩ := hl'.at hx
    have hd : l.drop i = n :: l.drop (i + 1) := by
      obtain ⟨h1, rfl⟩ := List.getElem?_eq_some_iff.1 hx
      exact List.drop_eq_getElem_cons h1
    rw [hd, posF] at hpos
    have hval := hn.2 n
    cases hidx : idxN k.reqs n with
    | none =>
      rw [hidx] at hpos hval
      have hv0 : valE n es = none := hval
      (repeat (first | ((with_reducible refine Tr.step rfl ?_); (first | (refine xmQ (z := ?_)) | (refine xaQ (z := ?_)) | (refine xMQ (z := ?_)) | (refine xiQ (z := ?_)) | ((with_reducible refine Knd.pick ?_); (refine Exec.stab rfl (Stab.pick_t rfl (by first | (with_reducible rfl) | (with_reducible assumption) | (with_reducible exact Bool.not_true) | (with_reducible exact Bool.not_false)) rfl) rfl ?_)) | ((with_reducible refine Knd.unOp ?_); (refine Exec.stab rfl (Stab.not rfl) rfl ?_)) | ((with_reducible refine Knd.lookup ?_); (refine Exec.stab rfl (Stab.lookup2n rfl rfl (tysOk.get rfl) rfl (tysOk.get rfl) rfl (tysOk.get rfl) rfl (by repeat (first | exact Has.here | apply Has.there)) (by assumption) (by assumption)) rfl ?_)) | ((with_reducible refine Knd.extract ?_); (refine Exec.stab rfl (Stab.extract rfl rfl) rfl ?_)) | (refine xxQ (z := ?_)))) | (with_reducible first | apply Tr.next | apply Tr.seq | apply Tr.region | apply Tr.nil) | (refine Tr.guard_s0 rfl rfl rfl (by first | (with_reducible rfl) | (with_reducible assumption) | (with_reducible exact Bool.not_true) | (with_reducible exact Bool.not_false)) rfl rfl ?_) | (refine Tr.guard_u rfl rfl rfl rfl rfl ?_) | (with_reducible first | apply Tr.skip | apply Tr.block | apply Tr.ret | apply Tr.then_ret | apply Tr.in_ret) | (refine Tr.cond_bt rfl (by first | (with_reducible rfl) | (with_reducible assumption) | (with_reducible exact Bool.not_true) | (with_reducible exact Bool.not_false)) ?_) | (refine Tr.cond_t rfl (by first | (with_reducible assumption) | (with_reducible rfl) | (with_reducible exact (not_not_intro rfl)) | omega) ?_)))
      (refine dnQ (hL := by exact ⟨[_, _, _, _], rfl⟩) (k := ⟨rfl, ?_⟩))
      exact hmk false ⟨fun h => (by cases h), fun ⟨ps', h1, _⟩ => (by rw [h1] at hpos; cases hpos)⟩
    | some j =>
      rw [hidx] at hpos hval
      have hjl := idxN_lt hidx
      have hv0 : valE n es = some (.int .i64 (j : Int)) := hval
      simp only at hpos
      by_cases hz : 0 < ps.length
      · obtain ⟨m, hm⟩ : ∃ m, ps.length = m + 1 := ⟨ps.length - 1, by omega⟩
        obtain ⟨last, hlast⟩ := get_of_lt (xs := ps) (i := m) (by omega)
        have hgl : ps.getLast? = some last := by rw [List.getLast?_eq_getElem?, hm]; exact hlast
        have hload := getD_last hm hlast
        rw [hgl] at hpos
        simp only at hpos
        refine Tr.own_some C (by repeat (first | exact Has.here | apply Has.there)) hz (fun hCs => ?_)
        by_cases hle : (j : Int) ≤ (last : Int)
        · rw [if_neg (by omega)] at hpos
          (repeat (first | ((with_reducible refine Tr.step rfl ?_); (first | (refine xmQ (z := ?_)) | (refine xaQ (z := ?_)) | (refine xMQ (z := ?_)) | (refine xiQ (z := ?_)) | ((with_reducible refine Knd.pick ?_); (refine Exec.stab rfl (Stab.pick_f rfl (by first | (with_reducible rfl) | (with_reducible assumption) | (with_reducible exact Bool.not_true) | (with_reducible exact Bool.not_false)) rfl) rfl ?_)) | ((with_reducible refine Knd.unOp ?_); (refine Exec.stab rfl (Stab.not rfl) rfl ?_)) | ((with_reducible refine Knd.lookup ?_); (refine Exec.stab rfl (Stab.lookup2s rfl rfl (tysOk.get rfl) rfl (tysOk.get rfl) rfl (tysOk.get rfl) (by repeat (first | exact Has.here | apply Has.there)) (by assumption) (by assumption)) rfl ?_)) | ((with_reducible refine Knd.extract ?_); (refine Exec.stab rfl (Stab.extract rfl rfl) rfl ?_)) | (refine xxQ (z := ?_)))) | (with_reducible first | apply Tr.next | apply Tr.seq | apply Tr.region | apply Tr.nil) | ((refine Tr.guard_l rfl rfl rfl (by first | (with_reducible rfl) | (with_reducible assumption) | (with_reducible exact Bool.not_true) | (with_reducible exact Bool.not_false)) ?_); (first | (refine xmQ (z := ?_)) | (refine xnQ (z := ?_)) | (refine xiQ (z := ?_)) | ((with_reducible refine Knd.pick ?_); (refine Exec.stab rfl (Stab.pick_td rfl (by first | (with_reducible assumption) | (with_reducible rfl) | (with_reducible exact (not_not_intro rfl)) | omega) rfl) rfl ?_)))) | ((refine Tr.guard_y rfl rfl rfl (by first | (with_reducible assumption) | (with_reducible rfl) | (with_reducible exact (not_not_intro rfl)) | omega) ?_); (first | (refine xmQ (z := ?_)) | ((with_reducible refine Knd.load ?_); (refine Exec.stab rfl (Stab.loadO rfl (tysOk.get rfl) rfl (by repeat (first | exact Has.here | apply Has.there)) (by assumption)) rfl ?_)) | (refine xnQ (z := ?_)) | ((with_reducible refine Knd.binOp ?_); (first | (refine Exec.stab rfl (Stab.subi rfl rfl (by omega)) rfl ?_) | (refine xiQ (z := ?_)))) | (refine xxQ (z := ?_)))) | (with_reducible first | apply Tr.skip | apply Tr.block | apply Tr.ret | apply Tr.then_ret | apply Tr.in_ret) | (refine Tr.cond_t rfl (by first | (with_reducible assumption) | (with_reducible rfl) | (with_reducible exact (not_not_intro rfl)) | omega) ?_)))
          (refine dnQ (hL := by exact ⟨[_, _, _, _], rfl⟩) (k := ⟨rfl, ?_⟩))
          exact hmk false ⟨fun h => (by cases h), fun ⟨ps', h1, _⟩ => (by rw [h1] at hpos; cases hpos)⟩
        · rw [if_pos (by omega)] at hpos
          (repeat (first | ((with_reducible refine Tr.step rfl ?_); (first | (refine xmQ (z := ?_)) | (refine xaQ (z := ?_)) | (refine xMQ (z := ?_)) | (refine xiQ (z := ?_)) | ((with_reducible refine Knd.pick ?_); (refine Exec.stab rfl (Stab.pick_f rfl (by first | (with_reducible rfl) | (with_reducible assumption) | (with_reducible exact Bool.not_true) | (with_reducible exact Bool.not_false)) rfl) rfl ?_)) | ((with_reducible refine Knd.unOp ?_); (refine Exec.stab rfl (Stab.not rfl) rfl ?_)) | ((with_reducible refine Knd.lookup ?_); (refine Exec.stab rfl (Stab.lookup2s rfl rfl (tysOk.get rfl) rfl (tysOk.get rfl) rfl (tysOk.get rfl) (by repeat (first | exact Has.here | apply Has.there)) (by assumption) (by assumption)) rfl ?_)) | ((with_reducible refine Knd.extract ?_); (refine Exec.stab rfl (Stab.extract rfl rfl) rfl ?_)) | (refine xxQ (z := ?_)) | ((with_reducible refine Knd.buildSlice ?_); (refine Exec.buildSlice (tysOk.get rfl) rfl (tysOk.get rfl) rfl rfl rfl rfl rfl (by repeat (first | exact BuildP.nil | ((apply BuildP.one); (rfl); (rfl); (first | rfl | assumption); (repeat (first | exact SetL.z | apply SetL.s))) | ((apply BuildP.many); (rfl); (rfl); (rfl); (rfl); (repeat (first | exact PutL.nil | ((apply PutL.cons); (repeat (first | exact SetL.z | apply SetL.s)))))))) rfl (fun b => ?_))))) | (with_reducible first | apply Tr.next | apply Tr.seq | apply Tr.region | apply Tr.nil) | ((refine Tr.guard_l rfl rfl rfl (by first | (with_reducible rfl) | (with_reducible assumption) | (with_reducible exact Bool.not_true) | (with_reducible exact Bool.not_false)) ?_); (first | (refine xmQ (z := ?_)) | (refine xnQ (z := ?_)) | (refine xiQ (z := ?_)) | ((with_reducible refine Knd.pick ?_); (refine Exec.stab rfl (Stab.pick_td rfl (by first | (with_reducible assumption) | (with_reducible rfl) | (with_reducible exact (not_not_intro rfl)) | omega) rfl) rfl ?_)))) | ((refine Tr.guard_y rfl rfl rfl (by first | (with_reducible assumption) | (with_reducible rfl) | (with_reducible exact (not_not_intro rfl)) | omega) ?_); (first | (refine xmQ (z := ?_)) | ((with_reducible refine Knd.load ?_); (refine Exec.stab rfl (Stab.loadO rfl (tysOk.get rfl) rfl (by repeat (first | exact Has.here | apply Has.there)) (by assumption)) rfl ?_)) | (refine xnQ (z := ?_)) | ((with_reducible refine Knd.binOp ?_); (first | (refine Exec.stab rfl (Stab.subi rfl rfl (by omega)) rfl ?_) | (refine xiQ (z := ?_)))) | (refine xxQ (z := ?_)))) | (with_reducible first | apply Tr.skip | apply Tr.block) | (refine Tr.cond_t rfl (by first | (with_reducible assumption) | (with_reducible rfl) | (with_reducible exact (not_not_intro rfl)) | omega) ?_) | (refine Tr.cond_f rfl (by first | (with_reducible assumption) | (with_reducible rfl) | (with_reducible exact (not_not_intro rfl)) | omega) ?_)))
          ((refine Tr.step rfl ?_))
          refine Exec.append (news := [.int .i64 (j : Int)]) rfl rfl (tysOk.get rfl) rfl (tysOk.get rfl) rfl rfl rfl rfl (by repeat (first | exact Del.here | apply Del.there)) (Src.box (by repeat (first | exact Has.here | apply Has.there))) rfl (by intro u hu; simp at hu; subst hu; rfl) (by omega) (by omega) rfl (fun C2 cc2 hcc2 => ?_)
          refine gvQ (r := box _ 3 _) (k := ?_)
          rw [show intV (ps.map Int.ofNat) ++ [Value.int .i64 (j : Int)] = intV ((ps ++ [j]).map Int.ofNat) by simp [intV], show ps.length + 1 = (ps ++ [j]).length by simp]
          (repeat (first | ((with_reducible refine Tr.step rfl ?_); (first | (refine xmQ (z := ?_)) | (refine xaQ (z := ?_)) | (refine xdQ (z := ?_)))) | (with_reducible first | apply Tr.next | apply Tr.region | apply Tr.nil | apply Tr.in_normal)))
          refine Tr.again (i + 1, ps ++ [j], C2, cc2) ⟨by simp only; omega, by simp only [List.length_append, List.length_singleton]; omega, hcc2, ?_⟩ (by simp only; omega) hsQ
          simp only [List.getLast?_append, List.getLast?_singleton, Option.some_or]
          rw [hpos, Option.map_map]
          cases posF k.reqs (l.drop (i + 1)) (j + 1) <;> simp
      · have hps : ps = [] := List.eq_nil_of_length_eq_zero (by omega)
        subst hps
        simp only [List.getLast?_nil, Nat.zero_le, if_true] at hpos
        (repeat (first | ((with_reducible refine Tr.step rfl ?_); (first | (refine xmQ (z := ?_)) | (refine xaQ (z := ?_)) | (refine xMQ (z := ?_)) | (refine xiQ (z := ?_)) | ((with_reducible refine Knd.pick ?_); (refine Exec.stab rfl (Stab.pick_f rfl (by first | (with_reducible rfl) | (with_reducible assumption) | (with_reducible exact Bool.not_true) | (with_reducible exact Bool.not_false)) rfl) rfl ?_)) | ((with_reducible refine Knd.unOp ?_); (refine Exec.stab rfl (Stab.not rfl) rfl ?_)) | ((with_reducible refine Knd.lookup ?_); (refine Exec.stab rfl (Stab.lookup2s rfl rfl (tysOk.get rfl) rfl (tysOk.get rfl) rfl (tysOk.get rfl) (by repeat (first | exact Has.here | apply Has.there)) (by assumption) (by assumption)) rfl ?_)) | ((with_reducible refine Knd.extract ?_); (refine Exec.stab rfl (Stab.extract rfl rfl) rfl ?_)) | (refine xxQ (z := ?_)) | ((with_reducible refine Knd.buildSlice ?_); (refine Exec.buildSlice (tysOk.get rfl) rfl (tysOk.get rfl) rfl rfl rfl rfl rfl (by repeat (first | exact BuildP.nil | ((apply BuildP.one); (rfl); (rfl); (first | rfl | assumption); (repeat (first | exact SetL.z | apply SetL.s))) | ((apply BuildP.many); (rfl); (rfl); (rfl); (rfl); (repeat (first | exact PutL.nil | ((apply PutL.cons); (repeat (first | exact SetL.z | apply SetL.s)))))))) rfl (fun b => ?_))))) | (with_reducible first | apply Tr.next | apply Tr.seq | apply Tr.region | apply Tr.nil) | ((refine Tr.guard_l rfl rfl rfl (by first | (with_reducible rfl) | (with_reducible assumption) | (with_reducible exact Bool.not_true) | (with_reducible exact Bool.not_false)) ?_); (first | (refine xmQ (z := ?_)) | (refine xnQ (z := ?_)) | (refine xiQ (z := ?_)) | ((with_reducible refine Knd.pick ?_); (refine Exec.stab rfl (Stab.pick_fd rfl (by first | (with_reducible assumption) | (with_reducible rfl) | (with_reducible exact (not_not_intro rfl)) | omega) rfl) rfl ?_)))) | (refine Tr.guard_n rfl rfl rfl (by first | (with_reducible assumption) | (with_reducible rfl) | (with_reducible exact (not_not_intro rfl)) | omega) rfl rfl ?_) | (with_reducible first | apply Tr.skip | apply Tr.block) | (refine Tr.cond_bf rfl (by first | (with_reducible rfl) | (with_reducible assumption) | (with_reducible exact Bool.not_true) | (with_reducible exact Bool.not_false)) ?_) | (refine Tr.cond_t rfl (by first | (with_reducible assumption) | (with_reducible rfl) | (with_reducible exact (not_not_intro rfl)) | omega) ?_)))
        ((refine Tr.step rfl ?_))
        refine Exec.append (news := [.int .i64 (j : Int)]) rfl rfl (tysOk.get rfl) rfl (tysOk.get rfl) rfl rfl rfl rfl (by repeat (first | exact Del.here | apply Del.there)) (Src.box (by repeat (first | exact Has.here | apply Has.there))) rfl (by intro u hu; simp at hu; subst hu; rfl) (by omega) (by omega) rfl (fun C2 cc2 hcc2 => ?_)
        refine gvQ (r := box _ 3 _) (k := ?_)
        (repeat (first | ((with_reducible refine Tr.step rfl ?_); (first | (refine xmQ (z := ?_)) | (refine xaQ (z := ?_)) | (refine xdQ (z := ?_)))) | (with_reducible first | apply Tr.next | apply Tr.region | apply Tr.nil | apply Tr.in_normal)))
        refine Tr.again (i + 1, [j], C2, cc2) ⟨by simp only; omega, by simp only [List.length_singleton]; simp only [List.length_nil] at hpl; omega, hcc2, ?_⟩ (by simp only; omega) hsQ
        simp only [List.getLast?_singleton]
        rw [hpos, Option.map_map]
        cases posF k.reqs (l.drop (i + 1)) (j + 1) <;> simp
  have ei : i = l.length := by omega
  subst ei
  have hpos2 : posF k.reqs l 0 = some ps := by rw [hpos, List.drop_length]; simp [posF]
  (repeat (first | ((with_reducible refine Tr.step rfl ?_); (first | (refine xmQ (z := ?_)) | (refine xlQ (z := ?_)) | (refine xfQ (z := ?_)) | (refine xiQ (z := ?_)))) | (with_reducible first | apply Tr.next | apply Tr.seq | apply Tr.region | apply Tr.nil | apply Tr.exit | apply Tr.then_exit) | ((with_reducible refine Tr.in_exit ?_ ?_); (exact rfl)) | (refine Tr.cond_f rfl (by first | (with_reducible assumption) | (with_reducible rfl) | (with_reducible exact (not_not_intro rfl)) | omega) ?_)))
  ((refine Tr.step rfl ?_)); refine Exec.call0 rfl (ramounts_fn M5 k.sups (k.reqs ++ [r]) As A8 cs c8 (h1.mono RSpC.mono hm05) (hR8.mono RRqC.mono hm5) (by omega) (by simp; omega)) rfl ?_
  rintro _ M6 hm6 ⟨P1, q1, P2, q2, rfl, hI1, hI2⟩
  (repeat (first | ((with_reducible refine Tr.step rfl ?_); (first | (refine xmQ (z := ?_)) | (refine xaQ (z := ?_)) | (refine xlQ (z := ?_)) | (refine xfQ (z := ?_)) | (refine xnQ (z := ?_)) | ((with_reducible refine Knd.extract ?_); (refine Exec.stab rfl (Stab.extract rfl rfl) rfl ?_)) | ((with_reducible refine Knd.buildSlice ?_); (refine Exec.buildSlice (tysOk.get rfl) rfl (tysOk.get rfl) rfl rfl rfl rfl rfl (by repeat (first | exact BuildP.nil | ((apply BuildP.one); (rfl); (rfl); (first | rfl | assumption); (repeat (first | exact SetL.z | apply SetL.s))) | ((apply BuildP.many); (rfl); (rfl); (rfl); (rfl); (repeat (first | exact PutL.nil | ((apply PutL.cons); (repeat (first | exact SetL.z | apply SetL.s)))))))) rfl (fun b => ?_))))) | (with_reducible first | apply Tr.next | apply Tr.seq | apply Tr.region | apply Tr.nil)))
  ((refine Tr.step rfl ?_))
  refine Exec.append (news := [.int .i64 (k.reqs.length : Int)]) rfl rfl (tysOk.get rfl) rfl (tysOk.get rfl) rfl rfl rfl rfl (by repeat (first | exact Del.here | apply Del.there)) (Src.box (by repeat (first | exact Has.here | apply Has.there))) rfl (by intro u hu; simp at hu; subst hu; rfl) (by omega) (by omega) rfl (fun C2 cc2 hcc2 => ?_)
  refine gvQ (r := box _ 3 _) (k := ?_)
  rw [show intV (ps.map Int.ofNat) ++ [Value.int .i64 (k.reqs.length : Int)] = intV ((ps ++ [k.reqs.length]).map Int.ofNat) by simp [intV], show ps.length + 1 = ((ps ++ [k.reqs.length]).map Int.ofNat).length by simp]
  refine pbQ (r := ownS 3 1 C2 _ _ _) (k := fun M7 hm7 hok7 => ?_)
  have hvld := okT_vld (w := w) (known := k.known) hok
  have rs : I64s (amS k.sups) := fun x hx => by have := hvld.rs x hx; omega
  have rn : I64s (amR (k.reqs ++ [r])) := fun x hx => by have := hvld.rn x hx; omega
  have hm67 := hm6.trans hm7
  have hm07 := hm05.trans hm67
  (skip)
  ((refine Tr.step rfl ?_)); refine Exec.call0 rfl (cut_fn M7 A5 P1 P2 C2 c5 q1 q2 cc2 (fitsT w k.known k.sups (k.reqs ++ [r])) (amS k.sups) (amR (k.reqs ++ [r])) ((ps ++ [k.reqs.length]).map Int.ofNat) (hf.mono RRowB.mono hm67) (hI1.mono RI.mono hm7) (hI2.mono RI.mono hm7) (Ints.ofOwn hok7 rfl hcc2) rs rn) rfl ?_
  rintro _ _ _ ⟨⟨hbad, -⟩ | ⟨-, b, rfl, hb⟩, rfl⟩
  · rw [vld_iff.2 hvld] at hbad
    cases hbad
  (repeat (first | ((with_reducible refine Tr.step rfl ?_); (first | (refine xaQ (z := ?_)) | ((with_reducible refine Knd.extract ?_); (refine Exec.stab rfl (Stab.extract rfl rfl) rfl ?_)))) | (with_reducible first | apply Tr.next | apply Tr.nil | apply Tr.ret)))
  (refine dnQ (hL := by exact ⟨[_, _, _], rfl⟩) (k := ⟨rfl, ?_⟩))
  refine hmk b ⟨fun h => ⟨ps, hpos2, hb.1 h⟩, fun ⟨ps', h1, h2⟩ => hb.2 ?_⟩
  rw [hpos2] at h1
  cases h1
  exact h2
end Go.Proofs.Ytlifjajcmnkhfaa

/-
  Matching, plain: the chapter's examples.
  Conditions: none.
-/
namespace Go.Proofs.Ytlifjajcmnkhfaa
open Go Bf
theorem possD (fits : List (List Bool)) (sup need : List Int) (set : Nat) : Poss fits sup need set ↔ ∀ s, s ≤ set → (1 ≤ s → s &&& set = s → lackB fits sup need s ≤ 0) := ⟨fun h s h1 h2 h3 => h s h2 h1 h3, fun h s h1 h2 h3 => h s h2 h1 h3⟩
theorem x2_no : ¬ Feas (pbOf [] [] [1]) := by
  rw [feas_poss (vld_iff.1 (by decide)), possD]
  decide
theorem x2_cut : memF (cutFin [] [] [1]) 1 = [0] := by
  have h := memF_bits (fits := []) (sup := []) (need := [1]) (vld_iff.1 (by decide))
  have e : cutOfP [] [] [1] = 1 := by
    unfold cutOfP
    show cutS _ 1 1 = 1
    rw [cutS, if_pos ((possD _ _ _ _).2 (by decide)), cutS]
  rw [e] at h
  exact h
theorem x3_no : ¬ Feas (pbOf [[true, true]] [3] [2, 2]) := by
  rw [feas_poss (vld_iff.1 (by decide)), possD]
  decide
theorem x3_cut : memF (cutFin [[true, true]] [3] [2, 2]) 2 = [0, 1] := by
  have h := memF_bits (fits := [[true, true]]) (sup := [3]) (need := [2, 2]) (vld_iff.1 (by decide))
  have e : cutOfP [[true, true]] [3] [2, 2] = 3 := by
    unfold cutOfP
    show cutS _ 2 3 = 3
    rw [cutS, if_pos ((possD _ _ _ _).2 (by decide)), cutS, if_pos ((possD _ _ _ _).2 (by decide)), cutS]
  rw [e] at h
  exact h
end Go.Proofs.Ytlifjajcmnkhfaa

/-
  Refusals, plain: the sample of the statements, computed.
  Conditions: none.
-/
namespace Go.Proofs.Ytlifjajcmnkhfaa
open Go Bf
def w0 : Wd := ⟨[], []⟩
def k0 : Bp := ⟨1, [], [], [], []⟩
def r1 : Rq := ⟨0, 0, 0, 0, 0, 1⟩
def r0 : Rq := ⟨0, 0, 0, 0, 0, 0⟩
def barK : Ky := (7, 9, 0)
def w1 : Wd := ⟨[], [⟨barK, 1, 0, 1024, 1, 0⟩]⟩
def s1 : List Sp := [⟨4, 0, 0, 0, 9, 3⟩]
def q7 : Rq := ⟨7, 0, 0, 2, 0, 2⟩
def qr : Rq := ⟨8, 0, 0, 2, 0, 2⟩
def qs : Rq := ⟨8, 0, 9, 2, 0, 1⟩
def k1 : Bp := ⟨1, s1, [], [[]], []⟩
def k2 : Bp := ⟨1, s1, [q7], [[true]], [((7, 0, 0), 2, 3)]⟩
theorem k0_mk : mkF w0 (bkN 1 []) [] = k0 := rfl
theorem k1_mk : mkF w1 (bkN 1 s1) [] = k1 := rfl
theorem k2_mk : more w1 k1 q7 = k2 := by
  show mkF w1 k1 [q7] = k2
  unfold mkF k2
  congr 1
theorem askE_ok {w : Wd} {k : Bp} {r : Rq} (h : okB w k) (h1 : r.no ∉ k.reqs.map (·.no)) (h2 : okRq r) (h3 : k.reqs.length + 1 ≤ 64) : askE w k r = 0 := by
  rw [askE, if_neg (fun hn => hn h), if_neg h1, if_neg (fun h => h.elim (fun h => h h2) (fun h => by omega))]
theorem okB_k0 : okB w0 k0 := okB_new (known := 1) (s := []) (by decide) (by decide)
theorem okB_k1 : okB w1 k1 := okB_new (known := 1) (s := s1) (by decide) (by decide)
theorem ask_r1 : askE w0 k0 r1 = 0 := askE_ok okB_k0 (by decide) (by decide) (by decide)
theorem ask_r0 : askE w0 k0 r0 = 0 := askE_ok okB_k0 (by decide) (by decide) (by decide)
theorem fe_r1 : ¬ Feas (pbW w0 k0.known k0.sups (k0.reqs ++ [r1])) := x2_no
theorem fe_r0 : Feas (pbW w0 k0.known k0.sups (k0.reqs ++ [r0])) := by
  show Feas (pbOf [] [] [0])
  rw [feas_poss (vld_iff.1 (by decide)), possD]
  decide
theorem le_r1 : leF w0 k0 r1 = [] := by
  have h : cutB w0 k0 r1 = [0] := x2_cut
  unfold leF confF
  rw [h]
  rfl
theorem fa_r1 : factF w0 k0 r1 = [] := by
  unfold factF
  rw [if_neg]
  have h : exclB w0 k0 r1 = [] := rfl
  rw [h]
  unfold meetK
  rw [withoutF_nil]
  exact fe_r1
theorem ch_r1 : chkF w0 k0 r1 [] := by
  refine ⟨[], rfl, ?_⟩
  have h := cutFin_cut (fits := []) (sup := []) (need := [1]) (vld_iff.1 (by decide)) x2_no
  have e : memF (cutFin [] [] [1]) ([1] : List Int).length = [0] := x2_cut
  rw [e] at h
  exact h
theorem fe_q7 : Feas (pbW w1 k1.known k1.sups (k1.reqs ++ [q7])) := by
  have e : fitsT w1 1 s1 [q7] = [[true]] := by decide
  show Feas (pbOf (fitsT w1 1 s1 [q7]) [3] [2])
  rw [e, feas_poss (vld_iff.1 (by decide)), possD]
  decide
theorem ask_q7 : askE w1 k1 q7 = 0 := askE_ok okB_k1 (by decide) (by decide) (by decide)
theorem okB_k2 : okB w1 k2 := by
  rw [← k2_mk]
  exact okB_more okB_k1 (by decide) (by decide) (by decide) fe_q7
theorem ask_qr : askE w1 k2 qr = 0 := askE_ok okB_k2 (by decide) (by decide) (by decide)
theorem ask_qs : askE w1 k2 qs = 0 := askE_ok okB_k2 (by decide) (by decide) (by decide)
theorem ft_qr : fitsT w1 k2.known k2.sups (k2.reqs ++ [qr]) = [[true, true]] := by decide
theorem ft_qs : fitsT w1 k2.known k2.sups (k2.reqs ++ [qs]) = [[true, false]] := by decide
theorem fe_qr : ¬ Feas (pbW w1 k2.known k2.sups (k2.reqs ++ [qr])) := by
  unfold pbW
  rw [ft_qr]
  exact x3_no
theorem x1_no : ¬ Feas (pbOf [[true, false]] [3] [2, 1]) := by
  rw [feas_poss (vld_iff.1 (by decide)), possD]
  decide
theorem x1_cut : memF (cutFin [[true, false]] [3] [2, 1]) 2 = [1] := by
  have h := memF_bits (fits := [[true, false]]) (sup := [3]) (need := [2, 1]) (vld_iff.1 (by decide))
  have e : cutOfP [[true, false]] [3] [2, 1] = 2 := by
    unfold cutOfP
    show cutS _ 2 3 = 2
    rw [cutS, if_pos ((possD _ _ _ _).2 (by decide)), cutS, if_neg (fun h => absurd ((possD _ _ _ _).1 h) (by decide)), cutS]
  rw [e] at h
  exact h
theorem fe_qs : ¬ Feas (pbW w1 k2.known k2.sups (k2.reqs ++ [qs])) := by
  unfold pbW
  rw [ft_qs]
  exact x1_no
theorem le_qr : leF w1 k2 qr = [7] := by
  have h : cutB w1 k2 qr = [0, 1] := by
    unfold cutB
    rw [ft_qr]
    exact x3_cut
  unfold leF confF
  rw [h]
  rfl
theorem le_qs : leF w1 k2 qs = [] := by
  have h : cutB w1 k2 qs = [1] := by
    unfold cutB
    rw [ft_qs]
    exact x1_cut
  unfold leF confF
  rw [h]
  rfl
theorem ex_qr : exclB w1 k2 qr = [] := by
  unfold exclB
  decide
theorem ex_qs : exclB w1 k2 qs = [barK] := by
  unfold exclB
  decide
theorem fa_qr : factF w1 k2 qr = [] := by
  unfold factF
  rw [if_neg]
  rw [ex_qr]
  unfold meetK
  rw [withoutF_nil]
  exact fe_qr
theorem fa_qs : factF w1 k2 qs = [barK] := by
  have h1 : meetK w1 k2 qs [barK] := by
    have e : fitsT (withoutF w1 [barK]) k2.known k2.sups (k2.reqs ++ [qs]) = [[true, true]] := by decide
    unfold meetK pbW
    rw [e]
    show Feas (pbOf [[true, true]] [3] [2, 1])
    rw [feas_poss (vld_iff.1 (by decide)), possD]
    decide
  have h2 : ¬ meetK w1 k2 qs [] := by
    unfold meetK
    rw [withoutF_nil]
    exact fe_qs
  unfold factF
  rw [ex_qs, if_pos h1]
  show cutK _ 1 _ = _
  rw [cutK, show ([barK] : List Ky).eraseIdx 0 = [] from rfl, if_neg h2]
  rfl
theorem ch_qr : chkF w1 k2 qr [7] := by
  refine ⟨[0], by decide, ?_⟩
  have h := cutFin_cut (fits := [[true, true]]) (sup := [3]) (need := [2, 2]) (vld_iff.1 (by decide)) x3_no
  have e : memF (cutFin [[true, true]] [3] [2, 2]) ([2, 2] : List Int).length = [0, 1] := x3_cut
  rw [e] at h
  rw [ft_qr]
  exact h
theorem ch_no : ¬ chkF w1 k2 qr [] := by
  rintro ⟨ps, h1, h2⟩
  have h1 : some [] = some ps := h1
  cases h1
  rw [ft_qr] at h2
  exact absurd h2.2 (by decide)
end Go.Proofs.Ytlifjajcmnkhfaa

