/-
  Honour: the row of HonourSpec.
  Conditions: none.
-/
import Derived.Test.YtgnipfjjkliibaaP3BfRow
import Derived.Test.YtgnipfjjkliibaaRows
import Derived.ProofKit
import Derived.Test.YtgnipfjjkliibaaP3Xs
import Derived.Test.YtgnipfjjkliibaaP3c
/-
  Honour, the reference: fail.
  Conditions: none.
-/
namespace Go.Proofs.Ytgnipfjjkliibaa
open Go Bf
attribute [local irreducible] Tr Exec Stab HasTy Go.Addr.add IntKind.wrap
set_option maxHeartbeats 4000000 in
theorem rwith_own (M : Mem) (A : Option Addr) (c : Nat) (l : List Int) (i : Nat) (z : Int) (h : Ints M (.slice A l.length c) l) (hi : i < l.length) (hl : l.length ≤ 1000000) :
    Bf.Fn Try.prog 80 [.slice A l.length c, .int .i64 (i : Int), .int .i64 z] M [] (fun r M' A' => (∃ B d, r = .slice B l.length d ∧ d ≤ 9223372036854775807 ∧ A' = [ownS 3 1 B l.length d (intV (l.set i z))]) ∧ M = M') := by
  refine Fn.intro Try.func80 rfl rfl Try.ntmps80 rfl fun E F => ?_
  (repeat (first | ((with_reducible refine Tr.step rfl ?_); (first | (refine xmQ (z := ?_)) | (refine xaQ (z := ?_)) | ((with_reducible refine Knd.buildSlice ?_); (refine Exec.buildSlice (tysOk.get rfl) rfl (tysOk.get rfl) rfl rfl rfl rfl rfl (by repeat (exact BuildP.nil)) rfl (fun b => ?_))))) | (with_reducible first | apply Tr.next | apply Tr.seq | apply Tr.region | apply Tr.nil)))
  refine Tr.box_own 1 0 (by repeat (first | exact Upd.here | apply Upd.there)) rfl (by intro u hu; cases hu) (by simp [maxLen]) ?_
  ((refine Tr.step rfl ?_))
  refine Exec.append (news := intV l) rfl rfl (tysOk.get rfl) rfl (tysOk.get rfl) rfl rfl rfl rfl (by repeat (first | exact Del.here | apply Del.there)) (Src.row h.row) (by rw [intV_length, Nat.mul_one]) (intV_one l) (by omega) (by omega) rfl (fun A6 c6 hc6 => ?_)
  rw [Nat.zero_add, zeros0_app]
  refine Tr.own_some A6 (e := 3) (sz := 1) (m := l.length) (c := c6) (xs := intV l) (by repeat (first | exact Has.here | apply Has.there)) (by omega) (fun hA6 => ?_)
  (repeat (first | ((with_reducible refine Tr.step rfl ?_); (first | (refine xmQ (z := ?_)) | (refine xaQ (z := ?_)) | ((with_reducible refine Knd.store ?_); (refine Exec.storeO rfl rfl (tysOk.get rfl) rfl (by first | rfl | assumption) (by repeat (first | exact Upd.here | apply Upd.there)) (by omega) ?_)) | (refine xxQ (z := ?_)))) | (with_reducible first | apply Tr.next | apply Tr.seq | apply Tr.region | apply Tr.nil | apply Tr.ret)))
  rw [Int.toNat_natCast i, intV_set]
  refine Tr.doneA (A' := [ownS 3 1 A6 l.length c6 (intV (l.set i z))]) (by first | exact .inl rfl | exact .inr rfl) rfl (by repeat (first | exact RVs.nil | (apply RVs.cons; (exact RV.tmp rfl)))) (Mem.le.refl _) ⟨fun _ h => h, fun h => h⟩ ⟨⟨A6, c6, rfl, hc6, rfl⟩, rfl⟩
/-- of so many requests which are in a list -/
def flg (n : Nat) (l : List Nat) : List Bool := (List.range n).map fun q => decide (q ∈ l)
theorem flg_length (n : Nat) (l : List Nat) : (flg n l).length = n := by simp [flg]
theorem flg_add {n y : Nat} {l : List Nat} : (flg n l).set y true = flg n (l ++ [y]) := by
  unfold flg
  apply List.ext_getElem (by simp)
  intro i h1 h2
  rw [List.getElem_set]
  simp only [List.getElem_map, List.getElem_range, List.mem_append, List.mem_singleton]
  by_cases e : y = i
  · rw [if_pos e]; simp [e]
  · rw [if_neg e]
    have : ¬ i = y := fun h => e h.symm
    simp [this]
theorem flg_nil (n : Nat) : List.replicate n (Value.bool false) = boV (flg n []) := by
  apply List.ext_getElem (by simp [boV, flg])
  intro i h1 h2
  simp [boV, flg]
theorem flg_any {n : Nat} {l : List Nat} (h : ∀ q ∈ l, q < n) : (flg n l).any id = false ↔ l = [] := by
  constructor
  · intro e
    cases l with
    | nil => rfl
    | cons q l =>
      have : (flg n (q :: l)).any id = true := List.any_eq_true.2 ⟨true, by
        unfold flg
        exact List.mem_map.2 ⟨q, List.mem_range.2 (h q (List.mem_cons_self ..)), by simp⟩, rfl⟩
      rw [e] at this
      cases this
  · rintro rfl
    rw [List.any_eq_false]
    intro x hx
    simp [flg] at hx
    simp [hx.2]
theorem fail_lt {x : Fx} {s : St} {e q : Nat} (h : q ∈ failF x s e) : q < e := (mem_failL.1 h).1
set_option maxHeartbeats 16000000 in
theorem rfail_fn (M : Mem) (bv sv : Value) (k : Bk) (s : St) (hB : RBk M bv k) (hS : RSr M sv s) (hf : Fit (fxB k) s) (e1 : s.dy.length = k.sups.length) (e2 : s.nd.length = k.reqs.length) (h6 : s.nd.length ≤ 6) :
    Fn0 Try.prog 60 [bv, sv] M (fun r M' => ∃ A c, r = .slice A s.nd.length c ∧ Bools M' (.slice A s.nd.length c) (flg s.nd.length (failF (fxB k) s s.nd.length))) := by
  have htb := rtable_fn M bv sv k s hB hS hf e1 e2
  have hv := fun S => vld_tab hf S
  obtain ⟨v1, v2, v3, v4, v5, rfl, o1, o2, o3, o4, o5⟩ := hB.open5
  obtain ⟨Ba, ba, Bd, bd, Bn, bn, Bb, bb, rfl, q1, q2, q3, q4⟩ := hS
  have l3 := hf.brl
  generalize hx : fxB k = x at hf hv htb
  refine Fn.intro Try.func60 rfl rfl Try.ntmps60 rfl fun E F => ?_
  (repeat (first | ((with_reducible refine Tr.step rfl ?_); (first | (refine xaQ (z := ?_)) | (refine xwQ (z := ?_)) | ((with_reducible refine Knd.box ?_); (refine Exec.box rfl rfl (fun b => ?_))))) | (with_reducible first | apply Tr.next | apply Tr.seq | apply Tr.region | apply Tr.nil)))
  ((refine Tr.step rfl ?_)); refine Exec.call0 rfl (htb) rfl ?_
  rintro _ M1 hm1 ⟨At_, ct, rfl, ht⟩
  clear htb
  replace q1 := q1.mono RI.mono hm1
  replace q3 := q3.mono RI.mono hm1
  replace q4 := q4.mono RI.mono hm1
  (repeat (first | ((with_reducible refine Tr.step rfl ?_); (first | (refine xaQ (z := ?_)) | (refine xlQ (z := ?_)) | (refine xfQ (z := ?_)) | (refine xnQ (z := ?_)) | ((with_reducible refine Knd.makeSlice ?_); (refine Exec.make rfl rfl (tysOk.get rfl) rfl (tysOk.get rfl) rfl rfl rfl (by omega) (by omega) (by first | omega | (simp; done) | (simp; omega)) (by omega) rfl (fun b => ?_))))) | (with_reducible first | apply Tr.next | apply Tr.seq | apply Tr.region | apply Tr.nil | apply Tr.block)))
  simp only [Int.toNat_natCast]
  generalize b = bl
  rename_i b2 b3 bw
  refine ftQ (r := box bw 3 _) (k := ?_)
  have hz1 : List.replicate s.nd.length (Value.int .i64 0) = intV (mskL s.nd (acc (srvP x s) (askF s) 0)) := by
    rw [show acc (srvP x s) (askF s) 0 = fun _ => false from rfl, mskL_none]
    simp [intV]
  rw [hz1, flg_nil]
  refine Tr.loop (α := Nat × Mem) (fun z => ⟨67, [(8, .int .i64 (z.1 : Int)), (7, .slice (some ⟨bl, 0, none⟩) s.nd.length s.nd.length), (6, .slice (some ⟨bw, 0, none⟩) s.nd.length s.nd.length), (5, .slice At_ (tabL x.fits x.due s.dy).length ct), (3, .pointer (some ⟨b3, 0, none⟩))], [], z.2,
      box bw 3 (intV (mskL s.nd (acc (srvP x s) (askF s) z.1))) :: box bl 4 (boV (flg s.nd.length (failF x s z.1))) :: box b3 67 [.slice Ba s.am.length ba, .slice Bd s.dy.length bd, .slice Bn s.nd.length bn, .slice Bb s.br.length bb] :: box b2 27 [v1, v2, v3, v4, v5] :: ([] ++ F)⟩)
    (fun z => z.1 ≤ s.nd.length ∧ Mem.le M1 z.2) (fun z => s.nd.length - z.1) (0, M1) ⟨Nat.zero_le _, Mem.le.refl _⟩ hsQ (fun z hz => ?_)
  obtain ⟨j, M2⟩ := z
  obtain ⟨hj, hm2⟩ := hz
  dsimp only at hj hm2
  dsimp only
  by_cases hlt : j < s.nd.length
  rotate_left
  · have e1 : j = s.nd.length := by omega
    subst e1
    refine pbQ (r := box bl 4 _) (k := fun M3 hm3 hok => ?_)
    have hlast := hm1.trans (hm2.trans hm3)
    (repeat (first | ((with_reducible refine Tr.step rfl ?_); (first | (refine xmQ (z := ?_)) | (refine xaQ (z := ?_)) | (refine xlQ (z := ?_)) | (refine xfQ (z := ?_)) | (refine xnQ (z := ?_)) | (refine xiQ (z := ?_)))) | (with_reducible first | apply Tr.next | apply Tr.seq | apply Tr.region | apply Tr.nil | apply Tr.exit | apply Tr.ret | apply Tr.then_exit) | ((with_reducible refine Tr.in_exit ?_ ?_); (exact rfl)) | (refine Tr.cond_f rfl (by first | (with_reducible assumption) | omega) ?_)))
    (refine dnQ (hL := by exact ⟨[_, _, _], rfl⟩) (k := ⟨rfl, ?_⟩))
    have hR : Bools M3 (.slice (some ⟨bl, 0, none⟩) (flg s.nd.length (failF x s s.nd.length)).length (flg s.nd.length (failF x s s.nd.length)).length) (flg s.nd.length (failF x s s.nd.length)) := SlOf.ofBox hok (boV_one _) (by rw [flg_length]; omega) (boV_elems M3 _)
    rw [flg_length] at hR
    exact ⟨_, _, rfl, hR⟩
  obtain ⟨z, hz⟩ := get_of_lt (xs := s.br) (i := j) (by omega)
  obtain ⟨hA6, hat6⟩ := Ints.at (q4.mono RI.mono hm2) hz
  have hask := askF_iff hz
  have hfs := failF_succ x s j
  by_cases hz0 : z < 0
  rotate_left
  · have ha : askF s j = false := by rw [hask]; simp [hz0]
    rw [ha, Bool.false_and, if_neg (by decide), List.append_nil] at hfs
    have hac : acc (srvP x s) (askF s) (j + 1) = acc (srvP x s) (askF s) j := acc_no (fun h => by rw [ha] at h; cases h.1)
    rw [← hfs, ← hac]
    (repeat (first | ((with_reducible refine Tr.step rfl ?_); (first | (refine xmQ (z := ?_)) | (refine xaQ (z := ?_)) | ((with_reducible refine Knd.load ?_); (first | (refine xlQ (z := ?_)) | (refine xMQ (z := ?_)))) | (refine xfQ (z := ?_)) | (refine xnQ (z := ?_)) | ((with_reducible refine Knd.binOp ?_); (first | (refine xdQ (z := ?_)) | (refine xiQ (z := ?_)))) | (refine xxQ (z := ?_)))) | (with_reducible first | apply Tr.next | apply Tr.seq | apply Tr.region | apply Tr.nil | apply Tr.skip | apply Tr.block | apply Tr.exit | apply Tr.then_exit) | ((with_reducible refine Tr.in_exit ?_ ?_); (exact rfl)) | (refine Tr.cond_t rfl (by first | (with_reducible assumption) | omega) ?_)))
    exact Tr.again (j + 1, M2) ⟨by simp only; omega, hm2⟩ (by simp only; omega) hsQ
  have ha : askF s j = true := by rw [hask]; simp [hz0]
  rw [ha, Bool.true_and] at hfs
  obtain ⟨u, hu⟩ := get_of_lt (xs := s.nd) (i := j) (by omega)
  obtain ⟨hA4, hat4⟩ := Ints.at (q3.mono RI.mono hm2) hu
  have hjl : acc (srvP x s) (askF s) j j = false := by
    cases hc : acc (srvP x s) (askF s) j j with
    | false => rfl
    | true => have := (acc_lt hc).1; omega
  have hnew : (mskL s.nd (acc (srvP x s) (askF s) j)).set j u = mskL s.nd fun b => acc (srvP x s) (askF s) j b || decide (b = j) := by
    rw [show u = s.nd.getD j 0 from (getD_of hu).symm, mskL_add (by omega)]
  have hlend : Bf.Fn Try.prog 80 [.slice (some ⟨bw, 0, none⟩) s.nd.length s.nd.length, .int .i64 (j : Int), .int .i64 u] M2 [box bw 3 (intV (mskL s.nd (acc (srvP x s) (askF s) j)))] (fun r M' A' => ∃ A1, A' = [box bw 3 (intV (mskL s.nd (acc (srvP x s) (askF s) j)))] ++ A1 ∧ M2 = M' ∧ ∃ B d, r = .slice B s.nd.length d ∧ d ≤ 9223372036854775807 ∧ A1 = [ownS 3 1 B s.nd.length d (intV (mskL s.nd fun b => acc (srvP x s) (askF s) j b || decide (b = j)))]) :=
    Fn.lendA (rs := [box bw 3 (intV (mskL s.nd (acc (srvP x s) (askF s) j)))]) (R := fun r A1 => ∃ B d, r = .slice B s.nd.length d ∧ d ≤ 9223372036854775807 ∧ A1 = [ownS 3 1 B s.nd.length d (intV (mskL s.nd fun b => acc (srvP x s) (askF s) j b || decide (b = j)))]) ⟨Try.f80, Try.func80, rfl, rfl⟩ (fun M' hm hok => by
      have hI := Ints.ofBox (hok _ List.mem_cons_self) (by rw [mskL_length]; omega)
      have := rwith_own M' (some ⟨bw, 0, none⟩) _ _ j u hI (by rw [mskL_length]; exact hlt) (by rw [mskL_length]; omega)
      rw [mskL_length, hnew] at this
      exact this)
  (repeat (first | ((with_reducible refine Tr.step rfl ?_); (first | (refine xmQ (z := ?_)) | ((with_reducible refine Knd.load ?_); (first | (refine xlQ (z := ?_)) | (refine xMQ (z := ?_)))) | (refine xfQ (z := ?_)) | (refine xnQ (z := ?_)) | (refine xiQ (z := ?_)) | (refine xxQ (z := ?_)))) | (with_reducible first | apply Tr.next | apply Tr.seq | apply Tr.region | apply Tr.nil | apply Tr.skip | apply Tr.block) | (refine Tr.cond_t rfl (by first | (with_reducible assumption) | omega) ?_) | (refine Tr.cond_f rfl (by omega) ?_)))
  (((apply Tr.draw ((box b3 67 _ :: _))); (kernel_rfl)); (refine tkQ 0 (hB := by exact (Sub.mem (by repeat (first | exact Sub.refl | apply Sub.cons)))) (s := by exact Stab.move rfl) (h := ?_)); (refine tkQ 1 (s := by exact sfQ) (h := ?_)); (refine tkQ 3 (s := by exact Stab.move rfl) (h := ?_)); (refine tkQ 4 (s := by exact Stab.move rfl) (h := ?_)); (refine tkQ 5 (s := by exact sfQ) (h := ?_)); (refine tkQ 7 (s := by exact Stab.move rfl) (h := ?_)); (refine tkQ 2 (s := by exact slQ) (h := ?_)); (refine tkQ 6 (s := by exact slQ) (h := ?_)); (refine tkQ 8 (s := by exact sxQ) (h := ?_)); (refine tkQ 9 (s := by exact sMQ) (h := ?_)); (refine TrA.eff 10 rfl (by kernel_rfl) (by exact .inl rfl) ?_))
  refine Exec.call (A := [box bw 3 _]) rfl hlend (List.Perm.refl _) rfl ?_
  rintro _ _ _ - ⟨_, rfl, rfl, B, dd, rfl, hdd, rfl⟩
  simp only [List.cons_append, List.nil_append]
  refine ⟨Mem.le.refl _, (by exact (Sub.mem (by repeat (first | exact Sub.refl | apply Sub.cons)))), ?_⟩
  refine TrA.publish (x := ownS 3 1 B _ _ _) (by repeat (first | exact Del.here | apply Del.there)) (fun M3 hm3 ok3 => ?_)
  have i3 := Ints.ofOwn ok3 (by rw [mskL_length]) hdd
  have hm13 := hm2.trans hm3
  have hfl := rflow_fn M3 At_ Ba B ct ba dd (tabL x.fits x.due s.dy) s.am (mskL s.nd fun b => acc (srvP x s) (askF s) j b || decide (b = j)) (ht.mono RRowB.mono hm13) (q1.mono RI.mono hm13) i3 (by rw [mskL_length]; omega) (lexA _) (fun _ hfe => lexA_max hfe)
  rw [mskL_length] at hfl
  ((refine TrA.eff 11 rfl (by kernel_rfl) (by exact .inl rfl) ?_))
  refine Exec.call0 rfl hfl rfl ?_
  rintro _ M4 hm4 hR
  refine ⟨hm4, (by exact (Sub.mem (by repeat (first | exact Sub.refl | apply Sub.cons)))), ?_⟩
  rcases hR with ⟨hbad, -⟩ | ⟨-, hnf, Bq, kq, rfl, -⟩ | ⟨-, hfe, Aq, cq, rfl, -⟩
  · rw [vld_iff.2 (hv _)] at hbad; cases hbad
  · have hac : acc (srvP x s) (askF s) (j + 1) = acc (srvP x s) (askF s) j := acc_no (fun h => hnf h.2)
    rw [hac, hjl, Bool.not_false, if_pos rfl] at hfs
    have hset : (boV (flg s.nd.length (failF x s j))).set j (.bool true) = boV (flg s.nd.length (failF x s (j + 1))) := by rw [boV_set, flg_add, hfs]
    have hlen2 : (boV (flg s.nd.length (failF x s j))).length = s.nd.length := by rw [boV_length, flg_length]
    ((refine tkQ 12 (s := by exact Stab.move rfl) (h := ?_)); (refine tkQ 13 (s := by exact Stab.extract rfl rfl) (h := ?_)); (refine tkQ 14 (s := by exact Stab.extract rfl rfl) (h := ?_)); (refine tkQ 15 (s := by exact Stab.extract rfl rfl) (h := ?_)); (refine tkQ 16 (s := by exact Stab.extract rfl rfl) (h := ?_)); (refine tkQ 17 (s := by exact Stab.assign rfl) (h := ?_)); (refine tkQ 18 (s := by exact Stab.assign rfl) (h := ?_)); (refine tkQ 19 (s := by exact Stab.assign rfl) (h := ?_)); (refine tkQ 20 (s := by exact Stab.assign rfl) (h := ?_)); (refine TrA.done (by kernel_rfl) ?_))
    (repeat (first | ((with_reducible refine Tr.step rfl ?_); (first | (refine xmQ (z := ?_)) | (refine xaQ (z := ?_)) | (refine xdQ (z := ?_)) | ((with_reducible refine Knd.store ?_); (refine Exec.storeS rfl rfl (tysOk.get rfl) rfl (by first | rfl | assumption) (by repeat (first | exact Upd.here | apply Upd.there)) (by omega) ?_)) | ((with_reducible refine Knd.indexAddr ?_); (refine Exec.stab rfl (Stab.indexB0 rfl rfl (tysOk.get rfl) rfl (tysOk.get rfl) rfl (by omega) (by omega)) rfl ?_)))) | (with_reducible first | apply Tr.next | apply Tr.seq | apply Tr.region | apply Tr.nil | apply Tr.in_normal) | (refine Tr.cond_bf rfl (by (with_reducible rfl)) ?_)))
    rw [Int.toNat_natCast j, hset, ← hac]
    exact Tr.again (j + 1, M4) ⟨by simp only; omega, hm13.trans hm4⟩ (by simp only; omega) hsQ
  · have hac : acc (srvP x s) (askF s) (j + 1) = fun b => acc (srvP x s) (askF s) j b || decide (b = j) := acc_yes ha hfe
    have hfs2 : failF x s (j + 1) = failF x s j := by
      rw [hfs, hac]; simp
    have hat42 := hat4.mono (hm3.trans hm4)
    have hset : (intV (mskL s.nd (acc (srvP x s) (askF s) j))).set j (.int .i64 u) = intV (mskL s.nd (acc (srvP x s) (askF s) (j + 1))) := by rw [intV_set, hnew, hac]
    have hlen2 : (intV (mskL s.nd (acc (srvP x s) (askF s) j))).length = s.nd.length := by rw [intV_length, mskL_length]
    ((refine tkQ 12 (s := by exact Stab.move rfl) (h := ?_)); (refine tkQ 13 (s := by exact Stab.extract rfl rfl) (h := ?_)); (refine tkQ 14 (s := by exact Stab.extract rfl rfl) (h := ?_)); (refine tkQ 15 (s := by exact Stab.extract rfl rfl) (h := ?_)); (refine tkQ 16 (s := by exact Stab.extract rfl rfl) (h := ?_)); (refine tkQ 17 (s := by exact Stab.assign rfl) (h := ?_)); (refine tkQ 18 (s := by exact Stab.assign rfl) (h := ?_)); (refine tkQ 19 (s := by exact Stab.assign rfl) (h := ?_)); (refine tkQ 20 (s := by exact Stab.assign rfl) (h := ?_)); (refine TrA.done (by kernel_rfl) ?_))
    (repeat (first | ((with_reducible refine Tr.step rfl ?_); (first | (refine xmQ (z := ?_)) | (refine xaQ (z := ?_)) | ((with_reducible refine Knd.load ?_); (first | (refine xlQ (z := ?_)) | (refine xMQ (z := ?_)))) | (refine xfQ (z := ?_)) | (refine xdQ (z := ?_)) | ((with_reducible refine Knd.store ?_); (refine Exec.storeS rfl rfl (tysOk.get rfl) rfl (by first | rfl | assumption) (by repeat (first | exact Upd.here | apply Upd.there)) (by omega) ?_)) | ((with_reducible refine Knd.indexAddr ?_); (first | (refine Exec.stab rfl (Stab.indexB0 rfl rfl (tysOk.get rfl) rfl (tysOk.get rfl) rfl (by omega) (by omega)) rfl ?_) | (refine xxQ (z := ?_)))))) | (with_reducible first | apply Tr.next | apply Tr.seq | apply Tr.region | apply Tr.nil | apply Tr.in_normal) | (refine Tr.cond_bt rfl (by (with_reducible rfl)) ?_)))
    rw [Int.toNat_natCast j, hset, ← hfs2]
    exact Tr.again (j + 1, M4) ⟨by simp only; omega, hm13.trans hm4⟩ (by simp only; omega) hsQ
end Go.Proofs.Ytgnipfjjkliibaa

/-
  Honour, the reference: begin, formed, valid.
  Conditions: none.
-/
namespace Go.Proofs.Ytgnipfjjkliibaa
open Go Bf
attribute [local irreducible] Tr Exec Stab HasTy Go.Addr.add IntKind.wrap
theorem perm43 {α : Type} (a b c d e f g : α) (F : List α) : (a :: b :: c :: d :: e :: f :: g :: F).Perm (e :: f :: g :: a :: b :: c :: d :: F) := (List.perm_append_comm (l₁ := [a, b, c, d]) (l₂ := [e, f, g])).append_right F
set_option maxHeartbeats 8000000 in
theorem rbegin_own (M : Mem) (v : Value) (k : Bk) (h : RBk M v k) (hs : k.sups.length ≤ 1000000) (hr : k.reqs.length ≤ 1000000) :
    Bf.Fn Try.prog 36 [v] M [] (fun r M' A' => M = M' ∧ ∃ A1 c1 A2 c2 A3 c3 A4 c4, r = .agg #[.slice A1 k.sups.length c1, .slice A2 k.sups.length c2, .slice A3 k.reqs.length c3, .slice A4 k.reqs.length c4] ∧
      (c1 ≤ 9223372036854775807 ∧ c2 ≤ 9223372036854775807 ∧ c3 ≤ 9223372036854775807 ∧ c4 ≤ 9223372036854775807) ∧
      A' = [ownS 3 1 A3 k.reqs.length c3 (intV (beginF k).nd), ownS 3 1 A4 k.reqs.length c4 (intV (beginF k).br), ownS 3 1 A1 k.sups.length c1 (intV (beginF k).am), ownS 3 1 A2 k.sups.length c2 (intV (beginF k).dy)]) := by
  obtain ⟨As, cs, Ar, cr, Af, cf, Ad, cd, rfl, h1, h2, h3⟩ := h
  refine Fn.intro Try.func36 rfl rfl Try.ntmps36 rfl fun E F => ?_
  (repeat (first | ((with_reducible refine Tr.step rfl ?_); (first | (refine xaQ (z := ?_)) | (refine xWQ (z := ?_)) | ((with_reducible refine Knd.box ?_); (refine Exec.box rfl rfl (fun b => ?_))) | ((with_reducible refine Knd.alloc ?_); (refine Exec.alloc (tysOk.get rfl) rfl rfl (fun b => ?_))) | ((with_reducible refine Knd.build ?_); (refine Exec.stab rfl (Stab.build tysOk rfl rfl rfl rfl (by repeat (exact BuildP.nil))) rfl ?_)))) | (with_reducible first | apply Tr.next | apply Tr.seq | apply Tr.region | apply Tr.nil | apply Tr.block)))
  rename_i b1 b2
  generalize b = b3
  refine Tr.own_nil 3 1 ?_
  refine Tr.own_nil 3 1 ?_
  refine Tr.loop (α := Nat × (Option Addr × Nat) × (Option Addr × Nat)) (fun y => ⟨60, [(4, .int .i64 (y.1 : Int)), (3, .pointer (some ⟨b3, 0, none⟩)), (2, .pointer (some ⟨b2, 0, none⟩)), (1, .pointer (some ⟨b1, 0, none⟩))], [], M,
      ownS 3 1 y.2.1.1 y.1 y.2.1.2 (intV ((k.sups.take y.1).map (·.amount))) :: ownS 3 1 y.2.2.1 y.1 y.2.2.2 (intV ((k.sups.take y.1).map (·.ready))) :: box b3 67 [.slice y.2.1.1 y.1 y.2.1.2, .slice y.2.2.1 y.1 y.2.2.2, .slice none 0 0, .slice none 0 0] :: box b2 67 [.slice none 0 0, .slice none 0 0, .slice none 0 0, .slice none 0 0] :: box b1 27 [.int .i64 k.known, .slice As k.sups.length cs, .slice Ar k.reqs.length cr, .slice Af k.fits.length cf, .slice Ad k.reads cd] :: ([] ++ F)⟩)
    (fun y => y.1 ≤ k.sups.length ∧ y.2.1.2 ≤ 9223372036854775807 ∧ y.2.2.2 ≤ 9223372036854775807) (fun y => k.sups.length - y.1) (0, (none, 0), (none, 0)) ⟨Nat.zero_le _, by show (0 : Nat) ≤ _; omega, by show (0 : Nat) ≤ _; omega⟩ hsQ (fun y hy => ?_)
  obtain ⟨i, ⟨A1, c1⟩, ⟨A2, c2⟩⟩ := y
  obtain ⟨hi, hc1, hc2⟩ := hy
  simp only at hi hc1 hc2
  dsimp only
  by_cases hlt : i < k.sups.length
  · obtain ⟨y, hy⟩ := get_of_lt hlt
    obtain ⟨hA, ch, hat, rfl⟩ := h1.elem hy
    have hat5 := hat.drop 5
    have hat3 := hat.drop 3
    dsimp only [List.drop] at hat5 hat3
    have e1 := map_take_succ (·.amount) hy
    have e2 := map_take_succ (·.ready) hy
    (repeat (first | ((with_reducible refine Tr.step rfl ?_); (first | (refine xmQ (z := ?_)) | (refine xlQ (z := ?_)) | (refine xfQ (z := ?_)) | (refine xnQ (z := ?_)) | (refine xiQ (z := ?_)))) | (with_reducible first | apply Tr.next | apply Tr.seq | apply Tr.region | apply Tr.nil | apply Tr.skip | apply Tr.block) | (refine Tr.cond_t rfl (by first | (with_reducible assumption) | omega) ?_)))
    (((apply Tr.draw); (kernel_rfl)); (refine tkQ 0 (hB := by exact fun _ h => h) (s := by exact sfQ) (h := ?_)); (refine tkQ 2 (s := by exact sfQ) (h := ?_)); (refine tkQ 4 (s := by exact Stab.move rfl) (h := ?_)); (refine tkQ 1 (s := by exact slQ) (h := ?_)); (refine tkQ 3 (s := by exact slQ) (h := ?_)); (refine tkQ 5 (s := by exact sxQ) (h := ?_)); (refine tkQ 6 (s := by exact Stab.fieldD rfl (tysOk.get rfl) rfl rfl (tysOk.get rfl) rfl) (h := ?_)); (refine tkQ 7 (s := by exact sMQ) (h := ?_)); (refine TrA.eff 8 rfl (by kernel_rfl) (by exact .inl rfl) ?_); (((refine Knd.buildSlice ?_); ((refine Exec.buildSlice (tysOk.get rfl) rfl (tysOk.get rfl) rfl rfl rfl rfl rfl (by repeat (first | exact BuildP.nil | ((apply BuildP.one); (rfl); (rfl); (first | rfl | assumption); (repeat (first | exact SetL.z | apply SetL.s))))) rfl (fun b => ?_))))); (refine ⟨(by first | exact Mem.le.refl _ | assumption), (by exact (Sub.mem (by repeat (first | exact Sub.refl | apply Sub.cons)))), ?_⟩); (refine TrA.effD 9 rfl (by kernel_rfl) (by kernel_rfl) (by exact .inl rfl) ?_))
    refine Exec.append (news := [.int .i64 (y.amount)]) rfl rfl (tysOk.get rfl) rfl (tysOk.get rfl) rfl rfl rfl rfl (by repeat (first | exact Del.here | apply Del.there)) (Src.box (by repeat (first | exact Has.here | apply Has.there))) rfl (by intro u hu; simp at hu; subst hu; rfl) (by omega) (by omega) rfl (fun A3 c3 hc3 => ?_)
    refine ⟨_, fun _ h => h, ?_⟩
    ((refine tkQ 10 (s := by exact sfQ) (h := ?_)); (refine TrA.effD 11 rfl (by kernel_rfl) (by kernel_rfl) (by exact .inl rfl) ?_); (((refine Knd.store ?_); ((refine xSQ (z := ?_))))); (refine ⟨_, fun _ h => h, ?_⟩); (refine TrA.done (by kernel_rfl) ?_))
    refine gvQ (r := box b 3 _) (k := ?_)
    rw [show intV ((k.sups.take i).map (·.amount)) ++ [Value.int .i64 y.amount] = intV ((k.sups.take (i + 1)).map (·.amount)) by rw [e1, intV_append]; rfl]
    (repeat ((with_reducible refine Tr.next ?_)))
    (((apply Tr.draw); (kernel_rfl)); (refine tkQ 0 (hB := by exact fun _ h => h) (s := by exact sfQ) (h := ?_)); (refine tkQ 2 (s := by exact sfQ) (h := ?_)); (refine tkQ 4 (s := by exact Stab.move rfl) (h := ?_)); (refine tkQ 1 (s := by exact slQ) (h := ?_)); (refine tkQ 3 (s := by exact slQ) (h := ?_)); (refine tkQ 5 (s := by exact sxQ) (h := ?_)); (refine tkQ 6 (s := by exact Stab.fieldD rfl (tysOk.get rfl) rfl rfl (tysOk.get rfl) rfl) (h := ?_)); (refine tkQ 7 (s := by exact sMQ) (h := ?_)); (refine TrA.eff 8 rfl (by kernel_rfl) (by exact .inl rfl) ?_); (((refine Knd.buildSlice ?_); ((refine Exec.buildSlice (tysOk.get rfl) rfl (tysOk.get rfl) rfl rfl rfl rfl rfl (by repeat (first | exact BuildP.nil | ((apply BuildP.one); (rfl); (rfl); (first | rfl | assumption); (repeat (first | exact SetL.z | apply SetL.s))))) rfl (fun b => ?_))))); (refine ⟨(by first | exact Mem.le.refl _ | assumption), (by exact (Sub.mem (by repeat (first | exact Sub.refl | apply Sub.cons)))), ?_⟩); (refine TrA.effD 9 rfl (by kernel_rfl) (by kernel_rfl) (by exact .inl rfl) ?_))
    refine Exec.append (news := [.int .i64 (y.ready)]) rfl rfl (tysOk.get rfl) rfl (tysOk.get rfl) rfl rfl rfl rfl (by repeat (first | exact Del.here | apply Del.there)) (Src.box (by repeat (first | exact Has.here | apply Has.there))) rfl (by intro u hu; simp at hu; subst hu; rfl) (by omega) (by omega) rfl (fun A4 c4 hc4 => ?_)
    refine ⟨_, fun _ h => h, ?_⟩
    ((refine tkQ 10 (s := by exact sfQ) (h := ?_)); (refine TrA.effD 11 rfl (by kernel_rfl) (by kernel_rfl) (by exact .inl rfl) ?_); (((refine Knd.store ?_); ((refine xSQ (z := ?_))))); (refine ⟨_, fun _ h => h, ?_⟩); (refine TrA.done (by kernel_rfl) ?_))
    refine gvQ (r := box b 3 _) (k := ?_)
    rw [show intV ((k.sups.take i).map (·.ready)) ++ [Value.int .i64 y.ready] = intV ((k.sups.take (i + 1)).map (·.ready)) by rw [e2, intV_append]; rfl]
    (repeat (first | ((with_reducible refine Tr.step rfl ?_); (first | (refine xmQ (z := ?_)) | (refine xaQ (z := ?_)) | (refine xdQ (z := ?_)))) | (with_reducible first | apply Tr.next | apply Tr.region | apply Tr.nil | apply Tr.in_normal)))
    refine ftQ (r := ownS 3 1 A3 _ _ _) (k := ?_)
    exact Tr.again (i + 1, (A3, c3), (A4, c4)) ⟨by simp only; omega, hc3, hc4⟩ (by simp only; omega) hsQ
  have ei : i = k.sups.length := by omega
  subst ei
  rw [List.take_length]
  (repeat (first | ((with_reducible refine Tr.step rfl ?_); (first | (refine xmQ (z := ?_)) | (refine xaQ (z := ?_)) | (refine xlQ (z := ?_)) | (refine xfQ (z := ?_)) | (refine xnQ (z := ?_)) | (refine xiQ (z := ?_)))) | (with_reducible first | apply Tr.next | apply Tr.seq | apply Tr.region | apply Tr.nil | apply Tr.block | apply Tr.exit | apply Tr.then_exit) | ((with_reducible refine Tr.in_exit ?_ ?_); (exact rfl)) | (refine Tr.cond_f rfl (by first | (with_reducible assumption) | omega) ?_)))
  refine Tr.own_nil 3 1 ?_
  refine Tr.own_nil 3 1 ?_
  refine Tr.loop (α := Nat × (Option Addr × Nat) × (Option Addr × Nat)) (fun y => ⟨60, [(5, .int .i64 (y.1 : Int)), (3, .pointer (some ⟨b3, 0, none⟩)), (2, .pointer (some ⟨b2, 0, none⟩)), (1, .pointer (some ⟨b1, 0, none⟩))], [], M,
      ownS 3 1 y.2.1.1 y.1 y.2.1.2 (intV ((k.reqs.take y.1).map (·.amount))) :: ownS 3 1 y.2.2.1 y.1 y.2.2.2 (intV ((k.reqs.take y.1).map fun _ => -1)) :: ownS 3 1 A1 k.sups.length c1 (intV (k.sups.map (·.amount))) :: ownS 3 1 A2 k.sups.length c2 (intV (k.sups.map (·.ready))) :: box b3 67 [.slice A1 k.sups.length c1, .slice A2 k.sups.length c2, .slice y.2.1.1 y.1 y.2.1.2, .slice y.2.2.1 y.1 y.2.2.2] :: box b2 67 [.slice none 0 0, .slice none 0 0, .slice none 0 0, .slice none 0 0] :: box b1 27 [.int .i64 k.known, .slice As k.sups.length cs, .slice Ar k.reqs.length cr, .slice Af k.fits.length cf, .slice Ad k.reads cd] :: ([] ++ F)⟩)
    (fun y => y.1 ≤ k.reqs.length ∧ y.2.1.2 ≤ 9223372036854775807 ∧ y.2.2.2 ≤ 9223372036854775807) (fun y => k.reqs.length - y.1) (0, (none, 0), (none, 0)) ⟨Nat.zero_le _, by show (0 : Nat) ≤ _; omega, by show (0 : Nat) ≤ _; omega⟩ hsQ (fun y hy => ?_)
  obtain ⟨i, ⟨A3, c3⟩, ⟨A5, c5⟩⟩ := y
  obtain ⟨hi, hc3, hc5⟩ := hy
  simp only at hi hc3 hc5
  dsimp only
  by_cases hlt2 : i < k.reqs.length
  · obtain ⟨y, hy⟩ := get_of_lt hlt2
    obtain ⟨hA, ch, hat, rfl⟩ := h2.elem hy
    have hat5 := hat.drop 5
    dsimp only [List.drop] at hat5
    have e1 := map_take_succ (·.amount) hy
    have e3 := map_take_succ (fun _ : Rq => (-1 : Int)) hy
    (repeat (first | ((with_reducible refine Tr.step rfl ?_); (first | (refine xmQ (z := ?_)) | (refine xlQ (z := ?_)) | (refine xfQ (z := ?_)) | (refine xnQ (z := ?_)) | (refine xiQ (z := ?_)))) | (with_reducible first | apply Tr.next | apply Tr.seq | apply Tr.region | apply Tr.nil | apply Tr.skip | apply Tr.block) | (refine Tr.cond_t rfl (by first | (with_reducible assumption) | omega) ?_)))
    (((apply Tr.draw); (kernel_rfl)); (refine tkQ 0 (hB := by exact fun _ h => h) (s := by exact sfQ) (h := ?_)); (refine tkQ 2 (s := by exact sfQ) (h := ?_)); (refine tkQ 4 (s := by exact Stab.move rfl) (h := ?_)); (refine tkQ 1 (s := by exact slQ) (h := ?_)); (refine tkQ 3 (s := by exact slQ) (h := ?_)); (refine tkQ 5 (s := by exact sxQ) (h := ?_)); (refine tkQ 6 (s := by exact Stab.fieldD rfl (tysOk.get rfl) rfl rfl (tysOk.get rfl) rfl) (h := ?_)); (refine tkQ 7 (s := by exact sMQ) (h := ?_)); (refine TrA.eff 8 rfl (by kernel_rfl) (by exact .inl rfl) ?_); (((refine Knd.buildSlice ?_); ((refine Exec.buildSlice (tysOk.get rfl) rfl (tysOk.get rfl) rfl rfl rfl rfl rfl (by repeat (first | exact BuildP.nil | ((apply BuildP.one); (rfl); (rfl); (first | rfl | assumption); (repeat (first | exact SetL.z | apply SetL.s))))) rfl (fun b => ?_))))); (refine ⟨(by first | exact Mem.le.refl _ | assumption), (by exact (Sub.mem (by repeat (first | exact Sub.refl | apply Sub.cons)))), ?_⟩); (refine TrA.effD 9 rfl (by kernel_rfl) (by kernel_rfl) (by exact .inl rfl) ?_))
    refine Exec.append (news := [.int .i64 (y.amount)]) rfl rfl (tysOk.get rfl) rfl (tysOk.get rfl) rfl rfl rfl rfl (by repeat (first | exact Del.here | apply Del.there)) (Src.box (by repeat (first | exact Has.here | apply Has.there))) rfl (by intro u hu; simp at hu; subst hu; rfl) (by omega) (by omega) rfl (fun A6 c6 hc6 => ?_)
    refine ⟨_, fun _ h => h, ?_⟩
    ((refine tkQ 10 (s := by exact sfQ) (h := ?_)); (refine TrA.effD 11 rfl (by kernel_rfl) (by kernel_rfl) (by exact .inl rfl) ?_); (((refine Knd.store ?_); ((refine xSQ (z := ?_))))); (refine ⟨_, fun _ h => h, ?_⟩); (refine TrA.done (by kernel_rfl) ?_))
    refine gvQ (r := box b 3 _) (k := ?_)
    rw [show intV ((k.reqs.take i).map (·.amount)) ++ [Value.int .i64 y.amount] = intV ((k.reqs.take (i + 1)).map (·.amount)) by rw [e1, intV_append]; rfl]
    (repeat (first | ((with_reducible refine Tr.step rfl ?_); (first | (refine xlQ (z := ?_)) | (refine xfQ (z := ?_)) | ((with_reducible refine Knd.buildSlice ?_); (refine Exec.buildSlice (tysOk.get rfl) rfl (tysOk.get rfl) rfl rfl rfl rfl rfl (by repeat (first | exact BuildP.nil | ((apply BuildP.one); (rfl); (rfl); (first | rfl | assumption); (repeat (first | exact SetL.z | apply SetL.s))))) rfl (fun b => ?_))))) | (with_reducible first | apply Tr.next | apply Tr.region)))
    ((refine Tr.step rfl ?_))
    refine Exec.append (news := [.int .i64 (-1)]) rfl rfl (tysOk.get rfl) rfl (tysOk.get rfl) rfl rfl rfl rfl (by repeat (first | exact Del.here | apply Del.there)) (Src.box (by repeat (first | exact Has.here | apply Has.there))) rfl (by intro u hu; simp at hu; subst hu; rfl) (by omega) (by omega) rfl (fun A8 c8 hc8 => ?_)
    refine gvQ (r := box b 3 _) (k := ?_)
    rw [show intV ((k.reqs.take i).map fun _ => -1) ++ [Value.int .i64 (-1)] = intV ((k.reqs.take (i + 1)).map fun _ => -1) by rw [e3, intV_append]; rfl]
    (repeat (first | ((with_reducible refine Tr.step rfl ?_); (first | (refine xmQ (z := ?_)) | (refine xaQ (z := ?_)) | (refine xfQ (z := ?_)) | (refine xdQ (z := ?_)) | (refine xSQ (z := ?_)))) | (with_reducible first | apply Tr.next | apply Tr.region | apply Tr.nil | apply Tr.in_normal)))
    refine ftQ (r := ownS 3 1 A6 _ _ _) (k := ?_)
    exact Tr.again (i + 1, (A6, c6), (A8, c8)) ⟨by simp only; omega, hc6, hc8⟩ (by simp only; omega) hsQ
  have ei : i = k.reqs.length := by omega
  subst ei
  rw [List.take_length]
  (repeat (first | ((with_reducible refine Tr.step rfl ?_); (first | (refine xmQ (z := ?_)) | ((with_reducible refine Knd.load ?_); (first | (refine xlQ (z := ?_)) | (refine xwQ (z := ?_)))) | (refine xfQ (z := ?_)) | (refine xnQ (z := ?_)) | (refine xiQ (z := ?_)) | (refine xWQ (z := ?_)))) | (with_reducible first | apply Tr.next | apply Tr.seq | apply Tr.region | apply Tr.nil | apply Tr.exit | apply Tr.ret | apply Tr.then_exit) | ((with_reducible refine Tr.in_exit ?_ ?_); (exact rfl)) | (refine Tr.cond_f rfl (by first | (with_reducible assumption) | omega) ?_)))
  refine Tr.doneB (A' := [ownS 3 1 A3 k.reqs.length c3 (intV (beginF k).nd), ownS 3 1 A5 k.reqs.length c5 (intV (beginF k).br), ownS 3 1 A1 k.sups.length c1 (intV (beginF k).am), ownS 3 1 A2 k.sups.length c2 (intV (beginF k).dy)]) [box _ 67 _, box _ 67 _, box _ 27 _] (by first | exact .inl rfl | exact .inr rfl) rfl (by repeat (first | exact RVs.nil | (apply RVs.cons; (exact RV.cellW (by rfl) (tysOk.get (by rfl)) (by rfl) (by repeat (first | exact Has.here | apply Has.there)) (by first | rfl | assumption))))) (Mem.le.refl _) (perm43 _ _ _ _ _ _ _ _)
    ⟨rfl, A1, c1, A2, c2, A3, c3, A5, c5, rfl, ⟨hc1, hc2, hc3, hc5⟩, rfl⟩
theorem rbegin_fn (M : Mem) (v : Value) (k : Bk) (h : RBk M v k) (hs : k.sups.length ≤ 1000000) (hr : k.reqs.length ≤ 1000000) :
    Fn0 Try.prog 36 [v] M (fun r M' => RSr M' r (beginF k)) := by
  have hl := begin_len k
  have key := rbegin_own M v k h hs hr
  refine ⟨key.1, fun E F w hw => (key.2 E F w hw).mono ?_⟩
  rintro _ w' ⟨r, M', A', h1, h2, h3, rfl, A1, c1, A2, c2, A3, c3, A4, c4, e, ⟨hc1, hc2, hc3, hc4⟩, rfl⟩
  obtain ⟨M1, g1, m1, ok1, -⟩ := h3.publish
  obtain ⟨M2, g2, m2, ok2, -⟩ := g1.publish
  obtain ⟨M3, g3, m3, ok3, -⟩ := g2.publish
  obtain ⟨M4, g4, m4, ok4, -⟩ := g3.publish
  have i1 := Ints.ofOwn ok1 (by omega) hc3
  have i2 := Ints.ofOwn ok2 (by omega) hc4
  have i3 := Ints.ofOwn ok3 (by omega) hc1
  have i4 := Ints.ofOwn ok4 (by omega) hc2
  refine ⟨r, M4, [], h1, m1.trans (m2.trans (m3.trans m4)), g4, rfl, ?_⟩
  exact ⟨A1, c1, A2, c2, A3, c3, A4, c4, by rw [e, hl.1, hl.2.1, hl.2.2.1, hl.2.2.2], i3.mono RI.mono m4, i4, i1.mono RI.mono (m2.trans (m3.trans m4)), i2.mono RI.mono (m3.trans m4)⟩
set_option maxHeartbeats 8000000 in
theorem rformed_fn (M : Mem) (v : Value) (k : Bk) (h : RBk M v k) :
    Fn0 Try.prog 78 [v] M (fun r M' => (∃ b : Bool, r = .bool b ∧ (b = true ↔ formedB k)) ∧ M = M') := by
  obtain ⟨As, cs, Ar, cr, Af, cf, Ad, cd, rfl, h1, h2, h3⟩ := h
  have l1 := h1.len_le
  have l2 := h2.len_le
  have l3 := h3.len_le
  refine Fn.intro Try.func78 rfl rfl Try.ntmps78 rfl fun E F => ?_
  by_cases c1 : k.sups.length ≤ 64
  rotate_left
  · (repeat (first | ((with_reducible refine Tr.step rfl ?_); (first | (refine xmQ (z := ?_)) | (refine xaQ (z := ?_)) | (refine xlQ (z := ?_)) | (refine xfQ (z := ?_)) | (refine xnQ (z := ?_)) | (refine xiQ (z := ?_)) | ((with_reducible refine Knd.pick ?_); (first | (refine Exec.stab rfl (Stab.pick_t rfl (by (with_reducible rfl)) rfl) rfl ?_) | (refine Exec.stab rfl (Stab.pick_td rfl (by omega) rfl) rfl ?_))) | ((with_reducible refine Knd.box ?_); (refine Exec.box rfl rfl (fun b => ?_))))) | (with_reducible first | apply Tr.next | apply Tr.seq | apply Tr.region | apply Tr.nil) | (refine Tr.guard_s0 rfl rfl rfl (by (with_reducible rfl)) rfl rfl ?_) | (refine Tr.guard_n' rfl rfl rfl (by first | (with_reducible assumption) | omega) rfl rfl ?_) | (with_reducible first | apply Tr.ret | apply Tr.then_ret) | (refine Tr.cond_bt rfl (by (with_reducible rfl)) ?_)))
    (refine dnQ (hL := by exact ⟨[_], rfl⟩) (k := ⟨rfl, ?_⟩))
    exact ⟨⟨false, rfl, by simp only [Bool.false_eq_true, false_iff]; exact fun h => c1 h.1⟩, rfl⟩
  by_cases c2 : k.reqs.length ≤ 64
  rotate_left
  · (repeat (first | ((with_reducible refine Tr.step rfl ?_); (first | (refine xmQ (z := ?_)) | (refine xaQ (z := ?_)) | (refine xlQ (z := ?_)) | (refine xfQ (z := ?_)) | (refine xnQ (z := ?_)) | (refine xiQ (z := ?_)) | ((with_reducible refine Knd.pick ?_); (first | (refine Exec.stab rfl (Stab.pick_td rfl (by omega) rfl) rfl ?_) | (refine Exec.stab rfl (Stab.pick_fd rfl (by omega) rfl) rfl ?_))) | ((with_reducible refine Knd.box ?_); (refine Exec.box rfl rfl (fun b => ?_))))) | (with_reducible first | apply Tr.next | apply Tr.seq | apply Tr.region | apply Tr.nil) | ((refine Tr.guard_y' rfl rfl rfl (by first | (with_reducible assumption) | omega) ?_); (first | (refine xlQ (z := ?_)) | (refine xfQ (z := ?_)) | (refine xnQ (z := ?_)) | (refine xiQ (z := ?_)))) | (refine Tr.guard_n' rfl rfl rfl (by first | (with_reducible assumption) | omega) rfl rfl ?_) | (with_reducible first | apply Tr.ret | apply Tr.then_ret) | (refine Tr.cond_bt rfl (by (with_reducible rfl)) ?_)))
    (refine dnQ (hL := by exact ⟨[_], rfl⟩) (k := ⟨rfl, ?_⟩))
    exact ⟨⟨false, rfl, by simp only [Bool.false_eq_true, false_iff]; exact fun h => c2 h.2.1⟩, rfl⟩
  by_cases c3 : k.fits.length = k.sups.length
  rotate_left
  · (repeat (first | ((with_reducible refine Tr.step rfl ?_); (first | (refine xmQ (z := ?_)) | (refine xaQ (z := ?_)) | (refine xlQ (z := ?_)) | (refine xfQ (z := ?_)) | (refine xnQ (z := ?_)) | (refine xiQ (z := ?_)) | ((with_reducible refine Knd.pick ?_); (refine Exec.stab rfl (Stab.pick_fd rfl (by omega) rfl) rfl ?_)) | ((with_reducible refine Knd.box ?_); (refine Exec.box rfl rfl (fun b => ?_))))) | (with_reducible first | apply Tr.next | apply Tr.seq | apply Tr.region | apply Tr.nil) | ((refine Tr.guard_y' rfl rfl rfl (by first | (with_reducible assumption) | omega) ?_); (first | (refine xlQ (z := ?_)) | (refine xfQ (z := ?_)) | (refine xnQ (z := ?_)) | (refine xiQ (z := ?_)))) | (with_reducible first | apply Tr.ret | apply Tr.then_ret) | (refine Tr.cond_t rfl (by first | (with_reducible assumption) | omega) ?_)))
    (refine dnQ (hL := by exact ⟨[_], rfl⟩) (k := ⟨rfl, ?_⟩))
    exact ⟨⟨false, rfl, by simp only [Bool.false_eq_true, false_iff]; exact fun h => c3 h.2.2.2.2.1⟩, rfl⟩
  (repeat (first | ((with_reducible refine Tr.step rfl ?_); (first | (refine xmQ (z := ?_)) | (refine xaQ (z := ?_)) | (refine xlQ (z := ?_)) | (refine xfQ (z := ?_)) | (refine xnQ (z := ?_)) | (refine xiQ (z := ?_)) | ((with_reducible refine Knd.pick ?_); (refine Exec.stab rfl (Stab.pick_fd rfl (by omega) rfl) rfl ?_)) | ((with_reducible refine Knd.box ?_); (refine Exec.box rfl rfl (fun b => ?_))))) | (with_reducible first | apply Tr.next | apply Tr.seq | apply Tr.region | apply Tr.nil) | ((refine Tr.guard_y' rfl rfl rfl (by omega) ?_); (first | (refine xlQ (z := ?_)) | (refine xfQ (z := ?_)) | (refine xnQ (z := ?_)) | (refine xiQ (z := ?_)))) | (with_reducible first | apply Tr.skip | apply Tr.block) | (refine Tr.cond_f rfl (by omega) ?_)))
  generalize b = b1
  refine Tr.loop (α := Nat) (fun y => ⟨86, [(3, .int .i64 (y : Int)), (1, .pointer (some ⟨b1, 0, none⟩))], [], M, box b1 27 [.int .i64 k.known, .slice As k.sups.length cs, .slice Ar k.reqs.length cr, .slice Af k.fits.length cf, .slice Ad k.reads cd] :: ([] ++ F)⟩)
    (fun y => y ≤ k.sups.length ∧ (∀ t x, t < y → k.sups[t]? = some x → (0 ≤ x.amount ∧ x.amount ≤ 1048576) ∧ 0 ≤ x.ready ∧ x.ready ≤ 1024) ∧ ∀ (t : Nat) (r : List Bool), t < y → k.fits[t]? = some r → r.length = k.reqs.length) (fun y => k.sups.length - y) 0 ⟨Nat.zero_le _, fun t _ ht => by omega, fun t _ ht => by omega⟩ hsQ (fun i hi => ?_)
  obtain ⟨hi, hs, hw⟩ := hi
  by_cases hlt : i < k.sups.length
  · obtain ⟨x, hx⟩ := get_of_lt hlt
    obtain ⟨hA, ch, hat, rfl⟩ := h1.elem hx
    have hat5 := hat.drop 5
    have hat3 := hat.drop 3
    dsimp only [List.drop] at hat5 hat3
    obtain ⟨r, hr⟩ := get_of_lt (xs := k.fits) (i := i) (by omega)
    obtain ⟨hA2, ch2, hat2, Aw, kw, rfl, hI⟩ := h3.elem hr
    have hIl := hI.len_le
    (repeat (first | ((with_reducible refine Tr.step rfl ?_); (first | (refine xmQ (z := ?_)) | (refine xlQ (z := ?_)) | (refine xfQ (z := ?_)) | (refine xnQ (z := ?_)) | (refine xiQ (z := ?_)))) | (with_reducible first | apply Tr.next | apply Tr.seq | apply Tr.region | apply Tr.nil | apply Tr.skip | apply Tr.block) | (refine Tr.cond_t rfl (by first | (with_reducible assumption) | omega) ?_)))
    (((apply Tr.draw); (kernel_rfl)); (refine tkQ 0 (hB := by exact fun _ h => h) (s := by exact sfQ) (h := ?_)); (refine tkQ 2 (s := by exact Stab.move rfl) (h := ?_)); (refine tkQ 1 (s := by exact slQ) (h := ?_)); (refine tkQ 3 (s := by exact sxQ) (h := ?_)); (refine tkQ 4 (s := by exact Stab.fieldD rfl (tysOk.get rfl) rfl rfl (tysOk.get rfl) rfl) (h := ?_)); (refine tkQ 5 (s := by exact sMQ) (h := ?_)); (refine TrA.eff 6 rfl (by kernel_rfl) (by exact .inl rfl) ?_))
    refine Exec.call0 rfl (rin_fn M x.amount 0 1048576) rfl ?_
    rintro _ _ _ ⟨rfl, rfl⟩
    refine ⟨Mem.le.refl _, (by exact fun _ h => h), ?_⟩
    by_cases d1 : 0 ≤ x.amount ∧ x.amount ≤ 1048576
    rotate_left
    · rw [decide_eq_false d1]
      ((refine tkQ 7 (s := by exact Stab.not rfl) (h := ?_)); (refine tkQ 8 (s := by exact Stab.move rfl) (h := ?_)); ((refine tuQ 9 (h := ?_))); ((refine tuQ 11 (h := ?_))); ((refine tuQ 10 (h := ?_))); ((refine tuQ 12 (h := ?_))); ((refine tuQ 13 (h := ?_))); ((refine tuQ 14 (h := ?_))); ((refine tuQ 15 (h := ?_))); ((refine tuQ 16 (h := ?_))); (refine tkQ 17 (s := by exact Stab.pick_t rfl (by (with_reducible exact Bool.not_false)) rfl) (h := ?_)); (refine tkQ 18 (s := by exact Stab.move rfl) (h := ?_)); ((refine tuQ 19 (h := ?_))); ((refine tuQ 21 (h := ?_))); ((refine tuQ 25 (h := ?_))); ((refine tuQ 20 (h := ?_))); ((refine tuQ 26 (h := ?_))); ((refine tuQ 22 (h := ?_))); ((refine tuQ 27 (h := ?_))); ((refine tuQ 23 (h := ?_))); ((refine tuQ 24 (h := ?_))); ((refine tuQ 28 (h := ?_))); (refine tkQ 29 (s := by exact Stab.pick_t rfl (by (with_reducible rfl)) rfl) (h := ?_)); (refine TrA.done (by kernel_rfl) ?_))
      (repeat (first | ((with_reducible refine Tr.step rfl ?_); (with_reducible refine Knd.assign ?_); (refine xaQ (z := ?_))) | (with_reducible first | apply Tr.next | apply Tr.seq | apply Tr.region | apply Tr.nil | apply Tr.ret | apply Tr.then_ret | apply Tr.in_ret) | (refine Tr.cond_bt rfl (by (with_reducible rfl)) ?_)))
      (refine dnQ (hL := by exact ⟨[_], rfl⟩) (k := ⟨rfl, ?_⟩))
      exact ⟨⟨false, rfl, by simp only [Bool.false_eq_true, false_iff]; exact fun h => d1 (h.2.2.1 x (List.mem_of_getElem? hx)).1⟩, rfl⟩
    rw [decide_eq_true d1]
    ((refine tkQ 7 (s := by exact Stab.not rfl) (h := ?_)); (refine tkQ 8 (s := by exact Stab.move rfl) (h := ?_)); ((refine tgQ 9 (q := (by (with_reducible exact Bool.not_true))) (s := by exact sfQ) (h := ?_))); ((refine tgQ 11 (q := (by (with_reducible exact Bool.not_true))) (s := by exact Stab.move rfl) (h := ?_))); ((refine tgQ 10 (q := (by (with_reducible exact Bool.not_true))) (s := by exact slQ) (h := ?_))); ((refine tgQ 12 (q := (by (with_reducible exact Bool.not_true))) (s := by exact sxQ) (h := ?_))); ((refine tgQ 13 (q := (by (with_reducible exact Bool.not_true))) (s := by exact Stab.fieldD rfl (tysOk.get rfl) rfl rfl (tysOk.get rfl) rfl) (h := ?_))); ((refine tgQ 14 (q := (by (with_reducible exact Bool.not_true))) (s := by exact sMQ) (h := ?_))); (refine TrA.eff 15 rfl (by kernel_rfl) (by exact .inr ⟨_, _, _, rfl, rfl, rfl⟩) ?_))
    refine Exec.call0 rfl (rin_fn M x.ready 0 1024) rfl ?_
    rintro _ _ _ ⟨rfl, rfl⟩
    refine ⟨Mem.le.refl _, (by exact fun _ h => h), ?_⟩
    by_cases d2 : 0 ≤ x.ready ∧ x.ready ≤ 1024
    rotate_left
    · rw [decide_eq_false d2]
      (((refine tgQ 16 (q := (by (with_reducible exact Bool.not_true))) (s := by exact Stab.not rfl) (h := ?_))); (refine tkQ 17 (s := by exact Stab.pick_f rfl (by (with_reducible exact Bool.not_true)) rfl) (h := ?_)); (refine tkQ 18 (s := by exact Stab.move rfl) (h := ?_)); ((refine tuQ 19 (h := ?_))); ((refine tuQ 21 (h := ?_))); ((refine tuQ 25 (h := ?_))); ((refine tuQ 20 (h := ?_))); ((refine tuQ 26 (h := ?_))); ((refine tuQ 22 (h := ?_))); ((refine tuQ 27 (h := ?_))); ((refine tuQ 23 (h := ?_))); ((refine tuQ 24 (h := ?_))); ((refine tuQ 28 (h := ?_))); (refine tkQ 29 (s := by exact Stab.pick_t rfl (by (with_reducible exact Bool.not_false)) rfl) (h := ?_)); (refine TrA.done (by kernel_rfl) ?_))
      (repeat (first | ((with_reducible refine Tr.step rfl ?_); (with_reducible refine Knd.assign ?_); (refine xaQ (z := ?_))) | (with_reducible first | apply Tr.next | apply Tr.seq | apply Tr.region | apply Tr.nil | apply Tr.ret | apply Tr.then_ret | apply Tr.in_ret) | (refine Tr.cond_bt rfl (by (with_reducible rfl)) ?_)))
      (refine dnQ (hL := by exact ⟨[_], rfl⟩) (k := ⟨rfl, ?_⟩))
      exact ⟨⟨false, rfl, by simp only [Bool.false_eq_true, false_iff]; exact fun h => d2 (h.2.2.1 x (List.mem_of_getElem? hx)).2⟩, rfl⟩
    rw [decide_eq_true d2]
    (((refine tgQ 16 (q := (by (with_reducible exact Bool.not_true))) (s := by exact Stab.not rfl) (h := ?_))); (refine tkQ 17 (s := by exact Stab.pick_f rfl (by (with_reducible exact Bool.not_true)) rfl) (h := ?_)); (refine tkQ 18 (s := by exact Stab.move rfl) (h := ?_)); ((refine tgQ 19 (q := (by (with_reducible exact Bool.not_true))) (s := by exact sfQ) (h := ?_))); ((refine tgQ 21 (q := (by (with_reducible exact Bool.not_true))) (s := by exact Stab.move rfl) (h := ?_))); ((refine tgQ 25 (q := (by (with_reducible exact Bool.not_true))) (s := by exact sfQ) (h := ?_))); ((refine tgQ 20 (q := (by (with_reducible exact Bool.not_true))) (s := by exact slQ) (h := ?_))); ((refine tgQ 26 (q := (by (with_reducible exact Bool.not_true))) (s := by exact slQ) (h := ?_))); ((refine tgQ 22 (q := (by (with_reducible exact Bool.not_true))) (s := by exact sxQ) (h := ?_))); ((refine tgQ 27 (q := (by (with_reducible exact Bool.not_true))) (s := by exact snQ) (h := ?_))); ((refine tgQ 23 (q := (by (with_reducible exact Bool.not_true))) (s := by exact sMQ) (h := ?_))); ((refine tgQ 24 (q := (by (with_reducible exact Bool.not_true))) (s := by exact snQ) (h := ?_))); ((refine tgQ 28 (q := (by (with_reducible exact Bool.not_true))) (s := by exact siQ) (h := ?_))); (refine tkQ 29 (s := by exact Stab.pick_f rfl (by (with_reducible exact Bool.not_true)) rfl) (h := ?_)); (refine TrA.done (by kernel_rfl) ?_))
    by_cases d3 : r.length = k.reqs.length
    rotate_left
    · (repeat (first | ((with_reducible refine Tr.step rfl ?_); (with_reducible refine Knd.assign ?_); (refine xaQ (z := ?_))) | (with_reducible first | apply Tr.next | apply Tr.seq | apply Tr.region | apply Tr.nil | apply Tr.ret | apply Tr.then_ret | apply Tr.in_ret) | (refine Tr.cond_t rfl (by first | (with_reducible assumption) | omega) ?_)))
      (refine dnQ (hL := by exact ⟨[_], rfl⟩) (k := ⟨rfl, ?_⟩))
      exact ⟨⟨false, rfl, by simp only [Bool.false_eq_true, false_iff]; exact fun h => d3 (h.2.2.2.2.2 r (List.mem_of_getElem? hr))⟩, rfl⟩
    (repeat (first | ((with_reducible refine Tr.step rfl ?_); (first | (refine xmQ (z := ?_)) | (refine xaQ (z := ?_)) | (refine xdQ (z := ?_)))) | (with_reducible first | apply Tr.next | apply Tr.region | apply Tr.nil | apply Tr.skip | apply Tr.in_normal) | (refine Tr.cond_f rfl (by omega) ?_)))
    refine Tr.again (i + 1) ⟨by omega, fun t y ht hy => ?_, fun t y ht hy => ?_⟩ (by omega) hsQ
    · by_cases e : t = i
      · subst e; rw [hx] at hy; cases hy; exact ⟨d1, d2⟩
      · exact hs t y (by omega) hy
    · by_cases e : t = i
      · subst e; rw [hr] at hy; cases hy; exact d3
      · exact hw t y (by omega) hy
  have ei : k.sups.length = i := by omega
  subst ei
  have hs2 : ∀ x ∈ k.sups, (0 ≤ x.amount ∧ x.amount ≤ 1048576) ∧ 0 ≤ x.ready ∧ x.ready ≤ 1024 := fun x hx => by
    obtain ⟨t, ht, rfl⟩ := List.getElem_of_mem hx
    exact hs t _ ht (List.getElem?_eq_getElem ht)
  have hw2 : ∀ r ∈ k.fits, r.length = k.reqs.length := fun x hx => by
    obtain ⟨t, ht, rfl⟩ := List.getElem_of_mem hx
    exact hw t _ (by omega) (List.getElem?_eq_getElem ht)
  clear hs hw hi hlt
  (repeat (first | ((with_reducible refine Tr.step rfl ?_); (first | (refine xmQ (z := ?_)) | (refine xaQ (z := ?_)) | (refine xlQ (z := ?_)) | (refine xfQ (z := ?_)) | (refine xnQ (z := ?_)) | (refine xiQ (z := ?_)))) | (with_reducible first | apply Tr.next | apply Tr.seq | apply Tr.region | apply Tr.nil | apply Tr.block | apply Tr.exit | apply Tr.then_exit) | ((with_reducible refine Tr.in_exit ?_ ?_); (exact rfl)) | (refine Tr.cond_f rfl (by omega) ?_)))
  refine Tr.loop (α := Nat) (fun y => ⟨86, [(4, .int .i64 (y : Int)), (1, .pointer (some ⟨b1, 0, none⟩))], [], M, box b1 27 [.int .i64 k.known, .slice As k.sups.length cs, .slice Ar k.reqs.length cr, .slice Af k.fits.length cf, .slice Ad k.reads cd] :: ([] ++ F)⟩)
    (fun y => y ≤ k.reqs.length ∧ (∀ t x, t < y → k.reqs[t]? = some x → (0 ≤ x.amount ∧ x.amount ≤ 1048576) ∧ 0 ≤ x.due ∧ x.due ≤ 1024)) (fun y => k.reqs.length - y) 0 ⟨Nat.zero_le _, fun t _ ht => by omega⟩ hsQ (fun i hi => ?_)
  obtain ⟨hi, hs⟩ := hi
  by_cases hlt : i < k.reqs.length
  · obtain ⟨x, hx⟩ := get_of_lt hlt
    obtain ⟨hA, ch, hat, rfl⟩ := h2.elem hx
    have hat5 := hat.drop 5
    have hat3 := hat.drop 3
    dsimp only [List.drop] at hat5 hat3
    (repeat (first | ((with_reducible refine Tr.step rfl ?_); (first | (refine xmQ (z := ?_)) | ((with_reducible refine Knd.load ?_); (first | (refine xlQ (z := ?_)) | (refine xMQ (z := ?_)))) | ((with_reducible refine Knd.fieldAddr ?_); (first | (refine xfQ (z := ?_)) | (refine Exec.stab rfl (Stab.fieldD rfl (tysOk.get rfl) rfl rfl (tysOk.get rfl) rfl) rfl ?_))) | (refine xnQ (z := ?_)) | (refine xiQ (z := ?_)) | (refine xxQ (z := ?_)))) | (with_reducible first | apply Tr.next | apply Tr.seq | apply Tr.region | apply Tr.nil | apply Tr.skip | apply Tr.block) | (refine Tr.cond_t rfl (by first | (with_reducible assumption) | omega) ?_)))
    ((refine Tr.step rfl ?_)); refine Exec.call0 rfl (rin_fn M x.amount 0 1048576) rfl ?_
    rintro _ _ _ ⟨rfl, rfl⟩
    by_cases d1 : 0 ≤ x.amount ∧ x.amount ≤ 1048576
    rotate_left
    · rw [decide_eq_false d1]
      (repeat (first | ((with_reducible refine Tr.step rfl ?_); (first | (refine xmQ (z := ?_)) | (refine xaQ (z := ?_)) | ((with_reducible refine Knd.pick ?_); (refine Exec.stab rfl (Stab.pick_t rfl (by (with_reducible exact Bool.not_false)) rfl) rfl ?_)) | ((with_reducible refine Knd.unOp ?_); (refine Exec.stab rfl (Stab.not rfl) rfl ?_)))) | (with_reducible first | apply Tr.next | apply Tr.seq | apply Tr.region | apply Tr.nil) | (refine Tr.guard_s0 rfl rfl rfl (by first | (with_reducible rfl) | (with_reducible exact Bool.not_false)) rfl rfl ?_) | (with_reducible first | apply Tr.ret | apply Tr.then_ret | apply Tr.in_ret) | (refine Tr.cond_bt rfl (by (with_reducible rfl)) ?_)))
      (refine dnQ (hL := by exact ⟨[_], rfl⟩) (k := ⟨rfl, ?_⟩))
      exact ⟨⟨false, rfl, by simp only [Bool.false_eq_true, false_iff]; exact fun h => d1 (h.2.2.2.1 x (List.mem_of_getElem? hx)).1⟩, rfl⟩
    rw [decide_eq_true d1]
    (repeat (first | ((with_reducible refine Tr.step rfl ?_); (first | (refine xmQ (z := ?_)) | ((with_reducible refine Knd.unOp ?_); (refine Exec.stab rfl (Stab.not rfl) rfl ?_)))) | ((refine Tr.guard_l rfl rfl rfl (by (with_reducible exact Bool.not_true)) ?_); (first | (refine xmQ (z := ?_)) | ((with_reducible refine Knd.load ?_); (first | (refine xlQ (z := ?_)) | (refine xMQ (z := ?_)))) | ((with_reducible refine Knd.fieldAddr ?_); (first | (refine xfQ (z := ?_)) | (refine Exec.stab rfl (Stab.fieldD rfl (tysOk.get rfl) rfl rfl (tysOk.get rfl) rfl) rfl ?_))) | (refine xxQ (z := ?_))))))
    ((refine Tr.guard_l rfl rfl rfl (by (with_reducible exact Bool.not_true)) ?_)); refine Exec.call0 rfl (rin_fn M x.due 0 1024) rfl ?_
    rintro _ _ _ ⟨rfl, rfl⟩
    by_cases d2 : 0 ≤ x.due ∧ x.due ≤ 1024
    rotate_left
    · rw [decide_eq_false d2]
      (repeat (first | ((with_reducible refine Tr.step rfl ?_); (first | (refine xaQ (z := ?_)) | ((with_reducible refine Knd.pick ?_); (refine Exec.stab rfl (Stab.pick_f rfl (by (with_reducible exact Bool.not_true)) rfl) rfl ?_)))) | (with_reducible first | apply Tr.next | apply Tr.seq | apply Tr.region | apply Tr.nil) | ((refine Tr.guard_l rfl rfl rfl (by first | (with_reducible rfl) | (with_reducible exact Bool.not_true)) ?_); (with_reducible refine Knd.unOp ?_); (refine Exec.stab rfl (Stab.not rfl) rfl ?_)) | (with_reducible first | apply Tr.ret | apply Tr.then_ret | apply Tr.in_ret) | (refine Tr.cond_bt rfl (by first | (with_reducible rfl) | (with_reducible exact Bool.not_false)) ?_)))
      (refine dnQ (hL := by exact ⟨[_], rfl⟩) (k := ⟨rfl, ?_⟩))
      exact ⟨⟨false, rfl, by simp only [Bool.false_eq_true, false_iff]; exact fun h => d2 (h.2.2.2.1 x (List.mem_of_getElem? hx)).2⟩, rfl⟩
    rw [decide_eq_true d2]
    (repeat (first | ((with_reducible refine Tr.step rfl ?_); (first | (refine xmQ (z := ?_)) | (refine xaQ (z := ?_)) | (refine xdQ (z := ?_)) | ((with_reducible refine Knd.pick ?_); (refine Exec.stab rfl (Stab.pick_f rfl (by (with_reducible exact Bool.not_true)) rfl) rfl ?_)))) | (with_reducible first | apply Tr.next | apply Tr.region | apply Tr.nil) | ((refine Tr.guard_l rfl rfl rfl (by first | (with_reducible rfl) | (with_reducible exact Bool.not_true)) ?_); (with_reducible refine Knd.unOp ?_); (refine Exec.stab rfl (Stab.not rfl) rfl ?_)) | (with_reducible first | apply Tr.skip | apply Tr.in_normal) | (refine Tr.cond_bf rfl (by first | (with_reducible rfl) | (with_reducible exact Bool.not_true)) ?_)))
    refine Tr.again (i + 1) ⟨by omega, fun t y ht hy => ?_⟩ (by omega) hsQ
    by_cases e : t = i
    · subst e; rw [hx] at hy; cases hy; exact ⟨d1, d2⟩
    · exact hs t y (by omega) hy
  have ei : k.reqs.length = i := by omega
  subst ei
  (repeat (first | ((with_reducible refine Tr.step rfl ?_); (first | (refine xmQ (z := ?_)) | (refine xaQ (z := ?_)) | (refine xlQ (z := ?_)) | (refine xfQ (z := ?_)) | (refine xnQ (z := ?_)) | (refine xiQ (z := ?_)))) | (with_reducible first | apply Tr.next | apply Tr.seq | apply Tr.region | apply Tr.nil | apply Tr.exit | apply Tr.ret | apply Tr.then_exit) | ((with_reducible refine Tr.in_exit ?_ ?_); (exact rfl)) | (refine Tr.cond_f rfl (by first | (with_reducible assumption) | omega) ?_)))
  (refine dnQ (hL := by exact ⟨[_], rfl⟩) (k := ⟨rfl, ?_⟩))
  have hr2 : ∀ x ∈ k.reqs, (0 ≤ x.amount ∧ x.amount ≤ 1048576) ∧ 0 ≤ x.due ∧ x.due ≤ 1024 := fun x hx => by
    obtain ⟨t, ht, rfl⟩ := List.getElem_of_mem hx
    exact hs t _ ht (List.getElem?_eq_getElem ht)
  exact ⟨⟨true, rfl, by simp only [true_iff]; exact ⟨c1, c2, hs2, hr2, c3, hw2⟩⟩, rfl⟩
set_option maxHeartbeats 4000000 in
theorem rvalid_fn (M : Mem) (v : Value) (k : Bk) (h : RBk M v k) (h5 : k.sups.length ≤ 5 ∧ k.reqs.length ≤ 5) :
    Fn0 Try.prog 53 [v] M (fun r _ => ∃ b : Bool, r = .bool b ∧ (b = true ↔ validB k)) := by
  have h0 := h
  obtain ⟨v1, v2, v3, v4, v5, rfl, o1, o2, o3, o4, o5⟩ := h.open5
  refine Fn.intro Try.func53 rfl rfl Try.ntmps53 rfl fun E F => ?_
  (repeat (first | ((with_reducible refine Tr.step rfl ?_); (first | (refine xaQ (z := ?_)) | ((with_reducible refine Knd.box ?_); (refine Exec.box rfl rfl (fun b => ?_))))) | (with_reducible first | apply Tr.next | apply Tr.seq | apply Tr.region | apply Tr.nil)))
  (((apply Tr.draw); (kernel_rfl)); (refine tkQ 0 (hB := by exact fun _ h => h) (s := by exact swQ) (h := ?_)); (refine TrA.eff 1 rfl (by kernel_rfl) (by exact .inl rfl) ?_))
  refine Exec.call0 rfl (rformed_fn M _ k h) rfl ?_
  rintro _ _ _ ⟨⟨bb, rfl, hbb⟩, rfl⟩
  refine ⟨Mem.le.refl _, (by exact fun _ h => h), ?_⟩
  cases bb with
  | false =>
    ((refine tkQ 2 (s := by exact Stab.move rfl) (h := ?_)); ((refine tuQ 3 (h := ?_))); ((refine tuQ 4 (h := ?_))); ((refine tuQ 5 (h := ?_))); ((refine tuQ 6 (h := ?_))); ((refine tuQ 7 (h := ?_))); ((refine tuQ 8 (h := ?_))); (refine tkQ 9 (s := by exact Stab.pick_f rfl (by (with_reducible rfl)) rfl) (h := ?_)); (refine tkQ 10 (s := by exact Stab.assign rfl) (h := ?_)); (refine TrA.done (by kernel_rfl) ?_))
    (repeat (first | (with_reducible first | apply Tr.next | apply Tr.ret)))
    (refine dnQ (hL := by exact ⟨[_], rfl⟩) (k := ⟨rfl, ?_⟩))
    exact ⟨false, rfl, by simp only [Bool.false_eq_true, false_iff]; exact fun h => by have := hbb.2 h.1; cases this⟩
  | true =>
  have hfb := hbb.1 rfl
  have hfit := begin_fit hfb
  obtain ⟨n1, n2, n3, n4⟩ := begin_len k
  ((refine tkQ 2 (s := by exact Stab.move rfl) (h := ?_)); ((refine tgQ 3 (s := by exact swQ) (h := ?_))); ((refine tgQ 4 (s := by exact swQ) (h := ?_))); (refine TrA.eff 5 rfl (by kernel_rfl) (by exact .inr ⟨_, _, _, rfl, rfl, rfl⟩) ?_))
  refine Exec.call0 rfl (rbegin_fn M _ k h (by omega) (by omega)) rfl ?_
  rintro sv M1 hm1 hS
  refine ⟨hm1, (by exact fun _ h => h), ?_⟩
  ((refine TrA.eff 6 rfl (by kernel_rfl) (by exact .inr ⟨_, _, _, rfl, rfl, rfl⟩) ?_))
  refine Exec.call0 rfl (rfail_fn M1 _ sv k (beginF k) (h.mono hm1) hS hfit n3 n2 (by omega)) rfl ?_
  rintro _ M2 hm2 ⟨A9, c9, rfl, hL⟩
  refine ⟨hm2, (by exact fun _ h => h), ?_⟩
  have hfl := flg_length (beginF k).nd.length (failF (fxB k) (beginF k) (beginF k).nd.length)
  have hany := rany_fn M2 A9 c9 _ (by rw [hfl]; exact hL)
  rw [hfl] at hany
  have hiff := flg_any (n := (beginF k).nd.length) (l := failF (fxB k) (beginF k) (beginF k).nd.length) fun q hq => fail_lt hq
  ((refine TrA.eff 7 rfl (by kernel_rfl) (by exact .inr ⟨_, _, _, rfl, rfl, rfl⟩) ?_))
  refine Exec.call0 rfl hany rfl ?_
  rintro _ _ _ ⟨rfl, rfl⟩
  refine ⟨Mem.le.refl _, (by exact fun _ h => h), ?_⟩
  have hlast := hm1.trans hm2
  (((refine tgQ 8 (s := by exact Stab.not rfl) (h := ?_))); (refine tkQ 9 (s := by exact Stab.pick_t rfl (by (with_reducible rfl)) rfl) (h := ?_)); (refine tkQ 10 (s := by exact Stab.assign rfl) (h := ?_)); (refine TrA.done (by kernel_rfl) ?_))
  (repeat (first | (with_reducible first | apply Tr.next | apply Tr.ret)))
  (refine dnQ (hL := by exact ⟨[_], rfl⟩) (k := ⟨rfl, ?_⟩))
  refine ⟨_, rfl, ?_⟩
  rw [Bool.not_eq_true', hiff, n2]
  exact ⟨fun h => ⟨hfb, h⟩, fun h => h.2⟩
end Go.Proofs.Ytgnipfjjkliibaa

/-
  Honour, the reference: one.
  Conditions: none.
-/
namespace Go.Proofs.Ytgnipfjjkliibaa
open Go Bf
def LoseC (s : St) (h : Hp) : Prop := (0 ≤ h.sup ∧ h.sup < (s.am.length : Int)) ∧ 1 ≤ h.amt ∧ h.amt ≤ s.am.getD h.sup.toNat 0
def LateC (s : St) (h : Hp) : Prop := (0 ≤ h.sup ∧ h.sup < (s.am.length : Int)) ∧ s.dy.getD h.sup.toNat 0 ≤ h.day ∧ h.day ≤ 1024
def loseS (s : St) (h : Hp) : St := { s with am := s.am.set h.sup.toNat (s.am.getD h.sup.toNat 0 - h.amt) }
def lateS (s : St) (h : Hp) : St := { s with dy := s.dy.set h.sup.toNat h.day }
def shipS (s : St) (h : Hp) : St := { s with am := s.am.set h.sup.toNat (s.am.getD h.sup.toNat 0 - h.amt), nd := s.nd.set h.req.toNat (s.nd.getD h.req.toNat 0 - h.amt) }
def ShipC (x : Fx) (s : St) (h : Hp) : Prop := ((0 ≤ h.sup ∧ h.sup < (s.am.length : Int)) ∧ (0 ≤ h.req ∧ h.req < (s.nd.length : Int))) ∧ s.br.getD h.req.toNat 0 < 0 ∧ (x.fits.getD h.sup.toNat []).getD h.req.toNat false = true ∧ (s.dy.getD h.sup.toNat 0 ≤ h.day ∧ h.day ≤ x.due.getD h.req.toNat 0) ∧ (1 ≤ h.amt ∧ h.amt ≤ s.am.getD h.sup.toNat 0 ∧ h.amt ≤ s.nd.getD h.req.toNat 0) ∧ failF x (shipS s h) s.nd.length = []
theorem lose_iff {x : Fx} {s t : St} {h : Hp} {at_ : Nat} (k : h.kind = 1) : stepF x s h at_ = some t ↔ LoseC s h ∧ t = markF x (loseS s h) at_ := by
  rw [stepF_some]
  constructor
  · intro hs
    cases hs with
    | lose i k' e1 e2 e3 e4 =>
      obtain rfl : i = h.sup.toNat := by omega
      exact ⟨⟨by omega, e3, e4⟩, rfl⟩
    | late => omega
    | ship => omega
  · rintro ⟨⟨c1, c2, c3⟩, rfl⟩
    exact Stp.lose h.sup.toNat k (by omega) (by omega) c2 c3
theorem late_iff {x : Fx} {s t : St} {h : Hp} {at_ : Nat} (k : h.kind = 2) : stepF x s h at_ = some t ↔ LateC s h ∧ t = markF x (lateS s h) at_ := by
  rw [stepF_some]
  constructor
  · intro hs
    cases hs with
    | lose => omega
    | late i k' e1 e2 e3 e4 =>
      obtain rfl : i = h.sup.toNat := by omega
      exact ⟨⟨by omega, e3, e4⟩, rfl⟩
    | ship => omega
  · rintro ⟨⟨c1, c2, c3⟩, rfl⟩
    exact Stp.late h.sup.toNat k (by omega) (by omega) c2 c3
theorem ship_iff {x : Fx} {s t : St} {h : Hp} {at_ : Nat} (k : h.kind = 3) : stepF x s h at_ = some t ↔ ShipC x s h ∧ t = shipS s h := by
  rw [stepF_some]
  constructor
  · intro hs
    cases hs with
    | lose => omega
    | late => omega
    | ship i j k' e1 f1 e2 e3 e4 e5 e6 e7 e8 e9 e10 e11 =>
      obtain rfl : i = h.sup.toNat := by omega
      obtain rfl : j = h.req.toNat := by omega
      exact ⟨⟨⟨by omega, by omega⟩, e4, e5, ⟨e6, e7⟩, ⟨e8, e9, e10⟩, e11⟩, rfl⟩
  · rintro ⟨⟨⟨c1, c2⟩, c3, c4, ⟨c5, c6⟩, ⟨c7, c8, c9⟩, c10⟩, rfl⟩
    exact Stp.ship h.sup.toNat h.req.toNat k (by omega) (by omega) (by omega) (by omega) c3 c4 c5 c6 c7 c8 c9 c10
theorem other_none {x : Fx} {s : St} {h : Hp} {at_ : Nat} (k1 : h.kind ≠ 1) (k2 : h.kind ≠ 2) (k3 : h.kind ≠ 3) : stepF x s h at_ = none := by
  cases e : stepF x s h at_ with
  | none => rfl
  | some t =>
    cases stepF_some.1 e with
    | lose => omega
    | late => omega
    | ship => omega
theorem sup_none {x : Fx} {s : St} {h : Hp} {at_ : Nat} (c : ¬ (0 ≤ h.sup ∧ h.sup < (s.am.length : Int))) : stepF x s h at_ = none := by
  cases e : stepF x s h at_ with
  | none => rfl
  | some t =>
    cases stepF_some.1 e with
    | lose => omega
    | late => omega
    | ship => omega
theorem none_of {x : Fx} {s : St} {h : Hp} {at_ : Nat} {P : Prop} {f : St} (hi : ∀ t, stepF x s h at_ = some t ↔ P ∧ t = f) (hn : ¬ P) : stepF x s h at_ = none := by
  cases e : stepF x s h at_ with
  | none => rfl
  | some t => exact absurd ((hi t).1 e).1 hn
/-- who is broken by a happening, of the first ones -/
def mkB (br : List Int) (fl : List Nat) (at_ y : Nat) : List Int := (List.range br.length).map fun j => if j < y ∧ j ∈ fl then (at_ : Int) else br.getD j 0
theorem mkB_length (br : List Int) (fl : List Nat) (at_ y : Nat) : (mkB br fl at_ y).length = br.length := by simp [mkB]
theorem mkB_getD {br : List Int} {fl : List Nat} {at_ y j : Nat} (h : j < br.length) : (mkB br fl at_ y).getD j 0 = if j < y ∧ j ∈ fl then (at_ : Int) else br.getD j 0 := by
  simp [mkB, List.getD_eq_getElem?_getD, h]
theorem mkB_zero (br : List Int) (fl : List Nat) (at_ : Nat) : mkB br fl at_ 0 = br := by
  refine ext_getD (mkB_length ..) fun i hi => ?_
  rw [mkB_length] at hi
  rw [mkB_getD hi, if_neg (by omega)]
theorem mkB_yes {br : List Int} {fl : List Nat} {at_ y : Nat} (hy : y < br.length) (h : y ∈ fl) : (mkB br fl at_ y).set y (at_ : Int) = mkB br fl at_ (y + 1) := by
  refine ext_getD (by rw [List.length_set, mkB_length, mkB_length]) fun i hi => ?_
  rw [List.length_set, mkB_length] at hi
  rw [setD _ _ _ _ (by rw [mkB_length]; exact hy), mkB_getD hi, mkB_getD hi]
  by_cases e : i = y
  · subst e; rw [if_pos rfl, if_pos ⟨by omega, h⟩]
  · rw [if_neg e]
    by_cases c : i < y ∧ i ∈ fl
    · rw [if_pos c, if_pos ⟨by omega, c.2⟩]
    · rw [if_neg c, if_neg (fun d => c ⟨by omega, d.2⟩)]
theorem mkB_no {br : List Int} {fl : List Nat} {at_ y : Nat} (h : y ∉ fl) : mkB br fl at_ (y + 1) = mkB br fl at_ y := by
  refine ext_getD (by rw [mkB_length, mkB_length]) fun i hi => ?_
  rw [mkB_length] at hi
  rw [mkB_getD hi, mkB_getD hi]
  by_cases c : i < y ∧ i ∈ fl
  · rw [if_pos c, if_pos ⟨by omega, c.2⟩]
  · rw [if_neg c, if_neg]
    rintro ⟨d1, d2⟩
    have : i ≠ y := fun e => h (e ▸ d2)
    exact c ⟨by omega, d2⟩
theorem mkB_mark {x : Fx} {s : St} {at_ : Nat} (h : s.br.length = s.nd.length) : markF x s at_ = { s with br := mkB s.br (failF x s s.nd.length) at_ s.nd.length } := by
  have e : (List.range s.br.length).map (fun j => if j ∈ failF x s s.nd.length then (at_ : Int) else s.br.getD j 0) = mkB s.br (failF x s s.nd.length) at_ s.nd.length := by
    unfold mkB
    apply List.map_congr_left
    intro j hj
    have := List.mem_range.1 hj
    by_cases c : j ∈ failF x s s.nd.length
    · rw [if_pos c, if_pos ⟨by omega, c⟩]
    · rw [if_neg c, if_neg (fun d => c d.2)]
  unfold markF
  rw [e]
theorem rq_due {k : Bk} {q : Nat} {y : Rq} (h : k.reqs[q]? = some y) : y.due = (fxB k).due.getD q 0 := by
  show y.due = (k.reqs.map (·.due)).getD q 0
  rw [List.getD_eq_getElem?_getD, List.getElem?_map, h]; rfl
theorem flg_get {n y : Nat} {l : List Nat} (h : y < n) : (flg n l)[y]? = some (decide (y ∈ l)) := by simp [flg, h]
attribute [local irreducible] Tr Exec Stab HasTy Go.Addr.add IntKind.wrap
set_option maxHeartbeats 32000000 in
theorem rone_fn (M : Mem) (bv sv : Value) (k : Bk) (s : St) (h : Hp) (at_ : Nat) (hB : RBk M bv k) (hS : RSr M sv s) (hf : Fit (fxB k) s) (e1 : s.am.length = k.sups.length) (e2 : s.nd.length = k.reqs.length) (h5 : k.reqs.length ≤ 5) :
    Fn0 Try.prog 54 [bv, sv, .agg #[.int .i64 h.kind, .int .i64 h.sup, .int .i64 h.req, .int .i64 h.day, .int .i64 h.amt], .int .i64 (at_ : Int)] M (fun r M' => ∃ v s' ok, r = .tuple #[v, .bool ok] ∧ RSr M' v s' ∧ (ok = true → stepF (fxB k) s h at_ = some s') ∧ (ok = false → stepF (fxB k) s h at_ = none)) := by
  have hB0 := hB
  have hS0 := hS
  obtain ⟨As, cs, Ar, cr, Af, cf, Ad, cd, rfl, g1, g2, g3⟩ := hB
  obtain ⟨Ba, ba, Bd, bd, Bn, bn, Bb, bb, rfl, q1, q2, q3, q4⟩ := hS
  have l1 := hf.l64
  have l2 := hf.r64
  have l3 := hf.dyl
  have l4 := hf.dul
  have l5 := hf.brl
  have l6 : k.fits.length = s.am.length := hf.fil
  have hrw : ∀ r ∈ k.fits, r.length = k.reqs.length := fun r hr => by rw [← e2]; exact hf.row r hr
  refine Fn.intro Try.func54 rfl rfl Try.ntmps54 rfl fun E F => ?_
  (repeat (first | ((with_reducible refine Tr.step rfl ?_); (first | (refine xaQ (z := ?_)) | (refine xlQ (z := ?_)) | (refine xfQ (z := ?_)) | (refine xnQ (z := ?_)) | ((with_reducible refine Knd.binOp ?_); (refine Exec.stab rfl (Stab.subi rfl rfl (by omega)) rfl ?_)) | ((with_reducible refine Knd.box ?_); (refine Exec.box rfl rfl (fun b => ?_))) | ((with_reducible refine Knd.alloc ?_); (refine Exec.alloc (tysOk.get rfl) rfl rfl (fun b => ?_))))) | (with_reducible first | apply Tr.next | apply Tr.seq | apply Tr.region | apply Tr.nil)))
  generalize b = b8
  rename_i b4 b5 b6
  ((refine Tr.step rfl ?_)); refine Exec.call0 rfl (rin_fn M h.sup 0 ((k.sups.length : Int) - 1)) rfl ?_
  rintro _ _ _ ⟨rfl, rfl⟩
  by_cases cs1 : 0 ≤ h.sup ∧ h.sup ≤ (k.sups.length : Int) - 1
  rotate_left
  · rw [decide_eq_false cs1]
    (repeat (first | ((with_reducible refine Tr.step rfl ?_); (first | (refine xaQ (z := ?_)) | (refine xwQ (z := ?_)) | ((with_reducible refine Knd.unOp ?_); (refine Exec.stab rfl (Stab.not rfl) rfl ?_)) | (refine xWQ (z := ?_)))) | (with_reducible first | apply Tr.next | apply Tr.seq | apply Tr.region | apply Tr.nil | apply Tr.ret | apply Tr.then_ret) | (refine Tr.cond_bt rfl (by first | (with_reducible rfl) | (with_reducible exact Bool.not_false)) ?_)))
    (refine Tr.done (by first | exact .inl rfl | exact .inr rfl) rfl (by repeat (first | exact RVs.nil | (apply RVs.cons; (first | exact RV.tmp rfl | exact RV.cellW (by rfl) (tysOk.get (by rfl)) (by rfl) (by repeat (first | exact Has.here | apply Has.there)) (by first | rfl | assumption))))) (by first | exact Mem.le.refl _ | assumption) (by exact ⟨[_, _, _, _], rfl⟩) ⟨rfl, ?_⟩)
    exact ⟨_, s, false, rfl, hS0, fun h => (by cases h), fun _ => sup_none (by omega)⟩
  rw [decide_eq_true cs1]
  obtain ⟨a, ha⟩ := get_of_lt (xs := s.am) (i := h.sup.toNat) (by omega)
  have had := getD_of (d := (0 : Int)) ha
  have har := hf.amr a (List.mem_of_getElem? ha)
  obtain ⟨hA1, hat1⟩ := Ints.at q1 ha
  obtain ⟨d, hd⟩ := get_of_lt (xs := s.dy) (i := h.sup.toNat) (by omega)
  have hdd := getD_of (d := (0 : Int)) hd
  have hdr := hf.dyr d (List.mem_of_getElem? hd)
  obtain ⟨hA2, hat2⟩ := Ints.at q2 hd
  have hsn : ((h.sup.toNat : Nat) : Int) = h.sup := Int.toNat_of_nonneg cs1.1
  (repeat (first | ((with_reducible refine Tr.step rfl ?_); (first | (refine xaQ (z := ?_)) | ((with_reducible refine Knd.load ?_); (first | (refine xlQ (z := ?_)) | (refine xMQ (z := ?_)))) | (refine xfQ (z := ?_)) | ((with_reducible refine Knd.unOp ?_); (refine Exec.stab rfl (Stab.not rfl) rfl ?_)) | (refine xxQ (z := ?_)))) | (with_reducible first | apply Tr.next | apply Tr.seq | apply Tr.region | apply Tr.nil | apply Tr.skip) | (refine Tr.cond_bf rfl (by first | (with_reducible rfl) | (with_reducible exact Bool.not_true)) ?_)))
  refine Tr.cutQ (α := Mem × St × Option Addr × Nat × Option Addr × Nat) (fun y => ⟨179, [(3, .int .i64 (at_ : Int)), (4, .pointer (some ⟨b4, 0, none⟩)), (5, .pointer (some ⟨b5, 0, none⟩)), (8, .pointer (some ⟨b8, 0, none⟩))], [], y.1,
      box b8 67 [.slice none 0 0, .slice none 0 0, .slice none 0 0, .slice none 0 0] :: box b6 44 [.int .i64 h.kind, .int .i64 h.sup, .int .i64 h.req, .int .i64 h.day, .int .i64 h.amt] :: box b5 67 [.slice y.2.2.1 s.am.length y.2.2.2.1, .slice y.2.2.2.2.1 s.dy.length y.2.2.2.2.2, .slice Bn s.nd.length bn, .slice Bb s.br.length bb] :: box b4 27 [.int .i64 k.known, .slice As k.sups.length cs, .slice Ar k.reqs.length cr, .slice Af k.fits.length cf, .slice Ad k.reads cd] :: F⟩)
    (fun y => Mem.le M y.1 ∧ stepF (fxB k) s h at_ = some (markF (fxB k) y.2.1 at_) ∧ Fit (fxB k) y.2.1 ∧ (y.2.1.am.length = s.am.length ∧ y.2.1.dy.length = s.dy.length ∧ y.2.1.nd = s.nd ∧ y.2.1.br = s.br) ∧ Ints y.1 (.slice y.2.2.1 s.am.length y.2.2.2.1) y.2.1.am ∧ Ints y.1 (.slice y.2.2.2.2.1 s.dy.length y.2.2.2.2.2) y.2.1.dy) ?_ (fun y hy => ?_)
  · by_cases k1 : h.kind = 1
    · (repeat (first | ((with_reducible refine Tr.step rfl ?_); (first | (refine xmQ (z := ?_)) | (refine xaQ (z := ?_)) | (refine xlQ (z := ?_)) | (refine xfQ (z := ?_)) | (refine xiQ (z := ?_)))) | (with_reducible first | apply Tr.next | apply Tr.seq | apply Tr.region | apply Tr.nil | apply Tr.block) | (refine Tr.cond_t rfl (by (with_reducible assumption)) ?_)))
      ((refine Tr.step rfl ?_)); refine Exec.call0 rfl (rin_fn M h.amt 1 a) rfl ?_
      rintro _ _ _ ⟨rfl, rfl⟩
      by_cases c1 : 1 ≤ h.amt ∧ h.amt ≤ a
      rotate_left
      · rw [decide_eq_false c1]
        (repeat (first | ((with_reducible refine Tr.step rfl ?_); (first | (refine xaQ (z := ?_)) | (refine xwQ (z := ?_)) | ((with_reducible refine Knd.unOp ?_); (refine Exec.stab rfl (Stab.not rfl) rfl ?_)) | (refine xWQ (z := ?_)))) | (with_reducible first | apply Tr.next | apply Tr.seq | apply Tr.region | apply Tr.nil | apply Tr.ret | apply Tr.landQ_ret | apply Tr.then_ret | apply Tr.in_ret) | (refine Tr.cond_bt rfl (by first | (with_reducible rfl) | (with_reducible exact Bool.not_false)) ?_)))
        (refine Tr.done (by first | exact .inl rfl | exact .inr rfl) rfl (by repeat (first | exact RVs.nil | (apply RVs.cons; (first | exact RV.tmp rfl | exact RV.cellW (by rfl) (tysOk.get (by rfl)) (by rfl) (by repeat (first | exact Has.here | apply Has.there)) (by first | rfl | assumption))))) (by first | exact Mem.le.refl _ | assumption) (by exact ⟨[_, _, _, _], rfl⟩) ⟨rfl, ?_⟩)
        exact ⟨_, s, false, rfl, hS0, fun h => (by cases h), fun _ => none_of (fun t => lose_iff k1) (fun c => c1 (by have := c.2; rw [had] at this; exact this))⟩
      rw [decide_eq_true c1]
      have hw := rwith_fn M Ba ba s.am h.sup.toNat (a - h.amt) q1 (by omega) (by omega)
      rw [hsn] at hw
      (repeat (first | ((with_reducible refine Tr.step rfl ?_); (first | (refine xmQ (z := ?_)) | (refine xlQ (z := ?_)) | (refine xfQ (z := ?_)) | ((with_reducible refine Knd.binOp ?_); (refine Exec.stab rfl (Stab.subi rfl rfl (by omega)) rfl ?_)) | ((with_reducible refine Knd.unOp ?_); (refine Exec.stab rfl (Stab.not rfl) rfl ?_)))) | (with_reducible first | apply Tr.next | apply Tr.region | apply Tr.nil | apply Tr.skip) | (refine Tr.cond_bf rfl (by first | (with_reducible rfl) | (with_reducible exact Bool.not_true)) ?_)))
      ((refine Tr.step rfl ?_)); refine Exec.call0 rfl (hw) rfl ?_
      rintro _ M1 hm1 ⟨W, wd, rfl, hW⟩
      (repeat (first | ((with_reducible refine Tr.step rfl ?_); (first | (refine xfQ (z := ?_)) | (refine xSQ (z := ?_)))) | (with_reducible first | apply Tr.nil | apply Tr.in_normal)))
      refine Tr.landQ (M1, loseS s h, W, wd, Bd, bd) ⟨hm1, (lose_iff k1).2 ⟨⟨by omega, by rw [had]; exact c1⟩, rfl⟩, hf.setAm (v := s.am.getD h.sup.toNat 0 - h.amt) (by rw [had]; omega) _, ⟨List.length_set, rfl, rfl, rfl⟩, ?_, q2.mono RI.mono hm1⟩ hsQ
      show Ints M1 (.slice W s.am.length wd) (s.am.set h.sup.toNat (s.am.getD h.sup.toNat 0 - h.amt))
      rw [had]
      exact hW
    by_cases k2 : h.kind = 2
    · (repeat (first | ((with_reducible refine Tr.step rfl ?_); (first | (refine xaQ (z := ?_)) | (refine xiQ (z := ?_)))) | (with_reducible first | apply Tr.next | apply Tr.seq | apply Tr.region | apply Tr.nil | apply Tr.block) | (refine Tr.cond_t rfl (by (with_reducible assumption)) ?_) | (refine Tr.cond_f rfl (by (with_reducible assumption)) ?_)))
      (((apply Tr.draw); (kernel_rfl)); (refine tkQ 0 (hB := by exact fun _ h => h) (s := by exact sfQ) (h := ?_)); (refine tkQ 2 (s := by exact sfQ) (h := ?_)); (refine tkQ 4 (s := by exact sfQ) (h := ?_)); (refine tkQ 1 (s := by exact slQ) (h := ?_)); (refine tkQ 3 (s := by exact slQ) (h := ?_)); (refine tkQ 5 (s := by exact slQ) (h := ?_)); (refine tkQ 6 (s := by exact sxQ) (h := ?_)); (refine tkQ 7 (s := by exact sMQ) (h := ?_)); (refine TrA.eff 8 rfl (by kernel_rfl) (by exact .inl rfl) ?_))
      refine Exec.call0 rfl (rin_fn M h.day d 1024) rfl ?_
      rintro _ _ _ ⟨rfl, rfl⟩
      refine ⟨Mem.le.refl _, (by exact fun _ h => h), ?_⟩
      by_cases c1 : d ≤ h.day ∧ h.day ≤ 1024
      rotate_left
      · rw [decide_eq_false c1]
        ((refine tkQ 9 (s := by exact Stab.not rfl) (h := ?_)); (refine TrA.done (by kernel_rfl) ?_))
        (repeat (first | ((with_reducible refine Tr.step rfl ?_); (first | (refine xaQ (z := ?_)) | (refine xwQ (z := ?_)) | (refine xWQ (z := ?_)))) | (with_reducible first | apply Tr.next | apply Tr.seq | apply Tr.region | apply Tr.nil | apply Tr.ret | apply Tr.landQ_ret | apply Tr.then_ret | apply Tr.in_ret) | (refine Tr.cond_bt rfl (by first | (with_reducible rfl) | (with_reducible exact Bool.not_false)) ?_)))
        (refine Tr.done (by first | exact .inl rfl | exact .inr rfl) rfl (by repeat (first | exact RVs.nil | (apply RVs.cons; (first | exact RV.tmp rfl | exact RV.cellW (by rfl) (tysOk.get (by rfl)) (by rfl) (by repeat (first | exact Has.here | apply Has.there)) (by first | rfl | assumption))))) (by first | exact Mem.le.refl _ | assumption) (by exact ⟨[_, _, _, _], rfl⟩) ⟨rfl, ?_⟩)
        exact ⟨_, s, false, rfl, hS0, fun h => (by cases h), fun _ => none_of (fun t => late_iff k2) (fun c => c1 (by have := c.2; rw [hdd] at this; exact this))⟩
      rw [decide_eq_true c1]
      have hw := rwith_fn M Bd bd s.dy h.sup.toNat h.day q2 (by omega) (by omega)
      rw [hsn] at hw
      ((refine tkQ 9 (s := by exact Stab.not rfl) (h := ?_)); (refine TrA.done (by kernel_rfl) ?_))
      (repeat (first | ((with_reducible refine Tr.step rfl ?_); (first | (refine xlQ (z := ?_)) | (refine xfQ (z := ?_)))) | (with_reducible first | apply Tr.next | apply Tr.region | apply Tr.skip) | (refine Tr.cond_bf rfl (by first | (with_reducible rfl) | (with_reducible exact Bool.not_true)) ?_)))
      ((refine Tr.step rfl ?_)); refine Exec.call0 rfl (hw) rfl ?_
      rintro _ M1 hm1 ⟨W, wd, rfl, hW⟩
      (repeat (first | ((with_reducible refine Tr.step rfl ?_); (first | (refine xfQ (z := ?_)) | (refine xSQ (z := ?_)))) | (with_reducible first | apply Tr.nil | apply Tr.in_normal)))
      exact Tr.landQ (M1, lateS s h, Ba, ba, W, wd) ⟨hm1, (late_iff k2).2 ⟨⟨by omega, by rw [hdd]; exact c1⟩, rfl⟩, hf.setDy (v := h.day) (by omega) _, ⟨rfl, List.length_set, rfl, rfl⟩, q1.mono RI.mono hm1, hW⟩ hsQ
    by_cases k3 : h.kind = 3
    rotate_left
    · (repeat (first | ((with_reducible refine Tr.step rfl ?_); (first | (refine xaQ (z := ?_)) | (refine xwQ (z := ?_)) | (refine xiQ (z := ?_)) | (refine xWQ (z := ?_)))) | (with_reducible first | apply Tr.next | apply Tr.seq | apply Tr.region | apply Tr.nil | apply Tr.block | apply Tr.ret | apply Tr.landQ_ret | apply Tr.then_ret | apply Tr.in_ret) | (refine Tr.cond_f rfl (by (with_reducible assumption)) ?_)))
      (refine Tr.done (by first | exact .inl rfl | exact .inr rfl) rfl (by repeat (first | exact RVs.nil | (apply RVs.cons; (first | exact RV.tmp rfl | exact RV.cellW (by rfl) (tysOk.get (by rfl)) (by rfl) (by repeat (first | exact Has.here | apply Has.there)) (by first | rfl | assumption))))) (by first | exact Mem.le.refl _ | assumption) (by exact ⟨[_, _, _, _], rfl⟩) ⟨rfl, ?_⟩)
      exact ⟨_, s, false, rfl, hS0, fun h => (by cases h), fun _ => other_none k1 k2 k3⟩
    (repeat (first | ((with_reducible refine Tr.step rfl ?_); (first | (refine xmQ (z := ?_)) | (refine xaQ (z := ?_)) | (refine xlQ (z := ?_)) | (refine xfQ (z := ?_)) | (refine xnQ (z := ?_)) | ((with_reducible refine Knd.binOp ?_); (first | (refine Exec.stab rfl (Stab.subi rfl rfl (by omega)) rfl ?_) | (refine xiQ (z := ?_)))))) | (with_reducible first | apply Tr.next | apply Tr.seq | apply Tr.region | apply Tr.nil | apply Tr.block) | (refine Tr.cond_t rfl (by (with_reducible assumption)) ?_) | (refine Tr.cond_f rfl (by (with_reducible assumption)) ?_)))
    ((refine Tr.step rfl ?_)); refine Exec.call0 rfl (rin_fn M h.req 0 ((k.reqs.length : Int) - 1)) rfl ?_
    rintro _ _ _ ⟨rfl, rfl⟩
    by_cases c1 : 0 ≤ h.req ∧ h.req ≤ (k.reqs.length : Int) - 1
    rotate_left
    · rw [decide_eq_false c1]
      (repeat (first | ((with_reducible refine Tr.step rfl ?_); (first | (refine xaQ (z := ?_)) | (refine xwQ (z := ?_)) | ((with_reducible refine Knd.unOp ?_); (refine Exec.stab rfl (Stab.not rfl) rfl ?_)) | (refine xWQ (z := ?_)))) | (with_reducible first | apply Tr.next | apply Tr.seq | apply Tr.region | apply Tr.nil | apply Tr.ret | apply Tr.landQ_ret | apply Tr.then_ret | apply Tr.in_ret) | (refine Tr.cond_bt rfl (by first | (with_reducible rfl) | (with_reducible exact Bool.not_false)) ?_)))
      (refine Tr.done (by first | exact .inl rfl | exact .inr rfl) rfl (by repeat (first | exact RVs.nil | (apply RVs.cons; (first | exact RV.tmp rfl | exact RV.cellW (by rfl) (tysOk.get (by rfl)) (by rfl) (by repeat (first | exact Has.here | apply Has.there)) (by first | rfl | assumption))))) (by first | exact Mem.le.refl _ | assumption) (by exact ⟨[_, _, _, _], rfl⟩) ⟨rfl, ?_⟩)
      exact ⟨_, s, false, rfl, hS0, fun h => (by cases h), fun _ => none_of (fun t => ship_iff k3) (fun c => c1 (by have := c.1.2; omega))⟩
    rw [decide_eq_true c1]
    have hrn : ((h.req.toNat : Nat) : Int) = h.req := Int.toNat_of_nonneg c1.1
    obtain ⟨br, hbr⟩ := get_of_lt (xs := s.br) (i := h.req.toNat) (by omega)
    have hbd := getD_of (d := (0 : Int)) hbr
    obtain ⟨hA3, hat3⟩ := Ints.at q4 hbr
    obtain ⟨n, hn⟩ := get_of_lt (xs := s.nd) (i := h.req.toNat) (by omega)
    have hnd := getD_of (d := (0 : Int)) hn
    have hnr := hf.ndr n (List.mem_of_getElem? hn)
    obtain ⟨hA4, hat4⟩ := Ints.at q3 hn
    obtain ⟨rq, hrq⟩ := get_of_lt (xs := k.reqs) (i := h.req.toNat) (by omega)
    obtain ⟨hA5, ch5, hat5, rfl⟩ := g2.elem hrq
    replace hat5 := hat5.drop 3
    dsimp only [List.drop] at hat5
    have hdue := rq_due hrq
    have hsv := rserves_fn M _ _ k s hB0 hS0 h.sup.toNat h.req.toNat (by omega) (by omega) (by omega) hrw
    rw [hsn, hrn, hdd, ← hdue] at hsv
    (repeat (first | ((with_reducible refine Tr.step rfl ?_); (with_reducible refine Knd.unOp ?_); (refine Exec.stab rfl (Stab.not rfl) rfl ?_)) | (with_reducible first | apply Tr.next | apply Tr.seq | apply Tr.nil | apply Tr.skip) | (refine Tr.cond_bf rfl (by first | (with_reducible rfl) | (with_reducible exact Bool.not_true)) ?_)))
    (((apply Tr.draw); (kernel_rfl)); (refine tkQ 0 (hB := by exact fun _ h => h) (s := by exact sfQ) (h := ?_)); (refine tkQ 2 (s := by exact Stab.move rfl) (h := ?_)); (refine tkQ 1 (s := by exact slQ) (h := ?_)); (refine tkQ 3 (s := by exact sxQ) (h := ?_)); (refine tkQ 4 (s := by exact sMQ) (h := ?_)); (refine tkQ 5 (s := by exact siQ) (h := ?_)); (refine tkQ 6 (s := by exact Stab.move rfl) (h := ?_)))
    by_cases c2 : 0 ≤ br
    · rw [decide_eq_true c2]
      (((refine tuQ 7 (h := ?_))); ((refine tuQ 8 (h := ?_))); ((refine tuQ 9 (h := ?_))); ((refine tuQ 11 (h := ?_))); ((refine tuQ 10 (h := ?_))); ((refine tuQ 12 (h := ?_))); ((refine tuQ 13 (h := ?_))); (refine tkQ 14 (s := by exact Stab.pick_t rfl (by (with_reducible rfl)) rfl) (h := ?_)); (refine tkQ 15 (s := by exact Stab.move rfl) (h := ?_)); ((refine tuQ 16 (h := ?_))); ((refine tuQ 18 (h := ?_))); ((refine tuQ 20 (h := ?_))); ((refine tuQ 24 (h := ?_))); ((refine tuQ 26 (h := ?_))); ((refine tuQ 17 (h := ?_))); ((refine tuQ 19 (h := ?_))); ((refine tuQ 21 (h := ?_))); ((refine tuQ 25 (h := ?_))); ((refine tuQ 22 (h := ?_))); ((refine tuQ 27 (h := ?_))); ((refine tuQ 23 (h := ?_))); ((refine tuQ 28 (h := ?_))); ((refine tuQ 29 (h := ?_))); ((refine tuQ 30 (h := ?_))); ((refine tuQ 31 (h := ?_))); (refine tkQ 32 (s := by exact Stab.pick_t rfl (by (with_reducible rfl)) rfl) (h := ?_)); (refine tkQ 33 (s := by exact Stab.move rfl) (h := ?_)); ((refine tuQ 34 (h := ?_))); ((refine tuQ 36 (h := ?_))); ((refine tuQ 37 (h := ?_))); ((refine tuQ 39 (h := ?_))); ((refine tuQ 35 (h := ?_))); ((refine tuQ 38 (h := ?_))); ((refine tuQ 40 (h := ?_))); ((refine tuQ 41 (h := ?_))); ((refine tuQ 42 (h := ?_))); ((refine tuQ 43 (h := ?_))); ((refine tuQ 44 (h := ?_))); (refine tkQ 45 (s := by exact Stab.pick_t rfl (by (with_reducible rfl)) rfl) (h := ?_)); (refine TrA.done (by kernel_rfl) ?_))
      (repeat (first | ((with_reducible refine Tr.step rfl ?_); (first | (refine xaQ (z := ?_)) | (refine xwQ (z := ?_)) | (refine xWQ (z := ?_)))) | (with_reducible first | apply Tr.next | apply Tr.seq | apply Tr.region | apply Tr.nil | apply Tr.ret | apply Tr.landQ_ret | apply Tr.then_ret | apply Tr.in_ret) | (refine Tr.cond_bt rfl (by (with_reducible rfl)) ?_)))
      (refine Tr.done (by first | exact .inl rfl | exact .inr rfl) rfl (by repeat (first | exact RVs.nil | (apply RVs.cons; (first | exact RV.tmp rfl | exact RV.cellW (by rfl) (tysOk.get (by rfl)) (by rfl) (by repeat (first | exact Has.here | apply Has.there)) (by first | rfl | assumption))))) (by first | exact Mem.le.refl _ | assumption) (by exact ⟨[_, _, _, _], rfl⟩) ⟨rfl, ?_⟩)
      exact ⟨_, s, false, rfl, hS0, fun h => (by cases h), fun _ => none_of (fun t => ship_iff k3) (fun c => by have := c.2.1; omega)⟩
    rw [decide_eq_false c2]
    (((refine tgQ 7 (s := by exact swQ) (h := ?_))); ((refine tgQ 8 (s := by exact swQ) (h := ?_))); ((refine tgQ 9 (s := by exact sfQ) (h := ?_))); ((refine tgQ 11 (s := by exact Stab.move rfl) (h := ?_))); ((refine tgQ 10 (s := by exact slQ) (h := ?_))); (refine TrA.eff 12 rfl (by kernel_rfl) (by exact .inr ⟨_, _, _, rfl, rfl, rfl⟩) ?_))
    refine Exec.call0 rfl hsv rfl ?_
    rintro _ _ _ ⟨rfl, rfl⟩
    refine ⟨Mem.le.refl _, (by exact fun _ h => h), ?_⟩
    cases hq : ((fxB k).fits.getD h.sup.toNat []).getD h.req.toNat false && decide (d ≤ rq.due) with
    | false =>
      (((refine tgQ 13 (s := by exact Stab.not rfl) (h := ?_))); (refine tkQ 14 (s := by exact Stab.pick_f rfl (by (with_reducible rfl)) rfl) (h := ?_)); (refine tkQ 15 (s := by exact Stab.move rfl) (h := ?_)); ((refine tuQ 16 (h := ?_))); ((refine tuQ 18 (h := ?_))); ((refine tuQ 20 (h := ?_))); ((refine tuQ 24 (h := ?_))); ((refine tuQ 26 (h := ?_))); ((refine tuQ 17 (h := ?_))); ((refine tuQ 19 (h := ?_))); ((refine tuQ 21 (h := ?_))); ((refine tuQ 25 (h := ?_))); ((refine tuQ 22 (h := ?_))); ((refine tuQ 27 (h := ?_))); ((refine tuQ 23 (h := ?_))); ((refine tuQ 28 (h := ?_))); ((refine tuQ 29 (h := ?_))); ((refine tuQ 30 (h := ?_))); ((refine tuQ 31 (h := ?_))); (refine tkQ 32 (s := by exact Stab.pick_t rfl (by (with_reducible exact Bool.not_false)) rfl) (h := ?_)); (refine tkQ 33 (s := by exact Stab.move rfl) (h := ?_)); ((refine tuQ 34 (h := ?_))); ((refine tuQ 36 (h := ?_))); ((refine tuQ 37 (h := ?_))); ((refine tuQ 39 (h := ?_))); ((refine tuQ 35 (h := ?_))); ((refine tuQ 38 (h := ?_))); ((refine tuQ 40 (h := ?_))); ((refine tuQ 41 (h := ?_))); ((refine tuQ 42 (h := ?_))); ((refine tuQ 43 (h := ?_))); ((refine tuQ 44 (h := ?_))); (refine tkQ 45 (s := by exact Stab.pick_t rfl (by (with_reducible rfl)) rfl) (h := ?_)); (refine TrA.done (by kernel_rfl) ?_))
      (repeat (first | ((with_reducible refine Tr.step rfl ?_); (first | (refine xaQ (z := ?_)) | (refine xwQ (z := ?_)) | (refine xWQ (z := ?_)))) | (with_reducible first | apply Tr.next | apply Tr.seq | apply Tr.region | apply Tr.nil | apply Tr.ret | apply Tr.landQ_ret | apply Tr.then_ret | apply Tr.in_ret) | (refine Tr.cond_bt rfl (by (with_reducible rfl)) ?_)))
      (refine Tr.done (by first | exact .inl rfl | exact .inr rfl) rfl (by repeat (first | exact RVs.nil | (apply RVs.cons; (first | exact RV.tmp rfl | exact RV.cellW (by rfl) (tysOk.get (by rfl)) (by rfl) (by repeat (first | exact Has.here | apply Has.there)) (by first | rfl | assumption))))) (by first | exact Mem.le.refl _ | assumption) (by exact ⟨[_, _, _, _], rfl⟩) ⟨rfl, ?_⟩)
      refine ⟨_, s, false, rfl, hS0, fun h => (by cases h), fun _ => none_of (fun t => ship_iff k3) (fun c => ?_)⟩
      obtain ⟨-, -, c3, ⟨c4, c5⟩, -⟩ := c
      rw [c3, decide_eq_true (by omega)] at hq
      cases hq
    | true =>
    obtain ⟨hq1, hq2⟩ := Bool.and_eq_true_iff.1 hq
    have hq2 := of_decide_eq_true hq2
    (((refine tgQ 13 (s := by exact Stab.not rfl) (h := ?_))); (refine tkQ 14 (s := by exact Stab.pick_f rfl (by (with_reducible rfl)) rfl) (h := ?_)); (refine tkQ 15 (s := by exact Stab.move rfl) (h := ?_)); ((refine tgQ 16 (q := (by (with_reducible exact Bool.not_true))) (s := by exact sfQ) (h := ?_))); ((refine tgQ 18 (q := (by (with_reducible exact Bool.not_true))) (s := by exact sfQ) (h := ?_))); ((refine tgQ 20 (q := (by (with_reducible exact Bool.not_true))) (s := by exact sfQ) (h := ?_))); ((refine tgQ 24 (q := (by (with_reducible exact Bool.not_true))) (s := by exact sfQ) (h := ?_))); ((refine tgQ 26 (q := (by (with_reducible exact Bool.not_true))) (s := by exact Stab.move rfl) (h := ?_))); ((refine tgQ 17 (q := (by (with_reducible exact Bool.not_true))) (s := by exact slQ) (h := ?_))); ((refine tgQ 19 (q := (by (with_reducible exact Bool.not_true))) (s := by exact slQ) (h := ?_))); ((refine tgQ 21 (q := (by (with_reducible exact Bool.not_true))) (s := by exact slQ) (h := ?_))); ((refine tgQ 25 (q := (by (with_reducible exact Bool.not_true))) (s := by exact slQ) (h := ?_))); ((refine tgQ 22 (q := (by (with_reducible exact Bool.not_true))) (s := by exact sxQ) (h := ?_))); ((refine tgQ 27 (q := (by (with_reducible exact Bool.not_true))) (s := by exact sxQ) (h := ?_))); ((refine tgQ 23 (q := (by (with_reducible exact Bool.not_true))) (s := by exact sMQ) (h := ?_))); ((refine tgQ 28 (q := (by (with_reducible exact Bool.not_true))) (s := by exact Stab.fieldD rfl (tysOk.get rfl) rfl rfl (tysOk.get rfl) rfl) (h := ?_))); ((refine tgQ 29 (q := (by (with_reducible exact Bool.not_true))) (s := by exact sMQ) (h := ?_))); (refine TrA.eff 30 rfl (by kernel_rfl) (by exact .inr ⟨_, _, _, rfl, rfl, rfl⟩) ?_))
    refine Exec.call0 rfl (rin_fn M h.day d rq.due) rfl ?_
    rintro _ _ _ ⟨rfl, rfl⟩
    refine ⟨Mem.le.refl _, (by exact fun _ h => h), ?_⟩
    by_cases c3 : d ≤ h.day ∧ h.day ≤ rq.due
    rotate_left
    · rw [decide_eq_false c3]
      (((refine tgQ 31 (q := (by (with_reducible exact Bool.not_true))) (s := by exact Stab.not rfl) (h := ?_))); (refine tkQ 32 (s := by exact Stab.pick_f rfl (by (with_reducible exact Bool.not_true)) rfl) (h := ?_)); (refine tkQ 33 (s := by exact Stab.move rfl) (h := ?_)); ((refine tuQ 34 (h := ?_))); ((refine tuQ 36 (h := ?_))); ((refine tuQ 37 (h := ?_))); ((refine tuQ 39 (h := ?_))); ((refine tuQ 35 (h := ?_))); ((refine tuQ 38 (h := ?_))); ((refine tuQ 40 (h := ?_))); ((refine tuQ 41 (h := ?_))); ((refine tuQ 42 (h := ?_))); ((refine tuQ 43 (h := ?_))); ((refine tuQ 44 (h := ?_))); (refine tkQ 45 (s := by exact Stab.pick_t rfl (by (with_reducible exact Bool.not_false)) rfl) (h := ?_)); (refine TrA.done (by kernel_rfl) ?_))
      (repeat (first | ((with_reducible refine Tr.step rfl ?_); (first | (refine xaQ (z := ?_)) | (refine xwQ (z := ?_)) | (refine xWQ (z := ?_)))) | (with_reducible first | apply Tr.next | apply Tr.seq | apply Tr.region | apply Tr.nil | apply Tr.ret | apply Tr.landQ_ret | apply Tr.then_ret | apply Tr.in_ret) | (refine Tr.cond_bt rfl (by (with_reducible rfl)) ?_)))
      (refine Tr.done (by first | exact .inl rfl | exact .inr rfl) rfl (by repeat (first | exact RVs.nil | (apply RVs.cons; (first | exact RV.tmp rfl | exact RV.cellW (by rfl) (tysOk.get (by rfl)) (by rfl) (by repeat (first | exact Has.here | apply Has.there)) (by first | rfl | assumption))))) (by first | exact Mem.le.refl _ | assumption) (by exact ⟨[_, _, _, _], rfl⟩) ⟨rfl, ?_⟩)
      exact ⟨_, s, false, rfl, hS0, fun h => (by cases h), fun _ => none_of (fun t => ship_iff k3) (fun c => c3 (by have := c.2.2.2.1; omega))⟩
    rw [decide_eq_true c3]
    (((refine tgQ 31 (q := (by (with_reducible exact Bool.not_true))) (s := by exact Stab.not rfl) (h := ?_))); (refine tkQ 32 (s := by exact Stab.pick_f rfl (by (with_reducible exact Bool.not_true)) rfl) (h := ?_)); (refine tkQ 33 (s := by exact Stab.move rfl) (h := ?_)); ((refine tgQ 34 (q := (by (with_reducible exact Bool.not_true))) (s := by exact sfQ) (h := ?_))); ((refine tgQ 36 (q := (by (with_reducible exact Bool.not_true))) (s := by exact Stab.move rfl) (h := ?_))); ((refine tgQ 37 (q := (by (with_reducible exact Bool.not_true))) (s := by exact sfQ) (h := ?_))); ((refine tgQ 39 (q := (by (with_reducible exact Bool.not_true))) (s := by exact Stab.move rfl) (h := ?_))); ((refine tgQ 35 (q := (by (with_reducible exact Bool.not_true))) (s := by exact slQ) (h := ?_))); ((refine tgQ 38 (q := (by (with_reducible exact Bool.not_true))) (s := by exact slQ) (h := ?_))); ((refine tgQ 40 (q := (by (with_reducible exact Bool.not_true))) (s := by exact sxQ) (h := ?_))); ((refine tgQ 41 (q := (by (with_reducible exact Bool.not_true))) (s := by exact sMQ) (h := ?_))); ((refine tgQ 42 (q := (by (with_reducible exact Bool.not_true))) (s := by exact Stab.min2 rfl rfl) (h := ?_))); (refine TrA.eff 43 rfl (by kernel_rfl) (by exact .inr ⟨_, _, _, rfl, rfl, rfl⟩) ?_))
    refine Exec.call0 rfl (rin_fn M h.amt 1 (min a n)) rfl ?_
    rintro _ _ _ ⟨rfl, rfl⟩
    refine ⟨Mem.le.refl _, (by exact fun _ h => h), ?_⟩
    by_cases c4 : 1 ≤ h.amt ∧ h.amt ≤ min a n
    rotate_left
    · rw [decide_eq_false c4]
      (((refine tgQ 44 (q := (by (with_reducible exact Bool.not_true))) (s := by exact Stab.not rfl) (h := ?_))); (refine tkQ 45 (s := by exact Stab.pick_f rfl (by (with_reducible exact Bool.not_true)) rfl) (h := ?_)); (refine TrA.done (by kernel_rfl) ?_))
      (repeat (first | ((with_reducible refine Tr.step rfl ?_); (first | (refine xaQ (z := ?_)) | (refine xwQ (z := ?_)) | (refine xWQ (z := ?_)))) | (with_reducible first | apply Tr.next | apply Tr.seq | apply Tr.region | apply Tr.nil | apply Tr.ret | apply Tr.landQ_ret | apply Tr.then_ret | apply Tr.in_ret) | (refine Tr.cond_bt rfl (by first | (with_reducible rfl) | (with_reducible exact Bool.not_false)) ?_)))
      (refine Tr.done (by first | exact .inl rfl | exact .inr rfl) rfl (by repeat (first | exact RVs.nil | (apply RVs.cons; (first | exact RV.tmp rfl | exact RV.cellW (by rfl) (tysOk.get (by rfl)) (by rfl) (by repeat (first | exact Has.here | apply Has.there)) (by first | rfl | assumption))))) (by first | exact Mem.le.refl _ | assumption) (by exact ⟨[_, _, _, _], rfl⟩) ⟨rfl, ?_⟩)
      exact ⟨_, s, false, rfl, hS0, fun h => (by cases h), fun _ => none_of (fun t => ship_iff k3) (fun c => c4 (by have := c.2.2.2.2.1; omega))⟩
    rw [decide_eq_true c4]
    (((refine tgQ 44 (q := (by (with_reducible exact Bool.not_true))) (s := by exact Stab.not rfl) (h := ?_))); (refine tkQ 45 (s := by exact Stab.pick_f rfl (by (with_reducible exact Bool.not_true)) rfl) (h := ?_)); (refine TrA.done (by kernel_rfl) ?_))
    have hw := rwith_fn M Ba ba s.am h.sup.toNat (a - h.amt) q1 (by omega) (by omega)
    rw [hsn] at hw
    (repeat (first | ((with_reducible refine Tr.step rfl ?_); (first | (refine xmQ (z := ?_)) | (refine xlQ (z := ?_)) | (refine xfQ (z := ?_)) | ((with_reducible refine Knd.binOp ?_); (refine Exec.stab rfl (Stab.subi rfl rfl (by omega)) rfl ?_)))) | (with_reducible first | apply Tr.next | apply Tr.seq | apply Tr.region | apply Tr.skip) | (refine Tr.cond_bf rfl (by first | (with_reducible rfl) | (with_reducible exact Bool.not_true)) ?_)))
    ((refine Tr.step rfl ?_)); refine Exec.call0 rfl (hw) rfl ?_
    rintro _ M1 hm1 ⟨W, wd, rfl, hW⟩
    clear hw
    have hw := rwith_fn M1 Bn bn s.nd h.req.toNat (n - h.amt) (q3.mono RI.mono hm1) (by omega) (by omega)
    rw [hrn] at hw
    replace hat4 := hat4.mono hm1
    (repeat (first | ((with_reducible refine Tr.step rfl ?_); (first | (refine xfQ (z := ?_)) | (refine xSQ (z := ?_)))) | (with_reducible first | apply Tr.next | apply Tr.seq | apply Tr.nil)))
    (((apply Tr.draw); (kernel_rfl)); (refine tkQ 0 (hB := by exact fun _ h => h) (s := by exact sfQ) (h := ?_)); (refine tkQ 2 (s := by exact Stab.move rfl) (h := ?_)); (refine tkQ 3 (s := by exact sfQ) (h := ?_)); (refine tkQ 5 (s := by exact Stab.move rfl) (h := ?_)); (refine tkQ 8 (s := by exact sfQ) (h := ?_)); (refine tkQ 1 (s := by exact slQ) (h := ?_)); (refine tkQ 4 (s := by exact slQ) (h := ?_)); (refine tkQ 9 (s := by exact slQ) (h := ?_)); (refine tkQ 6 (s := by exact sxQ) (h := ?_)); (refine tkQ 7 (s := by exact sMQ) (h := ?_)); (refine tkQ 10 (s := by exact Stab.subi rfl rfl (by omega)) (h := ?_)); (refine TrA.eff 11 rfl (by kernel_rfl) (by exact .inl rfl) ?_))
    refine Exec.call0 rfl hw rfl ?_
    rintro _ M2 hm2 ⟨V, vd, rfl, hV⟩
    refine ⟨hm2, (by exact fun _ h => h), ?_⟩
    ((refine tkQ 12 (s := by exact sfQ) (h := ?_)); (refine TrA.effD 13 rfl (by kernel_rfl) (by kernel_rfl) (by exact .inl rfl) ?_); (((refine Knd.store ?_); ((refine xSQ (z := ?_))))); (refine ⟨_, fun _ h => h, ?_⟩); (refine TrA.done (by kernel_rfl) ?_))
    have hm12 := hm1.trans hm2
    have hfit2 : Fit (fxB k) (shipS s h) := (hf.setAm (v := s.am.getD h.sup.toNat 0 - h.amt) (by rw [had]; omega) h.sup.toNat).setNd (v := s.nd.getD h.req.toNat 0 - h.amt) (by show 0 ≤ s.nd.getD h.req.toNat 0 - h.amt ∧ s.nd.getD h.req.toNat 0 - h.amt ≤ 1048576; rw [hnd]; omega) h.req.toNat
    have hS2 : RSr M2 (.agg #[.slice W s.am.length wd, .slice Bd s.dy.length bd, .slice V s.nd.length vd, .slice Bb s.br.length bb]) (shipS s h) := by
      refine ⟨W, wd, Bd, bd, V, vd, Bb, bb, ?_, ?_, q2.mono RI.mono hm12, ?_, q4.mono RI.mono hm12⟩
      · simp only [shipS, List.length_set]
      · simp only [shipS, List.length_set, had]
        exact hW.mono RI.mono hm2
      · simp only [shipS, List.length_set, hnd]
        exact hV
    have hndl : (shipS s h).nd.length = s.nd.length := List.length_set
    have hfa := rfail_fn M2 _ _ k (shipS s h) (hB0.mono hm12) hS2 hfit2 (by show s.dy.length = _; omega) (by rw [hndl]; exact e2) (by rw [hndl]; omega)
    rw [hndl] at hfa
    (repeat (first | (with_reducible first | apply Tr.next | apply Tr.seq)))
    (((apply Tr.draw ((box b5 67 _ :: _))); (kernel_rfl)); (refine tkQ 0 (hB := by exact (Sub.mem (by repeat (first | exact Sub.refl | apply Sub.cons)))) (s := by exact swQ) (h := ?_)); (refine tkQ 1 (s := by exact swQ) (h := ?_)); (refine tkQ 2 (s := by exact swQ) (h := ?_)); (refine TrA.eff 3 rfl (by kernel_rfl) (by exact .inl rfl) ?_))
    refine Exec.call0 rfl hfa rfl ?_
    rintro _ M3 hm3 ⟨A9, c9, rfl, hL⟩
    refine ⟨hm3, (by exact (Sub.mem (by repeat (first | exact Sub.refl | apply Sub.cons)))), ?_⟩
    have hfl := flg_length s.nd.length (failF (fxB k) (shipS s h) s.nd.length)
    have hany := rany_fn M3 A9 c9 _ (by rw [hfl]; exact hL)
    rw [hfl] at hany
    have hiff := flg_any (n := s.nd.length) (l := failF (fxB k) (shipS s h) s.nd.length) fun q hq => fail_lt hq
    ((refine TrA.eff 4 rfl (by kernel_rfl) (by exact .inl rfl) ?_))
    refine Exec.call0 rfl hany rfl ?_
    rintro _ _ _ ⟨rfl, rfl⟩
    refine ⟨Mem.le.refl _, (by exact (Sub.mem (by repeat (first | exact Sub.refl | apply Sub.cons)))), ?_⟩
    have hlast := hm12.trans hm3
    ((refine tkQ 5 (s := by exact Stab.not rfl) (h := ?_)); (refine TrA.eff 6 rfl (by kernel_rfl) (by exact .inl rfl) ?_); (((refine Knd.store ?_); ((refine xWQ (z := ?_))))); (refine ⟨(by first | exact Mem.le.refl _ | assumption), (by exact (Sub.mem (by repeat (first | exact Sub.refl | apply Sub.cons)))), ?_⟩); (refine tkQ 7 (s := by exact Stab.assign rfl) (h := ?_)); (refine TrA.done (by kernel_rfl) ?_))
    (repeat (first | (with_reducible first | apply Tr.next | apply Tr.ret | apply Tr.landQ_ret | apply Tr.then_ret | apply Tr.in_ret)))
    (refine Tr.done (by first | exact .inl rfl | exact .inr rfl) rfl (by repeat (first | exact RVs.nil | (apply RVs.cons; (first | exact RV.tmp rfl | exact RV.cellW (by rfl) (tysOk.get (by rfl)) (by rfl) (by repeat (first | exact Has.here | apply Has.there)) (by first | rfl | assumption))))) (by first | exact Mem.le.refl _ | assumption) (by exact ⟨[_, _, _, _], rfl⟩) ⟨rfl, ?_⟩)
    refine ⟨_, shipS s h, _, rfl, hS2.mono hm3, fun hok => (ship_iff k3).2 ⟨⟨⟨by omega, by omega⟩, by omega, hq1, by omega, by omega, hiff.1 (by rw [← Bool.not_eq_true']; exact hok)⟩, rfl⟩, fun hno => none_of (fun t => ship_iff k3) (fun c => ?_)⟩
    have := hiff.2 c.2.2.2.2.2
    rw [this] at hno
    cases hno
  obtain ⟨M1, s1, W, wd, V, vd⟩ := y
  obtain ⟨hm1, hst, hfit1, ⟨t1, t2, t3, t4⟩, i1, i2⟩ := hy
  dsimp only at hm1 hst hfit1 t1 t2 t3 t4 i1 i2
  dsimp only
  have i3 := q3.mono RI.mono hm1
  have i4 := q4.mono RI.mono hm1
  have hS1 : RSr M1 (.agg #[.slice W s.am.length wd, .slice V s.dy.length vd, .slice Bn s.nd.length bn, .slice Bb s.br.length bb]) s1 :=
    ⟨W, wd, V, vd, Bn, bn, Bb, bb, by rw [t1, t2, t3, t4], by rw [t1]; exact i1, by rw [t2]; exact i2, by rw [t3]; exact i3, by rw [t4]; exact i4⟩
  have hfa := rfail_fn M1 _ _ k s1 (hB0.mono hm1) hS1 hfit1 (by omega) (by rw [t3]; exact e2) (by rw [t3]; omega)
  rw [t3] at hfa
  (repeat (first | ((with_reducible refine Tr.step rfl ?_); (with_reducible refine Knd.load ?_); (refine xwQ (z := ?_))) | (with_reducible first | apply Tr.next | apply Tr.seq | apply Tr.region)))
  ((refine Tr.step rfl ?_)); refine Exec.call0 rfl (hfa) rfl ?_
  rintro _ M2 hm2 ⟨A9, c9, rfl, hL⟩
  have hmk := mkB_mark (x := fxB k) (s := s1) (at_ := at_) (by rw [t3, t4]; exact l5)
  rw [t3, t4] at hmk
  rw [hmk] at hst
  clear hmk
  generalize failF (fxB k) s1 s.nd.length = fl at hL hst
  have hm12 := hm1.trans hm2
  (repeat (first | ((with_reducible refine Tr.step rfl ?_); (with_reducible refine Knd.assign ?_); (refine xaQ (z := ?_))) | (with_reducible first | apply Tr.next | apply Tr.seq | apply Tr.region | apply Tr.nil | apply Tr.block)))
  refine Tr.loop (α := Nat × Mem × Option Addr × Nat) (fun y => ⟨179, [(13, .int .i64 (y.1 : Int)), (12, .slice A9 s.nd.length c9), (3, .int .i64 (at_ : Int)), (5, .pointer (some ⟨b5, 0, none⟩)), (8, .pointer (some ⟨b8, 0, none⟩))], [], y.2.1,
      box b8 67 [.slice none 0 0, .slice none 0 0, .slice none 0 0, .slice none 0 0] :: box b6 44 [.int .i64 h.kind, .int .i64 h.sup, .int .i64 h.req, .int .i64 h.day, .int .i64 h.amt] :: box b5 67 [.slice W s.am.length wd, .slice V s.dy.length vd, .slice Bn s.nd.length bn, .slice y.2.2.1 s.br.length y.2.2.2] :: box b4 27 [.int .i64 k.known, .slice As k.sups.length cs, .slice Ar k.reqs.length cr, .slice Af k.fits.length cf, .slice Ad k.reads cd] :: F⟩)
    (fun y => y.1 ≤ s.nd.length ∧ Mem.le M2 y.2.1 ∧ Ints y.2.1 (.slice y.2.2.1 s.br.length y.2.2.2) (mkB s.br fl at_ y.1)) (fun y => s.nd.length - y.1) (0, M2, Bb, bb) ⟨Nat.zero_le _, Mem.le.refl _, by rw [mkB_zero]; exact i4.mono RI.mono hm2⟩ hsQ (fun y hy => ?_)
  obtain ⟨i, M3, X, xc⟩ := y
  obtain ⟨hi, hm3, hX⟩ := hy
  dsimp only at hi hm3 hX
  dsimp only
  by_cases hlt : i < s.nd.length
  · obtain ⟨hA6, hat6⟩ := Bools.at (hL.mono RBo.mono hm3) (flg_get (l := fl) hlt)
    by_cases hin : i ∈ fl
    · rw [decide_eq_true hin] at hat6
      have hmb := mkB_length s.br fl at_ i
      have hw := rwith_fn M3 X xc (mkB s.br fl at_ i) i (at_ : Int) (by rw [hmb]; exact hX) (by omega) (by omega)
      rw [hmb, mkB_yes (by omega) hin] at hw
      (repeat (first | ((with_reducible refine Tr.step rfl ?_); (first | (refine xmQ (z := ?_)) | ((with_reducible refine Knd.load ?_); (first | (refine xlQ (z := ?_)) | (refine xMQ (z := ?_)))) | (refine xfQ (z := ?_)) | (refine xnQ (z := ?_)) | (refine xiQ (z := ?_)) | (refine xxQ (z := ?_)))) | (with_reducible first | apply Tr.next | apply Tr.seq | apply Tr.region | apply Tr.nil | apply Tr.skip | apply Tr.block) | (refine Tr.cond_bt rfl (by (with_reducible rfl)) ?_) | (refine Tr.cond_t rfl (by first | (with_reducible assumption) | omega) ?_)))
      ((refine Tr.step rfl ?_)); refine Exec.call0 rfl (hw) rfl ?_
      rintro _ M4 hm4 ⟨Y, yc, rfl, hY⟩
      (repeat (first | ((with_reducible refine Tr.step rfl ?_); (first | (refine xmQ (z := ?_)) | (refine xaQ (z := ?_)) | (refine xfQ (z := ?_)) | (refine xdQ (z := ?_)) | (refine xSQ (z := ?_)))) | (with_reducible first | apply Tr.next | apply Tr.region | apply Tr.nil | apply Tr.in_normal)))
      exact Tr.again (i + 1, M4, Y, yc) ⟨by simp only; omega, hm3.trans hm4, hY⟩ (by simp only; omega) hsQ
    · rw [decide_eq_false hin] at hat6
      (repeat (first | ((with_reducible refine Tr.step rfl ?_); (first | (refine xmQ (z := ?_)) | (refine xaQ (z := ?_)) | (refine xMQ (z := ?_)) | (refine xnQ (z := ?_)) | ((with_reducible refine Knd.binOp ?_); (first | (refine xdQ (z := ?_)) | (refine xiQ (z := ?_)))) | (refine xxQ (z := ?_)))) | (with_reducible first | apply Tr.next | apply Tr.seq | apply Tr.region | apply Tr.nil | apply Tr.skip | apply Tr.block | apply Tr.in_normal) | (refine Tr.cond_bf rfl (by (with_reducible rfl)) ?_) | (refine Tr.cond_t rfl (by first | (with_reducible assumption) | omega) ?_)))
      exact Tr.again (i + 1, M3, X, xc) ⟨by simp only; omega, hm3, by rw [mkB_no hin]; exact hX⟩ (by simp only; omega) hsQ
  have ei : s.nd.length = i := by omega
  subst ei
  have hlast := hm12.trans hm3
  (repeat (first | ((with_reducible refine Tr.step rfl ?_); (first | (refine xmQ (z := ?_)) | (refine xaQ (z := ?_)) | (refine xwQ (z := ?_)) | (refine xnQ (z := ?_)) | (refine xiQ (z := ?_)) | (refine xWQ (z := ?_)))) | (with_reducible first | apply Tr.next | apply Tr.seq | apply Tr.region | apply Tr.nil | apply Tr.exit | apply Tr.ret | apply Tr.then_exit) | ((with_reducible refine Tr.in_exit ?_ ?_); (exact rfl)) | (refine Tr.cond_f rfl (by first | (with_reducible assumption) | omega) ?_)))
  (refine Tr.done (by first | exact .inl rfl | exact .inr rfl) rfl (by repeat (first | exact RVs.nil | (apply RVs.cons; (first | exact RV.tmp rfl | exact RV.cellW (by rfl) (tysOk.get (by rfl)) (by rfl) (by repeat (first | exact Has.here | apply Has.there)) (by first | rfl | assumption))))) (by first | exact Mem.le.refl _ | assumption) (by exact ⟨[_, _, _, _], rfl⟩) ⟨rfl, ?_⟩)
  refine ⟨_, _, true, rfl, ?_, fun _ => hst, fun h => (by cases h)⟩
  have hm23 := hm2.trans hm3
  exact ⟨W, wd, V, vd, Bn, bn, X, xc, by simp only [mkB_length, t1, t2, t3], by show Ints M3 (.slice W s1.am.length wd) s1.am; rw [t1]; exact i1.mono RI.mono hm23, by show Ints M3 (.slice V s1.dy.length vd) s1.dy; rw [t2]; exact i2.mono RI.mono hm23, i3.mono RI.mono hm23, by show Ints M3 (.slice X (mkB s.br fl at_ s.nd.length).length xc) (mkB s.br fl at_ s.nd.length); rw [mkB_length]; exact hX⟩
end Go.Proofs.Ytgnipfjjkliibaa

/-
  Honour, the reference: run, Do.
  Conditions: none.
-/
namespace Go.Proofs.Ytgnipfjjkliibaa
open Go Bf
theorem RSr.open4 {M : Mem} {v : Value} {s : St} (h : RSr M v s) : ∃ v1 v2 v3 v4, v = .agg #[v1, v2, v3, v4] ∧ v1.oneCell' = true ∧ v2.oneCell' = true ∧ v3.oneCell' = true ∧ v4.oneCell' = true := by
  obtain ⟨Aa, ca, Ad, cd, An, cn, Ab, cb, rfl, h1, h2, h3, h4⟩ := h
  exact ⟨_, _, _, _, rfl, rfl, rfl, rfl, rfl⟩
theorem RSr.zero (M : Mem) : RSr M (.agg #[.slice none 0 0, .slice none 0 0, .slice none 0 0, .slice none 0 0]) ⟨[], [], [], []⟩ :=
  ⟨none, 0, none, 0, none, 0, none, 0, rfl, SlOf.nil _ _ _, SlOf.nil _ _ _, SlOf.nil _ _ _, SlOf.nil _ _ _⟩
theorem steps_snoc {x : Fx} {s : St} {l : List Hp} {i : Nat} {h : Hp} (hi : l[i]? = some h) : stepsF x s 0 (l.take (i + 1)) = (stepsF x s 0 (l.take i)).bind fun t => stepF x t h i := by
  have hl := (List.getElem?_eq_some_iff.1 hi).1
  rw [List.take_add_one, hi]
  show stepsF x s 0 (l.take i ++ [h]) = _
  rw [stepsF_append, List.length_take, Nat.min_eq_left (by omega), Nat.zero_add]
  congr 1
  funext t
  show (stepF x t h i).bind (fun s' => stepsF x s' (i + 1) []) = _
  cases stepF x t h i <;> rfl
theorem steps_halt {x : Fx} {s : St} {l : List Hp} {i : Nat} (h : stepsF x s 0 (l.take i) = none) : stepsF x s 0 l = none := by
  have e := stepsF_append (x := x) (l.take i) (l.drop i) s 0
  rw [List.take_append_drop, h] at e
  exact e
attribute [local irreducible] Tr Exec Stab HasTy Go.Addr.add IntKind.wrap
set_option maxHeartbeats 16000000 in
theorem rrun_fn (M : Mem) (v : Value) (k : Bk) (hB : RBk M v k) (h5 : k.sups.length ≤ 5 ∧ k.reqs.length ≤ 5) (A : Option Addr) (c : Nat) (l : List Hp) (hl : SlOf 5 RHp M (.slice A l.length c) l) :
    Fn0 Try.prog 28 [v, .slice A l.length c] M (fun r M' => ∃ w s' ok, r = .tuple #[w, .bool ok] ∧ RSr M' w s' ∧ (ok = true → runF k l = some s') ∧ (ok = false → runF k l = none)) := by
  have hB0 := hB
  obtain ⟨v1, v2, v3, v4, v5, rfl, o1, o2, o3, o4, o5⟩ := hB.open5
  have hll := hl.len_le
  refine Fn.intro Try.func28 rfl rfl Try.ntmps28 rfl fun E F => ?_
  (repeat (first | ((with_reducible refine Tr.step rfl ?_); (first | (refine xaQ (z := ?_)) | (refine xwQ (z := ?_)) | ((with_reducible refine Knd.box ?_); (refine Exec.box rfl rfl (fun b => ?_))) | ((with_reducible refine Knd.alloc ?_); (refine Exec.alloc (tysOk.get rfl) rfl rfl (fun b => ?_))))) | (with_reducible first | apply Tr.next | apply Tr.seq | apply Tr.region | apply Tr.nil)))
  generalize b = b4
  rename_i b2
  ((refine Tr.step rfl ?_)); refine Exec.call0 rfl (rvalid_fn M _ k hB h5) rfl ?_
  rintro _ M1 hm1 ⟨bb, rfl, hbb⟩
  cases bb with
  | false =>
    (repeat (first | ((with_reducible refine Tr.step rfl ?_); (first | (refine xaQ (z := ?_)) | ((with_reducible refine Knd.unOp ?_); (refine Exec.stab rfl (Stab.not rfl) rfl ?_)) | (refine xWQ (z := ?_)) | ((with_reducible refine Knd.build ?_); (refine Exec.stab rfl (Stab.build tysOk rfl rfl rfl rfl (by repeat (exact BuildP.nil))) rfl ?_)))) | (with_reducible first | apply Tr.next | apply Tr.seq | apply Tr.region | apply Tr.nil | apply Tr.ret | apply Tr.then_ret) | (refine Tr.cond_bt rfl (by first | (with_reducible rfl) | (with_reducible exact Bool.not_false)) ?_)))
    (refine Tr.done (by first | exact .inl rfl | exact .inr rfl) rfl (by repeat (first | exact RVs.nil | (apply RVs.cons; (first | exact RV.tmp rfl | exact RV.cellW (by rfl) (tysOk.get (by rfl)) (by rfl) (by repeat (first | exact Has.here | apply Has.there)) (by first | rfl | assumption))))) (by first | exact Mem.le.refl _ | assumption) (by exact ⟨[_, _], rfl⟩) ⟨rfl, ?_⟩)
    refine ⟨_, ⟨[], [], [], []⟩, false, rfl, RSr.zero _, fun h => (by cases h), fun _ => ?_⟩
    unfold runF
    exact if_neg fun h => by have := hbb.2 h; cases this
  | true =>
  have hv := hbb.1 rfl
  have erun : runF k l = stepsF (fxB k) (beginF k) 0 l := by unfold runF; exact if_pos hv
  obtain ⟨m1, m2, m3, m4⟩ := begin_len k
  have hbe := rbegin_fn M1 _ k (hB.mono hm1) (by omega) (by omega)
  (repeat (first | ((with_reducible refine Tr.step rfl ?_); (first | (refine xwQ (z := ?_)) | ((with_reducible refine Knd.unOp ?_); (refine Exec.stab rfl (Stab.not rfl) rfl ?_)))) | (with_reducible first | apply Tr.next | apply Tr.seq | apply Tr.region | apply Tr.nil | apply Tr.skip) | (refine Tr.cond_bf rfl (by first | (with_reducible rfl) | (with_reducible exact Bool.not_true)) ?_)))
  ((refine Tr.step rfl ?_)); refine Exec.call0 rfl (hbe) rfl ?_
  rintro _ M2 hm2 hS
  have hS0 := hS
  obtain ⟨s1, s2, s3, s4, rfl, p1, p2, p3, p4⟩ := hS.open4
  have hM2 := hm1.trans hm2
  have hfb := begin_fit hv.1
  (repeat (first | ((with_reducible refine Tr.step rfl ?_); (first | (refine xaQ (z := ?_)) | (refine xWQ (z := ?_)) | ((with_reducible refine Knd.alloc ?_); (refine Exec.alloc (tysOk.get rfl) rfl rfl (fun b => ?_))))) | (with_reducible first | apply Tr.next | apply Tr.seq | apply Tr.region | apply Tr.nil | apply Tr.block)))
  generalize b = b6
  refine Tr.loop (α := Nat × Mem × St × (Value × Value × Value × Value) × Bool) (fun y => ⟨36, [(8, .int .i64 (y.1 : Int)), (7, .bool y.2.2.2.2), (6, .pointer (some ⟨b6, 0, none⟩)), (4, .pointer (some ⟨b4, 0, none⟩)), (2, .pointer (some ⟨b2, 0, none⟩)), (1, .slice A l.length c)], [], y.2.1,
      box b6 67 [y.2.2.2.1.1, y.2.2.2.1.2.1, y.2.2.2.1.2.2.1, y.2.2.2.1.2.2.2] :: box b4 67 [.slice none 0 0, .slice none 0 0, .slice none 0 0, .slice none 0 0] :: box b2 27 [v1, v2, v3, v4, v5] :: ([] ++ F)⟩)
    (fun y => y.1 ≤ l.length ∧ Mem.le M y.2.1 ∧ stepsF (fxB k) (beginF k) 0 (l.take y.1) = some y.2.2.1 ∧ RSr y.2.1 (.agg #[y.2.2.2.1.1, y.2.2.2.1.2.1, y.2.2.2.1.2.2.1, y.2.2.2.1.2.2.2]) y.2.2.1 ∧ (y.2.2.2.1.1.oneCell' = true ∧ y.2.2.2.1.2.1.oneCell' = true ∧ y.2.2.2.1.2.2.1.oneCell' = true ∧ y.2.2.2.1.2.2.2.oneCell' = true)) (fun y => l.length - y.1) (0, M2, beginF k, (s1, s2, s3, s4), true) ⟨Nat.zero_le _, hM2, rfl, hS0, p1, p2, p3, p4⟩ hsQ (fun y hy => ?_)
  clear p1 p2 p3 p4 hS hS0
  obtain ⟨i, M3, s, ⟨w1, w2, w3, w4⟩, okk⟩ := y
  obtain ⟨hi, hm3, hst, hS, p1, p2, p3, p4⟩ := hy
  dsimp only at hi hm3 hst hS p1 p2 p3 p4
  dsimp only
  by_cases hlt : i < l.length
  · obtain ⟨h, hh⟩ := get_of_lt hlt
    obtain ⟨hA, ch, hat, rfl⟩ := (hl.mono RHp.mono hm3).elem hh
    have hln := (steps_eff hst (by omega)).2.1
    have hft := (stepsF_keep hst hfb ((fail_nil_iff hfb).1 (by have := hv.2; rwa [← m2] at this))).1
    have hone := rone_fn M3 _ _ k s h i (hB0.mono hm3) hS hft (by omega) (by omega) h5.2
    have hsn := steps_snoc (x := fxB k) (s := beginF k) hh
    rw [hst] at hsn
    (repeat (first | ((with_reducible refine Tr.step rfl ?_); (first | (refine xmQ (z := ?_)) | (refine xnQ (z := ?_)) | (refine xiQ (z := ?_)))) | (with_reducible first | apply Tr.next | apply Tr.seq | apply Tr.region | apply Tr.nil | apply Tr.skip | apply Tr.block) | (refine Tr.cond_t rfl (by first | (with_reducible assumption) | omega) ?_)))
    (((apply Tr.draw); (kernel_rfl)); (refine tkQ 0 (hB := by exact fun _ h => h) (s := by exact swQ) (h := ?_)); (refine tkQ 1 (s := by exact swQ) (h := ?_)); (refine tkQ 2 (s := by exact Stab.move rfl) (h := ?_)); (refine tkQ 3 (s := by exact Stab.move rfl) (h := ?_)); (refine tkQ 6 (s := by exact Stab.move rfl) (h := ?_)); (refine tkQ 4 (s := by exact sxQ) (h := ?_)); (refine tkQ 5 (s := by exact Stab.loadMA rfl (tysOk.get rfl) rfl (by assumption) (by first | rfl | assumption)) (h := ?_)); (refine TrA.effD 7 rfl (by kernel_rfl) (by kernel_rfl) (by exact .inl rfl) ?_))
    refine Exec.call0 rfl hone rfl ?_
    rintro _ M4 hm4 ⟨w, s', ok, rfl, hS', ok1, ok2⟩
    refine ⟨[], (fun r h => by cases h), ?_⟩
    have hS0' := hS'
    obtain ⟨x1, x2, x3, x4, rfl, y1, y2, y3, y4⟩ := hS'.open4
    have hm34 := hm3.trans hm4
    ((refine tkQ 8 (s := by exact Stab.move rfl) (h := ?_)); (refine tkQ 9 (s := by exact Stab.extract rfl rfl) (h := ?_)); (refine tkQ 10 (s := by exact Stab.extract rfl rfl) (h := ?_)); (refine TrA.eff 11 rfl (by kernel_rfl) (by exact .inl rfl) ?_); (((refine Knd.store ?_); ((refine xWQ (z := ?_))))); (refine ⟨(by first | exact Mem.le.refl _ | assumption), (by exact fun _ h => List.mem_append_left _ h), ?_⟩); (refine tkQ 12 (s := by exact Stab.assign rfl) (h := ?_)); (refine TrA.done (by kernel_rfl) ?_))
    cases ok with
    | false =>
      (repeat (first | ((with_reducible refine Tr.step rfl ?_); (first | (refine xmQ (z := ?_)) | (refine xaQ (z := ?_)) | (refine xwQ (z := ?_)) | ((with_reducible refine Knd.unOp ?_); (refine Exec.stab rfl (Stab.not rfl) rfl ?_)) | (refine xWQ (z := ?_)))) | (with_reducible first | apply Tr.next | apply Tr.seq | apply Tr.region | apply Tr.nil | apply Tr.ret | apply Tr.then_ret | apply Tr.in_ret) | (refine Tr.cond_bt rfl (by first | (with_reducible rfl) | (with_reducible exact Bool.not_false)) ?_)))
      (refine Tr.done (by first | exact .inl rfl | exact .inr rfl) rfl (by repeat (first | exact RVs.nil | (apply RVs.cons; (first | exact RV.tmp rfl | exact RV.cellW (by rfl) (tysOk.get (by rfl)) (by rfl) (by repeat (first | exact Has.here | apply Has.there)) (by first | rfl | assumption))))) (by first | exact Mem.le.refl _ | assumption) (by exact ⟨[_, _, _], rfl⟩) ⟨rfl, ?_⟩)
      refine ⟨_, s', false, rfl, hS0', fun h => (by cases h), fun _ => ?_⟩
      rw [erun]
      refine steps_halt (i := i + 1) ?_
      rw [hsn]
      exact ok2 rfl
    | true =>
      (repeat (first | ((with_reducible refine Tr.step rfl ?_); (first | (refine xmQ (z := ?_)) | (refine xaQ (z := ?_)) | (refine xdQ (z := ?_)) | ((with_reducible refine Knd.unOp ?_); (refine Exec.stab rfl (Stab.not rfl) rfl ?_)))) | (with_reducible first | apply Tr.next | apply Tr.seq | apply Tr.region | apply Tr.nil | apply Tr.skip | apply Tr.in_normal) | (refine Tr.cond_bf rfl (by first | (with_reducible rfl) | (with_reducible exact Bool.not_true)) ?_)))
      exact Tr.again (i + 1, M4, s', (x1, x2, x3, x4), true) ⟨by simp only; omega, hm34, by show stepsF _ _ 0 (l.take (i + 1)) = some s'; rw [hsn]; exact ok1 rfl, hS0', y1, y2, y3, y4⟩ (by simp only; omega) hsQ
  have ei : l.length = i := by omega
  subst ei
  rw [List.take_length] at hst
  (repeat (first | ((with_reducible refine Tr.step rfl ?_); (first | (refine xmQ (z := ?_)) | (refine xaQ (z := ?_)) | (refine xwQ (z := ?_)) | (refine xnQ (z := ?_)) | (refine xiQ (z := ?_)) | (refine xWQ (z := ?_)))) | (with_reducible first | apply Tr.next | apply Tr.seq | apply Tr.region | apply Tr.nil | apply Tr.exit | apply Tr.ret | apply Tr.then_exit) | ((with_reducible refine Tr.in_exit ?_ ?_); (exact rfl)) | (refine Tr.cond_f rfl (by first | (with_reducible assumption) | omega) ?_)))
  (refine Tr.done (by first | exact .inl rfl | exact .inr rfl) rfl (by repeat (first | exact RVs.nil | (apply RVs.cons; (first | exact RV.tmp rfl | exact RV.cellW (by rfl) (tysOk.get (by rfl)) (by rfl) (by repeat (first | exact Has.here | apply Has.there)) (by first | rfl | assumption))))) (by first | exact Mem.le.refl _ | assumption) (by exact ⟨[_, _, _], rfl⟩) ⟨rfl, ?_⟩)
  exact ⟨_, s, true, rfl, hS, fun _ => by rw [erun]; exact hst, fun h => (by cases h)⟩
set_option maxHeartbeats 16000000 in
theorem rDo_fn (M : Mem) (v : Value) (k : Bk) (hB : RBk M v k) (h5 : k.sups.length ≤ 5 ∧ k.reqs.length ≤ 5) (A : Option Addr) (c : Nat) (l : List Hp) (hl : SlOf 5 RHp M (.slice A l.length c) l) :
    Fn0 Try.prog 12 [v, .slice A l.length c] M (fun r M' => ∃ w, r = .tuple #[w, .int .i64 (doF k l).2] ∧ RBk M' w (doF k l).1) := by
  have hB0 := hB
  have hrun := rrun_fn M v k hB h5 A c l hl
  obtain ⟨As, cs, Ar, cr, Af, cf, Ad, cd, rfl, h1, h2, h3⟩ := hB
  refine Fn.intro Try.func12 rfl rfl Try.ntmps12 rfl fun E F => ?_
  (repeat (first | ((with_reducible refine Tr.step rfl ?_); (first | (refine xmQ (z := ?_)) | (refine xaQ (z := ?_)) | (refine xwQ (z := ?_)) | ((with_reducible refine Knd.box ?_); (refine Exec.box rfl rfl (fun b => ?_))) | ((with_reducible refine Knd.alloc ?_); (refine Exec.alloc (tysOk.get rfl) rfl rfl (fun b => ?_))))) | (with_reducible first | apply Tr.next | apply Tr.seq | apply Tr.region | apply Tr.nil)))
  generalize b = b4
  rename_i b2
  ((refine Tr.step rfl ?_)); refine Exec.call0 rfl (hrun) rfl ?_
  rintro _ M1 hm1 ⟨w, s, ok, rfl, hS, ok1, ok2⟩
  clear hrun
  have hS0 := hS
  obtain ⟨Ba, ba, Bd, bd, Bn, bn, Bb, bb, rfl, q1, q2, q3, q4⟩ := hS
  cases ok with
  | false =>
    have e1 : doF k l = (zB, 330) := by rw [doF, ok2 rfl]
    rw [e1]
    (repeat (first | ((with_reducible refine Tr.step rfl ?_); (first | (refine xmQ (z := ?_)) | (refine xaQ (z := ?_)) | ((with_reducible refine Knd.unOp ?_); (refine Exec.stab rfl (Stab.not rfl) rfl ?_)) | (refine xWQ (z := ?_)) | ((with_reducible refine Knd.alloc ?_); (refine Exec.alloc (tysOk.get rfl) rfl rfl (fun b => ?_))) | ((with_reducible refine Knd.extract ?_); (refine Exec.stab rfl (Stab.extract rfl rfl) rfl ?_)) | ((with_reducible refine Knd.build ?_); (refine Exec.stab rfl (Stab.build tysOk rfl rfl rfl rfl (by repeat (exact BuildP.nil))) rfl ?_)))) | (with_reducible first | apply Tr.next | apply Tr.seq | apply Tr.region | apply Tr.nil | apply Tr.ret | apply Tr.then_ret) | (refine Tr.cond_bt rfl (by first | (with_reducible rfl) | (with_reducible exact Bool.not_false)) ?_)))
    (refine Tr.done (by first | exact .inl rfl | exact .inr rfl) rfl (by repeat (first | exact RVs.nil | (apply RVs.cons; (first | exact RV.tmp rfl | exact RV.cellW (by rfl) (tysOk.get (by rfl)) (by rfl) (by repeat (first | exact Has.here | apply Has.there)) (by first | rfl | assumption))))) (by first | exact Mem.le.refl _ | assumption) (by exact ⟨[_, _, _], rfl⟩) ⟨rfl, ?_⟩)
    exact ⟨_, rfl, RBk.zero _⟩
  | true =>
  have hrun := ok1 rfl
  have e1 : doF k l = (resF k s, 0) := by rw [doF, hrun]
  rw [e1]
  clear ok1 ok2 e1
  obtain ⟨hfb, hfit, -⟩ := run_keep hrun
  obtain ⟨n1, n2, n3, n4⟩ := run_len hrun
  obtain ⟨r1, r2⟩ := res_len k s
  replace h1 := h1.mono RSp.mono hm1
  replace h2 := h2.mono RRq.mono hm1
  (repeat (first | ((with_reducible refine Tr.step rfl ?_); (first | (refine xmQ (z := ?_)) | (refine xaQ (z := ?_)) | (refine xwQ (z := ?_)) | (refine xfQ (z := ?_)) | ((with_reducible refine Knd.unOp ?_); (refine Exec.stab rfl (Stab.not rfl) rfl ?_)) | ((with_reducible refine Knd.store ?_); (first | (refine xSQ (z := ?_)) | (refine xWQ (z := ?_)))) | ((with_reducible refine Knd.alloc ?_); (refine Exec.alloc (tysOk.get rfl) rfl rfl (fun b => ?_))) | ((with_reducible refine Knd.extract ?_); (refine Exec.stab rfl (Stab.extract rfl rfl) rfl ?_)) | ((with_reducible refine Knd.buildSlice ?_); (refine Exec.buildSlice (tysOk.get rfl) rfl (tysOk.get rfl) rfl rfl rfl rfl rfl (by repeat (exact BuildP.nil)) rfl (fun b => ?_))))) | (with_reducible first | apply Tr.next | apply Tr.seq | apply Tr.region | apply Tr.nil | apply Tr.skip | apply Tr.block) | (refine Tr.cond_bf rfl (by first | (with_reducible rfl) | (with_reducible exact Bool.not_true)) ?_)))
  rename_i b6 b8 bx
  generalize b = by_
  refine Tr.box_own (b := by_) 6 0 (by repeat (first | exact Upd.here | apply Upd.there)) rfl (by intro u hu; cases hu) (by simp [maxLen]) ?_
  refine Tr.box_own (b := bx) 6 0 (by repeat (first | exact Upd.here | apply Upd.there)) rfl (by intro u hu; cases hu) (by simp [maxLen]) ?_
  refine ftQ (r := ownS 58 6 _ _ _ _) (k := ?_)
  refine Tr.loop (α := Nat × Option Addr × Nat) (fun y => ⟨93, [(9, .int .i64 (y.1 : Int)), (8, .pointer (some ⟨b8, 0, none⟩)), (6, .pointer (some ⟨b6, 0, none⟩)), (4, .pointer (some ⟨b4, 0, none⟩)), (2, .pointer (some ⟨b2, 0, none⟩))], [], M1,
      ownS 58 6 y.2.1 y.1 y.2.2 (((resF k s).sups.take y.1).flatMap spV) :: ownS 54 6 (some ⟨by_, 0, none⟩) 0 0 [] :: box b8 27 [.int .i64 k.known, .slice y.2.1 y.1 y.2.2, .slice (some ⟨by_, 0, none⟩) 0 0, .slice Af k.fits.length cf, .slice Ad k.reads cd] :: box b6 67 [.slice Ba s.am.length ba, .slice Bd s.dy.length bd, .slice Bn s.nd.length bn, .slice Bb s.br.length bb] :: box b4 27 [.int .i64 0, .slice none 0 0, .slice none 0 0, .slice none 0 0, .slice none 0 0] :: box b2 27 [.int .i64 k.known, .slice As k.sups.length cs, .slice Ar k.reqs.length cr, .slice Af k.fits.length cf, .slice Ad k.reads cd] :: ([] ++ F)⟩)
    (fun y => y.1 ≤ k.sups.length ∧ y.2.2 ≤ 9223372036854775807) (fun y => k.sups.length - y.1) (0, some ⟨bx, 0, none⟩, 0) ⟨Nat.zero_le _, by show (0 : Nat) ≤ _; omega⟩ hsQ (fun y hy => ?_)
  obtain ⟨i, A1, c1⟩ := y
  obtain ⟨hi, hc1⟩ := hy
  dsimp only at hi hc1
  dsimp only
  by_cases hlt : i < k.sups.length
  · obtain ⟨x, hx⟩ := get_of_lt hlt
    obtain ⟨hA, ch, hat, rfl⟩ := h1.elem hx
    obtain ⟨a, ha⟩ := get_of_lt (xs := s.am) (i := i) (by omega)
    obtain ⟨d, hd⟩ := get_of_lt (xs := s.dy) (i := i) (by omega)
    obtain ⟨hAa, hata⟩ := Ints.at q1 ha
    obtain ⟨hAd, hatd⟩ := Ints.at q2 hd
    have hel : (resF k s).sups[i]? = some (setSup x a d) := by
      simp only [resF, List.getElem?_map, List.getElem?_range hlt, Option.map_some]
      rw [getD_of hx, getD_of ha, getD_of hd]
    have htk : ((resF k s).sups.take (i + 1)).flatMap spV = ((resF k s).sups.take i).flatMap spV ++ spV (setSup x a d) := by
      rw [List.take_add_one, hel, List.flatMap_append]
      simp
    (repeat (first | ((with_reducible refine Tr.step rfl ?_); (first | (refine xmQ (z := ?_)) | ((with_reducible refine Knd.load ?_); (first | (refine xlQ (z := ?_)) | (refine xwQ (z := ?_)) | (refine xMQ (z := ?_)) | (refine Exec.stab rfl (Stab.loadMA rfl (tysOk.get rfl) rfl (by assumption) (by first | rfl | assumption)) rfl ?_))) | (refine xfQ (z := ?_)) | (refine xnQ (z := ?_)) | (refine xiQ (z := ?_)) | ((with_reducible refine Knd.store ?_); (first | (refine xSQ (z := ?_)) | (refine xWQ (z := ?_)))) | ((with_reducible refine Knd.alloc ?_); (refine Exec.alloc (tysOk.get rfl) rfl rfl (fun b => ?_))) | (refine xxQ (z := ?_)) | ((with_reducible refine Knd.buildSlice ?_); (refine Exec.buildSlice (tysOk.get rfl) rfl (tysOk.get rfl) rfl rfl rfl rfl rfl (by repeat (first | exact BuildP.nil | ((apply BuildP.many); (rfl); (rfl); (rfl); (rfl); (repeat (first | exact PutL.nil | ((apply PutL.cons); (repeat (first | exact SetL.z | apply SetL.s)))))))) rfl (fun b => ?_))))) | (with_reducible first | apply Tr.next | apply Tr.seq | apply Tr.region | apply Tr.nil | apply Tr.skip | apply Tr.block) | (refine Tr.cond_t rfl (by first | (with_reducible assumption) | omega) ?_)))
    rename_i b10
    ((refine Tr.step rfl ?_))
    refine Exec.append (news := spV (setSup x a d)) rfl rfl (tysOk.get rfl) rfl (tysOk.get rfl) rfl rfl rfl rfl (by repeat (first | exact Del.here | apply Del.there)) (Src.box (by repeat (first | exact Has.here | apply Has.there))) rfl (spV_one _) (by omega) (by omega) rfl (fun A3 c3 hc3 => ?_)
    refine gvQ (r := box b _ _) (k := ?_)
    rw [← htk]
    (repeat (first | ((with_reducible refine Tr.step rfl ?_); (first | (refine xmQ (z := ?_)) | (refine xaQ (z := ?_)) | (refine xfQ (z := ?_)) | (refine xdQ (z := ?_)) | (refine xSQ (z := ?_)))) | (with_reducible first | apply Tr.next | apply Tr.region | apply Tr.nil | apply Tr.in_normal)))
    refine gvQ (r := box b10 _ _) (k := ?_)
    exact Tr.again (i + 1, A3, c3) ⟨by simp only; omega, hc3⟩ (by simp only; omega) hsQ
  have ei : k.sups.length = i := by omega
  subst ei
  rw [List.take_of_length_le (by omega)]
  refine pbQ (r := ownS 58 6 A1 _ _ _) (k := fun M2 hm2 ok2 => ?_)
  have i1 := SlOf.ofOwn ok2 r1.symm hc1 (Elems.flat (R := RSp) spV_len (fun _ => rfl) (resF k s).sups)
  clear hi hlt ok2
  replace h2 := h2.mono RRq.mono hm2
  replace q3 := q3.mono RI.mono hm2
  replace q4 := q4.mono RI.mono hm2
  (repeat (first | ((with_reducible refine Tr.step rfl ?_); (first | (refine xmQ (z := ?_)) | (refine xaQ (z := ?_)) | (refine xlQ (z := ?_)) | (refine xfQ (z := ?_)) | (refine xnQ (z := ?_)) | (refine xiQ (z := ?_)))) | (with_reducible first | apply Tr.next | apply Tr.seq | apply Tr.region | apply Tr.nil | apply Tr.block | apply Tr.exit | apply Tr.then_exit) | ((with_reducible refine Tr.in_exit ?_ ?_); (exact rfl)) | (refine Tr.cond_f rfl (by omega) ?_)))
  refine Tr.loop (α := Nat × Option Addr × Nat) (fun y => ⟨93, [(11, .int .i64 (y.1 : Int)), (8, .pointer (some ⟨b8, 0, none⟩)), (6, .pointer (some ⟨b6, 0, none⟩)), (4, .pointer (some ⟨b4, 0, none⟩)), (2, .pointer (some ⟨b2, 0, none⟩))], [], M2,
      ownS 54 6 y.2.1 y.1 y.2.2 (((resF k s).reqs.take y.1).flatMap rqV) :: box b8 27 [.int .i64 k.known, .slice A1 k.sups.length c1, .slice y.2.1 y.1 y.2.2, .slice Af k.fits.length cf, .slice Ad k.reads cd] :: box b6 67 [.slice Ba s.am.length ba, .slice Bd s.dy.length bd, .slice Bn s.nd.length bn, .slice Bb s.br.length bb] :: box b4 27 [.int .i64 0, .slice none 0 0, .slice none 0 0, .slice none 0 0, .slice none 0 0] :: box b2 27 [.int .i64 k.known, .slice As k.sups.length cs, .slice Ar k.reqs.length cr, .slice Af k.fits.length cf, .slice Ad k.reads cd] :: ([] ++ F)⟩)
    (fun y => y.1 ≤ k.reqs.length ∧ y.2.2 ≤ 9223372036854775807) (fun y => k.reqs.length - y.1) (0, some ⟨by_, 0, none⟩, 0) ⟨Nat.zero_le _, by show (0 : Nat) ≤ _; omega⟩ hsQ (fun y hy => ?_)
  obtain ⟨i, A2, c2⟩ := y
  obtain ⟨hi, hc2⟩ := hy
  dsimp only at hi hc2
  dsimp only
  by_cases hlt : i < k.reqs.length
  · obtain ⟨x, hx⟩ := get_of_lt hlt
    obtain ⟨hA, ch, hat, rfl⟩ := h2.elem hx
    obtain ⟨a, ha⟩ := get_of_lt (xs := s.nd) (i := i) (by omega)
    obtain ⟨d, hd⟩ := get_of_lt (xs := s.br) (i := i) (by omega)
    obtain ⟨hAa, hata⟩ := Ints.at q3 ha
    obtain ⟨hAd, hatd⟩ := Ints.at q4 hd
    have hel : (resF k s).reqs[i]? = some (setReq x (if 0 ≤ d then 0 else a)) := by
      simp only [resF, List.getElem?_map, List.getElem?_range hlt, Option.map_some]
      rw [getD_of hx, getD_of ha, getD_of hd]
    have htk : ((resF k s).reqs.take (i + 1)).flatMap rqV = ((resF k s).reqs.take i).flatMap rqV ++ rqV (setReq x (if 0 ≤ d then 0 else a)) := by
      rw [List.take_add_one, hel, List.flatMap_append]
      simp
    by_cases hd0 : 0 ≤ d
    · rw [if_pos hd0] at htk
      (repeat (first | ((with_reducible refine Tr.step rfl ?_); (first | (refine xmQ (z := ?_)) | ((with_reducible refine Knd.load ?_); (first | (refine xlQ (z := ?_)) | (refine xwQ (z := ?_)) | (refine xMQ (z := ?_)) | (refine Exec.stab rfl (Stab.loadMA rfl (tysOk.get rfl) rfl (by assumption) (by first | rfl | assumption)) rfl ?_))) | (refine xfQ (z := ?_)) | (refine xnQ (z := ?_)) | (refine xiQ (z := ?_)) | ((with_reducible refine Knd.store ?_); (first | (refine xSQ (z := ?_)) | (refine xWQ (z := ?_)))) | ((with_reducible refine Knd.alloc ?_); (refine Exec.alloc (tysOk.get rfl) rfl rfl (fun b => ?_))) | (refine xxQ (z := ?_)) | ((with_reducible refine Knd.buildSlice ?_); (refine Exec.buildSlice (tysOk.get rfl) rfl (tysOk.get rfl) rfl rfl rfl rfl rfl (by repeat (first | exact BuildP.nil | ((apply BuildP.many); (rfl); (rfl); (rfl); (rfl); (repeat (first | exact PutL.nil | ((apply PutL.cons); (repeat (first | exact SetL.z | apply SetL.s)))))))) rfl (fun b => ?_))))) | (with_reducible first | apply Tr.next | apply Tr.seq | apply Tr.region | apply Tr.nil | apply Tr.skip | apply Tr.block) | (refine Tr.cond_t rfl (by first | (with_reducible assumption) | omega) ?_)))
      rename_i b10
      ((refine Tr.step rfl ?_))
      refine Exec.append (news := rqV (setReq x 0)) rfl rfl (tysOk.get rfl) rfl (tysOk.get rfl) rfl rfl rfl rfl (by repeat (first | exact Del.here | apply Del.there)) (Src.box (by repeat (first | exact Has.here | apply Has.there))) rfl (rqV_one _) (by omega) (by omega) rfl (fun A3 c3 hc3 => ?_)
      refine gvQ (r := box b _ _) (k := ?_)
      rw [← htk]
      (repeat (first | ((with_reducible refine Tr.step rfl ?_); (first | (refine xmQ (z := ?_)) | (refine xaQ (z := ?_)) | (refine xfQ (z := ?_)) | (refine xdQ (z := ?_)) | (refine xSQ (z := ?_)))) | (with_reducible first | apply Tr.next | apply Tr.region | apply Tr.nil | apply Tr.in_normal)))
      refine gvQ (r := box b10 _ _) (k := ?_)
      exact Tr.again (i + 1, A3, c3) ⟨by simp only; omega, hc3⟩ (by simp only; omega) hsQ
    · rw [if_neg hd0] at htk
      (repeat (first | ((with_reducible refine Tr.step rfl ?_); (first | (refine xmQ (z := ?_)) | ((with_reducible refine Knd.load ?_); (first | (refine xlQ (z := ?_)) | (refine xwQ (z := ?_)) | (refine xMQ (z := ?_)) | (refine Exec.stab rfl (Stab.loadMA rfl (tysOk.get rfl) rfl (by assumption) (by first | rfl | assumption)) rfl ?_))) | (refine xfQ (z := ?_)) | (refine xnQ (z := ?_)) | (refine xiQ (z := ?_)) | ((with_reducible refine Knd.store ?_); (first | (refine xSQ (z := ?_)) | (refine xWQ (z := ?_)))) | ((with_reducible refine Knd.alloc ?_); (refine Exec.alloc (tysOk.get rfl) rfl rfl (fun b => ?_))) | (refine xxQ (z := ?_)) | ((with_reducible refine Knd.buildSlice ?_); (refine Exec.buildSlice (tysOk.get rfl) rfl (tysOk.get rfl) rfl rfl rfl rfl rfl (by repeat (first | exact BuildP.nil | ((apply BuildP.many); (rfl); (rfl); (rfl); (rfl); (repeat (first | exact PutL.nil | ((apply PutL.cons); (repeat (first | exact SetL.z | apply SetL.s)))))))) rfl (fun b => ?_))))) | (with_reducible first | apply Tr.next | apply Tr.seq | apply Tr.region | apply Tr.nil | apply Tr.skip | apply Tr.block) | (refine Tr.cond_t rfl (by first | (with_reducible assumption) | omega) ?_) | (refine Tr.cond_f rfl (by (with_reducible assumption)) ?_)))
      rename_i b10
      ((refine Tr.step rfl ?_))
      refine Exec.append (news := rqV (setReq x a)) rfl rfl (tysOk.get rfl) rfl (tysOk.get rfl) rfl rfl rfl rfl (by repeat (first | exact Del.here | apply Del.there)) (Src.box (by repeat (first | exact Has.here | apply Has.there))) rfl (rqV_one _) (by omega) (by omega) rfl (fun A3 c3 hc3 => ?_)
      refine gvQ (r := box b _ _) (k := ?_)
      rw [← htk]
      (repeat (first | ((with_reducible refine Tr.step rfl ?_); (first | (refine xmQ (z := ?_)) | (refine xaQ (z := ?_)) | (refine xfQ (z := ?_)) | (refine xdQ (z := ?_)) | (refine xSQ (z := ?_)))) | (with_reducible first | apply Tr.next | apply Tr.region | apply Tr.nil | apply Tr.in_normal)))
      refine gvQ (r := box b10 _ _) (k := ?_)
      exact Tr.again (i + 1, A3, c3) ⟨by simp only; omega, hc3⟩ (by simp only; omega) hsQ
  have ei : k.reqs.length = i := by omega
  subst ei
  rw [List.take_of_length_le (by omega)]
  refine pbQ (r := ownS 54 6 A2 _ _ _) (k := fun M3 hm3 ok3 => ?_)
  have i2 := SlOf.ofOwn ok3 r2.symm hc2 (Elems.flat (R := RRq) rqV_len (fun _ => rfl) (resF k s).reqs)
  have hm13 := hm1.trans (hm2.trans hm3)
  have hta := rtable_fn M3 _ _ k s (hB0.mono hm13) (hS0.mono (hm2.trans hm3)) hfit n3 n2
  (repeat (first | ((with_reducible refine Tr.step rfl ?_); (first | (refine xmQ (z := ?_)) | ((with_reducible refine Knd.load ?_); (first | (refine xlQ (z := ?_)) | (refine xwQ (z := ?_)))) | (refine xfQ (z := ?_)) | (refine xnQ (z := ?_)) | (refine xiQ (z := ?_)))) | (with_reducible first | apply Tr.next | apply Tr.seq | apply Tr.region | apply Tr.nil | apply Tr.exit | apply Tr.then_exit) | ((with_reducible refine Tr.in_exit ?_ ?_); (exact rfl)) | (refine Tr.cond_f rfl (by first | (with_reducible assumption) | omega) ?_)))
  ((refine Tr.step rfl ?_)); refine Exec.call0 rfl (hta) rfl ?_
  rintro _ M4 hm4 ⟨A5, c5, rfl, ht⟩
  have hlast := hm13.trans hm4
  (repeat (first | ((with_reducible refine Tr.step rfl ?_); (first | (refine xaQ (z := ?_)) | (refine xwQ (z := ?_)) | (refine xfQ (z := ?_)) | ((with_reducible refine Knd.store ?_); (first | (refine xSQ (z := ?_)) | (refine xWQ (z := ?_)))))) | (with_reducible first | apply Tr.next | apply Tr.seq | apply Tr.region | apply Tr.nil | apply Tr.ret)))
  (refine Tr.done (by first | exact .inl rfl | exact .inr rfl) rfl (by repeat (first | exact RVs.nil | (apply RVs.cons; (first | exact RV.tmp rfl | exact RV.cellW (by rfl) (tysOk.get (by rfl)) (by rfl) (by repeat (first | exact Has.here | apply Has.there)) (by first | rfl | assumption))))) (by first | exact Mem.le.refl _ | assumption) (by exact ⟨[_, _, _, _], rfl⟩) ⟨rfl, ?_⟩)
  refine ⟨_, rfl, A1, c1, A2, c2, A5, c5, Ad, cd, ?_, i1.mono RSp.mono (hm3.trans hm4), i2.mono RRq.mono hm4, ht⟩
  rw [r1, r2]
  rfl
end Go.Proofs.Ytgnipfjjkliibaa

/-
  Honour, the reference: fails.
  Conditions: none.
-/
namespace Go.Proofs.Ytgnipfjjkliibaa
open Go Bf
/-- which of the first ones are marked -/
def fsI (fs : List Bool) (n : Nat) : List Nat := (List.range n).filter fun t => fs.getD t false
theorem fsI_succ (fs : List Bool) (n : Nat) : fsI fs (n + 1) = fsI fs n ++ if fs.getD n false = true then [n] else [] := by
  rw [fsI, List.range_succ, List.filter_append, fsI]
  congr 1
  by_cases h : fs.getD n false = true
  · rw [if_pos h, List.filter_cons_of_pos (by exact h)]; rfl
  · rw [if_neg h, List.filter_cons_of_neg (by exact h)]; rfl
theorem fsI_sub (fs : List Bool) (n : Nat) : (fsI fs n).Sublist (List.range n) := List.filter_sublist
theorem fsI_mem {fs : List Bool} {n t : Nat} : t ∈ fsI fs n ↔ t < n ∧ fs.getD t false = true := by simp [fsI, List.mem_filter]
attribute [local irreducible] Tr Exec Stab HasTy Go.Addr.add IntKind.wrap
set_option maxHeartbeats 32000000 in
theorem rfails_fn (M : Mem) (v : Value) (k : Bk) (hB : RBk M v k) (A : Option Addr) (c : Nat) (l : List Hp) (hl : SlOf 5 RHp M (.slice A l.length c) l) (s : St) (hrun : runF k l = some s) (Bb : Option Addr) (kb : Nat) (q6 : Ints M (.slice Bb s.br.length kb) s.br)
    (q j : Nat) (hq : q < k.reqs.length) (hj : s.br.getD q 0 = (j : Int)) (hjl : j < l.length) (Af : Option Addr) (cf : Nat) (fs : List Bool) (hfs : Bools M (.slice Af fs.length cf) fs) (hfl : fs.length = l.length) (hf3 : ∀ t, fs.getD t false = true → t ≤ j ∧ (l.getD t zH).kind ≠ 3) (hll : l.length ≤ 1000) (h6 : k.reqs.length ≤ 6) :
    Fn0 Try.prog 32 [v, .slice A l.length c, .slice Bb s.br.length kb, .int .i64 (q : Int), .slice Af fs.length cf] M (fun r _ => ∃ b : Bool, r = .bool b ∧ (b = true ↔ q ∈ failF (fxB k) (withF k l s.br j (fsI fs (j + 1))) (q + 1))) := by
  have hbe := rbegin_own M _ k hB
  have hB0 := hB
  obtain ⟨v1, v2, v3, v4, v5, rfl, o1, o2, o3, o4, o5⟩ := hB.open5
  obtain ⟨hfb, hfit, -⟩ := run_keep hrun
  have hfb2 := begin_fit hfb
  have hs64 := hfb.1
  have hr64 := hfb.2.1
  obtain ⟨n1, n2, n3, n4⟩ := run_len hrun
  obtain ⟨m1, m2, m3, m4⟩ := begin_len k
  have hok := run_ok hrun
  have hamt := run_amt hrun
  obtain ⟨z, hz⟩ := get_of_lt (xs := s.br) (i := q) (by omega)
  obtain rfl : z = (j : Int) := by rw [getD_of (d := (0 : Int)) hz] at hj; exact hj
  obtain ⟨hAq, hatq⟩ := Ints.at q6 hz
  have hwf := with_fit hrun hjl (idx := fsI fs (j + 1)) (fsI_sub _ _) (fun t ht => (hf3 t (fsI_mem.1 ht).2).2)
  refine Fn.intro Try.func32 rfl rfl Try.ntmps32 rfl fun E F => ?_
  (repeat (first | ((with_reducible refine Tr.step rfl ?_); (first | (refine xaQ (z := ?_)) | (refine xwQ (z := ?_)) | ((with_reducible refine Knd.box ?_); (refine Exec.box rfl rfl (fun b => ?_))))) | (with_reducible first | apply Tr.next | apply Tr.seq | apply Tr.region | apply Tr.nil)))
  generalize b = b5
  ((refine Tr.step rfl ?_))
  refine Exec.call (A := []) rfl (hbe (by omega) (by omega)) (List.Perm.refl _) rfl ?_
  rintro _ _ _ - ⟨rfl, A1, c1, A2, c2, A3, c3, A4, c4, rfl, ⟨hc1, hc2, hc3, hc4⟩, rfl⟩
  simp only [List.cons_append, List.nil_append]
  (repeat (first | ((with_reducible refine Tr.step rfl ?_); (first | (refine xaQ (z := ?_)) | (refine xWQ (z := ?_)) | ((with_reducible refine Knd.alloc ?_); (refine Exec.alloc (tysOk.get rfl) rfl rfl (fun b => ?_))))) | (with_reducible first | apply Tr.next | apply Tr.seq | apply Tr.region | apply Tr.nil | apply Tr.block)))
  generalize b = b11
  refine Tr.loop (α := Nat × St) (fun y => ⟨191, [(12, .int .i64 (y.1 : Int)), (11, .pointer (some ⟨b11, 0, none⟩)), (5, .pointer (some ⟨b5, 0, none⟩)), (1, .slice A l.length c), (2, .slice Bb s.br.length kb), (3, .int .i64 (q : Int)), (4, .slice Af fs.length cf)], [], M,
      box b11 67 [.slice A1 k.sups.length c1, .slice A2 k.sups.length c2, .slice A3 k.reqs.length c3, .slice A4 k.reqs.length c4] :: ownS 3 1 A3 k.reqs.length c3 (intV y.2.nd) :: ownS 3 1 A4 k.reqs.length c4 (intV (beginF k).br) :: ownS 3 1 A1 k.sups.length c1 (intV y.2.am) :: ownS 3 1 A2 k.sups.length c2 (intV (beginF k).dy) :: box b5 27 [v1, v2, v3, v4, v5] :: F⟩)
    (fun y => y.1 ≤ j ∧ y.2 = (l.take y.1).foldl shipF (beginF k) ∧ (y.2.am.length = k.sups.length ∧ y.2.nd.length = k.reqs.length) ∧ Rg y.1 y.2.am ∧ Rg y.1 y.2.nd) (fun y => j - y.1) (0, beginF k) ⟨Nat.zero_le _, rfl, ⟨m1, m2⟩, fun a ha => by have := hfb2.amr a ha; show -((0 : Int) * 1048576) ≤ a ∧ _; omega, fun a ha => by have := hfb2.ndr a ha; show -((0 : Int) * 1048576) ≤ a ∧ _; omega⟩ hsQ (fun y hy => ?_)
  obtain ⟨i, t⟩ := y
  obtain ⟨hi, ht, ⟨ht1, ht2⟩, ht3, ht4⟩ := hy
  dsimp only at hi ht ht1 ht2 ht3 ht4
  dsimp only
  by_cases hlt : i < j
  · obtain ⟨h, hh⟩ := get_of_lt (xs := l) (i := i) (by omega)
    have hokh := hok h (List.mem_of_getElem? hh)
    have hamth := hamt h (List.mem_of_getElem? hh)
    have hstep := foldl_take shipF l (beginF k) hh
    rw [← ht] at hstep
    obtain ⟨hA, ch, hat, rfl⟩ := hl.elem hh
    obtain ⟨kd, sup, req, day, amt⟩ := h
    have hat0 := hat.drop 0
    have hat1 := hat.drop 1
    have hat2 := hat.drop 2
    have hat4 := hat.drop 4
    dsimp only [List.drop] at hat0 hat1 hat2 hat4
    obtain ⟨⟨p1, p2⟩, p3⟩ := hokh
    simp only at p1 p2 p3 hamth
    by_cases hk : kd = 3
    · subst hk
      have ho4 : 0 ≤ req ∧ req < (k.reqs.length : Int) := by rcases p3 with o | o | o <;> omega
      have hamt2 := hamth (by omega)
      obtain ⟨u, rfl⟩ : ∃ u : Nat, sup = (u : Int) := ⟨sup.toNat, by omega⟩
      obtain ⟨w, rfl⟩ : ∃ w : Nat, req = (w : Int) := ⟨req.toNat, by omega⟩
      obtain ⟨a, ha⟩ := get_of_lt (xs := t.am) (i := u) (by omega)
      obtain ⟨n, hn⟩ := get_of_lt (xs := t.nd) (i := w) (by omega)
      have hra := ht3 a (List.mem_of_getElem? ha)
      have hrn := ht4 n (List.mem_of_getElem? hn)
      have hav : (intV t.am)[(u : Int).toNat]? = some (.int .i64 a) := by rw [Int.toNat_natCast]; exact intV_get ha
      have hnv : (intV t.nd)[(w : Int).toNat]? = some (.int .i64 n) := by rw [Int.toNat_natCast]; exact intV_get hn
      rw [shipF_at ha hn] at hstep
      refine Tr.own_some A1 (e := 3) (sz := 1) (m := k.sups.length) (c := c1) (xs := intV t.am) (by repeat (first | exact Has.here | apply Has.there)) (by omega) (fun hA1 => ?_)
      refine Tr.own_some A3 (e := 3) (sz := 1) (m := k.reqs.length) (c := c3) (xs := intV t.nd) (by repeat (first | exact Has.here | apply Has.there)) (by omega) (fun hA3 => ?_)
      (repeat (first | ((with_reducible refine Tr.step rfl ?_); (first | (refine xmQ (z := ?_)) | (refine xMQ (z := ?_)) | ((with_reducible refine Knd.fieldAddr ?_); (refine Exec.stab rfl (Stab.fieldD rfl (tysOk.get rfl) rfl rfl (tysOk.get rfl) rfl) rfl ?_)) | (refine xiQ (z := ?_)) | (refine xxQ (z := ?_)))) | (with_reducible first | apply Tr.next | apply Tr.seq | apply Tr.region | apply Tr.nil | apply Tr.skip | apply Tr.block) | (refine Tr.cond_t rfl (by first | (with_reducible assumption) | (with_reducible rfl) | omega) ?_)))
      (((apply Tr.draw); (kernel_rfl)); (refine tkQ 0 (hB := by exact fun _ h => h) (s := by exact sfQ) (h := ?_)); (refine tkQ 2 (s := by exact Stab.move rfl) (h := ?_)); (refine tkQ 3 (s := by exact Stab.move rfl) (h := ?_)); (refine tkQ 7 (s := by exact sfQ) (h := ?_)); (refine tkQ 9 (s := by exact Stab.move rfl) (h := ?_)); (refine tkQ 10 (s := by exact Stab.move rfl) (h := ?_)); (refine tkQ 16 (s := by exact Stab.move rfl) (h := ?_)); (refine tkQ 17 (s := by exact Stab.move rfl) (h := ?_)); (refine tkQ 1 (s := by exact slQ) (h := ?_)); (refine tkQ 4 (s := by exact sxQ) (h := ?_)); (refine tkQ 8 (s := by exact slQ) (h := ?_)); (refine tkQ 11 (s := by exact sxQ) (h := ?_)); (refine tkQ 18 (s := by exact sxQ) (h := ?_)); (refine tkQ 5 (s := by exact Stab.fieldD rfl (tysOk.get rfl) rfl rfl (tysOk.get rfl) rfl) (h := ?_)); (refine tkQ 12 (s := by exact Stab.fieldD rfl (tysOk.get rfl) rfl rfl (tysOk.get rfl) rfl) (h := ?_)); (refine tkQ 19 (s := by exact Stab.fieldD rfl (tysOk.get rfl) rfl rfl (tysOk.get rfl) rfl) (h := ?_)); (refine tkQ 6 (s := by exact sMQ) (h := ?_)); (refine tkQ 13 (s := by exact sMQ) (h := ?_)); (refine tkQ 20 (s := by exact sMQ) (h := ?_)); (refine tkQ 14 (s := by exact sxQ) (h := ?_)); (refine tkQ 15 (s := by exact Stab.loadO rfl (tysOk.get rfl) rfl (by repeat (first | exact Has.here | apply Has.there)) (by assumption)) (h := ?_)); (refine tkQ 21 (s := by exact Stab.subi rfl rfl (by omega)) (h := ?_)); (refine tkQ 22 (s := by exact sxQ) (h := ?_)); (refine TrA.effD 23 rfl (by kernel_rfl) (by kernel_rfl) (by exact .inl rfl) ?_); (((refine Knd.store ?_); ((refine Exec.storeO rfl rfl (tysOk.get rfl) rfl (by first | rfl | assumption) (by repeat (first | exact Upd.here | apply Upd.there)) (by omega) ?_)))); (refine ⟨_, fun _ h => h, ?_⟩); (refine TrA.done (by kernel_rfl) ?_))
      rw [Int.toNat_natCast u, intV_set]
      (repeat ((with_reducible refine Tr.next ?_)))
      (((apply Tr.draw); (kernel_rfl)); (refine tkQ 0 (hB := by exact fun _ h => h) (s := by exact sfQ) (h := ?_)); (refine tkQ 2 (s := by exact Stab.move rfl) (h := ?_)); (refine tkQ 3 (s := by exact Stab.move rfl) (h := ?_)); (refine tkQ 7 (s := by exact sfQ) (h := ?_)); (refine tkQ 9 (s := by exact Stab.move rfl) (h := ?_)); (refine tkQ 10 (s := by exact Stab.move rfl) (h := ?_)); (refine tkQ 16 (s := by exact Stab.move rfl) (h := ?_)); (refine tkQ 17 (s := by exact Stab.move rfl) (h := ?_)); (refine tkQ 1 (s := by exact slQ) (h := ?_)); (refine tkQ 4 (s := by exact sxQ) (h := ?_)); (refine tkQ 8 (s := by exact slQ) (h := ?_)); (refine tkQ 11 (s := by exact sxQ) (h := ?_)); (refine tkQ 18 (s := by exact sxQ) (h := ?_)); (refine tkQ 5 (s := by exact Stab.fieldD rfl (tysOk.get rfl) rfl rfl (tysOk.get rfl) rfl) (h := ?_)); (refine tkQ 12 (s := by exact Stab.fieldD rfl (tysOk.get rfl) rfl rfl (tysOk.get rfl) rfl) (h := ?_)); (refine tkQ 19 (s := by exact Stab.fieldD rfl (tysOk.get rfl) rfl rfl (tysOk.get rfl) rfl) (h := ?_)); (refine tkQ 6 (s := by exact sMQ) (h := ?_)); (refine tkQ 13 (s := by exact sMQ) (h := ?_)); (refine tkQ 20 (s := by exact sMQ) (h := ?_)); (refine tkQ 14 (s := by exact sxQ) (h := ?_)); (refine tkQ 15 (s := by exact Stab.loadO rfl (tysOk.get rfl) rfl (by repeat (first | exact Has.here | apply Has.there)) (by assumption)) (h := ?_)); (refine tkQ 21 (s := by exact Stab.subi rfl rfl (by omega)) (h := ?_)); (refine tkQ 22 (s := by exact sxQ) (h := ?_)); (refine TrA.effD 23 rfl (by kernel_rfl) (by kernel_rfl) (by exact .inl rfl) ?_); (((refine Knd.store ?_); ((refine Exec.storeO rfl rfl (tysOk.get rfl) rfl (by first | rfl | assumption) (by repeat (first | exact Upd.here | apply Upd.there)) (by omega) ?_)))); (refine ⟨_, fun _ h => h, ?_⟩); (refine TrA.done (by kernel_rfl) ?_))
      rw [Int.toNat_natCast w, intV_set]
      (repeat (first | ((with_reducible refine Tr.step rfl ?_); (first | (refine xmQ (z := ?_)) | (refine xaQ (z := ?_)) | (refine xdQ (z := ?_)))) | (with_reducible first | apply Tr.next | apply Tr.region | apply Tr.nil | apply Tr.in_normal)))
      exact Tr.again (i + 1, { t with am := t.am.set u (a - amt), nd := t.nd.set w (n - amt) }) ⟨by simp only; omega, hstep.symm, ⟨by simp only [List.length_set]; omega, by simp only [List.length_set]; omega⟩, ht3.set (List.mem_of_getElem? ha) hamt2 u, ht4.set (List.mem_of_getElem? hn) hamt2 w⟩ (by simp only; omega) hsQ
    · rw [shipF, if_neg (show ¬ kd = 3 from hk)] at hstep
      (repeat (first | ((with_reducible refine Tr.step rfl ?_); (first | (refine xmQ (z := ?_)) | (refine xaQ (z := ?_)) | (refine xMQ (z := ?_)) | ((with_reducible refine Knd.fieldAddr ?_); (refine Exec.stab rfl (Stab.fieldD rfl (tysOk.get rfl) rfl rfl (tysOk.get rfl) rfl) rfl ?_)) | ((with_reducible refine Knd.binOp ?_); (first | (refine xdQ (z := ?_)) | (refine xiQ (z := ?_)))) | (refine xxQ (z := ?_)))) | (with_reducible first | apply Tr.next | apply Tr.seq | apply Tr.region | apply Tr.nil | apply Tr.skip | apply Tr.block | apply Tr.in_normal) | (refine Tr.cond_t rfl (by first | (with_reducible assumption) | omega) ?_) | (refine Tr.cond_f rfl (by (with_reducible assumption)) ?_)))
      exact Tr.again (i + 1, t) ⟨by simp only; omega, hstep.symm, ⟨ht1, ht2⟩, ht3.next, ht4.next⟩ (by simp only; omega) hsQ
  have ei : j = i := by omega
  subst ei
  (repeat (first | ((with_reducible refine Tr.step rfl ?_); (first | (refine xmQ (z := ?_)) | (refine xaQ (z := ?_)) | (refine xMQ (z := ?_)) | (refine xiQ (z := ?_)) | (refine xxQ (z := ?_)))) | (with_reducible first | apply Tr.next | apply Tr.seq | apply Tr.region | apply Tr.nil | apply Tr.block | apply Tr.exit | apply Tr.then_exit) | ((with_reducible refine Tr.in_exit ?_ ?_); (exact rfl)) | (refine Tr.cond_f rfl (by first | (with_reducible assumption) | omega) ?_)))
  clear hi
  have htd : t.dy = (beginF k).dy := by rw [ht]; exact (ships_eff (l.take j) (beginF k) (fun z hz => by rw [m1, m2]; exact hok z (List.mem_of_mem_take hz))).2.1
  rw [← htd]
  refine Tr.loop (α := Nat × St) (fun y => ⟨191, [(13, .int .i64 (y.1 : Int)), (11, .pointer (some ⟨b11, 0, none⟩)), (5, .pointer (some ⟨b5, 0, none⟩)), (1, .slice A l.length c), (2, .slice Bb s.br.length kb), (3, .int .i64 (q : Int)), (4, .slice Af fs.length cf)], [], M,
      box b11 67 [.slice A1 k.sups.length c1, .slice A2 k.sups.length c2, .slice A3 k.reqs.length c3, .slice A4 k.reqs.length c4] :: ownS 3 1 A3 k.reqs.length c3 (intV t.nd) :: ownS 3 1 A4 k.reqs.length c4 (intV (beginF k).br) :: ownS 3 1 A1 k.sups.length c1 (intV y.2.am) :: ownS 3 1 A2 k.sups.length c2 (intV y.2.dy) :: box b5 27 [v1, v2, v3, v4, v5] :: F⟩)
    (fun y => y.1 ≤ j + 1 ∧ y.2 = ((fsI fs y.1).map fun u => l.getD u zH).foldl lossF t ∧ (y.2.am.length = k.sups.length ∧ y.2.dy.length = k.sups.length ∧ y.2.nd = t.nd) ∧ Rg (j + y.1) y.2.am) (fun y => j + 1 - y.1) (0, t) ⟨Nat.zero_le _, rfl, ⟨ht1, by show t.dy.length = _; rw [htd]; exact m3, rfl⟩, ht3⟩ hsQ (fun y hy => ?_)
  obtain ⟨i, t2⟩ := y
  obtain ⟨hi, he, ⟨he1, he2, he4⟩, he3⟩ := hy
  dsimp only at hi he he1 he2 he3 he4
  dsimp only
  by_cases hlt2 : i < j + 1
  · obtain ⟨h, hh⟩ := get_of_lt (xs := l) (i := i) (by omega)
    obtain ⟨fb, hfb3⟩ := get_of_lt (xs := fs) (i := i) (by omega)
    obtain ⟨hAf, hatf⟩ := Bools.at hfs hfb3
    have hfd := getD_of (d := false) hfb3
    have hsu := fsI_succ fs i
    rw [hfd] at hsu
    obtain ⟨hA, ch, hat, rfl⟩ := hl.elem hh
    cases fb with
    | false =>
      rw [if_neg (by decide), List.append_nil] at hsu
      (repeat (first | ((with_reducible refine Tr.step rfl ?_); (first | (refine xmQ (z := ?_)) | (refine xaQ (z := ?_)) | (refine xMQ (z := ?_)) | ((with_reducible refine Knd.binOp ?_); (first | (refine xdQ (z := ?_)) | (refine xiQ (z := ?_)))) | ((with_reducible refine Knd.pick ?_); (refine Exec.stab rfl (Stab.pick_f rfl (by (with_reducible rfl)) rfl) rfl ?_)) | (refine xxQ (z := ?_)))) | (with_reducible first | apply Tr.next | apply Tr.seq | apply Tr.region | apply Tr.nil) | (refine Tr.guard_s1 rfl rfl rfl (by (with_reducible rfl)) rfl rfl ?_) | (with_reducible first | apply Tr.skip | apply Tr.block | apply Tr.in_normal) | (refine Tr.cond_bf rfl (by (with_reducible rfl)) ?_) | (refine Tr.cond_t rfl (by first | (with_reducible assumption) | omega) ?_)))
      exact Tr.again (i + 1, t2) ⟨by simp only; omega, by show t2 = _; rw [hsu]; exact he, ⟨he1, he2, he4⟩, he3.next⟩ (by simp only; omega) hsQ
    | true =>
    rw [if_pos rfl] at hsu
    have hw3 := (hf3 i hfd).2
    rw [getD_of (d := zH) hh] at hw3
    have hokh := hok h (List.mem_of_getElem? hh)
    have hamth := hamt h (List.mem_of_getElem? hh)
    have hstep : ((fsI fs (i + 1)).map fun u => l.getD u zH).foldl lossF t = lossF t2 h := by
      rw [hsu, List.map_append, List.foldl_append, ← he]
      show lossF t2 (l.getD i zH) = _
      rw [getD_of (d := zH) hh]
    obtain ⟨kd, sup, req, day, amt⟩ := h
    have hat0 := hat.drop 0
    have hat1 := hat.drop 1
    have hat3 := hat.drop 3
    have hat4 := hat.drop 4
    dsimp only [List.drop] at hat0 hat1 hat3 hat4
    obtain ⟨⟨p1, p2⟩, p3⟩ := hokh
    simp only at p1 p2 p3 hamth hw3
    obtain ⟨u, rfl⟩ : ∃ u : Nat, sup = (u : Int) := ⟨sup.toNat, by omega⟩
    obtain ⟨a, ha⟩ := get_of_lt (xs := t2.am) (i := u) (by omega)
    obtain ⟨n, hn⟩ := get_of_lt (xs := t2.dy) (i := u) (by omega)
    have hra := he3 a (List.mem_of_getElem? ha)
    have hav : (intV t2.am)[(u : Int).toNat]? = some (.int .i64 a) := by rw [Int.toNat_natCast]; exact intV_get ha
    have hnv : (intV t2.dy)[(u : Int).toNat]? = some (.int .i64 n) := by rw [Int.toNat_natCast]; exact intV_get hn
    refine Tr.own_some A1 (e := 3) (sz := 1) (m := k.sups.length) (c := c1) (xs := intV t2.am) (by repeat (first | exact Has.here | apply Has.there)) (by omega) (fun hA1 => ?_)
    refine Tr.own_some A2 (e := 3) (sz := 1) (m := k.sups.length) (c := c2) (xs := intV t2.dy) (by repeat (first | exact Has.here | apply Has.there)) (by omega) (fun hA3 => ?_)
    by_cases hk : kd = 1
    · subst hk
      have hamt2 := hamth (by omega)
      rw [lossF_lose ha] at hstep
      (repeat (first | ((with_reducible refine Tr.step rfl ?_); (first | (refine xmQ (z := ?_)) | (refine xMQ (z := ?_)) | (refine xiQ (z := ?_)) | ((with_reducible refine Knd.pick ?_); (refine Exec.stab rfl (Stab.pick_t rfl (by (with_reducible rfl)) rfl) rfl ?_)) | (refine xxQ (z := ?_)))) | (with_reducible first | apply Tr.next | apply Tr.seq | apply Tr.region | apply Tr.nil) | ((refine Tr.guard_l rfl rfl rfl (by (with_reducible rfl)) ?_); (first | (refine xmQ (z := ?_)) | (refine xMQ (z := ?_)) | ((with_reducible refine Knd.fieldAddr ?_); (refine Exec.stab rfl (Stab.fieldD rfl (tysOk.get rfl) rfl rfl (tysOk.get rfl) rfl) rfl ?_)) | (refine xiQ (z := ?_)) | (refine xxQ (z := ?_)))) | (with_reducible first | apply Tr.skip | apply Tr.block) | (refine Tr.cond_t rfl (by first | (with_reducible assumption) | (with_reducible rfl) | omega) ?_)))
      (((apply Tr.draw); (kernel_rfl)); (refine tkQ 0 (hB := by exact fun _ h => h) (s := by exact sfQ) (h := ?_)); (refine tkQ 2 (s := by exact Stab.move rfl) (h := ?_)); (refine tkQ 3 (s := by exact Stab.move rfl) (h := ?_)); (refine tkQ 7 (s := by exact sfQ) (h := ?_)); (refine tkQ 9 (s := by exact Stab.move rfl) (h := ?_)); (refine tkQ 10 (s := by exact Stab.move rfl) (h := ?_)); (refine tkQ 16 (s := by exact Stab.move rfl) (h := ?_)); (refine tkQ 17 (s := by exact Stab.move rfl) (h := ?_)); (refine tkQ 1 (s := by exact slQ) (h := ?_)); (refine tkQ 4 (s := by exact sxQ) (h := ?_)); (refine tkQ 8 (s := by exact slQ) (h := ?_)); (refine tkQ 11 (s := by exact sxQ) (h := ?_)); (refine tkQ 18 (s := by exact sxQ) (h := ?_)); (refine tkQ 5 (s := by exact Stab.fieldD rfl (tysOk.get rfl) rfl rfl (tysOk.get rfl) rfl) (h := ?_)); (refine tkQ 12 (s := by exact Stab.fieldD rfl (tysOk.get rfl) rfl rfl (tysOk.get rfl) rfl) (h := ?_)); (refine tkQ 19 (s := by exact Stab.fieldD rfl (tysOk.get rfl) rfl rfl (tysOk.get rfl) rfl) (h := ?_)); (refine tkQ 6 (s := by exact sMQ) (h := ?_)); (refine tkQ 13 (s := by exact sMQ) (h := ?_)); (refine tkQ 20 (s := by exact sMQ) (h := ?_)); (refine tkQ 14 (s := by exact sxQ) (h := ?_)); (refine tkQ 15 (s := by exact Stab.loadO rfl (tysOk.get rfl) rfl (by repeat (first | exact Has.here | apply Has.there)) (by assumption)) (h := ?_)); (refine tkQ 21 (s := by exact Stab.subi rfl rfl (by omega)) (h := ?_)); (refine tkQ 22 (s := by exact sxQ) (h := ?_)); (refine TrA.effD 23 rfl (by kernel_rfl) (by kernel_rfl) (by exact .inl rfl) ?_); (((refine Knd.store ?_); ((refine Exec.storeO rfl rfl (tysOk.get rfl) rfl (by first | rfl | assumption) (by repeat (first | exact Upd.here | apply Upd.there)) (by omega) ?_)))); (refine ⟨_, fun _ h => h, ?_⟩); (refine TrA.done (by kernel_rfl) ?_))
      rw [Int.toNat_natCast u, intV_set]
      (repeat (first | ((with_reducible refine Tr.step rfl ?_); (first | (refine xmQ (z := ?_)) | (refine xaQ (z := ?_)) | (refine xMQ (z := ?_)) | (refine xdQ (z := ?_)) | ((with_reducible refine Knd.pick ?_); (refine Exec.stab rfl (Stab.pick_t rfl (by (with_reducible rfl)) rfl) rfl ?_)) | (refine xxQ (z := ?_)))) | (with_reducible first | apply Tr.next | apply Tr.seq | apply Tr.region | apply Tr.nil) | ((refine Tr.guard_l rfl rfl rfl (by (with_reducible rfl)) ?_); (first | (refine xmQ (z := ?_)) | (refine xMQ (z := ?_)) | ((with_reducible refine Knd.fieldAddr ?_); (refine Exec.stab rfl (Stab.fieldD rfl (tysOk.get rfl) rfl rfl (tysOk.get rfl) rfl) rfl ?_)) | (refine xiQ (z := ?_)) | (refine xxQ (z := ?_)))) | (with_reducible first | apply Tr.skip | apply Tr.in_normal) | (refine Tr.cond_f rfl (by first | (with_reducible assumption) | omega) ?_)))
      exact Tr.again (i + 1, { t2 with am := t2.am.set u (a - amt) }) ⟨by simp only; omega, hstep.symm, ⟨by simp only [List.length_set]; omega, he2, he4⟩, by have := he3.set (List.mem_of_getElem? ha) hamt2 u; exact this⟩ (by simp only; omega) hsQ
    · have hk2 : kd = 2 := by rcases p3 with o | o | o <;> omega
      rw [lossF_late hk hn] at hstep
      (repeat (first | ((with_reducible refine Tr.step rfl ?_); (first | (refine xmQ (z := ?_)) | (refine xMQ (z := ?_)) | (refine xiQ (z := ?_)) | ((with_reducible refine Knd.pick ?_); (refine Exec.stab rfl (Stab.pick_t rfl (by (with_reducible rfl)) rfl) rfl ?_)) | (refine xxQ (z := ?_)))) | (with_reducible first | apply Tr.next | apply Tr.seq | apply Tr.region | apply Tr.nil) | ((refine Tr.guard_l rfl rfl rfl (by (with_reducible rfl)) ?_); (first | (refine xmQ (z := ?_)) | (refine xMQ (z := ?_)) | ((with_reducible refine Knd.fieldAddr ?_); (refine Exec.stab rfl (Stab.fieldD rfl (tysOk.get rfl) rfl rfl (tysOk.get rfl) rfl) rfl ?_)) | (refine xiQ (z := ?_)) | (refine xxQ (z := ?_)))) | (with_reducible first | apply Tr.skip | apply Tr.block) | (refine Tr.cond_t rfl (by first | (with_reducible assumption) | omega) ?_) | (refine Tr.cond_f rfl (by (with_reducible assumption)) ?_)))
      (((apply Tr.draw); (kernel_rfl)); (refine tkQ 0 (hB := by exact fun _ h => h) (s := by exact sfQ) (h := ?_)); (refine tkQ 2 (s := by exact Stab.move rfl) (h := ?_)); (refine tkQ 3 (s := by exact Stab.move rfl) (h := ?_)); (refine tkQ 7 (s := by exact sfQ) (h := ?_)); (refine tkQ 9 (s := by exact Stab.move rfl) (h := ?_)); (refine tkQ 10 (s := by exact Stab.move rfl) (h := ?_)); (refine tkQ 16 (s := by exact Stab.move rfl) (h := ?_)); (refine tkQ 17 (s := by exact Stab.move rfl) (h := ?_)); (refine tkQ 1 (s := by exact slQ) (h := ?_)); (refine tkQ 4 (s := by exact sxQ) (h := ?_)); (refine tkQ 8 (s := by exact slQ) (h := ?_)); (refine tkQ 11 (s := by exact sxQ) (h := ?_)); (refine tkQ 18 (s := by exact sxQ) (h := ?_)); (refine tkQ 5 (s := by exact Stab.fieldD rfl (tysOk.get rfl) rfl rfl (tysOk.get rfl) rfl) (h := ?_)); (refine tkQ 12 (s := by exact Stab.fieldD rfl (tysOk.get rfl) rfl rfl (tysOk.get rfl) rfl) (h := ?_)); (refine tkQ 19 (s := by exact Stab.fieldD rfl (tysOk.get rfl) rfl rfl (tysOk.get rfl) rfl) (h := ?_)); (refine tkQ 6 (s := by exact sMQ) (h := ?_)); (refine tkQ 13 (s := by exact sMQ) (h := ?_)); (refine tkQ 20 (s := by exact sMQ) (h := ?_)); (refine tkQ 14 (s := by exact sxQ) (h := ?_)); (refine tkQ 15 (s := by exact Stab.loadO rfl (tysOk.get rfl) rfl (by repeat (first | exact Has.here | apply Has.there)) (by assumption)) (h := ?_)); (refine tkQ 21 (s := by exact Stab.max2 rfl rfl) (h := ?_)); (refine tkQ 22 (s := by exact sxQ) (h := ?_)); (refine TrA.effD 23 rfl (by kernel_rfl) (by kernel_rfl) (by exact .inl rfl) ?_); (((refine Knd.store ?_); ((refine Exec.storeO rfl rfl (tysOk.get rfl) rfl (by first | rfl | assumption) (by repeat (first | exact Upd.here | apply Upd.there)) (by omega) ?_)))); (refine ⟨_, fun _ h => h, ?_⟩); (refine TrA.done (by kernel_rfl) ?_))
      rw [Int.toNat_natCast u, intV_set]
      (repeat (first | ((with_reducible refine Tr.step rfl ?_); (first | (refine xmQ (z := ?_)) | (refine xaQ (z := ?_)) | (refine xdQ (z := ?_)))) | (with_reducible first | apply Tr.next | apply Tr.region | apply Tr.nil | apply Tr.in_normal)))
      exact Tr.again (i + 1, { t2 with dy := t2.dy.set u (max n day) }) ⟨by simp only; omega, hstep.symm, ⟨he1, by simp only [List.length_set]; omega, he4⟩, he3.next⟩ (by simp only; omega) hsQ
  have ei : j + 1 = i := by omega
  subst ei
  have hbr0 : (beginF k).br = (brB s.br j).take 0 ++ List.replicate (k.reqs.length - 0) (-1) := by
    rw [List.take_zero, List.nil_append, Nat.sub_zero]
    exact List.map_const' ..
  rw [hbr0]
  clear hl hfs
  (repeat (first | ((with_reducible refine Tr.step rfl ?_); (first | (refine xmQ (z := ?_)) | (refine xaQ (z := ?_)) | (refine xMQ (z := ?_)) | (refine xiQ (z := ?_)) | (refine xxQ (z := ?_)))) | (with_reducible first | apply Tr.next | apply Tr.seq | apply Tr.region | apply Tr.nil | apply Tr.block | apply Tr.exit | apply Tr.then_exit) | ((with_reducible refine Tr.in_exit ?_ ?_); (exact rfl)) | (refine Tr.cond_f rfl (by first | (with_reducible assumption) | omega) ?_)))
  refine Tr.loop (α := Nat) (fun y => ⟨191, [(14, .int .i64 (y : Int)), (11, .pointer (some ⟨b11, 0, none⟩)), (5, .pointer (some ⟨b5, 0, none⟩)), (2, .slice Bb s.br.length kb), (3, .int .i64 (q : Int))], [], M,
      box b11 67 [.slice A1 k.sups.length c1, .slice A2 k.sups.length c2, .slice A3 k.reqs.length c3, .slice A4 k.reqs.length c4] :: ownS 3 1 A3 k.reqs.length c3 (intV t.nd) :: ownS 3 1 A4 k.reqs.length c4 (intV ((brB s.br j).take y ++ List.replicate (k.reqs.length - y) (-1))) :: ownS 3 1 A1 k.sups.length c1 (intV t2.am) :: ownS 3 1 A2 k.sups.length c2 (intV t2.dy) :: box b5 27 [v1, v2, v3, v4, v5] :: F⟩)
    (fun y => y ≤ k.reqs.length) (fun y => k.reqs.length - y) 0 (Nat.zero_le _) hsQ (fun i hi => ?_)
  by_cases hlt3 : i < k.reqs.length
  · obtain ⟨a, ha⟩ := get_of_lt (xs := s.br) (i := i) (by omega)
    obtain ⟨hAb, hatb⟩ := Ints.at q6 ha
    have hnx := brI_next (j := j) n4 ha
    by_cases h0 : 0 ≤ a
    · by_cases hj2 : a < (j : Int)
      · rw [if_pos ⟨h0, hj2⟩] at hnx
        refine Tr.own_some A4 (e := 3) (sz := 1) (m := k.reqs.length) (c := c4) (by repeat (first | exact Has.here | apply Has.there)) (by omega) (fun hA5 => ?_)
        (repeat (first | ((with_reducible refine Tr.step rfl ?_); (first | (refine xmQ (z := ?_)) | (refine xnQ (z := ?_)) | (refine xiQ (z := ?_)))) | (with_reducible first | apply Tr.next | apply Tr.seq | apply Tr.region | apply Tr.nil | apply Tr.skip | apply Tr.block) | (refine Tr.cond_t rfl (by first | (with_reducible assumption) | omega) ?_)))
        (((apply Tr.draw); (kernel_rfl)); (refine tkQ 0 (hB := by exact fun _ h => h) (s := by exact Stab.move rfl) (h := ?_)); (refine tkQ 1 (s := by exact Stab.move rfl) (h := ?_)); (refine tkQ 2 (s := by exact sxQ) (h := ?_)); (refine tkQ 3 (s := by exact sMQ) (h := ?_)); (refine tkQ 4 (s := by exact siQ) (h := ?_)); (refine tkQ 5 (s := by exact Stab.move rfl) (h := ?_)); ((refine tgQ 6 (q := (decide_eq_true (by (with_reducible assumption)))) (s := by exact Stab.move rfl) (h := ?_))); ((refine tgQ 7 (q := (decide_eq_true (by (with_reducible assumption)))) (s := by exact Stab.move rfl) (h := ?_))); ((refine tgQ 10 (q := (decide_eq_true (by (with_reducible assumption)))) (s := by exact Stab.move rfl) (h := ?_))); ((refine tgQ 11 (q := (decide_eq_true (by (with_reducible assumption)))) (s := by exact Stab.move rfl) (h := ?_))); ((refine tgQ 8 (q := (decide_eq_true (by (with_reducible assumption)))) (s := by exact sxQ) (h := ?_))); ((refine tgQ 12 (q := (decide_eq_true (by (with_reducible assumption)))) (s := by exact sxQ) (h := ?_))); ((refine tgQ 9 (q := (decide_eq_true (by (with_reducible assumption)))) (s := by exact sMQ) (h := ?_))); ((refine tgQ 13 (q := (decide_eq_true (by (with_reducible assumption)))) (s := by exact sMQ) (h := ?_))); ((refine tgQ 14 (q := (decide_eq_true (by (with_reducible assumption)))) (s := by exact siQ) (h := ?_))); (refine tkQ 15 (s := by exact Stab.pick_td rfl (by (with_reducible assumption)) rfl) (h := ?_)); (refine TrA.done (by kernel_rfl) ?_))
        (repeat (first | (with_reducible refine Tr.next ?_) | (refine Tr.cond_t rfl (by (with_reducible assumption)) ?_)))
        (((apply Tr.draw); (kernel_rfl)); (refine tkQ 0 (hB := by exact fun _ h => h) (s := by exact sfQ) (h := ?_)); (refine tkQ 2 (s := by exact Stab.move rfl) (h := ?_)); (refine tkQ 3 (s := by exact Stab.move rfl) (h := ?_)); (refine tkQ 4 (s := by exact Stab.move rfl) (h := ?_)); (refine tkQ 1 (s := by exact slQ) (h := ?_)); (refine tkQ 5 (s := by exact sxQ) (h := ?_)); (refine tkQ 6 (s := by exact sMQ) (h := ?_)); (refine tkQ 7 (s := by exact sxQ) (h := ?_)); (refine TrA.effD 8 rfl (by kernel_rfl) (by kernel_rfl) (by exact .inl rfl) ?_); (((refine Knd.store ?_); ((refine Exec.storeO rfl rfl (tysOk.get rfl) rfl (by first | rfl | assumption) (by repeat (first | exact Upd.here | apply Upd.there)) (by omega) ?_)))); (refine ⟨_, fun _ h => h, ?_⟩); (refine TrA.done (by kernel_rfl) ?_))
        rw [Int.toNat_natCast i, intV_set, hnx]
        (repeat (first | ((with_reducible refine Tr.step rfl ?_); (first | (refine xmQ (z := ?_)) | (refine xaQ (z := ?_)) | (refine xdQ (z := ?_)))) | (with_reducible first | apply Tr.next | apply Tr.region | apply Tr.nil | apply Tr.in_normal)))
        exact Tr.again (i + 1) (by omega) (by omega) hsQ
      · rw [if_neg (fun h => hj2 h.2)] at hnx
        have hsame : ((brB s.br j).take i ++ List.replicate (k.reqs.length - i) (-1 : Int)) = (brB s.br j).take (i + 1) ++ List.replicate (k.reqs.length - (i + 1)) (-1) := by
          rw [← hnx, set_same (by rw [List.getElem?_append_right (by rw [List.length_take, brB_length]; omega), List.length_take, brB_length, Nat.min_eq_left (by omega), Nat.sub_self, List.getElem?_replicate, if_pos (by omega)])]
        rw [hsame]
        (repeat (first | ((with_reducible refine Tr.step rfl ?_); (first | (refine xmQ (z := ?_)) | (refine xnQ (z := ?_)) | (refine xiQ (z := ?_)))) | (with_reducible first | apply Tr.next | apply Tr.seq | apply Tr.region | apply Tr.nil | apply Tr.skip | apply Tr.block) | (refine Tr.cond_t rfl (by first | (with_reducible assumption) | omega) ?_)))
        (((apply Tr.draw); (kernel_rfl)); (refine tkQ 0 (hB := by exact fun _ h => h) (s := by exact Stab.move rfl) (h := ?_)); (refine tkQ 1 (s := by exact Stab.move rfl) (h := ?_)); (refine tkQ 2 (s := by exact sxQ) (h := ?_)); (refine tkQ 3 (s := by exact sMQ) (h := ?_)); (refine tkQ 4 (s := by exact siQ) (h := ?_)); (refine tkQ 5 (s := by exact Stab.move rfl) (h := ?_)); ((refine tgQ 6 (q := (decide_eq_true (by (with_reducible assumption)))) (s := by exact Stab.move rfl) (h := ?_))); ((refine tgQ 7 (q := (decide_eq_true (by (with_reducible assumption)))) (s := by exact Stab.move rfl) (h := ?_))); ((refine tgQ 10 (q := (decide_eq_true (by (with_reducible assumption)))) (s := by exact Stab.move rfl) (h := ?_))); ((refine tgQ 11 (q := (decide_eq_true (by (with_reducible assumption)))) (s := by exact Stab.move rfl) (h := ?_))); ((refine tgQ 8 (q := (decide_eq_true (by (with_reducible assumption)))) (s := by exact sxQ) (h := ?_))); ((refine tgQ 12 (q := (decide_eq_true (by (with_reducible assumption)))) (s := by exact sxQ) (h := ?_))); ((refine tgQ 9 (q := (decide_eq_true (by (with_reducible assumption)))) (s := by exact sMQ) (h := ?_))); ((refine tgQ 13 (q := (decide_eq_true (by (with_reducible assumption)))) (s := by exact sMQ) (h := ?_))); ((refine tgQ 14 (q := (decide_eq_true (by (with_reducible assumption)))) (s := by exact siQ) (h := ?_))); (refine tkQ 15 (s := by exact Stab.pick_td rfl (by (with_reducible assumption)) rfl) (h := ?_)); (refine TrA.done (by kernel_rfl) ?_))
        (repeat (first | ((with_reducible refine Tr.step rfl ?_); (first | (refine xmQ (z := ?_)) | (refine xaQ (z := ?_)) | (refine xdQ (z := ?_)))) | (with_reducible first | apply Tr.next | apply Tr.region | apply Tr.nil | apply Tr.skip | apply Tr.in_normal) | (refine Tr.cond_f rfl (by (with_reducible assumption)) ?_)))
        exact Tr.again (i + 1) (by omega) (by omega) hsQ
    · rw [if_neg (fun h => h0 h.1)] at hnx
      have hsame : ((brB s.br j).take i ++ List.replicate (k.reqs.length - i) (-1 : Int)) = (brB s.br j).take (i + 1) ++ List.replicate (k.reqs.length - (i + 1)) (-1) := by
        rw [← hnx, set_same (by rw [List.getElem?_append_right (by rw [List.length_take, brB_length]; omega), List.length_take, brB_length, Nat.min_eq_left (by omega), Nat.sub_self, List.getElem?_replicate, if_pos (by omega)])]
      rw [hsame]
      (repeat (first | ((with_reducible refine Tr.step rfl ?_); (first | (refine xmQ (z := ?_)) | (refine xnQ (z := ?_)) | (refine xiQ (z := ?_)))) | (with_reducible first | apply Tr.next | apply Tr.seq | apply Tr.region | apply Tr.nil | apply Tr.skip | apply Tr.block) | (refine Tr.cond_t rfl (by first | (with_reducible assumption) | omega) ?_)))
      (((apply Tr.draw); (kernel_rfl)); (refine tkQ 0 (hB := by exact fun _ h => h) (s := by exact Stab.move rfl) (h := ?_)); (refine tkQ 1 (s := by exact Stab.move rfl) (h := ?_)); (refine tkQ 2 (s := by exact sxQ) (h := ?_)); (refine tkQ 3 (s := by exact sMQ) (h := ?_)); (refine tkQ 4 (s := by exact siQ) (h := ?_)); (refine tkQ 5 (s := by exact Stab.move rfl) (h := ?_)); ((refine tuQ 6 (h := ?_))); ((refine tuQ 7 (h := ?_))); ((refine tuQ 10 (h := ?_))); ((refine tuQ 11 (h := ?_))); ((refine tuQ 8 (h := ?_))); ((refine tuQ 12 (h := ?_))); ((refine tuQ 9 (h := ?_))); ((refine tuQ 13 (h := ?_))); ((refine tuQ 14 (h := ?_))); (refine tkQ 15 (s := by exact Stab.pick_fd rfl (by (with_reducible assumption)) rfl) (h := ?_)); (refine TrA.done (by kernel_rfl) ?_))
      (repeat (first | ((with_reducible refine Tr.step rfl ?_); (first | (refine xmQ (z := ?_)) | (refine xaQ (z := ?_)) | (refine xdQ (z := ?_)))) | (with_reducible first | apply Tr.next | apply Tr.region | apply Tr.nil | apply Tr.skip | apply Tr.in_normal) | (refine Tr.cond_bf rfl (by (with_reducible rfl)) ?_)))
      exact Tr.again (i + 1) (by omega) (by omega) hsQ
  have ei : k.reqs.length = i := by omega
  subst ei
  rw [Nat.sub_self, List.replicate_zero, List.append_nil, List.take_of_length_le (by rw [brB_length]; omega)]
  refine pbQ (r := ownS 3 1 A3 _ _ _) (k := fun M1 hm1 ok1 => ?_)
  have i1 := Ints.ofOwn ok1 ht2.symm hc3
  refine pbQ (r := ownS 3 1 A4 _ _ _) (k := fun M3 hm3 ok3 => ?_)
  have i3 := Ints.ofOwn ok3 (by rw [brB_length]; omega) hc4
  refine pbQ (r := ownS 3 1 A1 _ _ _) (k := fun M4 hm4 ok4 => ?_)
  have i4 := Ints.ofOwn ok4 he1.symm hc1
  refine pbQ (r := ownS 3 1 A2 _ _ _) (k := fun M5 hm5 ok5 => ?_)
  have i5 := Ints.ofOwn ok5 he2.symm hc2
  have m45 := hm4.trans hm5
  have m35 := hm3.trans m45
  have hlast := hm1.trans m35
  have hw : withF k l s.br j (fsI fs (j + 1)) = { t2 with br := brB s.br j } := by rw [withF, he, ht]
  rw [hw] at hwf ⊢
  clear ok1 ok3 ok4 ok5
  have hS : RSr M5 (.agg #[.slice A1 k.sups.length c1, .slice A2 k.sups.length c2, .slice A3 k.reqs.length c3, .slice A4 k.reqs.length c4]) { t2 with br := brB s.br j } := by
    refine ⟨A1, c1, A2, c2, A3, c3, A4, c4, ?_, i4.mono RI.mono hm5, i5, ?_, i3.mono RI.mono m45⟩
    · show _ = Value.agg #[.slice _ t2.am.length _, .slice _ t2.dy.length _, .slice _ t2.nd.length _, .slice _ (brB s.br j).length _]
      rw [he1, he2, he4, ht2, brB_length, n4]
    · show Ints M5 (.slice A3 t2.nd.length c3) t2.nd
      rw [he4]
      exact i1.mono RI.mono m35
  have hndl : t2.nd.length = k.reqs.length := by rw [he4]; exact ht2
  have hfa := rfail_fn M5 _ _ k { t2 with br := brB s.br j } (hB0.mono hlast) hS hwf he2 hndl (by show t2.nd.length ≤ 6; omega)
  rw [show ({ t2 with br := brB s.br j } : St).nd.length = k.reqs.length from hndl] at hfa
  (repeat (first | ((with_reducible refine Tr.step rfl ?_); (first | (refine xmQ (z := ?_)) | (refine xwQ (z := ?_)) | (refine xnQ (z := ?_)) | (refine xiQ (z := ?_)))) | (with_reducible first | apply Tr.next | apply Tr.seq | apply Tr.region | apply Tr.nil | apply Tr.exit | apply Tr.then_exit) | ((with_reducible refine Tr.in_exit ?_ ?_); (exact rfl)) | (refine Tr.cond_f rfl (by first | (with_reducible assumption) | omega) ?_)))
  ((refine Tr.step rfl ?_)); refine Exec.call0 rfl (hfa) rfl ?_
  rintro _ M6 hm6 ⟨A9, c9, rfl, hL⟩
  have hget := flg_get (l := failF (fxB k) { t2 with br := brB s.br j } k.reqs.length) hq
  obtain ⟨hA9, hat9⟩ := Bools.at hL hget
  have hlast2 := hlast.trans hm6
  (repeat (first | ((with_reducible refine Tr.step rfl ?_); (first | (refine xmQ (z := ?_)) | (refine xaQ (z := ?_)) | (refine xMQ (z := ?_)) | (refine xxQ (z := ?_)))) | (with_reducible first | apply Tr.next | apply Tr.nil | apply Tr.ret)))
  (refine dnQ (hL := by exact ⟨[_, _], rfl⟩) (k := ⟨rfl, ?_⟩))
  refine ⟨_, rfl, ?_⟩
  rw [decide_eq_true_iff]
  unfold failF
  rw [mem_failL, mem_failL]
  constructor
  · rintro ⟨f1, f2, f3⟩
    refine ⟨by omega, f2, ?_⟩
    rw [acc_stay hq] at f3
    exact f3
  · rintro ⟨f1, f2, f3⟩
    refine ⟨hq, f2, ?_⟩
    rw [acc_stay hq]
    exact f3
end Go.Proofs.Ytgnipfjjkliibaa

/-
  Honour, the reference: Broken.
  Conditions: none.
-/
namespace Go.Proofs.Ytgnipfjjkliibaa
open Go Bf
theorem getD_setB (l : List Bool) (i k : Nat) (v : Bool) (h : i < l.length) : (l.set i v).getD k false = if k = i then v else l.getD k false := by
  rw [List.getD_eq_getElem?_getD, List.getD_eq_getElem?_getD]
  by_cases e : k = i
  · subst e; rw [if_pos rfl, List.getElem?_set_self h]; rfl
  · rw [if_neg e, List.getElem?_set_ne (by omega)]
theorem fsI_set {fs : List Bool} {t m : Nat} (h : t < fs.length) (hm : m ≤ t) (v : Bool) : fsI (fs.set t v) m = fsI fs m := by
  unfold fsI
  apply List.filter_congr
  intro x hx
  rw [getD_setB _ _ _ _ h, if_neg (by have := List.mem_range.1 hx; omega)]
theorem fsI_erase {fs : List Bool} {t : Nat} (h : t < fs.length) (ht : fs.getD t false = true) : ∀ n, t < n → (fsI fs n).eraseIdx (fsI fs t).length = fsI (fs.set t false) n
  | 0, hn => by omega
  | n + 1, hn => by
    by_cases e : t = n
    · subst e
      rw [fsI_succ, fsI_succ, ht, if_pos rfl, getD_setB _ _ _ _ h, if_pos rfl, if_neg (by decide), List.append_nil, fsI_set h (Nat.le_refl _), List.eraseIdx_append_of_length_le (Nat.le_refl _), Nat.sub_self]
      simp
    · have ih := fsI_erase h ht n (by omega)
      have hlt : (fsI fs t).length < (fsI fs n).length := by
        have hm : t ∈ fsI fs n := fsI_mem.2 ⟨by omega, ht⟩
        have : (fsI fs (t + 1)).length ≤ (fsI fs n).length := by
          have hs : (fsI fs (t + 1)).Sublist (fsI fs n) := (sub_le (List.Sublist.refl (List.range (t + 1))) (show t + 1 ≤ n by omega)).filter _
          exact hs.length_le
        rw [fsI_succ, ht, if_pos rfl, List.length_append, List.length_singleton] at this
        omega
      have eg : (fs.set t false).getD n false = fs.getD n false := by rw [getD_setB _ _ _ _ h, if_neg (by omega)]
      rw [fsI_succ fs n, fsI_succ (fs.set t false) n, List.eraseIdx_append_of_lt_length hlt, ih, eg]
theorem fsI_end {fs : List Bool} {j : Nat} (h : ∀ t, fs.getD t false = true → t ≤ j) : ∀ n, j + 1 ≤ n → fsI fs n = fsI fs (j + 1)
  | 0, hn => by omega
  | n + 1, hn => by
    by_cases e : n = j
    · subst e; rfl
    · rw [fsI_succ, if_neg (fun hc => by have := h n hc; omega), List.append_nil]
      exact fsI_end h n (by omega)
/-- what is marked at first, up to a place -/
def fs0 (l : List Hp) (n y : Nat) : List Bool := (List.range n).map fun t => decide (t < y ∧ (l.getD t zH).kind ≠ 3)
theorem fs0_length (l : List Hp) (n y : Nat) : (fs0 l n y).length = n := by simp [fs0]
theorem fs0_get {l : List Hp} {n y t : Nat} : (fs0 l n y).getD t false = decide (t < n ∧ t < y ∧ (l.getD t zH).kind ≠ 3) := by
  by_cases h : t < n
  · have e : (fs0 l n y)[t]? = some (decide (t < y ∧ (l.getD t zH).kind ≠ 3)) := by simp only [fs0, List.getElem?_map, List.getElem?_range h, Option.map_some]
    rw [getD_of e]
    by_cases c : t < y ∧ (l.getD t zH).kind ≠ 3
    · rw [decide_eq_true c, decide_eq_true ⟨h, c⟩]
    · rw [decide_eq_false c, decide_eq_false (fun d => c d.2)]
  · rw [List.getD_eq_getElem?_getD, List.getElem?_eq_none (by rw [fs0_length]; omega), decide_eq_false (fun d => h d.1)]; rfl
theorem fs0_zero (l : List Hp) (n : Nat) : List.replicate n (Value.bool false) = boV (fs0 l n 0) := by
  apply List.ext_getElem (by simp [boV, fs0])
  intro i h1 h2
  simp [boV, fs0]
theorem fs0_next {l : List Hp} {n y : Nat} (hy : y < n) : (fs0 l n y).set y (decide ((l.getD y zH).kind ≠ 3)) = fs0 l n (y + 1) := by
  apply List.ext_getElem (by simp [fs0])
  intro i h1 h2
  rw [List.getElem_set]
  simp only [fs0, List.getElem_map, List.getElem_range]
  by_cases e : y = i
  · subst e
    rw [if_pos rfl]
    by_cases c : (l.getD y zH).kind ≠ 3
    · rw [decide_eq_true c, decide_eq_true ⟨by omega, c⟩]
    · rw [decide_eq_false c, decide_eq_false (fun d => c d.2)]
  · rw [if_neg e]
    by_cases c : i < y ∧ (l.getD i zH).kind ≠ 3
    · rw [decide_eq_true c, decide_eq_true ⟨by omega, c.2⟩]
    · rw [decide_eq_false c, decide_eq_false (fun d => c ⟨by omega, d.2⟩)]
theorem fs0_notShip {l : List Hp} {n j : Nat} (h : j < n) : fsI (fs0 l n (j + 1)) (j + 1) = notShip l (j + 1) := by
  unfold fsI notShip
  apply List.filter_congr
  intro t ht
  have := List.mem_range.1 ht
  rw [fs0_get]
  by_cases c : (l.getD t zH).kind ≠ 3
  · rw [decide_eq_true c, decide_eq_true ⟨by omega, by omega, c⟩]
  · rw [decide_eq_false c, decide_eq_false (fun d => c d.2.2)]
theorem set_back {fs : List Bool} {t : Nat} (h : fs[t]? = some true) : (fs.set t false).set t true = fs := by
  rw [List.set_set]
  apply List.ext_getElem?
  intro i
  by_cases e : i = t
  · subst e; rw [List.getElem?_set_self (List.getElem?_eq_some_iff.1 h).1, h]
  · rw [List.getElem?_set_ne (by omega)]
attribute [local irreducible] Tr Exec Stab HasTy Go.Addr.add IntKind.wrap
set_option maxHeartbeats 32000000 in
theorem rBroken_fn (M : Mem) (v : Value) (k : Bk) (hB : RBk M v k) (h5 : k.sups.length ≤ 5 ∧ k.reqs.length ≤ 5) (A : Option Addr) (c : Nat) (l : List Hp) (hl : SlOf 5 RHp M (.slice A l.length c) l) (hll : l.length ≤ 8) :
    Fn0 Try.prog 14 [v, .slice A l.length c] M (fun r M' => ∃ A9 c9, r = .tuple #[.slice A9 (brokenF k l).1.length c9, .int .i64 (brokenF k l).2] ∧ SlOf 2 RBr M' (.slice A9 (brokenF k l).1.length c9) (brokenF k l).1) := by
  have hB0 := hB
  have hrf := rrun_fn M v k hB h5 A c l hl
  obtain ⟨v1, v2, v3, v4, v5, rfl, o1, o2, o3, o4, o5⟩ := hB.open5
  refine Fn.intro Try.func14 rfl rfl Try.ntmps14 rfl fun E F => ?_
  (repeat (first | ((with_reducible refine Tr.step rfl ?_); (first | (refine xmQ (z := ?_)) | (refine xaQ (z := ?_)) | (refine xwQ (z := ?_)) | ((with_reducible refine Knd.box ?_); (refine Exec.box rfl rfl (fun b => ?_))))) | (with_reducible first | apply Tr.next | apply Tr.seq | apply Tr.region | apply Tr.nil)))
  generalize b = b2
  ((refine Tr.step rfl ?_)); refine Exec.call0 rfl (hrf) rfl ?_
  rintro _ M1 hm1 ⟨w, s, ok, rfl, hS, ok1, ok2⟩
  clear hrf
  obtain ⟨Ba, ba, Bd, bd, Bn, bn, Bb, kb, rfl, q1, q2, q3, q4⟩ := hS
  cases ok with
  | false =>
    have e1 : brokenF k l = ([], 330) := by rw [brokenF, ok2 rfl]
    rw [e1]
    (repeat (first | ((with_reducible refine Tr.step rfl ?_); (first | (refine xmQ (z := ?_)) | (refine xaQ (z := ?_)) | ((with_reducible refine Knd.unOp ?_); (refine Exec.stab rfl (Stab.not rfl) rfl ?_)) | (refine xWQ (z := ?_)) | ((with_reducible refine Knd.alloc ?_); (refine Exec.alloc (tysOk.get rfl) rfl rfl (fun b => ?_))) | ((with_reducible refine Knd.extract ?_); (refine Exec.stab rfl (Stab.extract rfl rfl) rfl ?_)))) | (with_reducible first | apply Tr.next | apply Tr.seq | apply Tr.region | apply Tr.nil | apply Tr.ret | apply Tr.then_ret) | (refine Tr.cond_bt rfl (by first | (with_reducible rfl) | (with_reducible exact Bool.not_false)) ?_)))
    (refine dnQ (hL := by exact ⟨[_, _], rfl⟩) (k := ⟨rfl, ?_⟩))
    exact ⟨none, 0, rfl, SlOf.nil _ _ _⟩
  | true =>
  have hrun := ok1 rfl
  have e1 : brokenF k l = (brkF k l s, 0) := by rw [brokenF, hrun]
  rw [e1]
  clear ok1 ok2 e1 q1 q2 q3
  obtain ⟨n1, n2, n3, n4⟩ := run_len hrun
  have hl1 := hl.mono RHp.mono hm1
  have hB1 := hB0.mono hm1
  (repeat (first | ((with_reducible refine Tr.step rfl ?_); (first | (refine xmQ (z := ?_)) | (refine xaQ (z := ?_)) | ((with_reducible refine Knd.unOp ?_); (refine Exec.stab rfl (Stab.not rfl) rfl ?_)) | (refine xWQ (z := ?_)) | ((with_reducible refine Knd.alloc ?_); (refine Exec.alloc (tysOk.get rfl) rfl rfl (fun b => ?_))) | ((with_reducible refine Knd.extract ?_); (refine Exec.stab rfl (Stab.extract rfl rfl) rfl ?_)) | ((with_reducible refine Knd.buildSlice ?_); (refine Exec.buildSlice (tysOk.get rfl) rfl (tysOk.get rfl) rfl rfl rfl rfl rfl (by repeat (exact BuildP.nil)) rfl (fun b => ?_))))) | (with_reducible first | apply Tr.next | apply Tr.seq | apply Tr.region | apply Tr.nil | apply Tr.skip | apply Tr.block) | (refine Tr.cond_bf rfl (by first | (with_reducible rfl) | (with_reducible exact Bool.not_true)) ?_)))
  rename_i b6
  refine Tr.box_own 2 0 (by repeat (first | exact Upd.here | apply Upd.there)) rfl (by intro u hu; cases hu) (by simp [maxLen]) ?_
  generalize b = bx
  refine Tr.loop (α := Nat × Mem × Option Addr × Nat × List Value) (fun y => ⟨108, [(9, .int .i64 (y.1 : Int)), (8, .slice y.2.2.1 (brkN k l s y.1).length y.2.2.2.1), (6, .pointer (some ⟨b6, 0, none⟩)), (2, .pointer (some ⟨b2, 0, none⟩)), (1, .slice A l.length c)], [], y.2.1,
      ownS 52 2 y.2.2.1 (brkN k l s y.1).length y.2.2.2.1 y.2.2.2.2 :: box b6 67 [.slice Ba s.am.length ba, .slice Bd s.dy.length bd, .slice Bn s.nd.length bn, .slice Bb s.br.length kb] :: box b2 27 [v1, v2, v3, v4, v5] :: ([] ++ F)⟩)
    (fun y => y.1 ≤ s.br.length ∧ Mem.le M1 y.2.1 ∧ y.2.2.2.1 ≤ 9223372036854775807 ∧ Elems 2 RBr y.2.1 y.2.2.2.2 (brkN k l s y.1)) (fun y => s.br.length - y.1) (0, M1, some ⟨bx, 0, none⟩, 0, []) ⟨Nat.zero_le _, Mem.le.refl _, by show (0 : Nat) ≤ _; omega, Elems.nil⟩ hsQ (fun y hy => ?_)
  obtain ⟨i, M2, A1, c1, cells⟩ := y
  obtain ⟨hi, hm2, hc1, hel⟩ := hy
  dsimp only at hi hm2 hc1 hel
  dsimp only
  have hbl := brkN_len k l s i
  by_cases hlt : i < s.br.length
  rotate_left
  · have ei : s.br.length = i := by omega
    subst ei
    refine pbQ (r := ownS 52 2 A1 _ _ _) (k := fun M3 hm3 ok3 => ?_)
    have i3 := SlOf.ofOwn ok3 rfl hc1 (hel.mono RBr.mono hm3)
    have hlast := hm1.trans (hm2.trans hm3)
    (repeat (first | ((with_reducible refine Tr.step rfl ?_); (first | (refine xmQ (z := ?_)) | (refine xaQ (z := ?_)) | (refine xlQ (z := ?_)) | (refine xfQ (z := ?_)) | (refine xnQ (z := ?_)) | (refine xiQ (z := ?_)))) | (with_reducible first | apply Tr.next | apply Tr.seq | apply Tr.region | apply Tr.nil | apply Tr.exit | apply Tr.ret | apply Tr.then_exit) | ((with_reducible refine Tr.in_exit ?_ ?_); (exact rfl)) | (refine Tr.cond_f rfl (by first | (with_reducible assumption) | omega) ?_)))
    (refine dnQ (hL := by exact ⟨[_, _], rfl⟩) (k := ⟨rfl, ?_⟩))
    exact ⟨A1, c1, rfl, i3⟩
  obtain ⟨z, hz⟩ := get_of_lt (xs := s.br) (i := i) hlt
  have hnx := brkN_succ k l s i
  have hzd := getD_of (d := (0 : Int)) hz
  have q42 := q4.mono RI.mono hm2
  obtain ⟨hAb, hatb⟩ := Ints.at q42 hz
  rw [hzd] at hnx
  by_cases h0 : 0 ≤ z
  rotate_left
  · rw [if_neg h0, List.append_nil] at hnx
    rw [← hnx]
    (repeat (first | ((with_reducible refine Tr.step rfl ?_); (first | (refine xmQ (z := ?_)) | (refine xaQ (z := ?_)) | ((with_reducible refine Knd.load ?_); (first | (refine xlQ (z := ?_)) | (refine xMQ (z := ?_)))) | (refine xfQ (z := ?_)) | (refine xnQ (z := ?_)) | ((with_reducible refine Knd.binOp ?_); (first | (refine xdQ (z := ?_)) | (refine xiQ (z := ?_)))) | (refine xxQ (z := ?_)))) | (with_reducible first | apply Tr.next | apply Tr.seq | apply Tr.region | apply Tr.nil | apply Tr.skip | apply Tr.block | apply Tr.exit | apply Tr.then_exit) | ((with_reducible refine Tr.in_exit ?_ ?_); (exact rfl)) | (refine Tr.cond_t rfl (by first | (with_reducible assumption) | omega) ?_)))
    exact Tr.again (i + 1, M2, A1, c1, cells) ⟨by simp only; omega, hm2, hc1, by rw [hnx]; exact hel⟩ (by simp only; omega) hsQ
  rw [if_pos h0] at hnx
  obtain ⟨j, hjl, hj, hj3⟩ : ∃ j, j < l.length ∧ s.br.getD i 0 = (j : Int) ∧ (l.getD j zH).kind ≠ 3 := by
    rcases run_brk hrun (q := i) (by omega) with e | e
    · omega
    · exact e
  obtain rfl : z = (j : Int) := by rw [hzd] at hj; exact hj
  have hbec : becF k l s.br i = becL k l s.br j i (notShip l (j + 1)).length (notShip l (j + 1)) := by rw [becF, hj]; rfl
  have hl2 := hl1.mono RHp.mono hm2
  have hB2 := hB1.mono hm2
  (repeat (first | ((with_reducible refine Tr.step rfl ?_); (first | (refine xmQ (z := ?_)) | (refine xaQ (z := ?_)) | ((with_reducible refine Knd.load ?_); (first | (refine xlQ (z := ?_)) | (refine xMQ (z := ?_)))) | (refine xfQ (z := ?_)) | (refine xnQ (z := ?_)) | (refine xiQ (z := ?_)) | (refine xxQ (z := ?_)) | ((with_reducible refine Knd.makeSlice ?_); (refine Exec.make rfl rfl (tysOk.get rfl) rfl (tysOk.get rfl) rfl rfl rfl (by omega) (by omega) (by first | omega | (simp; done) | (simp; omega)) (by omega) rfl (fun b => ?_))))) | (with_reducible first | apply Tr.next | apply Tr.seq | apply Tr.region | apply Tr.nil | apply Tr.skip | apply Tr.block) | (refine Tr.cond_t rfl (by first | (with_reducible assumption) | omega) ?_) | (refine Tr.cond_f rfl (by first | (with_reducible assumption) | omega) ?_)))
  simp only [Int.toNat_natCast]
  generalize b = bs
  rw [fs0_zero l l.length]
  refine Tr.loop (α := Nat) (fun y => ⟨108, [(11, .int .i64 (y : Int)), (10, .slice (some ⟨bs, 0, none⟩) l.length l.length), (9, .int .i64 (i : Int)), (8, .slice A1 (brkN k l s i).length c1), (6, .pointer (some ⟨b6, 0, none⟩)), (2, .pointer (some ⟨b2, 0, none⟩)), (1, .slice A l.length c)], [], M2,
      box bs 4 (boV (fs0 l l.length y)) :: ownS 52 2 A1 (brkN k l s i).length c1 cells :: box b6 67 [.slice Ba s.am.length ba, .slice Bd s.dy.length bd, .slice Bn s.nd.length bn, .slice Bb s.br.length kb] :: box b2 27 [v1, v2, v3, v4, v5] :: ([] ++ F)⟩)
    (fun y => y ≤ j + 1) (fun y => j + 1 - y) 0 (Nat.zero_le _) hsQ (fun y hy => ?_)
  by_cases hlt2 : y < j + 1
  · obtain ⟨h, hh⟩ := get_of_lt (xs := l) (i := y) (by omega)
    obtain ⟨hA, ch, hat, rfl⟩ := hl2.elem hh
    have hat0 := hat.drop 0
    dsimp only [List.drop] at hat0
    have hnext := fs0_next (l := l) (n := l.length) (y := y) (by omega)
    rw [getD_of (d := zH) hh] at hnext
    have hlen2 : (boV (fs0 l l.length y)).length = l.length := by rw [boV_length, fs0_length]
    (repeat (first | ((with_reducible refine Tr.step rfl ?_); (first | (refine xmQ (z := ?_)) | (refine xaQ (z := ?_)) | ((with_reducible refine Knd.load ?_); (first | (refine xlQ (z := ?_)) | (refine xMQ (z := ?_)))) | ((with_reducible refine Knd.fieldAddr ?_); (first | (refine xfQ (z := ?_)) | (refine Exec.stab rfl (Stab.fieldD rfl (tysOk.get rfl) rfl rfl (tysOk.get rfl) rfl) rfl ?_))) | ((with_reducible refine Knd.binOp ?_); (first | (refine xdQ (z := ?_)) | (refine xiQ (z := ?_)))) | ((with_reducible refine Knd.store ?_); (refine Exec.storeS rfl rfl (tysOk.get rfl) rfl (by first | rfl | assumption) (by repeat (first | exact Upd.here | apply Upd.there)) (by omega) ?_)) | ((with_reducible refine Knd.indexAddr ?_); (first | (refine Exec.stab rfl (Stab.indexB0 rfl rfl (tysOk.get rfl) rfl (tysOk.get rfl) rfl (by omega) (by omega)) rfl ?_) | (refine xxQ (z := ?_)))))) | (with_reducible first | apply Tr.next | apply Tr.seq | apply Tr.region | apply Tr.nil | apply Tr.skip | apply Tr.block | apply Tr.in_normal) | (refine Tr.cond_t rfl (by first | (with_reducible assumption) | omega) ?_)))
    rw [Int.toNat_natCast y, boV_set, hnext]
    exact Tr.again (y + 1) (by omega) (by omega) hsQ
  have ey : j + 1 = y := by omega
  subst ey
  clear hy hlt2
  (repeat (first | ((with_reducible refine Tr.step rfl ?_); (first | (refine xmQ (z := ?_)) | (refine xaQ (z := ?_)) | ((with_reducible refine Knd.load ?_); (first | (refine xlQ (z := ?_)) | (refine xMQ (z := ?_)))) | (refine xfQ (z := ?_)) | (refine xiQ (z := ?_)) | (refine xxQ (z := ?_)))) | (with_reducible first | apply Tr.next | apply Tr.seq | apply Tr.region | apply Tr.nil | apply Tr.block | apply Tr.exit | apply Tr.then_exit) | ((with_reducible refine Tr.in_exit ?_ ?_); (exact rfl)) | (refine Tr.cond_f rfl (by first | (with_reducible assumption) | omega) ?_)))
  refine Tr.loop (α := Nat × List Bool) (fun y => ⟨108, [(12, .int .i64 ((y.1 : Int) - 1)), (10, .slice (some ⟨bs, 0, none⟩) l.length l.length), (9, .int .i64 (i : Int)), (8, .slice A1 (brkN k l s i).length c1), (6, .pointer (some ⟨b6, 0, none⟩)), (2, .pointer (some ⟨b2, 0, none⟩)), (1, .slice A l.length c)], [], M2,
      box bs 4 (boV y.2) :: ownS 52 2 A1 (brkN k l s i).length c1 cells :: box b6 67 [.slice Ba s.am.length ba, .slice Bd s.dy.length bd, .slice Bn s.nd.length bn, .slice Bb s.br.length kb] :: box b2 27 [v1, v2, v3, v4, v5] :: ([] ++ F)⟩)
    (fun y => y.1 ≤ j + 1 ∧ y.2.length = l.length ∧ (∀ t, y.2.getD t false = true → t ≤ j ∧ (l.getD t zH).kind ≠ 3) ∧ becL k l s.br j i (fsI y.2 y.1).length (fsI y.2 (j + 1)) = becF k l s.br i) (fun y => y.1) (j + 1, fs0 l l.length (j + 1)) ⟨Nat.le_refl _, fs0_length .., fun t ht => by rw [fs0_get] at ht; have := of_decide_eq_true ht; exact ⟨by omega, this.2.2⟩, by rw [fs0_notShip hjl]; exact hbec.symm⟩ (by rw [show (((j + 1 : Nat) : Int) - 1) = (j : Int) by omega]; exact hsQ) (fun y hy => ?_)
  obtain ⟨y, fs⟩ := y
  obtain ⟨hy, hfl, hf3, hbL⟩ := hy
  dsimp only at hy hfl hf3 hbL
  dsimp only
  cases y with
  | succ t =>
    rw [show (((t + 1 : Nat) : Int) - 1) = (t : Int) by omega]
    have hbvl : (boV fs).length = l.length := by rw [boV_length]; exact hfl
    obtain ⟨fb, hfb⟩ := get_of_lt (xs := fs) (i := t) (by omega)
    have hfd := getD_of (d := false) hfb
    have hsu := fsI_succ fs t
    rw [hfd] at hsu
    have hnv : nthL (boV fs) (t : Int).toNat = some (.bool fb) := by rw [nthL_eq, Int.toNat_natCast]; exact boV_get hfb
    cases fb with
    | false =>
      rw [if_neg (by decide), List.append_nil] at hsu
      rw [hsu] at hbL
      (repeat (first | ((with_reducible refine Tr.step rfl ?_); (first | (refine xmQ (z := ?_)) | (refine xaQ (z := ?_)) | ((with_reducible refine Knd.load ?_); (refine Exec.stab rfl (Stab.load rfl (tysOk.get rfl) rfl (by repeat (first | exact Has.here | apply Has.there)) (by assumption)) rfl ?_)) | ((with_reducible refine Knd.binOp ?_); (first | (refine Exec.stab rfl (Stab.subi rfl rfl (by omega)) rfl ?_) | (refine xiQ (z := ?_)))) | ((with_reducible refine Knd.indexAddr ?_); (refine Exec.stab rfl (Stab.indexB0 rfl rfl (tysOk.get rfl) rfl (tysOk.get rfl) rfl (by omega) (by omega)) rfl ?_)))) | (with_reducible first | apply Tr.next | apply Tr.seq | apply Tr.region | apply Tr.nil | apply Tr.skip | apply Tr.block | apply Tr.in_normal) | (refine Tr.cond_bf rfl (by (with_reducible rfl)) ?_) | (refine Tr.cond_t rfl (by first | (with_reducible assumption) | omega) ?_)))
      exact Tr.again (t, fs) ⟨by simp only; omega, hfl, hf3, hbL⟩ (by simp only; omega) hsQ
    | true =>
    rw [if_pos rfl] at hsu
    rw [hsu, List.length_append, List.length_singleton, becL, fsI_erase (by omega) hfd (j + 1) (by omega)] at hbL
    have hf3' : ∀ u, (fs.set t false).getD u false = true → u ≤ j ∧ (l.getD u zH).kind ≠ 3 := fun u hu => by
      rw [getD_setB _ _ _ _ (by omega)] at hu
      by_cases e : u = t
      · rw [if_pos e] at hu; cases hu
      · rw [if_neg e] at hu; exact hf3 u hu
    have hfl' : (fs.set t false).length = l.length := by rw [List.length_set]; exact hfl
    have hlend : Bf.Fn Try.prog 32 [.agg #[v1, v2, v3, v4, v5], .slice A l.length c, .slice Bb s.br.length kb, .int .i64 (i : Int), .slice (some ⟨bs, 0, none⟩) l.length l.length] M2 [box bs 4 (boV (fs.set t false))] (fun r M' A' => A' = [box bs 4 (boV (fs.set t false))] ∧ M2 = M' ∧ ∃ b : Bool, r = .bool b ∧ (b = true ↔ i ∈ failF (fxB k) (withF k l s.br j (fsI (fs.set t false) (j + 1))) (i + 1))) :=
      Fn.lend (R := fun r => ∃ b : Bool, r = .bool b ∧ (b = true ↔ i ∈ failF (fxB k) (withF k l s.br j (fsI (fs.set t false) (j + 1))) (i + 1))) ⟨Try.f32, Try.func32, rfl, rfl⟩ (fun M' hm hok => by
        have hI : Bools M' (.slice (some ⟨bs, 0, none⟩) (fs.set t false).length (fs.set t false).length) (fs.set t false) := SlOf.ofBox (hok _ List.mem_cons_self) (boV_one _) (by omega) (boV_elems M' _)
        have h1 := rfails_fn M' _ k (hB2.mono hm) A c l (hl2.mono RHp.mono hm) s hrun Bb kb (q42.mono RI.mono hm) i j (by omega) hj hjl (some ⟨bs, 0, none⟩) (fs.set t false).length (fs.set t false) hI hfl' hf3' (by omega) (by omega)
        rw [hfl'] at h1
        exact Fn.mono (Fn.forget (R := fun r A' => A' = [] ∧ ∃ b : Bool, r = .bool b ∧ (b = true ↔ i ∈ failF (fxB k) (withF k l s.br j (fsI (fs.set t false) (j + 1))) (i + 1))) h1) (fun r M'' A' _ ⟨⟨x1, x2⟩, x3⟩ => ⟨x1, x2, x3⟩))
    have hbvl' : (boV (fs.set t false)).length = l.length := by rw [boV_length]; exact hfl'
    have htt : ((t : Int)).toNat = t := Int.toNat_natCast t
    (repeat (first | ((with_reducible refine Tr.step rfl ?_); (first | (refine xmQ (z := ?_)) | ((with_reducible refine Knd.load ?_); (first | (refine xlQ (z := ?_)) | (refine xwQ (z := ?_)) | (refine Exec.stab rfl (Stab.load rfl (tysOk.get rfl) rfl (by repeat (first | exact Has.here | apply Has.there)) (by assumption)) rfl ?_))) | (refine xfQ (z := ?_)) | (refine xiQ (z := ?_)) | ((with_reducible refine Knd.store ?_); (refine Exec.storeS rfl rfl (tysOk.get rfl) rfl (by first | rfl | assumption) (by repeat (first | exact Upd.here | apply Upd.there)) (by omega) ?_)) | ((with_reducible refine Knd.indexAddr ?_); (refine Exec.stab rfl (Stab.indexB0 rfl rfl (tysOk.get rfl) rfl (tysOk.get rfl) rfl (by omega) (by omega)) rfl ?_)))) | (with_reducible first | apply Tr.next | apply Tr.seq | apply Tr.region | apply Tr.nil | apply Tr.skip | apply Tr.block) | (refine Tr.cond_bt rfl (by (with_reducible rfl)) ?_) | (refine Tr.cond_t rfl (by first | (with_reducible assumption) | omega) ?_)))
    rw [htt, boV_set]
    ((refine Tr.step rfl ?_))
    refine Exec.call (A := [box bs 4 _]) rfl hlend (List.Perm.refl _) rfl ?_
    rintro _ _ _ - ⟨rfl, rfl, bb, rfl, hbb⟩
    simp only [List.cons_append, List.nil_append]
    cases bb with
    | true =>
      rw [if_pos (hbb.1 rfl)] at hbL
      (repeat (first | ((with_reducible refine Tr.step rfl ?_); (first | (refine xmQ (z := ?_)) | (refine xaQ (z := ?_)) | ((with_reducible refine Knd.binOp ?_); (refine Exec.stab rfl (Stab.subi rfl rfl (by omega)) rfl ?_)) | ((with_reducible refine Knd.unOp ?_); (refine Exec.stab rfl (Stab.not rfl) rfl ?_)))) | (with_reducible first | apply Tr.next | apply Tr.region | apply Tr.nil | apply Tr.skip | apply Tr.in_normal) | (refine Tr.cond_bf rfl (by first | (with_reducible rfl) | (with_reducible exact Bool.not_true)) ?_)))
      exact Tr.again (t, fs.set t false) ⟨by simp only; omega, hfl', hf3', by rw [fsI_set (by omega) (Nat.le_refl _)]; exact hbL⟩ (by simp only; omega) hsQ
    | false =>
      rw [if_neg (fun h => by have := hbb.2 h; cases this)] at hbL
      (repeat (first | ((with_reducible refine Tr.step rfl ?_); (first | (refine xmQ (z := ?_)) | (refine xaQ (z := ?_)) | ((with_reducible refine Knd.binOp ?_); (refine Exec.stab rfl (Stab.subi rfl rfl (by omega)) rfl ?_)) | ((with_reducible refine Knd.unOp ?_); (refine Exec.stab rfl (Stab.not rfl) rfl ?_)) | ((with_reducible refine Knd.store ?_); (refine Exec.storeS rfl rfl (tysOk.get rfl) rfl (by first | rfl | assumption) (by repeat (first | exact Upd.here | apply Upd.there)) (by omega) ?_)) | ((with_reducible refine Knd.indexAddr ?_); (refine Exec.stab rfl (Stab.indexB0 rfl rfl (tysOk.get rfl) rfl (tysOk.get rfl) rfl (by omega) (by omega)) rfl ?_)))) | (with_reducible first | apply Tr.next | apply Tr.region | apply Tr.nil | apply Tr.in_normal) | (refine Tr.cond_bt rfl (by first | (with_reducible rfl) | (with_reducible exact Bool.not_false)) ?_)))
      rw [htt, boV_set, set_back hfb]
      exact Tr.again (t, fs) ⟨by simp only; omega, hfl, hf3, hbL⟩ (by simp only; omega) hsQ
  | zero =>
  have hz0 : fsI fs 0 = [] := rfl
  rw [hz0] at hbL
  have hbF : fsI fs (j + 1) = becF k l s.br i := hbL
  have hend := fsI_end (fun t ht => (hf3 t ht).1) l.length (by omega)
  rw [hbF] at hend
  (repeat (first | ((with_reducible refine Tr.step rfl ?_); (first | (refine xmQ (z := ?_)) | (refine xaQ (z := ?_)) | (refine xiQ (z := ?_)) | (refine xWQ (z := ?_)) | ((with_reducible refine Knd.alloc ?_); (refine Exec.alloc (tysOk.get rfl) rfl rfl (fun b => ?_))) | ((with_reducible refine Knd.build ?_); (refine Exec.stab rfl (Stab.build tysOk rfl rfl rfl rfl (by repeat (first | exact BuildP.nil | ((apply BuildP.one); (rfl); (rfl); (first | rfl | assumption); (repeat (first | exact SetL.z | apply SetL.s)))))) rfl ?_)))) | (with_reducible first | apply Tr.next | apply Tr.seq | apply Tr.region | apply Tr.nil | apply Tr.block | apply Tr.exit | apply Tr.then_exit) | ((with_reducible refine Tr.in_exit ?_ ?_); (exact rfl)) | (refine Tr.cond_f rfl (by first | (with_reducible assumption) | omega) ?_)))
  generalize b = b13
  refine Tr.own_nil 3 1 ?_
  refine Tr.loop (α := Nat × Option Addr × Nat) (fun y => ⟨108, [(14, .int .i64 (y.1 : Int)), (13, .pointer (some ⟨b13, 0, none⟩)), (10, .slice (some ⟨bs, 0, none⟩) l.length l.length), (9, .int .i64 (i : Int)), (8, .slice A1 (brkN k l s i).length c1), (6, .pointer (some ⟨b6, 0, none⟩)), (2, .pointer (some ⟨b2, 0, none⟩)), (1, .slice A l.length c)], [], M2,
      ownS 3 1 y.2.1 (fsI fs y.1).length y.2.2 (intV (nats_ (fsI fs y.1))) :: box b13 52 [.int .i64 (i : Int), .slice y.2.1 (fsI fs y.1).length y.2.2] :: box bs 4 (boV fs) :: ownS 52 2 A1 (brkN k l s i).length c1 cells :: box b6 67 [.slice Ba s.am.length ba, .slice Bd s.dy.length bd, .slice Bn s.nd.length bn, .slice Bb s.br.length kb] :: box b2 27 [v1, v2, v3, v4, v5] :: ([] ++ F)⟩)
    (fun y => y.1 ≤ l.length ∧ y.2.2 ≤ 9223372036854775807) (fun y => l.length - y.1) (0, none, 0) ⟨Nat.zero_le _, by show (0 : Nat) ≤ _; omega⟩ hsQ (fun y hy => ?_)
  obtain ⟨t, A2, c2⟩ := y
  obtain ⟨ht, hc2⟩ := hy
  dsimp only at ht hc2
  dsimp only
  have hfil : (fsI fs t).length ≤ t := by have := (fsI_sub fs t).length_le; rwa [List.length_range] at this
  by_cases hlt3 : t < l.length
  · have hbvl : (boV fs).length = l.length := by rw [boV_length]; exact hfl
    obtain ⟨fb, hfb⟩ := get_of_lt (xs := fs) (i := t) (by omega)
    have hfd := getD_of (d := false) hfb
    have hsu := fsI_succ fs t
    rw [hfd] at hsu
    have hnv : nthL (boV fs) (t : Int).toNat = some (.bool fb) := by rw [nthL_eq, Int.toNat_natCast]; exact boV_get hfb
    cases fb with
    | false =>
      rw [if_neg (by decide), List.append_nil] at hsu
      rw [← hsu]
      (repeat (first | ((with_reducible refine Tr.step rfl ?_); (first | (refine xmQ (z := ?_)) | (refine xaQ (z := ?_)) | ((with_reducible refine Knd.load ?_); (refine Exec.stab rfl (Stab.load rfl (tysOk.get rfl) rfl (by repeat (first | exact Has.here | apply Has.there)) (by assumption)) rfl ?_)) | (refine xnQ (z := ?_)) | ((with_reducible refine Knd.binOp ?_); (first | (refine xdQ (z := ?_)) | (refine xiQ (z := ?_)))) | ((with_reducible refine Knd.indexAddr ?_); (refine Exec.stab rfl (Stab.indexB0 rfl rfl (tysOk.get rfl) rfl (tysOk.get rfl) rfl (by omega) (by omega)) rfl ?_)))) | (with_reducible first | apply Tr.next | apply Tr.seq | apply Tr.region | apply Tr.nil | apply Tr.skip | apply Tr.block | apply Tr.in_normal) | (refine Tr.cond_bf rfl (by (with_reducible rfl)) ?_) | (refine Tr.cond_t rfl (by first | (with_reducible assumption) | omega) ?_)))
      exact Tr.again (t + 1, A2, c2) ⟨by simp only; omega, hc2⟩ (by simp only; omega) hsQ
    | true =>
      rw [if_pos rfl] at hsu
      (repeat (first | ((with_reducible refine Tr.step rfl ?_); (first | (refine xmQ (z := ?_)) | ((with_reducible refine Knd.load ?_); (first | (refine xlQ (z := ?_)) | (refine Exec.stab rfl (Stab.load rfl (tysOk.get rfl) rfl (by repeat (first | exact Has.here | apply Has.there)) (by assumption)) rfl ?_))) | (refine xfQ (z := ?_)) | (refine xnQ (z := ?_)) | (refine xiQ (z := ?_)) | ((with_reducible refine Knd.indexAddr ?_); (refine Exec.stab rfl (Stab.indexB0 rfl rfl (tysOk.get rfl) rfl (tysOk.get rfl) rfl (by omega) (by omega)) rfl ?_)) | ((with_reducible refine Knd.buildSlice ?_); (refine Exec.buildSlice (tysOk.get rfl) rfl (tysOk.get rfl) rfl rfl rfl rfl rfl (by repeat (first | exact BuildP.nil | ((apply BuildP.one); (rfl); (rfl); (first | rfl | assumption); (repeat (first | exact SetL.z | apply SetL.s))))) rfl (fun b => ?_))))) | (with_reducible first | apply Tr.next | apply Tr.seq | apply Tr.region | apply Tr.nil | apply Tr.skip | apply Tr.block) | (refine Tr.cond_bt rfl (by (with_reducible rfl)) ?_) | (refine Tr.cond_t rfl (by first | (with_reducible assumption) | omega) ?_)))
      ((refine Tr.step rfl ?_))
      refine Exec.append (news := [.int .i64 (t : Int)]) rfl rfl (tysOk.get rfl) rfl (tysOk.get rfl) rfl rfl rfl rfl (by repeat (first | exact Del.here | apply Del.there)) (Src.box (by repeat (first | exact Has.here | apply Has.there))) rfl (by intro u hu; simp at hu; subst hu; rfl) (by omega) (by omega) rfl (fun A3 c3 hc3 => ?_)
      refine gvQ (r := box b 3 _) (k := ?_)
      rw [show intV (nats_ (fsI fs t)) ++ [Value.int .i64 (t : Int)] = intV (nats_ (fsI fs (t + 1))) by rw [hsu, nats__snoc, intV_append]; rfl, show (fsI fs t).length + 1 = (fsI fs (t + 1)).length by rw [hsu, List.length_append]; rfl]
      (repeat (first | ((with_reducible refine Tr.step rfl ?_); (first | (refine xmQ (z := ?_)) | (refine xaQ (z := ?_)) | (refine xfQ (z := ?_)) | (refine xdQ (z := ?_)) | (refine xSQ (z := ?_)))) | (with_reducible first | apply Tr.next | apply Tr.region | apply Tr.nil | apply Tr.in_normal)))
      exact Tr.again (t + 1, A3, c3) ⟨by simp only; omega, hc3⟩ (by simp only; omega) hsQ
  have et : l.length = t := by omega
  subst et
  rw [hend]
  refine pbQ (r := ownS 3 1 A2 _ _ _) (k := fun M3 hm3 ok3 => ?_)
  have i3 := Ints.ofOwn ok3 (by rw [nats__length]) hc2
  rw [nats__length] at i3
  have hm23 := hm2.trans hm3
  have hel2 : Elems 2 RBr M3 (cells ++ [.int .i64 (i : Int), .slice A2 (becF k l s.br i).length c2]) (brkN k l s (i + 1)) := by
    rw [hnx]
    exact (hel.mono RBr.mono hm3).append (Elems.one rfl ⟨A2, c2, rfl, i3⟩)
  clear ht hlt3 hfil
  (repeat (first | ((with_reducible refine Tr.step rfl ?_); (first | (refine xmQ (z := ?_)) | (refine xwQ (z := ?_)) | (refine xnQ (z := ?_)) | (refine xiQ (z := ?_)) | ((with_reducible refine Knd.buildSlice ?_); (refine Exec.buildSlice (tysOk.get rfl) rfl (tysOk.get rfl) rfl rfl rfl rfl rfl (by repeat (first | exact BuildP.nil | ((apply BuildP.many); (rfl); (rfl); (rfl); (rfl); (repeat (first | exact PutL.nil | ((apply PutL.cons); (repeat (first | exact SetL.z | apply SetL.s)))))))) rfl (fun b => ?_))))) | (with_reducible first | apply Tr.next | apply Tr.seq | apply Tr.region | apply Tr.nil | apply Tr.exit | apply Tr.then_exit) | ((with_reducible refine Tr.in_exit ?_ ?_); (exact rfl)) | (refine Tr.cond_f rfl (by first | (with_reducible assumption) | omega) ?_)))
  ((refine Tr.step rfl ?_))
  refine Exec.append (news := [.int .i64 (i : Int), .slice A2 (becF k l s.br i).length c2]) rfl rfl (tysOk.get rfl) rfl (tysOk.get rfl) rfl rfl rfl rfl (by repeat (first | exact Del.here | apply Del.there)) (Src.box (by repeat (first | exact Has.here | apply Has.there))) rfl (by intro u hu; simp at hu; rcases hu with rfl | rfl <;> rfl) (by omega) (by omega) rfl (fun A7 c7 hc7 => ?_)
  refine gvQ (r := box b _ _) (k := ?_)
  refine gvQ (r := box b13 _ _) (k := ?_)
  refine gvQ (r := box bs _ _) (k := ?_)
  rw [show (brkN k l s i).length + 1 = (brkN k l s (i + 1)).length by rw [hnx, List.length_append]; rfl]
  (repeat (first | ((with_reducible refine Tr.step rfl ?_); (first | (refine xmQ (z := ?_)) | (refine xaQ (z := ?_)) | (refine xdQ (z := ?_)))) | (with_reducible first | apply Tr.next | apply Tr.region | apply Tr.nil | apply Tr.in_normal)))
  exact Tr.again (i + 1, M3, A7, c7, _) ⟨by simp only; omega, hm23, hc7, hel2⟩ (by simp only; omega) hsQ
end Go.Proofs.Ytgnipfjjkliibaa

/-
  Honour, the reference: Ship.
  Conditions: none.
-/
namespace Go.Proofs.Ytgnipfjjkliibaa
open Go Bf
attribute [local irreducible] Tr Exec Stab HasTy Go.Addr.add IntKind.wrap
set_option maxHeartbeats 32000000 in
theorem rShip_fn (M : Mem) (v : Value) (k : Bk) (hB : RBk M v k) (h5 : k.sups.length ≤ 5 ∧ k.reqs.length ≤ 5) (A : Option Addr) (c : Nat) (l : List Hp) (hl : SlOf 5 RHp M (.slice A l.length c) l) (day : Int) :
    Fn0 Try.prog 16 [v, .slice A l.length c, .int .i64 day] M (fun r M' => ∃ A9 c9, r = .tuple #[.slice A9 (shipL k l day).1.length c9, .int .i64 (shipL k l day).2] ∧ SlOf 5 RHp M' (.slice A9 (shipL k l day).1.length c9) (shipL k l day).1) := by
  have hdo := rDo_fn M v k hB h5 A c l hl
  obtain ⟨v1, v2, v3, v4, v5, rfl, o1, o2, o3, o4, o5⟩ := hB.open5
  refine Fn.intro Try.func16 rfl rfl Try.ntmps16 rfl fun E F => ?_
  (repeat (first | ((with_reducible refine Tr.step rfl ?_); (first | (refine xmQ (z := ?_)) | (refine xaQ (z := ?_)) | (refine xwQ (z := ?_)) | ((with_reducible refine Knd.box ?_); (refine Exec.box rfl rfl (fun b => ?_))))) | (with_reducible first | apply Tr.next | apply Tr.seq | apply Tr.region | apply Tr.nil)))
  generalize b = b3
  ((refine Tr.step rfl ?_)); refine Exec.call0 rfl (hdo) rfl ?_
  rintro _ M1 hm1 ⟨w, rfl, hY⟩
  clear hdo
  have hw := hY.open5
  obtain ⟨u1, u2, u3, u4, u5, rfl, p1, p2, p3, p4, p5⟩ := hw
  cases hrun : runF k l with
  | none =>
    have e1 : doF k l = (zB, 330) := by rw [doF, hrun]
    have e2 : shipL k l day = ([], 330) := by rw [shipL, hrun]
    rw [e1]
    rw [e2]
    dsimp only
    (repeat (first | ((with_reducible refine Tr.step rfl ?_); (first | (refine xmQ (z := ?_)) | (refine xaQ (z := ?_)) | (refine xiQ (z := ?_)) | (refine xWQ (z := ?_)) | ((with_reducible refine Knd.alloc ?_); (refine Exec.alloc (tysOk.get rfl) rfl rfl (fun b => ?_))) | ((with_reducible refine Knd.extract ?_); (refine Exec.stab rfl (Stab.extract rfl rfl) rfl ?_)))) | (with_reducible first | apply Tr.next | apply Tr.seq | apply Tr.region | apply Tr.nil | apply Tr.ret | apply Tr.then_ret) | (refine Tr.cond_t rfl (by first | (with_reducible assumption) | omega) ?_)))
    (refine dnQ (hL := by exact ⟨[_, _], rfl⟩) (k := ⟨rfl, ?_⟩))
    exact ⟨none, 0, rfl, SlOf.nil _ _ _⟩
  | some s =>
  have e1 : doF k l = (resF k s, 0) := by rw [doF, hrun]
  rw [e1] at hY ⊢
  dsimp only at hY ⊢
  obtain ⟨hfb, hfit, hheld⟩ := run_keep hrun
  obtain ⟨n1, n2, n3, n4⟩ := run_len hrun
  (repeat (first | ((with_reducible refine Tr.step rfl ?_); (first | (refine xmQ (z := ?_)) | (refine xaQ (z := ?_)) | (refine xiQ (z := ?_)) | (refine xWQ (z := ?_)) | ((with_reducible refine Knd.alloc ?_); (refine Exec.alloc (tysOk.get rfl) rfl rfl (fun b => ?_))) | ((with_reducible refine Knd.extract ?_); (refine Exec.stab rfl (Stab.extract rfl rfl) rfl ?_)))) | (with_reducible first | apply Tr.next | apply Tr.seq | apply Tr.region | apply Tr.nil | apply Tr.skip) | (refine Tr.cond_f rfl (by (with_reducible exact (not_not_intro rfl))) ?_)))
  ((refine Tr.step rfl ?_)); refine Exec.call0 rfl (rin_fn M1 day 0 1023) rfl ?_
  rintro _ _ _ ⟨rfl, rfl⟩
  by_cases hd : 0 ≤ day ∧ day ≤ 1023
  rotate_left
  · have e2 : shipL k l day = ([], 330) := by rw [shipL, hrun]; exact if_neg hd
    rw [decide_eq_false hd, e2]
    (repeat (first | ((with_reducible refine Tr.step rfl ?_); (first | (refine xaQ (z := ?_)) | ((with_reducible refine Knd.unOp ?_); (refine Exec.stab rfl (Stab.not rfl) rfl ?_)))) | (with_reducible first | apply Tr.next | apply Tr.seq | apply Tr.region | apply Tr.nil | apply Tr.ret | apply Tr.then_ret) | (refine Tr.cond_bt rfl (by first | (with_reducible rfl) | (with_reducible exact Bool.not_false)) ?_)))
    (refine dnQ (hL := by exact ⟨[_, _], rfl⟩) (k := ⟨rfl, ?_⟩))
    exact ⟨none, 0, rfl, SlOf.nil _ _ _⟩
  have e2 : shipL k l day = (shipsOf (resF k s) day, 0) := by rw [shipL, hrun]; exact if_pos hd
  rw [decide_eq_true hd, e2]
  have hY0 := hY
  obtain ⟨As, cs, Ar, cr, Af, cf, Ad, cd, ev, h1, h2, h3⟩ := hY
  injection ev with ev
  simp only [Array.mk.injEq, List.cons.injEq, and_true] at ev
  obtain ⟨rfl, rfl, rfl, rfl, rfl⟩ := ev
  obtain ⟨r1, r2⟩ := res_len k s
  have hbe := rbegin_fn M1 _ (resF k s) hY0 (by omega) (by omega)
  (repeat (first | ((with_reducible refine Tr.step rfl ?_); (first | (refine xwQ (z := ?_)) | ((with_reducible refine Knd.unOp ?_); (refine Exec.stab rfl (Stab.not rfl) rfl ?_)))) | (with_reducible first | apply Tr.next | apply Tr.seq | apply Tr.region | apply Tr.nil | apply Tr.skip) | (refine Tr.cond_bf rfl (by first | (with_reducible rfl) | (with_reducible exact Bool.not_true)) ?_)))
  generalize b = b8
  ((refine Tr.step rfl ?_)); refine Exec.call0 rfl (hbe) rfl ?_
  rintro _ M2 hm2 ⟨Ba, ba, Bd, bd, Bn, bn, Bb, bb, rfl, q1, q2, q3, q4⟩
  clear hbe
  have hv := res_vld hfit
  have eam := res_am n1
  have end_ := res_nd n2 n4
  have hfe : Feas (pbOf (resF k s).fits (beginF (resF k s)).am (beginF (resF k s)).nd) := by
    rw [eam, end_]; exact hheld
  have hvv : Vld (resF k s).fits (beginF (resF k s)).am (beginF (resF k s)).nd := by
    rw [eam, end_]; exact hv
  have hns : (beginF (resF k s)).am.length = (resF k s).sups.length := (begin_len _).1
  have hnr : (beginF (resF k s)).nd.length = (resF k s).reqs.length := (begin_len _).2.1
  have hfl := rflow_fn M2 Af Ba Bn cf ba bn (resF k s).fits (beginF (resF k s)).am (beginF (resF k s)).nd (h3.mono RRowB.mono hm2) q1 q3 (by omega) (lexA _) (fun _ hfe => lexA_max hfe)
  (repeat (first | ((with_reducible refine Tr.step rfl ?_); (first | (refine xlQ (z := ?_)) | (refine xfQ (z := ?_)) | (refine xWQ (z := ?_)) | ((with_reducible refine Knd.alloc ?_); (refine Exec.alloc (tysOk.get rfl) rfl rfl (fun b => ?_))))) | (with_reducible first | apply Tr.next | apply Tr.seq | apply Tr.region | apply Tr.nil)))
  ((refine Tr.step rfl ?_)); refine Exec.call0 rfl (hfl) rfl ?_
  rintro _ M3 hm3 hR
  clear hfl
  rcases hR with ⟨hbad, -⟩ | ⟨-, hnf, -⟩ | ⟨-, -, B1, k1, rfl, hI⟩
  · rw [vld_iff.2 hvv] at hbad; cases hbad
  · exact absurd hfe hnf
  have eal := alF_eq (lexA_max hfe)
  rw [← eal] at hI
  have hlen : (alF (resF k s).fits (beginF (resF k s)).am (beginF (resF k s)).nd).length = (resF k s).sups.length := by rw [eal, allocOf_length, hns]
  have hrowl : ∀ i (r : List Int), (alF (resF k s).fits (beginF (resF k s)).am (beginF (resF k s)).nd)[i]? = some r → r.length = (resF k s).reqs.length := fun i r hr => by
    rw [eal] at hr
    have := List.mem_of_getElem? hr
    simp only [allocOf, List.mem_map, List.mem_range] at this
    obtain ⟨i', -, rfl⟩ := this
    rw [← hnr]
    simp [rowOf]
  rw [hns] at hI ⊢
  rw [shipsOf]
  have s64 : (resF k s).sups.length ≤ 64 := by omega
  have r64 : (resF k s).reqs.length ≤ 64 := by omega
  have h2' := h2.mono RRq.mono (hm2.trans hm3)
  generalize alF (resF k s).fits (beginF (resF k s)).am (beginF (resF k s)).nd = am at hI hlen hrowl
  clear hfe hvv hv eam end_ eal hY0 h1 h2 h3 q1 q2 q3 q4
  have hM3 := hm1.trans (hm2.trans hm3)
  (repeat (first | ((with_reducible refine Tr.step rfl ?_); (first | (refine xmQ (z := ?_)) | (refine xaQ (z := ?_)) | ((with_reducible refine Knd.extract ?_); (refine Exec.stab rfl (Stab.extract rfl rfl) rfl ?_)) | ((with_reducible refine Knd.buildSlice ?_); (refine Exec.buildSlice (tysOk.get rfl) rfl (tysOk.get rfl) rfl rfl rfl rfl rfl (by repeat (exact BuildP.nil)) rfl (fun b => ?_))))) | (with_reducible first | apply Tr.next | apply Tr.seq | apply Tr.region | apply Tr.nil | apply Tr.block)))
  refine Tr.box_own 5 0 (by repeat (first | exact Upd.here | apply Upd.there)) rfl (by intro u hu; cases hu) (by simp [maxLen]) ?_
  generalize b = bx
  generalize hYY : resF k s = Y at s64 r64 h2' hI hlen hrowl hns hnr r1 r2
  refine Tr.loop (α := Nat × Option Addr × Nat) (fun y => ⟨92, [(16, .int .i64 (y.1 : Int)), (15, .slice y.2.1 (shOut am Y.reqs day Y.sups.length y.1).length y.2.2), (11, .slice B1 Y.sups.length k1), (8, .pointer (some ⟨b8, 0, none⟩)), (2, .int .i64 day)], [], M3,
      ownS 44 5 y.2.1 (shOut am Y.reqs day Y.sups.length y.1).length y.2.2 ((shOut am Y.reqs day Y.sups.length y.1).flatMap hpC) :: box _ 67 _ :: box b8 27 [.int .i64 Y.known, .slice As Y.sups.length cs, .slice Ar Y.reqs.length cr, .slice Af Y.fits.length cf, .slice Ad Y.reads cd] :: box b3 27 [v1, v2, v3, v4, v5] :: F⟩)
    (fun y => y.1 ≤ Y.reqs.length ∧ y.2.2 ≤ 9223372036854775807) (fun y => Y.reqs.length - y.1) (0, some ⟨bx, 0, none⟩, 0) ⟨Nat.zero_le _, by show (0 : Nat) ≤ _; omega⟩ hsQ (fun y hy => ?_)
  obtain ⟨j, A1, c1⟩ := y
  obtain ⟨hj, hc1⟩ := hy
  dsimp only at hj hc1
  dsimp only
  have hol := shOut_len am Y.reqs day Y.sups.length j
  have hol2 : j * Y.sups.length ≤ 64 * 64 := Nat.mul_le_mul (by omega) s64
  by_cases hlt : j < Y.reqs.length
  rotate_left
  · have ej : Y.reqs.length = j := by omega
    subst ej
    refine pbQ (r := ownS 44 5 A1 _ _ _) (k := fun M4 hm4 ok4 => ?_)
    have i4 := SlOf.ofOwn ok4 rfl hc1 (Elems.flat (R := RHp) hpC_len (fun _ => rfl) _)
    have hlast := hM3.trans hm4
    (repeat (first | ((with_reducible refine Tr.step rfl ?_); (first | (refine xmQ (z := ?_)) | (refine xaQ (z := ?_)) | (refine xlQ (z := ?_)) | (refine xfQ (z := ?_)) | (refine xnQ (z := ?_)) | (refine xiQ (z := ?_)))) | (with_reducible first | apply Tr.next | apply Tr.seq | apply Tr.region | apply Tr.nil | apply Tr.exit | apply Tr.ret | apply Tr.then_exit) | ((with_reducible refine Tr.in_exit ?_ ?_); (exact rfl)) | (refine Tr.cond_f rfl (by first | (with_reducible assumption) | omega) ?_)))
    (refine dnQ (hL := by exact ⟨[_, _, _], rfl⟩) (k := ⟨rfl, ?_⟩))
    exact ⟨A1, c1, rfl, i4⟩
  obtain ⟨r, hr⟩ := get_of_lt hlt
  obtain ⟨hA, ch, hat, rfl⟩ := h2'.elem hr
  replace hat := hat.drop 3
  dsimp only [List.drop] at hat
  have hnx := shOut_succ am Y.reqs day Y.sups.length j
  have hdue : (Y.reqs.map (·.due)).getD j 0 = r.due := by simp [List.getD_eq_getElem?_getD, hr]
  rw [hdue] at hnx
  generalize shOut am Y.reqs day Y.sups.length j = sj at hnx hol
  have ein : sj = sj ++ if r.due = day then shIn am j day 0 else [] := by split <;> exact (List.append_nil _).symm
  rw [ein]
  (repeat (first | ((with_reducible refine Tr.step rfl ?_); (first | (refine xmQ (z := ?_)) | (refine xaQ (z := ?_)) | (refine xlQ (z := ?_)) | (refine xfQ (z := ?_)) | (refine xnQ (z := ?_)) | (refine xiQ (z := ?_)))) | (with_reducible first | apply Tr.next | apply Tr.seq | apply Tr.region | apply Tr.nil | apply Tr.skip | apply Tr.block) | (refine Tr.cond_t rfl (by first | (with_reducible assumption) | omega) ?_)))
  refine Tr.loop (α := Nat × Option Addr × Nat) (fun y => ⟨92, [(17, .int .i64 (y.1 : Int)), (16, .int .i64 (j : Int)), (15, .slice y.2.1 (sj ++ if r.due = day then shIn am j day y.1 else []).length y.2.2), (11, .slice B1 Y.sups.length k1), (8, .pointer (some ⟨b8, 0, none⟩)), (2, .int .i64 day)], [], M3,
      ownS 44 5 y.2.1 (sj ++ if r.due = day then shIn am j day y.1 else []).length y.2.2 ((sj ++ if r.due = day then shIn am j day y.1 else []).flatMap hpC) :: box _ 67 _ :: box b8 27 [.int .i64 Y.known, .slice As Y.sups.length cs, .slice Ar Y.reqs.length cr, .slice Af Y.fits.length cf, .slice Ad Y.reads cd] :: box b3 27 [v1, v2, v3, v4, v5] :: F⟩)
    (fun y => y.1 ≤ Y.sups.length ∧ y.2.2 ≤ 9223372036854775807) (fun y => Y.sups.length - y.1) (0, A1, c1) ⟨Nat.zero_le _, hc1⟩ hsQ (fun y hy => ?_)
  clear hc1
  obtain ⟨i, A2, c2⟩ := y
  obtain ⟨hi, hc2⟩ := hy
  dsimp only at hi hc2
  dsimp only
  have hil := shIn_len am j day i
  by_cases hlt2 : i < Y.sups.length
  rotate_left
  · have ei : Y.sups.length = i := by omega
    subst ei
    rw [← hnx]
    (repeat (first | ((with_reducible refine Tr.step rfl ?_); (first | (refine xmQ (z := ?_)) | (refine xaQ (z := ?_)) | (refine xlQ (z := ?_)) | (refine xfQ (z := ?_)) | (refine xnQ (z := ?_)) | ((with_reducible refine Knd.binOp ?_); (first | (refine xdQ (z := ?_)) | (refine xiQ (z := ?_)))))) | (with_reducible first | apply Tr.next | apply Tr.seq | apply Tr.region | apply Tr.nil | apply Tr.exit | apply Tr.then_exit | apply Tr.in_normal) | ((with_reducible refine Tr.in_exit ?_ ?_); (exact rfl)) | (refine Tr.cond_f rfl (by first | (with_reducible assumption) | omega) ?_)))
    exact Tr.again (j + 1, A2, c2) ⟨by simp only; omega, hc2⟩ (by simp only; omega) hsQ
  by_cases hday : r.due = day
  rotate_left
  · simp only [if_neg hday]
    (repeat (first | ((with_reducible refine Tr.step rfl ?_); (first | (refine xmQ (z := ?_)) | (refine xaQ (z := ?_)) | ((with_reducible refine Knd.load ?_); (first | (refine xlQ (z := ?_)) | (refine xMQ (z := ?_)))) | ((with_reducible refine Knd.fieldAddr ?_); (first | (refine xfQ (z := ?_)) | (refine Exec.stab rfl (Stab.fieldD rfl (tysOk.get rfl) rfl rfl (tysOk.get rfl) rfl) rfl ?_))) | (refine xnQ (z := ?_)) | ((with_reducible refine Knd.binOp ?_); (first | (refine xdQ (z := ?_)) | (refine xiQ (z := ?_)))) | ((with_reducible refine Knd.pick ?_); (refine Exec.stab rfl (Stab.pick_fd rfl (by (with_reducible assumption)) rfl) rfl ?_)) | (refine xxQ (z := ?_)))) | (with_reducible first | apply Tr.next | apply Tr.seq | apply Tr.region | apply Tr.nil) | (refine Tr.guard_n rfl rfl rfl (by (with_reducible assumption)) rfl rfl ?_) | (with_reducible first | apply Tr.skip | apply Tr.block | apply Tr.in_normal) | (refine Tr.cond_bf rfl (by (with_reducible rfl)) ?_) | (refine Tr.cond_t rfl (by first | (with_reducible assumption) | omega) ?_)))
    refine Tr.again (i + 1, A2, c2) ⟨by simp only; omega, hc2⟩ (by simp only; omega) ?_
    simp only [if_neg hday]
    exact hsQ
  simp only [if_pos hday]
  obtain ⟨row, hrow⟩ := get_of_lt (xs := am) (i := i) (by omega)
  obtain ⟨hA3, ch3, hat3, Aw, kw, rfl, hrI⟩ := hI.elem hrow
  have hrl := hrowl i row hrow
  obtain ⟨x, hx⟩ := get_of_lt (xs := row) (i := j) (by omega)
  obtain ⟨hA4, hat4⟩ := Ints.at hrI hx
  have hin := shIn_succ am j day i
  have hamv : amv am i j = x := by rw [amv, getD_of (d := []) hrow, getD_of (d := (0 : Int)) hx]
  rw [hamv] at hin
  by_cases hx0 : 0 < x
  · rw [if_pos hx0] at hin
    (repeat (first | ((with_reducible refine Tr.step rfl ?_); (first | (refine xmQ (z := ?_)) | ((with_reducible refine Knd.load ?_); (first | (refine xlQ (z := ?_)) | (refine xMQ (z := ?_)))) | ((with_reducible refine Knd.fieldAddr ?_); (first | (refine xfQ (z := ?_)) | (refine Exec.stab rfl (Stab.fieldD rfl (tysOk.get rfl) rfl rfl (tysOk.get rfl) rfl) rfl ?_))) | (refine xnQ (z := ?_)) | (refine xiQ (z := ?_)) | ((with_reducible refine Knd.pick ?_); (refine Exec.stab rfl (Stab.pick_td rfl (by (with_reducible assumption)) rfl) rfl ?_)) | (refine xxQ (z := ?_)) | ((with_reducible refine Knd.build ?_); (refine Exec.stab rfl (Stab.build tysOk rfl rfl rfl rfl (by repeat (first | exact BuildP.nil | ((apply BuildP.one); (rfl); (rfl); (first | rfl | assumption); (repeat (first | exact SetL.z | apply SetL.s)))))) rfl ?_)) | ((with_reducible refine Knd.buildSlice ?_); (refine Exec.buildSlice (tysOk.get rfl) rfl (tysOk.get rfl) rfl rfl rfl rfl rfl (by repeat (first | exact BuildP.nil | ((apply BuildP.many); (rfl); (rfl); (rfl); (rfl); (repeat (first | exact PutL.nil | ((apply PutL.cons); (repeat (first | exact SetL.z | apply SetL.s)))))))) rfl (fun b => ?_))))) | (with_reducible first | apply Tr.next | apply Tr.seq | apply Tr.region | apply Tr.nil) | ((refine Tr.guard_y rfl rfl rfl (by (with_reducible assumption)) ?_); (first | (refine xmQ (z := ?_)) | (refine xMQ (z := ?_)) | (refine xiQ (z := ?_)) | (refine xxQ (z := ?_)))) | (with_reducible first | apply Tr.skip | apply Tr.block) | (refine Tr.cond_t rfl (by first | (with_reducible assumption) | omega) ?_)))
    ((refine Tr.step rfl ?_))
    refine Exec.append (news := hpC ⟨3, (i : Int), (j : Int), day, x⟩) rfl rfl (tysOk.get rfl) rfl (tysOk.get rfl) rfl rfl rfl rfl (by repeat (first | exact Del.here | apply Del.there)) (Src.box (by repeat (first | exact Has.here | apply Has.there))) rfl (by intro u hu; simp only [hpC, List.mem_cons, List.not_mem_nil, or_false] at hu; rcases hu with rfl | rfl | rfl | rfl | rfl <;> rfl) (by rw [List.length_append]; omega) (by rw [List.length_append]; omega) rfl (fun A7 c7 hc7 => ?_)
    refine gvQ (r := box b _ _) (k := ?_)
    rw [show (sj ++ shIn am j day i).flatMap hpC ++ hpC ⟨3, (i : Int), (j : Int), day, x⟩ = (sj ++ shIn am j day (i + 1)).flatMap hpC by rw [hin, ← List.append_assoc, List.flatMap_append (ys := [_])]; simp, show (sj ++ shIn am j day i).length + 1 = (sj ++ shIn am j day (i + 1)).length by rw [hin, List.length_append, List.length_append, List.length_append]; rfl]
    (repeat (first | ((with_reducible refine Tr.step rfl ?_); (first | (refine xmQ (z := ?_)) | (refine xaQ (z := ?_)) | (refine xdQ (z := ?_)))) | (with_reducible first | apply Tr.next | apply Tr.region | apply Tr.nil | apply Tr.in_normal)))
    refine Tr.again (i + 1, A7, c7) ⟨by simp only; omega, hc7⟩ (by simp only; omega) ?_
    simp only [if_pos hday]
    exact hsQ
  · rw [if_neg hx0, List.append_nil] at hin
    rw [← hin]
    (repeat (first | ((with_reducible refine Tr.step rfl ?_); (first | (refine xmQ (z := ?_)) | (refine xaQ (z := ?_)) | ((with_reducible refine Knd.load ?_); (first | (refine xlQ (z := ?_)) | (refine xMQ (z := ?_)))) | ((with_reducible refine Knd.fieldAddr ?_); (first | (refine xfQ (z := ?_)) | (refine Exec.stab rfl (Stab.fieldD rfl (tysOk.get rfl) rfl rfl (tysOk.get rfl) rfl) rfl ?_))) | (refine xnQ (z := ?_)) | ((with_reducible refine Knd.binOp ?_); (first | (refine xdQ (z := ?_)) | (refine xiQ (z := ?_)))) | ((with_reducible refine Knd.pick ?_); (refine Exec.stab rfl (Stab.pick_td rfl (by (with_reducible assumption)) rfl) rfl ?_)) | (refine xxQ (z := ?_)))) | (with_reducible first | apply Tr.next | apply Tr.seq | apply Tr.region | apply Tr.nil) | ((refine Tr.guard_y rfl rfl rfl (by (with_reducible assumption)) ?_); (first | (refine xmQ (z := ?_)) | (refine xMQ (z := ?_)) | (refine xiQ (z := ?_)) | (refine xxQ (z := ?_)))) | (with_reducible first | apply Tr.skip | apply Tr.block | apply Tr.in_normal) | (refine Tr.cond_t rfl (by first | (with_reducible assumption) | omega) ?_) | (refine Tr.cond_f rfl (by (with_reducible assumption)) ?_)))
    refine Tr.again (i + 1, A2, c2) ⟨by simp only; omega, hc2⟩ (by simp only; omega) ?_
    simp only [if_pos hday]
    exact hsQ
end Go.Proofs.Ytgnipfjjkliibaa

/-
  Honour: the law HonourSpec.
  Conditions: none.
-/
namespace Go.Proofs.Ytgnipfjjkliibaa
open Go Bf
attribute [local irreducible] Tr Exec Stab HasTy Go.Addr.add IntKind.wrap
set_option maxHeartbeats 16000000 in
theorem hspec_fn (M : Mem) (v : Value) (k : Bk) (h : RBk M v k) (A : Option Addr) (c : Nat) (l : List Hp) (hl : SlOf 5 RHp M (.slice A l.length c) l) (day : Int) :
    Fn0 Try.prog 3 [v, .slice A l.length c, .int .i64 day] M (fun r _ => r = .bool true) := by
  have h0 := h
  obtain ⟨v1, v2, v3, v4, v5, rfl, o1, o2, o3, o4, o5⟩ := h.open5
  refine Fn.intro Try.func3 rfl rfl Try.ntmps3 rfl fun E F => ?_
  (repeat (first | ((with_reducible refine Tr.step rfl ?_); (first | (refine xaQ (z := ?_)) | ((with_reducible refine Knd.box ?_); (refine Exec.box rfl rfl (fun b => ?_))))) | (with_reducible first | apply Tr.next | apply Tr.seq | apply Tr.region | apply Tr.nil)))
  generalize b = b3
  ((refine Tr.step rfl ?_)); refine Exec.call0 rfl (sane33_fn M) rfl ?_
  rintro _ M1 hm1 rfl
  (repeat (first | ((with_reducible refine Tr.step rfl ?_); (first | (refine xmQ (z := ?_)) | (refine xwQ (z := ?_)) | ((with_reducible refine Knd.unOp ?_); (refine Exec.stab rfl (Stab.not rfl) rfl ?_)))) | (with_reducible first | apply Tr.next | apply Tr.seq | apply Tr.region | apply Tr.nil | apply Tr.skip) | (refine Tr.cond_bf rfl (by first | (with_reducible rfl) | (with_reducible exact Bool.not_true)) ?_)))
  ((refine Tr.step rfl ?_)); refine Exec.call0 rfl (few33_fn M1 _ k (h.mono hm1) A c l) rfl ?_
  rintro _ _ _ ⟨⟨bb, rfl, hfew⟩, rfl⟩
  cases bb with
  | false =>
    (repeat (first | ((with_reducible refine Tr.step rfl ?_); (first | (refine xaQ (z := ?_)) | ((with_reducible refine Knd.unOp ?_); (refine Exec.stab rfl (Stab.not rfl) rfl ?_)))) | (with_reducible first | apply Tr.next | apply Tr.seq | apply Tr.region | apply Tr.nil | apply Tr.ret | apply Tr.then_ret) | (refine Tr.cond_bt rfl (by first | (with_reducible rfl) | (with_reducible exact Bool.not_false)) ?_)))
    (refine dnQ (hL := by exact ⟨[_], rfl⟩) (k := ⟨rfl, ?_⟩))
    rfl
  | true =>
  have hfw := hfew rfl
  clear hfew
  obtain ⟨-, w1, w2, -, -, w6⟩ := hfw
  have c1 := do_fn M1 _ k (h.mono hm1) A c l (hl.mono RHp.mono hm1)
  (repeat (first | ((with_reducible refine Tr.step rfl ?_); (first | (refine xmQ (z := ?_)) | (refine xwQ (z := ?_)) | ((with_reducible refine Knd.unOp ?_); (refine Exec.stab rfl (Stab.not rfl) rfl ?_)))) | (with_reducible first | apply Tr.next | apply Tr.seq | apply Tr.region | apply Tr.nil | apply Tr.skip) | (refine Tr.cond_bf rfl (by first | (with_reducible rfl) | (with_reducible exact Bool.not_true)) ?_)))
  ((refine Tr.step rfl ?_)); refine Exec.call0 rfl (c1) rfl ?_
  clear c1
  rintro _ M2 hm2 ⟨x, rfl, hx⟩
  obtain ⟨x1, x2, x3, x4, x5, rfl, p1, p2, p3, p4, p5⟩ := hx.open5
  have m2 := hm1.trans hm2
  have c1 := rDo_fn M2 _ k (h.mono m2) ⟨w1, w2⟩ A c l (hl.mono RHp.mono m2)
  (repeat (first | ((with_reducible refine Tr.step rfl ?_); (first | (refine xmQ (z := ?_)) | (refine xaQ (z := ?_)) | (refine xwQ (z := ?_)) | (refine xWQ (z := ?_)) | ((with_reducible refine Knd.alloc ?_); (refine Exec.alloc (tysOk.get rfl) rfl rfl (fun b => ?_))) | ((with_reducible refine Knd.extract ?_); (refine Exec.stab rfl (Stab.extract rfl rfl) rfl ?_)))) | (with_reducible first | apply Tr.next | apply Tr.seq | apply Tr.region | apply Tr.nil)))
  ((refine Tr.step rfl ?_)); refine Exec.call0 rfl (c1) rfl ?_
  clear c1
  rintro _ M3 hm3 ⟨y, rfl, hy⟩
  obtain ⟨y1, y2, y3, y4, y5, rfl, q1, q2, q3, q4, q5⟩ := hy.open5
  have m3 := m2.trans hm3
  have c1 := broken_fn M3 _ k (h.mono m3) A c l (hl.mono RHp.mono m3) (by omega)
  (repeat (first | ((with_reducible refine Tr.step rfl ?_); (first | (refine xmQ (z := ?_)) | (refine xaQ (z := ?_)) | (refine xwQ (z := ?_)) | (refine xWQ (z := ?_)) | ((with_reducible refine Knd.alloc ?_); (refine Exec.alloc (tysOk.get rfl) rfl rfl (fun b => ?_))) | ((with_reducible refine Knd.extract ?_); (refine Exec.stab rfl (Stab.extract rfl rfl) rfl ?_)))) | (with_reducible first | apply Tr.next | apply Tr.seq | apply Tr.region | apply Tr.nil)))
  ((refine Tr.step rfl ?_)); refine Exec.call0 rfl (c1) rfl ?_
  clear c1
  rintro _ M4 hm4 ⟨P1, pc1, rfl, hp⟩
  have m4 := m3.trans hm4
  have c1 := rBroken_fn M4 _ k (h.mono m4) ⟨w1, w2⟩ A c l (hl.mono RHp.mono m4) w6
  (repeat (first | ((with_reducible refine Tr.step rfl ?_); (first | (refine xmQ (z := ?_)) | (refine xaQ (z := ?_)) | (refine xwQ (z := ?_)) | ((with_reducible refine Knd.extract ?_); (refine Exec.stab rfl (Stab.extract rfl rfl) rfl ?_)))) | (with_reducible first | apply Tr.next | apply Tr.seq | apply Tr.region | apply Tr.nil)))
  ((refine Tr.step rfl ?_)); refine Exec.call0 rfl (c1) rfl ?_
  clear c1
  rintro _ M5 hm5 ⟨P2, pc2, rfl, hq⟩
  have m5 := m4.trans hm5
  have c1 := ship0_fn M5 _ k (h.mono m5) A c l (hl.mono RHp.mono m5) day
  (repeat (first | ((with_reducible refine Tr.step rfl ?_); (first | (refine xmQ (z := ?_)) | (refine xaQ (z := ?_)) | (refine xwQ (z := ?_)) | ((with_reducible refine Knd.extract ?_); (refine Exec.stab rfl (Stab.extract rfl rfl) rfl ?_)))) | (with_reducible first | apply Tr.next | apply Tr.seq | apply Tr.region | apply Tr.nil)))
  ((refine Tr.step rfl ?_)); refine Exec.call0 rfl (c1) rfl ?_
  clear c1
  rintro _ M6 hm6 ⟨S1, sc1, rfl, hs, -⟩
  have m6 := m5.trans hm6
  have c1 := rShip_fn M6 _ k (h.mono m6) ⟨w1, w2⟩ A c l (hl.mono RHp.mono m6) day
  (repeat (first | ((with_reducible refine Tr.step rfl ?_); (first | (refine xmQ (z := ?_)) | (refine xaQ (z := ?_)) | (refine xwQ (z := ?_)) | ((with_reducible refine Knd.extract ?_); (refine Exec.stab rfl (Stab.extract rfl rfl) rfl ?_)))) | (with_reducible first | apply Tr.next | apply Tr.seq | apply Tr.region | apply Tr.nil)))
  ((refine Tr.step rfl ?_)); refine Exec.call0 rfl (c1) rfl ?_
  clear c1
  rintro _ M7 hm7 ⟨S2, sc2, rfl, ht⟩
  have hlast := m6.trans hm7
  have m67 := hm6.trans hm7
  have m57 := hm5.trans m67
  have m47 := hm4.trans m57
  have m37 := hm3.trans m47
  have k1 := sameBook_fn M7 _ _ _ _ (hx.mono m37) (hy.mono m47)
  have k2 := sameBroken_fn M7 P1 P2 pc1 pc2 _ _ (hp.mono RBr.mono m57) (hq.mono RBr.mono m67)
  have k3 := sameHap_fn M7 S1 S2 sc1 sc2 _ _ (hs.mono RHp.mono hm7) ht
  (repeat (first | ((with_reducible refine Tr.step rfl ?_); (first | (refine xmQ (z := ?_)) | (refine xaQ (z := ?_)) | (refine xwQ (z := ?_)) | ((with_reducible refine Knd.extract ?_); (refine Exec.stab rfl (Stab.extract rfl rfl) rfl ?_)))) | (with_reducible first | apply Tr.next | apply Tr.seq | apply Tr.region | apply Tr.nil)))
  ((refine Tr.step rfl ?_)); refine Exec.call0 rfl (k1) rfl ?_
  rintro _ _ _ ⟨⟨bb, rfl, hbb⟩, rfl⟩
  obtain rfl := hbb.2 rfl
  clear k1 hbb
  (repeat (first | ((with_reducible refine Tr.step rfl ?_); (first | (refine xmQ (z := ?_)) | ((with_reducible refine Knd.pick ?_); (refine Exec.stab rfl (Stab.pick_t rfl (by (with_reducible rfl)) rfl) rfl ?_)))) | ((refine Tr.guard_l rfl rfl rfl (by (with_reducible rfl)) ?_); (first | (refine xmQ (z := ?_)) | (refine xiQ (z := ?_)))) | ((refine Tr.guard_y rfl rfl rfl (by (with_reducible rfl)) ?_); (with_reducible refine Knd.move ?_); (refine xmQ (z := ?_)))))
  ((refine Tr.guard_y rfl rfl rfl (by (with_reducible rfl)) ?_)); refine Exec.call0 rfl (k2) rfl ?_
  rintro _ _ _ ⟨⟨bb, rfl, hbb⟩, rfl⟩
  obtain rfl := hbb.2 rfl
  clear k2 hbb
  (repeat (first | ((with_reducible refine Tr.step rfl ?_); (first | (refine xmQ (z := ?_)) | ((with_reducible refine Knd.pick ?_); (first | (refine Exec.stab rfl (Stab.pick_t rfl (by (with_reducible rfl)) rfl) rfl ?_) | (refine Exec.stab rfl (Stab.pick_td rfl (by (with_reducible rfl)) rfl) rfl ?_))))) | ((refine Tr.guard_l rfl rfl rfl (by (with_reducible rfl)) ?_); (first | (refine xmQ (z := ?_)) | (refine xiQ (z := ?_)))) | ((refine Tr.guard_y rfl rfl rfl (by (with_reducible rfl)) ?_); (with_reducible refine Knd.move ?_); (refine xmQ (z := ?_)))))
  ((refine Tr.guard_y rfl rfl rfl (by (with_reducible rfl)) ?_)); refine Exec.call0 rfl (k3) rfl ?_
  rintro _ _ _ ⟨⟨bb, rfl, hbb⟩, rfl⟩
  obtain rfl := hbb.2 rfl
  clear k3 hbb
  (repeat (first | ((with_reducible refine Tr.step rfl ?_); (first | (refine xmQ (z := ?_)) | (refine xaQ (z := ?_)) | ((with_reducible refine Knd.pick ?_); (first | (refine Exec.stab rfl (Stab.pick_t rfl (by (with_reducible rfl)) rfl) rfl ?_) | (refine Exec.stab rfl (Stab.pick_td rfl (by (with_reducible rfl)) rfl) rfl ?_))))) | (with_reducible first | apply Tr.next | apply Tr.nil) | ((refine Tr.guard_l rfl rfl rfl (by (with_reducible rfl)) ?_); (first | (refine xmQ (z := ?_)) | (refine xiQ (z := ?_)))) | (with_reducible refine Tr.ret ?_)))
  (refine dnQ (hL := by exact ⟨[_, _, _], rfl⟩) (k := ⟨rfl, ?_⟩))
  exact congrArg Value.bool (decide_eq_true rfl)
end Go.Proofs.Ytgnipfjjkliibaa

/-
  Honour: how the arguments of the laws read.
  Conditions: none.
-/
namespace Go.Proofs.Ytgnipfjjkliibaa
open Go Bf
open Go.ChangeShapes Go.WideShapes Go.ChangeAt Go.RowKit
set_option maxRecDepth 100000
section
variable {H : Type} {enc : TypeId × Value → H} {W : World} {base : Nat} {v : Value} {w : World} {sp : Nat → Bool} {held : Bool}
theorem u3 : Try.prog.underlying 3 = some (.int .i64) := (tysOk.get (t := 3) rfl).1
theorem u4 : Try.prog.underlying 4 = some .bool := (tysOk.get (t := 4) rfl).1
theorem u5 : Try.prog.underlying 5 = some (.int .u8) := (tysOk.get (t := 5) rfl).1
theorem u22 : Try.prog.underlying 22 = some (.slice 58) := (tysOk.get (t := 22) rfl).1
theorem u23 : Try.prog.underlying 23 = some (.slice 54) := (tysOk.get (t := 23) rfl).1
theorem u24 : Try.prog.underlying 24 = some (.slice 60) := (tysOk.get (t := 24) rfl).1
theorem u28 : Try.prog.underlying 28 = some (.slice 44) := (tysOk.get (t := 28) rfl).1
theorem u60 : Try.prog.underlying 60 = some (.slice 4) := (tysOk.get (t := 60) rfl).1
theorem u25 : ∃ e, Try.prog.underlying 25 = some (.slice e) := ⟨152, by kernel_rfl⟩
theorem c3 : Try.prog.cellsOf 3 = 1 := by kernel_rfl
theorem c4 : Try.prog.cellsOf 4 = 1 := by kernel_rfl
theorem c22 : Try.prog.cellsOf 22 = 1 := by kernel_rfl
theorem c23 : Try.prog.cellsOf 23 = 1 := by kernel_rfl
theorem c24 : Try.prog.cellsOf 24 = 1 := by kernel_rfl
theorem c25 : Try.prog.cellsOf 25 = 1 := by kernel_rfl
theorem c27 : Try.prog.cellsOf 27 = 5 := by kernel_rfl
theorem c44 : Try.prog.cellsOf 44 = 5 := by kernel_rfl
theorem c54 : Try.prog.cellsOf 54 = 6 := by kernel_rfl
theorem c58 : Try.prog.cellsOf 58 = 6 := by kernel_rfl
theorem c60 : Try.prog.cellsOf 60 = 1 := by kernel_rfl
theorem int_bounds {n : Int} (hw : (Lit.int .i64 n).wf = true) : -9223372036854775808 ≤ n ∧ n ≤ 9223372036854775807 := by
  have hmin : IntKind.i64.min = -9223372036854775808 := by decide
  have hmax : IntKind.i64.max = 9223372036854775807 := by decide
  simpa [Lit.wf, hmin, hmax] using hw
theorem arg_int (h : Arg enc Try.prog W base 3 v) : ∃ a : Int, v = .int .i64 a ∧ -9223372036854775808 ≤ a ∧ a ≤ 9223372036854775807 := by
  obtain ⟨k0, f0, x, g0⟩ := h
  obtain ⟨n, rfl⟩ := okWide_int u3 k0
  obtain ⟨m, e, hw⟩ := read_int u3 g0
  simp [Value.cells] at e
  subst e
  exact ⟨n, rfl, int_bounds hw⟩
theorem len5' {l : List Value} (h : l.length = 5) : ∃ a b c d e, l = [a, b, c, d, e] := by
  match l, h with
  | [a, b, c, d, e], _ => exact ⟨a, b, c, d, e, rfl⟩
theorem len6' {l : List Value} (h : l.length = 6) : ∃ a b c d e f, l = [a, b, c, d, e, f] := by
  match l, h with
  | [a, b, c, d, e, f], _ => exact ⟨a, b, c, d, e, f, rfl⟩
/-- a struct of six numbers -/
theorem open_six {t : TypeId} {fs : Array Field} {cs : List Value} {fuel : Nat} {x : DataW H × List MemPlace} (hu : Try.prog.underlying t = some (.struct fs)) (hc : Try.prog.cellsOf t = 6)
    (hfs : ∀ i, i < 6 → ∃ fl, fs[i]? = some fl ∧ fl.type = 3 ∧ fl.offset = i) (h : DataW.trod enc Try.prog w 0 sp held fuel t cs = some x) : ∃ a b c d e f : Int, cs = [.int .i64 a, .int .i64 b, .int .i64 c, .int .i64 d, .int .i64 e, .int .i64 f] := by
  obtain ⟨hl, g, hg⟩ := read_struct hu h
  rw [hc] at hl
  obtain ⟨a, b, c, d, e, f, rfl⟩ := len6' hl
  have get : ∀ i, i < 6 → ∃ n, ([a, b, c, d, e, f].drop i).take 1 = [.int .i64 n] := fun i hi => by
    obtain ⟨fl, h1, h2, h3⟩ := hfs i hi
    obtain ⟨y, hy⟩ := hg i fl h1
    rw [h2, h3, c3] at hy
    obtain ⟨n, e, -⟩ := read_int u3 hy
    exact ⟨n, e⟩
  obtain ⟨n0, e0⟩ := get 0 (by omega)
  obtain ⟨n1, e1⟩ := get 1 (by omega)
  obtain ⟨n2, e2⟩ := get 2 (by omega)
  obtain ⟨n3, e3⟩ := get 3 (by omega)
  obtain ⟨n4, e4⟩ := get 4 (by omega)
  obtain ⟨n5, e5⟩ := get 5 (by omega)
  cases e0; cases e1; cases e2; cases e3; cases e4; cases e5
  exact ⟨_, _, _, _, _, _, rfl⟩
theorem open_hap {cs : List Value} {fuel : Nat} {x : DataW H × List MemPlace} (h : DataW.trod enc Try.prog w 0 sp held fuel 44 cs = some x) : ∃ y : Hp, cs = [.int .i64 y.kind, .int .i64 y.sup, .int .i64 y.req, .int .i64 y.day, .int .i64 y.amt] := by
  obtain ⟨hl, g, hg⟩ := read_struct Try.underlying44 h
  rw [c44] at hl
  obtain ⟨a, b, c, d, e, rfl⟩ := len5' hl
  obtain ⟨y0, h0⟩ : ∃ y, DataW.trod enc Try.prog w 0 sp held g 3 (([a, b, c, d, e].drop 0).take (Try.prog.cellsOf 3)) = some y := hg 0 _ rfl
  obtain ⟨y1, h1⟩ : ∃ y, DataW.trod enc Try.prog w 0 sp held g 3 (([a, b, c, d, e].drop 1).take (Try.prog.cellsOf 3)) = some y := hg 1 _ rfl
  obtain ⟨y2, h2⟩ : ∃ y, DataW.trod enc Try.prog w 0 sp held g 3 (([a, b, c, d, e].drop 2).take (Try.prog.cellsOf 3)) = some y := hg 2 _ rfl
  obtain ⟨y3, h3⟩ : ∃ y, DataW.trod enc Try.prog w 0 sp held g 3 (([a, b, c, d, e].drop 3).take (Try.prog.cellsOf 3)) = some y := hg 3 _ rfl
  obtain ⟨y4, h4⟩ : ∃ y, DataW.trod enc Try.prog w 0 sp held g 3 (([a, b, c, d, e].drop 4).take (Try.prog.cellsOf 3)) = some y := hg 4 _ rfl
  rw [c3] at h0 h1 h2 h3 h4
  obtain ⟨n0, e0, -⟩ := read_int u3 h0
  obtain ⟨n1, e1, -⟩ := read_int u3 h1
  obtain ⟨n2, e2, -⟩ := read_int u3 h2
  obtain ⟨n3, e3, -⟩ := read_int u3 h3
  obtain ⟨n4, e4, -⟩ := read_int u3 h4
  cases e0; cases e1; cases e2; cases e3; cases e4
  exact ⟨⟨n0, n1, n2, n3, n4⟩, rfl⟩
theorem open_book {cs : List Value} {fuel : Nat} {x : DataW H × List MemPlace} (h : DataW.trod enc Try.prog w 0 sp held fuel 27 cs = some x) : ∃ k : Bk, RBk (Bf.hp w) (.agg cs.toArray) k := by
  obtain ⟨hl, g, hg⟩ := read_struct Try.underlying27 h
  rw [c27] at hl
  obtain ⟨a, b, c, d, e, rfl⟩ := len5' hl
  obtain ⟨y0, h0⟩ : ∃ y, DataW.trod enc Try.prog w 0 sp held g 3 (([a, b, c, d, e].drop 0).take (Try.prog.cellsOf 3)) = some y := hg 0 _ rfl
  obtain ⟨y1, h1⟩ : ∃ y, DataW.trod enc Try.prog w 0 sp held g 22 (([a, b, c, d, e].drop 1).take (Try.prog.cellsOf 22)) = some y := hg 1 _ rfl
  obtain ⟨y2, h2⟩ : ∃ y, DataW.trod enc Try.prog w 0 sp held g 23 (([a, b, c, d, e].drop 2).take (Try.prog.cellsOf 23)) = some y := hg 2 _ rfl
  obtain ⟨y3, h3⟩ : ∃ y, DataW.trod enc Try.prog w 0 sp held g 24 (([a, b, c, d, e].drop 3).take (Try.prog.cellsOf 24)) = some y := hg 3 _ rfl
  obtain ⟨y4, h4⟩ : ∃ y, DataW.trod enc Try.prog w 0 sp held g 25 (([a, b, c, d, e].drop 4).take (Try.prog.cellsOf 25)) = some y := hg 4 _ rfl
  rw [c3] at h0
  rw [c22] at h1
  rw [c23] at h2
  rw [c24] at h3
  rw [c25] at h4
  obtain ⟨n0, e0, -⟩ := read_int u3 h0
  cases e0
  obtain ⟨sups, As, ca, rfl, hs⟩ := read_slOf (R := RSp) u22 c58 (by omega) (fun f cs y hl hy => by
    obtain ⟨a, b, c, d, e, f, rfl⟩ := open_six Try.underlying58 c58 (fun i hi => match i, hi with | 0, _ => ⟨_, rfl, rfl, rfl⟩ | 1, _ => ⟨_, rfl, rfl, rfl⟩ | 2, _ => ⟨_, rfl, rfl, rfl⟩ | 3, _ => ⟨_, rfl, rfl, rfl⟩ | 4, _ => ⟨_, rfl, rfl, rfl⟩ | 5, _ => ⟨_, rfl, rfl, rfl⟩) hy
    exact ⟨by intro u hu; simp at hu; rcases hu with rfl | rfl | rfl | rfl | rfl | rfl <;> rfl, ⟨a, b, c, d, e, f⟩, rfl⟩) h1
  obtain ⟨reqs, Ar, cr, rfl, hr⟩ := read_slOf (R := RRq) u23 c54 (by omega) (fun f cs y hl hy => by
    obtain ⟨a, b, c, d, e, f, rfl⟩ := open_six Try.underlying54 c54 (fun i hi => match i, hi with | 0, _ => ⟨_, rfl, rfl, rfl⟩ | 1, _ => ⟨_, rfl, rfl, rfl⟩ | 2, _ => ⟨_, rfl, rfl, rfl⟩ | 3, _ => ⟨_, rfl, rfl, rfl⟩ | 4, _ => ⟨_, rfl, rfl, rfl⟩ | 5, _ => ⟨_, rfl, rfl, rfl⟩) hy
    exact ⟨by intro u hu; simp at hu; rcases hu with rfl | rfl | rfl | rfl | rfl | rfl <;> rfl, ⟨a, b, c, d, e, f⟩, rfl⟩) h2
  obtain ⟨fits, Af, cf, rfl, hf⟩ := read_slOf (R := RRowB) u24 c60 (by omega) (fun f cs y hl hy => by
    obtain ⟨a, rfl⟩ := List.length_eq_one_iff.1 hl
    obtain ⟨l, A, c, rfl, hs⟩ := read_slOf (R := RBo) u60 c4 (by omega) (fun f cs y hl hy => by
      obtain ⟨b, rfl⟩ := read_bool u4 hy
      exact ⟨by intro u hu; simp at hu; subst hu; rfl, b, rfl⟩) hy
    exact ⟨by intro u hu; simp at hu; subst hu; rfl, l, A, c, rfl, hs⟩) h3
  obtain ⟨el, hel⟩ := u25
  obtain ⟨rd, Ad, cd, rfl⟩ : ∃ (rd : Nat) (Ad : Option Addr) (cd : Nat), e = .slice Ad rd cd := by
    rcases read_slice hel h4 with rfl | ⟨a, len, cap, f, rfl, -⟩
    · exact ⟨0, none, 0, rfl⟩
    · exact ⟨len, _, cap, rfl⟩
  exact ⟨⟨n0, sups, reqs, fits, rd⟩, As, ca, Ar, cr, Af, cf, Ad, cd, rfl, hs, hr, hf⟩
theorem arg_book (h : Arg enc Try.prog W base 27 v) : ∃ k, RBk (Bf.hp W) v k := by
  obtain ⟨k0, f0, x, g0⟩ := h
  unfold Value.okWide at k0
  rw [Try.underlying27] at k0
  obtain ⟨cs, rfl, -, -⟩ := k0
  obtain ⟨dk, hdk⟩ := open_book g0
  exact ⟨dk, by simpa [Value.cells] using hdk⟩
theorem arg_haps (h : Arg enc Try.prog W base 28 v) : ∃ (l : List Hp) (A : Option Addr) (c : Nat), v = .slice A l.length c ∧ SlOf 5 RHp (Bf.hp W) (.slice A l.length c) l := by
  obtain ⟨k0, f0, x, g0⟩ := h
  obtain ⟨A, len, cap, rfl⟩ := okWide_slice u28 k0
  exact read_slOf (R := RHp) u28 c44 (by omega) (fun f cs y hl hy => by
    obtain ⟨z, rfl⟩ := open_hap hy
    exact ⟨by intro u hu; simp at hu; rcases hu with rfl | rfl | rfl | rfl | rfl <;> rfl, z, rfl⟩) (by simpa [Value.cells] using g0)
end
theorem len3 {l : List Value} (h : l.length = 3) : ∃ a b c, l = [a, b, c] := by
  match l, h with
  | [a, b, c], _ => exact ⟨a, b, c, rfl⟩
theorem ownT' : ownKnob Try.checked.prog.godebug = none := by kernel_rfl
theorem laidT' : laidOutB Try.checked.prog = true := by kernel_rfl
end Go.Proofs.Ytgnipfjjkliibaa

/-
  Honour: the row of HonourSpec.
  Conditions: none.
-/
namespace Go.Proofs.Ytgnipfjjkliibaa
open Go Bf
open Go.ChangeShapes Go.WideShapes Go.ChangeAt Go.RowKit
set_option maxRecDepth 100000 in
theorem hspec_lifted (os : Os) (started : os.Started) (H : Type) (enc : TypeId × Value → H) :
    ReturnsInHanded {} Try.checked os 3 .any (Rows.honourSpecSpec.pre6 enc Try.prog Try.f3 Rows.honourSpecRow.domain false) (Rows.honourSpecSpec.post enc Try.prog Try.f3 false true false false) :=
  lift_true (C := Try.checked) (ts := [27, 28, 3]) (tb := 4) started ownT' (by kernel_rfl) Try.func3
    (ChangeSpec.witness6 (enc := enc) (C := Try.checked) false ⟨#[], #[.agg #[.int .i64 0, .slice none 0 0, .slice none 0 0, .slice none 0 0, .slice none 0 0], .slice none 0 0, .int .i64 0], []⟩ 8 (by kernel_rfl) (by kernel_rfl) (by kernel_rfl) (by kernel_rfl))
    (by rw [Try.params3]) laidT' (by kernel_rfl) rfl (fun ds h => match ds, h with | [_, _, _], _ => rfl) rfl Try.underlying4
    (fun W base vs hl ha => by
      obtain ⟨v0, v1, v2, rfl⟩ := len3 hl
      obtain ⟨k, hk⟩ := arg_book (ha 0 27 v0 rfl rfl)
      obtain ⟨l, A, c, rfl, hlp⟩ := arg_haps (ha 1 28 v1 rfl rfl)
      obtain ⟨d, rfl, hd1, hd2⟩ := arg_int (ha 2 3 v2 rfl rfl)
      exact hspec_fn _ v0 k hk A c l hlp d)
theorem honourSpec_holds : Rows.HonourSpecSaid :=
  OpenClaim.holds_of_wide 3 Try.f3 rfl rfl rfl rfl rfl rfl rfl ⟨rfl, rfl, rfl, rfl, rfl⟩ rfl rfl rfl rfl rfl (by kernel_rfl) Try.func3 (by kernel_rfl)
    (of_decide_eq_true (by kernel_rfl)) (by unfold Func.isWrapper; first | (rw [if_pos (by decide +kernel)]; kernel_rfl) | (rw [if_neg (by decide +kernel)]; exact ⟨rfl, rfl⟩))
    (fun os started H enc _ => hspec_lifted os started H enc)
end Go.Proofs.Ytgnipfjjkliibaa

